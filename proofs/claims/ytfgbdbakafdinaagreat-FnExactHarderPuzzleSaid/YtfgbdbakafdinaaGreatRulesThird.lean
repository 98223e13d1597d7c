import Derived.Test.YtfgbdbakafdinaaGreatRulesFirst
import Derived.Test.YtfgbdbakafdinaaGreatPlain
import Derived.Test.YtfgbdbakafdinaaGreatRulesSecond

section
set_option maxRecDepth 100000
set_option linter.unusedSimpArgs false
set_option linter.unusedVariables false
namespace Go.Ev.Z
open Go Go.Ev
theorem t59 : T 59 = some (.code m59) := rfl
theorem p59 (w h : Int) : Pure T 59 [.int .i64 w, .int .i64 h] (.bool (inP w 1 6 && inP h 1 6)) := by
  rw [Pure_of t59]
  (try simp only [EVa, EVb, params, nilOk, bound, awayFrom, evM, fillA, setEls, Opd.ev, Fr.get, prune, Option.map, isB, tB, nB, isG, gT, gF, evRes, mapO, one, Nat.reduceAdd, Nat.reduceLeDiff, Nat.reduceEqDiff, Nat.reduceMul, Nat.reduceSub, Nat.reduceLT, Nat.reduceBEq, reduceCtorEq, ↓reduceIte, Int.reduceToNat, Int.reduceLE, Int.reduceLT, Int.reduceEq, Int.reduceAdd, Int.reduceSub, Int.reduceMul, List.reduceReplicate, m59r0, m59r1, m59, k60] <;> (try (first | refine WP_split (by simp only [EVa, EVb, params, nilOk, bound, awayFrom, evM, fillA, setEls, Opd.ev, Fr.get, prune, Option.map, isB, tB, nB, isG, gT, gF, evRes, mapO, one, Nat.reduceAdd, Nat.reduceLeDiff, Nat.reduceEqDiff, Nat.reduceMul, Nat.reduceSub, Nat.reduceLT, Nat.reduceBEq, reduceCtorEq, ↓reduceIte, Int.reduceToNat, Int.reduceLE, Int.reduceLT, Int.reduceEq, Int.reduceAdd, Int.reduceSub, Int.reduceMul, List.reduceReplicate]) (fun hc1 => ?_) (fun hc1 => ?_) | refine WS_split (by simp only [EVa, EVb, params, nilOk, bound, awayFrom, evM, fillA, setEls, Opd.ev, Fr.get, prune, Option.map, isB, tB, nB, isG, gT, gF, evRes, mapO, one, Nat.reduceAdd, Nat.reduceLeDiff, Nat.reduceEqDiff, Nat.reduceMul, Nat.reduceSub, Nat.reduceLT, Nat.reduceBEq, reduceCtorEq, ↓reduceIte, Int.reduceToNat, Int.reduceLE, Int.reduceLT, Int.reduceEq, Int.reduceAdd, Int.reduceSub, Int.reduceMul, List.reduceReplicate]) (fun hc1 => ?_) (fun hc1 => ?_)) <;> try simp only [EVa, EVb, params, nilOk, bound, awayFrom, evM, fillA, setEls, Opd.ev, Fr.get, prune, Option.map, isB, tB, nB, isG, gT, gF, evRes, mapO, one, Nat.reduceAdd, Nat.reduceLeDiff, Nat.reduceEqDiff, Nat.reduceMul, Nat.reduceSub, Nat.reduceLT, Nat.reduceBEq, reduceCtorEq, ↓reduceIte, Int.reduceToNat, Int.reduceLE, Int.reduceLT, Int.reduceEq, Int.reduceAdd, Int.reduceSub, Int.reduceMul, List.reduceReplicate] at hc1 <;> (try simp only [EVa, EVb, params, nilOk, bound, awayFrom, evM, fillA, setEls, Opd.ev, Fr.get, prune, Option.map, isB, tB, nB, isG, gT, gF, evRes, mapO, one, Nat.reduceAdd, Nat.reduceLeDiff, Nat.reduceEqDiff, Nat.reduceMul, Nat.reduceSub, Nat.reduceLT, Nat.reduceBEq, reduceCtorEq, ↓reduceIte, Int.reduceToNat, Int.reduceLE, Int.reduceLT, Int.reduceEq, Int.reduceAdd, Int.reduceSub, Int.reduceMul, List.reduceReplicate, m59r0, m59r1, m59, k60, hc1] <;> (try (first | refine WP_split (by simp only [EVa, EVb, params, nilOk, bound, awayFrom, evM, fillA, setEls, Opd.ev, Fr.get, prune, Option.map, isB, tB, nB, isG, gT, gF, evRes, mapO, one, Nat.reduceAdd, Nat.reduceLeDiff, Nat.reduceEqDiff, Nat.reduceMul, Nat.reduceSub, Nat.reduceLT, Nat.reduceBEq, reduceCtorEq, ↓reduceIte, Int.reduceToNat, Int.reduceLE, Int.reduceLT, Int.reduceEq, Int.reduceAdd, Int.reduceSub, Int.reduceMul, List.reduceReplicate]) (fun hc2 => ?_) (fun hc2 => ?_) | refine WS_split (by simp only [EVa, EVb, params, nilOk, bound, awayFrom, evM, fillA, setEls, Opd.ev, Fr.get, prune, Option.map, isB, tB, nB, isG, gT, gF, evRes, mapO, one, Nat.reduceAdd, Nat.reduceLeDiff, Nat.reduceEqDiff, Nat.reduceMul, Nat.reduceSub, Nat.reduceLT, Nat.reduceBEq, reduceCtorEq, ↓reduceIte, Int.reduceToNat, Int.reduceLE, Int.reduceLT, Int.reduceEq, Int.reduceAdd, Int.reduceSub, Int.reduceMul, List.reduceReplicate]) (fun hc2 => ?_) (fun hc2 => ?_)) <;> try simp only [EVa, EVb, params, nilOk, bound, awayFrom, evM, fillA, setEls, Opd.ev, Fr.get, prune, Option.map, isB, tB, nB, isG, gT, gF, evRes, mapO, one, Nat.reduceAdd, Nat.reduceLeDiff, Nat.reduceEqDiff, Nat.reduceMul, Nat.reduceSub, Nat.reduceLT, Nat.reduceBEq, reduceCtorEq, ↓reduceIte, Int.reduceToNat, Int.reduceLE, Int.reduceLT, Int.reduceEq, Int.reduceAdd, Int.reduceSub, Int.reduceMul, List.reduceReplicate] at hc2 <;> (try simp only [EVa, EVb, params, nilOk, bound, awayFrom, evM, fillA, setEls, Opd.ev, Fr.get, prune, Option.map, isB, tB, nB, isG, gT, gF, evRes, mapO, one, Nat.reduceAdd, Nat.reduceLeDiff, Nat.reduceEqDiff, Nat.reduceMul, Nat.reduceSub, Nat.reduceLT, Nat.reduceBEq, reduceCtorEq, ↓reduceIte, Int.reduceToNat, Int.reduceLE, Int.reduceLT, Int.reduceEq, Int.reduceAdd, Int.reduceSub, Int.reduceMul, List.reduceReplicate, m59r0, m59r1, m59, k60, hc1, hc2]))))) <;> simp_all
theorem k59 (w h : Int) {d : Option Nat} {os : List MOp} {live : List Nat} {S : List KF} {Q : FQ} {fr : Fr} {A : Heap} : WCR T .ro 59 [.int .i64 w, .int .i64 h] d os live S Q fr A ↔ WP T os live S Q (putd d (.bool (inP w 1 6 && inP h 1 6)) fr) A := (p59 w h).call (by simp only [mapO, depth_is, bo_agg, bo_int, bo_bool, bo_str, bo_lst, bo_lS, bo_rp, bo_fn])
theorem t72 : T 72 = some (.code m72) := rfl
theorem p72 (w h : Int) : Pure T 72 [.int .i64 w, .int .i64 h] (.bool (inP w 1 6 && inP h 1 6)) := by
  rw [Pure_of t72]
  (try simp only [EVa, EVb, params, nilOk, bound, awayFrom, evM, fillA, setEls, Opd.ev, Fr.get, prune, Option.map, isB, tB, nB, isG, gT, gF, evRes, mapO, one, Nat.reduceAdd, Nat.reduceLeDiff, Nat.reduceEqDiff, Nat.reduceMul, Nat.reduceSub, Nat.reduceLT, Nat.reduceBEq, reduceCtorEq, ↓reduceIte, Int.reduceToNat, Int.reduceLE, Int.reduceLT, Int.reduceEq, Int.reduceAdd, Int.reduceSub, Int.reduceMul, List.reduceReplicate, m72r0, m72r1, m72, k73] <;> (try (first | refine WP_split (by simp only [EVa, EVb, params, nilOk, bound, awayFrom, evM, fillA, setEls, Opd.ev, Fr.get, prune, Option.map, isB, tB, nB, isG, gT, gF, evRes, mapO, one, Nat.reduceAdd, Nat.reduceLeDiff, Nat.reduceEqDiff, Nat.reduceMul, Nat.reduceSub, Nat.reduceLT, Nat.reduceBEq, reduceCtorEq, ↓reduceIte, Int.reduceToNat, Int.reduceLE, Int.reduceLT, Int.reduceEq, Int.reduceAdd, Int.reduceSub, Int.reduceMul, List.reduceReplicate]) (fun hc1 => ?_) (fun hc1 => ?_) | refine WS_split (by simp only [EVa, EVb, params, nilOk, bound, awayFrom, evM, fillA, setEls, Opd.ev, Fr.get, prune, Option.map, isB, tB, nB, isG, gT, gF, evRes, mapO, one, Nat.reduceAdd, Nat.reduceLeDiff, Nat.reduceEqDiff, Nat.reduceMul, Nat.reduceSub, Nat.reduceLT, Nat.reduceBEq, reduceCtorEq, ↓reduceIte, Int.reduceToNat, Int.reduceLE, Int.reduceLT, Int.reduceEq, Int.reduceAdd, Int.reduceSub, Int.reduceMul, List.reduceReplicate]) (fun hc1 => ?_) (fun hc1 => ?_)) <;> try simp only [EVa, EVb, params, nilOk, bound, awayFrom, evM, fillA, setEls, Opd.ev, Fr.get, prune, Option.map, isB, tB, nB, isG, gT, gF, evRes, mapO, one, Nat.reduceAdd, Nat.reduceLeDiff, Nat.reduceEqDiff, Nat.reduceMul, Nat.reduceSub, Nat.reduceLT, Nat.reduceBEq, reduceCtorEq, ↓reduceIte, Int.reduceToNat, Int.reduceLE, Int.reduceLT, Int.reduceEq, Int.reduceAdd, Int.reduceSub, Int.reduceMul, List.reduceReplicate] at hc1 <;> (try simp only [EVa, EVb, params, nilOk, bound, awayFrom, evM, fillA, setEls, Opd.ev, Fr.get, prune, Option.map, isB, tB, nB, isG, gT, gF, evRes, mapO, one, Nat.reduceAdd, Nat.reduceLeDiff, Nat.reduceEqDiff, Nat.reduceMul, Nat.reduceSub, Nat.reduceLT, Nat.reduceBEq, reduceCtorEq, ↓reduceIte, Int.reduceToNat, Int.reduceLE, Int.reduceLT, Int.reduceEq, Int.reduceAdd, Int.reduceSub, Int.reduceMul, List.reduceReplicate, m72r0, m72r1, m72, k73, hc1] <;> (try (first | refine WP_split (by simp only [EVa, EVb, params, nilOk, bound, awayFrom, evM, fillA, setEls, Opd.ev, Fr.get, prune, Option.map, isB, tB, nB, isG, gT, gF, evRes, mapO, one, Nat.reduceAdd, Nat.reduceLeDiff, Nat.reduceEqDiff, Nat.reduceMul, Nat.reduceSub, Nat.reduceLT, Nat.reduceBEq, reduceCtorEq, ↓reduceIte, Int.reduceToNat, Int.reduceLE, Int.reduceLT, Int.reduceEq, Int.reduceAdd, Int.reduceSub, Int.reduceMul, List.reduceReplicate]) (fun hc2 => ?_) (fun hc2 => ?_) | refine WS_split (by simp only [EVa, EVb, params, nilOk, bound, awayFrom, evM, fillA, setEls, Opd.ev, Fr.get, prune, Option.map, isB, tB, nB, isG, gT, gF, evRes, mapO, one, Nat.reduceAdd, Nat.reduceLeDiff, Nat.reduceEqDiff, Nat.reduceMul, Nat.reduceSub, Nat.reduceLT, Nat.reduceBEq, reduceCtorEq, ↓reduceIte, Int.reduceToNat, Int.reduceLE, Int.reduceLT, Int.reduceEq, Int.reduceAdd, Int.reduceSub, Int.reduceMul, List.reduceReplicate]) (fun hc2 => ?_) (fun hc2 => ?_)) <;> try simp only [EVa, EVb, params, nilOk, bound, awayFrom, evM, fillA, setEls, Opd.ev, Fr.get, prune, Option.map, isB, tB, nB, isG, gT, gF, evRes, mapO, one, Nat.reduceAdd, Nat.reduceLeDiff, Nat.reduceEqDiff, Nat.reduceMul, Nat.reduceSub, Nat.reduceLT, Nat.reduceBEq, reduceCtorEq, ↓reduceIte, Int.reduceToNat, Int.reduceLE, Int.reduceLT, Int.reduceEq, Int.reduceAdd, Int.reduceSub, Int.reduceMul, List.reduceReplicate] at hc2 <;> (try simp only [EVa, EVb, params, nilOk, bound, awayFrom, evM, fillA, setEls, Opd.ev, Fr.get, prune, Option.map, isB, tB, nB, isG, gT, gF, evRes, mapO, one, Nat.reduceAdd, Nat.reduceLeDiff, Nat.reduceEqDiff, Nat.reduceMul, Nat.reduceSub, Nat.reduceLT, Nat.reduceBEq, reduceCtorEq, ↓reduceIte, Int.reduceToNat, Int.reduceLE, Int.reduceLT, Int.reduceEq, Int.reduceAdd, Int.reduceSub, Int.reduceMul, List.reduceReplicate, m72r0, m72r1, m72, k73, hc1, hc2]))))) <;> simp_all
theorem k72 (w h : Int) {d : Option Nat} {os : List MOp} {live : List Nat} {S : List KF} {Q : FQ} {fr : Fr} {A : Heap} : WCR T .ro 72 [.int .i64 w, .int .i64 h] d os live S Q fr A ↔ WP T os live S Q (putd d (.bool (inP w 1 6 && inP h 1 6)) fr) A := (p72 w h).call (by simp only [mapO, depth_is, bo_agg, bo_int, bo_bool, bo_str, bo_lst, bo_lS, bo_rp, bo_fn])
theorem wh_wrap {w h : Int} (hc : (inP w 1 6 && inP h 1 6) = true) : IntKind.i64.wrap (w * h) = w * h := by
  simp only [inP, Bool.and_eq_true, decide_eq_true_eq] at hc
  have h1 := Int.mul_le_mul hc.1.1 hc.2.1 (by omega) (by omega)
  have h2 := Int.mul_le_mul hc.1.2 hc.2.2 (by omega) (by omega)
  exact wrap_in _ (by omega) (by omega)
theorem t41 : T 41 = some (.code m41) := rfl
theorem p41 (w h : Int) : Pure T 41 [.int .i64 w, .int .i64 h] (.bool (hidP w h)) := by
  rw [Pure_of t41]
  by_cases hc : (inP w 1 6 && inP h 1 6) = true
  · have hw := wh_wrap hc
    simp only [Bool.and_eq_true] at hc
    simp only [m41r0, m41r1, m41, EVa, EVb, params, nilOk, bound, awayFrom, evM, fillA, setEls, Opd.ev, Fr.get, prune, Option.map, isB, tB, nB, isG, gT, gF, evRes, mapO, one, Nat.reduceAdd, Nat.reduceLeDiff, Nat.reduceEqDiff, Nat.reduceMul, Nat.reduceSub, Nat.reduceLT, Nat.reduceBEq, reduceCtorEq, ↓reduceIte, Int.reduceToNat, Int.reduceLE, Int.reduceLT, Int.reduceEq, Int.reduceAdd, Int.reduceSub, Int.reduceMul, List.reduceReplicate, k59, hw, hc.1, hc.2, hidP]
  · have hc' : (inP w 1 6 && inP h 1 6) = false := by simpa using hc
    simp only [m41r0, m41r1, m41, EVa, EVb, params, nilOk, bound, awayFrom, evM, fillA, setEls, Opd.ev, Fr.get, prune, Option.map, isB, tB, nB, isG, gT, gF, evRes, mapO, one, Nat.reduceAdd, Nat.reduceLeDiff, Nat.reduceEqDiff, Nat.reduceMul, Nat.reduceSub, Nat.reduceLT, Nat.reduceBEq, reduceCtorEq, ↓reduceIte, Int.reduceToNat, Int.reduceLE, Int.reduceLT, Int.reduceEq, Int.reduceAdd, Int.reduceSub, Int.reduceMul, List.reduceReplicate, k59, hc', hidP]
theorem k41 (w h : Int) {d : Option Nat} {os : List MOp} {live : List Nat} {S : List KF} {Q : FQ} {fr : Fr} {A : Heap} : WCR T .ro 41 [.int .i64 w, .int .i64 h] d os live S Q fr A ↔ WP T os live S Q (putd d (.bool (hidP w h)) fr) A := (p41 w h).call (by simp only [mapO, depth_is, bo_agg, bo_int, bo_bool, bo_str, bo_lst, bo_lS, bo_rp, bo_fn])
theorem t56 : T 56 = some (.code m56) := rfl
theorem p56 (w h : Int) : Pure T 56 [.int .i64 w, .int .i64 h] (.bool (hidP w h)) := by
  rw [Pure_of t56]
  by_cases hc : (inP w 1 6 && inP h 1 6) = true
  · have hw := wh_wrap hc
    simp only [Bool.and_eq_true] at hc
    simp only [m56r0, m56r1, m56, EVa, EVb, params, nilOk, bound, awayFrom, evM, fillA, setEls, Opd.ev, Fr.get, prune, Option.map, isB, tB, nB, isG, gT, gF, evRes, mapO, one, Nat.reduceAdd, Nat.reduceLeDiff, Nat.reduceEqDiff, Nat.reduceMul, Nat.reduceSub, Nat.reduceLT, Nat.reduceBEq, reduceCtorEq, ↓reduceIte, Int.reduceToNat, Int.reduceLE, Int.reduceLT, Int.reduceEq, Int.reduceAdd, Int.reduceSub, Int.reduceMul, List.reduceReplicate, k72, hw, hc.1, hc.2, hidP]
  · have hc' : (inP w 1 6 && inP h 1 6) = false := by simpa using hc
    simp only [m56r0, m56r1, m56, EVa, EVb, params, nilOk, bound, awayFrom, evM, fillA, setEls, Opd.ev, Fr.get, prune, Option.map, isB, tB, nB, isG, gT, gF, evRes, mapO, one, Nat.reduceAdd, Nat.reduceLeDiff, Nat.reduceEqDiff, Nat.reduceMul, Nat.reduceSub, Nat.reduceLT, Nat.reduceBEq, reduceCtorEq, ↓reduceIte, Int.reduceToNat, Int.reduceLE, Int.reduceLT, Int.reduceEq, Int.reduceAdd, Int.reduceSub, Int.reduceMul, List.reduceReplicate, k72, hc', hidP]
theorem k56 (w h : Int) {d : Option Nat} {os : List MOp} {live : List Nat} {S : List KF} {Q : FQ} {fr : Fr} {A : Heap} : WCR T .ro 56 [.int .i64 w, .int .i64 h] d os live S Q fr A ↔ WP T os live S Q (putd d (.bool (hidP w h)) fr) A := (p56 w h).call (by simp only [mapO, depth_is, bo_agg, bo_int, bo_bool, bo_str, bo_lst, bo_lS, bo_rp, bo_fn])
theorem t42 : T 42 = some (.code m42) := rfl
theorem p42 (w h k a b : Int) (hh : hidP w h = true) : Pure T 42 [.int .i64 w, .int .i64 h, .agg [.int .i64 k, .int .i64 a, .int .i64 b]] (.bool (clueP w h ⟨k, a, b⟩)) := by
  rw [Pure_of t42]
  have hb := hidP_bd hh
  have w1 := wrap_in (w * h) (by omega) (by omega)
  have w2 := wrap_in (w * h - 1) (by omega) (by omega)
  (try simp only [EVa, EVb, params, nilOk, bound, awayFrom, evM, fillA, setEls, Opd.ev, Fr.get, prune, Option.map, isB, tB, nB, isG, gT, gF, evRes, mapO, one, Nat.reduceAdd, Nat.reduceLeDiff, Nat.reduceEqDiff, Nat.reduceMul, Nat.reduceSub, Nat.reduceLT, Nat.reduceBEq, reduceCtorEq, ↓reduceIte, Int.reduceToNat, Int.reduceLE, Int.reduceLT, Int.reduceEq, Int.reduceAdd, Int.reduceSub, Int.reduceMul, List.reduceReplicate, m42r0, m42r1, m42r2, m42r3, m42r4, m42r5, m42r6, m42r7, m42r8, m42r9, m42r10, m42r11, m42r12, m42r13, m42r14, m42, k60, w1, w2] <;> (try (first | refine WP_split (by simp only [EVa, EVb, params, nilOk, bound, awayFrom, evM, fillA, setEls, Opd.ev, Fr.get, prune, Option.map, isB, tB, nB, isG, gT, gF, evRes, mapO, one, Nat.reduceAdd, Nat.reduceLeDiff, Nat.reduceEqDiff, Nat.reduceMul, Nat.reduceSub, Nat.reduceLT, Nat.reduceBEq, reduceCtorEq, ↓reduceIte, Int.reduceToNat, Int.reduceLE, Int.reduceLT, Int.reduceEq, Int.reduceAdd, Int.reduceSub, Int.reduceMul, List.reduceReplicate]) (fun hc1 => ?_) (fun hc1 => ?_) | refine WS_split (by simp only [EVa, EVb, params, nilOk, bound, awayFrom, evM, fillA, setEls, Opd.ev, Fr.get, prune, Option.map, isB, tB, nB, isG, gT, gF, evRes, mapO, one, Nat.reduceAdd, Nat.reduceLeDiff, Nat.reduceEqDiff, Nat.reduceMul, Nat.reduceSub, Nat.reduceLT, Nat.reduceBEq, reduceCtorEq, ↓reduceIte, Int.reduceToNat, Int.reduceLE, Int.reduceLT, Int.reduceEq, Int.reduceAdd, Int.reduceSub, Int.reduceMul, List.reduceReplicate]) (fun hc1 => ?_) (fun hc1 => ?_)) <;> try simp only [EVa, EVb, params, nilOk, bound, awayFrom, evM, fillA, setEls, Opd.ev, Fr.get, prune, Option.map, isB, tB, nB, isG, gT, gF, evRes, mapO, one, Nat.reduceAdd, Nat.reduceLeDiff, Nat.reduceEqDiff, Nat.reduceMul, Nat.reduceSub, Nat.reduceLT, Nat.reduceBEq, reduceCtorEq, ↓reduceIte, Int.reduceToNat, Int.reduceLE, Int.reduceLT, Int.reduceEq, Int.reduceAdd, Int.reduceSub, Int.reduceMul, List.reduceReplicate] at hc1 <;> (try simp only [EVa, EVb, params, nilOk, bound, awayFrom, evM, fillA, setEls, Opd.ev, Fr.get, prune, Option.map, isB, tB, nB, isG, gT, gF, evRes, mapO, one, Nat.reduceAdd, Nat.reduceLeDiff, Nat.reduceEqDiff, Nat.reduceMul, Nat.reduceSub, Nat.reduceLT, Nat.reduceBEq, reduceCtorEq, ↓reduceIte, Int.reduceToNat, Int.reduceLE, Int.reduceLT, Int.reduceEq, Int.reduceAdd, Int.reduceSub, Int.reduceMul, List.reduceReplicate, m42r0, m42r1, m42r2, m42r3, m42r4, m42r5, m42r6, m42r7, m42r8, m42r9, m42r10, m42r11, m42r12, m42r13, m42r14, m42, k60, w1, w2, hc1] <;> (try (first | refine WP_split (by simp only [EVa, EVb, params, nilOk, bound, awayFrom, evM, fillA, setEls, Opd.ev, Fr.get, prune, Option.map, isB, tB, nB, isG, gT, gF, evRes, mapO, one, Nat.reduceAdd, Nat.reduceLeDiff, Nat.reduceEqDiff, Nat.reduceMul, Nat.reduceSub, Nat.reduceLT, Nat.reduceBEq, reduceCtorEq, ↓reduceIte, Int.reduceToNat, Int.reduceLE, Int.reduceLT, Int.reduceEq, Int.reduceAdd, Int.reduceSub, Int.reduceMul, List.reduceReplicate]) (fun hc2 => ?_) (fun hc2 => ?_) | refine WS_split (by simp only [EVa, EVb, params, nilOk, bound, awayFrom, evM, fillA, setEls, Opd.ev, Fr.get, prune, Option.map, isB, tB, nB, isG, gT, gF, evRes, mapO, one, Nat.reduceAdd, Nat.reduceLeDiff, Nat.reduceEqDiff, Nat.reduceMul, Nat.reduceSub, Nat.reduceLT, Nat.reduceBEq, reduceCtorEq, ↓reduceIte, Int.reduceToNat, Int.reduceLE, Int.reduceLT, Int.reduceEq, Int.reduceAdd, Int.reduceSub, Int.reduceMul, List.reduceReplicate]) (fun hc2 => ?_) (fun hc2 => ?_)) <;> try simp only [EVa, EVb, params, nilOk, bound, awayFrom, evM, fillA, setEls, Opd.ev, Fr.get, prune, Option.map, isB, tB, nB, isG, gT, gF, evRes, mapO, one, Nat.reduceAdd, Nat.reduceLeDiff, Nat.reduceEqDiff, Nat.reduceMul, Nat.reduceSub, Nat.reduceLT, Nat.reduceBEq, reduceCtorEq, ↓reduceIte, Int.reduceToNat, Int.reduceLE, Int.reduceLT, Int.reduceEq, Int.reduceAdd, Int.reduceSub, Int.reduceMul, List.reduceReplicate] at hc2 <;> (try simp only [EVa, EVb, params, nilOk, bound, awayFrom, evM, fillA, setEls, Opd.ev, Fr.get, prune, Option.map, isB, tB, nB, isG, gT, gF, evRes, mapO, one, Nat.reduceAdd, Nat.reduceLeDiff, Nat.reduceEqDiff, Nat.reduceMul, Nat.reduceSub, Nat.reduceLT, Nat.reduceBEq, reduceCtorEq, ↓reduceIte, Int.reduceToNat, Int.reduceLE, Int.reduceLT, Int.reduceEq, Int.reduceAdd, Int.reduceSub, Int.reduceMul, List.reduceReplicate, m42r0, m42r1, m42r2, m42r3, m42r4, m42r5, m42r6, m42r7, m42r8, m42r9, m42r10, m42r11, m42r12, m42r13, m42r14, m42, k60, w1, w2, hc1, hc2] <;> (try (first | refine WP_split (by simp only [EVa, EVb, params, nilOk, bound, awayFrom, evM, fillA, setEls, Opd.ev, Fr.get, prune, Option.map, isB, tB, nB, isG, gT, gF, evRes, mapO, one, Nat.reduceAdd, Nat.reduceLeDiff, Nat.reduceEqDiff, Nat.reduceMul, Nat.reduceSub, Nat.reduceLT, Nat.reduceBEq, reduceCtorEq, ↓reduceIte, Int.reduceToNat, Int.reduceLE, Int.reduceLT, Int.reduceEq, Int.reduceAdd, Int.reduceSub, Int.reduceMul, List.reduceReplicate]) (fun hc3 => ?_) (fun hc3 => ?_) | refine WS_split (by simp only [EVa, EVb, params, nilOk, bound, awayFrom, evM, fillA, setEls, Opd.ev, Fr.get, prune, Option.map, isB, tB, nB, isG, gT, gF, evRes, mapO, one, Nat.reduceAdd, Nat.reduceLeDiff, Nat.reduceEqDiff, Nat.reduceMul, Nat.reduceSub, Nat.reduceLT, Nat.reduceBEq, reduceCtorEq, ↓reduceIte, Int.reduceToNat, Int.reduceLE, Int.reduceLT, Int.reduceEq, Int.reduceAdd, Int.reduceSub, Int.reduceMul, List.reduceReplicate]) (fun hc3 => ?_) (fun hc3 => ?_)) <;> try simp only [EVa, EVb, params, nilOk, bound, awayFrom, evM, fillA, setEls, Opd.ev, Fr.get, prune, Option.map, isB, tB, nB, isG, gT, gF, evRes, mapO, one, Nat.reduceAdd, Nat.reduceLeDiff, Nat.reduceEqDiff, Nat.reduceMul, Nat.reduceSub, Nat.reduceLT, Nat.reduceBEq, reduceCtorEq, ↓reduceIte, Int.reduceToNat, Int.reduceLE, Int.reduceLT, Int.reduceEq, Int.reduceAdd, Int.reduceSub, Int.reduceMul, List.reduceReplicate] at hc3 <;> (try simp only [EVa, EVb, params, nilOk, bound, awayFrom, evM, fillA, setEls, Opd.ev, Fr.get, prune, Option.map, isB, tB, nB, isG, gT, gF, evRes, mapO, one, Nat.reduceAdd, Nat.reduceLeDiff, Nat.reduceEqDiff, Nat.reduceMul, Nat.reduceSub, Nat.reduceLT, Nat.reduceBEq, reduceCtorEq, ↓reduceIte, Int.reduceToNat, Int.reduceLE, Int.reduceLT, Int.reduceEq, Int.reduceAdd, Int.reduceSub, Int.reduceMul, List.reduceReplicate, m42r0, m42r1, m42r2, m42r3, m42r4, m42r5, m42r6, m42r7, m42r8, m42r9, m42r10, m42r11, m42r12, m42r13, m42r14, m42, k60, w1, w2, hc1, hc2, hc3] <;> (try (first | refine WP_split (by simp only [EVa, EVb, params, nilOk, bound, awayFrom, evM, fillA, setEls, Opd.ev, Fr.get, prune, Option.map, isB, tB, nB, isG, gT, gF, evRes, mapO, one, Nat.reduceAdd, Nat.reduceLeDiff, Nat.reduceEqDiff, Nat.reduceMul, Nat.reduceSub, Nat.reduceLT, Nat.reduceBEq, reduceCtorEq, ↓reduceIte, Int.reduceToNat, Int.reduceLE, Int.reduceLT, Int.reduceEq, Int.reduceAdd, Int.reduceSub, Int.reduceMul, List.reduceReplicate]) (fun hc4 => ?_) (fun hc4 => ?_) | refine WS_split (by simp only [EVa, EVb, params, nilOk, bound, awayFrom, evM, fillA, setEls, Opd.ev, Fr.get, prune, Option.map, isB, tB, nB, isG, gT, gF, evRes, mapO, one, Nat.reduceAdd, Nat.reduceLeDiff, Nat.reduceEqDiff, Nat.reduceMul, Nat.reduceSub, Nat.reduceLT, Nat.reduceBEq, reduceCtorEq, ↓reduceIte, Int.reduceToNat, Int.reduceLE, Int.reduceLT, Int.reduceEq, Int.reduceAdd, Int.reduceSub, Int.reduceMul, List.reduceReplicate]) (fun hc4 => ?_) (fun hc4 => ?_)) <;> try simp only [EVa, EVb, params, nilOk, bound, awayFrom, evM, fillA, setEls, Opd.ev, Fr.get, prune, Option.map, isB, tB, nB, isG, gT, gF, evRes, mapO, one, Nat.reduceAdd, Nat.reduceLeDiff, Nat.reduceEqDiff, Nat.reduceMul, Nat.reduceSub, Nat.reduceLT, Nat.reduceBEq, reduceCtorEq, ↓reduceIte, Int.reduceToNat, Int.reduceLE, Int.reduceLT, Int.reduceEq, Int.reduceAdd, Int.reduceSub, Int.reduceMul, List.reduceReplicate] at hc4 <;> (try simp only [EVa, EVb, params, nilOk, bound, awayFrom, evM, fillA, setEls, Opd.ev, Fr.get, prune, Option.map, isB, tB, nB, isG, gT, gF, evRes, mapO, one, Nat.reduceAdd, Nat.reduceLeDiff, Nat.reduceEqDiff, Nat.reduceMul, Nat.reduceSub, Nat.reduceLT, Nat.reduceBEq, reduceCtorEq, ↓reduceIte, Int.reduceToNat, Int.reduceLE, Int.reduceLT, Int.reduceEq, Int.reduceAdd, Int.reduceSub, Int.reduceMul, List.reduceReplicate, m42r0, m42r1, m42r2, m42r3, m42r4, m42r5, m42r6, m42r7, m42r8, m42r9, m42r10, m42r11, m42r12, m42r13, m42r14, m42, k60, w1, w2, hc1, hc2, hc3, hc4] <;> (try (first | refine WP_split (by simp only [EVa, EVb, params, nilOk, bound, awayFrom, evM, fillA, setEls, Opd.ev, Fr.get, prune, Option.map, isB, tB, nB, isG, gT, gF, evRes, mapO, one, Nat.reduceAdd, Nat.reduceLeDiff, Nat.reduceEqDiff, Nat.reduceMul, Nat.reduceSub, Nat.reduceLT, Nat.reduceBEq, reduceCtorEq, ↓reduceIte, Int.reduceToNat, Int.reduceLE, Int.reduceLT, Int.reduceEq, Int.reduceAdd, Int.reduceSub, Int.reduceMul, List.reduceReplicate]) (fun hc5 => ?_) (fun hc5 => ?_) | refine WS_split (by simp only [EVa, EVb, params, nilOk, bound, awayFrom, evM, fillA, setEls, Opd.ev, Fr.get, prune, Option.map, isB, tB, nB, isG, gT, gF, evRes, mapO, one, Nat.reduceAdd, Nat.reduceLeDiff, Nat.reduceEqDiff, Nat.reduceMul, Nat.reduceSub, Nat.reduceLT, Nat.reduceBEq, reduceCtorEq, ↓reduceIte, Int.reduceToNat, Int.reduceLE, Int.reduceLT, Int.reduceEq, Int.reduceAdd, Int.reduceSub, Int.reduceMul, List.reduceReplicate]) (fun hc5 => ?_) (fun hc5 => ?_)) <;> try simp only [EVa, EVb, params, nilOk, bound, awayFrom, evM, fillA, setEls, Opd.ev, Fr.get, prune, Option.map, isB, tB, nB, isG, gT, gF, evRes, mapO, one, Nat.reduceAdd, Nat.reduceLeDiff, Nat.reduceEqDiff, Nat.reduceMul, Nat.reduceSub, Nat.reduceLT, Nat.reduceBEq, reduceCtorEq, ↓reduceIte, Int.reduceToNat, Int.reduceLE, Int.reduceLT, Int.reduceEq, Int.reduceAdd, Int.reduceSub, Int.reduceMul, List.reduceReplicate] at hc5 <;> (try simp only [EVa, EVb, params, nilOk, bound, awayFrom, evM, fillA, setEls, Opd.ev, Fr.get, prune, Option.map, isB, tB, nB, isG, gT, gF, evRes, mapO, one, Nat.reduceAdd, Nat.reduceLeDiff, Nat.reduceEqDiff, Nat.reduceMul, Nat.reduceSub, Nat.reduceLT, Nat.reduceBEq, reduceCtorEq, ↓reduceIte, Int.reduceToNat, Int.reduceLE, Int.reduceLT, Int.reduceEq, Int.reduceAdd, Int.reduceSub, Int.reduceMul, List.reduceReplicate, m42r0, m42r1, m42r2, m42r3, m42r4, m42r5, m42r6, m42r7, m42r8, m42r9, m42r10, m42r11, m42r12, m42r13, m42r14, m42, k60, w1, w2, hc1, hc2, hc3, hc4, hc5] <;> (try (first | refine WP_split (by simp only [EVa, EVb, params, nilOk, bound, awayFrom, evM, fillA, setEls, Opd.ev, Fr.get, prune, Option.map, isB, tB, nB, isG, gT, gF, evRes, mapO, one, Nat.reduceAdd, Nat.reduceLeDiff, Nat.reduceEqDiff, Nat.reduceMul, Nat.reduceSub, Nat.reduceLT, Nat.reduceBEq, reduceCtorEq, ↓reduceIte, Int.reduceToNat, Int.reduceLE, Int.reduceLT, Int.reduceEq, Int.reduceAdd, Int.reduceSub, Int.reduceMul, List.reduceReplicate]) (fun hc6 => ?_) (fun hc6 => ?_) | refine WS_split (by simp only [EVa, EVb, params, nilOk, bound, awayFrom, evM, fillA, setEls, Opd.ev, Fr.get, prune, Option.map, isB, tB, nB, isG, gT, gF, evRes, mapO, one, Nat.reduceAdd, Nat.reduceLeDiff, Nat.reduceEqDiff, Nat.reduceMul, Nat.reduceSub, Nat.reduceLT, Nat.reduceBEq, reduceCtorEq, ↓reduceIte, Int.reduceToNat, Int.reduceLE, Int.reduceLT, Int.reduceEq, Int.reduceAdd, Int.reduceSub, Int.reduceMul, List.reduceReplicate]) (fun hc6 => ?_) (fun hc6 => ?_)) <;> try simp only [EVa, EVb, params, nilOk, bound, awayFrom, evM, fillA, setEls, Opd.ev, Fr.get, prune, Option.map, isB, tB, nB, isG, gT, gF, evRes, mapO, one, Nat.reduceAdd, Nat.reduceLeDiff, Nat.reduceEqDiff, Nat.reduceMul, Nat.reduceSub, Nat.reduceLT, Nat.reduceBEq, reduceCtorEq, ↓reduceIte, Int.reduceToNat, Int.reduceLE, Int.reduceLT, Int.reduceEq, Int.reduceAdd, Int.reduceSub, Int.reduceMul, List.reduceReplicate] at hc6 <;> (try simp only [EVa, EVb, params, nilOk, bound, awayFrom, evM, fillA, setEls, Opd.ev, Fr.get, prune, Option.map, isB, tB, nB, isG, gT, gF, evRes, mapO, one, Nat.reduceAdd, Nat.reduceLeDiff, Nat.reduceEqDiff, Nat.reduceMul, Nat.reduceSub, Nat.reduceLT, Nat.reduceBEq, reduceCtorEq, ↓reduceIte, Int.reduceToNat, Int.reduceLE, Int.reduceLT, Int.reduceEq, Int.reduceAdd, Int.reduceSub, Int.reduceMul, List.reduceReplicate, m42r0, m42r1, m42r2, m42r3, m42r4, m42r5, m42r6, m42r7, m42r8, m42r9, m42r10, m42r11, m42r12, m42r13, m42r14, m42, k60, w1, w2, hc1, hc2, hc3, hc4, hc5, hc6] <;> (try (first | refine WP_split (by simp only [EVa, EVb, params, nilOk, bound, awayFrom, evM, fillA, setEls, Opd.ev, Fr.get, prune, Option.map, isB, tB, nB, isG, gT, gF, evRes, mapO, one, Nat.reduceAdd, Nat.reduceLeDiff, Nat.reduceEqDiff, Nat.reduceMul, Nat.reduceSub, Nat.reduceLT, Nat.reduceBEq, reduceCtorEq, ↓reduceIte, Int.reduceToNat, Int.reduceLE, Int.reduceLT, Int.reduceEq, Int.reduceAdd, Int.reduceSub, Int.reduceMul, List.reduceReplicate]) (fun hc7 => ?_) (fun hc7 => ?_) | refine WS_split (by simp only [EVa, EVb, params, nilOk, bound, awayFrom, evM, fillA, setEls, Opd.ev, Fr.get, prune, Option.map, isB, tB, nB, isG, gT, gF, evRes, mapO, one, Nat.reduceAdd, Nat.reduceLeDiff, Nat.reduceEqDiff, Nat.reduceMul, Nat.reduceSub, Nat.reduceLT, Nat.reduceBEq, reduceCtorEq, ↓reduceIte, Int.reduceToNat, Int.reduceLE, Int.reduceLT, Int.reduceEq, Int.reduceAdd, Int.reduceSub, Int.reduceMul, List.reduceReplicate]) (fun hc7 => ?_) (fun hc7 => ?_)) <;> try simp only [EVa, EVb, params, nilOk, bound, awayFrom, evM, fillA, setEls, Opd.ev, Fr.get, prune, Option.map, isB, tB, nB, isG, gT, gF, evRes, mapO, one, Nat.reduceAdd, Nat.reduceLeDiff, Nat.reduceEqDiff, Nat.reduceMul, Nat.reduceSub, Nat.reduceLT, Nat.reduceBEq, reduceCtorEq, ↓reduceIte, Int.reduceToNat, Int.reduceLE, Int.reduceLT, Int.reduceEq, Int.reduceAdd, Int.reduceSub, Int.reduceMul, List.reduceReplicate] at hc7 <;> (try simp only [EVa, EVb, params, nilOk, bound, awayFrom, evM, fillA, setEls, Opd.ev, Fr.get, prune, Option.map, isB, tB, nB, isG, gT, gF, evRes, mapO, one, Nat.reduceAdd, Nat.reduceLeDiff, Nat.reduceEqDiff, Nat.reduceMul, Nat.reduceSub, Nat.reduceLT, Nat.reduceBEq, reduceCtorEq, ↓reduceIte, Int.reduceToNat, Int.reduceLE, Int.reduceLT, Int.reduceEq, Int.reduceAdd, Int.reduceSub, Int.reduceMul, List.reduceReplicate, m42r0, m42r1, m42r2, m42r3, m42r4, m42r5, m42r6, m42r7, m42r8, m42r9, m42r10, m42r11, m42r12, m42r13, m42r14, m42, k60, w1, w2, hc1, hc2, hc3, hc4, hc5, hc6, hc7] <;> (try (first | refine WP_split (by simp only [EVa, EVb, params, nilOk, bound, awayFrom, evM, fillA, setEls, Opd.ev, Fr.get, prune, Option.map, isB, tB, nB, isG, gT, gF, evRes, mapO, one, Nat.reduceAdd, Nat.reduceLeDiff, Nat.reduceEqDiff, Nat.reduceMul, Nat.reduceSub, Nat.reduceLT, Nat.reduceBEq, reduceCtorEq, ↓reduceIte, Int.reduceToNat, Int.reduceLE, Int.reduceLT, Int.reduceEq, Int.reduceAdd, Int.reduceSub, Int.reduceMul, List.reduceReplicate]) (fun hc8 => ?_) (fun hc8 => ?_) | refine WS_split (by simp only [EVa, EVb, params, nilOk, bound, awayFrom, evM, fillA, setEls, Opd.ev, Fr.get, prune, Option.map, isB, tB, nB, isG, gT, gF, evRes, mapO, one, Nat.reduceAdd, Nat.reduceLeDiff, Nat.reduceEqDiff, Nat.reduceMul, Nat.reduceSub, Nat.reduceLT, Nat.reduceBEq, reduceCtorEq, ↓reduceIte, Int.reduceToNat, Int.reduceLE, Int.reduceLT, Int.reduceEq, Int.reduceAdd, Int.reduceSub, Int.reduceMul, List.reduceReplicate]) (fun hc8 => ?_) (fun hc8 => ?_)) <;> try simp only [EVa, EVb, params, nilOk, bound, awayFrom, evM, fillA, setEls, Opd.ev, Fr.get, prune, Option.map, isB, tB, nB, isG, gT, gF, evRes, mapO, one, Nat.reduceAdd, Nat.reduceLeDiff, Nat.reduceEqDiff, Nat.reduceMul, Nat.reduceSub, Nat.reduceLT, Nat.reduceBEq, reduceCtorEq, ↓reduceIte, Int.reduceToNat, Int.reduceLE, Int.reduceLT, Int.reduceEq, Int.reduceAdd, Int.reduceSub, Int.reduceMul, List.reduceReplicate] at hc8 <;> (try simp only [EVa, EVb, params, nilOk, bound, awayFrom, evM, fillA, setEls, Opd.ev, Fr.get, prune, Option.map, isB, tB, nB, isG, gT, gF, evRes, mapO, one, Nat.reduceAdd, Nat.reduceLeDiff, Nat.reduceEqDiff, Nat.reduceMul, Nat.reduceSub, Nat.reduceLT, Nat.reduceBEq, reduceCtorEq, ↓reduceIte, Int.reduceToNat, Int.reduceLE, Int.reduceLT, Int.reduceEq, Int.reduceAdd, Int.reduceSub, Int.reduceMul, List.reduceReplicate, m42r0, m42r1, m42r2, m42r3, m42r4, m42r5, m42r6, m42r7, m42r8, m42r9, m42r10, m42r11, m42r12, m42r13, m42r14, m42, k60, w1, w2, hc1, hc2, hc3, hc4, hc5, hc6, hc7, hc8]))))))))))))))))) <;> simp_all [clueP]
theorem k42 (w h k a b : Int) (hh : hidP w h = true) {d : Option Nat} {os : List MOp} {live : List Nat} {S : List KF} {Q : FQ} {fr : Fr} {A : Heap} : WCR T .ro 42 [.int .i64 w, .int .i64 h, .agg [.int .i64 k, .int .i64 a, .int .i64 b]] d os live S Q fr A ↔ WP T os live S Q (putd d (.bool (clueP w h ⟨k, a, b⟩)) fr) A := (p42 w h k a b hh).call (by simp only [mapO, depth_is, bo_agg, bo_int, bo_bool, bo_str, bo_lst, bo_lS, bo_rp, bo_fn])
theorem t58 : T 58 = some (.code m58) := rfl
theorem p58 (w h k a b : Int) : Pure T 58 [.int .i64 w, .int .i64 h, .agg [.int .i64 k, .int .i64 a, .int .i64 b]] (.bool (hidP w h && clueP w h ⟨k, a, b⟩)) := by
  rw [Pure_of t58]
  by_cases hh : hidP w h = true
  · have hb := hidP_bd hh
    have w1 := wrap_in (w * h) (by omega) (by omega)
    have w2 := wrap_in (w * h - 1) (by omega) (by omega)
    (try simp only [EVa, EVb, params, nilOk, bound, awayFrom, evM, fillA, setEls, Opd.ev, Fr.get, prune, Option.map, isB, tB, nB, isG, gT, gF, evRes, mapO, one, Nat.reduceAdd, Nat.reduceLeDiff, Nat.reduceEqDiff, Nat.reduceMul, Nat.reduceSub, Nat.reduceLT, Nat.reduceBEq, reduceCtorEq, ↓reduceIte, Int.reduceToNat, Int.reduceLE, Int.reduceLT, Int.reduceEq, Int.reduceAdd, Int.reduceSub, Int.reduceMul, List.reduceReplicate, m58r0, m58r1, m58r2, m58r3, m58r4, m58r5, m58r6, m58r7, m58r8, m58r9, m58r10, m58r11, m58r12, m58r13, m58r14, m58r15, m58r16, m58r17, m58, k73, k56, hh, w1, w2] <;> (try (first | refine WP_split (by simp only [EVa, EVb, params, nilOk, bound, awayFrom, evM, fillA, setEls, Opd.ev, Fr.get, prune, Option.map, isB, tB, nB, isG, gT, gF, evRes, mapO, one, Nat.reduceAdd, Nat.reduceLeDiff, Nat.reduceEqDiff, Nat.reduceMul, Nat.reduceSub, Nat.reduceLT, Nat.reduceBEq, reduceCtorEq, ↓reduceIte, Int.reduceToNat, Int.reduceLE, Int.reduceLT, Int.reduceEq, Int.reduceAdd, Int.reduceSub, Int.reduceMul, List.reduceReplicate]) (fun hc1 => ?_) (fun hc1 => ?_) | refine WS_split (by simp only [EVa, EVb, params, nilOk, bound, awayFrom, evM, fillA, setEls, Opd.ev, Fr.get, prune, Option.map, isB, tB, nB, isG, gT, gF, evRes, mapO, one, Nat.reduceAdd, Nat.reduceLeDiff, Nat.reduceEqDiff, Nat.reduceMul, Nat.reduceSub, Nat.reduceLT, Nat.reduceBEq, reduceCtorEq, ↓reduceIte, Int.reduceToNat, Int.reduceLE, Int.reduceLT, Int.reduceEq, Int.reduceAdd, Int.reduceSub, Int.reduceMul, List.reduceReplicate]) (fun hc1 => ?_) (fun hc1 => ?_)) <;> try simp only [EVa, EVb, params, nilOk, bound, awayFrom, evM, fillA, setEls, Opd.ev, Fr.get, prune, Option.map, isB, tB, nB, isG, gT, gF, evRes, mapO, one, Nat.reduceAdd, Nat.reduceLeDiff, Nat.reduceEqDiff, Nat.reduceMul, Nat.reduceSub, Nat.reduceLT, Nat.reduceBEq, reduceCtorEq, ↓reduceIte, Int.reduceToNat, Int.reduceLE, Int.reduceLT, Int.reduceEq, Int.reduceAdd, Int.reduceSub, Int.reduceMul, List.reduceReplicate] at hc1 <;> (try simp only [EVa, EVb, params, nilOk, bound, awayFrom, evM, fillA, setEls, Opd.ev, Fr.get, prune, Option.map, isB, tB, nB, isG, gT, gF, evRes, mapO, one, Nat.reduceAdd, Nat.reduceLeDiff, Nat.reduceEqDiff, Nat.reduceMul, Nat.reduceSub, Nat.reduceLT, Nat.reduceBEq, reduceCtorEq, ↓reduceIte, Int.reduceToNat, Int.reduceLE, Int.reduceLT, Int.reduceEq, Int.reduceAdd, Int.reduceSub, Int.reduceMul, List.reduceReplicate, m58r0, m58r1, m58r2, m58r3, m58r4, m58r5, m58r6, m58r7, m58r8, m58r9, m58r10, m58r11, m58r12, m58r13, m58r14, m58r15, m58r16, m58r17, m58, k73, k56, hh, w1, w2, hc1] <;> (try (first | refine WP_split (by simp only [EVa, EVb, params, nilOk, bound, awayFrom, evM, fillA, setEls, Opd.ev, Fr.get, prune, Option.map, isB, tB, nB, isG, gT, gF, evRes, mapO, one, Nat.reduceAdd, Nat.reduceLeDiff, Nat.reduceEqDiff, Nat.reduceMul, Nat.reduceSub, Nat.reduceLT, Nat.reduceBEq, reduceCtorEq, ↓reduceIte, Int.reduceToNat, Int.reduceLE, Int.reduceLT, Int.reduceEq, Int.reduceAdd, Int.reduceSub, Int.reduceMul, List.reduceReplicate]) (fun hc2 => ?_) (fun hc2 => ?_) | refine WS_split (by simp only [EVa, EVb, params, nilOk, bound, awayFrom, evM, fillA, setEls, Opd.ev, Fr.get, prune, Option.map, isB, tB, nB, isG, gT, gF, evRes, mapO, one, Nat.reduceAdd, Nat.reduceLeDiff, Nat.reduceEqDiff, Nat.reduceMul, Nat.reduceSub, Nat.reduceLT, Nat.reduceBEq, reduceCtorEq, ↓reduceIte, Int.reduceToNat, Int.reduceLE, Int.reduceLT, Int.reduceEq, Int.reduceAdd, Int.reduceSub, Int.reduceMul, List.reduceReplicate]) (fun hc2 => ?_) (fun hc2 => ?_)) <;> try simp only [EVa, EVb, params, nilOk, bound, awayFrom, evM, fillA, setEls, Opd.ev, Fr.get, prune, Option.map, isB, tB, nB, isG, gT, gF, evRes, mapO, one, Nat.reduceAdd, Nat.reduceLeDiff, Nat.reduceEqDiff, Nat.reduceMul, Nat.reduceSub, Nat.reduceLT, Nat.reduceBEq, reduceCtorEq, ↓reduceIte, Int.reduceToNat, Int.reduceLE, Int.reduceLT, Int.reduceEq, Int.reduceAdd, Int.reduceSub, Int.reduceMul, List.reduceReplicate] at hc2 <;> (try simp only [EVa, EVb, params, nilOk, bound, awayFrom, evM, fillA, setEls, Opd.ev, Fr.get, prune, Option.map, isB, tB, nB, isG, gT, gF, evRes, mapO, one, Nat.reduceAdd, Nat.reduceLeDiff, Nat.reduceEqDiff, Nat.reduceMul, Nat.reduceSub, Nat.reduceLT, Nat.reduceBEq, reduceCtorEq, ↓reduceIte, Int.reduceToNat, Int.reduceLE, Int.reduceLT, Int.reduceEq, Int.reduceAdd, Int.reduceSub, Int.reduceMul, List.reduceReplicate, m58r0, m58r1, m58r2, m58r3, m58r4, m58r5, m58r6, m58r7, m58r8, m58r9, m58r10, m58r11, m58r12, m58r13, m58r14, m58r15, m58r16, m58r17, m58, k73, k56, hh, w1, w2, hc1, hc2] <;> (try (first | refine WP_split (by simp only [EVa, EVb, params, nilOk, bound, awayFrom, evM, fillA, setEls, Opd.ev, Fr.get, prune, Option.map, isB, tB, nB, isG, gT, gF, evRes, mapO, one, Nat.reduceAdd, Nat.reduceLeDiff, Nat.reduceEqDiff, Nat.reduceMul, Nat.reduceSub, Nat.reduceLT, Nat.reduceBEq, reduceCtorEq, ↓reduceIte, Int.reduceToNat, Int.reduceLE, Int.reduceLT, Int.reduceEq, Int.reduceAdd, Int.reduceSub, Int.reduceMul, List.reduceReplicate]) (fun hc3 => ?_) (fun hc3 => ?_) | refine WS_split (by simp only [EVa, EVb, params, nilOk, bound, awayFrom, evM, fillA, setEls, Opd.ev, Fr.get, prune, Option.map, isB, tB, nB, isG, gT, gF, evRes, mapO, one, Nat.reduceAdd, Nat.reduceLeDiff, Nat.reduceEqDiff, Nat.reduceMul, Nat.reduceSub, Nat.reduceLT, Nat.reduceBEq, reduceCtorEq, ↓reduceIte, Int.reduceToNat, Int.reduceLE, Int.reduceLT, Int.reduceEq, Int.reduceAdd, Int.reduceSub, Int.reduceMul, List.reduceReplicate]) (fun hc3 => ?_) (fun hc3 => ?_)) <;> try simp only [EVa, EVb, params, nilOk, bound, awayFrom, evM, fillA, setEls, Opd.ev, Fr.get, prune, Option.map, isB, tB, nB, isG, gT, gF, evRes, mapO, one, Nat.reduceAdd, Nat.reduceLeDiff, Nat.reduceEqDiff, Nat.reduceMul, Nat.reduceSub, Nat.reduceLT, Nat.reduceBEq, reduceCtorEq, ↓reduceIte, Int.reduceToNat, Int.reduceLE, Int.reduceLT, Int.reduceEq, Int.reduceAdd, Int.reduceSub, Int.reduceMul, List.reduceReplicate] at hc3 <;> (try simp only [EVa, EVb, params, nilOk, bound, awayFrom, evM, fillA, setEls, Opd.ev, Fr.get, prune, Option.map, isB, tB, nB, isG, gT, gF, evRes, mapO, one, Nat.reduceAdd, Nat.reduceLeDiff, Nat.reduceEqDiff, Nat.reduceMul, Nat.reduceSub, Nat.reduceLT, Nat.reduceBEq, reduceCtorEq, ↓reduceIte, Int.reduceToNat, Int.reduceLE, Int.reduceLT, Int.reduceEq, Int.reduceAdd, Int.reduceSub, Int.reduceMul, List.reduceReplicate, m58r0, m58r1, m58r2, m58r3, m58r4, m58r5, m58r6, m58r7, m58r8, m58r9, m58r10, m58r11, m58r12, m58r13, m58r14, m58r15, m58r16, m58r17, m58, k73, k56, hh, w1, w2, hc1, hc2, hc3] <;> (try (first | refine WP_split (by simp only [EVa, EVb, params, nilOk, bound, awayFrom, evM, fillA, setEls, Opd.ev, Fr.get, prune, Option.map, isB, tB, nB, isG, gT, gF, evRes, mapO, one, Nat.reduceAdd, Nat.reduceLeDiff, Nat.reduceEqDiff, Nat.reduceMul, Nat.reduceSub, Nat.reduceLT, Nat.reduceBEq, reduceCtorEq, ↓reduceIte, Int.reduceToNat, Int.reduceLE, Int.reduceLT, Int.reduceEq, Int.reduceAdd, Int.reduceSub, Int.reduceMul, List.reduceReplicate]) (fun hc4 => ?_) (fun hc4 => ?_) | refine WS_split (by simp only [EVa, EVb, params, nilOk, bound, awayFrom, evM, fillA, setEls, Opd.ev, Fr.get, prune, Option.map, isB, tB, nB, isG, gT, gF, evRes, mapO, one, Nat.reduceAdd, Nat.reduceLeDiff, Nat.reduceEqDiff, Nat.reduceMul, Nat.reduceSub, Nat.reduceLT, Nat.reduceBEq, reduceCtorEq, ↓reduceIte, Int.reduceToNat, Int.reduceLE, Int.reduceLT, Int.reduceEq, Int.reduceAdd, Int.reduceSub, Int.reduceMul, List.reduceReplicate]) (fun hc4 => ?_) (fun hc4 => ?_)) <;> try simp only [EVa, EVb, params, nilOk, bound, awayFrom, evM, fillA, setEls, Opd.ev, Fr.get, prune, Option.map, isB, tB, nB, isG, gT, gF, evRes, mapO, one, Nat.reduceAdd, Nat.reduceLeDiff, Nat.reduceEqDiff, Nat.reduceMul, Nat.reduceSub, Nat.reduceLT, Nat.reduceBEq, reduceCtorEq, ↓reduceIte, Int.reduceToNat, Int.reduceLE, Int.reduceLT, Int.reduceEq, Int.reduceAdd, Int.reduceSub, Int.reduceMul, List.reduceReplicate] at hc4 <;> (try simp only [EVa, EVb, params, nilOk, bound, awayFrom, evM, fillA, setEls, Opd.ev, Fr.get, prune, Option.map, isB, tB, nB, isG, gT, gF, evRes, mapO, one, Nat.reduceAdd, Nat.reduceLeDiff, Nat.reduceEqDiff, Nat.reduceMul, Nat.reduceSub, Nat.reduceLT, Nat.reduceBEq, reduceCtorEq, ↓reduceIte, Int.reduceToNat, Int.reduceLE, Int.reduceLT, Int.reduceEq, Int.reduceAdd, Int.reduceSub, Int.reduceMul, List.reduceReplicate, m58r0, m58r1, m58r2, m58r3, m58r4, m58r5, m58r6, m58r7, m58r8, m58r9, m58r10, m58r11, m58r12, m58r13, m58r14, m58r15, m58r16, m58r17, m58, k73, k56, hh, w1, w2, hc1, hc2, hc3, hc4] <;> (try (first | refine WP_split (by simp only [EVa, EVb, params, nilOk, bound, awayFrom, evM, fillA, setEls, Opd.ev, Fr.get, prune, Option.map, isB, tB, nB, isG, gT, gF, evRes, mapO, one, Nat.reduceAdd, Nat.reduceLeDiff, Nat.reduceEqDiff, Nat.reduceMul, Nat.reduceSub, Nat.reduceLT, Nat.reduceBEq, reduceCtorEq, ↓reduceIte, Int.reduceToNat, Int.reduceLE, Int.reduceLT, Int.reduceEq, Int.reduceAdd, Int.reduceSub, Int.reduceMul, List.reduceReplicate]) (fun hc5 => ?_) (fun hc5 => ?_) | refine WS_split (by simp only [EVa, EVb, params, nilOk, bound, awayFrom, evM, fillA, setEls, Opd.ev, Fr.get, prune, Option.map, isB, tB, nB, isG, gT, gF, evRes, mapO, one, Nat.reduceAdd, Nat.reduceLeDiff, Nat.reduceEqDiff, Nat.reduceMul, Nat.reduceSub, Nat.reduceLT, Nat.reduceBEq, reduceCtorEq, ↓reduceIte, Int.reduceToNat, Int.reduceLE, Int.reduceLT, Int.reduceEq, Int.reduceAdd, Int.reduceSub, Int.reduceMul, List.reduceReplicate]) (fun hc5 => ?_) (fun hc5 => ?_)) <;> try simp only [EVa, EVb, params, nilOk, bound, awayFrom, evM, fillA, setEls, Opd.ev, Fr.get, prune, Option.map, isB, tB, nB, isG, gT, gF, evRes, mapO, one, Nat.reduceAdd, Nat.reduceLeDiff, Nat.reduceEqDiff, Nat.reduceMul, Nat.reduceSub, Nat.reduceLT, Nat.reduceBEq, reduceCtorEq, ↓reduceIte, Int.reduceToNat, Int.reduceLE, Int.reduceLT, Int.reduceEq, Int.reduceAdd, Int.reduceSub, Int.reduceMul, List.reduceReplicate] at hc5 <;> (try simp only [EVa, EVb, params, nilOk, bound, awayFrom, evM, fillA, setEls, Opd.ev, Fr.get, prune, Option.map, isB, tB, nB, isG, gT, gF, evRes, mapO, one, Nat.reduceAdd, Nat.reduceLeDiff, Nat.reduceEqDiff, Nat.reduceMul, Nat.reduceSub, Nat.reduceLT, Nat.reduceBEq, reduceCtorEq, ↓reduceIte, Int.reduceToNat, Int.reduceLE, Int.reduceLT, Int.reduceEq, Int.reduceAdd, Int.reduceSub, Int.reduceMul, List.reduceReplicate, m58r0, m58r1, m58r2, m58r3, m58r4, m58r5, m58r6, m58r7, m58r8, m58r9, m58r10, m58r11, m58r12, m58r13, m58r14, m58r15, m58r16, m58r17, m58, k73, k56, hh, w1, w2, hc1, hc2, hc3, hc4, hc5] <;> (try (first | refine WP_split (by simp only [EVa, EVb, params, nilOk, bound, awayFrom, evM, fillA, setEls, Opd.ev, Fr.get, prune, Option.map, isB, tB, nB, isG, gT, gF, evRes, mapO, one, Nat.reduceAdd, Nat.reduceLeDiff, Nat.reduceEqDiff, Nat.reduceMul, Nat.reduceSub, Nat.reduceLT, Nat.reduceBEq, reduceCtorEq, ↓reduceIte, Int.reduceToNat, Int.reduceLE, Int.reduceLT, Int.reduceEq, Int.reduceAdd, Int.reduceSub, Int.reduceMul, List.reduceReplicate]) (fun hc6 => ?_) (fun hc6 => ?_) | refine WS_split (by simp only [EVa, EVb, params, nilOk, bound, awayFrom, evM, fillA, setEls, Opd.ev, Fr.get, prune, Option.map, isB, tB, nB, isG, gT, gF, evRes, mapO, one, Nat.reduceAdd, Nat.reduceLeDiff, Nat.reduceEqDiff, Nat.reduceMul, Nat.reduceSub, Nat.reduceLT, Nat.reduceBEq, reduceCtorEq, ↓reduceIte, Int.reduceToNat, Int.reduceLE, Int.reduceLT, Int.reduceEq, Int.reduceAdd, Int.reduceSub, Int.reduceMul, List.reduceReplicate]) (fun hc6 => ?_) (fun hc6 => ?_)) <;> try simp only [EVa, EVb, params, nilOk, bound, awayFrom, evM, fillA, setEls, Opd.ev, Fr.get, prune, Option.map, isB, tB, nB, isG, gT, gF, evRes, mapO, one, Nat.reduceAdd, Nat.reduceLeDiff, Nat.reduceEqDiff, Nat.reduceMul, Nat.reduceSub, Nat.reduceLT, Nat.reduceBEq, reduceCtorEq, ↓reduceIte, Int.reduceToNat, Int.reduceLE, Int.reduceLT, Int.reduceEq, Int.reduceAdd, Int.reduceSub, Int.reduceMul, List.reduceReplicate] at hc6 <;> (try simp only [EVa, EVb, params, nilOk, bound, awayFrom, evM, fillA, setEls, Opd.ev, Fr.get, prune, Option.map, isB, tB, nB, isG, gT, gF, evRes, mapO, one, Nat.reduceAdd, Nat.reduceLeDiff, Nat.reduceEqDiff, Nat.reduceMul, Nat.reduceSub, Nat.reduceLT, Nat.reduceBEq, reduceCtorEq, ↓reduceIte, Int.reduceToNat, Int.reduceLE, Int.reduceLT, Int.reduceEq, Int.reduceAdd, Int.reduceSub, Int.reduceMul, List.reduceReplicate, m58r0, m58r1, m58r2, m58r3, m58r4, m58r5, m58r6, m58r7, m58r8, m58r9, m58r10, m58r11, m58r12, m58r13, m58r14, m58r15, m58r16, m58r17, m58, k73, k56, hh, w1, w2, hc1, hc2, hc3, hc4, hc5, hc6] <;> (try (first | refine WP_split (by simp only [EVa, EVb, params, nilOk, bound, awayFrom, evM, fillA, setEls, Opd.ev, Fr.get, prune, Option.map, isB, tB, nB, isG, gT, gF, evRes, mapO, one, Nat.reduceAdd, Nat.reduceLeDiff, Nat.reduceEqDiff, Nat.reduceMul, Nat.reduceSub, Nat.reduceLT, Nat.reduceBEq, reduceCtorEq, ↓reduceIte, Int.reduceToNat, Int.reduceLE, Int.reduceLT, Int.reduceEq, Int.reduceAdd, Int.reduceSub, Int.reduceMul, List.reduceReplicate]) (fun hc7 => ?_) (fun hc7 => ?_) | refine WS_split (by simp only [EVa, EVb, params, nilOk, bound, awayFrom, evM, fillA, setEls, Opd.ev, Fr.get, prune, Option.map, isB, tB, nB, isG, gT, gF, evRes, mapO, one, Nat.reduceAdd, Nat.reduceLeDiff, Nat.reduceEqDiff, Nat.reduceMul, Nat.reduceSub, Nat.reduceLT, Nat.reduceBEq, reduceCtorEq, ↓reduceIte, Int.reduceToNat, Int.reduceLE, Int.reduceLT, Int.reduceEq, Int.reduceAdd, Int.reduceSub, Int.reduceMul, List.reduceReplicate]) (fun hc7 => ?_) (fun hc7 => ?_)) <;> try simp only [EVa, EVb, params, nilOk, bound, awayFrom, evM, fillA, setEls, Opd.ev, Fr.get, prune, Option.map, isB, tB, nB, isG, gT, gF, evRes, mapO, one, Nat.reduceAdd, Nat.reduceLeDiff, Nat.reduceEqDiff, Nat.reduceMul, Nat.reduceSub, Nat.reduceLT, Nat.reduceBEq, reduceCtorEq, ↓reduceIte, Int.reduceToNat, Int.reduceLE, Int.reduceLT, Int.reduceEq, Int.reduceAdd, Int.reduceSub, Int.reduceMul, List.reduceReplicate] at hc7 <;> (try simp only [EVa, EVb, params, nilOk, bound, awayFrom, evM, fillA, setEls, Opd.ev, Fr.get, prune, Option.map, isB, tB, nB, isG, gT, gF, evRes, mapO, one, Nat.reduceAdd, Nat.reduceLeDiff, Nat.reduceEqDiff, Nat.reduceMul, Nat.reduceSub, Nat.reduceLT, Nat.reduceBEq, reduceCtorEq, ↓reduceIte, Int.reduceToNat, Int.reduceLE, Int.reduceLT, Int.reduceEq, Int.reduceAdd, Int.reduceSub, Int.reduceMul, List.reduceReplicate, m58r0, m58r1, m58r2, m58r3, m58r4, m58r5, m58r6, m58r7, m58r8, m58r9, m58r10, m58r11, m58r12, m58r13, m58r14, m58r15, m58r16, m58r17, m58, k73, k56, hh, w1, w2, hc1, hc2, hc3, hc4, hc5, hc6, hc7] <;> (try (first | refine WP_split (by simp only [EVa, EVb, params, nilOk, bound, awayFrom, evM, fillA, setEls, Opd.ev, Fr.get, prune, Option.map, isB, tB, nB, isG, gT, gF, evRes, mapO, one, Nat.reduceAdd, Nat.reduceLeDiff, Nat.reduceEqDiff, Nat.reduceMul, Nat.reduceSub, Nat.reduceLT, Nat.reduceBEq, reduceCtorEq, ↓reduceIte, Int.reduceToNat, Int.reduceLE, Int.reduceLT, Int.reduceEq, Int.reduceAdd, Int.reduceSub, Int.reduceMul, List.reduceReplicate]) (fun hc8 => ?_) (fun hc8 => ?_) | refine WS_split (by simp only [EVa, EVb, params, nilOk, bound, awayFrom, evM, fillA, setEls, Opd.ev, Fr.get, prune, Option.map, isB, tB, nB, isG, gT, gF, evRes, mapO, one, Nat.reduceAdd, Nat.reduceLeDiff, Nat.reduceEqDiff, Nat.reduceMul, Nat.reduceSub, Nat.reduceLT, Nat.reduceBEq, reduceCtorEq, ↓reduceIte, Int.reduceToNat, Int.reduceLE, Int.reduceLT, Int.reduceEq, Int.reduceAdd, Int.reduceSub, Int.reduceMul, List.reduceReplicate]) (fun hc8 => ?_) (fun hc8 => ?_)) <;> try simp only [EVa, EVb, params, nilOk, bound, awayFrom, evM, fillA, setEls, Opd.ev, Fr.get, prune, Option.map, isB, tB, nB, isG, gT, gF, evRes, mapO, one, Nat.reduceAdd, Nat.reduceLeDiff, Nat.reduceEqDiff, Nat.reduceMul, Nat.reduceSub, Nat.reduceLT, Nat.reduceBEq, reduceCtorEq, ↓reduceIte, Int.reduceToNat, Int.reduceLE, Int.reduceLT, Int.reduceEq, Int.reduceAdd, Int.reduceSub, Int.reduceMul, List.reduceReplicate] at hc8 <;> (try simp only [EVa, EVb, params, nilOk, bound, awayFrom, evM, fillA, setEls, Opd.ev, Fr.get, prune, Option.map, isB, tB, nB, isG, gT, gF, evRes, mapO, one, Nat.reduceAdd, Nat.reduceLeDiff, Nat.reduceEqDiff, Nat.reduceMul, Nat.reduceSub, Nat.reduceLT, Nat.reduceBEq, reduceCtorEq, ↓reduceIte, Int.reduceToNat, Int.reduceLE, Int.reduceLT, Int.reduceEq, Int.reduceAdd, Int.reduceSub, Int.reduceMul, List.reduceReplicate, m58r0, m58r1, m58r2, m58r3, m58r4, m58r5, m58r6, m58r7, m58r8, m58r9, m58r10, m58r11, m58r12, m58r13, m58r14, m58r15, m58r16, m58r17, m58, k73, k56, hh, w1, w2, hc1, hc2, hc3, hc4, hc5, hc6, hc7, hc8]))))))))))))))))) <;> simp_all [clueP]
  · have hh' : hidP w h = false := by simpa using hh
    simp only [m58r0, m58r1, m58r2, m58r3, m58r4, m58r5, m58r6, m58r7, m58r8, m58r9, m58r10, m58r11, m58r12, m58r13, m58r14, m58r15, m58r16, m58r17, m58, EVa, EVb, params, nilOk, bound, awayFrom, evM, fillA, setEls, Opd.ev, Fr.get, prune, Option.map, isB, tB, nB, isG, gT, gF, evRes, mapO, one, Nat.reduceAdd, Nat.reduceLeDiff, Nat.reduceEqDiff, Nat.reduceMul, Nat.reduceSub, Nat.reduceLT, Nat.reduceBEq, reduceCtorEq, ↓reduceIte, Int.reduceToNat, Int.reduceLE, Int.reduceLT, Int.reduceEq, Int.reduceAdd, Int.reduceSub, Int.reduceMul, List.reduceReplicate, k56, hh']
theorem k58 (w h k a b : Int) {d : Option Nat} {os : List MOp} {live : List Nat} {S : List KF} {Q : FQ} {fr : Fr} {A : Heap} : WCR T .ro 58 [.int .i64 w, .int .i64 h, .agg [.int .i64 k, .int .i64 a, .int .i64 b]] d os live S Q fr A ↔ WP T os live S Q (putd d (.bool (hidP w h && clueP w h ⟨k, a, b⟩)) fr) A := (p58 w h k a b).call (by simp only [mapO, depth_is, bo_agg, bo_int, bo_bool, bo_str, bo_lst, bo_lS, bo_rp, bo_fn])
theorem t24 : T 24 = some (.code m24) := rfl
theorem p24 (w h : Int) (p nil : Bool) (cs : List Cu) : Pure T 24 [.agg [.int .i64 w, .int .i64 h, .lst p 3 nil (cs.map avU)]] (.bool (goodZ w h cs)) := by
  rw [Pure_of t24]
  by_cases hh : hidP w h = true
  · by_cases hl : cs.length ≤ 6
    · have hl' : ((6 : Int) < (cs.length : Int)) = False := eq_false (by omega)
      simp only [m24r0, m24r1, m24r2, m24r3, m24r4, m24r5, m24r6, m24r7, m24r8, m24r10, m24, EVa, EVb, params, nilOk, bound, awayFrom, evM, fillA, setEls, Opd.ev, Fr.get, prune, Option.map, isB, tB, nB, isG, gT, gF, evRes, mapO, one, Nat.reduceAdd, Nat.reduceLeDiff, Nat.reduceEqDiff, Nat.reduceMul, Nat.reduceSub, Nat.reduceLT, Nat.reduceBEq, reduceCtorEq, ↓reduceIte, Int.reduceToNat, Int.reduceLE, Int.reduceLT, Int.reduceEq, Int.reduceAdd, Int.reduceSub, Int.reduceMul, List.reduceReplicate, k41, hh, hl']
      refine WS_loop' (σ := Nat × Heap) (fun s => [(1, .rp [.int .i64 w, .int .i64 h, .lst p 3 nil (cs.map avU)] 0), (18, .lst p 3 nil (cs.map avU)), (19, .int .i64 cs.length), (20, .int .i64 s.1)])
        (fun s => s.2) (fun s => cs.length - s.1) (fun s => s.1 ≤ cs.length ∧ (cs.drop s.1).all (clueP w h) = goodZ w h cs) (0, _) rfl rfl ⟨by simp, by simp [goodZ, hh, hl]⟩ ?_
      rintro ⟨i, H⟩ ⟨hi, ha⟩
      dsimp only at hi ha
      by_cases hlt : i < cs.length
      · have e1 : (cs.map avU)[i]? = some (avU cs[i]) := map_get hlt
        have e4 := wsucc (i := i) (by omega)
        rw [all_drop _ _ _ hlt] at ha
        have hk := fun {k a b d os live S Q fr A} => k42 w h k a b hh (d := d) (os := os) (live := live) (S := S) (Q := Q) (fr := fr) (A := A)
        (try simp only [EVa, EVb, params, nilOk, bound, awayFrom, evM, fillA, setEls, Opd.ev, Fr.get, prune, Option.map, isB, tB, nB, isG, gT, gF, evRes, mapO, one, Nat.reduceAdd, Nat.reduceLeDiff, Nat.reduceEqDiff, Nat.reduceMul, Nat.reduceSub, Nat.reduceLT, Nat.reduceBEq, reduceCtorEq, ↓reduceIte, Int.reduceToNat, Int.reduceLE, Int.reduceLT, Int.reduceEq, Int.reduceAdd, Int.reduceSub, Int.reduceMul, List.reduceReplicate, m24l9, m24r0, m24r1, m24r2, m24r3, m24r4, m24r5, m24r6, m24r7, m24r8, m24r10, m24, e1, e4, hlt, avU, hk] <;> (try (first | refine WP_split (by simp only [EVa, EVb, params, nilOk, bound, awayFrom, evM, fillA, setEls, Opd.ev, Fr.get, prune, Option.map, isB, tB, nB, isG, gT, gF, evRes, mapO, one, Nat.reduceAdd, Nat.reduceLeDiff, Nat.reduceEqDiff, Nat.reduceMul, Nat.reduceSub, Nat.reduceLT, Nat.reduceBEq, reduceCtorEq, ↓reduceIte, Int.reduceToNat, Int.reduceLE, Int.reduceLT, Int.reduceEq, Int.reduceAdd, Int.reduceSub, Int.reduceMul, List.reduceReplicate]) (fun hc1 => ?_) (fun hc1 => ?_) | refine WS_split (by simp only [EVa, EVb, params, nilOk, bound, awayFrom, evM, fillA, setEls, Opd.ev, Fr.get, prune, Option.map, isB, tB, nB, isG, gT, gF, evRes, mapO, one, Nat.reduceAdd, Nat.reduceLeDiff, Nat.reduceEqDiff, Nat.reduceMul, Nat.reduceSub, Nat.reduceLT, Nat.reduceBEq, reduceCtorEq, ↓reduceIte, Int.reduceToNat, Int.reduceLE, Int.reduceLT, Int.reduceEq, Int.reduceAdd, Int.reduceSub, Int.reduceMul, List.reduceReplicate]) (fun hc1 => ?_) (fun hc1 => ?_)) <;> try simp only [EVa, EVb, params, nilOk, bound, awayFrom, evM, fillA, setEls, Opd.ev, Fr.get, prune, Option.map, isB, tB, nB, isG, gT, gF, evRes, mapO, one, Nat.reduceAdd, Nat.reduceLeDiff, Nat.reduceEqDiff, Nat.reduceMul, Nat.reduceSub, Nat.reduceLT, Nat.reduceBEq, reduceCtorEq, ↓reduceIte, Int.reduceToNat, Int.reduceLE, Int.reduceLT, Int.reduceEq, Int.reduceAdd, Int.reduceSub, Int.reduceMul, List.reduceReplicate] at hc1 <;> (try simp only [EVa, EVb, params, nilOk, bound, awayFrom, evM, fillA, setEls, Opd.ev, Fr.get, prune, Option.map, isB, tB, nB, isG, gT, gF, evRes, mapO, one, Nat.reduceAdd, Nat.reduceLeDiff, Nat.reduceEqDiff, Nat.reduceMul, Nat.reduceSub, Nat.reduceLT, Nat.reduceBEq, reduceCtorEq, ↓reduceIte, Int.reduceToNat, Int.reduceLE, Int.reduceLT, Int.reduceEq, Int.reduceAdd, Int.reduceSub, Int.reduceMul, List.reduceReplicate, m24l9, m24r0, m24r1, m24r2, m24r3, m24r4, m24r5, m24r6, m24r7, m24r8, m24r10, m24, e1, e4, hlt, avU, hk, hc1])))
        · have h1 : clueP w h cs[i] = false := hc1
          rw [h1] at ha; rw [← ha]; rfl
        · have h1 : clueP w h cs[i] = true := by simpa using hc1
          rw [h1] at ha
          exact ⟨(_, _), ⟨rfl, rfl⟩, ⟨hlt, ha⟩, by simp only; omega⟩
      · rw [all_end _ _ _ hlt] at ha
        simp only [m24l9, m24r0, m24r1, m24r2, m24r3, m24r4, m24r5, m24r6, m24r7, m24r8, m24r10, m24, EVa, EVb, params, nilOk, bound, awayFrom, evM, fillA, setEls, Opd.ev, Fr.get, prune, Option.map, isB, tB, nB, isG, gT, gF, evRes, mapO, one, Nat.reduceAdd, Nat.reduceLeDiff, Nat.reduceEqDiff, Nat.reduceMul, Nat.reduceSub, Nat.reduceLT, Nat.reduceBEq, reduceCtorEq, ↓reduceIte, Int.reduceToNat, Int.reduceLE, Int.reduceLT, Int.reduceEq, Int.reduceAdd, Int.reduceSub, Int.reduceMul, List.reduceReplicate, hlt, ← ha]
    · have hl' : ((6 : Int) < (cs.length : Int)) = True := eq_true (by omega)
      simp only [m24r0, m24r1, m24r2, m24r3, m24r4, m24r5, m24r6, m24r7, m24r8, m24r10, m24, EVa, EVb, params, nilOk, bound, awayFrom, evM, fillA, setEls, Opd.ev, Fr.get, prune, Option.map, isB, tB, nB, isG, gT, gF, evRes, mapO, one, Nat.reduceAdd, Nat.reduceLeDiff, Nat.reduceEqDiff, Nat.reduceMul, Nat.reduceSub, Nat.reduceLT, Nat.reduceBEq, reduceCtorEq, ↓reduceIte, Int.reduceToNat, Int.reduceLE, Int.reduceLT, Int.reduceEq, Int.reduceAdd, Int.reduceSub, Int.reduceMul, List.reduceReplicate, k41, hh, hl', goodZ, hl]
  · have hh' : hidP w h = false := by simpa using hh
    simp only [m24r0, m24r1, m24r2, m24r3, m24r4, m24r5, m24r6, m24r7, m24r8, m24r10, m24, EVa, EVb, params, nilOk, bound, awayFrom, evM, fillA, setEls, Opd.ev, Fr.get, prune, Option.map, isB, tB, nB, isG, gT, gF, evRes, mapO, one, Nat.reduceAdd, Nat.reduceLeDiff, Nat.reduceEqDiff, Nat.reduceMul, Nat.reduceSub, Nat.reduceLT, Nat.reduceBEq, reduceCtorEq, ↓reduceIte, Int.reduceToNat, Int.reduceLE, Int.reduceLT, Int.reduceEq, Int.reduceAdd, Int.reduceSub, Int.reduceMul, List.reduceReplicate, k41, hh', goodZ]
theorem k24 (w h : Int) (p nil : Bool) (cs : List Cu) {d : Option Nat} {os : List MOp} {live : List Nat} {S : List KF} {Q : FQ} {fr : Fr} {A : Heap} : WCR T .ro 24 [.agg [.int .i64 w, .int .i64 h, .lst p 3 nil (cs.map avU)]] d os live S Q fr A ↔ WP T os live S Q (putd d (.bool (goodZ w h cs)) fr) A := (p24 w h p nil cs).call (by simp only [mapO, depth_is, bo_agg, bo_int, bo_lU])
theorem t69 : T 69 = some (.code m69) := rfl
theorem p69 (p nil : Bool) (sq : List Cu) (f : Cu → Bool) (g : FuncId) (caps : List AV) (hl : sq.length ≤ 1000) (hf : ∀ s, s ∈ sq → Pure T g (avU s :: caps) (.bool (f s))) (hc : ∀ A, mapO (borrow A 6) caps = some caps) (hc5 : ∀ A, mapO (borrow A 5) caps = some caps) : Pure T 69 [.lst p 3 nil (sq.map avU), .fn g [] caps] (.int .i64 (numM (idxU f sq 0))) := by
  rw [Pure_of t69]
  simp only [m69r0, m69r1, m69r2, m69r3, m69r4, m69r5, m69r6, m69r8, m69, EVa, EVb, params, nilOk, bound, awayFrom, evM, fillA, setEls, Opd.ev, Fr.get, prune, Option.map, isB, tB, nB, isG, gT, gF, evRes, mapO, one, Nat.reduceAdd, Nat.reduceLeDiff, Nat.reduceEqDiff, Nat.reduceMul, Nat.reduceSub, Nat.reduceLT, Nat.reduceBEq, reduceCtorEq, ↓reduceIte, Int.reduceToNat, Int.reduceLE, Int.reduceLT, Int.reduceEq, Int.reduceAdd, Int.reduceSub, Int.reduceMul, List.reduceReplicate]
  refine WS_loop' (σ := Nat) (fun s => [(0, .lst p 3 nil (sq.map avU)), (1, .fn g [] caps), (7, .int .i64 sq.length), (8, .int .i64 s)])
    (fun s => []) (fun s => sq.length - s) (fun s => s ≤ sq.length ∧ idxU f (sq.drop s) s = idxU f sq 0) 0 rfl rfl (by simp) ?_
  rintro i ⟨hi, ha⟩
  by_cases hlt : i < sq.length
  · have e1 : (sq.map avU)[i]? = some (avU sq[i]) := map_get hlt
    have e4 := wsucc (i := i) (by omega)
    have hcall : ∀ {d os live S Q fr A}, WCR T .ro g (.agg [.int .i64 sq[i].k, .int .i64 sq[i].a, .int .i64 sq[i].b] :: caps) d os live S Q fr A ↔ WP T os live S Q (putd d (.bool (f sq[i])) fr) A := by
      intro d os live S Q fr A
      exact (hf sq[i] (List.getElem_mem hlt)).call (by simp only [mapO, depth_is, bo_agg, bo_int, hc, avU])
    rw [idxU_drop _ _ _ _ hlt] at ha
    (try simp only [EVa, EVb, params, nilOk, bound, awayFrom, evM, fillA, setEls, Opd.ev, Fr.get, prune, Option.map, isB, tB, nB, isG, gT, gF, evRes, mapO, one, Nat.reduceAdd, Nat.reduceLeDiff, Nat.reduceEqDiff, Nat.reduceMul, Nat.reduceSub, Nat.reduceLT, Nat.reduceBEq, reduceCtorEq, ↓reduceIte, Int.reduceToNat, Int.reduceLE, Int.reduceLT, Int.reduceEq, Int.reduceAdd, Int.reduceSub, Int.reduceMul, List.reduceReplicate, m69l7, m69r0, m69r1, m69r2, m69r3, m69r4, m69r5, m69r6, m69r8, m69, e1, e4, hlt, avU, hcall] <;> (try (first | refine WP_split (by simp only [EVa, EVb, params, nilOk, bound, awayFrom, evM, fillA, setEls, Opd.ev, Fr.get, prune, Option.map, isB, tB, nB, isG, gT, gF, evRes, mapO, one, Nat.reduceAdd, Nat.reduceLeDiff, Nat.reduceEqDiff, Nat.reduceMul, Nat.reduceSub, Nat.reduceLT, Nat.reduceBEq, reduceCtorEq, ↓reduceIte, Int.reduceToNat, Int.reduceLE, Int.reduceLT, Int.reduceEq, Int.reduceAdd, Int.reduceSub, Int.reduceMul, List.reduceReplicate]) (fun hc1 => ?_) (fun hc1 => ?_) | refine WS_split (by simp only [EVa, EVb, params, nilOk, bound, awayFrom, evM, fillA, setEls, Opd.ev, Fr.get, prune, Option.map, isB, tB, nB, isG, gT, gF, evRes, mapO, one, Nat.reduceAdd, Nat.reduceLeDiff, Nat.reduceEqDiff, Nat.reduceMul, Nat.reduceSub, Nat.reduceLT, Nat.reduceBEq, reduceCtorEq, ↓reduceIte, Int.reduceToNat, Int.reduceLE, Int.reduceLT, Int.reduceEq, Int.reduceAdd, Int.reduceSub, Int.reduceMul, List.reduceReplicate]) (fun hc1 => ?_) (fun hc1 => ?_)) <;> try simp only [EVa, EVb, params, nilOk, bound, awayFrom, evM, fillA, setEls, Opd.ev, Fr.get, prune, Option.map, isB, tB, nB, isG, gT, gF, evRes, mapO, one, Nat.reduceAdd, Nat.reduceLeDiff, Nat.reduceEqDiff, Nat.reduceMul, Nat.reduceSub, Nat.reduceLT, Nat.reduceBEq, reduceCtorEq, ↓reduceIte, Int.reduceToNat, Int.reduceLE, Int.reduceLT, Int.reduceEq, Int.reduceAdd, Int.reduceSub, Int.reduceMul, List.reduceReplicate] at hc1 <;> (try simp only [EVa, EVb, params, nilOk, bound, awayFrom, evM, fillA, setEls, Opd.ev, Fr.get, prune, Option.map, isB, tB, nB, isG, gT, gF, evRes, mapO, one, Nat.reduceAdd, Nat.reduceLeDiff, Nat.reduceEqDiff, Nat.reduceMul, Nat.reduceSub, Nat.reduceLT, Nat.reduceBEq, reduceCtorEq, ↓reduceIte, Int.reduceToNat, Int.reduceLE, Int.reduceLT, Int.reduceEq, Int.reduceAdd, Int.reduceSub, Int.reduceMul, List.reduceReplicate, m69l7, m69r0, m69r1, m69r2, m69r3, m69r4, m69r5, m69r6, m69r8, m69, e1, e4, hlt, avU, hcall, hc1])))
    · rw [if_pos hc1] at ha; rw [← ha]; rfl
    · rw [if_neg (by simp [hc1])] at ha
      exact ⟨_, ⟨rfl, rfl⟩, ⟨hlt, ha⟩, by simp only; omega⟩
  · rw [idxU_end _ _ _ _ hlt] at ha
    simp only [m69l7, m69r0, m69r1, m69r2, m69r3, m69r4, m69r5, m69r6, m69r8, m69, EVa, EVb, params, nilOk, bound, awayFrom, evM, fillA, setEls, Opd.ev, Fr.get, prune, Option.map, isB, tB, nB, isG, gT, gF, evRes, mapO, one, Nat.reduceAdd, Nat.reduceLeDiff, Nat.reduceEqDiff, Nat.reduceMul, Nat.reduceSub, Nat.reduceLT, Nat.reduceBEq, reduceCtorEq, ↓reduceIte, Int.reduceToNat, Int.reduceLE, Int.reduceLT, Int.reduceEq, Int.reduceAdd, Int.reduceSub, Int.reduceMul, List.reduceReplicate, hlt, ← ha]
    rfl
theorem k69 (p nil : Bool) (sq : List Cu) (f : Cu → Bool) (g : FuncId) (caps : List AV) (hl : sq.length ≤ 1000) (hf : ∀ s, s ∈ sq → Pure T g (avU s :: caps) (.bool (f s))) (hc : ∀ A, mapO (borrow A 6) caps = some caps) (hc5 : ∀ A, mapO (borrow A 5) caps = some caps) {d : Option Nat} {os : List MOp} {live : List Nat} {S : List KF} {Q : FQ} {fr : Fr} {A : Heap} : WCR T .ro 69 [.lst p 3 nil (sq.map avU), .fn g [] caps] d os live S Q fr A ↔ WP T os live S Q (putd d (.int .i64 (numM (idxU f sq 0))) fr) A := (p69 p nil sq f g caps hl hf hc hc5).call (by simp only [mapO, depth_is, bo_lU, bo_fn, hc5])
theorem t51 : T 51 = some (.code m51) := rfl
theorem p51 (p nil : Bool) (sq : List Cu) (f : Cu → Bool) (g : FuncId) (caps : List AV) (hl : sq.length ≤ 1000) (hf : ∀ s, s ∈ sq → Pure T g (avU s :: caps) (.bool (f s))) (hc : ∀ A, mapO (borrow A 6) caps = some caps) (hc5 : ∀ A, mapO (borrow A 5) caps = some caps) : Pure T 51 [.lst p 3 nil (sq.map avU), .fn g [] caps] (.bool (sq.any f)) := by
  rw [Pure_of t51]
  have hk := fun {d os live S Q fr A} => k69 p nil sq f g caps hl hf hc hc5 (d := d) (os := os) (live := live) (S := S) (Q := Q) (fr := fr) (A := A)
  have ha := idxU_any f sq 0
  simp only [m51r0, m51r1, m51, EVa, EVb, params, nilOk, bound, awayFrom, evM, fillA, setEls, Opd.ev, Fr.get, prune, Option.map, isB, tB, nB, isG, gT, gF, evRes, mapO, one, Nat.reduceAdd, Nat.reduceLeDiff, Nat.reduceEqDiff, Nat.reduceMul, Nat.reduceSub, Nat.reduceLT, Nat.reduceBEq, reduceCtorEq, ↓reduceIte, Int.reduceToNat, Int.reduceLE, Int.reduceLT, Int.reduceEq, Int.reduceAdd, Int.reduceSub, Int.reduceMul, List.reduceReplicate, hk, ha]
theorem k51 (p nil : Bool) (sq : List Cu) (f : Cu → Bool) (g : FuncId) (caps : List AV) (hl : sq.length ≤ 1000) (hf : ∀ s, s ∈ sq → Pure T g (avU s :: caps) (.bool (f s))) (hc : ∀ A, mapO (borrow A 6) caps = some caps) (hc5 : ∀ A, mapO (borrow A 5) caps = some caps) {d : Option Nat} {os : List MOp} {live : List Nat} {S : List KF} {Q : FQ} {fr : Fr} {A : Heap} : WCR T .ro 51 [.lst p 3 nil (sq.map avU), .fn g [] caps] d os live S Q fr A ↔ WP T os live S Q (putd d (.bool (sq.any f)) fr) A := (p51 p nil sq f g caps hl hf hc hc5).call (by simp only [mapO, depth_is, bo_lU, bo_fn, hc5])
theorem t57 : T 57 = some (.code m57) := rfl
theorem p57 (k a b w h : Int) (p nil : Bool) (cs : List Cu) : Pure T 57 [.agg [.int .i64 k, .int .i64 a, .int .i64 b], .rp [.int .i64 w, .int .i64 h, .lst p 3 nil (cs.map avU)] 0] (.bool (!(hidP w h && clueP w h ⟨k, a, b⟩))) := by
  rw [Pure_of t57]
  simp only [m57r0, m57r1, m57, EVa, EVb, params, nilOk, bound, awayFrom, evM, fillA, setEls, Opd.ev, Fr.get, prune, Option.map, isB, tB, nB, isG, gT, gF, evRes, mapO, one, Nat.reduceAdd, Nat.reduceLeDiff, Nat.reduceEqDiff, Nat.reduceMul, Nat.reduceSub, Nat.reduceLT, Nat.reduceBEq, reduceCtorEq, ↓reduceIte, Int.reduceToNat, Int.reduceLE, Int.reduceLT, Int.reduceEq, Int.reduceAdd, Int.reduceSub, Int.reduceMul, List.reduceReplicate, k58]
theorem k57 (k a b w h : Int) (p nil : Bool) (cs : List Cu) {d : Option Nat} {os : List MOp} {live : List Nat} {S : List KF} {Q : FQ} {fr : Fr} {A : Heap} : WCR T .ro 57 [.agg [.int .i64 k, .int .i64 a, .int .i64 b], .rp [.int .i64 w, .int .i64 h, .lst p 3 nil (cs.map avU)] 0] d os live S Q fr A ↔ WP T os live S Q (putd d (.bool (!(hidP w h && clueP w h ⟨k, a, b⟩))) fr) A := (p57 k a b w h p nil cs).call (by simp only [mapO, depth_is, bo_agg, bo_int, bo_lU, bo_rp])
theorem t40 : T 40 = some (.code m40) := rfl
theorem p40 (w h : Int) (p nil : Bool) (cs : List Cu) : Pure T 40 [.agg [.int .i64 w, .int .i64 h, .lst p 3 nil (cs.map avU)]] (.bool (goodZ w h cs)) := by
  rw [Pure_of t40]
  by_cases hh : hidP w h = true
  · by_cases hl : cs.length ≤ 6
    · have hl' : ((cs.length : Int) ≤ 6) = True := eq_true (by omega)
      have hbo : ∀ A, mapO (borrow A 6) [.rp [.int .i64 w, .int .i64 h, .lst p 3 nil (cs.map avU)] 0] = some [.rp [.int .i64 w, .int .i64 h, .lst p 3 nil (cs.map avU)] 0] := fun A => by simp only [mapO, bo_rp, bo_int, bo_lU]
      have hbo5 : ∀ A, mapO (borrow A 5) [.rp [.int .i64 w, .int .i64 h, .lst p 3 nil (cs.map avU)] 0] = some [.rp [.int .i64 w, .int .i64 h, .lst p 3 nil (cs.map avU)] 0] := fun A => by simp only [mapO, bo_rp, bo_int, bo_lU]
      have hk := fun {d os live S Q fr A} => k51 p nil cs (fun c => !(hidP w h && clueP w h c)) 57 [.rp [.int .i64 w, .int .i64 h, .lst p 3 nil (cs.map avU)] 0] (by omega) (fun s _ => p57 s.k s.a s.b w h p nil cs) hbo hbo5 (d := d) (os := os) (live := live) (S := S) (Q := Q) (fr := fr) (A := A)
      have hg : (!(cs.any fun c => !(hidP w h && clueP w h c))) = goodZ w h cs := by
        simp only [goodZ, hh, hl, decide_true, Bool.true_and, List.not_any_eq_all_not, Bool.not_not]
      simp only [m40r0, m40r1, m40, EVa, EVb, params, nilOk, bound, awayFrom, evM, fillA, setEls, Opd.ev, Fr.get, prune, Option.map, isB, tB, nB, isG, gT, gF, evRes, mapO, one, Nat.reduceAdd, Nat.reduceLeDiff, Nat.reduceEqDiff, Nat.reduceMul, Nat.reduceSub, Nat.reduceLT, Nat.reduceBEq, reduceCtorEq, ↓reduceIte, Int.reduceToNat, Int.reduceLE, Int.reduceLT, Int.reduceEq, Int.reduceAdd, Int.reduceSub, Int.reduceMul, List.reduceReplicate, k56, hh, hl', hk]
      rw [← hg, hh]; simp
    · have hl' : ((cs.length : Int) ≤ 6) = False := eq_false (by omega)
      simp only [m40r0, m40r1, m40, EVa, EVb, params, nilOk, bound, awayFrom, evM, fillA, setEls, Opd.ev, Fr.get, prune, Option.map, isB, tB, nB, isG, gT, gF, evRes, mapO, one, Nat.reduceAdd, Nat.reduceLeDiff, Nat.reduceEqDiff, Nat.reduceMul, Nat.reduceSub, Nat.reduceLT, Nat.reduceBEq, reduceCtorEq, ↓reduceIte, Int.reduceToNat, Int.reduceLE, Int.reduceLT, Int.reduceEq, Int.reduceAdd, Int.reduceSub, Int.reduceMul, List.reduceReplicate, k56, hh, hl', goodZ, hl]
  · have hh' : hidP w h = false := by simpa using hh
    simp only [m40r0, m40r1, m40, EVa, EVb, params, nilOk, bound, awayFrom, evM, fillA, setEls, Opd.ev, Fr.get, prune, Option.map, isB, tB, nB, isG, gT, gF, evRes, mapO, one, Nat.reduceAdd, Nat.reduceLeDiff, Nat.reduceEqDiff, Nat.reduceMul, Nat.reduceSub, Nat.reduceLT, Nat.reduceBEq, reduceCtorEq, ↓reduceIte, Int.reduceToNat, Int.reduceLE, Int.reduceLT, Int.reduceEq, Int.reduceAdd, Int.reduceSub, Int.reduceMul, List.reduceReplicate, k56, hh', goodZ]
theorem k40 (w h : Int) (p nil : Bool) (cs : List Cu) {d : Option Nat} {os : List MOp} {live : List Nat} {S : List KF} {Q : FQ} {fr : Fr} {A : Heap} : WCR T .ro 40 [.agg [.int .i64 w, .int .i64 h, .lst p 3 nil (cs.map avU)]] d os live S Q fr A ↔ WP T os live S Q (putd d (.bool (goodZ w h cs)) fr) A := (p40 w h p nil cs).call (by simp only [mapO, depth_is, bo_agg, bo_int, bo_lU])
end Go.Ev.Z
end

section
set_option maxRecDepth 100000
set_option linter.unusedSimpArgs false
set_option linter.unusedVariables false
namespace Go.Ev.Z
open Go Go.Ev
theorem t53 : T 53 = some (.code m53) := rfl
theorem p53 (k a b : Int) (W Hh : Nat) (p nil : Bool) (sq : List Sq) (hf : Fit W Hh sq) (ha : 0 ≤ a ∧ a ≤ 1000) (r : Bool) (hr : fitO ⟨k, a, b⟩ W Hh sq = some r) : Pure T 53 [.agg [.int .i64 k, .int .i64 a, .int .i64 b], .agg [.int .i64 (W : Int), .int .i64 (Hh : Int), .lst p 3 nil (sq.map avS)]] (.bool r) := by
  rw [Pure_of t53]
  unfold fitO at hr
  by_cases h2 : inP k 1 3 = true
  · rw [if_pos h2] at hr
    obtain ⟨n, hn, hb⟩ := Option.map_eq_some_iff.1 hr
    have hk := fun {d os live S Q fr A} => k71 k a W Hh p nil sq hf ha n hn (d := d) (os := os) (live := live) (S := S) (Q := Q) (fr := fr) (A := A)
    simp only [m53r0, m53r1, m53r2, m53r3, m53, EVa, EVb, params, nilOk, bound, awayFrom, evM, fillA, setEls, Opd.ev, Fr.get, prune, Option.map, isB, tB, nB, isG, gT, gF, evRes, mapO, one, Nat.reduceAdd, Nat.reduceLeDiff, Nat.reduceEqDiff, Nat.reduceMul, Nat.reduceSub, Nat.reduceLT, Nat.reduceBEq, reduceCtorEq, ↓reduceIte, Int.reduceToNat, Int.reduceLE, Int.reduceLT, Int.reduceEq, Int.reduceAdd, Int.reduceSub, Int.reduceMul, List.reduceReplicate, k70, h2, hk, ← hb]
  · rw [if_neg h2] at hr
    obtain ⟨n, hn, hb⟩ := Option.map_eq_some_iff.1 hr
    have h2' : inP k 1 3 = false := by simpa using h2
    have hk := fun {d os live S Q fr A} => k71 k 0 W Hh p nil sq hf (by omega) n hn (d := d) (os := os) (live := live) (S := S) (Q := Q) (fr := fr) (A := A)
    simp only [m53r0, m53r1, m53r2, m53r3, m53, EVa, EVb, params, nilOk, bound, awayFrom, evM, fillA, setEls, Opd.ev, Fr.get, prune, Option.map, isB, tB, nB, isG, gT, gF, evRes, mapO, one, Nat.reduceAdd, Nat.reduceLeDiff, Nat.reduceEqDiff, Nat.reduceMul, Nat.reduceSub, Nat.reduceLT, Nat.reduceBEq, reduceCtorEq, ↓reduceIte, Int.reduceToNat, Int.reduceLE, Int.reduceLT, Int.reduceEq, Int.reduceAdd, Int.reduceSub, Int.reduceMul, List.reduceReplicate, k70, h2', hk, ← hb]
theorem k53 (k a b : Int) (W Hh : Nat) (p nil : Bool) (sq : List Sq) (hf : Fit W Hh sq) (ha : 0 ≤ a ∧ a ≤ 1000) (r : Bool) (hr : fitO ⟨k, a, b⟩ W Hh sq = some r) {d : Option Nat} {os : List MOp} {live : List Nat} {S : List KF} {Q : FQ} {fr : Fr} {A : Heap} : WCR T .ro 53 [.agg [.int .i64 k, .int .i64 a, .int .i64 b], .agg [.int .i64 (W : Int), .int .i64 (Hh : Int), .lst p 3 nil (sq.map avS)]] d os live S Q fr A ↔ WP T os live S Q (putd d (.bool r) fr) A := (p53 k a b W Hh p nil sq hf ha r hr).call (by simp only [mapO, depth_is, bo_agg, bo_int, bo_bool, bo_str, bo_lst, bo_lS, bo_rp, bo_fn])
theorem t44 : T 44 = some (.code m44) := rfl
theorem t48 : T 48 = some (.code m48) := rfl
theorem r44 (k a b : Int) (W Hh : Nat) (p nil : Bool) (sq : List Sq) (hf : Fit W Hh sq) (hg : goodP W Hh sq = true) (ha : 0 ≤ a ∧ a ≤ 1000) (r : Bool) (hr : fitR ⟨k, a, b⟩ W Hh sq = some r) (A : Heap) :
    Runs T 44 [.agg [.int .i64 k, .int .i64 a, .int .i64 b], .agg [.int .i64 (W : Int), .int .i64 (Hh : Int), .lst p 3 nil (sq.map avS)]] A (.bool r) A := by
  refine Runs.of ?_
  rw [WS_of t44]
  unfold fitR at hr
  by_cases h2 : (decide (k = 0) || decide (3 < k)) = true
  · rw [if_pos h2] at hr
    obtain ⟨n, hn, hb⟩ := Option.map_eq_some_iff.1 hr
    have hk := fun {d os live S Q fr A} => k64 k 0 W Hh p nil sq hf hg (by omega) n hn (d := d) (os := os) (live := live) (S := S) (Q := Q) (fr := fr) (A := A)
    have h2' : k = 0 ∨ 3 < k := by simpa using h2
    simp only [m44r0, m44r1, m44r2, m44r3, m44, EVa, EVb, params, nilOk, bound, awayFrom, evM, fillA, setEls, Opd.ev, Fr.get, prune, Option.map, isB, tB, nB, isG, gT, gF, evRes, mapO, one, Nat.reduceAdd, Nat.reduceLeDiff, Nat.reduceEqDiff, Nat.reduceMul, Nat.reduceSub, Nat.reduceLT, Nat.reduceBEq, reduceCtorEq, ↓reduceIte, Int.reduceToNat, Int.reduceLE, Int.reduceLT, Int.reduceEq, Int.reduceAdd, Int.reduceSub, Int.reduceMul, List.reduceReplicate, k63, h2', hk, ← hb]
  · rw [if_neg h2] at hr
    obtain ⟨n, hn, hb⟩ := Option.map_eq_some_iff.1 hr
    have h2' : (decide (k = 0) || decide (3 < k)) = false := by simpa using h2
    have hk := fun {d os live S Q fr A} => k64 k a W Hh p nil sq hf hg ha n hn (d := d) (os := os) (live := live) (S := S) (Q := Q) (fr := fr) (A := A)
    simp only [m44r0, m44r1, m44r2, m44r3, m44, EVa, EVb, params, nilOk, bound, awayFrom, evM, fillA, setEls, Opd.ev, Fr.get, prune, Option.map, isB, tB, nB, isG, gT, gF, evRes, mapO, one, Nat.reduceAdd, Nat.reduceLeDiff, Nat.reduceEqDiff, Nat.reduceMul, Nat.reduceSub, Nat.reduceLT, Nat.reduceBEq, reduceCtorEq, ↓reduceIte, Int.reduceToNat, Int.reduceLE, Int.reduceLT, Int.reduceEq, Int.reduceAdd, Int.reduceSub, Int.reduceMul, List.reduceReplicate, k63, h2', hk, ← hb]
theorem t52 : T 52 = some (.code m52) := rfl
theorem p52 (k a b : Int) (W Hh : Nat) (sq : List Sq) (hf : Fit W Hh sq) (ha : 0 ≤ a ∧ a ≤ 1000) (r : Bool) (hr : fitO ⟨k, a, b⟩ W Hh sq = some r) : Pure T 52 [.agg [.int .i64 k, .int .i64 a, .int .i64 b], .rp [.int .i64 (W : Int), .int .i64 (Hh : Int), .lst true 3 false (sq.map avS)] 0] (.bool (!r)) := by
  rw [Pure_of t52]
  have hk := fun {d os live S Q fr A} => k53 k a b W Hh true false sq hf ha r hr (d := d) (os := os) (live := live) (S := S) (Q := Q) (fr := fr) (A := A)
  simp only [m52r0, m52r1, m52, EVa, EVb, params, nilOk, bound, awayFrom, evM, fillA, setEls, Opd.ev, Fr.get, prune, Option.map, isB, tB, nB, isG, gT, gF, evRes, mapO, one, Nat.reduceAdd, Nat.reduceLeDiff, Nat.reduceEqDiff, Nat.reduceMul, Nat.reduceSub, Nat.reduceLT, Nat.reduceBEq, reduceCtorEq, ↓reduceIte, Int.reduceToNat, Int.reduceLE, Int.reduceLT, Int.reduceEq, Int.reduceAdd, Int.reduceSub, Int.reduceMul, List.reduceReplicate, hk]
theorem k52 (k a b : Int) (W Hh : Nat) (sq : List Sq) (hf : Fit W Hh sq) (ha : 0 ≤ a ∧ a ≤ 1000) (r : Bool) (hr : fitO ⟨k, a, b⟩ W Hh sq = some r) {d : Option Nat} {os : List MOp} {live : List Nat} {S : List KF} {Q : FQ} {fr : Fr} {A : Heap} : WCR T .ro 52 [.agg [.int .i64 k, .int .i64 a, .int .i64 b], .rp [.int .i64 (W : Int), .int .i64 (Hh : Int), .lst true 3 false (sq.map avS)] 0] d os live S Q fr A ↔ WP T os live S Q (putd d (.bool (!r)) fr) A := (p52 k a b W Hh sq hf ha r hr).call (by simp only [mapO, depth_is, bo_agg, bo_int, bo_bool, bo_str, bo_lst, bo_lS, bo_rp, bo_fn])
/-- Some clue that a cut does not fit. -/
def misP (fb : Cu → List Sq → Bool) (cs : List Cu) (sq : List Sq) : Bool := cs.any fun c => !fb c sq
theorem t50 : T 50 = some (.code m50) := rfl
theorem p50 (W Hh : Nat) (sq : List Sq) (p nil : Bool) (cs : List Cu) (hf : Fit W Hh sq) (hl : cs.length ≤ 1000) (ha : ∀ c, c ∈ cs → 0 ≤ c.a ∧ c.a ≤ 1000) (fb : Cu → List Sq → Bool) (hr : ∀ c, c ∈ cs → fitO c W Hh sq = some (fb c sq)) : Pure T 50 [.agg [.int .i64 (W : Int), .int .i64 (Hh : Int), .lst true 3 false (sq.map avS)], .rp [.lst p 3 nil (cs.map avU)] 0] (.bool (misP fb cs sq)) := by
  rw [Pure_of t50]
  have hbo : ∀ A, mapO (borrow A 6) [.rp [.int .i64 (W : Int), .int .i64 (Hh : Int), .lst true 3 false (sq.map avS)] 0] = some [.rp [.int .i64 (W : Int), .int .i64 (Hh : Int), .lst true 3 false (sq.map avS)] 0] := fun A => by simp only [mapO, bo_rp, bo_int, bo_lst]
  have hbo5 : ∀ A, mapO (borrow A 5) [.rp [.int .i64 (W : Int), .int .i64 (Hh : Int), .lst true 3 false (sq.map avS)] 0] = some [.rp [.int .i64 (W : Int), .int .i64 (Hh : Int), .lst true 3 false (sq.map avS)] 0] := fun A => by simp only [mapO, bo_rp, bo_int, bo_lst]
  have hk := fun {d os live S Q fr A} => k51 p nil cs (fun c => !fb c sq) 52 [.rp [.int .i64 (W : Int), .int .i64 (Hh : Int), .lst true 3 false (sq.map avS)] 0] hl (fun s hs => p52 s.k s.a s.b W Hh sq hf (ha s hs) _ (hr s hs)) hbo hbo5 (d := d) (os := os) (live := live) (S := S) (Q := Q) (fr := fr) (A := A)
  simp only [m50r0, m50r1, m50, EVa, EVb, params, nilOk, bound, awayFrom, evM, fillA, setEls, Opd.ev, Fr.get, prune, Option.map, isB, tB, nB, isG, gT, gF, evRes, mapO, one, Nat.reduceAdd, Nat.reduceLeDiff, Nat.reduceEqDiff, Nat.reduceMul, Nat.reduceSub, Nat.reduceLT, Nat.reduceBEq, reduceCtorEq, ↓reduceIte, Int.reduceToNat, Int.reduceLE, Int.reduceLT, Int.reduceEq, Int.reduceAdd, Int.reduceSub, Int.reduceMul, List.reduceReplicate, hk]
  rfl
theorem k50 (W Hh : Nat) (sq : List Sq) (p nil : Bool) (cs : List Cu) (hf : Fit W Hh sq) (hl : cs.length ≤ 1000) (ha : ∀ c, c ∈ cs → 0 ≤ c.a ∧ c.a ≤ 1000) (fb : Cu → List Sq → Bool) (hr : ∀ c, c ∈ cs → fitO c W Hh sq = some (fb c sq)) {d : Option Nat} {os : List MOp} {live : List Nat} {S : List KF} {Q : FQ} {fr : Fr} {A : Heap} : WCR T .ro 50 [.agg [.int .i64 (W : Int), .int .i64 (Hh : Int), .lst true 3 false (sq.map avS)], .rp [.lst p 3 nil (cs.map avU)] 0] d os live S Q fr A ↔ WP T os live S Q (putd d (.bool (misP fb cs sq)) fr) A := (p50 W Hh sq p nil cs hf hl ha fb hr).call (by simp only [mapO, depth_is, bo_agg, bo_int, bo_lst, bo_rp, bo_lU])
theorem t65 : T 65 = some (.code m65) := rfl
theorem p65 (W Hh : Nat) (p nil : Bool) (l : List (List Sq)) (f : List Sq → Bool) (g : FuncId) (caps : List AV) (hl : l.length ≤ 1000) (hf : ∀ s, s ∈ l → Pure T g (encT W Hh s :: caps) (.bool (f s))) (hc : ∀ A, mapO (borrow A 6) caps = some caps) (hc5 : ∀ A, mapO (borrow A 5) caps = some caps) : Pure T 65 [.lst p 3 nil (l.map (encT W Hh)), .fn g [] caps] (.int .i64 (numM (idxT f l 0))) := by
  rw [Pure_of t65]
  simp only [m65r0, m65r1, m65r2, m65r3, m65r4, m65r5, m65r6, m65r8, m65, EVa, EVb, params, nilOk, bound, awayFrom, evM, fillA, setEls, Opd.ev, Fr.get, prune, Option.map, isB, tB, nB, isG, gT, gF, evRes, mapO, one, Nat.reduceAdd, Nat.reduceLeDiff, Nat.reduceEqDiff, Nat.reduceMul, Nat.reduceSub, Nat.reduceLT, Nat.reduceBEq, reduceCtorEq, ↓reduceIte, Int.reduceToNat, Int.reduceLE, Int.reduceLT, Int.reduceEq, Int.reduceAdd, Int.reduceSub, Int.reduceMul, List.reduceReplicate]
  refine WS_loop' (σ := Nat) (fun s => [(0, .lst p 3 nil (l.map (encT W Hh))), (1, .fn g [] caps), (7, .int .i64 l.length), (8, .int .i64 s)])
    (fun s => []) (fun s => l.length - s) (fun s => s ≤ l.length ∧ idxT f (l.drop s) s = idxT f l 0) 0 rfl rfl (by simp) ?_
  rintro i ⟨hi, ha⟩
  by_cases hlt : i < l.length
  · have e1 : (l.map (encT W Hh))[i]? = some (encT W Hh l[i]) := map_get hlt
    have e4 := wsucc (i := i) (by omega)
    have hcall : ∀ {d os live S Q fr A}, WCR T .ro g (.agg [.int .i64 (W : Int), .int .i64 (Hh : Int), .lst true 3 false (l[i].map avS)] :: caps) d os live S Q fr A ↔ WP T os live S Q (putd d (.bool (f l[i])) fr) A := by
      intro d os live S Q fr A
      exact (hf l[i] (List.getElem_mem hlt)).call (by simp only [mapO, depth_is, bo_agg, bo_int, bo_lst, hc, encT])
    rw [idxT_drop _ _ _ _ hlt] at ha
    (try simp only [EVa, EVb, params, nilOk, bound, awayFrom, evM, fillA, setEls, Opd.ev, Fr.get, prune, Option.map, isB, tB, nB, isG, gT, gF, evRes, mapO, one, Nat.reduceAdd, Nat.reduceLeDiff, Nat.reduceEqDiff, Nat.reduceMul, Nat.reduceSub, Nat.reduceLT, Nat.reduceBEq, reduceCtorEq, ↓reduceIte, Int.reduceToNat, Int.reduceLE, Int.reduceLT, Int.reduceEq, Int.reduceAdd, Int.reduceSub, Int.reduceMul, List.reduceReplicate, m65l7, m65r0, m65r1, m65r2, m65r3, m65r4, m65r5, m65r6, m65r8, m65, e1, e4, hlt, encT, hcall] <;> (try (first | refine WP_split (by simp only [EVa, EVb, params, nilOk, bound, awayFrom, evM, fillA, setEls, Opd.ev, Fr.get, prune, Option.map, isB, tB, nB, isG, gT, gF, evRes, mapO, one, Nat.reduceAdd, Nat.reduceLeDiff, Nat.reduceEqDiff, Nat.reduceMul, Nat.reduceSub, Nat.reduceLT, Nat.reduceBEq, reduceCtorEq, ↓reduceIte, Int.reduceToNat, Int.reduceLE, Int.reduceLT, Int.reduceEq, Int.reduceAdd, Int.reduceSub, Int.reduceMul, List.reduceReplicate]) (fun hc1 => ?_) (fun hc1 => ?_) | refine WS_split (by simp only [EVa, EVb, params, nilOk, bound, awayFrom, evM, fillA, setEls, Opd.ev, Fr.get, prune, Option.map, isB, tB, nB, isG, gT, gF, evRes, mapO, one, Nat.reduceAdd, Nat.reduceLeDiff, Nat.reduceEqDiff, Nat.reduceMul, Nat.reduceSub, Nat.reduceLT, Nat.reduceBEq, reduceCtorEq, ↓reduceIte, Int.reduceToNat, Int.reduceLE, Int.reduceLT, Int.reduceEq, Int.reduceAdd, Int.reduceSub, Int.reduceMul, List.reduceReplicate]) (fun hc1 => ?_) (fun hc1 => ?_)) <;> try simp only [EVa, EVb, params, nilOk, bound, awayFrom, evM, fillA, setEls, Opd.ev, Fr.get, prune, Option.map, isB, tB, nB, isG, gT, gF, evRes, mapO, one, Nat.reduceAdd, Nat.reduceLeDiff, Nat.reduceEqDiff, Nat.reduceMul, Nat.reduceSub, Nat.reduceLT, Nat.reduceBEq, reduceCtorEq, ↓reduceIte, Int.reduceToNat, Int.reduceLE, Int.reduceLT, Int.reduceEq, Int.reduceAdd, Int.reduceSub, Int.reduceMul, List.reduceReplicate] at hc1 <;> (try simp only [EVa, EVb, params, nilOk, bound, awayFrom, evM, fillA, setEls, Opd.ev, Fr.get, prune, Option.map, isB, tB, nB, isG, gT, gF, evRes, mapO, one, Nat.reduceAdd, Nat.reduceLeDiff, Nat.reduceEqDiff, Nat.reduceMul, Nat.reduceSub, Nat.reduceLT, Nat.reduceBEq, reduceCtorEq, ↓reduceIte, Int.reduceToNat, Int.reduceLE, Int.reduceLT, Int.reduceEq, Int.reduceAdd, Int.reduceSub, Int.reduceMul, List.reduceReplicate, m65l7, m65r0, m65r1, m65r2, m65r3, m65r4, m65r5, m65r6, m65r8, m65, e1, e4, hlt, encT, hcall, hc1])))
    · rw [if_pos hc1] at ha; rw [← ha]; rfl
    · rw [if_neg (by simp [hc1])] at ha
      exact ⟨_, ⟨rfl, rfl⟩, ⟨hlt, ha⟩, by simp only; omega⟩
  · rw [idxT_end _ _ _ _ hlt] at ha
    simp only [m65l7, m65r0, m65r1, m65r2, m65r3, m65r4, m65r5, m65r6, m65r8, m65, EVa, EVb, params, nilOk, bound, awayFrom, evM, fillA, setEls, Opd.ev, Fr.get, prune, Option.map, isB, tB, nB, isG, gT, gF, evRes, mapO, one, Nat.reduceAdd, Nat.reduceLeDiff, Nat.reduceEqDiff, Nat.reduceMul, Nat.reduceSub, Nat.reduceLT, Nat.reduceBEq, reduceCtorEq, ↓reduceIte, Int.reduceToNat, Int.reduceLE, Int.reduceLT, Int.reduceEq, Int.reduceAdd, Int.reduceSub, Int.reduceMul, List.reduceReplicate, hlt, ← ha]
    rfl
theorem k65 (W Hh : Nat) (p nil : Bool) (l : List (List Sq)) (f : List Sq → Bool) (g : FuncId) (caps : List AV) (hl : l.length ≤ 1000) (hf : ∀ s, s ∈ l → Pure T g (encT W Hh s :: caps) (.bool (f s))) (hc : ∀ A, mapO (borrow A 6) caps = some caps) (hc5 : ∀ A, mapO (borrow A 5) caps = some caps) {d : Option Nat} {os : List MOp} {live : List Nat} {S : List KF} {Q : FQ} {fr : Fr} {A : Heap} : WCR T .ro 65 [.lst p 3 nil (l.map (encT W Hh)), .fn g [] caps] d os live S Q fr A ↔ WP T os live S Q (putd d (.int .i64 (numM (idxT f l 0))) fr) A := (p65 W Hh p nil l f g caps hl hf hc hc5).call (by simp only [mapO, depth_is, bo_lst_id (bo_encT _ 2 _ _ _), bo_fn, hc5])
end Go.Ev.Z
end

section
set_option maxRecDepth 100000
set_option linter.unusedSimpArgs false
set_option linter.unusedVariables false
namespace Go.Ev.Z
open Go Go.Ev
theorem w48 (W Hh : Nat) (l : List (List Sq)) (f : List Sq → Bool) (g : FuncId) (caps : List AV) (hl : l.length ≤ 1000) (hf : ∀ s, s ∈ l → Pure T g (encT W Hh s :: caps) (.bool (f s))) (hc : ∀ A, mapO (borrow A 6) caps = some caps) (hc5 : ∀ A, mapO (borrow A 5) caps = some caps)
    (A : Heap) (id : Nat) (hA : A[id]? = some ⟨37, 3, l.map (encT W Hh)⟩) :
    WF T 48 [.sl id 3 l.length 0 l.length, .fn g [] caps] A (fun v A' => ∃ m els, v = .sl id 3 l.length 0 m ∧ A'[id]? = some ⟨37, 3, els⟩ ∧ els.length = l.length ∧ m ≤ l.length ∧ els.take m = (l.filter fun s => !f s).map (encT W Hh) ∧ m = (l.filter fun s => !f s).length) := by
  rw [WS_of t48]
  have hbo : mapO (borrow A depth) [.sl id 3 l.length 0 l.length, .fn g [] caps] = some [.lst false 3 false (l.map (encT W Hh)), .fn g [] caps] := by
    simp only [mapO, depth_is, bo_fn, hc5]
    rw [bo_sl hA (by simp) (by simp) (ys := l.map (encT W Hh)) (by rw [List.drop_zero, List.take_of_length_le (by simp)]; exact bo_encT A 2 W Hh l)]
  have hk := fun {d os live S Q fr} => (p65 W Hh false false l f g caps hl hf hc hc5).call (d := d) (os := os) (live := live) (S := S) (Q := Q) (fr := fr) hbo
  cases hx : idxT f l 0 with
  | none =>
    rw [hx] at hk
    have hfil := idxT_none f l 0 hx
    simp only [numM] at hk
    simp only [m48r0, m48r1, m48r2, m48r3, m48r4, m48r5, m48r6, m48r7, m48r8, m48r9, m48r10, m48r12, m48r13, m48, EVa, EVb, params, nilOk, bound, awayFrom, evM, fillA, setEls, Opd.ev, Fr.get, prune, Option.map, isB, tB, nB, isG, gT, gF, evRes, mapO, one, Nat.reduceAdd, Nat.reduceLeDiff, Nat.reduceEqDiff, Nat.reduceMul, Nat.reduceSub, Nat.reduceLT, Nat.reduceBEq, reduceCtorEq, ↓reduceIte, Int.reduceToNat, Int.reduceLE, Int.reduceLT, Int.reduceEq, Int.reduceAdd, Int.reduceSub, Int.reduceMul, List.reduceReplicate, hk, hfil]
    exact ⟨l.length, _, rfl, hA, by simp, Nat.le_refl _, by rw [List.take_of_length_le (by simp)], rfl⟩
  | some k =>
    rw [hx] at hk
    obtain ⟨i0, hi0, hik, hfk, hfil⟩ := idxT_some f l 0 k hx
    obtain rfl : k = i0 := by omega
    have n1 : ((k : Int) = -1) = False := eq_false (by omega)
    have w1 := wsucc (i := k) (by omega)
    simp only [numM] at hk
    simp only [m48r0, m48r1, m48r2, m48r3, m48r4, m48r5, m48r6, m48r7, m48r8, m48r9, m48r10, m48r12, m48r13, m48, EVa, EVb, params, nilOk, bound, awayFrom, evM, fillA, setEls, Opd.ev, Fr.get, prune, Option.map, isB, tB, nB, isG, gT, gF, evRes, mapO, one, Nat.reduceAdd, Nat.reduceLeDiff, Nat.reduceEqDiff, Nat.reduceMul, Nat.reduceSub, Nat.reduceLT, Nat.reduceBEq, reduceCtorEq, ↓reduceIte, Int.reduceToNat, Int.reduceLE, Int.reduceLT, Int.reduceEq, Int.reduceAdd, Int.reduceSub, Int.reduceMul, List.reduceReplicate, hk, n1, w1]
    refine WS_loop' (σ := Nat × Nat × List AV × Heap) (fun s => [(0, .sl id 3 l.length 0 l.length), (1, .fn g [] caps), (5, .int .i64 (s.1 : Int)), (6, .int .i64 (s.2.1 : Int))])
      (fun s => s.2.2.2) (fun s => l.length - s.2.1) (fun s => (s.1 < s.2.1 ∧ s.2.1 ≤ l.length) ∧ s.2.2.2[id]? = some ⟨37, 3, s.2.2.1⟩ ∧ s.2.2.1.length = l.length ∧ s.2.2.1.take s.1 = ((l.take s.2.1).filter fun s => !f s).map (encT W Hh) ∧ s.1 = ((l.take s.2.1).filter fun s => !f s).length ∧ (∀ x, x ∈ s.2.2.1 → ∃ q, x = encT W Hh q) ∧ ∀ j, s.2.1 ≤ j → s.2.2.1[j]? = (l.map (encT W Hh))[j]?) (k, k + 1, l.map (encT W Hh), A) rfl rfl ?_ ?_
    · have hst := filterT_step (fun s => !f s) l k hik
      simp only [hfk, Bool.not_true, Bool.false_eq_true, if_false, List.append_nil] at hst
      rw [hfil] at hst
      exact ⟨⟨by simp only; omega, hik⟩, hA, by simp, by simp only; rw [hst, List.map_take], by simp only; rw [hst]; simp; omega, fun x hx => by obtain ⟨q, _, rfl⟩ := List.mem_map.1 hx; exact ⟨q, rfl⟩, fun j _ => rfl⟩
    rintro ⟨m, i, els, H⟩ ⟨⟨hmi, hi⟩, hH, hel, htk, hm, hem, hrest⟩
    dsimp only at hmi hi hH hel htk hm hem hrest
    have hHl := lt_of_get hH
    by_cases hlt : i < l.length
    · have e1 : els[i]? = some (.agg [.int .i64 (W : Int), .int .i64 (Hh : Int), .lst true 3 false (l[i].map avS)]) := by rw [hrest i (Nat.le_refl _), map_get hlt]; rfl
      have e4 := wsucc (i := i) (by omega)
      have e5 := wsucc (i := m) (by omega)
      have hml : m < l.length := by omega
      have hH' : ∀ b, (H ++ [b])[id]? = some ⟨37, 3, els⟩ := fun b => h_get_of hH
      have hst := filterT_step (fun s => !f s) l i hlt
      have hcall : ∀ {d os live S Q fr A}, WCR T .ro g (.agg [.int .i64 (W : Int), .int .i64 (Hh : Int), .lst true 3 false (l[i].map avS)] :: caps) d os live S Q fr A ↔ WP T os live S Q (putd d (.bool (f l[i])) fr) A := by
        intro d os live S Q fr A
        exact (hf l[i] (List.getElem_mem hlt)).call (by simp only [mapO, depth_is, bo_agg, bo_int, bo_lst, hc, encT])
      have hemg : ∃ cs, els[m]? = some (.agg cs) ∧ cs.length = 3 := by
        have hme : m < els.length := by omega
        obtain ⟨q, hq⟩ := hem els[m] (List.getElem_mem hme)
        exact ⟨_, by rw [List.getElem?_eq_getElem hme, hq]; rfl, rfl⟩
      obtain ⟨cs, hcs, hcl⟩ := hemg
      by_cases hd : f l[i] = true
      · simp only [hd, Bool.not_true, Bool.false_eq_true, if_false, List.append_nil] at hst
        simp only [m48l11, m48r0, m48r1, m48r2, m48r3, m48r4, m48r5, m48r6, m48r7, m48r8, m48r9, m48r10, m48r12, m48r13, m48, EVa, EVb, params, nilOk, bound, awayFrom, evM, fillA, setEls, Opd.ev, Fr.get, prune, Option.map, isB, tB, nB, isG, gT, gF, evRes, mapO, one, Nat.reduceAdd, Nat.reduceLeDiff, Nat.reduceEqDiff, Nat.reduceMul, Nat.reduceSub, Nat.reduceLT, Nat.reduceBEq, reduceCtorEq, ↓reduceIte, Int.reduceToNat, Int.reduceLE, Int.reduceLT, Int.reduceEq, Int.reduceAdd, Int.reduceSub, Int.reduceMul, List.reduceReplicate, hlt, hH, hH', e1, hel, hcall, hd, e4]
        exact ⟨(m, _, els, _), ⟨rfl, rfl⟩, ⟨⟨by simp only; omega, hlt⟩, hH' _, hel, by simp only; rw [hst]; exact htk, by simp only; rw [hst]; exact hm, hem, fun j hj => hrest j (by simp only at hj; omega)⟩, by simp only; omega⟩
      · have hd' : f l[i] = false := by simpa using hd
        simp only [hd', Bool.not_false, if_true] at hst
        simp only [m48l11, m48r0, m48r1, m48r2, m48r3, m48r4, m48r5, m48r6, m48r7, m48r8, m48r9, m48r10, m48r12, m48r13, m48, EVa, EVb, params, nilOk, bound, awayFrom, evM, fillA, setEls, Opd.ev, Fr.get, prune, Option.map, isB, tB, nB, isG, gT, gF, evRes, mapO, one, Nat.reduceAdd, Nat.reduceLeDiff, Nat.reduceEqDiff, Nat.reduceMul, Nat.reduceSub, Nat.reduceLT, Nat.reduceBEq, reduceCtorEq, ↓reduceIte, Int.reduceToNat, Int.reduceLE, Int.reduceLT, Int.reduceEq, Int.reduceAdd, Int.reduceSub, Int.reduceMul, List.reduceReplicate, hlt, hH, hH', e1, hel, hcall, hd', e4, e5, hml, hcs, hcl]
        refine ⟨(m + 1, _, els.set m (encT W Hh l[i]), _), ⟨rfl, rfl⟩, ⟨⟨by simp only; omega, hlt⟩, h_set_get (by simp; omega), by simpa using hel, ?_, ?_, fun x hx => ?_, fun j hj => ?_⟩, by simp only; omega⟩
        · simp only
          rw [hst, List.map_append, ← htk, List.take_succ_eq_append_getElem (by simp; omega), List.getElem_set_self]
          rw [List.take_set_of_le (Nat.le_refl _)]; rfl
        · simp only; rw [hst, List.length_append]; simp; omega
        · rcases List.mem_or_eq_of_mem_set hx with h | h
          · exact hem x h
          · exact ⟨_, h⟩
        · simp only at hj ⊢
          rw [List.getElem?_set_ne (by omega)]
          exact hrest j (by omega)
    · have : i = l.length := by omega
      subst this
      rw [List.take_length] at htk hm
      have hml : m ≤ l.length := by omega
      have hmn : m + (l.length - m) = l.length := by omega
      simp only [m48l11, m48r0, m48r1, m48r2, m48r3, m48r4, m48r5, m48r6, m48r7, m48r8, m48r9, m48r10, m48r12, m48r13, m48, EVa, EVb, params, nilOk, bound, awayFrom, evM, fillA, setEls, Opd.ev, Fr.get, prune, Option.map, isB, tB, nB, isG, gT, gF, evRes, mapO, one, Nat.reduceAdd, Nat.reduceLeDiff, Nat.reduceEqDiff, Nat.reduceMul, Nat.reduceSub, Nat.reduceLT, Nat.reduceBEq, reduceCtorEq, ↓reduceIte, Int.reduceToNat, Int.reduceLE, Int.reduceLT, Int.reduceEq, Int.reduceAdd, Int.reduceSub, Int.reduceMul, List.reduceReplicate, hlt, hml, hH, hel, hmn]
      refine ⟨m, _, rfl, h_set_get hHl, ?_, hml, ?_, hm⟩
      · simp; omega
      · rw [List.take_append_of_le_length (by simp; omega), List.take_take, Nat.min_self, htk]
end Go.Ev.Z
end

section
set_option maxRecDepth 100000
set_option linter.unusedSimpArgs false
set_option linter.unusedVariables false
namespace Go.Ev.Z
open Go Go.Ev
theorem all_own {w h : Nat} {l : List (List Sq)} (hr : AllRun T 49 w h l) : ∃ id A2, A2[id]? = some ⟨37, 3, l.map (encT w h)⟩ ∧
    ∀ {d os live S Q fr}, WCR T .own 49 [.int .i64 (w : Int), .int .i64 (h : Int)] d os live S Q fr [] ↔ WP T os live S Q (putd d (.sl id 3 l.length 0 l.length) fr) A2 := by
  unfold AllRun at hr
  split at hr
  · rename_i v A1 he
    have hrun : Runs T 49 [.int .i64 (w : Int), .int .i64 (h : Int)] [] v A1 := Runs.ofX he
    unfold ownR at hr
    split at hr
    · rename_i id sz ver off len hv
      split at hr
      · rename_i A2 hA2
        split at hr
        · rename_i b hb
          simp only [Option.some.injEq, Prod.mk.injEq] at hr
          obtain ⟨rfl, rfl, rfl, rfl, rfl⟩ := hr
          refine ⟨id, A2, by rw [hb, avTs_eq], fun {d os live S Q fr} => ?_⟩
          unfold WCR
          rw [WD_own]
          have hbo : mapO (borrow [] depth) [AV.int .i64 (w : Int), .int .i64 (h : Int)] = some [.int .i64 (w : Int), .int .i64 (h : Int)] := rfl
          rw [hbo]
          simp only
          rw [hrun.iff]
          simp only [List.length_nil, hv, hA2, List.nil_append]
        · cases hr
      · cases hr
    · cases hr
  · cases hr
theorem ct_ro {w h : Nat} {l : List (List Sq)} (hr : CtRun T 43 w h l) : Pure T 43 [.int .i64 (w : Int), .int .i64 (h : Int)] (.lst true 3 false (l.map (encT w h))) := by
  unfold CtRun at hr
  split at hr
  · rename_i v A1 he
    exact (Runs.ofX he).iff.2 hr
  · cases hr
theorem t25 : T 25 = some (.code m25) := rfl
theorem p25 (W Hh : Nat) (p nil : Bool) (cs : List Cu) (l : List (List Sq)) (hr : CtRun T 43 W Hh l) : Pure T 25 [.agg [.int .i64 (W : Int), .int .i64 (Hh : Int), .lst p 3 nil (cs.map avU)]] (.lst true 3 false (l.map (encT W Hh))) := by
  rw [Pure_of t25]
  have hk := fun {d os live S Q fr A} => Pure.call (args := [.int .i64 (W : Int), .int .i64 (Hh : Int)]) (d := d) (os := os) (live := live) (S := S) (Q := Q) (fr := fr) (A := A) (ct_ro hr) rfl
  simp only [m25r0, m25r1, m25, EVa, EVb, params, nilOk, bound, awayFrom, evM, fillA, setEls, Opd.ev, Fr.get, prune, Option.map, isB, tB, nB, isG, gT, gF, evRes, mapO, one, Nat.reduceAdd, Nat.reduceLeDiff, Nat.reduceEqDiff, Nat.reduceMul, Nat.reduceSub, Nat.reduceLT, Nat.reduceBEq, reduceCtorEq, ↓reduceIte, Int.reduceToNat, Int.reduceLE, Int.reduceLT, Int.reduceEq, Int.reduceAdd, Int.reduceSub, Int.reduceMul, List.reduceReplicate, hk]
theorem k25 (W Hh : Nat) (p nil : Bool) (cs : List Cu) (l : List (List Sq)) (hr : CtRun T 43 W Hh l) {d : Option Nat} {os : List MOp} {live : List Nat} {S : List KF} {Q : FQ} {fr : Fr} {A : Heap} : WCR T .ro 25 [.agg [.int .i64 (W : Int), .int .i64 (Hh : Int), .lst p 3 nil (cs.map avU)]] d os live S Q fr A ↔ WP T os live S Q (putd d (.lst true 3 false (l.map (encT W Hh))) fr) A := (p25 W Hh p nil cs l hr).call (by simp only [mapO, depth_is, bo_agg, bo_int, bo_lU])
theorem t33 : T 33 = some (.code m33) := rfl
theorem p33 (W Hh : Nat) (l : List (List Sq)) (hall : AllRun T 49 W Hh l) (p nil p2 nil2 : Bool) (cs0 cs : List Cu) (hf : ∀ sq, sq ∈ l → Fit W Hh sq) (hl : l.length ≤ 1000) (hcl : cs.length ≤ 1000) (ha : ∀ c, c ∈ cs → 0 ≤ c.a ∧ c.a ≤ 1000) (fb : Cu → List Sq → Bool) (hr : ∀ sq, sq ∈ l → ∀ c, c ∈ cs → fitO c W Hh sq = some (fb c sq)) : Pure T 33 [.agg [.int .i64 (W : Int), .int .i64 (Hh : Int), .lst p 3 nil (cs0.map avU)], .lst p2 3 nil2 (cs.map avU)] (.lst true 3 false ((l.filter (fun sq => !misP fb cs sq)).map (encT W Hh))) := by
  rw [Pure_of t33]
  obtain ⟨id, A2, hA2, hk⟩ := all_own hall
  have hbo : ∀ A, mapO (borrow A 6) [.rp [.lst p2 3 nil2 (cs.map avU)] 0] = some [.rp [.lst p2 3 nil2 (cs.map avU)] 0] := fun A => by simp only [mapO, bo_rp, bo_lU]
  have hbo5 : ∀ A, mapO (borrow A 5) [.rp [.lst p2 3 nil2 (cs.map avU)] 0] = some [.rp [.lst p2 3 nil2 (cs.map avU)] 0] := fun A => by simp only [mapO, bo_rp, bo_lU]
  have hw := w48 W Hh l (misP fb cs) 50 [.rp [.lst p2 3 nil2 (cs.map avU)] 0] hl (fun sq hs => p50 W Hh sq p2 nil2 cs (hf sq hs) hcl ha fb (hr sq hs)) hbo hbo5 A2 id hA2
  simp only [m33r0, m33r1, m33, EVa, EVb, params, nilOk, bound, awayFrom, evM, fillA, setEls, Opd.ev, Fr.get, prune, Option.map, isB, tB, nB, isG, gT, gF, evRes, mapO, one, Nat.reduceAdd, Nat.reduceLeDiff, Nat.reduceEqDiff, Nat.reduceMul, Nat.reduceSub, Nat.reduceLT, Nat.reduceBEq, reduceCtorEq, ↓reduceIte, Int.reduceToNat, Int.reduceLE, Int.reduceLT, Int.reduceEq, Int.reduceAdd, Int.reduceSub, Int.reduceMul, List.reduceReplicate, hk, WCR_inl]
  refine hw.mono fun v A' hv => ?_
  obtain ⟨m, els, rfl, hA', hel, hml, htk, hm⟩ := hv
  have hg := gb_encT A' 2 W Hh (l.filter fun s => !misP fb cs s)
  simp only [EVa, EVb, params, nilOk, bound, awayFrom, evM, fillA, setEls, Opd.ev, Fr.get, prune, Option.map, isB, tB, nB, isG, gT, gF, evRes, mapO, one, Nat.reduceAdd, Nat.reduceLeDiff, Nat.reduceEqDiff, Nat.reduceMul, Nat.reduceSub, Nat.reduceLT, Nat.reduceBEq, reduceCtorEq, ↓reduceIte, Int.reduceToNat, Int.reduceLE, Int.reduceLT, Int.reduceEq, Int.reduceAdd, Int.reduceSub, Int.reduceMul, List.reduceReplicate, hA', hel, hml, htk, hg]
theorem k33 (W Hh : Nat) (l : List (List Sq)) (hall : AllRun T 49 W Hh l) (p nil p2 nil2 : Bool) (cs0 cs : List Cu) (hf : ∀ sq, sq ∈ l → Fit W Hh sq) (hl : l.length ≤ 1000) (hcl : cs.length ≤ 1000) (ha : ∀ c, c ∈ cs → 0 ≤ c.a ∧ c.a ≤ 1000) (fb : Cu → List Sq → Bool) (hr : ∀ sq, sq ∈ l → ∀ c, c ∈ cs → fitO c W Hh sq = some (fb c sq)) {d : Option Nat} {os : List MOp} {live : List Nat} {S : List KF} {Q : FQ} {fr : Fr} {A : Heap} : WCR T .ro 33 [.agg [.int .i64 (W : Int), .int .i64 (Hh : Int), .lst p 3 nil (cs0.map avU)], .lst p2 3 nil2 (cs.map avU)] d os live S Q fr A ↔ WP T os live S Q (putd d (.lst true 3 false ((l.filter (fun sq => !misP fb cs sq)).map (encT W Hh))) fr) A := (p33 W Hh l hall p nil p2 nil2 cs0 cs hf hl hcl ha fb hr).call (by simp only [mapO, depth_is, bo_agg, bo_int, bo_lU])
/-- What the reference's search hands on. -/
def pzR (W Hh : Nat) (l : List (List Sq)) : AV := if l = [] then .lst true 0 true [] else .lst true 3 false (l.map (encT W Hh))
theorem pzR_len (W Hh : Nat) (l : List (List Sq)) : lenV (pzR W Hh l) = some (.int .i64 (l.length : Nat)) := by
  unfold pzR; split
  · rename_i h; subst h; rfl
  · simp [lenV]
theorem t26 : T 26 = some (.code m26) := rfl
theorem p26 (W Hh : Nat) (p nil p2 nil2 : Bool) (l : List (List Sq)) (cs : List Cu) (hf : ∀ sq, sq ∈ l → Fit W Hh sq ∧ goodP W Hh sq = true) (hl : l.length ≤ 1000) (hcl : cs.length ≤ 1000) (ha : ∀ c, c ∈ cs → 0 ≤ c.a ∧ c.a ≤ 1000) (fb : Cu → List Sq → Bool) (hr : ∀ sq, sq ∈ l → ∀ c, c ∈ cs → fitR c W Hh sq = some (fb c sq)) : Pure T 26 [.lst p 3 nil (l.map (encT W Hh)), .lst p2 3 nil2 (cs.map avU)] (pzR W Hh (l.filter fun sq => cs.all fun c => fb c sq)) := by
  rw [Pure_of t26]
  simp only [m26r0, m26r1, m26r2, m26r3, m26r4, m26r5, m26r6, m26r7, m26r8, m26r9, m26r10, m26r12, m26r13, m26r14, m26r16, m26, EVa, EVb, params, nilOk, bound, awayFrom, evM, fillA, setEls, Opd.ev, Fr.get, prune, Option.map, isB, tB, nB, isG, gT, gF, evRes, mapO, one, Nat.reduceAdd, Nat.reduceLeDiff, Nat.reduceEqDiff, Nat.reduceMul, Nat.reduceSub, Nat.reduceLT, Nat.reduceBEq, reduceCtorEq, ↓reduceIte, Int.reduceToNat, Int.reduceLE, Int.reduceLT, Int.reduceEq, Int.reduceAdd, Int.reduceSub, Int.reduceMul, List.reduceReplicate]
  refine WS_loop' (σ := Nat × AV × Heap) (fun s => [(1, .lst p2 3 nil2 (cs.map avU)), (5, s.2.1), (11, .lst p 3 nil (l.map (encT W Hh))), (12, .int .i64 l.length), (13, .int .i64 (s.1 : Int))])
    (fun s => s.2.2) (fun s => l.length - s.1) (fun s => s.1 ≤ l.length ∧ Bld s.2.2 37 3 s.2.1 (((l.take s.1).filter fun sq => cs.all fun c => fb c sq).map (encT W Hh)) ∧ (s.2.1 = .lst true 0 true [] ∨ ((l.take s.1).filter fun sq => cs.all fun c => fb c sq) ≠ [])) (0, .lst true 0 true [], []) rfl rfl ⟨by simp, Bld.nil _ _ _, .inl rfl⟩ ?_
  rintro ⟨i, v, H⟩ ⟨hi, hB, hnv⟩
  dsimp only at hi hB hnv
  by_cases hlt : i < l.length
  · have e1 : (l.map (encT W Hh))[i]? = some (encT W Hh l[i]) := map_get hlt
    have e4 := wsucc (i := i) (by omega)
    have hst := filterT_step (fun sq => cs.all fun c => fb c sq) l i hlt
    have hfl : ((l.take i).filter fun sq => cs.all fun c => fb c sq).length ≤ 1000 := Nat.le_trans (List.length_filter_le _ _) (by simp; omega)
    have hmem := List.getElem_mem hlt
    simp only [m26l15, m26r0, m26r1, m26r2, m26r3, m26r4, m26r5, m26r6, m26r7, m26r8, m26r9, m26r10, m26r12, m26r13, m26r14, m26r16, m26, EVa, EVb, params, nilOk, bound, awayFrom, evM, fillA, setEls, Opd.ev, Fr.get, prune, Option.map, isB, tB, nB, isG, gT, gF, evRes, mapO, one, Nat.reduceAdd, Nat.reduceLeDiff, Nat.reduceEqDiff, Nat.reduceMul, Nat.reduceSub, Nat.reduceLT, Nat.reduceBEq, reduceCtorEq, ↓reduceIte, Int.reduceToNat, Int.reduceLE, Int.reduceLT, Int.reduceEq, Int.reduceAdd, Int.reduceSub, Int.reduceMul, List.reduceReplicate, e1, hlt, encT]
    refine WS_loop' (σ := Nat × Bool × Heap) (fun s => [(1, .lst p2 3 nil2 (cs.map avU)), (5, v), (7, .ptr H.length 1 0 0), (8, .bool s.2.1), (11, .lst p 3 nil (l.map (encT W Hh))), (12, .int .i64 l.length), (13, .int .i64 (i : Int)), (17, .lst p2 3 nil2 (cs.map avU)), (18, .int .i64 cs.length), (19, .int .i64 (s.1 : Int))])
      (fun s => s.2.2) (fun s => cs.length - s.1) (fun s => s.1 ≤ cs.length ∧ (s.2.1 && (cs.drop s.1).all fun c => fb c l[i]) = (cs.all fun c => fb c l[i]) ∧ s.2.2[H.length]? = some ⟨37, 3, [encT W Hh l[i]]⟩ ∧ Bld s.2.2 37 3 v (((l.take i).filter fun sq => cs.all fun c => fb c sq).map (encT W Hh))) (0, true, _) rfl rfl ⟨by simp, by simp, by rw [h_get0]; rfl, hB.more⟩ ?_
    rintro ⟨j, b, E⟩ ⟨hj, hb, hE, hBE⟩
    dsimp only at hj hb hE hBE
    by_cases hjl : j < cs.length
    · have f1 : (cs.map avU)[j]? = some (avU cs[j]) := map_get hjl
      have f4 := wsucc (i := j) (by omega)
      have hcm := List.getElem_mem hjl
      have hE' : ∀ b, (E ++ [b])[H.length]? = some ⟨37, 3, [.agg [.int .i64 (W : Int), .int .i64 (Hh : Int), .lst true 3 false (l[i].map avS)]]⟩ := fun b => h_get_of hE
      rw [all_drop _ _ _ hjl] at hb
      have hrun := r44 cs[j].k cs[j].a cs[j].b W Hh true false l[i] (hf _ hmem).1 (hf _ hmem).2 (ha _ hcm) _ (hr _ hmem _ hcm)
      have hk := fun {d os live S Q fr A} => (WCR_inl (T := T) (f := 44) (args := [.agg [.int .i64 cs[j].k, .int .i64 cs[j].a, .int .i64 cs[j].b], .agg [.int .i64 (W : Int), .int .i64 (Hh : Int), .lst true 3 false (l[i].map avS)]]) (d := d) (os := os) (live := live) (S := S) (Q := Q) (fr := fr) (A := A)).trans (hrun A).iff
      cases b with
      | true =>
        simp only [m26l11, m26r0, m26r1, m26r2, m26r3, m26r4, m26r5, m26r6, m26r7, m26r8, m26r9, m26r10, m26r12, m26r13, m26r14, m26r16, m26, EVa, EVb, params, nilOk, bound, awayFrom, evM, fillA, setEls, Opd.ev, Fr.get, prune, Option.map, isB, tB, nB, isG, gT, gF, evRes, mapO, one, Nat.reduceAdd, Nat.reduceLeDiff, Nat.reduceEqDiff, Nat.reduceMul, Nat.reduceSub, Nat.reduceLT, Nat.reduceBEq, reduceCtorEq, ↓reduceIte, Int.reduceToNat, Int.reduceLE, Int.reduceLT, Int.reduceEq, Int.reduceAdd, Int.reduceSub, Int.reduceMul, List.reduceReplicate, f1, f4, hjl, avU, hE', hk]
        exact ⟨(_, fb cs[j] l[i], _), ⟨rfl, rfl⟩, ⟨hjl, by simpa using hb, hE' _, hBE.more⟩, by simp only; omega⟩
      | false =>
        simp only [m26l11, m26r0, m26r1, m26r2, m26r3, m26r4, m26r5, m26r6, m26r7, m26r8, m26r9, m26r10, m26r12, m26r13, m26r14, m26r16, m26, EVa, EVb, params, nilOk, bound, awayFrom, evM, fillA, setEls, Opd.ev, Fr.get, prune, Option.map, isB, tB, nB, isG, gT, gF, evRes, mapO, one, Nat.reduceAdd, Nat.reduceLeDiff, Nat.reduceEqDiff, Nat.reduceMul, Nat.reduceSub, Nat.reduceLT, Nat.reduceBEq, reduceCtorEq, ↓reduceIte, Int.reduceToNat, Int.reduceLE, Int.reduceLT, Int.reduceEq, Int.reduceAdd, Int.reduceSub, Int.reduceMul, List.reduceReplicate, f1, f4, hjl, avU, hE', hk]
        exact ⟨(_, false, _), ⟨rfl, rfl⟩, ⟨hjl, by simpa using hb, hE' _, hBE.more⟩, by simp only; omega⟩
    · rw [all_end _ _ _ hjl, Bool.and_true] at hb
      have hE2 : E[H.length]? = some ⟨37, 3, [.agg [.int .i64 (W : Int), .int .i64 (Hh : Int), .lst true 3 false (l[i].map avS)]]⟩ := hE
      cases b with
      | true =>
        rw [← hb] at hst
        simp only [m26l11, m26r0, m26r1, m26r2, m26r3, m26r4, m26r5, m26r6, m26r7, m26r8, m26r9, m26r10, m26r12, m26r13, m26r14, m26r16, m26, EVa, EVb, params, nilOk, bound, awayFrom, evM, fillA, setEls, Opd.ev, Fr.get, prune, Option.map, isB, tB, nB, isG, gT, gF, evRes, mapO, one, Nat.reduceAdd, Nat.reduceLeDiff, Nat.reduceEqDiff, Nat.reduceMul, Nat.reduceSub, Nat.reduceLT, Nat.reduceBEq, reduceCtorEq, ↓reduceIte, Int.reduceToNat, Int.reduceLE, Int.reduceLT, Int.reduceEq, Int.reduceAdd, Int.reduceSub, Int.reduceMul, List.reduceReplicate, hjl, hE2]
        refine WV_app' hBE (by simp; omega) ?_
        intro v' A' hB' hL' hF'
        simp only [EVa, EVb, params, nilOk, bound, awayFrom, evM, fillA, setEls, Opd.ev, Fr.get, prune, Option.map, isB, tB, nB, isG, gT, gF, evRes, mapO, one, Nat.reduceAdd, Nat.reduceLeDiff, Nat.reduceEqDiff, Nat.reduceMul, Nat.reduceSub, Nat.reduceLT, Nat.reduceBEq, reduceCtorEq, ↓reduceIte, Int.reduceToNat, Int.reduceLE, Int.reduceLT, Int.reduceEq, Int.reduceAdd, Int.reduceSub, Int.reduceMul, List.reduceReplicate, e4]
        refine ⟨(_, v', _), ⟨rfl, rfl⟩, ⟨hlt, ?_, .inr ?_⟩, by simp only; omega⟩
        · simp only
          rw [hst, if_pos rfl, List.map_append]
          exact hB'
        · simp only
          rw [hst, if_pos rfl]; simp
      | false =>
        rw [← hb] at hst
        simp only [m26l11, m26r0, m26r1, m26r2, m26r3, m26r4, m26r5, m26r6, m26r7, m26r8, m26r9, m26r10, m26r12, m26r13, m26r14, m26r16, m26, EVa, EVb, params, nilOk, bound, awayFrom, evM, fillA, setEls, Opd.ev, Fr.get, prune, Option.map, isB, tB, nB, isG, gT, gF, evRes, mapO, one, Nat.reduceAdd, Nat.reduceLeDiff, Nat.reduceEqDiff, Nat.reduceMul, Nat.reduceSub, Nat.reduceLT, Nat.reduceBEq, reduceCtorEq, ↓reduceIte, Int.reduceToNat, Int.reduceLE, Int.reduceLT, Int.reduceEq, Int.reduceAdd, Int.reduceSub, Int.reduceMul, List.reduceReplicate, hjl, e4]
        refine ⟨(_, v, _), ⟨rfl, rfl⟩, ⟨hlt, ?_, ?_⟩, by simp only; omega⟩
        · simp only
          rw [hst]
          simpa using hBE
        · simp only
          rw [hst]
          simpa using hnv
  · have : i = l.length := by omega
    subst this
    rw [List.take_length] at hB hnv
    generalize (l.filter fun sq => cs.all fun c => fb c sq) = r at hB hnv ⊢
    simp only [m26l15, m26r0, m26r1, m26r2, m26r3, m26r4, m26r5, m26r6, m26r7, m26r8, m26r9, m26r10, m26r12, m26r13, m26r14, m26r16, m26, EVa, EVb, params, nilOk, bound, awayFrom, evM, fillA, setEls, Opd.ev, Fr.get, prune, Option.map, isB, tB, nB, isG, gT, gF, evRes, mapO, one, Nat.reduceAdd, Nat.reduceLeDiff, Nat.reduceEqDiff, Nat.reduceMul, Nat.reduceSub, Nat.reduceLT, Nat.reduceBEq, reduceCtorEq, ↓reduceIte, Int.reduceToNat, Int.reduceLE, Int.reduceLT, Int.reduceEq, Int.reduceAdd, Int.reduceSub, Int.reduceMul, List.reduceReplicate, hlt]
    unfold pzR
    rcases hB with ⟨rfl, hx⟩ | ⟨id, rfl, hid⟩
    · have : r = [] := by simpa using hx
      rw [if_pos this]; rfl
    · by_cases hre : r = []
      · exact absurd hre (hnv.resolve_left (by simp))
      · rw [if_neg hre, gt_sl]
        exact gb_sl hid (by simp) (by simp) (by rw [List.drop_zero, List.take_of_length_le (by simp)]; exact gb_encT H 2 W Hh r)
theorem k26 (W Hh : Nat) (p nil p2 nil2 : Bool) (l : List (List Sq)) (cs : List Cu) (hf : ∀ sq, sq ∈ l → Fit W Hh sq ∧ goodP W Hh sq = true) (hl : l.length ≤ 1000) (hcl : cs.length ≤ 1000) (ha : ∀ c, c ∈ cs → 0 ≤ c.a ∧ c.a ≤ 1000) (fb : Cu → List Sq → Bool) (hr : ∀ sq, sq ∈ l → ∀ c, c ∈ cs → fitR c W Hh sq = some (fb c sq)) {d : Option Nat} {os : List MOp} {live : List Nat} {S : List KF} {Q : FQ} {fr : Fr} {A : Heap} : WCR T .ro 26 [.lst p 3 nil (l.map (encT W Hh)), .lst p2 3 nil2 (cs.map avU)] d os live S Q fr A ↔ WP T os live S Q (putd d (pzR W Hh (l.filter fun sq => cs.all fun c => fb c sq)) fr) A := (p26 W Hh p nil p2 nil2 l cs hf hl hcl ha fb hr).call (by simp only [mapO, depth_is, bo_lst_id (bo_encT _ 2 _ _ _), bo_lU])
end Go.Ev.Z
end

section
set_option maxRecDepth 100000
set_option linter.unusedSimpArgs false
set_option linter.unusedVariables false
namespace Go.Ev.Z
open Go Go.Ev
/-- What is known of all cuts of a size. -/
structure Dat (W Hh : Nat) (l : List (List Sq)) : Prop where
  all : AllRun T 49 W Hh l
  ct : CtRun T 43 W Hh l
  fit : ∀ sq, sq ∈ l → Fit W Hh sq ∧ goodP W Hh sq = true
  len : l.length ≤ 1000
  ag : ∀ c, clueP W Hh c = true → ∀ sq, sq ∈ l → ∃ b, fitO c W Hh sq = some b ∧ fitR c W Hh sq = some b
theorem Dat.o {W Hh : Nat} {l : List (List Sq)} (D : Dat W Hh l) {c : Cu} (hc : clueP W Hh c = true) {sq : List Sq} (hs : sq ∈ l) : fitO c W Hh sq = some (fbP W Hh c sq) := by
  obtain ⟨b, h1, _⟩ := D.ag c hc sq hs
  simp [fbP, h1]
theorem Dat.r {W Hh : Nat} {l : List (List Sq)} (D : Dat W Hh l) {c : Cu} (hc : clueP W Hh c = true) {sq : List Sq} (hs : sq ∈ l) : fitR c W Hh sq = some (fbP W Hh c sq) := by
  obtain ⟨b, h1, h2⟩ := D.ag c hc sq hs
  simp [fbP, h1, h2]
theorem goodZ_all {w h : Int} {cs : List Cu} (hg : goodZ w h cs = true) : hidP w h = true ∧ cs.length ≤ 6 ∧ ∀ c, c ∈ cs → clueP w h c = true := by
  simpa [goodZ, and_assoc] using hg
/-- the program's search -/
theorem pwith {W Hh : Nat} {l : List (List Sq)} (D : Dat W Hh l) (hh : hidP W Hh = true) (p nil p2 nil2 : Bool) (cs0 cs : List Cu) (hl : cs.length ≤ 6) (hc : ∀ c, c ∈ cs → clueP W Hh c = true) :
    Pure T 33 [.agg [.int .i64 (W : Int), .int .i64 (Hh : Int), .lst p 3 nil (cs0.map avU)], .lst p2 3 nil2 (cs.map avU)] (.lst true 3 false ((solP W Hh l cs).map (encT W Hh))) := by
  have h := p33 W Hh l D.all p nil p2 nil2 cs0 cs (fun sq hs => (D.fit sq hs).1) D.len (by omega) (fun c h => clueP_a hh (hc c h)) (fbP W Hh) (fun sq hs c h => D.o (hc c h) hs)
  have : (l.filter fun sq => !misP (fbP W Hh) cs sq) = solP W Hh l cs := by
    unfold solP misP
    congr 1
    funext sq
    exact mis_all _ _ _
  rw [this] at h
  exact h
theorem kwith {W Hh : Nat} {l : List (List Sq)} (D : Dat W Hh l) (hh : hidP W Hh = true) (p nil p2 nil2 : Bool) (cs0 cs : List Cu) (hl : cs.length ≤ 6) (hc : ∀ c, c ∈ cs → clueP W Hh c = true)
    {d : Option Nat} {os : List MOp} {live : List Nat} {S : List KF} {Q : FQ} {fr : Fr} {A : Heap} : WCR T .ro 33 [.agg [.int .i64 (W : Int), .int .i64 (Hh : Int), .lst p 3 nil (cs0.map avU)], .lst p2 3 nil2 (cs.map avU)] d os live S Q fr A ↔
      WP T os live S Q (putd d (.lst true 3 false ((solP W Hh l cs).map (encT W Hh))) fr) A :=
  (pwith D hh p nil p2 nil2 cs0 cs hl hc).call (by simp only [mapO, depth_is, bo_agg, bo_int, bo_lU])
/-- the reference's search -/
theorem kpzAll {W Hh : Nat} {l : List (List Sq)} (D : Dat W Hh l) (hh : hidP W Hh = true) (p nil p2 nil2 : Bool) (cs : List Cu) (hl : cs.length ≤ 6) (hc : ∀ c, c ∈ cs → clueP W Hh c = true)
    {d : Option Nat} {os : List MOp} {live : List Nat} {S : List KF} {Q : FQ} {fr : Fr} {A : Heap} : WCR T .ro 26 [.lst p 3 nil (l.map (encT W Hh)), .lst p2 3 nil2 (cs.map avU)] d os live S Q fr A ↔
      WP T os live S Q (putd d (pzR W Hh (solP W Hh l cs)) fr) A :=
  k26 W Hh p nil p2 nil2 l cs D.fit D.len (by omega) (fun c h => clueP_a hh (hc c h)) (fbP W Hh) (fun sq hs c h => D.r (hc c h) hs)
theorem t19 : T 19 = some (.code m19) := rfl
theorem p19 (W Hh : Nat) (l : List (List Sq)) (D : Dat W Hh l) (p nil : Bool) (cs : List Cu) (hg : goodZ W Hh cs = true) : Pure T 19 [.agg [.int .i64 (W : Int), .int .i64 (Hh : Int), .lst p 3 nil (cs.map avU)]] (.tup [.lst true 3 false ((solP W Hh l cs).map (encT W Hh)), .bool true]) := by
  rw [Pure_of t19]
  obtain ⟨hh, hl, hc⟩ := goodZ_all hg
  have hk := fun {d os live S Q fr A} => kwith D hh p nil p nil cs cs hl hc (d := d) (os := os) (live := live) (S := S) (Q := Q) (fr := fr) (A := A)
  simp only [m19r0, m19r1, m19r2, m19r3, m19, EVa, EVb, params, nilOk, bound, awayFrom, evM, fillA, setEls, Opd.ev, Fr.get, prune, Option.map, isB, tB, nB, isG, gT, gF, evRes, mapO, one, Nat.reduceAdd, Nat.reduceLeDiff, Nat.reduceEqDiff, Nat.reduceMul, Nat.reduceSub, Nat.reduceLT, Nat.reduceBEq, reduceCtorEq, ↓reduceIte, Int.reduceToNat, Int.reduceLE, Int.reduceLT, Int.reduceEq, Int.reduceAdd, Int.reduceSub, Int.reduceMul, List.reduceReplicate, k40, hg, hk]
theorem k19 (W Hh : Nat) (l : List (List Sq)) (D : Dat W Hh l) (p nil : Bool) (cs : List Cu) (hg : goodZ W Hh cs = true) {d : Option Nat} {os : List MOp} {live : List Nat} {S : List KF} {Q : FQ} {fr : Fr} {A : Heap} : WCR T .ro 19 [.agg [.int .i64 (W : Int), .int .i64 (Hh : Int), .lst p 3 nil (cs.map avU)]] d os live S Q fr A ↔ WP T os live S Q (putd d (.tup [.lst true 3 false ((solP W Hh l cs).map (encT W Hh)), .bool true]) fr) A := (p19 W Hh l D p nil cs hg).call (by simp only [mapO, depth_is, bo_agg, bo_int, bo_lU])
theorem p19n (w h : Int) (p nil : Bool) (cs : List Cu) (hg : goodZ w h cs = false) : Pure T 19 [.agg [.int .i64 w, .int .i64 h, .lst p 3 nil (cs.map avU)]] (.tup [.lst true 0 true [], .bool false]) := by
  rw [Pure_of t19]
  simp only [m19r0, m19r1, m19r2, m19r3, m19, EVa, EVb, params, nilOk, bound, awayFrom, evM, fillA, setEls, Opd.ev, Fr.get, prune, Option.map, isB, tB, nB, isG, gT, gF, evRes, mapO, one, Nat.reduceAdd, Nat.reduceLeDiff, Nat.reduceEqDiff, Nat.reduceMul, Nat.reduceSub, Nat.reduceLT, Nat.reduceBEq, reduceCtorEq, ↓reduceIte, Int.reduceToNat, Int.reduceLE, Int.reduceLT, Int.reduceEq, Int.reduceAdd, Int.reduceSub, Int.reduceMul, List.reduceReplicate, k40, hg]
theorem k19n (w h : Int) (p nil : Bool) (cs : List Cu) (hg : goodZ w h cs = false) {d : Option Nat} {os : List MOp} {live : List Nat} {S : List KF} {Q : FQ} {fr : Fr} {A : Heap} : WCR T .ro 19 [.agg [.int .i64 w, .int .i64 h, .lst p 3 nil (cs.map avU)]] d os live S Q fr A ↔ WP T os live S Q (putd d (.tup [.lst true 0 true [], .bool false]) fr) A := (p19n w h p nil cs hg).call (by simp only [mapO, depth_is, bo_agg, bo_int, bo_lU])
theorem t46 : T 46 = some (.code m46) := rfl
theorem p46 (W Hh : Nat) (l : List (List Sq)) (D : Dat W Hh l) (p nil : Bool) (cs : List Cu) (hg : goodZ W Hh cs = true) : Pure T 46 [.agg [.int .i64 (W : Int), .int .i64 (Hh : Int), .lst p 3 nil (cs.map avU)]] (.tup [.int .i64 (solP W Hh l cs).length, .bool true]) := by
  rw [Pure_of t46]
  simp only [m46r0, m46r1, m46r2, m46, EVa, EVb, params, nilOk, bound, awayFrom, evM, fillA, setEls, Opd.ev, Fr.get, prune, Option.map, isB, tB, nB, isG, gT, gF, evRes, mapO, one, Nat.reduceAdd, Nat.reduceLeDiff, Nat.reduceEqDiff, Nat.reduceMul, Nat.reduceSub, Nat.reduceLT, Nat.reduceBEq, reduceCtorEq, ↓reduceIte, Int.reduceToNat, Int.reduceLE, Int.reduceLT, Int.reduceEq, Int.reduceAdd, Int.reduceSub, Int.reduceMul, List.reduceReplicate, k19 W Hh l D p nil cs hg]
theorem k46 (W Hh : Nat) (l : List (List Sq)) (D : Dat W Hh l) (p nil : Bool) (cs : List Cu) (hg : goodZ W Hh cs = true) {d : Option Nat} {os : List MOp} {live : List Nat} {S : List KF} {Q : FQ} {fr : Fr} {A : Heap} : WCR T .ro 46 [.agg [.int .i64 (W : Int), .int .i64 (Hh : Int), .lst p 3 nil (cs.map avU)]] d os live S Q fr A ↔ WP T os live S Q (putd d (.tup [.int .i64 (solP W Hh l cs).length, .bool true]) fr) A := (p46 W Hh l D p nil cs hg).call (by simp only [mapO, depth_is, bo_agg, bo_int, bo_lU])
theorem p46n (w h : Int) (p nil : Bool) (cs : List Cu) (hg : goodZ w h cs = false) : Pure T 46 [.agg [.int .i64 w, .int .i64 h, .lst p 3 nil (cs.map avU)]] (.tup [.int .i64 0, .bool false]) := by
  rw [Pure_of t46]
  simp only [m46r0, m46r1, m46r2, m46, EVa, EVb, params, nilOk, bound, awayFrom, evM, fillA, setEls, Opd.ev, Fr.get, prune, Option.map, isB, tB, nB, isG, gT, gF, evRes, mapO, one, Nat.reduceAdd, Nat.reduceLeDiff, Nat.reduceEqDiff, Nat.reduceMul, Nat.reduceSub, Nat.reduceLT, Nat.reduceBEq, reduceCtorEq, ↓reduceIte, Int.reduceToNat, Int.reduceLE, Int.reduceLT, Int.reduceEq, Int.reduceAdd, Int.reduceSub, Int.reduceMul, List.reduceReplicate, k19n w h p nil cs hg]
theorem k46n (w h : Int) (p nil : Bool) (cs : List Cu) (hg : goodZ w h cs = false) {d : Option Nat} {os : List MOp} {live : List Nat} {S : List KF} {Q : FQ} {fr : Fr} {A : Heap} : WCR T .ro 46 [.agg [.int .i64 w, .int .i64 h, .lst p 3 nil (cs.map avU)]] d os live S Q fr A ↔ WP T os live S Q (putd d (.tup [.int .i64 0, .bool false]) fr) A := (p46n w h p nil cs hg).call (by simp only [mapO, depth_is, bo_agg, bo_int, bo_lU])
def oneP (W Hh : Nat) (l : List (List Sq)) (cs : List Cu) : Bool := decide ((solP W Hh l cs).length = 1)
theorem one_cast {n : Nat} : (((n : Int) = 1) : Prop) = (n = 1) := by apply propext; omega
theorem t30 : T 30 = some (.code m30) := rfl
theorem p30 (W Hh : Nat) (l : List (List Sq)) (D : Dat W Hh l) (p nil : Bool) (cs : List Cu) (hg : goodZ W Hh cs = true) : Pure T 30 [.agg [.int .i64 (W : Int), .int .i64 (Hh : Int), .lst p 3 nil (cs.map avU)]] (.tup [.bool (oneP W Hh l cs), .bool true]) := by
  rw [Pure_of t30]
  simp only [m30r0, m30r1, m30r2, m30, EVa, EVb, params, nilOk, bound, awayFrom, evM, fillA, setEls, Opd.ev, Fr.get, prune, Option.map, isB, tB, nB, isG, gT, gF, evRes, mapO, one, Nat.reduceAdd, Nat.reduceLeDiff, Nat.reduceEqDiff, Nat.reduceMul, Nat.reduceSub, Nat.reduceLT, Nat.reduceBEq, reduceCtorEq, ↓reduceIte, Int.reduceToNat, Int.reduceLE, Int.reduceLT, Int.reduceEq, Int.reduceAdd, Int.reduceSub, Int.reduceMul, List.reduceReplicate, k46 W Hh l D p nil cs hg, one_cast]
  rfl
theorem k30 (W Hh : Nat) (l : List (List Sq)) (D : Dat W Hh l) (p nil : Bool) (cs : List Cu) (hg : goodZ W Hh cs = true) {d : Option Nat} {os : List MOp} {live : List Nat} {S : List KF} {Q : FQ} {fr : Fr} {A : Heap} : WCR T .ro 30 [.agg [.int .i64 (W : Int), .int .i64 (Hh : Int), .lst p 3 nil (cs.map avU)]] d os live S Q fr A ↔ WP T os live S Q (putd d (.tup [.bool (oneP W Hh l cs), .bool true]) fr) A := (p30 W Hh l D p nil cs hg).call (by simp only [mapO, depth_is, bo_agg, bo_int, bo_lU])
theorem p30n (w h : Int) (p nil : Bool) (cs : List Cu) (hg : goodZ w h cs = false) : Pure T 30 [.agg [.int .i64 w, .int .i64 h, .lst p 3 nil (cs.map avU)]] (.tup [.bool false, .bool false]) := by
  rw [Pure_of t30]
  simp only [m30r0, m30r1, m30r2, m30, EVa, EVb, params, nilOk, bound, awayFrom, evM, fillA, setEls, Opd.ev, Fr.get, prune, Option.map, isB, tB, nB, isG, gT, gF, evRes, mapO, one, Nat.reduceAdd, Nat.reduceLeDiff, Nat.reduceEqDiff, Nat.reduceMul, Nat.reduceSub, Nat.reduceLT, Nat.reduceBEq, reduceCtorEq, ↓reduceIte, Int.reduceToNat, Int.reduceLE, Int.reduceLT, Int.reduceEq, Int.reduceAdd, Int.reduceSub, Int.reduceMul, List.reduceReplicate, k46n w h p nil cs hg]
theorem k30n (w h : Int) (p nil : Bool) (cs : List Cu) (hg : goodZ w h cs = false) {d : Option Nat} {os : List MOp} {live : List Nat} {S : List KF} {Q : FQ} {fr : Fr} {A : Heap} : WCR T .ro 30 [.agg [.int .i64 w, .int .i64 h, .lst p 3 nil (cs.map avU)]] d os live S Q fr A ↔ WP T os live S Q (putd d (.tup [.bool false, .bool false]) fr) A := (p30n w h p nil cs hg).call (by simp only [mapO, depth_is, bo_agg, bo_int, bo_lU])
theorem t31 : T 31 = some (.code m31) := rfl
theorem t47 : T 47 = some (.code m47) := rfl
theorem t32 : T 32 = some (.code m32) := rfl
theorem r47 (A : Heap) (id : Nat) (cs : List Cu) (k : Nat) (hk : k < cs.length) (hl : cs.length ≤ 1000) (hA : A[id]? = some ⟨58, 3, cs.map avU⟩) :
    Runs T 47 [.sl id 3 cs.length 0 cs.length, .int .i64 (k : Int), .int .i64 ((k + 1 : Nat) : Int)] A (.sl id 3 cs.length 0 (cs.length - 1)) (A.set id ⟨58, 3, (cs.eraseIdx k).map avU ++ [.agg [.int .i64 0, .int .i64 0, .int .i64 0]]⟩) := by
  refine Runs.of ?_
  rw [WS_of t47]
  have hid := lt_of_get hA
  have c1 : k ≤ k + 1 := Nat.le_succ k
  have c2 : k + 1 ≤ cs.length := hk
  have c3 : ((k : Int) = ((k + 1 : Nat) : Int)) = False := eq_false (by omega)
  have c4 : k ≤ cs.length := by omega
  have hem : ((cs.eraseIdx k).map avU).length = cs.length - 1 := by rw [List.length_map, List.length_eraseIdx_of_lt hk]
  have hel : (cs.eraseIdx k).length = cs.length - 1 := by rw [List.length_eraseIdx_of_lt hk]
  have hE1 : ((cs.eraseIdx k).map avU ++ (cs.map avU).drop (cs.length - 1)).length = cs.length := by rw [List.length_append, hem, List.length_drop, List.length_map]; omega
  have a1 : appV 58 3 24 A (.sl id 3 cs.length 0 k) (.sl id 3 cs.length (k + 1) (cs.length - (k + 1))) = some (.sl id 3 cs.length 0 (cs.length - 1), A.set id ⟨58, 3, (cs.eraseIdx k).map avU ++ (cs.map avU).drop (cs.length - 1)⟩) := by
    rw [appV_sl hA (by simp) (by omega)]
    have hx : (((cs.map avU).drop (k + 1)).take (cs.length - (k + 1))) = (cs.map avU).drop (k + 1) := List.take_of_length_le (by simp)
    simp only [hx]
    rw [app_in hA (by simp) (by simp; omega) (by simp; omega)]
    have h1 : k + ((cs.map avU).drop (k + 1)).length = cs.length - 1 := by simp; omega
    have h2 : 0 + k + ((cs.map avU).drop (k + 1)).length = cs.length - 1 := by simp; omega
    rw [h1, h2, List.eraseIdx_eq_take_drop_succ, List.map_append, List.map_take, List.map_drop, Nat.zero_add]
  have a2 : ∀ els, (A.set id ⟨58, 3, els⟩)[id]? = some ⟨58, 3, els⟩ := fun els => h_set_get hid
  have a3 : hiOk (A.set id ⟨58, 3, (cs.eraseIdx k).map avU ++ (cs.map avU).drop (cs.length - 1)⟩) id cs.length 0 (cs.length - 1) (cs.length : Int) = true := by
    simp only [hiOk, a2, hE1]
    simp
  have c5 : cs.length - 1 ≤ cs.length := Nat.sub_le _ _
  have c6 : cs.length - (cs.length - 1) = 1 := by omega
  have c7 : cs.length - 1 + 1 = cs.length := by omega
  have c8 : (cs.length - 1) + (cs.length - (cs.length - 1)) = cs.length := by omega
  have c9 : cs.length - 1 + (cs.length - (cs.length - 1)) ≤ cs.length := by omega
  have hE2 : cs.length - 1 + (cs.length - (cs.length - 1)) = cs.length := by omega
  have t1 : ((cs.eraseIdx k).map avU ++ (cs.map avU).drop (cs.length - 1)).take (cs.length - 1) = (cs.eraseIdx k).map avU := by
    rw [List.take_append_of_le_length (by rw [hem]; exact Nat.le_refl _), List.take_of_length_le (by rw [hem]; exact Nat.le_refl _)]
  have t2 : ((cs.eraseIdx k).map avU ++ (cs.map avU).drop (cs.length - 1)).drop cs.length = [] := List.drop_eq_nil_of_le (by rw [hE1]; exact Nat.le_refl _)
  generalize (cs.eraseIdx k).map avU ++ (cs.map avU).drop (cs.length - 1) = E1 at hE1 a1 a3 t1 t2
  simp only [m47r0, m47r1, m47r2, m47r3, m47r4, m47r5, m47r6, m47r7, m47, EVa, EVb, params, nilOk, bound, awayFrom, evM, fillA, setEls, Opd.ev, Fr.get, prune, Option.map, isB, tB, nB, isG, gT, gF, evRes, mapO, one, Nat.reduceAdd, Nat.reduceLeDiff, Nat.reduceEqDiff, Nat.reduceMul, Nat.reduceSub, Nat.reduceLT, Nat.reduceBEq, reduceCtorEq, ↓reduceIte, Int.reduceToNat, Int.reduceLE, Int.reduceLT, Int.reduceEq, Int.reduceAdd, Int.reduceSub, Int.reduceMul, List.reduceReplicate, c1, c2, c3, c4, a1, a2, a3, c5, c6, c7, hE1, t1, t2, List.set_set]
end Go.Ev.Z
end

section
set_option maxRecDepth 100000
set_option linter.unusedSimpArgs false
set_option linter.unusedVariables false
namespace Go.Ev.Z
open Go Go.Ev
def zU : Cu := ⟨0, 0, 0⟩
theorem r31 (p : Bool) (cs : List Cu) (hl : cs.length ≤ 1000) : Runs T 31 [.lst p 3 false (cs.map avU)] [] (.sl 0 3 cs.length 0 cs.length) [⟨58, 3, cs.map avU⟩] := by
  refine Runs.of ?_
  rw [WS_of t31]
  have ha : appEls 58 [⟨58, 3, []⟩] 3 24 (.sl 0 3 0 0 0) (cs.map avU) = some (.sl 0 3 cs.length 0 cs.length, [⟨58, 3, cs.map avU⟩]) := by
    have := app_end (A := [⟨58, 3, []⟩]) (ty := 58) (sz := 3) (bytes := 24) (bsz := 3) (id := 0) (ver := 0) (len := 0) (els := []) (xs := cs.map avU) rfl rfl rfl (by simp; omega)
    simpa using this
  simp only [m31r0, m31r1, m31r2, m31r3, m31, EVa, EVb, params, nilOk, bound, awayFrom, evM, fillA, setEls, Opd.ev, Fr.get, prune, Option.map, isB, tB, nB, isG, gT, gF, evRes, mapO, one, Nat.reduceAdd, Nat.reduceLeDiff, Nat.reduceEqDiff, Nat.reduceMul, Nat.reduceSub, Nat.reduceLT, Nat.reduceBEq, reduceCtorEq, ↓reduceIte, Int.reduceToNat, Int.reduceLE, Int.reduceLT, Int.reduceEq, Int.reduceAdd, Int.reduceSub, Int.reduceMul, List.reduceReplicate, ha]
theorem emb_avU (n : Nat) (cs : List Cu) : mapO (embedB n depth) [⟨58, 3, cs.map avU⟩] = some [⟨58, 3, cs.map avU⟩] := by
  simp only [mapO, embedB, depth_is, em_avU]
section
variable {d : Option Nat} {os : List MOp} {live : List Nat} {S : List KF} {Q : FQ} {fr : Fr} {A : Heap}
theorem o31 (v : AV) (p : Bool) (cs : List Cu) (hl : cs.length ≤ 1000) (hv : borrow A 6 v = some (.lst p 3 false (cs.map avU))) : WCR T .own 31 [v] d os live S Q fr A ↔ WP T os live S Q (putd d (.sl A.length 3 cs.length 0 cs.length) fr) (A ++ [⟨58, 3, cs.map avU⟩]) := by
  unfold WCR
  rw [WD_own]
  have hb : mapO (borrow A depth) [v] = some [.lst p 3 false (cs.map avU)] := by simp only [mapO, depth_is, hv]
  rw [hb]
  simp only
  rw [(r31 p cs hl).iff]
  simp only [depth_is, em_sl, Nat.zero_add]
  have := emb_avU A.length cs
  simp only [depth_is] at this
  rw [this]
theorem r32 (p : Bool) (cs : List Cu) (k : Nat) (hk : k < cs.length) (hl : cs.length ≤ 1000) : Runs T 32 [.lst p 3 false (cs.map avU), .int .i64 (k : Int)] [] (.sl 0 3 cs.length 0 (cs.length - 1)) [⟨58, 3, (cs.eraseIdx k ++ [zU]).map avU⟩] := by
  refine Runs.of ?_
  rw [WS_of t32]
  have w1 := wsucc (i := k) (by omega)
  have hc := fun {d os live S Q fr} => o31 (d := d) (os := os) (live := live) (S := S) (Q := Q) (fr := fr) (A := []) (.lst p 3 false (cs.map avU)) p cs hl (bo_lU [] 3 p false 3 cs)
  have hd := (r47 [⟨58, 3, cs.map avU⟩] 0 cs k hk hl rfl).iff (K := fun v A' => v = .sl 0 3 cs.length 0 (cs.length - 1) ∧ A' = [⟨58, 3, (cs.eraseIdx k ++ [zU]).map avU⟩])
  have hd2 := fun {d os live S Q fr} => (WCR_inl (T := T) (f := 47) (args := [.sl 0 3 cs.length 0 cs.length, .int .i64 (k : Int), .int .i64 ((k + 1 : Nat) : Int)]) (d := d) (os := os) (live := live) (S := S) (Q := Q) (fr := fr) (A := [⟨58, 3, cs.map avU⟩])).trans (r47 [⟨58, 3, cs.map avU⟩] 0 cs k hk hl rfl).iff
  simp only [m32r0, m32r1, m32, EVa, EVb, params, nilOk, bound, awayFrom, evM, fillA, setEls, Opd.ev, Fr.get, prune, Option.map, isB, tB, nB, isG, gT, gF, evRes, mapO, one, Nat.reduceAdd, Nat.reduceLeDiff, Nat.reduceEqDiff, Nat.reduceMul, Nat.reduceSub, Nat.reduceLT, Nat.reduceBEq, reduceCtorEq, ↓reduceIte, Int.reduceToNat, Int.reduceLE, Int.reduceLT, Int.reduceEq, Int.reduceAdd, Int.reduceSub, Int.reduceMul, List.reduceReplicate, hc, w1, hd2]
  simp [avU, zU]
theorem o32 (v : AV) (p : Bool) (cs : List Cu) (k : Nat) (hk : k < cs.length) (hl : cs.length ≤ 1000) (hv : borrow A 6 v = some (.lst p 3 false (cs.map avU))) :
    WCR T .own 32 [v, .int .i64 (k : Int)] d os live S Q fr A ↔ WP T os live S Q (putd d (.sl A.length 3 cs.length 0 (cs.length - 1)) fr) (A ++ [⟨58, 3, (cs.eraseIdx k ++ [zU]).map avU⟩]) := by
  unfold WCR
  rw [WD_own]
  have hb : mapO (borrow A depth) [v, .int .i64 (k : Int)] = some [.lst p 3 false (cs.map avU), .int .i64 (k : Int)] := by simp only [mapO, depth_is, hv, bo_int]
  rw [hb]
  simp only
  rw [(r32 p cs k hk hl).iff]
  simp only [depth_is, em_sl, Nat.zero_add]
  have := emb_avU A.length (cs.eraseIdx k ++ [zU])
  simp only [depth_is] at this
  rw [this]
end
/-- A block that can be handed on. -/
def EmbB (b : Blk) : Prop := ∀ n, ∃ b', embedB n depth b = some b'
def EmbOK (H : Heap) : Prop := ∀ b, b ∈ H → EmbB b
theorem EmbOK.app {H : Heap} {b : Blk} (h : EmbOK H) (hb : EmbB b) : EmbOK (H ++ [b]) := fun c hc => by
  rcases List.mem_append.1 hc with hc | hc
  · exact h c hc
  · obtain rfl := List.mem_singleton.1 hc; exact hb
theorem EmbOK.set {H : Heap} {b : Blk} {k : Nat} (h : EmbOK H) (hb : EmbB b) : EmbOK (H.set k b) := fun c hc => by
  rcases List.mem_or_eq_of_mem_set hc with hc | rfl
  · exact h c hc
  · exact hb
theorem EmbB.cs (cs : List Cu) : EmbB ⟨58, 3, cs.map avU⟩ := fun n => ⟨⟨58, 3, cs.map avU⟩, by simp only [embedB, depth_is, em_avU]⟩
theorem mapO_get {α β : Type} {f : α → Option β} {xs : List α} {ys : List β} (h : mapO f xs = some ys) {i : Nat} {x : α} (hx : xs[i]? = some x) : ∃ y, f x = some y ∧ ys[i]? = some y := by
  induction xs generalizing ys i with
  | nil => cases hx
  | cons a r ih =>
    simp only [mapO] at h
    cases ha : f a with
    | none => rw [ha] at h; cases h
    | some y =>
      rw [ha] at h
      cases hr : mapO f r with
      | none => rw [hr] at h; cases h
      | some l =>
        rw [hr] at h
        cases h
        cases i with
        | zero => simp at hx; subst hx; exact ⟨y, ha, rfl⟩
        | succ i => simp at hx; obtain ⟨z, h1, h2⟩ := ih hr hx; exact ⟨z, h1, by simpa using h2⟩
theorem EmbOK.all {H : Heap} (h : EmbOK H) (n : Nat) : ∃ H2, mapO (embedB n depth) H = some H2 := by
  induction H with
  | nil => exact ⟨[], rfl⟩
  | cons b r ih =>
    obtain ⟨b', hb⟩ := h b (by simp) n
    obtain ⟨H2, h2⟩ := ih fun c hc => h c (by simp [hc])
    exact ⟨b' :: H2, mapO_cons hb h2⟩
/-- Clues at the head of a block of their own. -/
def Sub (H : Heap) (v : AV) (cs : List Cu) : Prop := ∃ id ex, v = .sl id 3 (cs ++ ex).length 0 cs.length ∧ H[id]? = some ⟨58, 3, (cs ++ ex).map avU⟩ ∧ id ≠ 0
theorem Sub.bo {H : Heap} {v : AV} {cs : List Cu} (h : Sub H v cs) : borrow H 6 v = some (.lst false 3 false (cs.map avU)) := by
  obtain ⟨id, ex, rfl, hid, _⟩ := h
  refine bo_sl hid (by simp) (by simp) ?_
  rw [List.drop_zero, List.map_append, List.take_append_of_le_length (by simp), List.take_of_length_le (by simp)]
  exact bo_avU H 3 cs
theorem Sub.more {H B : Heap} {v : AV} {cs : List Cu} (h : Sub H v cs) : Sub (H ++ B) v cs := by
  obtain ⟨id, ex, rfl, hid, h0⟩ := h
  exact ⟨id, ex, rfl, h_get_of hid, h0⟩
theorem t9 : T 9 = some (.code m9) := rfl
theorem w9n (w h : Int) (p : Bool) (cs : List Cu) (hg : goodZ w h cs = false) : WF T 9 [.agg [.int .i64 w, .int .i64 h, .lst p 3 false (cs.map avU)]] []
    (fun r A' => EmbOK A' ∧ r = .tup [.agg [.int .i64 0, .int .i64 0, .lst true 0 true []], .bool false]) := by
  rw [WS_of t9]
  simp only [m9r0, m9r1, m9r2, m9r3, m9r4, m9r5, m9r6, m9r7, m9r8, m9r9, m9r10, m9r12, m9, EVa, EVb, params, nilOk, bound, awayFrom, evM, fillA, setEls, Opd.ev, Fr.get, prune, Option.map, isB, tB, nB, isG, gT, gF, evRes, mapO, one, Nat.reduceAdd, Nat.reduceLeDiff, Nat.reduceEqDiff, Nat.reduceMul, Nat.reduceSub, Nat.reduceLT, Nat.reduceBEq, reduceCtorEq, ↓reduceIte, Int.reduceToNat, Int.reduceLE, Int.reduceLT, Int.reduceEq, Int.reduceAdd, Int.reduceSub, Int.reduceMul, List.reduceReplicate, k30n w h p false cs hg]
  intro b hb
  obtain rfl := List.mem_singleton.1 hb
  exact fun n => ⟨_, rfl⟩
theorem w9 (W Hh : Nat) (l : List (List Sq)) (D : Dat W Hh l) (p : Bool) (cs : List Cu) (hg : goodZ W Hh cs = true) : WF T 9 [.agg [.int .i64 (W : Int), .int .i64 (Hh : Int), .lst p 3 false (cs.map avU)]] []
    (fun r A' => EmbOK A' ∧ (oneP W Hh l cs = false → r = .tup [.agg [.int .i64 0, .int .i64 0, .lst true 0 true []], .bool false]) ∧
      (oneP W Hh l cs = true → ∃ v, r = .tup [.agg [.int .i64 (W : Int), .int .i64 (Hh : Int), v], .bool true] ∧ Sub A' v (hardF (oneP W Hh l) cs.length cs 0))) := by
  rw [WS_of t9]
  obtain ⟨hh, hl, hc⟩ := goodZ_all hg
  cases ho : oneP W Hh l cs with
  | false =>
    have hk := fun {d os live S Q fr A} => k30 W Hh l D p false cs hg (d := d) (os := os) (live := live) (S := S) (Q := Q) (fr := fr) (A := A)
    rw [ho] at hk
    simp only [m9r0, m9r1, m9r2, m9r3, m9r4, m9r5, m9r6, m9r7, m9r8, m9r9, m9r10, m9r12, m9, EVa, EVb, params, nilOk, bound, awayFrom, evM, fillA, setEls, Opd.ev, Fr.get, prune, Option.map, isB, tB, nB, isG, gT, gF, evRes, mapO, one, Nat.reduceAdd, Nat.reduceLeDiff, Nat.reduceEqDiff, Nat.reduceMul, Nat.reduceSub, Nat.reduceLT, Nat.reduceBEq, reduceCtorEq, ↓reduceIte, Int.reduceToNat, Int.reduceLE, Int.reduceLT, Int.reduceEq, Int.reduceAdd, Int.reduceSub, Int.reduceMul, List.reduceReplicate, hk]
    refine ⟨fun b hb => ?_, fun _ => trivial, fun h => h.elim⟩
    obtain rfl := List.mem_singleton.1 hb
    exact fun n => ⟨_, rfl⟩
  | true =>
    have hk := fun {d os live S Q fr A} => k30 W Hh l D p false cs hg (d := d) (os := os) (live := live) (S := S) (Q := Q) (fr := fr) (A := A)
    rw [ho] at hk
    have hcl := fun {d os live S Q fr A} => o31 (d := d) (os := os) (live := live) (S := S) (Q := Q) (fr := fr) (A := A) (.lst p 3 false (cs.map avU)) p cs (by omega) (bo_lU A 3 p false 3 cs)
    simp only [m9r0, m9r1, m9r2, m9r3, m9r4, m9r5, m9r6, m9r7, m9r8, m9r9, m9r10, m9r12, m9, EVa, EVb, params, nilOk, bound, awayFrom, evM, fillA, setEls, Opd.ev, Fr.get, prune, Option.map, isB, tB, nB, isG, gT, gF, evRes, mapO, one, Nat.reduceAdd, Nat.reduceLeDiff, Nat.reduceEqDiff, Nat.reduceMul, Nat.reduceSub, Nat.reduceLT, Nat.reduceBEq, reduceCtorEq, ↓reduceIte, Int.reduceToNat, Int.reduceLE, Int.reduceLT, Int.reduceEq, Int.reduceAdd, Int.reduceSub, Int.reduceMul, List.reduceReplicate, hk, hcl]
    refine WS_loop' (σ := List Cu × AV × Nat × Heap) (fun s => [(1, .rp [.int .i64 (W : Int), .int .i64 (Hh : Int), .lst p 3 false (cs.map avU)] 0), (2, .ptr 0 1 0 0), (6, s.2.1), (7, .int .i64 (s.2.2.1 : Int))])
      (fun s => s.2.2.2) (fun s => s.1.length - s.2.2.1) (fun s => (s.2.2.1 ≤ s.1.length ∧ s.1.length ≤ 6) ∧ (∀ c, c ∈ s.1 → clueP W Hh c = true) ∧ hardF (oneP W Hh l) (s.1.length - s.2.2.1) s.1 s.2.2.1 = hardF (oneP W Hh l) cs.length cs 0 ∧ s.2.2.2[0]? = some ⟨28, 3, [.agg [.int .i64 0, .int .i64 0, .lst true 0 true []]]⟩ ∧ Sub s.2.2.2 s.2.1 s.1 ∧ EmbOK s.2.2.2) (cs, _, 0, _) rfl rfl ?_ ?_
    · refine ⟨⟨Nat.zero_le _, hl⟩, hc, rfl, rfl, ⟨1, [], by simp, by simp, by omega⟩, ?_⟩
      intro b hb
      simp only [List.mem_cons, List.not_mem_nil, or_false] at hb
      rcases hb with rfl | rfl
      · exact fun n => ⟨_, rfl⟩
      · exact EmbB.cs cs
    rintro ⟨cz, v, k, H⟩ ⟨⟨hk1, hk6⟩, hcz, hF, h0, hS, hE⟩
    dsimp only at hk1 hk6 hcz hF h0 hS hE
    have hlen : lenV v = some (.int .i64 (cz.length : Nat)) := by obtain ⟨id, ex, rfl, _, _⟩ := hS; rfl
    by_cases hlt : k < cz.length
    · have e4 := wsucc (i := k) (by omega)
      have hdr := fun {d os live S Q fr} => o32 (d := d) (os := os) (live := live) (S := S) (Q := Q) (fr := fr) (A := H) v false cz k hlt (by omega) hS.bo
      have hel : (cz.eraseIdx k).length = cz.length - 1 := List.length_eraseIdx_of_lt hlt
      have hH0 := lt_of_get h0
      have hS2 : Sub (H ++ [⟨58, 3, (cz.eraseIdx k ++ [zU]).map avU⟩]) (.sl H.length 3 cz.length 0 (cz.length - 1)) (cz.eraseIdx k) := by
        refine ⟨H.length, [zU], ?_, by rw [h_get0]; rfl, by omega⟩
        rw [List.length_append, hel]; simp; omega
      have hc2 : ∀ c, c ∈ cz.eraseIdx k → clueP W Hh c = true := fun c h => hcz c (List.mem_of_mem_eraseIdx h)
      have hbo : mapO (borrow (H ++ [⟨58, 3, (cz.eraseIdx k ++ [zU]).map avU⟩]) depth) [.agg [.int .i64 (W : Int), .int .i64 (Hh : Int), .lst p 3 false (cs.map avU)], .sl H.length 3 cz.length 0 (cz.length - 1)] = some [.agg [.int .i64 (W : Int), .int .i64 (Hh : Int), .lst p 3 false (cs.map avU)], .lst false 3 false ((cz.eraseIdx k).map avU)] := by
        have := hS2.bo
        simp only [mapO, depth_is, bo_agg, bo_int, bo_lU, this]
      have hw := fun {d os live S Q fr} => (pwith D hh p false false false cs (cz.eraseIdx k) (by omega) hc2).call (d := d) (os := os) (live := live) (S := S) (Q := Q) (fr := fr) hbo
      rw [hardF_step _ _ _ hlt] at hF
      simp only [m9l11, m9r0, m9r1, m9r2, m9r3, m9r4, m9r5, m9r6, m9r7, m9r8, m9r9, m9r10, m9r12, m9, EVa, EVb, params, nilOk, bound, awayFrom, evM, fillA, setEls, Opd.ev, Fr.get, prune, Option.map, isB, tB, nB, isG, gT, gF, evRes, mapO, one, Nat.reduceAdd, Nat.reduceLeDiff, Nat.reduceEqDiff, Nat.reduceMul, Nat.reduceSub, Nat.reduceLT, Nat.reduceBEq, reduceCtorEq, ↓reduceIte, Int.reduceToNat, Int.reduceLE, Int.reduceLT, Int.reduceEq, Int.reduceAdd, Int.reduceSub, Int.reduceMul, List.reduceReplicate, hlen, hlt, hdr]
      simp only [EVa, EVb, params, nilOk, bound, awayFrom, evM, fillA, setEls, Opd.ev, Fr.get, prune, Option.map, isB, tB, nB, isG, gT, gF, evRes, mapO, one, Nat.reduceAdd, Nat.reduceLeDiff, Nat.reduceEqDiff, Nat.reduceMul, Nat.reduceSub, Nat.reduceLT, Nat.reduceBEq, reduceCtorEq, ↓reduceIte, Int.reduceToNat, Int.reduceLE, Int.reduceLT, Int.reduceEq, Int.reduceAdd, Int.reduceSub, Int.reduceMul, List.reduceReplicate, hw, one_cast]
      by_cases hone : (solP W Hh l (cz.eraseIdx k)).length = 1
      · have ho2 : oneP W Hh l (cz.eraseIdx k) = true := by simp [oneP, hone]
        rw [if_pos ho2] at hF
        simp only [EVa, EVb, params, nilOk, bound, awayFrom, evM, fillA, setEls, Opd.ev, Fr.get, prune, Option.map, isB, tB, nB, isG, gT, gF, evRes, mapO, one, Nat.reduceAdd, Nat.reduceLeDiff, Nat.reduceEqDiff, Nat.reduceMul, Nat.reduceSub, Nat.reduceLT, Nat.reduceBEq, reduceCtorEq, ↓reduceIte, Int.reduceToNat, Int.reduceLE, Int.reduceLT, Int.reduceEq, Int.reduceAdd, Int.reduceSub, Int.reduceMul, List.reduceReplicate, hone]
        exact ⟨(cz.eraseIdx k, _, k, _), ⟨rfl, rfl⟩, ⟨⟨by simp only; omega, by simp only; omega⟩, hc2, hF, h_get_of h0, hS2, hE.app (EmbB.cs _)⟩, by simp only; omega⟩
      · have ho2 : oneP W Hh l (cz.eraseIdx k) = false := by simp [oneP, hone]
        rw [if_neg (by simp [ho2])] at hF
        simp only [EVa, EVb, params, nilOk, bound, awayFrom, evM, fillA, setEls, Opd.ev, Fr.get, prune, Option.map, isB, tB, nB, isG, gT, gF, evRes, mapO, one, Nat.reduceAdd, Nat.reduceLeDiff, Nat.reduceEqDiff, Nat.reduceMul, Nat.reduceSub, Nat.reduceLT, Nat.reduceBEq, reduceCtorEq, ↓reduceIte, Int.reduceToNat, Int.reduceLE, Int.reduceLT, Int.reduceEq, Int.reduceAdd, Int.reduceSub, Int.reduceMul, List.reduceReplicate, hone, e4]
        exact ⟨(cz, v, k + 1, _), ⟨rfl, rfl⟩, ⟨⟨hlt, hk6⟩, hcz, hF, h_get_of h0, hS.more, hE.app (EmbB.cs _)⟩, by simp only; omega⟩
    · have hkk : cz.length - k = 0 := by omega
      rw [hkk] at hF
      have hF' : cz = hardF (oneP W Hh l) cs.length cs 0 := hF
      obtain ⟨id, ex, hv, hid, hn0⟩ := hS
      have hsv : scalV v = true := by subst hv; rfl
      have hsn : ∀ b, (H.set 0 b)[0]? = some b := fun b => h_set_get (lt_of_get h0)
      have hst : storable v = true := by subst hv; rfl
      have hce : cellsOf v = [v] := by subst hv; rfl
      simp only [m9l11, m9r0, m9r1, m9r2, m9r3, m9r4, m9r5, m9r6, m9r7, m9r8, m9r9, m9r10, m9r12, m9, EVa, EVb, params, nilOk, bound, awayFrom, evM, fillA, setEls, Opd.ev, Fr.get, prune, Option.map, isB, tB, nB, isG, gT, gF, evRes, mapO, one, Nat.reduceAdd, Nat.reduceLeDiff, Nat.reduceEqDiff, Nat.reduceMul, Nat.reduceSub, Nat.reduceLT, Nat.reduceBEq, reduceCtorEq, ↓reduceIte, Int.reduceToNat, Int.reduceLE, Int.reduceLT, Int.reduceEq, Int.reduceAdd, Int.reduceSub, Int.reduceMul, List.reduceReplicate, hlen, hlt, h0, hst, hce, hsn]
      refine ⟨hE.set ?_, fun h => h.elim, fun _ => ⟨v, rfl, ?_⟩⟩
      · subst hv; exact fun n => ⟨_, rfl⟩
      · rw [← hF']
        exact ⟨id, ex, hv, by rw [List.getElem?_set_ne (Ne.symm hn0), hid], hn0⟩
end Go.Ev.Z
end

section
set_option maxRecDepth 100000
set_option linter.unusedSimpArgs false
set_option linter.unusedVariables false
namespace Go.Ev.Z
open Go Go.Ev
theorem t27 : T 27 = some (.code m27) := rfl
theorem p27 (p nil : Bool) (cs : List Cu) (k : Nat) (hk : k < cs.length) (hl : cs.length ≤ 1000) : Pure T 27 [.lst p 3 nil (cs.map avU), .int .i64 (k : Int)] (.lst true 3 false ((cs.eraseIdx k).map avU)) := by
  rw [Pure_of t27]
  have w1 := wsucc (i := k) (by omega)
  have c1 : k ≤ cs.length := by omega
  have c2 : k + 1 ≤ cs.length := hk
  simp only [m27r0, m27r1, m27, EVa, EVb, params, nilOk, bound, awayFrom, evM, fillA, setEls, Opd.ev, Fr.get, prune, Option.map, isB, tB, nB, isG, gT, gF, evRes, mapO, one, Nat.reduceAdd, Nat.reduceLeDiff, Nat.reduceEqDiff, Nat.reduceMul, Nat.reduceSub, Nat.reduceLT, Nat.reduceBEq, reduceCtorEq, ↓reduceIte, Int.reduceToNat, Int.reduceLE, Int.reduceLT, Int.reduceEq, Int.reduceAdd, Int.reduceSub, Int.reduceMul, List.reduceReplicate, w1, c1, c2]
  refine WV_appS (BldS.new [] 58 3 []) (by simp; omega) ?_
  intro v1 A1 hB1 hL1 hF1
  simp only [EVa, EVb, params, nilOk, bound, awayFrom, evM, fillA, setEls, Opd.ev, Fr.get, prune, Option.map, isB, tB, nB, isG, gT, gF, evRes, mapO, one, Nat.reduceAdd, Nat.reduceLeDiff, Nat.reduceEqDiff, Nat.reduceMul, Nat.reduceSub, Nat.reduceLT, Nat.reduceBEq, reduceCtorEq, ↓reduceIte, Int.reduceToNat, Int.reduceLE, Int.reduceLT, Int.reduceEq, Int.reduceAdd, Int.reduceSub, Int.reduceMul, List.reduceReplicate, w1, c1, c2]
  refine WV_appS hB1 (by simp; omega) ?_
  intro v2 A2 hB2 hL2 hF2
  have hg := hB2.gbT (d := 5) (ys := (cs.eraseIdx k).map avU) (by
    have : [] ++ (cs.map avU).take k ++ (cs.map avU).drop (k + 1) = (cs.eraseIdx k).map avU := by
      rw [List.eraseIdx_eq_take_drop_succ, List.map_append, List.map_take, List.map_drop, List.nil_append]
    rw [this]; exact gb_avU _ 3 _)
  simp only [EVa, EVb, params, nilOk, bound, awayFrom, evM, fillA, setEls, Opd.ev, Fr.get, prune, Option.map, isB, tB, nB, isG, gT, gF, evRes, mapO, one, Nat.reduceAdd, Nat.reduceLeDiff, Nat.reduceEqDiff, Nat.reduceMul, Nat.reduceSub, Nat.reduceLT, Nat.reduceBEq, reduceCtorEq, ↓reduceIte, Int.reduceToNat, Int.reduceLE, Int.reduceLT, Int.reduceEq, Int.reduceAdd, Int.reduceSub, Int.reduceMul, List.reduceReplicate, hg]
theorem k27 (p nil : Bool) (cs : List Cu) (k : Nat) (hk : k < cs.length) (hl : cs.length ≤ 1000) {d : Option Nat} {os : List MOp} {live : List Nat} {S : List KF} {Q : FQ} {fr : Fr} {A : Heap} : WCR T .ro 27 [.lst p 3 nil (cs.map avU), .int .i64 (k : Int)] d os live S Q fr A ↔ WP T os live S Q (putd d (.lst true 3 false ((cs.eraseIdx k).map avU)) fr) A := (p27 p nil cs k hk hl).call (by simp only [mapO, depth_is, bo_lU, bo_int])
theorem t28 : T 28 = some (.code m28) := rfl
theorem r28 (w h : Int) (x v : AV) (A : Heap) (hx : storable x = true ∧ cellsOf x = [x]) (hv : scalV v = true) (hv2 : storable v = true ∧ cellsOf v = [v]) : Runs T 28 [.agg [.int .i64 w, .int .i64 h, x], v] A (.agg [.int .i64 w, .int .i64 h, v]) (A ++ [⟨28, 3, [.agg [.int .i64 w, .int .i64 h, v]]⟩]) := by
  refine Runs.of ?_
  rw [WS_of t28]
  simp only [m28r0, m28r1, m28, EVa, EVb, params, nilOk, bound, awayFrom, evM, fillA, setEls, Opd.ev, Fr.get, prune, Option.map, isB, tB, nB, isG, gT, gF, evRes, mapO, one, Nat.reduceAdd, Nat.reduceLeDiff, Nat.reduceEqDiff, Nat.reduceMul, Nat.reduceSub, Nat.reduceLT, Nat.reduceBEq, reduceCtorEq, ↓reduceIte, Int.reduceToNat, Int.reduceLE, Int.reduceLT, Int.reduceEq, Int.reduceAdd, Int.reduceSub, Int.reduceMul, List.reduceReplicate, hv2.1, hv2.2]
/-- Clues that can be read: a list, or a block of its own. -/
def RdV (H : Heap) (v : AV) (cs : List Cu) : Prop := (∃ nil, v = .lst true 3 nil (cs.map avU)) ∨ BldS H 58 3 v (cs.map avU)
theorem RdV.bo {H : Heap} {v : AV} {cs : List Cu} (h : RdV H v cs) : ∃ p nil, borrow H 6 v = some (.lst p 3 nil (cs.map avU)) := by
  rcases h with ⟨nil, rfl⟩ | ⟨id, rfl, hid⟩
  · exact ⟨true, nil, rfl⟩
  · exact ⟨false, false, bo_sl hid rfl (by simp) (by rw [List.drop_zero, List.take_of_length_le (by simp)]; exact bo_avU H 3 cs)⟩
theorem RdV.len {H : Heap} {v : AV} {cs : List Cu} (h : RdV H v cs) : lenV v = some (.int .i64 (cs.length : Nat)) := by
  rcases h with ⟨nil, rfl⟩ | ⟨id, rfl, hid⟩ <;> simp [lenV]
theorem RdV.more {H B : Heap} {v : AV} {cs : List Cu} (h : RdV H v cs) : RdV (H ++ B) v cs := by
  rcases h with h | h
  · exact .inl h
  · exact .inr h.more
theorem RdV.gb {H : Heap} {v : AV} {cs : List Cu} (h : RdV H v cs) (d : Nat) : ∃ nil, giveBack H (d + 3) v = some (.lst true 3 nil (cs.map avU)) := by
  rcases h with ⟨nil, rfl⟩ | ⟨id, rfl, hid⟩
  · exact ⟨nil, rfl⟩
  · exact ⟨false, gb_sl hid rfl (by simp) (by rw [List.drop_zero, List.take_of_length_le (by simp)]; exact gb_avU H d cs)⟩
theorem RdV.cells {H : Heap} {v : AV} {cs : List Cu} (h : RdV H v cs) : scalV v = true ∧ storable v = true ∧ cellsOf v = [v] := by
  rcases h with ⟨nil, rfl⟩ | ⟨id, rfl, hid⟩ <;> exact ⟨rfl, rfl, rfl⟩
theorem RdV.keep {H H' : Heap} {v : AV} {cs : List Cu} (h : RdV H v cs) (hk : ∀ id, ¬ Off v id → H'[id]? = H[id]?) : RdV H' v cs := by
  rcases h with h | h
  · exact .inl h
  · exact .inr (h.keep hk)
theorem t7 : T 7 = some (.code m7) := rfl
theorem p7n (w h : Int) (p nil : Bool) (cs : List Cu) (hg : goodZ w h cs = false) : Pure T 7 [.agg [.int .i64 w, .int .i64 h, .lst p 3 nil (cs.map avU)]] (.tup [.agg [.int .i64 0, .int .i64 0, .lst true 0 true []], .bool false]) := by
  rw [Pure_of t7]
  simp only [m7r0, m7r1, m7r2, m7r3, m7r4, m7r5, m7r6, m7r7, m7r8, m7r9, m7r10, m7r11, m7r12, m7r14, m7, EVa, EVb, params, nilOk, bound, awayFrom, evM, fillA, setEls, Opd.ev, Fr.get, prune, Option.map, isB, tB, nB, isG, gT, gF, evRes, mapO, one, Nat.reduceAdd, Nat.reduceLeDiff, Nat.reduceEqDiff, Nat.reduceMul, Nat.reduceSub, Nat.reduceLT, Nat.reduceBEq, reduceCtorEq, ↓reduceIte, Int.reduceToNat, Int.reduceLE, Int.reduceLT, Int.reduceEq, Int.reduceAdd, Int.reduceSub, Int.reduceMul, List.reduceReplicate, k24, hg]
/-- The reference's answer. -/
theorem p7 (W Hh : Nat) (l : List (List Sq)) (D : Dat W Hh l) (p nil : Bool) (cs : List Cu) (hg : goodZ W Hh cs = true) : ∃ nil', Pure T 7 [.agg [.int .i64 (W : Int), .int .i64 (Hh : Int), .lst p 3 nil (cs.map avU)]]
    (if oneP W Hh l cs = true then .tup [.agg [.int .i64 (W : Int), .int .i64 (Hh : Int), .lst true 3 nil' ((hardF (oneP W Hh l) cs.length cs 0).map avU)], .bool true] else .tup [.agg [.int .i64 0, .int .i64 0, .lst true 0 true []], .bool false]) := by
  obtain ⟨hh, hl, hc⟩ := goodZ_all hg
  have hk1 := fun {d os live S Q fr A} => k25 W Hh p nil cs l D.ct (d := d) (os := os) (live := live) (S := S) (Q := Q) (fr := fr) (A := A)
  have hk2 := fun {d os live S Q fr A} => kpzAll D hh true false p nil cs hl hc (d := d) (os := os) (live := live) (S := S) (Q := Q) (fr := fr) (A := A)
  have hn := pzR_len W Hh (solP W Hh l cs)
  suffices hex : WF T 7 [.agg [.int .i64 (W : Int), .int .i64 (Hh : Int), .lst p 3 nil (cs.map avU)]] [] (fun v A1 => ∃ nil', giveBackT A1 depth v = some (if oneP W Hh l cs = true then .tup [.agg [.int .i64 (W : Int), .int .i64 (Hh : Int), .lst true 3 nil' ((hardF (oneP W Hh l) cs.length cs 0).map avU)], .bool true] else .tup [.agg [.int .i64 0, .int .i64 0, .lst true 0 true []], .bool false])) by
    obtain ⟨k, v, A', h1, nil', h2⟩ := hex
    exact ⟨nil', k, v, A', h1, h2⟩
  rw [WS_of t7]
  by_cases hone : (solP W Hh l cs).length = 1
  · have ho : oneP W Hh l cs = true := by simp [oneP, hone]
    simp only [m7r0, m7r1, m7r2, m7r3, m7r4, m7r5, m7r6, m7r7, m7r8, m7r9, m7r10, m7r11, m7r12, m7r14, m7, EVa, EVb, params, nilOk, bound, awayFrom, evM, fillA, setEls, Opd.ev, Fr.get, prune, Option.map, isB, tB, nB, isG, gT, gF, evRes, mapO, one, Nat.reduceAdd, Nat.reduceLeDiff, Nat.reduceEqDiff, Nat.reduceMul, Nat.reduceSub, Nat.reduceLT, Nat.reduceBEq, reduceCtorEq, ↓reduceIte, Int.reduceToNat, Int.reduceLE, Int.reduceLT, Int.reduceEq, Int.reduceAdd, Int.reduceSub, Int.reduceMul, List.reduceReplicate, k24, hg, hk1, hk2, hn, hone]
    refine WV_appS (BldS.new [⟨28, 3, [.agg [.int .i64 0, .int .i64 0, .lst true 0 true []]]⟩] 58 3 []) (by simp; omega) ?_
    intro v1 A1 hB1 hL1 hF1
    rw [List.nil_append] at hB1
    have hx0 := hF1 0 (Off.sl (by simp))
    simp only [EVa, EVb, params, nilOk, bound, awayFrom, evM, fillA, setEls, Opd.ev, Fr.get, prune, Option.map, isB, tB, nB, isG, gT, gF, evRes, mapO, one, Nat.reduceAdd, Nat.reduceLeDiff, Nat.reduceEqDiff, Nat.reduceMul, Nat.reduceSub, Nat.reduceLT, Nat.reduceBEq, reduceCtorEq, ↓reduceIte, Int.reduceToNat, Int.reduceLE, Int.reduceLT, Int.reduceEq, Int.reduceAdd, Int.reduceSub, Int.reduceMul, List.reduceReplicate]
    refine WS_loop' (σ := List Cu × AV × Nat × Heap) (fun s => [(1, .rp [.int .i64 (W : Int), .int .i64 (Hh : Int), .lst p 3 nil (cs.map avU)] 0), (2, .ptr 0 1 0 0), (4, .lst true 3 false (l.map (encT W Hh))), (5, s.2.1), (6, .int .i64 (s.2.2.1 : Int))])
      (fun s => s.2.2.2) (fun s => s.1.length - s.2.2.1) (fun s => (s.2.2.1 ≤ s.1.length ∧ s.1.length ≤ 6) ∧ (∀ c, c ∈ s.1 → clueP W Hh c = true) ∧ hardF (oneP W Hh l) (s.1.length - s.2.2.1) s.1 s.2.2.1 = hardF (oneP W Hh l) cs.length cs 0 ∧ s.2.2.2[0]? = some ⟨28, 3, [.agg [.int .i64 0, .int .i64 0, .lst true 0 true []]]⟩ ∧ RdV s.2.2.2 s.2.1 s.1 ∧ Off s.2.1 0) (cs, v1, 0, A1) rfl rfl
      ⟨⟨Nat.zero_le _, hl⟩, hc, rfl, by rw [hx0.2]; rfl, .inr hB1, hx0.1⟩ ?_
    rintro ⟨cz, v, k, H⟩ ⟨⟨hk1', hk6⟩, hcz, hF, h0, hR, ho0⟩
    dsimp only at hk1' hk6 hcz hF h0 hR ho0
    have hlen := hR.len
    by_cases hlt : k < cz.length
    · have e4 := wsucc (i := k) (by omega)
      obtain ⟨pb, nb, hbo⟩ := hR.bo
      have hel : (cz.eraseIdx k).length = cz.length - 1 := List.length_eraseIdx_of_lt hlt
      have hc2 : ∀ c, c ∈ cz.eraseIdx k → clueP W Hh c = true := fun c h => hcz c (List.mem_of_mem_eraseIdx h)
      have hw := fun {d os live S Q fr} => (p27 pb nb cz k hlt (by omega)).call (args := [v, .int .i64 (k : Int)]) (d := d) (os := os) (live := live) (S := S) (Q := Q) (fr := fr) (A := H) (by simp only [mapO, depth_is, hbo, bo_int])
      have hk3 := fun {d os live S Q fr A} => kpzAll D hh true false true false (cz.eraseIdx k) (by omega) hc2 (d := d) (os := os) (live := live) (S := S) (Q := Q) (fr := fr) (A := A)
      have hn3 := pzR_len W Hh (solP W Hh l (cz.eraseIdx k))
      rw [hardF_step _ _ _ hlt] at hF
      by_cases hone2 : (solP W Hh l (cz.eraseIdx k)).length = 1
      · have ho2 : oneP W Hh l (cz.eraseIdx k) = true := by simp [oneP, hone2]
        rw [if_pos ho2] at hF
        simp only [m7l13, m7r0, m7r1, m7r2, m7r3, m7r4, m7r5, m7r6, m7r7, m7r8, m7r9, m7r10, m7r11, m7r12, m7r14, m7, EVa, EVb, params, nilOk, bound, awayFrom, evM, fillA, setEls, Opd.ev, Fr.get, prune, Option.map, isB, tB, nB, isG, gT, gF, evRes, mapO, one, Nat.reduceAdd, Nat.reduceLeDiff, Nat.reduceEqDiff, Nat.reduceMul, Nat.reduceSub, Nat.reduceLT, Nat.reduceBEq, reduceCtorEq, ↓reduceIte, Int.reduceToNat, Int.reduceLE, Int.reduceLT, Int.reduceEq, Int.reduceAdd, Int.reduceSub, Int.reduceMul, List.reduceReplicate, hlen, hlt, hw, hk3, hn3, hone2]
        exact ⟨(cz.eraseIdx k, _, k, _), ⟨rfl, rfl⟩, ⟨⟨by simp only; omega, by simp only; omega⟩, hc2, hF, h0, .inl ⟨false, rfl⟩, fun _ _ _ _ _ e => by cases e⟩, by simp only; omega⟩
      · have ho2 : oneP W Hh l (cz.eraseIdx k) = false := by simp [oneP, hone2]
        rw [if_neg (by simp [ho2])] at hF
        have hone3 : (((solP W Hh l (cz.eraseIdx k)).length : Int) = 1) = False := eq_false (by omega)
        simp only [m7l13, m7r0, m7r1, m7r2, m7r3, m7r4, m7r5, m7r6, m7r7, m7r8, m7r9, m7r10, m7r11, m7r12, m7r14, m7, EVa, EVb, params, nilOk, bound, awayFrom, evM, fillA, setEls, Opd.ev, Fr.get, prune, Option.map, isB, tB, nB, isG, gT, gF, evRes, mapO, one, Nat.reduceAdd, Nat.reduceLeDiff, Nat.reduceEqDiff, Nat.reduceMul, Nat.reduceSub, Nat.reduceLT, Nat.reduceBEq, reduceCtorEq, ↓reduceIte, Int.reduceToNat, Int.reduceLE, Int.reduceLT, Int.reduceEq, Int.reduceAdd, Int.reduceSub, Int.reduceMul, List.reduceReplicate, hlen, hlt, hw, hk3, hn3, hone3, e4]
        exact ⟨(cz, v, k + 1, _), ⟨rfl, rfl⟩, ⟨⟨hlt, hk6⟩, hcz, hF, h0, hR, ho0⟩, by simp only; omega⟩
    · have hkk : cz.length - k = 0 := by omega
      rw [hkk] at hF
      have hF' : cz = hardF (oneP W Hh l) cs.length cs 0 := hF
      obtain ⟨c1, c2, c3⟩ := hR.cells
      have hpw := fun {d os live S Q fr} => (WCR_inl (T := T) (f := 28) (args := [.agg [.int .i64 (W : Int), .int .i64 (Hh : Int), .lst p 3 nil (cs.map avU)], v]) (d := d) (os := os) (live := live) (S := S) (Q := Q) (fr := fr) (A := H)).trans (r28 (W : Int) (Hh : Int) (.lst p 3 nil (cs.map avU)) v H ⟨rfl, rfl⟩ c1 ⟨c2, c3⟩).iff
      have h0' : ∀ b, (H ++ [b])[0]? = some ⟨28, 3, [.agg [.int .i64 0, .int .i64 0, .lst true 0 true []]]⟩ := fun b => h_get_of h0
      have hsn : ∀ b c, ((H ++ [b]).set 0 c)[0]? = some c := fun b c => h_set_get (by simp)
      have hgb : ∀ b c, ∃ nil', giveBack ((H ++ [b]).set 0 c) 5 v = some (.lst true 3 nil' (cz.map avU)) := fun b c => by
        have hr2 : RdV ((H ++ [b]).set 0 c) v cz := hR.more.keep fun id ho => by
          have : id ≠ 0 := fun e => ho (e ▸ ho0)
          rw [List.getElem?_set_ne (Ne.symm this)]
        exact hr2.gb 2
      obtain ⟨nil', hg2⟩ := hgb ⟨28, 3, [.agg [.int .i64 (W : Int), .int .i64 (Hh : Int), v]]⟩ ⟨28, 3, [.agg [.int .i64 (W : Int), .int .i64 (Hh : Int), v]]⟩
      simp only [m7l13, m7r0, m7r1, m7r2, m7r3, m7r4, m7r5, m7r6, m7r7, m7r8, m7r9, m7r10, m7r11, m7r12, m7r14, m7, EVa, EVb, params, nilOk, bound, awayFrom, evM, fillA, setEls, Opd.ev, Fr.get, prune, Option.map, isB, tB, nB, isG, gT, gF, evRes, mapO, one, Nat.reduceAdd, Nat.reduceLeDiff, Nat.reduceEqDiff, Nat.reduceMul, Nat.reduceSub, Nat.reduceLT, Nat.reduceBEq, reduceCtorEq, ↓reduceIte, Int.reduceToNat, Int.reduceLE, Int.reduceLT, Int.reduceEq, Int.reduceAdd, Int.reduceSub, Int.reduceMul, List.reduceReplicate, hlen, hlt, hpw, h0', hsn, hg2, ho]
      exact ⟨nil', by rw [hF']⟩
  · have ho : oneP W Hh l cs = false := by simp [oneP, hone]
    have hone3 : (((solP W Hh l cs).length : Int) = 1) = False := eq_false (by omega)
    simp only [m7r0, m7r1, m7r2, m7r3, m7r4, m7r5, m7r6, m7r7, m7r8, m7r9, m7r10, m7r11, m7r12, m7r14, m7, EVa, EVb, params, nilOk, bound, awayFrom, evM, fillA, setEls, Opd.ev, Fr.get, prune, Option.map, isB, tB, nB, isG, gT, gF, evRes, mapO, one, Nat.reduceAdd, Nat.reduceLeDiff, Nat.reduceEqDiff, Nat.reduceMul, Nat.reduceSub, Nat.reduceLT, Nat.reduceBEq, reduceCtorEq, ↓reduceIte, Int.reduceToNat, Int.reduceLE, Int.reduceLT, Int.reduceEq, Int.reduceAdd, Int.reduceSub, Int.reduceMul, List.reduceReplicate, k24, hg, hk1, hk2, hn, hone3, ho]
    exact ⟨true, trivial⟩
end Go.Ev.Z
end
