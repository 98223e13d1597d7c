import Derived.Test.YtfgbdbakafdinaaGreatWalkFirst
import Derived.Test.YtfgbdbakafdinaaGreatBase
import Derived.Test.YtfgbdbakafdinaaGreatWalkSecond

section
set_option maxRecDepth 100000
set_option linter.unusedSimpArgs false
set_option linter.unusedVariables false
namespace Go.Ev.Z
open Go Go.Ev
theorem t59 : T 59 = some (.code m59) := rfl
theorem p59 (w h : Int) : Pure T 59 [.int .i64 w, .int .i64 h] (.bool (inP w 1 6 && inP h 1 6)) := by
  rw [Pure_of t59]
  (try simp only [EVa, EVb, params, nilOk, bound, awayFrom, evM, fillA, setEls, Opd.ev, Fr.get, prune, Option.map, isB, tB, nB, isG, gT, gF, evRes, mapO, one, Nat.reduceAdd, Nat.reduceLeDiff, Nat.reduceEqDiff, Nat.reduceMul, Nat.reduceSub, Nat.reduceLT, Nat.reduceBEq, reduceCtorEq, ↓reduceIte, Int.reduceToNat, Int.reduceLE, Int.reduceLT, Int.reduceEq, Int.reduceAdd, Int.reduceSub, Int.reduceMul, List.reduceReplicate, m59r0, m59r1, m59, k60] <;> (try (first | refine WP_split (by simp only [EVa, EVb, params, nilOk, bound, awayFrom, evM, fillA, setEls, Opd.ev, Fr.get, prune, Option.map, isB, tB, nB, isG, gT, gF, evRes, mapO, one, Nat.reduceAdd, Nat.reduceLeDiff, Nat.reduceEqDiff, Nat.reduceMul, Nat.reduceSub, Nat.reduceLT, Nat.reduceBEq, reduceCtorEq, ↓reduceIte, Int.reduceToNat, Int.reduceLE, Int.reduceLT, Int.reduceEq, Int.reduceAdd, Int.reduceSub, Int.reduceMul, List.reduceReplicate]) (fun hc1 => ?_) (fun hc1 => ?_) | refine WS_split (by simp only [EVa, EVb, params, nilOk, bound, awayFrom, evM, fillA, setEls, Opd.ev, Fr.get, prune, Option.map, isB, tB, nB, isG, gT, gF, evRes, mapO, one, Nat.reduceAdd, Nat.reduceLeDiff, Nat.reduceEqDiff, Nat.reduceMul, Nat.reduceSub, Nat.reduceLT, Nat.reduceBEq, reduceCtorEq, ↓reduceIte, Int.reduceToNat, Int.reduceLE, Int.reduceLT, Int.reduceEq, Int.reduceAdd, Int.reduceSub, Int.reduceMul, List.reduceReplicate]) (fun hc1 => ?_) (fun hc1 => ?_)) <;> try simp only [EVa, EVb, params, nilOk, bound, awayFrom, evM, fillA, setEls, Opd.ev, Fr.get, prune, Option.map, isB, tB, nB, isG, gT, gF, evRes, mapO, one, Nat.reduceAdd, Nat.reduceLeDiff, Nat.reduceEqDiff, Nat.reduceMul, Nat.reduceSub, Nat.reduceLT, Nat.reduceBEq, reduceCtorEq, ↓reduceIte, Int.reduceToNat, Int.reduceLE, Int.reduceLT, Int.reduceEq, Int.reduceAdd, Int.reduceSub, Int.reduceMul, List.reduceReplicate] at hc1 <;> (try simp only [EVa, EVb, params, nilOk, bound, awayFrom, evM, fillA, setEls, Opd.ev, Fr.get, prune, Option.map, isB, tB, nB, isG, gT, gF, evRes, mapO, one, Nat.reduceAdd, Nat.reduceLeDiff, Nat.reduceEqDiff, Nat.reduceMul, Nat.reduceSub, Nat.reduceLT, Nat.reduceBEq, reduceCtorEq, ↓reduceIte, Int.reduceToNat, Int.reduceLE, Int.reduceLT, Int.reduceEq, Int.reduceAdd, Int.reduceSub, Int.reduceMul, List.reduceReplicate, m59r0, m59r1, m59, k60, hc1] <;> (try (first | refine WP_split (by simp only [EVa, EVb, params, nilOk, bound, awayFrom, evM, fillA, setEls, Opd.ev, Fr.get, prune, Option.map, isB, tB, nB, isG, gT, gF, evRes, mapO, one, Nat.reduceAdd, Nat.reduceLeDiff, Nat.reduceEqDiff, Nat.reduceMul, Nat.reduceSub, Nat.reduceLT, Nat.reduceBEq, reduceCtorEq, ↓reduceIte, Int.reduceToNat, Int.reduceLE, Int.reduceLT, Int.reduceEq, Int.reduceAdd, Int.reduceSub, Int.reduceMul, List.reduceReplicate]) (fun hc2 => ?_) (fun hc2 => ?_) | refine WS_split (by simp only [EVa, EVb, params, nilOk, bound, awayFrom, evM, fillA, setEls, Opd.ev, Fr.get, prune, Option.map, isB, tB, nB, isG, gT, gF, evRes, mapO, one, Nat.reduceAdd, Nat.reduceLeDiff, Nat.reduceEqDiff, Nat.reduceMul, Nat.reduceSub, Nat.reduceLT, Nat.reduceBEq, reduceCtorEq, ↓reduceIte, Int.reduceToNat, Int.reduceLE, Int.reduceLT, Int.reduceEq, Int.reduceAdd, Int.reduceSub, Int.reduceMul, List.reduceReplicate]) (fun hc2 => ?_) (fun hc2 => ?_)) <;> try simp only [EVa, EVb, params, nilOk, bound, awayFrom, evM, fillA, setEls, Opd.ev, Fr.get, prune, Option.map, isB, tB, nB, isG, gT, gF, evRes, mapO, one, Nat.reduceAdd, Nat.reduceLeDiff, Nat.reduceEqDiff, Nat.reduceMul, Nat.reduceSub, Nat.reduceLT, Nat.reduceBEq, reduceCtorEq, ↓reduceIte, Int.reduceToNat, Int.reduceLE, Int.reduceLT, Int.reduceEq, Int.reduceAdd, Int.reduceSub, Int.reduceMul, List.reduceReplicate] at hc2 <;> (try simp only [EVa, EVb, params, nilOk, bound, awayFrom, evM, fillA, setEls, Opd.ev, Fr.get, prune, Option.map, isB, tB, nB, isG, gT, gF, evRes, mapO, one, Nat.reduceAdd, Nat.reduceLeDiff, Nat.reduceEqDiff, Nat.reduceMul, Nat.reduceSub, Nat.reduceLT, Nat.reduceBEq, reduceCtorEq, ↓reduceIte, Int.reduceToNat, Int.reduceLE, Int.reduceLT, Int.reduceEq, Int.reduceAdd, Int.reduceSub, Int.reduceMul, List.reduceReplicate, m59r0, m59r1, m59, k60, hc1, hc2]))))) <;> simp_all
theorem k59 (w h : Int) {d : Option Nat} {os : List MOp} {live : List Nat} {S : List KF} {Q : FQ} {fr : Fr} {A : Heap} : WCR T .ro 59 [.int .i64 w, .int .i64 h] d os live S Q fr A ↔ WP T os live S Q (putd d (.bool (inP w 1 6 && inP h 1 6)) fr) A := (p59 w h).call (by simp only [mapO, depth_is, bo_agg, bo_int, bo_bool, bo_str, bo_lst, bo_lS, bo_rp, bo_fn])
theorem t72 : T 72 = some (.code m72) := rfl
theorem p72 (w h : Int) : Pure T 72 [.int .i64 w, .int .i64 h] (.bool (inP w 1 6 && inP h 1 6)) := by
  rw [Pure_of t72]
  (try simp only [EVa, EVb, params, nilOk, bound, awayFrom, evM, fillA, setEls, Opd.ev, Fr.get, prune, Option.map, isB, tB, nB, isG, gT, gF, evRes, mapO, one, Nat.reduceAdd, Nat.reduceLeDiff, Nat.reduceEqDiff, Nat.reduceMul, Nat.reduceSub, Nat.reduceLT, Nat.reduceBEq, reduceCtorEq, ↓reduceIte, Int.reduceToNat, Int.reduceLE, Int.reduceLT, Int.reduceEq, Int.reduceAdd, Int.reduceSub, Int.reduceMul, List.reduceReplicate, m72r0, m72r1, m72, k73] <;> (try (first | refine WP_split (by simp only [EVa, EVb, params, nilOk, bound, awayFrom, evM, fillA, setEls, Opd.ev, Fr.get, prune, Option.map, isB, tB, nB, isG, gT, gF, evRes, mapO, one, Nat.reduceAdd, Nat.reduceLeDiff, Nat.reduceEqDiff, Nat.reduceMul, Nat.reduceSub, Nat.reduceLT, Nat.reduceBEq, reduceCtorEq, ↓reduceIte, Int.reduceToNat, Int.reduceLE, Int.reduceLT, Int.reduceEq, Int.reduceAdd, Int.reduceSub, Int.reduceMul, List.reduceReplicate]) (fun hc1 => ?_) (fun hc1 => ?_) | refine WS_split (by simp only [EVa, EVb, params, nilOk, bound, awayFrom, evM, fillA, setEls, Opd.ev, Fr.get, prune, Option.map, isB, tB, nB, isG, gT, gF, evRes, mapO, one, Nat.reduceAdd, Nat.reduceLeDiff, Nat.reduceEqDiff, Nat.reduceMul, Nat.reduceSub, Nat.reduceLT, Nat.reduceBEq, reduceCtorEq, ↓reduceIte, Int.reduceToNat, Int.reduceLE, Int.reduceLT, Int.reduceEq, Int.reduceAdd, Int.reduceSub, Int.reduceMul, List.reduceReplicate]) (fun hc1 => ?_) (fun hc1 => ?_)) <;> try simp only [EVa, EVb, params, nilOk, bound, awayFrom, evM, fillA, setEls, Opd.ev, Fr.get, prune, Option.map, isB, tB, nB, isG, gT, gF, evRes, mapO, one, Nat.reduceAdd, Nat.reduceLeDiff, Nat.reduceEqDiff, Nat.reduceMul, Nat.reduceSub, Nat.reduceLT, Nat.reduceBEq, reduceCtorEq, ↓reduceIte, Int.reduceToNat, Int.reduceLE, Int.reduceLT, Int.reduceEq, Int.reduceAdd, Int.reduceSub, Int.reduceMul, List.reduceReplicate] at hc1 <;> (try simp only [EVa, EVb, params, nilOk, bound, awayFrom, evM, fillA, setEls, Opd.ev, Fr.get, prune, Option.map, isB, tB, nB, isG, gT, gF, evRes, mapO, one, Nat.reduceAdd, Nat.reduceLeDiff, Nat.reduceEqDiff, Nat.reduceMul, Nat.reduceSub, Nat.reduceLT, Nat.reduceBEq, reduceCtorEq, ↓reduceIte, Int.reduceToNat, Int.reduceLE, Int.reduceLT, Int.reduceEq, Int.reduceAdd, Int.reduceSub, Int.reduceMul, List.reduceReplicate, m72r0, m72r1, m72, k73, hc1] <;> (try (first | refine WP_split (by simp only [EVa, EVb, params, nilOk, bound, awayFrom, evM, fillA, setEls, Opd.ev, Fr.get, prune, Option.map, isB, tB, nB, isG, gT, gF, evRes, mapO, one, Nat.reduceAdd, Nat.reduceLeDiff, Nat.reduceEqDiff, Nat.reduceMul, Nat.reduceSub, Nat.reduceLT, Nat.reduceBEq, reduceCtorEq, ↓reduceIte, Int.reduceToNat, Int.reduceLE, Int.reduceLT, Int.reduceEq, Int.reduceAdd, Int.reduceSub, Int.reduceMul, List.reduceReplicate]) (fun hc2 => ?_) (fun hc2 => ?_) | refine WS_split (by simp only [EVa, EVb, params, nilOk, bound, awayFrom, evM, fillA, setEls, Opd.ev, Fr.get, prune, Option.map, isB, tB, nB, isG, gT, gF, evRes, mapO, one, Nat.reduceAdd, Nat.reduceLeDiff, Nat.reduceEqDiff, Nat.reduceMul, Nat.reduceSub, Nat.reduceLT, Nat.reduceBEq, reduceCtorEq, ↓reduceIte, Int.reduceToNat, Int.reduceLE, Int.reduceLT, Int.reduceEq, Int.reduceAdd, Int.reduceSub, Int.reduceMul, List.reduceReplicate]) (fun hc2 => ?_) (fun hc2 => ?_)) <;> try simp only [EVa, EVb, params, nilOk, bound, awayFrom, evM, fillA, setEls, Opd.ev, Fr.get, prune, Option.map, isB, tB, nB, isG, gT, gF, evRes, mapO, one, Nat.reduceAdd, Nat.reduceLeDiff, Nat.reduceEqDiff, Nat.reduceMul, Nat.reduceSub, Nat.reduceLT, Nat.reduceBEq, reduceCtorEq, ↓reduceIte, Int.reduceToNat, Int.reduceLE, Int.reduceLT, Int.reduceEq, Int.reduceAdd, Int.reduceSub, Int.reduceMul, List.reduceReplicate] at hc2 <;> (try simp only [EVa, EVb, params, nilOk, bound, awayFrom, evM, fillA, setEls, Opd.ev, Fr.get, prune, Option.map, isB, tB, nB, isG, gT, gF, evRes, mapO, one, Nat.reduceAdd, Nat.reduceLeDiff, Nat.reduceEqDiff, Nat.reduceMul, Nat.reduceSub, Nat.reduceLT, Nat.reduceBEq, reduceCtorEq, ↓reduceIte, Int.reduceToNat, Int.reduceLE, Int.reduceLT, Int.reduceEq, Int.reduceAdd, Int.reduceSub, Int.reduceMul, List.reduceReplicate, m72r0, m72r1, m72, k73, hc1, hc2]))))) <;> simp_all
theorem k72 (w h : Int) {d : Option Nat} {os : List MOp} {live : List Nat} {S : List KF} {Q : FQ} {fr : Fr} {A : Heap} : WCR T .ro 72 [.int .i64 w, .int .i64 h] d os live S Q fr A ↔ WP T os live S Q (putd d (.bool (inP w 1 6 && inP h 1 6)) fr) A := (p72 w h).call (by simp only [mapO, depth_is, bo_agg, bo_int, bo_bool, bo_str, bo_lst, bo_lS, bo_rp, bo_fn])
theorem wh_wrap {w h : Int} (hc : (inP w 1 6 && inP h 1 6) = true) : IntKind.i64.wrap (w * h) = w * h := by
  simp only [inP, Bool.and_eq_true, decide_eq_true_eq] at hc
  have h1 := Int.mul_le_mul hc.1.1 hc.2.1 (by omega) (by omega)
  have h2 := Int.mul_le_mul hc.1.2 hc.2.2 (by omega) (by omega)
  exact wrap_in _ (by omega) (by omega)
theorem t41 : T 41 = some (.code m41) := rfl
theorem p41 (w h : Int) : Pure T 41 [.int .i64 w, .int .i64 h] (.bool (hidP w h)) := by
  rw [Pure_of t41]
  by_cases hc : (inP w 1 6 && inP h 1 6) = true
  · have hw := wh_wrap hc
    simp only [Bool.and_eq_true] at hc
    simp only [m41r0, m41r1, m41, EVa, EVb, params, nilOk, bound, awayFrom, evM, fillA, setEls, Opd.ev, Fr.get, prune, Option.map, isB, tB, nB, isG, gT, gF, evRes, mapO, one, Nat.reduceAdd, Nat.reduceLeDiff, Nat.reduceEqDiff, Nat.reduceMul, Nat.reduceSub, Nat.reduceLT, Nat.reduceBEq, reduceCtorEq, ↓reduceIte, Int.reduceToNat, Int.reduceLE, Int.reduceLT, Int.reduceEq, Int.reduceAdd, Int.reduceSub, Int.reduceMul, List.reduceReplicate, k59, hw, hc.1, hc.2, hidP]
  · have hc' : (inP w 1 6 && inP h 1 6) = false := by simpa using hc
    simp only [m41r0, m41r1, m41, EVa, EVb, params, nilOk, bound, awayFrom, evM, fillA, setEls, Opd.ev, Fr.get, prune, Option.map, isB, tB, nB, isG, gT, gF, evRes, mapO, one, Nat.reduceAdd, Nat.reduceLeDiff, Nat.reduceEqDiff, Nat.reduceMul, Nat.reduceSub, Nat.reduceLT, Nat.reduceBEq, reduceCtorEq, ↓reduceIte, Int.reduceToNat, Int.reduceLE, Int.reduceLT, Int.reduceEq, Int.reduceAdd, Int.reduceSub, Int.reduceMul, List.reduceReplicate, k59, hc', hidP]
theorem k41 (w h : Int) {d : Option Nat} {os : List MOp} {live : List Nat} {S : List KF} {Q : FQ} {fr : Fr} {A : Heap} : WCR T .ro 41 [.int .i64 w, .int .i64 h] d os live S Q fr A ↔ WP T os live S Q (putd d (.bool (hidP w h)) fr) A := (p41 w h).call (by simp only [mapO, depth_is, bo_agg, bo_int, bo_bool, bo_str, bo_lst, bo_lS, bo_rp, bo_fn])
theorem t56 : T 56 = some (.code m56) := rfl
theorem p56 (w h : Int) : Pure T 56 [.int .i64 w, .int .i64 h] (.bool (hidP w h)) := by
  rw [Pure_of t56]
  by_cases hc : (inP w 1 6 && inP h 1 6) = true
  · have hw := wh_wrap hc
    simp only [Bool.and_eq_true] at hc
    simp only [m56r0, m56r1, m56, EVa, EVb, params, nilOk, bound, awayFrom, evM, fillA, setEls, Opd.ev, Fr.get, prune, Option.map, isB, tB, nB, isG, gT, gF, evRes, mapO, one, Nat.reduceAdd, Nat.reduceLeDiff, Nat.reduceEqDiff, Nat.reduceMul, Nat.reduceSub, Nat.reduceLT, Nat.reduceBEq, reduceCtorEq, ↓reduceIte, Int.reduceToNat, Int.reduceLE, Int.reduceLT, Int.reduceEq, Int.reduceAdd, Int.reduceSub, Int.reduceMul, List.reduceReplicate, k72, hw, hc.1, hc.2, hidP]
  · have hc' : (inP w 1 6 && inP h 1 6) = false := by simpa using hc
    simp only [m56r0, m56r1, m56, EVa, EVb, params, nilOk, bound, awayFrom, evM, fillA, setEls, Opd.ev, Fr.get, prune, Option.map, isB, tB, nB, isG, gT, gF, evRes, mapO, one, Nat.reduceAdd, Nat.reduceLeDiff, Nat.reduceEqDiff, Nat.reduceMul, Nat.reduceSub, Nat.reduceLT, Nat.reduceBEq, reduceCtorEq, ↓reduceIte, Int.reduceToNat, Int.reduceLE, Int.reduceLT, Int.reduceEq, Int.reduceAdd, Int.reduceSub, Int.reduceMul, List.reduceReplicate, k72, hc', hidP]
theorem k56 (w h : Int) {d : Option Nat} {os : List MOp} {live : List Nat} {S : List KF} {Q : FQ} {fr : Fr} {A : Heap} : WCR T .ro 56 [.int .i64 w, .int .i64 h] d os live S Q fr A ↔ WP T os live S Q (putd d (.bool (hidP w h)) fr) A := (p56 w h).call (by simp only [mapO, depth_is, bo_agg, bo_int, bo_bool, bo_str, bo_lst, bo_lS, bo_rp, bo_fn])
theorem t42 : T 42 = some (.code m42) := rfl
theorem p42 (w h k a b : Int) (hh : hidP w h = true) : Pure T 42 [.int .i64 w, .int .i64 h, .agg [.int .i64 k, .int .i64 a, .int .i64 b]] (.bool (clueP w h ⟨k, a, b⟩)) := by
  rw [Pure_of t42]
  have hb := hidP_bd hh
  have w1 := wrap_in (w * h) (by omega) (by omega)
  have w2 := wrap_in (w * h - 1) (by omega) (by omega)
  (try simp only [EVa, EVb, params, nilOk, bound, awayFrom, evM, fillA, setEls, Opd.ev, Fr.get, prune, Option.map, isB, tB, nB, isG, gT, gF, evRes, mapO, one, Nat.reduceAdd, Nat.reduceLeDiff, Nat.reduceEqDiff, Nat.reduceMul, Nat.reduceSub, Nat.reduceLT, Nat.reduceBEq, reduceCtorEq, ↓reduceIte, Int.reduceToNat, Int.reduceLE, Int.reduceLT, Int.reduceEq, Int.reduceAdd, Int.reduceSub, Int.reduceMul, List.reduceReplicate, m42r0, m42r1, m42r2, m42r3, m42r4, m42r5, m42r6, m42r7, m42r8, m42r9, m42r10, m42r11, m42r12, m42r13, m42r14, m42, k60, w1, w2] <;> (try (first | refine WP_split (by simp only [EVa, EVb, params, nilOk, bound, awayFrom, evM, fillA, setEls, Opd.ev, Fr.get, prune, Option.map, isB, tB, nB, isG, gT, gF, evRes, mapO, one, Nat.reduceAdd, Nat.reduceLeDiff, Nat.reduceEqDiff, Nat.reduceMul, Nat.reduceSub, Nat.reduceLT, Nat.reduceBEq, reduceCtorEq, ↓reduceIte, Int.reduceToNat, Int.reduceLE, Int.reduceLT, Int.reduceEq, Int.reduceAdd, Int.reduceSub, Int.reduceMul, List.reduceReplicate]) (fun hc1 => ?_) (fun hc1 => ?_) | refine WS_split (by simp only [EVa, EVb, params, nilOk, bound, awayFrom, evM, fillA, setEls, Opd.ev, Fr.get, prune, Option.map, isB, tB, nB, isG, gT, gF, evRes, mapO, one, Nat.reduceAdd, Nat.reduceLeDiff, Nat.reduceEqDiff, Nat.reduceMul, Nat.reduceSub, Nat.reduceLT, Nat.reduceBEq, reduceCtorEq, ↓reduceIte, Int.reduceToNat, Int.reduceLE, Int.reduceLT, Int.reduceEq, Int.reduceAdd, Int.reduceSub, Int.reduceMul, List.reduceReplicate]) (fun hc1 => ?_) (fun hc1 => ?_)) <;> try simp only [EVa, EVb, params, nilOk, bound, awayFrom, evM, fillA, setEls, Opd.ev, Fr.get, prune, Option.map, isB, tB, nB, isG, gT, gF, evRes, mapO, one, Nat.reduceAdd, Nat.reduceLeDiff, Nat.reduceEqDiff, Nat.reduceMul, Nat.reduceSub, Nat.reduceLT, Nat.reduceBEq, reduceCtorEq, ↓reduceIte, Int.reduceToNat, Int.reduceLE, Int.reduceLT, Int.reduceEq, Int.reduceAdd, Int.reduceSub, Int.reduceMul, List.reduceReplicate] at hc1 <;> (try simp only [EVa, EVb, params, nilOk, bound, awayFrom, evM, fillA, setEls, Opd.ev, Fr.get, prune, Option.map, isB, tB, nB, isG, gT, gF, evRes, mapO, one, Nat.reduceAdd, Nat.reduceLeDiff, Nat.reduceEqDiff, Nat.reduceMul, Nat.reduceSub, Nat.reduceLT, Nat.reduceBEq, reduceCtorEq, ↓reduceIte, Int.reduceToNat, Int.reduceLE, Int.reduceLT, Int.reduceEq, Int.reduceAdd, Int.reduceSub, Int.reduceMul, List.reduceReplicate, m42r0, m42r1, m42r2, m42r3, m42r4, m42r5, m42r6, m42r7, m42r8, m42r9, m42r10, m42r11, m42r12, m42r13, m42r14, m42, k60, w1, w2, hc1] <;> (try (first | refine WP_split (by simp only [EVa, EVb, params, nilOk, bound, awayFrom, evM, fillA, setEls, Opd.ev, Fr.get, prune, Option.map, isB, tB, nB, isG, gT, gF, evRes, mapO, one, Nat.reduceAdd, Nat.reduceLeDiff, Nat.reduceEqDiff, Nat.reduceMul, Nat.reduceSub, Nat.reduceLT, Nat.reduceBEq, reduceCtorEq, ↓reduceIte, Int.reduceToNat, Int.reduceLE, Int.reduceLT, Int.reduceEq, Int.reduceAdd, Int.reduceSub, Int.reduceMul, List.reduceReplicate]) (fun hc2 => ?_) (fun hc2 => ?_) | refine WS_split (by simp only [EVa, EVb, params, nilOk, bound, awayFrom, evM, fillA, setEls, Opd.ev, Fr.get, prune, Option.map, isB, tB, nB, isG, gT, gF, evRes, mapO, one, Nat.reduceAdd, Nat.reduceLeDiff, Nat.reduceEqDiff, Nat.reduceMul, Nat.reduceSub, Nat.reduceLT, Nat.reduceBEq, reduceCtorEq, ↓reduceIte, Int.reduceToNat, Int.reduceLE, Int.reduceLT, Int.reduceEq, Int.reduceAdd, Int.reduceSub, Int.reduceMul, List.reduceReplicate]) (fun hc2 => ?_) (fun hc2 => ?_)) <;> try simp only [EVa, EVb, params, nilOk, bound, awayFrom, evM, fillA, setEls, Opd.ev, Fr.get, prune, Option.map, isB, tB, nB, isG, gT, gF, evRes, mapO, one, Nat.reduceAdd, Nat.reduceLeDiff, Nat.reduceEqDiff, Nat.reduceMul, Nat.reduceSub, Nat.reduceLT, Nat.reduceBEq, reduceCtorEq, ↓reduceIte, Int.reduceToNat, Int.reduceLE, Int.reduceLT, Int.reduceEq, Int.reduceAdd, Int.reduceSub, Int.reduceMul, List.reduceReplicate] at hc2 <;> (try simp only [EVa, EVb, params, nilOk, bound, awayFrom, evM, fillA, setEls, Opd.ev, Fr.get, prune, Option.map, isB, tB, nB, isG, gT, gF, evRes, mapO, one, Nat.reduceAdd, Nat.reduceLeDiff, Nat.reduceEqDiff, Nat.reduceMul, Nat.reduceSub, Nat.reduceLT, Nat.reduceBEq, reduceCtorEq, ↓reduceIte, Int.reduceToNat, Int.reduceLE, Int.reduceLT, Int.reduceEq, Int.reduceAdd, Int.reduceSub, Int.reduceMul, List.reduceReplicate, m42r0, m42r1, m42r2, m42r3, m42r4, m42r5, m42r6, m42r7, m42r8, m42r9, m42r10, m42r11, m42r12, m42r13, m42r14, m42, k60, w1, w2, hc1, hc2] <;> (try (first | refine WP_split (by simp only [EVa, EVb, params, nilOk, bound, awayFrom, evM, fillA, setEls, Opd.ev, Fr.get, prune, Option.map, isB, tB, nB, isG, gT, gF, evRes, mapO, one, Nat.reduceAdd, Nat.reduceLeDiff, Nat.reduceEqDiff, Nat.reduceMul, Nat.reduceSub, Nat.reduceLT, Nat.reduceBEq, reduceCtorEq, ↓reduceIte, Int.reduceToNat, Int.reduceLE, Int.reduceLT, Int.reduceEq, Int.reduceAdd, Int.reduceSub, Int.reduceMul, List.reduceReplicate]) (fun hc3 => ?_) (fun hc3 => ?_) | refine WS_split (by simp only [EVa, EVb, params, nilOk, bound, awayFrom, evM, fillA, setEls, Opd.ev, Fr.get, prune, Option.map, isB, tB, nB, isG, gT, gF, evRes, mapO, one, Nat.reduceAdd, Nat.reduceLeDiff, Nat.reduceEqDiff, Nat.reduceMul, Nat.reduceSub, Nat.reduceLT, Nat.reduceBEq, reduceCtorEq, ↓reduceIte, Int.reduceToNat, Int.reduceLE, Int.reduceLT, Int.reduceEq, Int.reduceAdd, Int.reduceSub, Int.reduceMul, List.reduceReplicate]) (fun hc3 => ?_) (fun hc3 => ?_)) <;> try simp only [EVa, EVb, params, nilOk, bound, awayFrom, evM, fillA, setEls, Opd.ev, Fr.get, prune, Option.map, isB, tB, nB, isG, gT, gF, evRes, mapO, one, Nat.reduceAdd, Nat.reduceLeDiff, Nat.reduceEqDiff, Nat.reduceMul, Nat.reduceSub, Nat.reduceLT, Nat.reduceBEq, reduceCtorEq, ↓reduceIte, Int.reduceToNat, Int.reduceLE, Int.reduceLT, Int.reduceEq, Int.reduceAdd, Int.reduceSub, Int.reduceMul, List.reduceReplicate] at hc3 <;> (try simp only [EVa, EVb, params, nilOk, bound, awayFrom, evM, fillA, setEls, Opd.ev, Fr.get, prune, Option.map, isB, tB, nB, isG, gT, gF, evRes, mapO, one, Nat.reduceAdd, Nat.reduceLeDiff, Nat.reduceEqDiff, Nat.reduceMul, Nat.reduceSub, Nat.reduceLT, Nat.reduceBEq, reduceCtorEq, ↓reduceIte, Int.reduceToNat, Int.reduceLE, Int.reduceLT, Int.reduceEq, Int.reduceAdd, Int.reduceSub, Int.reduceMul, List.reduceReplicate, m42r0, m42r1, m42r2, m42r3, m42r4, m42r5, m42r6, m42r7, m42r8, m42r9, m42r10, m42r11, m42r12, m42r13, m42r14, m42, k60, w1, w2, hc1, hc2, hc3] <;> (try (first | refine WP_split (by simp only [EVa, EVb, params, nilOk, bound, awayFrom, evM, fillA, setEls, Opd.ev, Fr.get, prune, Option.map, isB, tB, nB, isG, gT, gF, evRes, mapO, one, Nat.reduceAdd, Nat.reduceLeDiff, Nat.reduceEqDiff, Nat.reduceMul, Nat.reduceSub, Nat.reduceLT, Nat.reduceBEq, reduceCtorEq, ↓reduceIte, Int.reduceToNat, Int.reduceLE, Int.reduceLT, Int.reduceEq, Int.reduceAdd, Int.reduceSub, Int.reduceMul, List.reduceReplicate]) (fun hc4 => ?_) (fun hc4 => ?_) | refine WS_split (by simp only [EVa, EVb, params, nilOk, bound, awayFrom, evM, fillA, setEls, Opd.ev, Fr.get, prune, Option.map, isB, tB, nB, isG, gT, gF, evRes, mapO, one, Nat.reduceAdd, Nat.reduceLeDiff, Nat.reduceEqDiff, Nat.reduceMul, Nat.reduceSub, Nat.reduceLT, Nat.reduceBEq, reduceCtorEq, ↓reduceIte, Int.reduceToNat, Int.reduceLE, Int.reduceLT, Int.reduceEq, Int.reduceAdd, Int.reduceSub, Int.reduceMul, List.reduceReplicate]) (fun hc4 => ?_) (fun hc4 => ?_)) <;> try simp only [EVa, EVb, params, nilOk, bound, awayFrom, evM, fillA, setEls, Opd.ev, Fr.get, prune, Option.map, isB, tB, nB, isG, gT, gF, evRes, mapO, one, Nat.reduceAdd, Nat.reduceLeDiff, Nat.reduceEqDiff, Nat.reduceMul, Nat.reduceSub, Nat.reduceLT, Nat.reduceBEq, reduceCtorEq, ↓reduceIte, Int.reduceToNat, Int.reduceLE, Int.reduceLT, Int.reduceEq, Int.reduceAdd, Int.reduceSub, Int.reduceMul, List.reduceReplicate] at hc4 <;> (try simp only [EVa, EVb, params, nilOk, bound, awayFrom, evM, fillA, setEls, Opd.ev, Fr.get, prune, Option.map, isB, tB, nB, isG, gT, gF, evRes, mapO, one, Nat.reduceAdd, Nat.reduceLeDiff, Nat.reduceEqDiff, Nat.reduceMul, Nat.reduceSub, Nat.reduceLT, Nat.reduceBEq, reduceCtorEq, ↓reduceIte, Int.reduceToNat, Int.reduceLE, Int.reduceLT, Int.reduceEq, Int.reduceAdd, Int.reduceSub, Int.reduceMul, List.reduceReplicate, m42r0, m42r1, m42r2, m42r3, m42r4, m42r5, m42r6, m42r7, m42r8, m42r9, m42r10, m42r11, m42r12, m42r13, m42r14, m42, k60, w1, w2, hc1, hc2, hc3, hc4] <;> (try (first | refine WP_split (by simp only [EVa, EVb, params, nilOk, bound, awayFrom, evM, fillA, setEls, Opd.ev, Fr.get, prune, Option.map, isB, tB, nB, isG, gT, gF, evRes, mapO, one, Nat.reduceAdd, Nat.reduceLeDiff, Nat.reduceEqDiff, Nat.reduceMul, Nat.reduceSub, Nat.reduceLT, Nat.reduceBEq, reduceCtorEq, ↓reduceIte, Int.reduceToNat, Int.reduceLE, Int.reduceLT, Int.reduceEq, Int.reduceAdd, Int.reduceSub, Int.reduceMul, List.reduceReplicate]) (fun hc5 => ?_) (fun hc5 => ?_) | refine WS_split (by simp only [EVa, EVb, params, nilOk, bound, awayFrom, evM, fillA, setEls, Opd.ev, Fr.get, prune, Option.map, isB, tB, nB, isG, gT, gF, evRes, mapO, one, Nat.reduceAdd, Nat.reduceLeDiff, Nat.reduceEqDiff, Nat.reduceMul, Nat.reduceSub, Nat.reduceLT, Nat.reduceBEq, reduceCtorEq, ↓reduceIte, Int.reduceToNat, Int.reduceLE, Int.reduceLT, Int.reduceEq, Int.reduceAdd, Int.reduceSub, Int.reduceMul, List.reduceReplicate]) (fun hc5 => ?_) (fun hc5 => ?_)) <;> try simp only [EVa, EVb, params, nilOk, bound, awayFrom, evM, fillA, setEls, Opd.ev, Fr.get, prune, Option.map, isB, tB, nB, isG, gT, gF, evRes, mapO, one, Nat.reduceAdd, Nat.reduceLeDiff, Nat.reduceEqDiff, Nat.reduceMul, Nat.reduceSub, Nat.reduceLT, Nat.reduceBEq, reduceCtorEq, ↓reduceIte, Int.reduceToNat, Int.reduceLE, Int.reduceLT, Int.reduceEq, Int.reduceAdd, Int.reduceSub, Int.reduceMul, List.reduceReplicate] at hc5 <;> (try simp only [EVa, EVb, params, nilOk, bound, awayFrom, evM, fillA, setEls, Opd.ev, Fr.get, prune, Option.map, isB, tB, nB, isG, gT, gF, evRes, mapO, one, Nat.reduceAdd, Nat.reduceLeDiff, Nat.reduceEqDiff, Nat.reduceMul, Nat.reduceSub, Nat.reduceLT, Nat.reduceBEq, reduceCtorEq, ↓reduceIte, Int.reduceToNat, Int.reduceLE, Int.reduceLT, Int.reduceEq, Int.reduceAdd, Int.reduceSub, Int.reduceMul, List.reduceReplicate, m42r0, m42r1, m42r2, m42r3, m42r4, m42r5, m42r6, m42r7, m42r8, m42r9, m42r10, m42r11, m42r12, m42r13, m42r14, m42, k60, w1, w2, hc1, hc2, hc3, hc4, hc5] <;> (try (first | refine WP_split (by simp only [EVa, EVb, params, nilOk, bound, awayFrom, evM, fillA, setEls, Opd.ev, Fr.get, prune, Option.map, isB, tB, nB, isG, gT, gF, evRes, mapO, one, Nat.reduceAdd, Nat.reduceLeDiff, Nat.reduceEqDiff, Nat.reduceMul, Nat.reduceSub, Nat.reduceLT, Nat.reduceBEq, reduceCtorEq, ↓reduceIte, Int.reduceToNat, Int.reduceLE, Int.reduceLT, Int.reduceEq, Int.reduceAdd, Int.reduceSub, Int.reduceMul, List.reduceReplicate]) (fun hc6 => ?_) (fun hc6 => ?_) | refine WS_split (by simp only [EVa, EVb, params, nilOk, bound, awayFrom, evM, fillA, setEls, Opd.ev, Fr.get, prune, Option.map, isB, tB, nB, isG, gT, gF, evRes, mapO, one, Nat.reduceAdd, Nat.reduceLeDiff, Nat.reduceEqDiff, Nat.reduceMul, Nat.reduceSub, Nat.reduceLT, Nat.reduceBEq, reduceCtorEq, ↓reduceIte, Int.reduceToNat, Int.reduceLE, Int.reduceLT, Int.reduceEq, Int.reduceAdd, Int.reduceSub, Int.reduceMul, List.reduceReplicate]) (fun hc6 => ?_) (fun hc6 => ?_)) <;> try simp only [EVa, EVb, params, nilOk, bound, awayFrom, evM, fillA, setEls, Opd.ev, Fr.get, prune, Option.map, isB, tB, nB, isG, gT, gF, evRes, mapO, one, Nat.reduceAdd, Nat.reduceLeDiff, Nat.reduceEqDiff, Nat.reduceMul, Nat.reduceSub, Nat.reduceLT, Nat.reduceBEq, reduceCtorEq, ↓reduceIte, Int.reduceToNat, Int.reduceLE, Int.reduceLT, Int.reduceEq, Int.reduceAdd, Int.reduceSub, Int.reduceMul, List.reduceReplicate] at hc6 <;> (try simp only [EVa, EVb, params, nilOk, bound, awayFrom, evM, fillA, setEls, Opd.ev, Fr.get, prune, Option.map, isB, tB, nB, isG, gT, gF, evRes, mapO, one, Nat.reduceAdd, Nat.reduceLeDiff, Nat.reduceEqDiff, Nat.reduceMul, Nat.reduceSub, Nat.reduceLT, Nat.reduceBEq, reduceCtorEq, ↓reduceIte, Int.reduceToNat, Int.reduceLE, Int.reduceLT, Int.reduceEq, Int.reduceAdd, Int.reduceSub, Int.reduceMul, List.reduceReplicate, m42r0, m42r1, m42r2, m42r3, m42r4, m42r5, m42r6, m42r7, m42r8, m42r9, m42r10, m42r11, m42r12, m42r13, m42r14, m42, k60, w1, w2, hc1, hc2, hc3, hc4, hc5, hc6] <;> (try (first | refine WP_split (by simp only [EVa, EVb, params, nilOk, bound, awayFrom, evM, fillA, setEls, Opd.ev, Fr.get, prune, Option.map, isB, tB, nB, isG, gT, gF, evRes, mapO, one, Nat.reduceAdd, Nat.reduceLeDiff, Nat.reduceEqDiff, Nat.reduceMul, Nat.reduceSub, Nat.reduceLT, Nat.reduceBEq, reduceCtorEq, ↓reduceIte, Int.reduceToNat, Int.reduceLE, Int.reduceLT, Int.reduceEq, Int.reduceAdd, Int.reduceSub, Int.reduceMul, List.reduceReplicate]) (fun hc7 => ?_) (fun hc7 => ?_) | refine WS_split (by simp only [EVa, EVb, params, nilOk, bound, awayFrom, evM, fillA, setEls, Opd.ev, Fr.get, prune, Option.map, isB, tB, nB, isG, gT, gF, evRes, mapO, one, Nat.reduceAdd, Nat.reduceLeDiff, Nat.reduceEqDiff, Nat.reduceMul, Nat.reduceSub, Nat.reduceLT, Nat.reduceBEq, reduceCtorEq, ↓reduceIte, Int.reduceToNat, Int.reduceLE, Int.reduceLT, Int.reduceEq, Int.reduceAdd, Int.reduceSub, Int.reduceMul, List.reduceReplicate]) (fun hc7 => ?_) (fun hc7 => ?_)) <;> try simp only [EVa, EVb, params, nilOk, bound, awayFrom, evM, fillA, setEls, Opd.ev, Fr.get, prune, Option.map, isB, tB, nB, isG, gT, gF, evRes, mapO, one, Nat.reduceAdd, Nat.reduceLeDiff, Nat.reduceEqDiff, Nat.reduceMul, Nat.reduceSub, Nat.reduceLT, Nat.reduceBEq, reduceCtorEq, ↓reduceIte, Int.reduceToNat, Int.reduceLE, Int.reduceLT, Int.reduceEq, Int.reduceAdd, Int.reduceSub, Int.reduceMul, List.reduceReplicate] at hc7 <;> (try simp only [EVa, EVb, params, nilOk, bound, awayFrom, evM, fillA, setEls, Opd.ev, Fr.get, prune, Option.map, isB, tB, nB, isG, gT, gF, evRes, mapO, one, Nat.reduceAdd, Nat.reduceLeDiff, Nat.reduceEqDiff, Nat.reduceMul, Nat.reduceSub, Nat.reduceLT, Nat.reduceBEq, reduceCtorEq, ↓reduceIte, Int.reduceToNat, Int.reduceLE, Int.reduceLT, Int.reduceEq, Int.reduceAdd, Int.reduceSub, Int.reduceMul, List.reduceReplicate, m42r0, m42r1, m42r2, m42r3, m42r4, m42r5, m42r6, m42r7, m42r8, m42r9, m42r10, m42r11, m42r12, m42r13, m42r14, m42, k60, w1, w2, hc1, hc2, hc3, hc4, hc5, hc6, hc7] <;> (try (first | refine WP_split (by simp only [EVa, EVb, params, nilOk, bound, awayFrom, evM, fillA, setEls, Opd.ev, Fr.get, prune, Option.map, isB, tB, nB, isG, gT, gF, evRes, mapO, one, Nat.reduceAdd, Nat.reduceLeDiff, Nat.reduceEqDiff, Nat.reduceMul, Nat.reduceSub, Nat.reduceLT, Nat.reduceBEq, reduceCtorEq, ↓reduceIte, Int.reduceToNat, Int.reduceLE, Int.reduceLT, Int.reduceEq, Int.reduceAdd, Int.reduceSub, Int.reduceMul, List.reduceReplicate]) (fun hc8 => ?_) (fun hc8 => ?_) | refine WS_split (by simp only [EVa, EVb, params, nilOk, bound, awayFrom, evM, fillA, setEls, Opd.ev, Fr.get, prune, Option.map, isB, tB, nB, isG, gT, gF, evRes, mapO, one, Nat.reduceAdd, Nat.reduceLeDiff, Nat.reduceEqDiff, Nat.reduceMul, Nat.reduceSub, Nat.reduceLT, Nat.reduceBEq, reduceCtorEq, ↓reduceIte, Int.reduceToNat, Int.reduceLE, Int.reduceLT, Int.reduceEq, Int.reduceAdd, Int.reduceSub, Int.reduceMul, List.reduceReplicate]) (fun hc8 => ?_) (fun hc8 => ?_)) <;> try simp only [EVa, EVb, params, nilOk, bound, awayFrom, evM, fillA, setEls, Opd.ev, Fr.get, prune, Option.map, isB, tB, nB, isG, gT, gF, evRes, mapO, one, Nat.reduceAdd, Nat.reduceLeDiff, Nat.reduceEqDiff, Nat.reduceMul, Nat.reduceSub, Nat.reduceLT, Nat.reduceBEq, reduceCtorEq, ↓reduceIte, Int.reduceToNat, Int.reduceLE, Int.reduceLT, Int.reduceEq, Int.reduceAdd, Int.reduceSub, Int.reduceMul, List.reduceReplicate] at hc8 <;> (try simp only [EVa, EVb, params, nilOk, bound, awayFrom, evM, fillA, setEls, Opd.ev, Fr.get, prune, Option.map, isB, tB, nB, isG, gT, gF, evRes, mapO, one, Nat.reduceAdd, Nat.reduceLeDiff, Nat.reduceEqDiff, Nat.reduceMul, Nat.reduceSub, Nat.reduceLT, Nat.reduceBEq, reduceCtorEq, ↓reduceIte, Int.reduceToNat, Int.reduceLE, Int.reduceLT, Int.reduceEq, Int.reduceAdd, Int.reduceSub, Int.reduceMul, List.reduceReplicate, m42r0, m42r1, m42r2, m42r3, m42r4, m42r5, m42r6, m42r7, m42r8, m42r9, m42r10, m42r11, m42r12, m42r13, m42r14, m42, k60, w1, w2, hc1, hc2, hc3, hc4, hc5, hc6, hc7, hc8]))))))))))))))))) <;> simp_all [clueP]
theorem k42 (w h k a b : Int) (hh : hidP w h = true) {d : Option Nat} {os : List MOp} {live : List Nat} {S : List KF} {Q : FQ} {fr : Fr} {A : Heap} : WCR T .ro 42 [.int .i64 w, .int .i64 h, .agg [.int .i64 k, .int .i64 a, .int .i64 b]] d os live S Q fr A ↔ WP T os live S Q (putd d (.bool (clueP w h ⟨k, a, b⟩)) fr) A := (p42 w h k a b hh).call (by simp only [mapO, depth_is, bo_agg, bo_int, bo_bool, bo_str, bo_lst, bo_lS, bo_rp, bo_fn])
theorem t58 : T 58 = some (.code m58) := rfl
theorem p58 (w h k a b : Int) : Pure T 58 [.int .i64 w, .int .i64 h, .agg [.int .i64 k, .int .i64 a, .int .i64 b]] (.bool (hidP w h && clueP w h ⟨k, a, b⟩)) := by
  rw [Pure_of t58]
  by_cases hh : hidP w h = true
  · have hb := hidP_bd hh
    have w1 := wrap_in (w * h) (by omega) (by omega)
    have w2 := wrap_in (w * h - 1) (by omega) (by omega)
    (try simp only [EVa, EVb, params, nilOk, bound, awayFrom, evM, fillA, setEls, Opd.ev, Fr.get, prune, Option.map, isB, tB, nB, isG, gT, gF, evRes, mapO, one, Nat.reduceAdd, Nat.reduceLeDiff, Nat.reduceEqDiff, Nat.reduceMul, Nat.reduceSub, Nat.reduceLT, Nat.reduceBEq, reduceCtorEq, ↓reduceIte, Int.reduceToNat, Int.reduceLE, Int.reduceLT, Int.reduceEq, Int.reduceAdd, Int.reduceSub, Int.reduceMul, List.reduceReplicate, m58r0, m58r1, m58r2, m58r3, m58r4, m58r5, m58r6, m58r7, m58r8, m58r9, m58r10, m58r11, m58r12, m58r13, m58r14, m58r15, m58r16, m58r17, m58, k73, k56, hh, w1, w2] <;> (try (first | refine WP_split (by simp only [EVa, EVb, params, nilOk, bound, awayFrom, evM, fillA, setEls, Opd.ev, Fr.get, prune, Option.map, isB, tB, nB, isG, gT, gF, evRes, mapO, one, Nat.reduceAdd, Nat.reduceLeDiff, Nat.reduceEqDiff, Nat.reduceMul, Nat.reduceSub, Nat.reduceLT, Nat.reduceBEq, reduceCtorEq, ↓reduceIte, Int.reduceToNat, Int.reduceLE, Int.reduceLT, Int.reduceEq, Int.reduceAdd, Int.reduceSub, Int.reduceMul, List.reduceReplicate]) (fun hc1 => ?_) (fun hc1 => ?_) | refine WS_split (by simp only [EVa, EVb, params, nilOk, bound, awayFrom, evM, fillA, setEls, Opd.ev, Fr.get, prune, Option.map, isB, tB, nB, isG, gT, gF, evRes, mapO, one, Nat.reduceAdd, Nat.reduceLeDiff, Nat.reduceEqDiff, Nat.reduceMul, Nat.reduceSub, Nat.reduceLT, Nat.reduceBEq, reduceCtorEq, ↓reduceIte, Int.reduceToNat, Int.reduceLE, Int.reduceLT, Int.reduceEq, Int.reduceAdd, Int.reduceSub, Int.reduceMul, List.reduceReplicate]) (fun hc1 => ?_) (fun hc1 => ?_)) <;> try simp only [EVa, EVb, params, nilOk, bound, awayFrom, evM, fillA, setEls, Opd.ev, Fr.get, prune, Option.map, isB, tB, nB, isG, gT, gF, evRes, mapO, one, Nat.reduceAdd, Nat.reduceLeDiff, Nat.reduceEqDiff, Nat.reduceMul, Nat.reduceSub, Nat.reduceLT, Nat.reduceBEq, reduceCtorEq, ↓reduceIte, Int.reduceToNat, Int.reduceLE, Int.reduceLT, Int.reduceEq, Int.reduceAdd, Int.reduceSub, Int.reduceMul, List.reduceReplicate] at hc1 <;> (try simp only [EVa, EVb, params, nilOk, bound, awayFrom, evM, fillA, setEls, Opd.ev, Fr.get, prune, Option.map, isB, tB, nB, isG, gT, gF, evRes, mapO, one, Nat.reduceAdd, Nat.reduceLeDiff, Nat.reduceEqDiff, Nat.reduceMul, Nat.reduceSub, Nat.reduceLT, Nat.reduceBEq, reduceCtorEq, ↓reduceIte, Int.reduceToNat, Int.reduceLE, Int.reduceLT, Int.reduceEq, Int.reduceAdd, Int.reduceSub, Int.reduceMul, List.reduceReplicate, m58r0, m58r1, m58r2, m58r3, m58r4, m58r5, m58r6, m58r7, m58r8, m58r9, m58r10, m58r11, m58r12, m58r13, m58r14, m58r15, m58r16, m58r17, m58, k73, k56, hh, w1, w2, hc1] <;> (try (first | refine WP_split (by simp only [EVa, EVb, params, nilOk, bound, awayFrom, evM, fillA, setEls, Opd.ev, Fr.get, prune, Option.map, isB, tB, nB, isG, gT, gF, evRes, mapO, one, Nat.reduceAdd, Nat.reduceLeDiff, Nat.reduceEqDiff, Nat.reduceMul, Nat.reduceSub, Nat.reduceLT, Nat.reduceBEq, reduceCtorEq, ↓reduceIte, Int.reduceToNat, Int.reduceLE, Int.reduceLT, Int.reduceEq, Int.reduceAdd, Int.reduceSub, Int.reduceMul, List.reduceReplicate]) (fun hc2 => ?_) (fun hc2 => ?_) | refine WS_split (by simp only [EVa, EVb, params, nilOk, bound, awayFrom, evM, fillA, setEls, Opd.ev, Fr.get, prune, Option.map, isB, tB, nB, isG, gT, gF, evRes, mapO, one, Nat.reduceAdd, Nat.reduceLeDiff, Nat.reduceEqDiff, Nat.reduceMul, Nat.reduceSub, Nat.reduceLT, Nat.reduceBEq, reduceCtorEq, ↓reduceIte, Int.reduceToNat, Int.reduceLE, Int.reduceLT, Int.reduceEq, Int.reduceAdd, Int.reduceSub, Int.reduceMul, List.reduceReplicate]) (fun hc2 => ?_) (fun hc2 => ?_)) <;> try simp only [EVa, EVb, params, nilOk, bound, awayFrom, evM, fillA, setEls, Opd.ev, Fr.get, prune, Option.map, isB, tB, nB, isG, gT, gF, evRes, mapO, one, Nat.reduceAdd, Nat.reduceLeDiff, Nat.reduceEqDiff, Nat.reduceMul, Nat.reduceSub, Nat.reduceLT, Nat.reduceBEq, reduceCtorEq, ↓reduceIte, Int.reduceToNat, Int.reduceLE, Int.reduceLT, Int.reduceEq, Int.reduceAdd, Int.reduceSub, Int.reduceMul, List.reduceReplicate] at hc2 <;> (try simp only [EVa, EVb, params, nilOk, bound, awayFrom, evM, fillA, setEls, Opd.ev, Fr.get, prune, Option.map, isB, tB, nB, isG, gT, gF, evRes, mapO, one, Nat.reduceAdd, Nat.reduceLeDiff, Nat.reduceEqDiff, Nat.reduceMul, Nat.reduceSub, Nat.reduceLT, Nat.reduceBEq, reduceCtorEq, ↓reduceIte, Int.reduceToNat, Int.reduceLE, Int.reduceLT, Int.reduceEq, Int.reduceAdd, Int.reduceSub, Int.reduceMul, List.reduceReplicate, m58r0, m58r1, m58r2, m58r3, m58r4, m58r5, m58r6, m58r7, m58r8, m58r9, m58r10, m58r11, m58r12, m58r13, m58r14, m58r15, m58r16, m58r17, m58, k73, k56, hh, w1, w2, hc1, hc2] <;> (try (first | refine WP_split (by simp only [EVa, EVb, params, nilOk, bound, awayFrom, evM, fillA, setEls, Opd.ev, Fr.get, prune, Option.map, isB, tB, nB, isG, gT, gF, evRes, mapO, one, Nat.reduceAdd, Nat.reduceLeDiff, Nat.reduceEqDiff, Nat.reduceMul, Nat.reduceSub, Nat.reduceLT, Nat.reduceBEq, reduceCtorEq, ↓reduceIte, Int.reduceToNat, Int.reduceLE, Int.reduceLT, Int.reduceEq, Int.reduceAdd, Int.reduceSub, Int.reduceMul, List.reduceReplicate]) (fun hc3 => ?_) (fun hc3 => ?_) | refine WS_split (by simp only [EVa, EVb, params, nilOk, bound, awayFrom, evM, fillA, setEls, Opd.ev, Fr.get, prune, Option.map, isB, tB, nB, isG, gT, gF, evRes, mapO, one, Nat.reduceAdd, Nat.reduceLeDiff, Nat.reduceEqDiff, Nat.reduceMul, Nat.reduceSub, Nat.reduceLT, Nat.reduceBEq, reduceCtorEq, ↓reduceIte, Int.reduceToNat, Int.reduceLE, Int.reduceLT, Int.reduceEq, Int.reduceAdd, Int.reduceSub, Int.reduceMul, List.reduceReplicate]) (fun hc3 => ?_) (fun hc3 => ?_)) <;> try simp only [EVa, EVb, params, nilOk, bound, awayFrom, evM, fillA, setEls, Opd.ev, Fr.get, prune, Option.map, isB, tB, nB, isG, gT, gF, evRes, mapO, one, Nat.reduceAdd, Nat.reduceLeDiff, Nat.reduceEqDiff, Nat.reduceMul, Nat.reduceSub, Nat.reduceLT, Nat.reduceBEq, reduceCtorEq, ↓reduceIte, Int.reduceToNat, Int.reduceLE, Int.reduceLT, Int.reduceEq, Int.reduceAdd, Int.reduceSub, Int.reduceMul, List.reduceReplicate] at hc3 <;> (try simp only [EVa, EVb, params, nilOk, bound, awayFrom, evM, fillA, setEls, Opd.ev, Fr.get, prune, Option.map, isB, tB, nB, isG, gT, gF, evRes, mapO, one, Nat.reduceAdd, Nat.reduceLeDiff, Nat.reduceEqDiff, Nat.reduceMul, Nat.reduceSub, Nat.reduceLT, Nat.reduceBEq, reduceCtorEq, ↓reduceIte, Int.reduceToNat, Int.reduceLE, Int.reduceLT, Int.reduceEq, Int.reduceAdd, Int.reduceSub, Int.reduceMul, List.reduceReplicate, m58r0, m58r1, m58r2, m58r3, m58r4, m58r5, m58r6, m58r7, m58r8, m58r9, m58r10, m58r11, m58r12, m58r13, m58r14, m58r15, m58r16, m58r17, m58, k73, k56, hh, w1, w2, hc1, hc2, hc3] <;> (try (first | refine WP_split (by simp only [EVa, EVb, params, nilOk, bound, awayFrom, evM, fillA, setEls, Opd.ev, Fr.get, prune, Option.map, isB, tB, nB, isG, gT, gF, evRes, mapO, one, Nat.reduceAdd, Nat.reduceLeDiff, Nat.reduceEqDiff, Nat.reduceMul, Nat.reduceSub, Nat.reduceLT, Nat.reduceBEq, reduceCtorEq, ↓reduceIte, Int.reduceToNat, Int.reduceLE, Int.reduceLT, Int.reduceEq, Int.reduceAdd, Int.reduceSub, Int.reduceMul, List.reduceReplicate]) (fun hc4 => ?_) (fun hc4 => ?_) | refine WS_split (by simp only [EVa, EVb, params, nilOk, bound, awayFrom, evM, fillA, setEls, Opd.ev, Fr.get, prune, Option.map, isB, tB, nB, isG, gT, gF, evRes, mapO, one, Nat.reduceAdd, Nat.reduceLeDiff, Nat.reduceEqDiff, Nat.reduceMul, Nat.reduceSub, Nat.reduceLT, Nat.reduceBEq, reduceCtorEq, ↓reduceIte, Int.reduceToNat, Int.reduceLE, Int.reduceLT, Int.reduceEq, Int.reduceAdd, Int.reduceSub, Int.reduceMul, List.reduceReplicate]) (fun hc4 => ?_) (fun hc4 => ?_)) <;> try simp only [EVa, EVb, params, nilOk, bound, awayFrom, evM, fillA, setEls, Opd.ev, Fr.get, prune, Option.map, isB, tB, nB, isG, gT, gF, evRes, mapO, one, Nat.reduceAdd, Nat.reduceLeDiff, Nat.reduceEqDiff, Nat.reduceMul, Nat.reduceSub, Nat.reduceLT, Nat.reduceBEq, reduceCtorEq, ↓reduceIte, Int.reduceToNat, Int.reduceLE, Int.reduceLT, Int.reduceEq, Int.reduceAdd, Int.reduceSub, Int.reduceMul, List.reduceReplicate] at hc4 <;> (try simp only [EVa, EVb, params, nilOk, bound, awayFrom, evM, fillA, setEls, Opd.ev, Fr.get, prune, Option.map, isB, tB, nB, isG, gT, gF, evRes, mapO, one, Nat.reduceAdd, Nat.reduceLeDiff, Nat.reduceEqDiff, Nat.reduceMul, Nat.reduceSub, Nat.reduceLT, Nat.reduceBEq, reduceCtorEq, ↓reduceIte, Int.reduceToNat, Int.reduceLE, Int.reduceLT, Int.reduceEq, Int.reduceAdd, Int.reduceSub, Int.reduceMul, List.reduceReplicate, m58r0, m58r1, m58r2, m58r3, m58r4, m58r5, m58r6, m58r7, m58r8, m58r9, m58r10, m58r11, m58r12, m58r13, m58r14, m58r15, m58r16, m58r17, m58, k73, k56, hh, w1, w2, hc1, hc2, hc3, hc4] <;> (try (first | refine WP_split (by simp only [EVa, EVb, params, nilOk, bound, awayFrom, evM, fillA, setEls, Opd.ev, Fr.get, prune, Option.map, isB, tB, nB, isG, gT, gF, evRes, mapO, one, Nat.reduceAdd, Nat.reduceLeDiff, Nat.reduceEqDiff, Nat.reduceMul, Nat.reduceSub, Nat.reduceLT, Nat.reduceBEq, reduceCtorEq, ↓reduceIte, Int.reduceToNat, Int.reduceLE, Int.reduceLT, Int.reduceEq, Int.reduceAdd, Int.reduceSub, Int.reduceMul, List.reduceReplicate]) (fun hc5 => ?_) (fun hc5 => ?_) | refine WS_split (by simp only [EVa, EVb, params, nilOk, bound, awayFrom, evM, fillA, setEls, Opd.ev, Fr.get, prune, Option.map, isB, tB, nB, isG, gT, gF, evRes, mapO, one, Nat.reduceAdd, Nat.reduceLeDiff, Nat.reduceEqDiff, Nat.reduceMul, Nat.reduceSub, Nat.reduceLT, Nat.reduceBEq, reduceCtorEq, ↓reduceIte, Int.reduceToNat, Int.reduceLE, Int.reduceLT, Int.reduceEq, Int.reduceAdd, Int.reduceSub, Int.reduceMul, List.reduceReplicate]) (fun hc5 => ?_) (fun hc5 => ?_)) <;> try simp only [EVa, EVb, params, nilOk, bound, awayFrom, evM, fillA, setEls, Opd.ev, Fr.get, prune, Option.map, isB, tB, nB, isG, gT, gF, evRes, mapO, one, Nat.reduceAdd, Nat.reduceLeDiff, Nat.reduceEqDiff, Nat.reduceMul, Nat.reduceSub, Nat.reduceLT, Nat.reduceBEq, reduceCtorEq, ↓reduceIte, Int.reduceToNat, Int.reduceLE, Int.reduceLT, Int.reduceEq, Int.reduceAdd, Int.reduceSub, Int.reduceMul, List.reduceReplicate] at hc5 <;> (try simp only [EVa, EVb, params, nilOk, bound, awayFrom, evM, fillA, setEls, Opd.ev, Fr.get, prune, Option.map, isB, tB, nB, isG, gT, gF, evRes, mapO, one, Nat.reduceAdd, Nat.reduceLeDiff, Nat.reduceEqDiff, Nat.reduceMul, Nat.reduceSub, Nat.reduceLT, Nat.reduceBEq, reduceCtorEq, ↓reduceIte, Int.reduceToNat, Int.reduceLE, Int.reduceLT, Int.reduceEq, Int.reduceAdd, Int.reduceSub, Int.reduceMul, List.reduceReplicate, m58r0, m58r1, m58r2, m58r3, m58r4, m58r5, m58r6, m58r7, m58r8, m58r9, m58r10, m58r11, m58r12, m58r13, m58r14, m58r15, m58r16, m58r17, m58, k73, k56, hh, w1, w2, hc1, hc2, hc3, hc4, hc5] <;> (try (first | refine WP_split (by simp only [EVa, EVb, params, nilOk, bound, awayFrom, evM, fillA, setEls, Opd.ev, Fr.get, prune, Option.map, isB, tB, nB, isG, gT, gF, evRes, mapO, one, Nat.reduceAdd, Nat.reduceLeDiff, Nat.reduceEqDiff, Nat.reduceMul, Nat.reduceSub, Nat.reduceLT, Nat.reduceBEq, reduceCtorEq, ↓reduceIte, Int.reduceToNat, Int.reduceLE, Int.reduceLT, Int.reduceEq, Int.reduceAdd, Int.reduceSub, Int.reduceMul, List.reduceReplicate]) (fun hc6 => ?_) (fun hc6 => ?_) | refine WS_split (by simp only [EVa, EVb, params, nilOk, bound, awayFrom, evM, fillA, setEls, Opd.ev, Fr.get, prune, Option.map, isB, tB, nB, isG, gT, gF, evRes, mapO, one, Nat.reduceAdd, Nat.reduceLeDiff, Nat.reduceEqDiff, Nat.reduceMul, Nat.reduceSub, Nat.reduceLT, Nat.reduceBEq, reduceCtorEq, ↓reduceIte, Int.reduceToNat, Int.reduceLE, Int.reduceLT, Int.reduceEq, Int.reduceAdd, Int.reduceSub, Int.reduceMul, List.reduceReplicate]) (fun hc6 => ?_) (fun hc6 => ?_)) <;> try simp only [EVa, EVb, params, nilOk, bound, awayFrom, evM, fillA, setEls, Opd.ev, Fr.get, prune, Option.map, isB, tB, nB, isG, gT, gF, evRes, mapO, one, Nat.reduceAdd, Nat.reduceLeDiff, Nat.reduceEqDiff, Nat.reduceMul, Nat.reduceSub, Nat.reduceLT, Nat.reduceBEq, reduceCtorEq, ↓reduceIte, Int.reduceToNat, Int.reduceLE, Int.reduceLT, Int.reduceEq, Int.reduceAdd, Int.reduceSub, Int.reduceMul, List.reduceReplicate] at hc6 <;> (try simp only [EVa, EVb, params, nilOk, bound, awayFrom, evM, fillA, setEls, Opd.ev, Fr.get, prune, Option.map, isB, tB, nB, isG, gT, gF, evRes, mapO, one, Nat.reduceAdd, Nat.reduceLeDiff, Nat.reduceEqDiff, Nat.reduceMul, Nat.reduceSub, Nat.reduceLT, Nat.reduceBEq, reduceCtorEq, ↓reduceIte, Int.reduceToNat, Int.reduceLE, Int.reduceLT, Int.reduceEq, Int.reduceAdd, Int.reduceSub, Int.reduceMul, List.reduceReplicate, m58r0, m58r1, m58r2, m58r3, m58r4, m58r5, m58r6, m58r7, m58r8, m58r9, m58r10, m58r11, m58r12, m58r13, m58r14, m58r15, m58r16, m58r17, m58, k73, k56, hh, w1, w2, hc1, hc2, hc3, hc4, hc5, hc6] <;> (try (first | refine WP_split (by simp only [EVa, EVb, params, nilOk, bound, awayFrom, evM, fillA, setEls, Opd.ev, Fr.get, prune, Option.map, isB, tB, nB, isG, gT, gF, evRes, mapO, one, Nat.reduceAdd, Nat.reduceLeDiff, Nat.reduceEqDiff, Nat.reduceMul, Nat.reduceSub, Nat.reduceLT, Nat.reduceBEq, reduceCtorEq, ↓reduceIte, Int.reduceToNat, Int.reduceLE, Int.reduceLT, Int.reduceEq, Int.reduceAdd, Int.reduceSub, Int.reduceMul, List.reduceReplicate]) (fun hc7 => ?_) (fun hc7 => ?_) | refine WS_split (by simp only [EVa, EVb, params, nilOk, bound, awayFrom, evM, fillA, setEls, Opd.ev, Fr.get, prune, Option.map, isB, tB, nB, isG, gT, gF, evRes, mapO, one, Nat.reduceAdd, Nat.reduceLeDiff, Nat.reduceEqDiff, Nat.reduceMul, Nat.reduceSub, Nat.reduceLT, Nat.reduceBEq, reduceCtorEq, ↓reduceIte, Int.reduceToNat, Int.reduceLE, Int.reduceLT, Int.reduceEq, Int.reduceAdd, Int.reduceSub, Int.reduceMul, List.reduceReplicate]) (fun hc7 => ?_) (fun hc7 => ?_)) <;> try simp only [EVa, EVb, params, nilOk, bound, awayFrom, evM, fillA, setEls, Opd.ev, Fr.get, prune, Option.map, isB, tB, nB, isG, gT, gF, evRes, mapO, one, Nat.reduceAdd, Nat.reduceLeDiff, Nat.reduceEqDiff, Nat.reduceMul, Nat.reduceSub, Nat.reduceLT, Nat.reduceBEq, reduceCtorEq, ↓reduceIte, Int.reduceToNat, Int.reduceLE, Int.reduceLT, Int.reduceEq, Int.reduceAdd, Int.reduceSub, Int.reduceMul, List.reduceReplicate] at hc7 <;> (try simp only [EVa, EVb, params, nilOk, bound, awayFrom, evM, fillA, setEls, Opd.ev, Fr.get, prune, Option.map, isB, tB, nB, isG, gT, gF, evRes, mapO, one, Nat.reduceAdd, Nat.reduceLeDiff, Nat.reduceEqDiff, Nat.reduceMul, Nat.reduceSub, Nat.reduceLT, Nat.reduceBEq, reduceCtorEq, ↓reduceIte, Int.reduceToNat, Int.reduceLE, Int.reduceLT, Int.reduceEq, Int.reduceAdd, Int.reduceSub, Int.reduceMul, List.reduceReplicate, m58r0, m58r1, m58r2, m58r3, m58r4, m58r5, m58r6, m58r7, m58r8, m58r9, m58r10, m58r11, m58r12, m58r13, m58r14, m58r15, m58r16, m58r17, m58, k73, k56, hh, w1, w2, hc1, hc2, hc3, hc4, hc5, hc6, hc7] <;> (try (first | refine WP_split (by simp only [EVa, EVb, params, nilOk, bound, awayFrom, evM, fillA, setEls, Opd.ev, Fr.get, prune, Option.map, isB, tB, nB, isG, gT, gF, evRes, mapO, one, Nat.reduceAdd, Nat.reduceLeDiff, Nat.reduceEqDiff, Nat.reduceMul, Nat.reduceSub, Nat.reduceLT, Nat.reduceBEq, reduceCtorEq, ↓reduceIte, Int.reduceToNat, Int.reduceLE, Int.reduceLT, Int.reduceEq, Int.reduceAdd, Int.reduceSub, Int.reduceMul, List.reduceReplicate]) (fun hc8 => ?_) (fun hc8 => ?_) | refine WS_split (by simp only [EVa, EVb, params, nilOk, bound, awayFrom, evM, fillA, setEls, Opd.ev, Fr.get, prune, Option.map, isB, tB, nB, isG, gT, gF, evRes, mapO, one, Nat.reduceAdd, Nat.reduceLeDiff, Nat.reduceEqDiff, Nat.reduceMul, Nat.reduceSub, Nat.reduceLT, Nat.reduceBEq, reduceCtorEq, ↓reduceIte, Int.reduceToNat, Int.reduceLE, Int.reduceLT, Int.reduceEq, Int.reduceAdd, Int.reduceSub, Int.reduceMul, List.reduceReplicate]) (fun hc8 => ?_) (fun hc8 => ?_)) <;> try simp only [EVa, EVb, params, nilOk, bound, awayFrom, evM, fillA, setEls, Opd.ev, Fr.get, prune, Option.map, isB, tB, nB, isG, gT, gF, evRes, mapO, one, Nat.reduceAdd, Nat.reduceLeDiff, Nat.reduceEqDiff, Nat.reduceMul, Nat.reduceSub, Nat.reduceLT, Nat.reduceBEq, reduceCtorEq, ↓reduceIte, Int.reduceToNat, Int.reduceLE, Int.reduceLT, Int.reduceEq, Int.reduceAdd, Int.reduceSub, Int.reduceMul, List.reduceReplicate] at hc8 <;> (try simp only [EVa, EVb, params, nilOk, bound, awayFrom, evM, fillA, setEls, Opd.ev, Fr.get, prune, Option.map, isB, tB, nB, isG, gT, gF, evRes, mapO, one, Nat.reduceAdd, Nat.reduceLeDiff, Nat.reduceEqDiff, Nat.reduceMul, Nat.reduceSub, Nat.reduceLT, Nat.reduceBEq, reduceCtorEq, ↓reduceIte, Int.reduceToNat, Int.reduceLE, Int.reduceLT, Int.reduceEq, Int.reduceAdd, Int.reduceSub, Int.reduceMul, List.reduceReplicate, m58r0, m58r1, m58r2, m58r3, m58r4, m58r5, m58r6, m58r7, m58r8, m58r9, m58r10, m58r11, m58r12, m58r13, m58r14, m58r15, m58r16, m58r17, m58, k73, k56, hh, w1, w2, hc1, hc2, hc3, hc4, hc5, hc6, hc7, hc8]))))))))))))))))) <;> simp_all [clueP]
  · have hh' : hidP w h = false := by simpa using hh
    simp only [m58r0, m58r1, m58r2, m58r3, m58r4, m58r5, m58r6, m58r7, m58r8, m58r9, m58r10, m58r11, m58r12, m58r13, m58r14, m58r15, m58r16, m58r17, m58, EVa, EVb, params, nilOk, bound, awayFrom, evM, fillA, setEls, Opd.ev, Fr.get, prune, Option.map, isB, tB, nB, isG, gT, gF, evRes, mapO, one, Nat.reduceAdd, Nat.reduceLeDiff, Nat.reduceEqDiff, Nat.reduceMul, Nat.reduceSub, Nat.reduceLT, Nat.reduceBEq, reduceCtorEq, ↓reduceIte, Int.reduceToNat, Int.reduceLE, Int.reduceLT, Int.reduceEq, Int.reduceAdd, Int.reduceSub, Int.reduceMul, List.reduceReplicate, k56, hh']
theorem k58 (w h k a b : Int) {d : Option Nat} {os : List MOp} {live : List Nat} {S : List KF} {Q : FQ} {fr : Fr} {A : Heap} : WCR T .ro 58 [.int .i64 w, .int .i64 h, .agg [.int .i64 k, .int .i64 a, .int .i64 b]] d os live S Q fr A ↔ WP T os live S Q (putd d (.bool (hidP w h && clueP w h ⟨k, a, b⟩)) fr) A := (p58 w h k a b).call (by simp only [mapO, depth_is, bo_agg, bo_int, bo_bool, bo_str, bo_lst, bo_lS, bo_rp, bo_fn])
theorem t24 : T 24 = some (.code m24) := rfl
theorem p24 (w h : Int) (p nil : Bool) (cs : List Cu) : Pure T 24 [.agg [.int .i64 w, .int .i64 h, .lst p 3 nil (cs.map avU)]] (.bool (goodZ w h cs)) := by
  rw [Pure_of t24]
  by_cases hh : hidP w h = true
  · by_cases hl : cs.length ≤ 6
    · have hl' : ((6 : Int) < (cs.length : Int)) = False := eq_false (by omega)
      simp only [m24r0, m24r1, m24r2, m24r3, m24r4, m24r5, m24r6, m24r7, m24r8, m24r10, m24, EVa, EVb, params, nilOk, bound, awayFrom, evM, fillA, setEls, Opd.ev, Fr.get, prune, Option.map, isB, tB, nB, isG, gT, gF, evRes, mapO, one, Nat.reduceAdd, Nat.reduceLeDiff, Nat.reduceEqDiff, Nat.reduceMul, Nat.reduceSub, Nat.reduceLT, Nat.reduceBEq, reduceCtorEq, ↓reduceIte, Int.reduceToNat, Int.reduceLE, Int.reduceLT, Int.reduceEq, Int.reduceAdd, Int.reduceSub, Int.reduceMul, List.reduceReplicate, k41, hh, hl']
      refine WS_loop' (σ := Nat × Heap) (fun s => [(1, .rp [.int .i64 w, .int .i64 h, .lst p 3 nil (cs.map avU)] 0), (18, .lst p 3 nil (cs.map avU)), (19, .int .i64 cs.length), (20, .int .i64 s.1)])
        (fun s => s.2) (fun s => cs.length - s.1) (fun s => s.1 ≤ cs.length ∧ (cs.drop s.1).all (clueP w h) = goodZ w h cs) (0, _) rfl rfl ⟨by simp, by simp [goodZ, hh, hl]⟩ ?_
      rintro ⟨i, H⟩ ⟨hi, ha⟩
      dsimp only at hi ha
      by_cases hlt : i < cs.length
      · have e1 : (cs.map avU)[i]? = some (avU cs[i]) := map_get hlt
        have e4 := wsucc (i := i) (by omega)
        rw [all_drop _ _ _ hlt] at ha
        have hk := fun {k a b d os live S Q fr A} => k42 w h k a b hh (d := d) (os := os) (live := live) (S := S) (Q := Q) (fr := fr) (A := A)
        (try simp only [EVa, EVb, params, nilOk, bound, awayFrom, evM, fillA, setEls, Opd.ev, Fr.get, prune, Option.map, isB, tB, nB, isG, gT, gF, evRes, mapO, one, Nat.reduceAdd, Nat.reduceLeDiff, Nat.reduceEqDiff, Nat.reduceMul, Nat.reduceSub, Nat.reduceLT, Nat.reduceBEq, reduceCtorEq, ↓reduceIte, Int.reduceToNat, Int.reduceLE, Int.reduceLT, Int.reduceEq, Int.reduceAdd, Int.reduceSub, Int.reduceMul, List.reduceReplicate, m24l9, m24r0, m24r1, m24r2, m24r3, m24r4, m24r5, m24r6, m24r7, m24r8, m24r10, m24, e1, e4, hlt, avU, hk] <;> (try (first | refine WP_split (by simp only [EVa, EVb, params, nilOk, bound, awayFrom, evM, fillA, setEls, Opd.ev, Fr.get, prune, Option.map, isB, tB, nB, isG, gT, gF, evRes, mapO, one, Nat.reduceAdd, Nat.reduceLeDiff, Nat.reduceEqDiff, Nat.reduceMul, Nat.reduceSub, Nat.reduceLT, Nat.reduceBEq, reduceCtorEq, ↓reduceIte, Int.reduceToNat, Int.reduceLE, Int.reduceLT, Int.reduceEq, Int.reduceAdd, Int.reduceSub, Int.reduceMul, List.reduceReplicate]) (fun hc1 => ?_) (fun hc1 => ?_) | refine WS_split (by simp only [EVa, EVb, params, nilOk, bound, awayFrom, evM, fillA, setEls, Opd.ev, Fr.get, prune, Option.map, isB, tB, nB, isG, gT, gF, evRes, mapO, one, Nat.reduceAdd, Nat.reduceLeDiff, Nat.reduceEqDiff, Nat.reduceMul, Nat.reduceSub, Nat.reduceLT, Nat.reduceBEq, reduceCtorEq, ↓reduceIte, Int.reduceToNat, Int.reduceLE, Int.reduceLT, Int.reduceEq, Int.reduceAdd, Int.reduceSub, Int.reduceMul, List.reduceReplicate]) (fun hc1 => ?_) (fun hc1 => ?_)) <;> try simp only [EVa, EVb, params, nilOk, bound, awayFrom, evM, fillA, setEls, Opd.ev, Fr.get, prune, Option.map, isB, tB, nB, isG, gT, gF, evRes, mapO, one, Nat.reduceAdd, Nat.reduceLeDiff, Nat.reduceEqDiff, Nat.reduceMul, Nat.reduceSub, Nat.reduceLT, Nat.reduceBEq, reduceCtorEq, ↓reduceIte, Int.reduceToNat, Int.reduceLE, Int.reduceLT, Int.reduceEq, Int.reduceAdd, Int.reduceSub, Int.reduceMul, List.reduceReplicate] at hc1 <;> (try simp only [EVa, EVb, params, nilOk, bound, awayFrom, evM, fillA, setEls, Opd.ev, Fr.get, prune, Option.map, isB, tB, nB, isG, gT, gF, evRes, mapO, one, Nat.reduceAdd, Nat.reduceLeDiff, Nat.reduceEqDiff, Nat.reduceMul, Nat.reduceSub, Nat.reduceLT, Nat.reduceBEq, reduceCtorEq, ↓reduceIte, Int.reduceToNat, Int.reduceLE, Int.reduceLT, Int.reduceEq, Int.reduceAdd, Int.reduceSub, Int.reduceMul, List.reduceReplicate, m24l9, m24r0, m24r1, m24r2, m24r3, m24r4, m24r5, m24r6, m24r7, m24r8, m24r10, m24, e1, e4, hlt, avU, hk, hc1])))
        · have h1 : clueP w h cs[i] = false := hc1
          rw [h1] at ha; rw [← ha]; rfl
        · have h1 : clueP w h cs[i] = true := by simpa using hc1
          rw [h1] at ha
          exact ⟨(_, _), ⟨rfl, rfl⟩, ⟨hlt, ha⟩, by simp only; omega⟩
      · rw [all_end _ _ _ hlt] at ha
        simp only [m24l9, m24r0, m24r1, m24r2, m24r3, m24r4, m24r5, m24r6, m24r7, m24r8, m24r10, m24, EVa, EVb, params, nilOk, bound, awayFrom, evM, fillA, setEls, Opd.ev, Fr.get, prune, Option.map, isB, tB, nB, isG, gT, gF, evRes, mapO, one, Nat.reduceAdd, Nat.reduceLeDiff, Nat.reduceEqDiff, Nat.reduceMul, Nat.reduceSub, Nat.reduceLT, Nat.reduceBEq, reduceCtorEq, ↓reduceIte, Int.reduceToNat, Int.reduceLE, Int.reduceLT, Int.reduceEq, Int.reduceAdd, Int.reduceSub, Int.reduceMul, List.reduceReplicate, hlt, ← ha]
    · have hl' : ((6 : Int) < (cs.length : Int)) = True := eq_true (by omega)
      simp only [m24r0, m24r1, m24r2, m24r3, m24r4, m24r5, m24r6, m24r7, m24r8, m24r10, m24, EVa, EVb, params, nilOk, bound, awayFrom, evM, fillA, setEls, Opd.ev, Fr.get, prune, Option.map, isB, tB, nB, isG, gT, gF, evRes, mapO, one, Nat.reduceAdd, Nat.reduceLeDiff, Nat.reduceEqDiff, Nat.reduceMul, Nat.reduceSub, Nat.reduceLT, Nat.reduceBEq, reduceCtorEq, ↓reduceIte, Int.reduceToNat, Int.reduceLE, Int.reduceLT, Int.reduceEq, Int.reduceAdd, Int.reduceSub, Int.reduceMul, List.reduceReplicate, k41, hh, hl', goodZ, hl]
  · have hh' : hidP w h = false := by simpa using hh
    simp only [m24r0, m24r1, m24r2, m24r3, m24r4, m24r5, m24r6, m24r7, m24r8, m24r10, m24, EVa, EVb, params, nilOk, bound, awayFrom, evM, fillA, setEls, Opd.ev, Fr.get, prune, Option.map, isB, tB, nB, isG, gT, gF, evRes, mapO, one, Nat.reduceAdd, Nat.reduceLeDiff, Nat.reduceEqDiff, Nat.reduceMul, Nat.reduceSub, Nat.reduceLT, Nat.reduceBEq, reduceCtorEq, ↓reduceIte, Int.reduceToNat, Int.reduceLE, Int.reduceLT, Int.reduceEq, Int.reduceAdd, Int.reduceSub, Int.reduceMul, List.reduceReplicate, k41, hh', goodZ]
theorem k24 (w h : Int) (p nil : Bool) (cs : List Cu) {d : Option Nat} {os : List MOp} {live : List Nat} {S : List KF} {Q : FQ} {fr : Fr} {A : Heap} : WCR T .ro 24 [.agg [.int .i64 w, .int .i64 h, .lst p 3 nil (cs.map avU)]] d os live S Q fr A ↔ WP T os live S Q (putd d (.bool (goodZ w h cs)) fr) A := (p24 w h p nil cs).call (by simp only [mapO, depth_is, bo_agg, bo_int, bo_lU])
theorem t69 : T 69 = some (.code m69) := rfl
theorem p69 (p nil : Bool) (sq : List Cu) (f : Cu → Bool) (g : FuncId) (caps : List AV) (hl : sq.length ≤ 1000) (hf : ∀ s, s ∈ sq → Pure T g (avU s :: caps) (.bool (f s))) (hc : ∀ A, mapO (borrow A 8) caps = some caps) (hc5 : ∀ A, mapO (borrow A 7) caps = some caps) : Pure T 69 [.lst p 3 nil (sq.map avU), .fn g [] caps] (.int .i64 (numM (idxU f sq 0))) := by
  rw [Pure_of t69]
  simp only [m69r0, m69r1, m69r2, m69r3, m69r4, m69r5, m69r6, m69r8, m69, EVa, EVb, params, nilOk, bound, awayFrom, evM, fillA, setEls, Opd.ev, Fr.get, prune, Option.map, isB, tB, nB, isG, gT, gF, evRes, mapO, one, Nat.reduceAdd, Nat.reduceLeDiff, Nat.reduceEqDiff, Nat.reduceMul, Nat.reduceSub, Nat.reduceLT, Nat.reduceBEq, reduceCtorEq, ↓reduceIte, Int.reduceToNat, Int.reduceLE, Int.reduceLT, Int.reduceEq, Int.reduceAdd, Int.reduceSub, Int.reduceMul, List.reduceReplicate]
  refine WS_loop' (σ := Nat) (fun s => [(0, .lst p 3 nil (sq.map avU)), (1, .fn g [] caps), (7, .int .i64 sq.length), (8, .int .i64 s)])
    (fun s => []) (fun s => sq.length - s) (fun s => s ≤ sq.length ∧ idxU f (sq.drop s) s = idxU f sq 0) 0 rfl rfl (by simp) ?_
  rintro i ⟨hi, ha⟩
  by_cases hlt : i < sq.length
  · have e1 : (sq.map avU)[i]? = some (avU sq[i]) := map_get hlt
    have e4 := wsucc (i := i) (by omega)
    have hcall : ∀ {d os live S Q fr A}, WCR T .ro g (.agg [.int .i64 sq[i].k, .int .i64 sq[i].a, .int .i64 sq[i].b] :: caps) d os live S Q fr A ↔ WP T os live S Q (putd d (.bool (f sq[i])) fr) A := by
      intro d os live S Q fr A
      exact (hf sq[i] (List.getElem_mem hlt)).call (by simp only [mapO, depth_is, bo_agg, bo_int, hc, avU])
    rw [idxU_drop _ _ _ _ hlt] at ha
    (try simp only [EVa, EVb, params, nilOk, bound, awayFrom, evM, fillA, setEls, Opd.ev, Fr.get, prune, Option.map, isB, tB, nB, isG, gT, gF, evRes, mapO, one, Nat.reduceAdd, Nat.reduceLeDiff, Nat.reduceEqDiff, Nat.reduceMul, Nat.reduceSub, Nat.reduceLT, Nat.reduceBEq, reduceCtorEq, ↓reduceIte, Int.reduceToNat, Int.reduceLE, Int.reduceLT, Int.reduceEq, Int.reduceAdd, Int.reduceSub, Int.reduceMul, List.reduceReplicate, m69l7, m69r0, m69r1, m69r2, m69r3, m69r4, m69r5, m69r6, m69r8, m69, e1, e4, hlt, avU, hcall] <;> (try (first | refine WP_split (by simp only [EVa, EVb, params, nilOk, bound, awayFrom, evM, fillA, setEls, Opd.ev, Fr.get, prune, Option.map, isB, tB, nB, isG, gT, gF, evRes, mapO, one, Nat.reduceAdd, Nat.reduceLeDiff, Nat.reduceEqDiff, Nat.reduceMul, Nat.reduceSub, Nat.reduceLT, Nat.reduceBEq, reduceCtorEq, ↓reduceIte, Int.reduceToNat, Int.reduceLE, Int.reduceLT, Int.reduceEq, Int.reduceAdd, Int.reduceSub, Int.reduceMul, List.reduceReplicate]) (fun hc1 => ?_) (fun hc1 => ?_) | refine WS_split (by simp only [EVa, EVb, params, nilOk, bound, awayFrom, evM, fillA, setEls, Opd.ev, Fr.get, prune, Option.map, isB, tB, nB, isG, gT, gF, evRes, mapO, one, Nat.reduceAdd, Nat.reduceLeDiff, Nat.reduceEqDiff, Nat.reduceMul, Nat.reduceSub, Nat.reduceLT, Nat.reduceBEq, reduceCtorEq, ↓reduceIte, Int.reduceToNat, Int.reduceLE, Int.reduceLT, Int.reduceEq, Int.reduceAdd, Int.reduceSub, Int.reduceMul, List.reduceReplicate]) (fun hc1 => ?_) (fun hc1 => ?_)) <;> try simp only [EVa, EVb, params, nilOk, bound, awayFrom, evM, fillA, setEls, Opd.ev, Fr.get, prune, Option.map, isB, tB, nB, isG, gT, gF, evRes, mapO, one, Nat.reduceAdd, Nat.reduceLeDiff, Nat.reduceEqDiff, Nat.reduceMul, Nat.reduceSub, Nat.reduceLT, Nat.reduceBEq, reduceCtorEq, ↓reduceIte, Int.reduceToNat, Int.reduceLE, Int.reduceLT, Int.reduceEq, Int.reduceAdd, Int.reduceSub, Int.reduceMul, List.reduceReplicate] at hc1 <;> (try simp only [EVa, EVb, params, nilOk, bound, awayFrom, evM, fillA, setEls, Opd.ev, Fr.get, prune, Option.map, isB, tB, nB, isG, gT, gF, evRes, mapO, one, Nat.reduceAdd, Nat.reduceLeDiff, Nat.reduceEqDiff, Nat.reduceMul, Nat.reduceSub, Nat.reduceLT, Nat.reduceBEq, reduceCtorEq, ↓reduceIte, Int.reduceToNat, Int.reduceLE, Int.reduceLT, Int.reduceEq, Int.reduceAdd, Int.reduceSub, Int.reduceMul, List.reduceReplicate, m69l7, m69r0, m69r1, m69r2, m69r3, m69r4, m69r5, m69r6, m69r8, m69, e1, e4, hlt, avU, hcall, hc1])))
    · rw [if_pos hc1] at ha; rw [← ha]; rfl
    · rw [if_neg (by simp [hc1])] at ha
      exact ⟨_, ⟨rfl, rfl⟩, ⟨hlt, ha⟩, by simp only; omega⟩
  · rw [idxU_end _ _ _ _ hlt] at ha
    simp only [m69l7, m69r0, m69r1, m69r2, m69r3, m69r4, m69r5, m69r6, m69r8, m69, EVa, EVb, params, nilOk, bound, awayFrom, evM, fillA, setEls, Opd.ev, Fr.get, prune, Option.map, isB, tB, nB, isG, gT, gF, evRes, mapO, one, Nat.reduceAdd, Nat.reduceLeDiff, Nat.reduceEqDiff, Nat.reduceMul, Nat.reduceSub, Nat.reduceLT, Nat.reduceBEq, reduceCtorEq, ↓reduceIte, Int.reduceToNat, Int.reduceLE, Int.reduceLT, Int.reduceEq, Int.reduceAdd, Int.reduceSub, Int.reduceMul, List.reduceReplicate, hlt, ← ha]
    rfl
theorem k69 (p nil : Bool) (sq : List Cu) (f : Cu → Bool) (g : FuncId) (caps : List AV) (hl : sq.length ≤ 1000) (hf : ∀ s, s ∈ sq → Pure T g (avU s :: caps) (.bool (f s))) (hc : ∀ A, mapO (borrow A 8) caps = some caps) (hc5 : ∀ A, mapO (borrow A 7) caps = some caps) {d : Option Nat} {os : List MOp} {live : List Nat} {S : List KF} {Q : FQ} {fr : Fr} {A : Heap} : WCR T .ro 69 [.lst p 3 nil (sq.map avU), .fn g [] caps] d os live S Q fr A ↔ WP T os live S Q (putd d (.int .i64 (numM (idxU f sq 0))) fr) A := (p69 p nil sq f g caps hl hf hc hc5).call (by simp only [mapO, depth_is, bo_lU, bo_fn, hc5])
theorem t51 : T 51 = some (.code m51) := rfl
theorem p51 (p nil : Bool) (sq : List Cu) (f : Cu → Bool) (g : FuncId) (caps : List AV) (hl : sq.length ≤ 1000) (hf : ∀ s, s ∈ sq → Pure T g (avU s :: caps) (.bool (f s))) (hc : ∀ A, mapO (borrow A 8) caps = some caps) (hc5 : ∀ A, mapO (borrow A 7) caps = some caps) : Pure T 51 [.lst p 3 nil (sq.map avU), .fn g [] caps] (.bool (sq.any f)) := by
  rw [Pure_of t51]
  have hk := fun {d os live S Q fr A} => k69 p nil sq f g caps hl hf hc hc5 (d := d) (os := os) (live := live) (S := S) (Q := Q) (fr := fr) (A := A)
  have ha := idxU_any f sq 0
  simp only [m51r0, m51r1, m51, EVa, EVb, params, nilOk, bound, awayFrom, evM, fillA, setEls, Opd.ev, Fr.get, prune, Option.map, isB, tB, nB, isG, gT, gF, evRes, mapO, one, Nat.reduceAdd, Nat.reduceLeDiff, Nat.reduceEqDiff, Nat.reduceMul, Nat.reduceSub, Nat.reduceLT, Nat.reduceBEq, reduceCtorEq, ↓reduceIte, Int.reduceToNat, Int.reduceLE, Int.reduceLT, Int.reduceEq, Int.reduceAdd, Int.reduceSub, Int.reduceMul, List.reduceReplicate, hk, ha]
theorem k51 (p nil : Bool) (sq : List Cu) (f : Cu → Bool) (g : FuncId) (caps : List AV) (hl : sq.length ≤ 1000) (hf : ∀ s, s ∈ sq → Pure T g (avU s :: caps) (.bool (f s))) (hc : ∀ A, mapO (borrow A 8) caps = some caps) (hc5 : ∀ A, mapO (borrow A 7) caps = some caps) {d : Option Nat} {os : List MOp} {live : List Nat} {S : List KF} {Q : FQ} {fr : Fr} {A : Heap} : WCR T .ro 51 [.lst p 3 nil (sq.map avU), .fn g [] caps] d os live S Q fr A ↔ WP T os live S Q (putd d (.bool (sq.any f)) fr) A := (p51 p nil sq f g caps hl hf hc hc5).call (by simp only [mapO, depth_is, bo_lU, bo_fn, hc5])
theorem t57 : T 57 = some (.code m57) := rfl
theorem p57 (k a b w h : Int) (p nil : Bool) (cs : List Cu) : Pure T 57 [.agg [.int .i64 k, .int .i64 a, .int .i64 b], .rp [.int .i64 w, .int .i64 h, .lst p 3 nil (cs.map avU)] 0] (.bool (!(hidP w h && clueP w h ⟨k, a, b⟩))) := by
  rw [Pure_of t57]
  simp only [m57r0, m57r1, m57, EVa, EVb, params, nilOk, bound, awayFrom, evM, fillA, setEls, Opd.ev, Fr.get, prune, Option.map, isB, tB, nB, isG, gT, gF, evRes, mapO, one, Nat.reduceAdd, Nat.reduceLeDiff, Nat.reduceEqDiff, Nat.reduceMul, Nat.reduceSub, Nat.reduceLT, Nat.reduceBEq, reduceCtorEq, ↓reduceIte, Int.reduceToNat, Int.reduceLE, Int.reduceLT, Int.reduceEq, Int.reduceAdd, Int.reduceSub, Int.reduceMul, List.reduceReplicate, k58]
theorem k57 (k a b w h : Int) (p nil : Bool) (cs : List Cu) {d : Option Nat} {os : List MOp} {live : List Nat} {S : List KF} {Q : FQ} {fr : Fr} {A : Heap} : WCR T .ro 57 [.agg [.int .i64 k, .int .i64 a, .int .i64 b], .rp [.int .i64 w, .int .i64 h, .lst p 3 nil (cs.map avU)] 0] d os live S Q fr A ↔ WP T os live S Q (putd d (.bool (!(hidP w h && clueP w h ⟨k, a, b⟩))) fr) A := (p57 k a b w h p nil cs).call (by simp only [mapO, depth_is, bo_agg, bo_int, bo_lU, bo_rp])
theorem t40 : T 40 = some (.code m40) := rfl
theorem p40 (w h : Int) (p nil : Bool) (cs : List Cu) : Pure T 40 [.agg [.int .i64 w, .int .i64 h, .lst p 3 nil (cs.map avU)]] (.bool (goodZ w h cs)) := by
  rw [Pure_of t40]
  by_cases hh : hidP w h = true
  · by_cases hl : cs.length ≤ 6
    · have hl' : ((cs.length : Int) ≤ 6) = True := eq_true (by omega)
      have hbo : ∀ A, mapO (borrow A 8) [.rp [.int .i64 w, .int .i64 h, .lst p 3 nil (cs.map avU)] 0] = some [.rp [.int .i64 w, .int .i64 h, .lst p 3 nil (cs.map avU)] 0] := fun A => by simp only [mapO, bo_rp, bo_int, bo_lU]
      have hbo5 : ∀ A, mapO (borrow A 7) [.rp [.int .i64 w, .int .i64 h, .lst p 3 nil (cs.map avU)] 0] = some [.rp [.int .i64 w, .int .i64 h, .lst p 3 nil (cs.map avU)] 0] := fun A => by simp only [mapO, bo_rp, bo_int, bo_lU]
      have hk := fun {d os live S Q fr A} => k51 p nil cs (fun c => !(hidP w h && clueP w h c)) 57 [.rp [.int .i64 w, .int .i64 h, .lst p 3 nil (cs.map avU)] 0] (by omega) (fun s _ => p57 s.k s.a s.b w h p nil cs) hbo hbo5 (d := d) (os := os) (live := live) (S := S) (Q := Q) (fr := fr) (A := A)
      have hg : (!(cs.any fun c => !(hidP w h && clueP w h c))) = goodZ w h cs := by
        simp only [goodZ, hh, hl, decide_true, Bool.true_and, List.not_any_eq_all_not, Bool.not_not]
      simp only [m40r0, m40r1, m40, EVa, EVb, params, nilOk, bound, awayFrom, evM, fillA, setEls, Opd.ev, Fr.get, prune, Option.map, isB, tB, nB, isG, gT, gF, evRes, mapO, one, Nat.reduceAdd, Nat.reduceLeDiff, Nat.reduceEqDiff, Nat.reduceMul, Nat.reduceSub, Nat.reduceLT, Nat.reduceBEq, reduceCtorEq, ↓reduceIte, Int.reduceToNat, Int.reduceLE, Int.reduceLT, Int.reduceEq, Int.reduceAdd, Int.reduceSub, Int.reduceMul, List.reduceReplicate, k56, hh, hl', hk]
      rw [← hg, hh]; simp
    · have hl' : ((cs.length : Int) ≤ 6) = False := eq_false (by omega)
      simp only [m40r0, m40r1, m40, EVa, EVb, params, nilOk, bound, awayFrom, evM, fillA, setEls, Opd.ev, Fr.get, prune, Option.map, isB, tB, nB, isG, gT, gF, evRes, mapO, one, Nat.reduceAdd, Nat.reduceLeDiff, Nat.reduceEqDiff, Nat.reduceMul, Nat.reduceSub, Nat.reduceLT, Nat.reduceBEq, reduceCtorEq, ↓reduceIte, Int.reduceToNat, Int.reduceLE, Int.reduceLT, Int.reduceEq, Int.reduceAdd, Int.reduceSub, Int.reduceMul, List.reduceReplicate, k56, hh, hl', goodZ, hl]
  · have hh' : hidP w h = false := by simpa using hh
    simp only [m40r0, m40r1, m40, EVa, EVb, params, nilOk, bound, awayFrom, evM, fillA, setEls, Opd.ev, Fr.get, prune, Option.map, isB, tB, nB, isG, gT, gF, evRes, mapO, one, Nat.reduceAdd, Nat.reduceLeDiff, Nat.reduceEqDiff, Nat.reduceMul, Nat.reduceSub, Nat.reduceLT, Nat.reduceBEq, reduceCtorEq, ↓reduceIte, Int.reduceToNat, Int.reduceLE, Int.reduceLT, Int.reduceEq, Int.reduceAdd, Int.reduceSub, Int.reduceMul, List.reduceReplicate, k56, hh', goodZ]
theorem k40 (w h : Int) (p nil : Bool) (cs : List Cu) {d : Option Nat} {os : List MOp} {live : List Nat} {S : List KF} {Q : FQ} {fr : Fr} {A : Heap} : WCR T .ro 40 [.agg [.int .i64 w, .int .i64 h, .lst p 3 nil (cs.map avU)]] d os live S Q fr A ↔ WP T os live S Q (putd d (.bool (goodZ w h cs)) fr) A := (p40 w h p nil cs).call (by simp only [mapO, depth_is, bo_agg, bo_int, bo_lU])
end Go.Ev.Z
end

section
set_option maxRecDepth 100000
set_option linter.unusedSimpArgs false
set_option linter.unusedVariables false
namespace Go.Ev.Z
open Go Go.Ev
theorem t53 : T 53 = some (.code m53) := rfl
theorem p53 (k a b : Int) (W Hh : Nat) (p nil : Bool) (sq : List Sq) (hf : Fit W Hh sq) (ha : 0 ≤ a ∧ a ≤ 1000) (r : Bool) (hr : fitO ⟨k, a, b⟩ W Hh sq = some r) : Pure T 53 [.agg [.int .i64 k, .int .i64 a, .int .i64 b], .agg [.int .i64 (W : Int), .int .i64 (Hh : Int), .lst p 3 nil (sq.map avS)]] (.bool r) := by
  rw [Pure_of t53]
  unfold fitO at hr
  by_cases h2 : inP k 1 3 = true
  · rw [if_pos h2] at hr
    obtain ⟨n, hn, hb⟩ := Option.map_eq_some_iff.1 hr
    have hk := fun {d os live S Q fr A} => k71 k a W Hh p nil sq hf ha n hn (d := d) (os := os) (live := live) (S := S) (Q := Q) (fr := fr) (A := A)
    simp only [m53r0, m53r1, m53r2, m53r3, m53, EVa, EVb, params, nilOk, bound, awayFrom, evM, fillA, setEls, Opd.ev, Fr.get, prune, Option.map, isB, tB, nB, isG, gT, gF, evRes, mapO, one, Nat.reduceAdd, Nat.reduceLeDiff, Nat.reduceEqDiff, Nat.reduceMul, Nat.reduceSub, Nat.reduceLT, Nat.reduceBEq, reduceCtorEq, ↓reduceIte, Int.reduceToNat, Int.reduceLE, Int.reduceLT, Int.reduceEq, Int.reduceAdd, Int.reduceSub, Int.reduceMul, List.reduceReplicate, k70, h2, hk, ← hb]
  · rw [if_neg h2] at hr
    obtain ⟨n, hn, hb⟩ := Option.map_eq_some_iff.1 hr
    have h2' : inP k 1 3 = false := by simpa using h2
    have hk := fun {d os live S Q fr A} => k71 k 0 W Hh p nil sq hf (by omega) n hn (d := d) (os := os) (live := live) (S := S) (Q := Q) (fr := fr) (A := A)
    simp only [m53r0, m53r1, m53r2, m53r3, m53, EVa, EVb, params, nilOk, bound, awayFrom, evM, fillA, setEls, Opd.ev, Fr.get, prune, Option.map, isB, tB, nB, isG, gT, gF, evRes, mapO, one, Nat.reduceAdd, Nat.reduceLeDiff, Nat.reduceEqDiff, Nat.reduceMul, Nat.reduceSub, Nat.reduceLT, Nat.reduceBEq, reduceCtorEq, ↓reduceIte, Int.reduceToNat, Int.reduceLE, Int.reduceLT, Int.reduceEq, Int.reduceAdd, Int.reduceSub, Int.reduceMul, List.reduceReplicate, k70, h2', hk, ← hb]
theorem k53 (k a b : Int) (W Hh : Nat) (p nil : Bool) (sq : List Sq) (hf : Fit W Hh sq) (ha : 0 ≤ a ∧ a ≤ 1000) (r : Bool) (hr : fitO ⟨k, a, b⟩ W Hh sq = some r) {d : Option Nat} {os : List MOp} {live : List Nat} {S : List KF} {Q : FQ} {fr : Fr} {A : Heap} : WCR T .ro 53 [.agg [.int .i64 k, .int .i64 a, .int .i64 b], .agg [.int .i64 (W : Int), .int .i64 (Hh : Int), .lst p 3 nil (sq.map avS)]] d os live S Q fr A ↔ WP T os live S Q (putd d (.bool r) fr) A := (p53 k a b W Hh p nil sq hf ha r hr).call (by simp only [mapO, depth_is, bo_agg, bo_int, bo_bool, bo_str, bo_lst, bo_lS, bo_rp, bo_fn])
theorem t44 : T 44 = some (.code m44) := rfl
theorem t48 : T 48 = some (.code m48) := rfl
theorem r44 (k a b : Int) (W Hh : Nat) (p nil : Bool) (sq : List Sq) (hf : Fit W Hh sq) (hg : goodP W Hh sq = true) (ha : 0 ≤ a ∧ a ≤ 1000) (r : Bool) (hr : fitR ⟨k, a, b⟩ W Hh sq = some r) (A : Heap) :
    Runs T 44 [.agg [.int .i64 k, .int .i64 a, .int .i64 b], .agg [.int .i64 (W : Int), .int .i64 (Hh : Int), .lst p 3 nil (sq.map avS)]] A (.bool r) A := by
  refine Runs.of ?_
  rw [WS_of t44]
  unfold fitR at hr
  by_cases h2 : (decide (k = 0) || decide (3 < k)) = true
  · rw [if_pos h2] at hr
    obtain ⟨n, hn, hb⟩ := Option.map_eq_some_iff.1 hr
    have hk := fun {d os live S Q fr A} => k64 k 0 W Hh p nil sq hf hg (by omega) n hn (d := d) (os := os) (live := live) (S := S) (Q := Q) (fr := fr) (A := A)
    have h2' : k = 0 ∨ 3 < k := by simpa using h2
    simp only [m44r0, m44r1, m44r2, m44r3, m44, EVa, EVb, params, nilOk, bound, awayFrom, evM, fillA, setEls, Opd.ev, Fr.get, prune, Option.map, isB, tB, nB, isG, gT, gF, evRes, mapO, one, Nat.reduceAdd, Nat.reduceLeDiff, Nat.reduceEqDiff, Nat.reduceMul, Nat.reduceSub, Nat.reduceLT, Nat.reduceBEq, reduceCtorEq, ↓reduceIte, Int.reduceToNat, Int.reduceLE, Int.reduceLT, Int.reduceEq, Int.reduceAdd, Int.reduceSub, Int.reduceMul, List.reduceReplicate, k63, h2', hk, ← hb]
  · rw [if_neg h2] at hr
    obtain ⟨n, hn, hb⟩ := Option.map_eq_some_iff.1 hr
    have h2' : (decide (k = 0) || decide (3 < k)) = false := by simpa using h2
    have hk := fun {d os live S Q fr A} => k64 k a W Hh p nil sq hf hg ha n hn (d := d) (os := os) (live := live) (S := S) (Q := Q) (fr := fr) (A := A)
    simp only [m44r0, m44r1, m44r2, m44r3, m44, EVa, EVb, params, nilOk, bound, awayFrom, evM, fillA, setEls, Opd.ev, Fr.get, prune, Option.map, isB, tB, nB, isG, gT, gF, evRes, mapO, one, Nat.reduceAdd, Nat.reduceLeDiff, Nat.reduceEqDiff, Nat.reduceMul, Nat.reduceSub, Nat.reduceLT, Nat.reduceBEq, reduceCtorEq, ↓reduceIte, Int.reduceToNat, Int.reduceLE, Int.reduceLT, Int.reduceEq, Int.reduceAdd, Int.reduceSub, Int.reduceMul, List.reduceReplicate, k63, h2', hk, ← hb]
theorem t52 : T 52 = some (.code m52) := rfl
theorem p52 (pc : Bool) (k a b : Int) (W Hh : Nat) (sq : List Sq) (hf : Fit W Hh sq) (ha : 0 ≤ a ∧ a ≤ 1000) (r : Bool) (hr : fitO ⟨k, a, b⟩ W Hh sq = some r) : Pure T 52 [.agg [.int .i64 k, .int .i64 a, .int .i64 b], .rp [.int .i64 (W : Int), .int .i64 (Hh : Int), .lst pc 3 false (sq.map avS)] 0] (.bool (!r)) := by
  rw [Pure_of t52]
  have hk := fun {d os live S Q fr A} => k53 k a b W Hh pc false sq hf ha r hr (d := d) (os := os) (live := live) (S := S) (Q := Q) (fr := fr) (A := A)
  simp only [m52r0, m52r1, m52, EVa, EVb, params, nilOk, bound, awayFrom, evM, fillA, setEls, Opd.ev, Fr.get, prune, Option.map, isB, tB, nB, isG, gT, gF, evRes, mapO, one, Nat.reduceAdd, Nat.reduceLeDiff, Nat.reduceEqDiff, Nat.reduceMul, Nat.reduceSub, Nat.reduceLT, Nat.reduceBEq, reduceCtorEq, ↓reduceIte, Int.reduceToNat, Int.reduceLE, Int.reduceLT, Int.reduceEq, Int.reduceAdd, Int.reduceSub, Int.reduceMul, List.reduceReplicate, hk]
theorem k52 (pc : Bool) (k a b : Int) (W Hh : Nat) (sq : List Sq) (hf : Fit W Hh sq) (ha : 0 ≤ a ∧ a ≤ 1000) (r : Bool) (hr : fitO ⟨k, a, b⟩ W Hh sq = some r) {d : Option Nat} {os : List MOp} {live : List Nat} {S : List KF} {Q : FQ} {fr : Fr} {A : Heap} : WCR T .ro 52 [.agg [.int .i64 k, .int .i64 a, .int .i64 b], .rp [.int .i64 (W : Int), .int .i64 (Hh : Int), .lst pc 3 false (sq.map avS)] 0] d os live S Q fr A ↔ WP T os live S Q (putd d (.bool (!r)) fr) A := (p52 pc k a b W Hh sq hf ha r hr).call (by simp only [mapO, depth_is, bo_agg, bo_int, bo_bool, bo_str, bo_lst, bo_lS, bo_rp, bo_fn])
/-- Some clue that a cut does not fit. -/
def misP (fb : Cu → List Sq → Bool) (cs : List Cu) (sq : List Sq) : Bool := cs.any fun c => !fb c sq
theorem t50 : T 50 = some (.code m50) := rfl
theorem p50 (pc : Bool) (W Hh : Nat) (sq : List Sq) (p nil : Bool) (cs : List Cu) (hf : Fit W Hh sq) (hl : cs.length ≤ 1000) (ha : ∀ c, c ∈ cs → 0 ≤ c.a ∧ c.a ≤ 1000) (fb : Cu → List Sq → Bool) (hr : ∀ c, c ∈ cs → fitO c W Hh sq = some (fb c sq)) : Pure T 50 [.agg [.int .i64 (W : Int), .int .i64 (Hh : Int), .lst pc 3 false (sq.map avS)], .rp [.lst p 3 nil (cs.map avU)] 0] (.bool (misP fb cs sq)) := by
  rw [Pure_of t50]
  have hbo : ∀ A, mapO (borrow A 8) [.rp [.int .i64 (W : Int), .int .i64 (Hh : Int), .lst pc 3 false (sq.map avS)] 0] = some [.rp [.int .i64 (W : Int), .int .i64 (Hh : Int), .lst pc 3 false (sq.map avS)] 0] := fun A => by simp only [mapO, bo_rp, bo_int, bo_lS]
  have hbo5 : ∀ A, mapO (borrow A 7) [.rp [.int .i64 (W : Int), .int .i64 (Hh : Int), .lst pc 3 false (sq.map avS)] 0] = some [.rp [.int .i64 (W : Int), .int .i64 (Hh : Int), .lst pc 3 false (sq.map avS)] 0] := fun A => by simp only [mapO, bo_rp, bo_int, bo_lS]
  have hk := fun {d os live S Q fr A} => k51 p nil cs (fun c => !fb c sq) 52 [.rp [.int .i64 (W : Int), .int .i64 (Hh : Int), .lst pc 3 false (sq.map avS)] 0] hl (fun s hs => p52 pc s.k s.a s.b W Hh sq hf (ha s hs) _ (hr s hs)) hbo hbo5 (d := d) (os := os) (live := live) (S := S) (Q := Q) (fr := fr) (A := A)
  simp only [m50r0, m50r1, m50, EVa, EVb, params, nilOk, bound, awayFrom, evM, fillA, setEls, Opd.ev, Fr.get, prune, Option.map, isB, tB, nB, isG, gT, gF, evRes, mapO, one, Nat.reduceAdd, Nat.reduceLeDiff, Nat.reduceEqDiff, Nat.reduceMul, Nat.reduceSub, Nat.reduceLT, Nat.reduceBEq, reduceCtorEq, ↓reduceIte, Int.reduceToNat, Int.reduceLE, Int.reduceLT, Int.reduceEq, Int.reduceAdd, Int.reduceSub, Int.reduceMul, List.reduceReplicate, hk]
  rfl
theorem k50 (pc : Bool) (W Hh : Nat) (sq : List Sq) (p nil : Bool) (cs : List Cu) (hf : Fit W Hh sq) (hl : cs.length ≤ 1000) (ha : ∀ c, c ∈ cs → 0 ≤ c.a ∧ c.a ≤ 1000) (fb : Cu → List Sq → Bool) (hr : ∀ c, c ∈ cs → fitO c W Hh sq = some (fb c sq)) {d : Option Nat} {os : List MOp} {live : List Nat} {S : List KF} {Q : FQ} {fr : Fr} {A : Heap} : WCR T .ro 50 [.agg [.int .i64 (W : Int), .int .i64 (Hh : Int), .lst pc 3 false (sq.map avS)], .rp [.lst p 3 nil (cs.map avU)] 0] d os live S Q fr A ↔ WP T os live S Q (putd d (.bool (misP fb cs sq)) fr) A := (p50 pc W Hh sq p nil cs hf hl ha fb hr).call (by simp only [mapO, depth_is, bo_agg, bo_int, bo_lS, bo_rp, bo_lU])
theorem t65 : T 65 = some (.code m65) := rfl
theorem p65 (pc : Bool) (W Hh : Nat) (p nil : Bool) (l : List (List Sq)) (f : List Sq → Bool) (g : FuncId) (caps : List AV) (hl : l.length ≤ 1000) (hf : ∀ s, s ∈ l → Pure T g (encP pc W Hh s :: caps) (.bool (f s))) (hc : ∀ A, mapO (borrow A 8) caps = some caps) (hc5 : ∀ A, mapO (borrow A 7) caps = some caps) : Pure T 65 [.lst p 3 nil (l.map (encP pc W Hh)), .fn g [] caps] (.int .i64 (numM (idxT f l 0))) := by
  rw [Pure_of t65]
  simp only [m65r0, m65r1, m65r2, m65r3, m65r4, m65r5, m65r6, m65r8, m65, EVa, EVb, params, nilOk, bound, awayFrom, evM, fillA, setEls, Opd.ev, Fr.get, prune, Option.map, isB, tB, nB, isG, gT, gF, evRes, mapO, one, Nat.reduceAdd, Nat.reduceLeDiff, Nat.reduceEqDiff, Nat.reduceMul, Nat.reduceSub, Nat.reduceLT, Nat.reduceBEq, reduceCtorEq, ↓reduceIte, Int.reduceToNat, Int.reduceLE, Int.reduceLT, Int.reduceEq, Int.reduceAdd, Int.reduceSub, Int.reduceMul, List.reduceReplicate]
  refine WS_loop' (σ := Nat) (fun s => [(0, .lst p 3 nil (l.map (encP pc W Hh))), (1, .fn g [] caps), (7, .int .i64 l.length), (8, .int .i64 s)])
    (fun s => []) (fun s => l.length - s) (fun s => s ≤ l.length ∧ idxT f (l.drop s) s = idxT f l 0) 0 rfl rfl (by simp) ?_
  rintro i ⟨hi, ha⟩
  by_cases hlt : i < l.length
  · have e1 : (l.map (encP pc W Hh))[i]? = some (encP pc W Hh l[i]) := map_get hlt
    have e4 := wsucc (i := i) (by omega)
    have hcall : ∀ {d os live S Q fr A}, WCR T .ro g (.agg [.int .i64 (W : Int), .int .i64 (Hh : Int), .lst pc 3 false (l[i].map avS)] :: caps) d os live S Q fr A ↔ WP T os live S Q (putd d (.bool (f l[i])) fr) A := by
      intro d os live S Q fr A
      exact (hf l[i] (List.getElem_mem hlt)).call (by simp only [mapO, depth_is, bo_agg, bo_int, bo_lS, hc, encP])
    rw [idxT_drop _ _ _ _ hlt] at ha
    (try simp only [EVa, EVb, params, nilOk, bound, awayFrom, evM, fillA, setEls, Opd.ev, Fr.get, prune, Option.map, isB, tB, nB, isG, gT, gF, evRes, mapO, one, Nat.reduceAdd, Nat.reduceLeDiff, Nat.reduceEqDiff, Nat.reduceMul, Nat.reduceSub, Nat.reduceLT, Nat.reduceBEq, reduceCtorEq, ↓reduceIte, Int.reduceToNat, Int.reduceLE, Int.reduceLT, Int.reduceEq, Int.reduceAdd, Int.reduceSub, Int.reduceMul, List.reduceReplicate, m65l7, m65r0, m65r1, m65r2, m65r3, m65r4, m65r5, m65r6, m65r8, m65, e1, e4, hlt, encP, hcall] <;> (try (first | refine WP_split (by simp only [EVa, EVb, params, nilOk, bound, awayFrom, evM, fillA, setEls, Opd.ev, Fr.get, prune, Option.map, isB, tB, nB, isG, gT, gF, evRes, mapO, one, Nat.reduceAdd, Nat.reduceLeDiff, Nat.reduceEqDiff, Nat.reduceMul, Nat.reduceSub, Nat.reduceLT, Nat.reduceBEq, reduceCtorEq, ↓reduceIte, Int.reduceToNat, Int.reduceLE, Int.reduceLT, Int.reduceEq, Int.reduceAdd, Int.reduceSub, Int.reduceMul, List.reduceReplicate]) (fun hc1 => ?_) (fun hc1 => ?_) | refine WS_split (by simp only [EVa, EVb, params, nilOk, bound, awayFrom, evM, fillA, setEls, Opd.ev, Fr.get, prune, Option.map, isB, tB, nB, isG, gT, gF, evRes, mapO, one, Nat.reduceAdd, Nat.reduceLeDiff, Nat.reduceEqDiff, Nat.reduceMul, Nat.reduceSub, Nat.reduceLT, Nat.reduceBEq, reduceCtorEq, ↓reduceIte, Int.reduceToNat, Int.reduceLE, Int.reduceLT, Int.reduceEq, Int.reduceAdd, Int.reduceSub, Int.reduceMul, List.reduceReplicate]) (fun hc1 => ?_) (fun hc1 => ?_)) <;> try simp only [EVa, EVb, params, nilOk, bound, awayFrom, evM, fillA, setEls, Opd.ev, Fr.get, prune, Option.map, isB, tB, nB, isG, gT, gF, evRes, mapO, one, Nat.reduceAdd, Nat.reduceLeDiff, Nat.reduceEqDiff, Nat.reduceMul, Nat.reduceSub, Nat.reduceLT, Nat.reduceBEq, reduceCtorEq, ↓reduceIte, Int.reduceToNat, Int.reduceLE, Int.reduceLT, Int.reduceEq, Int.reduceAdd, Int.reduceSub, Int.reduceMul, List.reduceReplicate] at hc1 <;> (try simp only [EVa, EVb, params, nilOk, bound, awayFrom, evM, fillA, setEls, Opd.ev, Fr.get, prune, Option.map, isB, tB, nB, isG, gT, gF, evRes, mapO, one, Nat.reduceAdd, Nat.reduceLeDiff, Nat.reduceEqDiff, Nat.reduceMul, Nat.reduceSub, Nat.reduceLT, Nat.reduceBEq, reduceCtorEq, ↓reduceIte, Int.reduceToNat, Int.reduceLE, Int.reduceLT, Int.reduceEq, Int.reduceAdd, Int.reduceSub, Int.reduceMul, List.reduceReplicate, m65l7, m65r0, m65r1, m65r2, m65r3, m65r4, m65r5, m65r6, m65r8, m65, e1, e4, hlt, encP, hcall, hc1])))
    · rw [if_pos hc1] at ha; rw [← ha]; rfl
    · rw [if_neg (by simp [hc1])] at ha
      exact ⟨_, ⟨rfl, rfl⟩, ⟨hlt, ha⟩, by simp only; omega⟩
  · rw [idxT_end _ _ _ _ hlt] at ha
    simp only [m65l7, m65r0, m65r1, m65r2, m65r3, m65r4, m65r5, m65r6, m65r8, m65, EVa, EVb, params, nilOk, bound, awayFrom, evM, fillA, setEls, Opd.ev, Fr.get, prune, Option.map, isB, tB, nB, isG, gT, gF, evRes, mapO, one, Nat.reduceAdd, Nat.reduceLeDiff, Nat.reduceEqDiff, Nat.reduceMul, Nat.reduceSub, Nat.reduceLT, Nat.reduceBEq, reduceCtorEq, ↓reduceIte, Int.reduceToNat, Int.reduceLE, Int.reduceLT, Int.reduceEq, Int.reduceAdd, Int.reduceSub, Int.reduceMul, List.reduceReplicate, hlt, ← ha]
    rfl
theorem k65 (pc : Bool) (W Hh : Nat) (p nil : Bool) (l : List (List Sq)) (f : List Sq → Bool) (g : FuncId) (caps : List AV) (hl : l.length ≤ 1000) (hf : ∀ s, s ∈ l → Pure T g (encP pc W Hh s :: caps) (.bool (f s))) (hc : ∀ A, mapO (borrow A 8) caps = some caps) (hc5 : ∀ A, mapO (borrow A 7) caps = some caps) {d : Option Nat} {os : List MOp} {live : List Nat} {S : List KF} {Q : FQ} {fr : Fr} {A : Heap} : WCR T .ro 65 [.lst p 3 nil (l.map (encP pc W Hh)), .fn g [] caps] d os live S Q fr A ↔ WP T os live S Q (putd d (.int .i64 (numM (idxT f l 0))) fr) A := (p65 pc W Hh p nil l f g caps hl hf hc hc5).call (by simp only [mapO, depth_is, bo_lst_id (bo_encP _ 3 _ _ _ _), bo_fn, hc5])
end Go.Ev.Z
end

section
set_option maxRecDepth 100000
set_option linter.unusedSimpArgs false
set_option linter.unusedVariables false
namespace Go.Ev.Z
open Go Go.Ev
def zT : AV := .agg [.int .i64 0, .int .i64 0, .lst true 0 true []]
theorem filterE_step (g : Ent → Bool) (l : List Ent) (i : Nat) (h : i < l.length) : (l.take (i + 1)).filter g = (l.take i).filter g ++ (if g l[i] = true then [l[i]] else []) := by
  rw [List.take_succ_eq_append_getElem h, List.filter_append, List.filter_cons, List.filter_nil]
theorem map_filterE (f : List Sq → Bool) (l : List Ent) : (l.filter fun e => !f e.2).map Prod.snd = (l.map Prod.snd).filter fun s => !f s := by
  rw [List.filter_map]; rfl
theorem w48 (W Hh : Nat) (es : List Ent) (f : List Sq → Bool) (g : FuncId) (caps : List AV) (hl : es.length ≤ 1000) (hf : ∀ e, e ∈ es → Pure T g (encP false W Hh e.2 :: caps) (.bool (f e.2))) (hc : ∀ A, mapO (borrow A 8) caps = some caps) (hc5 : ∀ A, mapO (borrow A 7) caps = some caps)
    (A : Heap) (id : Nat) (hA : A[id]? = some ⟨37, 3, es.map (avB W Hh)⟩) (hho : ∀ e, e ∈ es → Hold A e) (hD : HpD A) :
    WF T 48 [.sl id 3 es.length 0 es.length, .fn g [] caps] A (fun v A' => HpD A' ∧ (∀ e, e ∈ es → Hold A' e) ∧ ∃ rest, v = .sl id 3 es.length 0 (es.filter fun e => !f e.2).length ∧ A'[id]? = some ⟨37, 3, (es.filter fun e => !f e.2).map (avB W Hh) ++ rest⟩ ∧ ((es.filter fun e => !f e.2).map (avB W Hh) ++ rest).length = es.length) := by
  rw [WS_of t48]
  have hne : ∀ e, e ∈ es → e.1 ≠ id := fun e he h => by
    have h1 := hho e he
    unfold Hold at h1
    rw [h, hA] at h1
    simp at h1
  have hbo : mapO (borrow A depth) [.sl id 3 es.length 0 es.length, .fn g [] caps] = some [.lst false 3 false ((es.map Prod.snd).map (encP false W Hh)), .fn g [] caps] := by
    simp only [mapO, depth_is, bo_fn, hc5]
    rw [bo_sl hA (by simp) (by simp) (ys := (es.map Prod.snd).map (encP false W Hh)) (by rw [List.drop_zero, List.take_of_length_le (by simp)]; exact avBs_bo 3 es hho)]
  have hk := fun {d os live S Q fr} => (p65 false W Hh false false (es.map Prod.snd) f g caps (by simpa using hl) (fun s hs => by obtain ⟨e, he, rfl⟩ := List.mem_map.1 hs; exact hf e he) hc hc5).call (d := d) (os := os) (live := live) (S := S) (Q := Q) (fr := fr) hbo
  cases hx : idxT f (es.map Prod.snd) 0 with
  | none =>
    rw [hx] at hk
    have hfil : (es.filter fun e => !f e.2) = es := by
      have h1 := idxT_none f _ 0 hx
      rw [List.filter_eq_self] at h1 ⊢
      exact fun e he => h1 e.2 (List.mem_map.2 ⟨e, he, rfl⟩)
    simp only [numM] at hk
    simp only [m48r0, m48r1, m48r2, m48r3, m48r4, m48r5, m48r6, m48r7, m48r8, m48r9, m48r10, m48r12, m48r13, m48, EVa, EVb, params, nilOk, bound, awayFrom, evM, fillA, setEls, Opd.ev, Fr.get, prune, Option.map, isB, tB, nB, isG, gT, gF, evRes, mapO, one, Nat.reduceAdd, Nat.reduceLeDiff, Nat.reduceEqDiff, Nat.reduceMul, Nat.reduceSub, Nat.reduceLT, Nat.reduceBEq, reduceCtorEq, ↓reduceIte, Int.reduceToNat, Int.reduceLE, Int.reduceLT, Int.reduceEq, Int.reduceAdd, Int.reduceSub, Int.reduceMul, List.reduceReplicate, hk, hfil]
    exact ⟨hD, hho, [], by simpa using hA, by simp⟩
  | some k =>
    rw [hx] at hk
    obtain ⟨i0, hi0, hik, hfk, hfil⟩ := idxT_some f _ 0 k hx
    obtain rfl : k = i0 := by omega
    have hik : k < es.length := by simpa using hik
    have n1 : ((k : Int) = -1) = False := eq_false (by omega)
    have w1 := wsucc (i := k) (by omega)
    have hfk : f es[k].2 = true := by simpa using hfk
    have hfil2 : (es.take k).filter (fun e => !f e.2) = es.take k := by
      rw [List.filter_eq_self]
      rw [← List.map_take, List.filter_eq_self] at hfil
      exact fun e he => hfil e.2 (List.mem_map.2 ⟨e, he, rfl⟩)
    simp only [numM] at hk
    simp only [m48r0, m48r1, m48r2, m48r3, m48r4, m48r5, m48r6, m48r7, m48r8, m48r9, m48r10, m48r12, m48r13, m48, EVa, EVb, params, nilOk, bound, awayFrom, evM, fillA, setEls, Opd.ev, Fr.get, prune, Option.map, isB, tB, nB, isG, gT, gF, evRes, mapO, one, Nat.reduceAdd, Nat.reduceLeDiff, Nat.reduceEqDiff, Nat.reduceMul, Nat.reduceSub, Nat.reduceLT, Nat.reduceBEq, reduceCtorEq, ↓reduceIte, Int.reduceToNat, Int.reduceLE, Int.reduceLT, Int.reduceEq, Int.reduceAdd, Int.reduceSub, Int.reduceMul, List.reduceReplicate, hk, n1, w1]
    refine WS_loop' (σ := Nat × Nat × List AV × Heap) (fun s => [(0, .sl id 3 es.length 0 es.length), (1, .fn g [] caps), (5, .int .i64 (s.1 : Int)), (6, .int .i64 (s.2.1 : Int))])
      (fun s => s.2.2.2) (fun s => es.length - s.2.1) (fun s => (s.1 < s.2.1 ∧ s.2.1 ≤ es.length) ∧ s.2.2.2[id]? = some ⟨37, 3, s.2.2.1⟩ ∧ s.2.2.1.length = es.length ∧ s.2.2.1.take s.1 = ((es.take s.2.1).filter fun e => !f e.2).map (avB W Hh) ∧ s.1 = ((es.take s.2.1).filter fun e => !f e.2).length ∧ (∀ x, x ∈ s.2.2.1 → ∃ e, x = avB W Hh e) ∧ (∀ j, s.2.1 ≤ j → s.2.2.1[j]? = (es.map (avB W Hh))[j]?) ∧ (∀ e, e ∈ es → Hold s.2.2.2 e) ∧ HpD s.2.2.2) (k, k + 1, es.map (avB W Hh), A) rfl rfl ?_ ?_
    · have hst := filterE_step (fun e => !f e.2) es k hik
      simp only [hfk, Bool.not_true, Bool.false_eq_true, if_false, List.append_nil] at hst
      rw [hfil2] at hst
      exact ⟨⟨by simp only; omega, hik⟩, hA, by simp, by simp only; rw [hst, List.map_take], by simp only; rw [hst]; simp; omega, fun x hx => by obtain ⟨q, _, rfl⟩ := List.mem_map.1 hx; exact ⟨q, rfl⟩, fun j _ => rfl, hho, hD⟩
    rintro ⟨m, i, els, H⟩ ⟨⟨hmi, hi⟩, hH, hel, htk, hm, hem, hrest, hhH, hDH⟩
    dsimp only at hmi hi hH hel htk hm hem hrest hhH hDH
    have hHl := lt_of_get hH
    by_cases hlt : i < es.length
    · have e1 : els[i]? = some (.agg [.int .i64 (W : Int), .int .i64 (Hh : Int), .sl es[i].1 3 es[i].2.length 0 es[i].2.length]) := by rw [hrest i (Nat.le_refl _), map_get hlt]; rfl
      have e4 := wsucc (i := i) (by omega)
      have e5 := wsucc (i := m) (by omega)
      have hml : m < es.length := by omega
      have hmem := List.getElem_mem hlt
      have hH' : ∀ b, (H ++ [b])[id]? = some ⟨37, 3, els⟩ := fun b => h_get_of hH
      have hst := filterE_step (fun e => !f e.2) es i hlt
      have hcall : ∀ {d os live S Q fr} (B : Heap), WCR T .ro g (.agg [.int .i64 (W : Int), .int .i64 (Hh : Int), .sl es[i].1 3 es[i].2.length 0 es[i].2.length] :: caps) d os live S Q fr (H ++ B) ↔ WP T os live S Q (putd d (.bool (f es[i].2)) fr) (H ++ B) := by
        intro d os live S Q fr B
        have hb : borrow (H ++ B) 8 (avB W Hh es[i]) = _ := avB_bo (A := H ++ B) (h_get_of (hhH _ hmem)) 4
        exact (hf es[i] hmem).call (by simp only [avB] at hb; simp only [mapO, depth_is, hb, hc])
      have hemg : ∃ cs, els[m]? = some (.agg cs) ∧ cs.length = 3 := by
        have hme : m < els.length := by omega
        obtain ⟨q, hq⟩ := hem els[m] (List.getElem_mem hme)
        exact ⟨_, by rw [List.getElem?_eq_getElem hme, hq]; rfl, rfl⟩
      obtain ⟨cs, hcs, hcl⟩ := hemg
      have hD1 : ∀ e, HpD (H ++ [⟨37, 3, [avB W Hh e]⟩]) := fun e => hDH.app (HpD.one rfl)
      by_cases hd : f es[i].2 = true
      · simp only [hd, Bool.not_true, Bool.false_eq_true, if_false, List.append_nil] at hst
        simp only [m48l11, m48r0, m48r1, m48r2, m48r3, m48r4, m48r5, m48r6, m48r7, m48r8, m48r9, m48r10, m48r12, m48r13, m48, EVa, EVb, params, nilOk, bound, awayFrom, evM, fillA, setEls, Opd.ev, Fr.get, prune, Option.map, isB, tB, nB, isG, gT, gF, evRes, mapO, one, Nat.reduceAdd, Nat.reduceLeDiff, Nat.reduceEqDiff, Nat.reduceMul, Nat.reduceSub, Nat.reduceLT, Nat.reduceBEq, reduceCtorEq, ↓reduceIte, Int.reduceToNat, Int.reduceLE, Int.reduceLT, Int.reduceEq, Int.reduceAdd, Int.reduceSub, Int.reduceMul, List.reduceReplicate, hlt, hH, hH', e1, hel, hcall, hd, e4]
        exact ⟨(m, _, els, _), ⟨rfl, rfl⟩, ⟨⟨by simp only; omega, hlt⟩, hH' _, hel, by simp only; rw [hst]; exact htk, by simp only; rw [hst]; exact hm, hem, fun j hj => hrest j (by simp only at hj; omega), fun e he => h_get_of (hhH e he), hD1 es[i]⟩, by simp only; omega⟩
      · have hd' : f es[i].2 = false := by simpa using hd
        simp only [hd', Bool.not_false, if_true] at hst
        simp only [m48l11, m48r0, m48r1, m48r2, m48r3, m48r4, m48r5, m48r6, m48r7, m48r8, m48r9, m48r10, m48r12, m48r13, m48, EVa, EVb, params, nilOk, bound, awayFrom, evM, fillA, setEls, Opd.ev, Fr.get, prune, Option.map, isB, tB, nB, isG, gT, gF, evRes, mapO, one, Nat.reduceAdd, Nat.reduceLeDiff, Nat.reduceEqDiff, Nat.reduceMul, Nat.reduceSub, Nat.reduceLT, Nat.reduceBEq, reduceCtorEq, ↓reduceIte, Int.reduceToNat, Int.reduceLE, Int.reduceLT, Int.reduceEq, Int.reduceAdd, Int.reduceSub, Int.reduceMul, List.reduceReplicate, hlt, hH, hH', e1, hel, hcall, hd', e4, e5, hml, hcs, hcl]
        refine ⟨(m + 1, _, els.set m (avB W Hh es[i]), _), ⟨rfl, rfl⟩, ⟨⟨by simp only; omega, hlt⟩, h_set_get (by simp; omega), by simpa using hel, ?_, ?_, fun x hx => ?_, fun j hj => ?_, fun e he => ?_, ?_⟩, by simp only; omega⟩
        · simp only
          rw [hst, List.map_append, ← htk, List.take_succ_eq_append_getElem (by simp; omega), List.getElem_set_self]
          rw [List.take_set_of_le (Nat.le_refl _)]; rfl
        · simp only; rw [hst, List.length_append]; simp; omega
        · rcases List.mem_or_eq_of_mem_set hx with h | h
          · exact hem x h
          · exact ⟨_, h⟩
        · simp only at hj ⊢
          rw [List.getElem?_set_ne (by omega)]
          exact hrest j (by omega)
        · unfold Hold
          simp only
          rw [List.getElem?_set_ne (Ne.symm (hne e he))]
          exact h_get_of (hhH e he)
        · refine (hD1 es[i]).set ?_
          unfold BlkD
          simp only
          rw [List.all_eq_true]
          intro x hx
          rcases List.mem_or_eq_of_mem_set hx with h | h
          · obtain ⟨q, rfl⟩ := hem x h; rfl
          · subst h; rfl
    · have : i = es.length := by omega
      subst this
      rw [List.take_length] at htk hm
      have hml : m ≤ es.length := by omega
      have hmn : m + (es.length - m) = es.length := by omega
      simp only [m48l11, m48r0, m48r1, m48r2, m48r3, m48r4, m48r5, m48r6, m48r7, m48r8, m48r9, m48r10, m48r12, m48r13, m48, EVa, EVb, params, nilOk, bound, awayFrom, evM, fillA, setEls, Opd.ev, Fr.get, prune, Option.map, isB, tB, nB, isG, gT, gF, evRes, mapO, one, Nat.reduceAdd, Nat.reduceLeDiff, Nat.reduceEqDiff, Nat.reduceMul, Nat.reduceSub, Nat.reduceLT, Nat.reduceBEq, reduceCtorEq, ↓reduceIte, Int.reduceToNat, Int.reduceLE, Int.reduceLT, Int.reduceEq, Int.reduceAdd, Int.reduceSub, Int.reduceMul, List.reduceReplicate, hlt, hml, hH, hel, hmn]
      refine ⟨hDH.set ?_, fun e he => ?_, List.replicate (es.length - m) zT ++ els.drop es.length, by rw [hm], ?_, ?_⟩
      · unfold BlkD
        simp only
        rw [List.all_eq_true]
        intro x hx
        rcases List.mem_append.1 hx with h | h
        · obtain ⟨q, rfl⟩ := hem x (List.mem_of_mem_take h); rfl
        · rcases List.mem_append.1 h with h | h
          · rw [(List.mem_replicate.1 h).2]; rfl
          · obtain ⟨q, rfl⟩ := hem x (List.mem_of_mem_drop h); rfl
      · unfold Hold
        rw [List.getElem?_set_ne (Ne.symm (hne e he))]
        exact hhH e he
      · rw [h_set_get hHl, htk]; rfl
      · rw [← hm]; simp; omega
end Go.Ev.Z
end

section
set_option maxRecDepth 100000
set_option linter.unusedSimpArgs false
set_option linter.unusedVariables false
namespace Go.Ev.Z
open Go Go.Ev
theorem ents_eq {β : Type} (f : Ent → β) (g : List Sq → β) : ∀ (l : List (List Sq)) (n : Nat), (ents n l).map f = l.map g → ∀ e, e ∈ ents n l → f e = g e.2
  | [], _, _, _, h => by cases h
  | s :: r, n, h, e, he => by
    simp only [ents, List.map_cons, List.cons.injEq] at h
    rcases List.mem_cons.1 he with rfl | he
    · exact h.1
    · exact ents_eq f g r (n + 1) h.2 e he
theorem all_own {w h : Nat} {l : List (List Sq)} (hr : AllRunB T 49 w h l) : ∃ id A2, A2[id]? = some ⟨37, 3, (ents 5 l).map (avB w h)⟩ ∧ (∀ e, e ∈ ents 5 l → Hold A2 e) ∧ HpD A2 ∧
    ∀ {d os live S Q fr}, WCR T .own 49 [.int .i64 (w : Int), .int .i64 (h : Int)] d os live S Q fr [] ↔ WP T os live S Q (putd d (.sl id 3 l.length 0 l.length) fr) A2 := by
  unfold AllRunB at hr
  split at hr
  · rename_i v A1 he
    have hrun : Runs T 49 [.int .i64 (w : Int), .int .i64 (h : Int)] [] v A1 := Runs.ofX he
    unfold ownD at hr
    split at hr
    · rename_i id sz ver off len hv
      split at hr
      · rename_i A2 hA2
        split at hr
        · rename_i b hb
          simp only [Option.some.injEq, Prod.mk.injEq] at hr
          obtain ⟨rfl, rfl, rfl, rfl, rfl, hh, hd⟩ := hr
          refine ⟨id, A2, hb, fun e he => ents_eq _ _ l 5 hh e he, fun b hb => ?_, fun {d os live S Q fr} => ?_⟩
          · rw [List.all_eq_true] at hd
            exact hd b hb
          unfold WCR
          rw [WD_own]
          have hbo : mapO (borrow [] depth) [AV.int .i64 (w : Int), .int .i64 (h : Int)] = some [.int .i64 (w : Int), .int .i64 (h : Int)] := rfl
          rw [hbo]
          simp only
          rw [hrun.iff]
          simp only [List.length_nil, hv, hA2, List.nil_append]
        · cases hr
      · cases hr
    · cases hr
  · cases hr
theorem t33 : T 33 = some (.code m33) := rfl
theorem t19 : T 19 = some (.code m19) := rfl
theorem t14 : T 14 = some (.code m14) := rfl
theorem w33 (W Hh : Nat) (l : List (List Sq)) (hall : AllRunB T 49 W Hh l) (p nil p2 nil2 : Bool) (cs0 cs : List Cu) (hf : ∀ sq, sq ∈ l → Fit W Hh sq) (hl : l.length ≤ 1000) (hcl : cs.length ≤ 1000) (ha : ∀ c, c ∈ cs → 0 ≤ c.a ∧ c.a ≤ 1000) (fb : Cu → List Sq → Bool) (hr : ∀ sq, sq ∈ l → ∀ c, c ∈ cs → fitO c W Hh sq = some (fb c sq)) :
    WF T 33 [.agg [.int .i64 (W : Int), .int .i64 (Hh : Int), .lst p 3 nil (cs0.map avU)], .lst p2 3 nil2 (cs.map avU)] [] (fun v A' => HpD A' ∧ ∃ es, CutsAt A' W Hh v es ∧ es.map Prod.snd = l.filter fun sq => !misP fb cs sq) := by
  rw [WS_of t33]
  obtain ⟨id, A2, hA2, hho, hD, hk⟩ := all_own hall
  have hmem : ∀ e, e ∈ ents 5 l → e.2 ∈ l := fun e he => by
    have : e.2 ∈ (ents 5 l).map Prod.snd := List.mem_map.2 ⟨e, he, rfl⟩
    rwa [ents_snd] at this
  have hbo : ∀ A, mapO (borrow A 8) [.rp [.lst p2 3 nil2 (cs.map avU)] 0] = some [.rp [.lst p2 3 nil2 (cs.map avU)] 0] := fun A => by simp only [mapO, bo_rp, bo_lU]
  have hbo5 : ∀ A, mapO (borrow A 7) [.rp [.lst p2 3 nil2 (cs.map avU)] 0] = some [.rp [.lst p2 3 nil2 (cs.map avU)] 0] := fun A => by simp only [mapO, bo_rp, bo_lU]
  have hw := w48 W Hh (ents 5 l) (misP fb cs) 50 [.rp [.lst p2 3 nil2 (cs.map avU)] 0] (by rw [ents_len]; exact hl) (fun e he => p50 false W Hh e.2 p2 nil2 cs (hf _ (hmem e he)) hcl ha fb (hr _ (hmem e he))) hbo hbo5 A2 id hA2 hho hD
  rw [ents_len] at hw
  simp only [m33r0, m33r1, m33, EVa, EVb, params, nilOk, bound, awayFrom, evM, fillA, setEls, Opd.ev, Fr.get, prune, Option.map, isB, tB, nB, isG, gT, gF, evRes, mapO, one, Nat.reduceAdd, Nat.reduceLeDiff, Nat.reduceEqDiff, Nat.reduceMul, Nat.reduceSub, Nat.reduceLT, Nat.reduceBEq, reduceCtorEq, ↓reduceIte, Int.reduceToNat, Int.reduceLE, Int.reduceLT, Int.reduceEq, Int.reduceAdd, Int.reduceSub, Int.reduceMul, List.reduceReplicate, hk, WCR_inl]
  refine hw.mono fun v A' hv => ?_
  obtain ⟨hD', hho', rest, rfl, hA', hlen⟩ := hv
  refine ⟨hD', (ents 5 l).filter fun e => !misP fb cs e.2, ⟨⟨id, rest, by rw [hlen], hA'⟩, fun e he => hho' e ((List.mem_filter.1 he).1), ?_⟩, ?_⟩
  · exact (ents_nd l 5).sublist ((List.filter_sublist ..).map _)
  · rw [map_filterE, ents_snd]
theorem mapO_app {α β : Type} {f : α → Option β} : ∀ {xs ys : List α} {zs : List β}, mapO f (xs ++ ys) = some zs → ∃ a b, mapO f xs = some a ∧ mapO f ys = some b ∧ zs = a ++ b
  | [], ys, zs, h => ⟨[], zs, rfl, h, rfl⟩
  | x :: r, ys, zs, h => by
    simp only [List.cons_append, mapO] at h
    cases hx : f x with
    | none => rw [hx] at h; cases h
    | some y =>
      rw [hx] at h
      cases hr : mapO f (r ++ ys) with
      | none => rw [hr] at h; cases h
      | some l =>
        rw [hr] at h
        cases h
        obtain ⟨a, b, h1, h2, rfl⟩ := mapO_app hr
        exact ⟨y :: a, b, mapO_cons hx h1, h2, rfl⟩
theorem mapO_len {α β : Type} {f : α → Option β} : ∀ {xs : List α} {zs : List β}, mapO f xs = some zs → zs.length = xs.length
  | [], zs, h => by cases h; rfl
  | x :: r, zs, h => by
    simp only [mapO] at h
    cases hx : f x with
    | none => rw [hx] at h; cases h
    | some y =>
      rw [hx] at h
      cases hr : mapO f r with
      | none => rw [hr] at h; cases h
      | some l =>
        rw [hr] at h
        cases h
        simp [mapO_len hr]
/-- Handed on: among the caller's blocks. -/
theorem Hold.emb {A A' A2 : Heap} {e : Ent} (h : Hold A' e) (hA2 : mapO (embedB A.length depth) A' = some A2) : Hold (A ++ A2) (e.1 + A.length, e.2) := by
  obtain ⟨b, hb, h2⟩ := mapO_getD hA2 h
  have hm := em_avS A.length 6 e.2
  simp only [embedB, depth_is, hm, Option.some.injEq] at hb
  subst hb
  unfold Hold
  rw [Nat.add_comm, h_getk]
  exact h2
theorem CutsAt.emb {A A' A2 : Heap} {W Hh : Nat} {v : AV} {es : List Ent} (h : CutsAt A' W Hh v es) (hA2 : mapO (embedB A.length depth) A' = some A2) : ∃ v2, embed A.length depth v = some v2 ∧ CutsAt (A ++ A2) W Hh v2 (es.map fun e => (e.1 + A.length, e.2)) := by
  obtain ⟨⟨id, rest, rfl, hid⟩, hho, hnd⟩ := h
  refine ⟨_, rfl, ?_, ?_, ?_⟩
  · obtain ⟨b, hb, h2⟩ := mapO_getD hA2 hid
    simp only [embedB] at hb
    split at hb
    · rename_i els hels
      simp only [Option.some.injEq] at hb
      subst hb
      obtain ⟨a, b, h3, h4, rfl⟩ := mapO_app hels
      have h5 := avBs_emb A.length 6 W Hh es
      simp only [depth_is] at h3
      rw [h5] at h3
      simp only [Option.some.injEq] at h3
      subst h3
      refine ⟨id + A.length, b, ?_, ?_⟩
      · simp [mapO_len h4]
      · rw [Nat.add_comm, h_getk]; exact h2
    · cases hb
  · intro e he
    obtain ⟨e0, h0, rfl⟩ := List.mem_map.1 he
    exact (hho e0 h0).emb hA2
  · rw [List.map_map]
    have : (Prod.fst ∘ fun e : Ent => (e.1 + A.length, e.2)) = (fun n => n + A.length) ∘ Prod.fst := rfl
    rw [this, ← List.map_map]
    exact List.Pairwise.map (R := (· ≠ ·)) _ (fun a b hab h => hab (by simpa using h)) hnd
end Go.Ev.Z
end

section
set_option maxRecDepth 100000
set_option linter.unusedSimpArgs false
set_option linter.unusedVariables false
namespace Go.Ev.Z
open Go Go.Ev
theorem ct_ro {w h : Nat} {l : List (List Sq)} (hr : CtRun T 43 w h l) : Pure T 43 [.int .i64 (w : Int), .int .i64 (h : Int)] (.lst true 3 false (l.map (encT w h))) := by
  unfold CtRun at hr
  split at hr
  · rename_i v A1 he
    exact (Runs.ofX he).iff.2 hr
  · cases hr
theorem t25 : T 25 = some (.code m25) := rfl
theorem p25 (W Hh : Nat) (p nil : Bool) (cs : List Cu) (l : List (List Sq)) (hr : CtRun T 43 W Hh l) : Pure T 25 [.agg [.int .i64 (W : Int), .int .i64 (Hh : Int), .lst p 3 nil (cs.map avU)]] (.lst true 3 false (l.map (encT W Hh))) := by
  rw [Pure_of t25]
  have hk := fun {d os live S Q fr A} => Pure.call (args := [.int .i64 (W : Int), .int .i64 (Hh : Int)]) (d := d) (os := os) (live := live) (S := S) (Q := Q) (fr := fr) (A := A) (ct_ro hr) rfl
  simp only [m25r0, m25r1, m25, EVa, EVb, params, nilOk, bound, awayFrom, evM, fillA, setEls, Opd.ev, Fr.get, prune, Option.map, isB, tB, nB, isG, gT, gF, evRes, mapO, one, Nat.reduceAdd, Nat.reduceLeDiff, Nat.reduceEqDiff, Nat.reduceMul, Nat.reduceSub, Nat.reduceLT, Nat.reduceBEq, reduceCtorEq, ↓reduceIte, Int.reduceToNat, Int.reduceLE, Int.reduceLT, Int.reduceEq, Int.reduceAdd, Int.reduceSub, Int.reduceMul, List.reduceReplicate, hk]
theorem k25 (W Hh : Nat) (p nil : Bool) (cs : List Cu) (l : List (List Sq)) (hr : CtRun T 43 W Hh l) {d : Option Nat} {os : List MOp} {live : List Nat} {S : List KF} {Q : FQ} {fr : Fr} {A : Heap} : WCR T .ro 25 [.agg [.int .i64 (W : Int), .int .i64 (Hh : Int), .lst p 3 nil (cs.map avU)]] d os live S Q fr A ↔ WP T os live S Q (putd d (.lst true 3 false (l.map (encT W Hh))) fr) A := (p25 W Hh p nil cs l hr).call (by simp only [mapO, depth_is, bo_agg, bo_int, bo_lU])
/-- What the reference's search hands on. -/
def pzR (W Hh : Nat) (l : List (List Sq)) : AV := if l = [] then .lst true 0 true [] else .lst true 3 false (l.map (encT W Hh))
theorem pzR_len (W Hh : Nat) (l : List (List Sq)) : lenV (pzR W Hh l) = some (.int .i64 (l.length : Nat)) := by
  unfold pzR; split
  · rename_i h; subst h; rfl
  · simp [lenV]
theorem t26 : T 26 = some (.code m26) := rfl
theorem p26 (W Hh : Nat) (p nil p2 nil2 : Bool) (l : List (List Sq)) (cs : List Cu) (hf : ∀ sq, sq ∈ l → Fit W Hh sq ∧ goodP W Hh sq = true) (hl : l.length ≤ 1000) (hcl : cs.length ≤ 1000) (ha : ∀ c, c ∈ cs → 0 ≤ c.a ∧ c.a ≤ 1000) (fb : Cu → List Sq → Bool) (hr : ∀ sq, sq ∈ l → ∀ c, c ∈ cs → fitR c W Hh sq = some (fb c sq)) : Pure T 26 [.lst p 3 nil (l.map (encT W Hh)), .lst p2 3 nil2 (cs.map avU)] (pzR W Hh (l.filter fun sq => cs.all fun c => fb c sq)) := by
  rw [Pure_of t26]
  simp only [m26r0, m26r1, m26r2, m26r3, m26r4, m26r5, m26r6, m26r7, m26r8, m26r9, m26r10, m26r12, m26r13, m26r14, m26r16, m26, EVa, EVb, params, nilOk, bound, awayFrom, evM, fillA, setEls, Opd.ev, Fr.get, prune, Option.map, isB, tB, nB, isG, gT, gF, evRes, mapO, one, Nat.reduceAdd, Nat.reduceLeDiff, Nat.reduceEqDiff, Nat.reduceMul, Nat.reduceSub, Nat.reduceLT, Nat.reduceBEq, reduceCtorEq, ↓reduceIte, Int.reduceToNat, Int.reduceLE, Int.reduceLT, Int.reduceEq, Int.reduceAdd, Int.reduceSub, Int.reduceMul, List.reduceReplicate]
  refine WS_loop' (σ := Nat × AV × Heap) (fun s => [(1, .lst p2 3 nil2 (cs.map avU)), (5, s.2.1), (11, .lst p 3 nil (l.map (encT W Hh))), (12, .int .i64 l.length), (13, .int .i64 (s.1 : Int))])
    (fun s => s.2.2) (fun s => l.length - s.1) (fun s => s.1 ≤ l.length ∧ Bld s.2.2 37 3 s.2.1 (((l.take s.1).filter fun sq => cs.all fun c => fb c sq).map (encT W Hh)) ∧ (s.2.1 = .lst true 0 true [] ∨ ((l.take s.1).filter fun sq => cs.all fun c => fb c sq) ≠ [])) (0, .lst true 0 true [], []) rfl rfl ⟨by simp, Bld.nil _ _ _, .inl rfl⟩ ?_
  rintro ⟨i, v, H⟩ ⟨hi, hB, hnv⟩
  dsimp only at hi hB hnv
  by_cases hlt : i < l.length
  · have e1 : (l.map (encT W Hh))[i]? = some (encT W Hh l[i]) := map_get hlt
    have e4 := wsucc (i := i) (by omega)
    have hst := filterT_step (fun sq => cs.all fun c => fb c sq) l i hlt
    have hfl : ((l.take i).filter fun sq => cs.all fun c => fb c sq).length ≤ 1000 := Nat.le_trans (List.length_filter_le _ _) (by simp; omega)
    have hmem := List.getElem_mem hlt
    simp only [m26l15, m26r0, m26r1, m26r2, m26r3, m26r4, m26r5, m26r6, m26r7, m26r8, m26r9, m26r10, m26r12, m26r13, m26r14, m26r16, m26, EVa, EVb, params, nilOk, bound, awayFrom, evM, fillA, setEls, Opd.ev, Fr.get, prune, Option.map, isB, tB, nB, isG, gT, gF, evRes, mapO, one, Nat.reduceAdd, Nat.reduceLeDiff, Nat.reduceEqDiff, Nat.reduceMul, Nat.reduceSub, Nat.reduceLT, Nat.reduceBEq, reduceCtorEq, ↓reduceIte, Int.reduceToNat, Int.reduceLE, Int.reduceLT, Int.reduceEq, Int.reduceAdd, Int.reduceSub, Int.reduceMul, List.reduceReplicate, e1, hlt, encT]
    refine WS_loop' (σ := Nat × Bool × Heap) (fun s => [(1, .lst p2 3 nil2 (cs.map avU)), (5, v), (7, .ptr H.length 1 0 0), (8, .bool s.2.1), (11, .lst p 3 nil (l.map (encT W Hh))), (12, .int .i64 l.length), (13, .int .i64 (i : Int)), (17, .lst p2 3 nil2 (cs.map avU)), (18, .int .i64 cs.length), (19, .int .i64 (s.1 : Int))])
      (fun s => s.2.2) (fun s => cs.length - s.1) (fun s => s.1 ≤ cs.length ∧ (s.2.1 && (cs.drop s.1).all fun c => fb c l[i]) = (cs.all fun c => fb c l[i]) ∧ s.2.2[H.length]? = some ⟨37, 3, [encT W Hh l[i]]⟩ ∧ Bld s.2.2 37 3 v (((l.take i).filter fun sq => cs.all fun c => fb c sq).map (encT W Hh))) (0, true, _) rfl rfl ⟨by simp, by simp, by rw [h_get0]; rfl, hB.more⟩ ?_
    rintro ⟨j, b, E⟩ ⟨hj, hb, hE, hBE⟩
    dsimp only at hj hb hE hBE
    by_cases hjl : j < cs.length
    · have f1 : (cs.map avU)[j]? = some (avU cs[j]) := map_get hjl
      have f4 := wsucc (i := j) (by omega)
      have hcm := List.getElem_mem hjl
      have hE' : ∀ b, (E ++ [b])[H.length]? = some ⟨37, 3, [.agg [.int .i64 (W : Int), .int .i64 (Hh : Int), .lst true 3 false (l[i].map avS)]]⟩ := fun b => h_get_of hE
      rw [all_drop _ _ _ hjl] at hb
      have hrun := r44 cs[j].k cs[j].a cs[j].b W Hh true false l[i] (hf _ hmem).1 (hf _ hmem).2 (ha _ hcm) _ (hr _ hmem _ hcm)
      have hk := fun {d os live S Q fr A} => (WCR_inl (T := T) (f := 44) (args := [.agg [.int .i64 cs[j].k, .int .i64 cs[j].a, .int .i64 cs[j].b], .agg [.int .i64 (W : Int), .int .i64 (Hh : Int), .lst true 3 false (l[i].map avS)]]) (d := d) (os := os) (live := live) (S := S) (Q := Q) (fr := fr) (A := A)).trans (hrun A).iff
      cases b with
      | true =>
        simp only [m26l11, m26r0, m26r1, m26r2, m26r3, m26r4, m26r5, m26r6, m26r7, m26r8, m26r9, m26r10, m26r12, m26r13, m26r14, m26r16, m26, EVa, EVb, params, nilOk, bound, awayFrom, evM, fillA, setEls, Opd.ev, Fr.get, prune, Option.map, isB, tB, nB, isG, gT, gF, evRes, mapO, one, Nat.reduceAdd, Nat.reduceLeDiff, Nat.reduceEqDiff, Nat.reduceMul, Nat.reduceSub, Nat.reduceLT, Nat.reduceBEq, reduceCtorEq, ↓reduceIte, Int.reduceToNat, Int.reduceLE, Int.reduceLT, Int.reduceEq, Int.reduceAdd, Int.reduceSub, Int.reduceMul, List.reduceReplicate, f1, f4, hjl, avU, hE', hk]
        exact ⟨(_, fb cs[j] l[i], _), ⟨rfl, rfl⟩, ⟨hjl, by simpa using hb, hE' _, hBE.more⟩, by simp only; omega⟩
      | false =>
        simp only [m26l11, m26r0, m26r1, m26r2, m26r3, m26r4, m26r5, m26r6, m26r7, m26r8, m26r9, m26r10, m26r12, m26r13, m26r14, m26r16, m26, EVa, EVb, params, nilOk, bound, awayFrom, evM, fillA, setEls, Opd.ev, Fr.get, prune, Option.map, isB, tB, nB, isG, gT, gF, evRes, mapO, one, Nat.reduceAdd, Nat.reduceLeDiff, Nat.reduceEqDiff, Nat.reduceMul, Nat.reduceSub, Nat.reduceLT, Nat.reduceBEq, reduceCtorEq, ↓reduceIte, Int.reduceToNat, Int.reduceLE, Int.reduceLT, Int.reduceEq, Int.reduceAdd, Int.reduceSub, Int.reduceMul, List.reduceReplicate, f1, f4, hjl, avU, hE', hk]
        exact ⟨(_, false, _), ⟨rfl, rfl⟩, ⟨hjl, by simpa using hb, hE' _, hBE.more⟩, by simp only; omega⟩
    · rw [all_end _ _ _ hjl, Bool.and_true] at hb
      have hE2 : E[H.length]? = some ⟨37, 3, [.agg [.int .i64 (W : Int), .int .i64 (Hh : Int), .lst true 3 false (l[i].map avS)]]⟩ := hE
      cases b with
      | true =>
        rw [← hb] at hst
        simp only [m26l11, m26r0, m26r1, m26r2, m26r3, m26r4, m26r5, m26r6, m26r7, m26r8, m26r9, m26r10, m26r12, m26r13, m26r14, m26r16, m26, EVa, EVb, params, nilOk, bound, awayFrom, evM, fillA, setEls, Opd.ev, Fr.get, prune, Option.map, isB, tB, nB, isG, gT, gF, evRes, mapO, one, Nat.reduceAdd, Nat.reduceLeDiff, Nat.reduceEqDiff, Nat.reduceMul, Nat.reduceSub, Nat.reduceLT, Nat.reduceBEq, reduceCtorEq, ↓reduceIte, Int.reduceToNat, Int.reduceLE, Int.reduceLT, Int.reduceEq, Int.reduceAdd, Int.reduceSub, Int.reduceMul, List.reduceReplicate, hjl, hE2]
        refine WV_app' hBE (by simp; omega) ?_
        intro v' A' hB' hL' hF'
        simp only [EVa, EVb, params, nilOk, bound, awayFrom, evM, fillA, setEls, Opd.ev, Fr.get, prune, Option.map, isB, tB, nB, isG, gT, gF, evRes, mapO, one, Nat.reduceAdd, Nat.reduceLeDiff, Nat.reduceEqDiff, Nat.reduceMul, Nat.reduceSub, Nat.reduceLT, Nat.reduceBEq, reduceCtorEq, ↓reduceIte, Int.reduceToNat, Int.reduceLE, Int.reduceLT, Int.reduceEq, Int.reduceAdd, Int.reduceSub, Int.reduceMul, List.reduceReplicate, e4]
        refine ⟨(_, v', _), ⟨rfl, rfl⟩, ⟨hlt, ?_, .inr ?_⟩, by simp only; omega⟩
        · simp only
          rw [hst, if_pos rfl, List.map_append]
          exact hB'
        · simp only
          rw [hst, if_pos rfl]; simp
      | false =>
        rw [← hb] at hst
        simp only [m26l11, m26r0, m26r1, m26r2, m26r3, m26r4, m26r5, m26r6, m26r7, m26r8, m26r9, m26r10, m26r12, m26r13, m26r14, m26r16, m26, EVa, EVb, params, nilOk, bound, awayFrom, evM, fillA, setEls, Opd.ev, Fr.get, prune, Option.map, isB, tB, nB, isG, gT, gF, evRes, mapO, one, Nat.reduceAdd, Nat.reduceLeDiff, Nat.reduceEqDiff, Nat.reduceMul, Nat.reduceSub, Nat.reduceLT, Nat.reduceBEq, reduceCtorEq, ↓reduceIte, Int.reduceToNat, Int.reduceLE, Int.reduceLT, Int.reduceEq, Int.reduceAdd, Int.reduceSub, Int.reduceMul, List.reduceReplicate, hjl, e4]
        refine ⟨(_, v, _), ⟨rfl, rfl⟩, ⟨hlt, ?_, ?_⟩, by simp only; omega⟩
        · simp only
          rw [hst]
          simpa using hBE
        · simp only
          rw [hst]
          simpa using hnv
  · have : i = l.length := by omega
    subst this
    rw [List.take_length] at hB hnv
    generalize (l.filter fun sq => cs.all fun c => fb c sq) = r at hB hnv ⊢
    simp only [m26l15, m26r0, m26r1, m26r2, m26r3, m26r4, m26r5, m26r6, m26r7, m26r8, m26r9, m26r10, m26r12, m26r13, m26r14, m26r16, m26, EVa, EVb, params, nilOk, bound, awayFrom, evM, fillA, setEls, Opd.ev, Fr.get, prune, Option.map, isB, tB, nB, isG, gT, gF, evRes, mapO, one, Nat.reduceAdd, Nat.reduceLeDiff, Nat.reduceEqDiff, Nat.reduceMul, Nat.reduceSub, Nat.reduceLT, Nat.reduceBEq, reduceCtorEq, ↓reduceIte, Int.reduceToNat, Int.reduceLE, Int.reduceLT, Int.reduceEq, Int.reduceAdd, Int.reduceSub, Int.reduceMul, List.reduceReplicate, hlt]
    unfold pzR
    rcases hB with ⟨rfl, hx⟩ | ⟨id, rfl, hid⟩
    · have : r = [] := by simpa using hx
      rw [if_pos this]; rfl
    · by_cases hre : r = []
      · exact absurd hre (hnv.resolve_left (by simp))
      · rw [if_neg hre, gt_sl]
        exact gb_sl hid (by simp) (by simp) (by rw [List.drop_zero, List.take_of_length_le (by simp)]; exact gb_encT H 4 W Hh r)
theorem k26 (W Hh : Nat) (p nil p2 nil2 : Bool) (l : List (List Sq)) (cs : List Cu) (hf : ∀ sq, sq ∈ l → Fit W Hh sq ∧ goodP W Hh sq = true) (hl : l.length ≤ 1000) (hcl : cs.length ≤ 1000) (ha : ∀ c, c ∈ cs → 0 ≤ c.a ∧ c.a ≤ 1000) (fb : Cu → List Sq → Bool) (hr : ∀ sq, sq ∈ l → ∀ c, c ∈ cs → fitR c W Hh sq = some (fb c sq)) {d : Option Nat} {os : List MOp} {live : List Nat} {S : List KF} {Q : FQ} {fr : Fr} {A : Heap} : WCR T .ro 26 [.lst p 3 nil (l.map (encT W Hh)), .lst p2 3 nil2 (cs.map avU)] d os live S Q fr A ↔ WP T os live S Q (putd d (pzR W Hh (l.filter fun sq => cs.all fun c => fb c sq)) fr) A := (p26 W Hh p nil p2 nil2 l cs hf hl hcl ha fb hr).call (by simp only [mapO, depth_is, bo_lst_id (bo_encT _ 4 _ _ _), bo_lU])
end Go.Ev.Z
end

section
set_option maxRecDepth 100000
set_option linter.unusedSimpArgs false
set_option linter.unusedVariables false
namespace Go.Ev.Z
open Go Go.Ev
/-- What is known of all cuts of a size. -/
structure Dat (W Hh : Nat) (l : List (List Sq)) : Prop where
  all : AllRunB T 49 W Hh l
  ct : CtRun T 43 W Hh l
  fit : ∀ sq, sq ∈ l → Fit W Hh sq ∧ goodP W Hh sq = true
  len : l.length ≤ 1000
  ag : ∀ c, clueP W Hh c = true → ∀ sq, sq ∈ l → ∃ b, fitO c W Hh sq = some b ∧ fitR c W Hh sq = some b
theorem Dat.o {W Hh : Nat} {l : List (List Sq)} (D : Dat W Hh l) {c : Cu} (hc : clueP W Hh c = true) {sq : List Sq} (hs : sq ∈ l) : fitO c W Hh sq = some (fbP W Hh c sq) := by
  obtain ⟨b, h1, _⟩ := D.ag c hc sq hs
  simp [fbP, h1]
theorem Dat.r {W Hh : Nat} {l : List (List Sq)} (D : Dat W Hh l) {c : Cu} (hc : clueP W Hh c = true) {sq : List Sq} (hs : sq ∈ l) : fitR c W Hh sq = some (fbP W Hh c sq) := by
  obtain ⟨b, h1, h2⟩ := D.ag c hc sq hs
  simp [fbP, h1, h2]
theorem goodZ_all {w h : Int} {cs : List Cu} (hg : goodZ w h cs = true) : hidP w h = true ∧ cs.length ≤ 6 ∧ ∀ c, c ∈ cs → clueP w h c = true := by
  simpa [goodZ, and_assoc] using hg
/-- the reference's search -/
theorem kpzAll {W Hh : Nat} {l : List (List Sq)} (D : Dat W Hh l) (hh : hidP W Hh = true) (p nil p2 nil2 : Bool) (cs : List Cu) (hl : cs.length ≤ 6) (hc : ∀ c, c ∈ cs → clueP W Hh c = true)
    {d : Option Nat} {os : List MOp} {live : List Nat} {S : List KF} {Q : FQ} {fr : Fr} {A : Heap} : WCR T .ro 26 [.lst p 3 nil (l.map (encT W Hh)), .lst p2 3 nil2 (cs.map avU)] d os live S Q fr A ↔
      WP T os live S Q (putd d (pzR W Hh (solP W Hh l cs)) fr) A :=
  k26 W Hh p nil p2 nil2 l cs D.fit D.len (by omega) (fun c h => clueP_a hh (hc c h)) (fbP W Hh) (fun sq hs c h => D.r (hc c h) hs)
def oneP (W Hh : Nat) (l : List (List Sq)) (cs : List Cu) : Bool := decide ((solP W Hh l cs).length = 1)
/-- the program's search, its cuts the caller's own -/
theorem wwith {W Hh : Nat} {l : List (List Sq)} (D : Dat W Hh l) (hh : hidP W Hh = true) (p nil p2 nil2 : Bool) (cs0 cs : List Cu) (hl : cs.length ≤ 6) (hc : ∀ c, c ∈ cs → clueP W Hh c = true) :
    WF T 33 [.agg [.int .i64 (W : Int), .int .i64 (Hh : Int), .lst p 3 nil (cs0.map avU)], .lst p2 3 nil2 (cs.map avU)] [] (fun v A' => HpD A' ∧ ∃ es, CutsAt A' W Hh v es ∧ es.map Prod.snd = solP W Hh l cs) := by
  refine (w33 W Hh l D.all p nil p2 nil2 cs0 cs (fun sq hs => (D.fit sq hs).1) D.len (by omega) (fun c h => clueP_a hh (hc c h)) (fbP W Hh) (fun sq hs c h => D.o (hc c h) hs)).mono fun v A' hv => ?_
  obtain ⟨h1, es, h2, h3⟩ := hv
  refine ⟨h1, es, h2, ?_⟩
  rw [h3]
  unfold solP misP
  congr 1
  funext sq
  exact mis_all _ _ _
theorem w19 (W Hh : Nat) (l : List (List Sq)) (D : Dat W Hh l) (p nil : Bool) (cs : List Cu) (hg : goodZ W Hh cs = true) : WF T 19 [.agg [.int .i64 (W : Int), .int .i64 (Hh : Int), .lst p 3 nil (cs.map avU)]] []
    (fun r A' => HpD A' ∧ ∃ v es, r = .tup [v, .bool true] ∧ CutsAt A' W Hh v es ∧ es.map Prod.snd = solP W Hh l cs) := by
  rw [WS_of t19]
  obtain ⟨hh, hl, hc⟩ := goodZ_all hg
  simp only [m19r0, m19r1, m19r2, m19r3, m19, EVa, EVb, params, nilOk, bound, awayFrom, evM, fillA, setEls, Opd.ev, Fr.get, prune, Option.map, isB, tB, nB, isG, gT, gF, evRes, mapO, one, Nat.reduceAdd, Nat.reduceLeDiff, Nat.reduceEqDiff, Nat.reduceMul, Nat.reduceSub, Nat.reduceLT, Nat.reduceBEq, reduceCtorEq, ↓reduceIte, Int.reduceToNat, Int.reduceLE, Int.reduceLT, Int.reduceEq, Int.reduceAdd, Int.reduceSub, Int.reduceMul, List.reduceReplicate, k40, hg]
  refine own_of (args' := [.agg [.int .i64 (W : Int), .int .i64 (Hh : Int), .lst p 3 nil (cs.map avU)], .lst p 3 nil (cs.map avU)]) (by simp only [mapO, depth_is, bo_agg, bo_int, bo_lU]) (wwith D hh p nil p nil cs cs hl hc) ?_
  rintro v A' ⟨hD, es, hC, hes⟩
  obtain ⟨A2, hA2, hD2⟩ := hD.emb ([] : Heap).length
  obtain ⟨v2, hv2, hC2⟩ := hC.emb (A := []) hA2
  refine ⟨v2, A2, hv2, hA2, ?_⟩
  simp only [EVa, EVb, params, nilOk, bound, awayFrom, evM, fillA, setEls, Opd.ev, Fr.get, prune, Option.map, isB, tB, nB, isG, gT, gF, evRes, mapO, one, Nat.reduceAdd, Nat.reduceLeDiff, Nat.reduceEqDiff, Nat.reduceMul, Nat.reduceSub, Nat.reduceLT, Nat.reduceBEq, reduceCtorEq, ↓reduceIte, Int.reduceToNat, Int.reduceLE, Int.reduceLT, Int.reduceEq, Int.reduceAdd, Int.reduceSub, Int.reduceMul, List.reduceReplicate]
  refine ⟨by simpa using hD2, v2, _, rfl, by simpa using hC2, ?_⟩
  rw [← hes]
theorem w19n (w h : Int) (p nil : Bool) (cs : List Cu) (hg : goodZ w h cs = false) : WF T 19 [.agg [.int .i64 w, .int .i64 h, .lst p 3 nil (cs.map avU)]] [] (fun r A' => HpD A' ∧ r = .tup [.lst true 0 true [], .bool false]) := by
  rw [WS_of t19]
  simp only [m19r0, m19r1, m19r2, m19r3, m19, EVa, EVb, params, nilOk, bound, awayFrom, evM, fillA, setEls, Opd.ev, Fr.get, prune, Option.map, isB, tB, nB, isG, gT, gF, evRes, mapO, one, Nat.reduceAdd, Nat.reduceLeDiff, Nat.reduceEqDiff, Nat.reduceMul, Nat.reduceSub, Nat.reduceLT, Nat.reduceBEq, reduceCtorEq, ↓reduceIte, Int.reduceToNat, Int.reduceLE, Int.reduceLT, Int.reduceEq, Int.reduceAdd, Int.reduceSub, Int.reduceMul, List.reduceReplicate, k40, hg]
  exact fun b hb => by cases hb
theorem CutsAt.len {A : Heap} {W Hh : Nat} {v : AV} {es : List Ent} (h : CutsAt A W Hh v es) : lenV v = some (.int .i64 (es.length : Nat)) := by
  obtain ⟨⟨id, rest, rfl, _⟩, _, _⟩ := h; rfl
theorem w14n (w h : Int) (p nil : Bool) (cs : List Cu) (hg : goodZ w h cs = false) : WF T 14 [.agg [.int .i64 w, .int .i64 h, .lst p 3 nil (cs.map avU)]] [] (fun r A' => HpD A' ∧ r = .tup [zT, .bool false]) := by
  rw [WS_of t14]
  simp only [m14r0, m14r1, m14r2, m14r3, m14r4, m14, EVa, EVb, params, nilOk, bound, awayFrom, evM, fillA, setEls, Opd.ev, Fr.get, prune, Option.map, isB, tB, nB, isG, gT, gF, evRes, mapO, one, Nat.reduceAdd, Nat.reduceLeDiff, Nat.reduceEqDiff, Nat.reduceMul, Nat.reduceSub, Nat.reduceLT, Nat.reduceBEq, reduceCtorEq, ↓reduceIte, Int.reduceToNat, Int.reduceLE, Int.reduceLT, Int.reduceEq, Int.reduceAdd, Int.reduceSub, Int.reduceMul, List.reduceReplicate]
  refine own_of (args' := [.agg [.int .i64 w, .int .i64 h, .lst p 3 nil (cs.map avU)]]) (by simp only [mapO, depth_is, bo_agg, bo_int, bo_lU]) (w19n w h p nil cs hg) ?_
  rintro r A' ⟨hD, rfl⟩
  obtain ⟨A2, hA2, hD2⟩ := hD.emb ([⟨37, 3, [.agg [.int .i64 0, .int .i64 0, .lst true 0 true []]]⟩] : Heap).length
  refine ⟨.tup [.lst true 0 true [], .bool false], A2, rfl, hA2, ?_⟩
  simp only [EVa, EVb, params, nilOk, bound, awayFrom, evM, fillA, setEls, Opd.ev, Fr.get, prune, Option.map, isB, tB, nB, isG, gT, gF, evRes, mapO, one, Nat.reduceAdd, Nat.reduceLeDiff, Nat.reduceEqDiff, Nat.reduceMul, Nat.reduceSub, Nat.reduceLT, Nat.reduceBEq, reduceCtorEq, ↓reduceIte, Int.reduceToNat, Int.reduceLE, Int.reduceLT, Int.reduceEq, Int.reduceAdd, Int.reduceSub, Int.reduceMul, List.reduceReplicate]
  refine ⟨fun b hb => ?_, rfl⟩
  rcases List.mem_cons.1 hb with rfl | hb
  · rfl
  · exact hD2 b hb
theorem w14 (W Hh : Nat) (l : List (List Sq)) (D : Dat W Hh l) (p nil : Bool) (cs : List Cu) (hg : goodZ W Hh cs = true) : WF T 14 [.agg [.int .i64 (W : Int), .int .i64 (Hh : Int), .lst p 3 nil (cs.map avU)]] []
    (fun r A' => HpD A' ∧ (solP W Hh l cs = [] → r = .tup [zT, .bool false]) ∧ (∀ sq rs, solP W Hh l cs = sq :: rs → ∃ e, e.2 = sq ∧ r = .tup [avB W Hh e, .bool true] ∧ Hold A' e)) := by
  rw [WS_of t14]
  simp only [m14r0, m14r1, m14r2, m14r3, m14r4, m14, EVa, EVb, params, nilOk, bound, awayFrom, evM, fillA, setEls, Opd.ev, Fr.get, prune, Option.map, isB, tB, nB, isG, gT, gF, evRes, mapO, one, Nat.reduceAdd, Nat.reduceLeDiff, Nat.reduceEqDiff, Nat.reduceMul, Nat.reduceSub, Nat.reduceLT, Nat.reduceBEq, reduceCtorEq, ↓reduceIte, Int.reduceToNat, Int.reduceLE, Int.reduceLT, Int.reduceEq, Int.reduceAdd, Int.reduceSub, Int.reduceMul, List.reduceReplicate]
  refine own_of (args' := [.agg [.int .i64 (W : Int), .int .i64 (Hh : Int), .lst p 3 nil (cs.map avU)]]) (by simp only [mapO, depth_is, bo_agg, bo_int, bo_lU]) (w19 W Hh l D p nil cs hg) ?_
  rintro r A' ⟨hD, v, es, rfl, hC, hes⟩
  obtain ⟨A2, hA2, hD2⟩ := hD.emb ([⟨37, 3, [.agg [.int .i64 0, .int .i64 0, .lst true 0 true []]]⟩] : Heap).length
  obtain ⟨v2, hv2, hC2⟩ := hC.emb (A := [⟨37, 3, [.agg [.int .i64 0, .int .i64 0, .lst true 0 true []]]⟩]) hA2
  have hv2' : embed 1 depth v = some v2 := hv2
  have hc : HpD ([⟨37, 3, [.agg [.int .i64 0, .int .i64 0, .lst true 0 true []]]⟩] ++ A2) := HpD.app (HpD.one rfl) hD2
  have hemb : embed ([⟨37, 3, [.agg [.int .i64 0, .int .i64 0, .lst true 0 true []]]⟩] : Heap).length depth (.tup [v, .bool true]) = some (.tup [v2, .bool true]) := by
    obtain ⟨⟨id, rest, rfl, _⟩, _, _⟩ := hC
    have e := Option.some.inj hv2
    subst e
    rfl
  refine ⟨.tup [v2, .bool true], A2, hemb, hA2, ?_⟩
  clear hemb hv2' hv2
  have hlen := hC2.len
  rw [List.length_map] at hlen
  have hl2 : es.length = (solP W Hh l cs).length := by rw [← hes, List.length_map]
  cases hs : solP W Hh l cs with
  | nil =>
    rw [hs] at hl2
    rw [hl2] at hlen
    simp only [EVa, EVb, params, nilOk, bound, awayFrom, evM, fillA, setEls, Opd.ev, Fr.get, prune, Option.map, isB, tB, nB, isG, gT, gF, evRes, mapO, one, Nat.reduceAdd, Nat.reduceLeDiff, Nat.reduceEqDiff, Nat.reduceMul, Nat.reduceSub, Nat.reduceLT, Nat.reduceBEq, reduceCtorEq, ↓reduceIte, Int.reduceToNat, Int.reduceLE, Int.reduceLT, Int.reduceEq, Int.reduceAdd, Int.reduceSub, Int.reduceMul, List.reduceReplicate, hlen]
    exact ⟨hc, fun _ => rfl, fun _ _ h => h.elim⟩
  | cons sq rs =>
    cases es with
    | nil => rw [hs] at hl2; simp at hl2
    | cons e0 es' =>
      obtain ⟨⟨id, rest, hv, hid⟩, hho, _⟩ := hC2
      have hH0 := hho (e0.1 + 1, e0.2) (by simp)
      have hsq : e0.2 = sq := by
        rw [hs] at hes
        simpa using (List.cons.inj hes).1
      have hlen' : lenV v2 = some (.int .i64 ((es'.length + 1 : Nat) : Int)) := by simpa using hlen
      have hn0 : (((es'.length + 1 : Nat) : Int) = 0) = False := eq_false (by omega)
      have hn1 : 0 < es'.length + 1 := Nat.succ_pos _
      have hn2 : ((0 : Int) < ((es'.length + 1 : Nat) : Int)) = True := eq_true (by omega)
      generalize hE : (List.map (avB W Hh) (List.map (fun e : Ent => (e.1 + ([⟨37, 3, [.agg [.int .i64 0, .int .i64 0, .lst true 0 true []]]⟩] : Heap).length, e.2)) (e0 :: es')) ++ rest) = E at hv hid
      have hE0 : E[0]? = some (.agg [.int .i64 (W : Int), .int .i64 (Hh : Int), .sl (e0.1 + 1) 3 e0.2.length 0 e0.2.length]) := by rw [← hE]; rfl
      have hv' : v2 = .sl id 3 E.length 0 (es'.length + 1) := by rw [hv]; simp
      subst hv'
      have hid' : (⟨37, 3, [.agg [.int .i64 0, .int .i64 0, .lst true 0 true []]]⟩ :: A2 : Heap)[id]? = some ⟨37, 3, E⟩ := hid
      simp only [EVa, EVb, params, nilOk, bound, awayFrom, evM, fillA, setEls, Opd.ev, Fr.get, prune, Option.map, isB, tB, nB, isG, gT, gF, evRes, mapO, one, Nat.reduceAdd, Nat.reduceLeDiff, Nat.reduceEqDiff, Nat.reduceMul, Nat.reduceSub, Nat.reduceLT, Nat.reduceBEq, reduceCtorEq, ↓reduceIte, Int.reduceToNat, Int.reduceLE, Int.reduceLT, Int.reduceEq, Int.reduceAdd, Int.reduceSub, Int.reduceMul, List.reduceReplicate, hn0, hn2, hid', hE0]
      refine ⟨?_, fun h => h.elim, fun sq' rs' h => ⟨(e0.1 + 1, e0.2), ?_, rfl, ?_⟩⟩
      · intro b hb
        rcases List.mem_cons.1 hb with rfl | hb
        · rfl
        · exact hD2 b hb
      · rw [hsq]; exact (List.cons.inj h).1
      · unfold Hold at hH0 ⊢
        exact hH0
end Go.Ev.Z
end
