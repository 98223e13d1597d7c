import Derived.Test.YtfgbdbakafdinaaGreatWalkThird

section
set_option maxRecDepth 100000
set_option linter.unusedSimpArgs false
set_option linter.unusedVariables false
namespace Go.Ev.Z
open Go Go.Ev
theorem Sq_ext {a b : Sq} : a = b ↔ a.x = b.x ∧ a.y = b.y ∧ a.d = b.d := by cases a; cases b; simp
theorem t55 : T 55 = some (.code m55) := rfl
theorem p55 (k a b k2 a2 b2 : Int) : Pure T 55 [.agg [.int .i64 k, .int .i64 a, .int .i64 b], .agg [.int .i64 k2, .int .i64 a2, .int .i64 b2]] (.bool (decide ((⟨k, a, b⟩ : Sq) = ⟨k2, a2, b2⟩))) := by
  rw [Pure_of t55]
  (try simp only [EVa, EVb, params, nilOk, bound, awayFrom, evM, fillA, setEls, Opd.ev, Fr.get, prune, Option.map, isB, tB, nB, isG, gT, gF, evRes, mapO, one, Nat.reduceAdd, Nat.reduceLeDiff, Nat.reduceEqDiff, Nat.reduceMul, Nat.reduceSub, Nat.reduceLT, Nat.reduceBEq, reduceCtorEq, ↓reduceIte, Int.reduceToNat, Int.reduceLE, Int.reduceLT, Int.reduceEq, Int.reduceAdd, Int.reduceSub, Int.reduceMul, List.reduceReplicate, m55r0, m55r1, m55r2, m55r3, m55r4, m55r5, m55r6, m55r7, m55] <;> (try (first | refine WP_split (by simp only [EVa, EVb, params, nilOk, bound, awayFrom, evM, fillA, setEls, Opd.ev, Fr.get, prune, Option.map, isB, tB, nB, isG, gT, gF, evRes, mapO, one, Nat.reduceAdd, Nat.reduceLeDiff, Nat.reduceEqDiff, Nat.reduceMul, Nat.reduceSub, Nat.reduceLT, Nat.reduceBEq, reduceCtorEq, ↓reduceIte, Int.reduceToNat, Int.reduceLE, Int.reduceLT, Int.reduceEq, Int.reduceAdd, Int.reduceSub, Int.reduceMul, List.reduceReplicate]) (fun hc1 => ?_) (fun hc1 => ?_) | refine WS_split (by simp only [EVa, EVb, params, nilOk, bound, awayFrom, evM, fillA, setEls, Opd.ev, Fr.get, prune, Option.map, isB, tB, nB, isG, gT, gF, evRes, mapO, one, Nat.reduceAdd, Nat.reduceLeDiff, Nat.reduceEqDiff, Nat.reduceMul, Nat.reduceSub, Nat.reduceLT, Nat.reduceBEq, reduceCtorEq, ↓reduceIte, Int.reduceToNat, Int.reduceLE, Int.reduceLT, Int.reduceEq, Int.reduceAdd, Int.reduceSub, Int.reduceMul, List.reduceReplicate]) (fun hc1 => ?_) (fun hc1 => ?_)) <;> try simp only [EVa, EVb, params, nilOk, bound, awayFrom, evM, fillA, setEls, Opd.ev, Fr.get, prune, Option.map, isB, tB, nB, isG, gT, gF, evRes, mapO, one, Nat.reduceAdd, Nat.reduceLeDiff, Nat.reduceEqDiff, Nat.reduceMul, Nat.reduceSub, Nat.reduceLT, Nat.reduceBEq, reduceCtorEq, ↓reduceIte, Int.reduceToNat, Int.reduceLE, Int.reduceLT, Int.reduceEq, Int.reduceAdd, Int.reduceSub, Int.reduceMul, List.reduceReplicate] at hc1 <;> (try simp only [EVa, EVb, params, nilOk, bound, awayFrom, evM, fillA, setEls, Opd.ev, Fr.get, prune, Option.map, isB, tB, nB, isG, gT, gF, evRes, mapO, one, Nat.reduceAdd, Nat.reduceLeDiff, Nat.reduceEqDiff, Nat.reduceMul, Nat.reduceSub, Nat.reduceLT, Nat.reduceBEq, reduceCtorEq, ↓reduceIte, Int.reduceToNat, Int.reduceLE, Int.reduceLT, Int.reduceEq, Int.reduceAdd, Int.reduceSub, Int.reduceMul, List.reduceReplicate, m55r0, m55r1, m55r2, m55r3, m55r4, m55r5, m55r6, m55r7, m55, hc1] <;> (try (first | refine WP_split (by simp only [EVa, EVb, params, nilOk, bound, awayFrom, evM, fillA, setEls, Opd.ev, Fr.get, prune, Option.map, isB, tB, nB, isG, gT, gF, evRes, mapO, one, Nat.reduceAdd, Nat.reduceLeDiff, Nat.reduceEqDiff, Nat.reduceMul, Nat.reduceSub, Nat.reduceLT, Nat.reduceBEq, reduceCtorEq, ↓reduceIte, Int.reduceToNat, Int.reduceLE, Int.reduceLT, Int.reduceEq, Int.reduceAdd, Int.reduceSub, Int.reduceMul, List.reduceReplicate]) (fun hc2 => ?_) (fun hc2 => ?_) | refine WS_split (by simp only [EVa, EVb, params, nilOk, bound, awayFrom, evM, fillA, setEls, Opd.ev, Fr.get, prune, Option.map, isB, tB, nB, isG, gT, gF, evRes, mapO, one, Nat.reduceAdd, Nat.reduceLeDiff, Nat.reduceEqDiff, Nat.reduceMul, Nat.reduceSub, Nat.reduceLT, Nat.reduceBEq, reduceCtorEq, ↓reduceIte, Int.reduceToNat, Int.reduceLE, Int.reduceLT, Int.reduceEq, Int.reduceAdd, Int.reduceSub, Int.reduceMul, List.reduceReplicate]) (fun hc2 => ?_) (fun hc2 => ?_)) <;> try simp only [EVa, EVb, params, nilOk, bound, awayFrom, evM, fillA, setEls, Opd.ev, Fr.get, prune, Option.map, isB, tB, nB, isG, gT, gF, evRes, mapO, one, Nat.reduceAdd, Nat.reduceLeDiff, Nat.reduceEqDiff, Nat.reduceMul, Nat.reduceSub, Nat.reduceLT, Nat.reduceBEq, reduceCtorEq, ↓reduceIte, Int.reduceToNat, Int.reduceLE, Int.reduceLT, Int.reduceEq, Int.reduceAdd, Int.reduceSub, Int.reduceMul, List.reduceReplicate] at hc2 <;> (try simp only [EVa, EVb, params, nilOk, bound, awayFrom, evM, fillA, setEls, Opd.ev, Fr.get, prune, Option.map, isB, tB, nB, isG, gT, gF, evRes, mapO, one, Nat.reduceAdd, Nat.reduceLeDiff, Nat.reduceEqDiff, Nat.reduceMul, Nat.reduceSub, Nat.reduceLT, Nat.reduceBEq, reduceCtorEq, ↓reduceIte, Int.reduceToNat, Int.reduceLE, Int.reduceLT, Int.reduceEq, Int.reduceAdd, Int.reduceSub, Int.reduceMul, List.reduceReplicate, m55r0, m55r1, m55r2, m55r3, m55r4, m55r5, m55r6, m55r7, m55, hc1, hc2] <;> (try (first | refine WP_split (by simp only [EVa, EVb, params, nilOk, bound, awayFrom, evM, fillA, setEls, Opd.ev, Fr.get, prune, Option.map, isB, tB, nB, isG, gT, gF, evRes, mapO, one, Nat.reduceAdd, Nat.reduceLeDiff, Nat.reduceEqDiff, Nat.reduceMul, Nat.reduceSub, Nat.reduceLT, Nat.reduceBEq, reduceCtorEq, ↓reduceIte, Int.reduceToNat, Int.reduceLE, Int.reduceLT, Int.reduceEq, Int.reduceAdd, Int.reduceSub, Int.reduceMul, List.reduceReplicate]) (fun hc3 => ?_) (fun hc3 => ?_) | refine WS_split (by simp only [EVa, EVb, params, nilOk, bound, awayFrom, evM, fillA, setEls, Opd.ev, Fr.get, prune, Option.map, isB, tB, nB, isG, gT, gF, evRes, mapO, one, Nat.reduceAdd, Nat.reduceLeDiff, Nat.reduceEqDiff, Nat.reduceMul, Nat.reduceSub, Nat.reduceLT, Nat.reduceBEq, reduceCtorEq, ↓reduceIte, Int.reduceToNat, Int.reduceLE, Int.reduceLT, Int.reduceEq, Int.reduceAdd, Int.reduceSub, Int.reduceMul, List.reduceReplicate]) (fun hc3 => ?_) (fun hc3 => ?_)) <;> try simp only [EVa, EVb, params, nilOk, bound, awayFrom, evM, fillA, setEls, Opd.ev, Fr.get, prune, Option.map, isB, tB, nB, isG, gT, gF, evRes, mapO, one, Nat.reduceAdd, Nat.reduceLeDiff, Nat.reduceEqDiff, Nat.reduceMul, Nat.reduceSub, Nat.reduceLT, Nat.reduceBEq, reduceCtorEq, ↓reduceIte, Int.reduceToNat, Int.reduceLE, Int.reduceLT, Int.reduceEq, Int.reduceAdd, Int.reduceSub, Int.reduceMul, List.reduceReplicate] at hc3 <;> (try simp only [EVa, EVb, params, nilOk, bound, awayFrom, evM, fillA, setEls, Opd.ev, Fr.get, prune, Option.map, isB, tB, nB, isG, gT, gF, evRes, mapO, one, Nat.reduceAdd, Nat.reduceLeDiff, Nat.reduceEqDiff, Nat.reduceMul, Nat.reduceSub, Nat.reduceLT, Nat.reduceBEq, reduceCtorEq, ↓reduceIte, Int.reduceToNat, Int.reduceLE, Int.reduceLT, Int.reduceEq, Int.reduceAdd, Int.reduceSub, Int.reduceMul, List.reduceReplicate, m55r0, m55r1, m55r2, m55r3, m55r4, m55r5, m55r6, m55r7, m55, hc1, hc2, hc3]))))))) <;> simp_all [Sq_ext]
theorem k55 (k a b k2 a2 b2 : Int) {d : Option Nat} {os : List MOp} {live : List Nat} {S : List KF} {Q : FQ} {fr : Fr} {A : Heap} : WCR T .ro 55 [.agg [.int .i64 k, .int .i64 a, .int .i64 b], .agg [.int .i64 k2, .int .i64 a2, .int .i64 b2]] d os live S Q fr A ↔ WP T os live S Q (putd d (.bool (decide ((⟨k, a, b⟩ : Sq) = ⟨k2, a2, b2⟩))) fr) A := (p55 k a b k2 a2 b2).call (by simp only [mapO, depth_is, bo_agg, bo_int, bo_bool, bo_str, bo_lst, bo_lS, bo_rp, bo_fn])
theorem t37 : T 37 = some (.code m37) := rfl
theorem p37 (p q n1 n2 : Bool) (s1 s2 : Nat) (cs ds : List Sq) (h1 : s1 = 3 ∨ cs = []) (h2 : s2 = 3 ∨ ds = []) (hl : cs.length ≤ 1048576) (hl2 : ds.length ≤ 1048576) : Pure T 37 [.lst p s1 n1 (cs.map avS), .lst q s2 n2 (ds.map avS)] (.bool (decide (cs = ds))) := by
  rw [Pure_of t37]
  by_cases hlen : cs.length = ds.length
  · simp only [m37r0, m37r1, m37r2, m37r3, m37r4, m37r5, m37r6, m37r7, m37r9, m37, EVa, EVb, params, nilOk, bound, awayFrom, evM, fillA, setEls, Opd.ev, Fr.get, prune, Option.map, isB, tB, nB, isG, gT, gF, evRes, mapO, one, Nat.reduceAdd, Nat.reduceLeDiff, Nat.reduceEqDiff, Nat.reduceMul, Nat.reduceSub, Nat.reduceLT, Nat.reduceBEq, reduceCtorEq, ↓reduceIte, Int.reduceToNat, Int.reduceLE, Int.reduceLT, Int.reduceEq, Int.reduceAdd, Int.reduceSub, Int.reduceMul, List.reduceReplicate, hlen]
    refine WS_loop' (σ := Nat) (fun s => [(0, .lst p s1 n1 (cs.map avS)), (1, .lst q s2 n2 (ds.map avS)), (5, .int .i64 (s : Int))])
      (fun _ => []) (fun s => cs.length - s) (fun s => s ≤ cs.length ∧ decide (cs.drop s = ds.drop s) = decide (cs = ds)) 0 rfl rfl ⟨Nat.zero_le _, by simp⟩ ?_
    rintro i ⟨hi, hd⟩
    by_cases hlt : i < cs.length
    · have hlt2 : i < ds.length := by omega
      have hs1 : s1 = 3 := h1.resolve_right (by intro h; subst h; simp at hlt)
      have hs2 : s2 = 3 := h2.resolve_right (by intro h; subst h; simp at hlt2)
      subst hs1 hs2
      have e1 : (cs.map avS)[i]? = some (avS cs[i]) := map_get hlt
      have e2 : (ds.map avS)[i]? = some (avS ds[i]) := map_get hlt2
      have e4 := wsucc (i := i) (by omega)
      rw [List.drop_eq_getElem_cons hlt, List.drop_eq_getElem_cons hlt2] at hd
      by_cases hc : cs[i] = ds[i]
      · have hc' : ((⟨cs[i].x, cs[i].y, cs[i].d⟩ : Sq) = ⟨ds[i].x, ds[i].y, ds[i].d⟩) = True := eq_true hc
        simp only [m37l8, m37r0, m37r1, m37r2, m37r3, m37r4, m37r5, m37r6, m37r7, m37r9, m37, EVa, EVb, params, nilOk, bound, awayFrom, evM, fillA, setEls, Opd.ev, Fr.get, prune, Option.map, isB, tB, nB, isG, gT, gF, evRes, mapO, one, Nat.reduceAdd, Nat.reduceLeDiff, Nat.reduceEqDiff, Nat.reduceMul, Nat.reduceSub, Nat.reduceLT, Nat.reduceBEq, reduceCtorEq, ↓reduceIte, Int.reduceToNat, Int.reduceLE, Int.reduceLT, Int.reduceEq, Int.reduceAdd, Int.reduceSub, Int.reduceMul, List.reduceReplicate, e1, e2, e4, hlt, avS, k55, hc']
        refine ⟨_, ⟨rfl, rfl⟩, ⟨hlt, ?_⟩, by simp only; omega⟩
        rw [← hd]; simp only [List.cons.injEq, hc, true_and]
      · have hc' : ((⟨cs[i].x, cs[i].y, cs[i].d⟩ : Sq) = ⟨ds[i].x, ds[i].y, ds[i].d⟩) = False := eq_false hc
        simp only [m37l8, m37r0, m37r1, m37r2, m37r3, m37r4, m37r5, m37r6, m37r7, m37r9, m37, EVa, EVb, params, nilOk, bound, awayFrom, evM, fillA, setEls, Opd.ev, Fr.get, prune, Option.map, isB, tB, nB, isG, gT, gF, evRes, mapO, one, Nat.reduceAdd, Nat.reduceLeDiff, Nat.reduceEqDiff, Nat.reduceMul, Nat.reduceSub, Nat.reduceLT, Nat.reduceBEq, reduceCtorEq, ↓reduceIte, Int.reduceToNat, Int.reduceLE, Int.reduceLT, Int.reduceEq, Int.reduceAdd, Int.reduceSub, Int.reduceMul, List.reduceReplicate, e1, e2, e4, hlt, avS, k55, hc']
        rw [← hd]; simp only [List.cons.injEq, hc, false_and, decide_false]
    · have : i = cs.length := by omega
      subst this
      rw [List.drop_length, List.drop_eq_nil_of_le (by omega)] at hd
      have hd' : decide (cs = ds) = true := by rw [← hd]; rfl
      simp only [m37l8, m37r0, m37r1, m37r2, m37r3, m37r4, m37r5, m37r6, m37r7, m37r9, m37, EVa, EVb, params, nilOk, bound, awayFrom, evM, fillA, setEls, Opd.ev, Fr.get, prune, Option.map, isB, tB, nB, isG, gT, gF, evRes, mapO, one, Nat.reduceAdd, Nat.reduceLeDiff, Nat.reduceEqDiff, Nat.reduceMul, Nat.reduceSub, Nat.reduceLT, Nat.reduceBEq, reduceCtorEq, ↓reduceIte, Int.reduceToNat, Int.reduceLE, Int.reduceLT, Int.reduceEq, Int.reduceAdd, Int.reduceSub, Int.reduceMul, List.reduceReplicate, hlt, hd']
  · have hne : decide (cs = ds) = false := decide_eq_false fun h => hlen (by rw [h])
    have hlen' : ((cs.length : Int) = (ds.length : Int)) = False := eq_false (by omega)
    simp only [m37r0, m37r1, m37r2, m37r3, m37r4, m37r5, m37r6, m37r7, m37r9, m37, EVa, EVb, params, nilOk, bound, awayFrom, evM, fillA, setEls, Opd.ev, Fr.get, prune, Option.map, isB, tB, nB, isG, gT, gF, evRes, mapO, one, Nat.reduceAdd, Nat.reduceLeDiff, Nat.reduceEqDiff, Nat.reduceMul, Nat.reduceSub, Nat.reduceLT, Nat.reduceBEq, reduceCtorEq, ↓reduceIte, Int.reduceToNat, Int.reduceLE, Int.reduceLT, Int.reduceEq, Int.reduceAdd, Int.reduceSub, Int.reduceMul, List.reduceReplicate, hlen', hne]
theorem k37 (p q n1 n2 : Bool) (s1 s2 : Nat) (cs ds : List Sq) (h1 : s1 = 3 ∨ cs = []) (h2 : s2 = 3 ∨ ds = []) (hl : cs.length ≤ 1048576) (hl2 : ds.length ≤ 1048576) {d : Option Nat} {os : List MOp} {live : List Nat} {S : List KF} {Q : FQ} {fr : Fr} {A : Heap} : WCR T .ro 37 [.lst p s1 n1 (cs.map avS), .lst q s2 n2 (ds.map avS)] d os live S Q fr A ↔ WP T os live S Q (putd d (.bool (decide (cs = ds))) fr) A := (p37 p q n1 n2 s1 s2 cs ds h1 h2 hl hl2).call (by simp only [mapO, depth_is, bo_lS])
theorem t15 : T 15 = some (.code m15) := rfl
theorem p15 (w h w2 h2 : Int) (p q n1 n2 : Bool) (s1 s2 : Nat) (cs ds : List Sq) (hs1 : s1 = 3 ∨ cs = []) (hs2 : s2 = 3 ∨ ds = []) (hl : cs.length ≤ 1048576) (hl2 : ds.length ≤ 1048576) : Pure T 15 [.agg [.int .i64 w, .int .i64 h, .lst p s1 n1 (cs.map avS)], .agg [.int .i64 w2, .int .i64 h2, .lst q s2 n2 (ds.map avS)]] (.bool (decide (w = w2 ∧ h = h2 ∧ cs = ds))) := by
  rw [Pure_of t15]
  have hk := fun {d os live S Q fr A} => k37 p q n1 n2 s1 s2 cs ds hs1 hs2 hl hl2 (d := d) (os := os) (live := live) (S := S) (Q := Q) (fr := fr) (A := A)
  (try simp only [EVa, EVb, params, nilOk, bound, awayFrom, evM, fillA, setEls, Opd.ev, Fr.get, prune, Option.map, isB, tB, nB, isG, gT, gF, evRes, mapO, one, Nat.reduceAdd, Nat.reduceLeDiff, Nat.reduceEqDiff, Nat.reduceMul, Nat.reduceSub, Nat.reduceLT, Nat.reduceBEq, reduceCtorEq, ↓reduceIte, Int.reduceToNat, Int.reduceLE, Int.reduceLT, Int.reduceEq, Int.reduceAdd, Int.reduceSub, Int.reduceMul, List.reduceReplicate, m15r0, m15r1, m15r2, m15r3, m15r4, m15r5, m15r6, m15r7, m15, hk] <;> (try (first | refine WP_split (by simp only [EVa, EVb, params, nilOk, bound, awayFrom, evM, fillA, setEls, Opd.ev, Fr.get, prune, Option.map, isB, tB, nB, isG, gT, gF, evRes, mapO, one, Nat.reduceAdd, Nat.reduceLeDiff, Nat.reduceEqDiff, Nat.reduceMul, Nat.reduceSub, Nat.reduceLT, Nat.reduceBEq, reduceCtorEq, ↓reduceIte, Int.reduceToNat, Int.reduceLE, Int.reduceLT, Int.reduceEq, Int.reduceAdd, Int.reduceSub, Int.reduceMul, List.reduceReplicate]) (fun hc1 => ?_) (fun hc1 => ?_) | refine WS_split (by simp only [EVa, EVb, params, nilOk, bound, awayFrom, evM, fillA, setEls, Opd.ev, Fr.get, prune, Option.map, isB, tB, nB, isG, gT, gF, evRes, mapO, one, Nat.reduceAdd, Nat.reduceLeDiff, Nat.reduceEqDiff, Nat.reduceMul, Nat.reduceSub, Nat.reduceLT, Nat.reduceBEq, reduceCtorEq, ↓reduceIte, Int.reduceToNat, Int.reduceLE, Int.reduceLT, Int.reduceEq, Int.reduceAdd, Int.reduceSub, Int.reduceMul, List.reduceReplicate]) (fun hc1 => ?_) (fun hc1 => ?_)) <;> try simp only [EVa, EVb, params, nilOk, bound, awayFrom, evM, fillA, setEls, Opd.ev, Fr.get, prune, Option.map, isB, tB, nB, isG, gT, gF, evRes, mapO, one, Nat.reduceAdd, Nat.reduceLeDiff, Nat.reduceEqDiff, Nat.reduceMul, Nat.reduceSub, Nat.reduceLT, Nat.reduceBEq, reduceCtorEq, ↓reduceIte, Int.reduceToNat, Int.reduceLE, Int.reduceLT, Int.reduceEq, Int.reduceAdd, Int.reduceSub, Int.reduceMul, List.reduceReplicate] at hc1 <;> (try simp only [EVa, EVb, params, nilOk, bound, awayFrom, evM, fillA, setEls, Opd.ev, Fr.get, prune, Option.map, isB, tB, nB, isG, gT, gF, evRes, mapO, one, Nat.reduceAdd, Nat.reduceLeDiff, Nat.reduceEqDiff, Nat.reduceMul, Nat.reduceSub, Nat.reduceLT, Nat.reduceBEq, reduceCtorEq, ↓reduceIte, Int.reduceToNat, Int.reduceLE, Int.reduceLT, Int.reduceEq, Int.reduceAdd, Int.reduceSub, Int.reduceMul, List.reduceReplicate, m15r0, m15r1, m15r2, m15r3, m15r4, m15r5, m15r6, m15r7, m15, hk, hc1] <;> (try (first | refine WP_split (by simp only [EVa, EVb, params, nilOk, bound, awayFrom, evM, fillA, setEls, Opd.ev, Fr.get, prune, Option.map, isB, tB, nB, isG, gT, gF, evRes, mapO, one, Nat.reduceAdd, Nat.reduceLeDiff, Nat.reduceEqDiff, Nat.reduceMul, Nat.reduceSub, Nat.reduceLT, Nat.reduceBEq, reduceCtorEq, ↓reduceIte, Int.reduceToNat, Int.reduceLE, Int.reduceLT, Int.reduceEq, Int.reduceAdd, Int.reduceSub, Int.reduceMul, List.reduceReplicate]) (fun hc2 => ?_) (fun hc2 => ?_) | refine WS_split (by simp only [EVa, EVb, params, nilOk, bound, awayFrom, evM, fillA, setEls, Opd.ev, Fr.get, prune, Option.map, isB, tB, nB, isG, gT, gF, evRes, mapO, one, Nat.reduceAdd, Nat.reduceLeDiff, Nat.reduceEqDiff, Nat.reduceMul, Nat.reduceSub, Nat.reduceLT, Nat.reduceBEq, reduceCtorEq, ↓reduceIte, Int.reduceToNat, Int.reduceLE, Int.reduceLT, Int.reduceEq, Int.reduceAdd, Int.reduceSub, Int.reduceMul, List.reduceReplicate]) (fun hc2 => ?_) (fun hc2 => ?_)) <;> try simp only [EVa, EVb, params, nilOk, bound, awayFrom, evM, fillA, setEls, Opd.ev, Fr.get, prune, Option.map, isB, tB, nB, isG, gT, gF, evRes, mapO, one, Nat.reduceAdd, Nat.reduceLeDiff, Nat.reduceEqDiff, Nat.reduceMul, Nat.reduceSub, Nat.reduceLT, Nat.reduceBEq, reduceCtorEq, ↓reduceIte, Int.reduceToNat, Int.reduceLE, Int.reduceLT, Int.reduceEq, Int.reduceAdd, Int.reduceSub, Int.reduceMul, List.reduceReplicate] at hc2 <;> (try simp only [EVa, EVb, params, nilOk, bound, awayFrom, evM, fillA, setEls, Opd.ev, Fr.get, prune, Option.map, isB, tB, nB, isG, gT, gF, evRes, mapO, one, Nat.reduceAdd, Nat.reduceLeDiff, Nat.reduceEqDiff, Nat.reduceMul, Nat.reduceSub, Nat.reduceLT, Nat.reduceBEq, reduceCtorEq, ↓reduceIte, Int.reduceToNat, Int.reduceLE, Int.reduceLT, Int.reduceEq, Int.reduceAdd, Int.reduceSub, Int.reduceMul, List.reduceReplicate, m15r0, m15r1, m15r2, m15r3, m15r4, m15r5, m15r6, m15r7, m15, hk, hc1, hc2] <;> (try (first | refine WP_split (by simp only [EVa, EVb, params, nilOk, bound, awayFrom, evM, fillA, setEls, Opd.ev, Fr.get, prune, Option.map, isB, tB, nB, isG, gT, gF, evRes, mapO, one, Nat.reduceAdd, Nat.reduceLeDiff, Nat.reduceEqDiff, Nat.reduceMul, Nat.reduceSub, Nat.reduceLT, Nat.reduceBEq, reduceCtorEq, ↓reduceIte, Int.reduceToNat, Int.reduceLE, Int.reduceLT, Int.reduceEq, Int.reduceAdd, Int.reduceSub, Int.reduceMul, List.reduceReplicate]) (fun hc3 => ?_) (fun hc3 => ?_) | refine WS_split (by simp only [EVa, EVb, params, nilOk, bound, awayFrom, evM, fillA, setEls, Opd.ev, Fr.get, prune, Option.map, isB, tB, nB, isG, gT, gF, evRes, mapO, one, Nat.reduceAdd, Nat.reduceLeDiff, Nat.reduceEqDiff, Nat.reduceMul, Nat.reduceSub, Nat.reduceLT, Nat.reduceBEq, reduceCtorEq, ↓reduceIte, Int.reduceToNat, Int.reduceLE, Int.reduceLT, Int.reduceEq, Int.reduceAdd, Int.reduceSub, Int.reduceMul, List.reduceReplicate]) (fun hc3 => ?_) (fun hc3 => ?_)) <;> try simp only [EVa, EVb, params, nilOk, bound, awayFrom, evM, fillA, setEls, Opd.ev, Fr.get, prune, Option.map, isB, tB, nB, isG, gT, gF, evRes, mapO, one, Nat.reduceAdd, Nat.reduceLeDiff, Nat.reduceEqDiff, Nat.reduceMul, Nat.reduceSub, Nat.reduceLT, Nat.reduceBEq, reduceCtorEq, ↓reduceIte, Int.reduceToNat, Int.reduceLE, Int.reduceLT, Int.reduceEq, Int.reduceAdd, Int.reduceSub, Int.reduceMul, List.reduceReplicate] at hc3 <;> (try simp only [EVa, EVb, params, nilOk, bound, awayFrom, evM, fillA, setEls, Opd.ev, Fr.get, prune, Option.map, isB, tB, nB, isG, gT, gF, evRes, mapO, one, Nat.reduceAdd, Nat.reduceLeDiff, Nat.reduceEqDiff, Nat.reduceMul, Nat.reduceSub, Nat.reduceLT, Nat.reduceBEq, reduceCtorEq, ↓reduceIte, Int.reduceToNat, Int.reduceLE, Int.reduceLT, Int.reduceEq, Int.reduceAdd, Int.reduceSub, Int.reduceMul, List.reduceReplicate, m15r0, m15r1, m15r2, m15r3, m15r4, m15r5, m15r6, m15r7, m15, hk, hc1, hc2, hc3]))))))) <;> simp_all
theorem k15 (w h w2 h2 : Int) (p q n1 n2 : Bool) (s1 s2 : Nat) (cs ds : List Sq) (hs1 : s1 = 3 ∨ cs = []) (hs2 : s2 = 3 ∨ ds = []) (hl : cs.length ≤ 1048576) (hl2 : ds.length ≤ 1048576) {d : Option Nat} {os : List MOp} {live : List Nat} {S : List KF} {Q : FQ} {fr : Fr} {A : Heap} : WCR T .ro 15 [.agg [.int .i64 w, .int .i64 h, .lst p s1 n1 (cs.map avS)], .agg [.int .i64 w2, .int .i64 h2, .lst q s2 n2 (ds.map avS)]] d os live S Q fr A ↔ WP T os live S Q (putd d (.bool (decide (w = w2 ∧ h = h2 ∧ cs = ds))) fr) A := (p15 w h w2 h2 p q n1 n2 s1 s2 cs ds hs1 hs2 hl hl2).call (by simp only [mapO, depth_is, bo_agg, bo_int, bo_bool, bo_str, bo_lst, bo_lS, bo_rp, bo_fn])
def mkq (k : Int) (n : Nat) : List Sq := (List.range n).map fun (i : Nat) => (⟨k + 3 * (i : Int), k + 3 * (i : Int) + 1, k + 3 * (i : Int) + 1 + 1⟩ : Sq)
theorem mkq_get {k : Int} {n i : Nat} (h : i < n) : (mkq k n)[i]? = some ⟨k + 3 * i, k + 3 * i + 1, k + 3 * i + 1 + 1⟩ := by simp [mkq, h]
theorem mkq_len (k : Int) (n : Nat) : (mkq k n).length = n := by simp [mkq]
theorem mkq_succ (k : Int) (n : Nat) : mkq k (n + 1) = mkq k n ++ [⟨k + 3 * n, k + 3 * n + 1, k + 3 * n + 1 + 1⟩] := by simp [mkq, List.range_succ]
theorem t38 : T 38 = some (.code m38) := rfl
theorem t16 : T 16 = some (.code m16) := rfl
theorem r38 (A : Heap) (id : Nat) (cs : List Sq) (k : Int) (hk : 0 ≤ k ∧ k ≤ 1000000000) (hl : cs.length ≤ 1048576) (hA : A[id]? = some ⟨80, 3, cs.map avS⟩) :
    Runs T 38 [.sl id 3 cs.length 0 cs.length, .int .i64 k] A (.int .i64 (k + 3 * cs.length)) (A.set id ⟨80, 3, (mkq k cs.length).map avS⟩) := by
  refine Runs.of ?_
  rw [WS_of t38]
  have hid := lt_of_get hA
  have g1 : ∀ els, (A.set id ⟨80, 3, els⟩)[id]? = some ⟨80, 3, els⟩ := fun els => h_set_get hid
  simp only [m38r0, m38r1, m38r2, m38r3, m38r4, m38r5, m38r6, m38r7, m38r8, m38r9, m38r11, m38, EVa, EVb, params, nilOk, bound, awayFrom, evM, fillA, setEls, Opd.ev, Fr.get, prune, Option.map, isB, tB, nB, isG, gT, gF, evRes, mapO, one, Nat.reduceAdd, Nat.reduceLeDiff, Nat.reduceEqDiff, Nat.reduceMul, Nat.reduceSub, Nat.reduceLT, Nat.reduceBEq, reduceCtorEq, ↓reduceIte, Int.reduceToNat, Int.reduceLE, Int.reduceLT, Int.reduceEq, Int.reduceAdd, Int.reduceSub, Int.reduceMul, List.reduceReplicate]
  refine WS_loop' (σ := Nat) (fun s => [(0, .sl id 3 cs.length 0 cs.length), (1, .int .i64 (k + 3 * s)), (5, .int .i64 (s : Int))])
    (fun s => A.set id ⟨80, 3, (mkq k s ++ cs.drop s).map avS⟩) (fun s => cs.length - s) (fun s => s ≤ cs.length) 0 (by simp) ?_ (Nat.zero_le _) ?_
  · obtain ⟨_, hg⟩ := List.getElem?_eq_some_iff.1 hA
    have : mkq k 0 ++ cs.drop 0 = cs := by simp [mkq]
    rw [this, ← hg, List.set_getElem_self]
  rintro i hi
  by_cases hlt : i < cs.length
  · have e4 := wsucc (i := i) (by omega)
    have w1 := wrap_in (k + 3 * i + 1) (by omega) (by omega)
    have w2 := wrap_in (k + 3 * i + 1 + 1) (by omega) (by omega)
    have w3 := wrap_in (k + 3 * i + 1 + 1 + 1) (by omega) (by omega)
    have hd : cs.drop i = cs[i] :: cs.drop (i + 1) := List.drop_eq_getElem_cons hlt
    have hlen : (mkq k i ++ cs.drop i).length = cs.length := by simp [mkq_len]; omega
    have g2 : ((mkq k i ++ cs.drop i).map avS)[i]? = some (.agg [.int .i64 cs[i].x, .int .i64 cs[i].y, .int .i64 cs[i].d]) := by
      rw [List.getElem?_map, List.getElem?_append_right (by rw [mkq_len]; exact Nat.le_refl _), mkq_len, Nat.sub_self, hd]; rfl
    have g3 : ∀ x, (((mkq k i ++ cs.drop i).map avS).set i x)[i]? = some x := fun x => List.getElem?_set_self (by rw [List.length_map, hlen]; omega)
    have g5 : ((mkq k i ++ cs.drop i).map avS).set i (.agg [.int .i64 (k + 3 * i), .int .i64 (k + 3 * i + 1), .int .i64 (k + 3 * i + 1 + 1)]) = (mkq k (i + 1) ++ cs.drop (i + 1)).map avS := by
      rw [List.map_append, List.set_append_right _ _ (by rw [List.length_map, mkq_len]; exact Nat.le_refl _), List.length_map, mkq_len, Nat.sub_self, hd, mkq_succ]
      simp only [List.map_append, List.map_cons, List.set_cons_zero, List.map_nil, List.append_assoc, List.cons_append, List.nil_append, avS]
    generalize (mkq k i ++ cs.drop i).map avS = L at g2 g3 g5 ⊢
    have hL : L.length = cs.length := by
      have := congrArg List.length g5
      rw [List.length_set, List.length_map] at this
      rw [this]; simp [mkq_len]; omega
    simp only [m38l10, m38r0, m38r1, m38r2, m38r3, m38r4, m38r5, m38r6, m38r7, m38r8, m38r9, m38r11, m38, EVa, EVb, params, nilOk, bound, awayFrom, evM, fillA, setEls, Opd.ev, Fr.get, prune, Option.map, isB, tB, nB, isG, gT, gF, evRes, mapO, one, Nat.reduceAdd, Nat.reduceLeDiff, Nat.reduceEqDiff, Nat.reduceMul, Nat.reduceSub, Nat.reduceLT, Nat.reduceBEq, reduceCtorEq, ↓reduceIte, Int.reduceToNat, Int.reduceLE, Int.reduceLT, Int.reduceEq, Int.reduceAdd, Int.reduceSub, Int.reduceMul, List.reduceReplicate, e4, hlt, w1, w2, w3, g1, g2, g3, hL, List.set_set, g5]
    have hend : k + 3 * (i : Int) + 1 + 1 + 1 = k + 3 * ((i + 1 : Nat) : Int) := by omega
    rw [hend]
    exact ⟨i + 1, ⟨rfl, rfl⟩, hlt, by simp only; omega⟩
  · have : i = cs.length := by omega
    subst this
    simp only [m38l10, m38r0, m38r1, m38r2, m38r3, m38r4, m38r5, m38r6, m38r7, m38r8, m38r9, m38r11, m38, EVa, EVb, params, nilOk, bound, awayFrom, evM, fillA, setEls, Opd.ev, Fr.get, prune, Option.map, isB, tB, nB, isG, gT, gF, evRes, mapO, one, Nat.reduceAdd, Nat.reduceLeDiff, Nat.reduceEqDiff, Nat.reduceMul, Nat.reduceSub, Nat.reduceLT, Nat.reduceBEq, reduceCtorEq, ↓reduceIte, Int.reduceToNat, Int.reduceLE, Int.reduceLT, Int.reduceEq, Int.reduceAdd, Int.reduceSub, Int.reduceMul, List.reduceReplicate, hlt]
    rw [List.drop_length, List.append_nil]
theorem r38z (A : Heap) (p nil : Bool) (sz : Nat) (k : Int) : Runs T 38 [.lst p sz nil [], .int .i64 k] A (.int .i64 k) A := by
  refine Runs.of ?_
  rw [WS_of t38]
  simp only [m38r0, m38r1, m38r2, m38r3, m38r4, m38r5, m38r6, m38r7, m38r8, m38r9, m38r11, m38, EVa, EVb, params, nilOk, bound, awayFrom, evM, fillA, setEls, Opd.ev, Fr.get, prune, Option.map, isB, tB, nB, isG, gT, gF, evRes, mapO, one, Nat.reduceAdd, Nat.reduceLeDiff, Nat.reduceEqDiff, Nat.reduceMul, Nat.reduceSub, Nat.reduceLT, Nat.reduceBEq, reduceCtorEq, ↓reduceIte, Int.reduceToNat, Int.reduceLE, Int.reduceLT, Int.reduceEq, Int.reduceAdd, Int.reduceSub, Int.reduceMul, List.reduceReplicate]
  refine WS_loop' (σ := Unit) (fun s => [(0, .lst p sz nil []), (1, .int .i64 k), (5, .int .i64 0)]) (fun s => A) (fun s => 0) (fun s => True) () rfl rfl trivial ?_
  rintro _ _
  simp only [m38l10, m38r0, m38r1, m38r2, m38r3, m38r4, m38r5, m38r6, m38r7, m38r8, m38r9, m38r11, m38, EVa, EVb, params, nilOk, bound, awayFrom, evM, fillA, setEls, Opd.ev, Fr.get, prune, Option.map, isB, tB, nB, isG, gT, gF, evRes, mapO, one, Nat.reduceAdd, Nat.reduceLeDiff, Nat.reduceEqDiff, Nat.reduceMul, Nat.reduceSub, Nat.reduceLT, Nat.reduceBEq, reduceCtorEq, ↓reduceIte, Int.reduceToNat, Int.reduceLE, Int.reduceLT, Int.reduceEq, Int.reduceAdd, Int.reduceSub, Int.reduceMul, List.reduceReplicate]
section
variable {d : Option Nat} {os : List MOp} {live : List Nat} {S : List KF} {Q : FQ} {fr : Fr} {A : Heap}
theorem i38 (id : Nat) (cs : List Sq) (k : Int) (hk : 0 ≤ k ∧ k ≤ 1000000000) (hl : cs.length ≤ 1048576) (hA : A[id]? = some ⟨80, 3, cs.map avS⟩) : WCR T .inl 38 [.sl id 3 cs.length 0 cs.length, .int .i64 k] d os live S Q fr A ↔
    WP T os live S Q (putd d (.int .i64 (k + 3 * cs.length)) fr) (A.set id ⟨80, 3, (mkq k cs.length).map avS⟩) := WCR_inl.trans (r38 A id cs k hk hl hA).iff
theorem i38z (p nil : Bool) (sz : Nat) (k : Int) : WCR T .inl 38 [.lst p sz nil [], .int .i64 k] d os live S Q fr A ↔ WP T os live S Q (putd d (.int .i64 k) fr) A := WCR_inl.trans (r38z A p nil sz k).iff
theorem i16 (w h : Int) (id : Nat) (cs : List Sq) (k : Int) (hk : 0 ≤ k ∧ k ≤ 1000000000) (hl : cs.length ≤ 1048576) (hA : A[id]? = some ⟨80, 3, cs.map avS⟩) : WCR T .inl 16 [.agg [.int .i64 w, .int .i64 h, .sl id 3 cs.length 0 cs.length], .int .i64 k] d os live S Q fr A ↔
    WP T os live S Q (putd d (.int .i64 (k + 3 * cs.length)) fr) (A.set id ⟨80, 3, (mkq k cs.length).map avS⟩) := by
  rw [WCR_inl, WS_of t16]
  have hr := fun {d os live S Q fr} => i38 (d := d) (os := os) (live := live) (S := S) (Q := Q) (fr := fr) (A := A) id cs k hk hl hA
  simp only [m16r0, m16r1, m16r2, m16, EVa, EVb, params, nilOk, bound, awayFrom, evM, fillA, setEls, Opd.ev, Fr.get, prune, Option.map, isB, tB, nB, isG, gT, gF, evRes, mapO, one, Nat.reduceAdd, Nat.reduceLeDiff, Nat.reduceEqDiff, Nat.reduceMul, Nat.reduceSub, Nat.reduceLT, Nat.reduceBEq, reduceCtorEq, ↓reduceIte, Int.reduceToNat, Int.reduceLE, Int.reduceLT, Int.reduceEq, Int.reduceAdd, Int.reduceSub, Int.reduceMul, List.reduceReplicate, hr]
theorem i16z (w h : Int) (p nil : Bool) (sz : Nat) (k : Int) : WCR T .inl 16 [.agg [.int .i64 w, .int .i64 h, .lst p sz nil []], .int .i64 k] d os live S Q fr A ↔ WP T os live S Q (putd d (.int .i64 k) fr) A := by
  rw [WCR_inl, WS_of t16]
  have hr := fun {d os live S Q fr} => i38z (d := d) (os := os) (live := live) (S := S) (Q := Q) (fr := fr) (A := A) p nil sz k
  simp only [m16r0, m16r1, m16r2, m16, EVa, EVb, params, nilOk, bound, awayFrom, evM, fillA, setEls, Opd.ev, Fr.get, prune, Option.map, isB, tB, nB, isG, gT, gF, evRes, mapO, one, Nat.reduceAdd, Nat.reduceLeDiff, Nat.reduceEqDiff, Nat.reduceMul, Nat.reduceSub, Nat.reduceLT, Nat.reduceBEq, reduceCtorEq, ↓reduceIte, Int.reduceToNat, Int.reduceLE, Int.reduceLT, Int.reduceEq, Int.reduceAdd, Int.reduceSub, Int.reduceMul, List.reduceReplicate, hr]
end
theorem t39 : T 39 = some (.code m39) := rfl
theorem p39 (p nil : Bool) (sz n : Nat) (k : Int) (hk : 0 ≤ k ∧ k ≤ 1000000000) (hn : n ≤ 1048576) (hsz : sz = 3 ∨ n = 0) : Pure T 39 [.lst p sz nil ((mkq k n).map avS), .int .i64 k] (.int .i64 (k + 3 * n)) := by
  rw [Pure_of t39]
  simp only [m39r0, m39r1, m39r2, m39r3, m39r4, m39r5, m39r6, m39r7, m39r8, m39r9, m39r10, m39r11, m39r12, m39r14, m39, EVa, EVb, params, nilOk, bound, awayFrom, evM, fillA, setEls, Opd.ev, Fr.get, prune, Option.map, isB, tB, nB, isG, gT, gF, evRes, mapO, one, Nat.reduceAdd, Nat.reduceLeDiff, Nat.reduceEqDiff, Nat.reduceMul, Nat.reduceSub, Nat.reduceLT, Nat.reduceBEq, reduceCtorEq, ↓reduceIte, Int.reduceToNat, Int.reduceLE, Int.reduceLT, Int.reduceEq, Int.reduceAdd, Int.reduceSub, Int.reduceMul, List.reduceReplicate]
  refine WS_loop' (σ := Nat) (fun s => [(0, .lst p sz nil ((mkq k n).map avS)), (1, .int .i64 (k + 3 * s)), (5, .int .i64 (s : Int))])
    (fun s => []) (fun s => n - s) (fun s => s ≤ n) 0 (by simp) rfl (Nat.zero_le _) ?_
  rintro i hi
  by_cases hlt : i < n
  · have hs : sz = 3 := hsz.resolve_right (by omega)
    subst hs
    have e1 : ((mkq k n).map avS)[i]? = some (.agg [.int .i64 (k + 3 * i), .int .i64 (k + 3 * i + 1), .int .i64 (k + 3 * i + 1 + 1)]) := by rw [List.getElem?_map, mkq_get hlt]; rfl
    have e4 := wsucc (i := i) (by omega)
    have w1 := wrap_in (k + 3 * i + 1) (by omega) (by omega)
    have w2 := wrap_in (k + 3 * i + 1 + 1) (by omega) (by omega)
    have w3 := wrap_in (k + 3 * i + 1 + 1 + 1) (by omega) (by omega)
    simp only [m39l13, m39r0, m39r1, m39r2, m39r3, m39r4, m39r5, m39r6, m39r7, m39r8, m39r9, m39r10, m39r11, m39r12, m39r14, m39, EVa, EVb, params, nilOk, bound, awayFrom, evM, fillA, setEls, Opd.ev, Fr.get, prune, Option.map, isB, tB, nB, isG, gT, gF, evRes, mapO, one, Nat.reduceAdd, Nat.reduceLeDiff, Nat.reduceEqDiff, Nat.reduceMul, Nat.reduceSub, Nat.reduceLT, Nat.reduceBEq, reduceCtorEq, ↓reduceIte, Int.reduceToNat, Int.reduceLE, Int.reduceLT, Int.reduceEq, Int.reduceAdd, Int.reduceSub, Int.reduceMul, List.reduceReplicate, e1, e4, hlt, w1, w2, w3, mkq_len]
    have hend : k + 3 * (i : Int) + 1 + 1 + 1 = k + 3 * ((i + 1 : Nat) : Int) := by omega
    rw [hend]
    exact ⟨i + 1, ⟨rfl, rfl⟩, hlt, by simp only; omega⟩
  · have : i = n := by omega
    subst this
    simp only [m39l13, m39r0, m39r1, m39r2, m39r3, m39r4, m39r5, m39r6, m39r7, m39r8, m39r9, m39r10, m39r11, m39r12, m39r14, m39, EVa, EVb, params, nilOk, bound, awayFrom, evM, fillA, setEls, Opd.ev, Fr.get, prune, Option.map, isB, tB, nB, isG, gT, gF, evRes, mapO, one, Nat.reduceAdd, Nat.reduceLeDiff, Nat.reduceEqDiff, Nat.reduceMul, Nat.reduceSub, Nat.reduceLT, Nat.reduceBEq, reduceCtorEq, ↓reduceIte, Int.reduceToNat, Int.reduceLE, Int.reduceLT, Int.reduceEq, Int.reduceAdd, Int.reduceSub, Int.reduceMul, List.reduceReplicate, hlt, mkq_len]
theorem k39 (p nil : Bool) (sz n : Nat) (k : Int) (hk : 0 ≤ k ∧ k ≤ 1000000000) (hn : n ≤ 1048576) (hsz : sz = 3 ∨ n = 0) {d : Option Nat} {os : List MOp} {live : List Nat} {S : List KF} {Q : FQ} {fr : Fr} {A : Heap} : WCR T .ro 39 [.lst p sz nil ((mkq k n).map avS), .int .i64 k] d os live S Q fr A ↔ WP T os live S Q (putd d (.int .i64 (k + 3 * n)) fr) A := (p39 p nil sz n k hk hn hsz).call (by simp only [mapO, depth_is, bo_lS, bo_int])
theorem t17 : T 17 = some (.code m17) := rfl
theorem p17 (w h : Int) (p nil : Bool) (sz n : Nat) (k : Int) (hk : 0 ≤ k ∧ k ≤ 1000000000) (hn : n ≤ 1048576) (hsz : sz = 3 ∨ n = 0) : Pure T 17 [.agg [.int .i64 w, .int .i64 h, .lst p sz nil ((mkq k n).map avS)], .int .i64 k] (.int .i64 (k + 3 * n)) := by
  rw [Pure_of t17]
  have hk2 := fun {d os live S Q fr A} => k39 p nil sz n k hk hn hsz (d := d) (os := os) (live := live) (S := S) (Q := Q) (fr := fr) (A := A)
  have h0 : (k + 3 * (n : Int) < 0) = False := eq_false (by omega)
  simp only [m17r0, m17r1, m17r2, m17r3, m17r4, m17, EVa, EVb, params, nilOk, bound, awayFrom, evM, fillA, setEls, Opd.ev, Fr.get, prune, Option.map, isB, tB, nB, isG, gT, gF, evRes, mapO, one, Nat.reduceAdd, Nat.reduceLeDiff, Nat.reduceEqDiff, Nat.reduceMul, Nat.reduceSub, Nat.reduceLT, Nat.reduceBEq, reduceCtorEq, ↓reduceIte, Int.reduceToNat, Int.reduceLE, Int.reduceLT, Int.reduceEq, Int.reduceAdd, Int.reduceSub, Int.reduceMul, List.reduceReplicate, hk2, h0]
theorem k17 (w h : Int) (p nil : Bool) (sz n : Nat) (k : Int) (hk : 0 ≤ k ∧ k ≤ 1000000000) (hn : n ≤ 1048576) (hsz : sz = 3 ∨ n = 0) {d : Option Nat} {os : List MOp} {live : List Nat} {S : List KF} {Q : FQ} {fr : Fr} {A : Heap} : WCR T .ro 17 [.agg [.int .i64 w, .int .i64 h, .lst p sz nil ((mkq k n).map avS)], .int .i64 k] d os live S Q fr A ↔ WP T os live S Q (putd d (.int .i64 (k + 3 * n)) fr) A := (p17 w h p nil sz n k hk hn hsz).call (by simp only [mapO, depth_is, bo_agg, bo_int, bo_bool, bo_str, bo_lst, bo_lS, bo_rp, bo_fn])
theorem t13 : T 13 = some (.code m13) := rfl
theorem t18 : T 18 = some (.code m18) := rfl
theorem p13n (w h : Int) (p nil : Bool) (cs : List Cu) (hg : goodZ w h cs = false) : Pure T 13 [.agg [.int .i64 w, .int .i64 h, .lst p 3 nil (cs.map avU)]] (.tup [zT, .bool false]) := by
  rw [Pure_of t13]
  simp only [m13r0, m13r1, m13r2, m13r3, m13r4, m13r5, m13r6, m13, EVa, EVb, params, nilOk, bound, awayFrom, evM, fillA, setEls, Opd.ev, Fr.get, prune, Option.map, isB, tB, nB, isG, gT, gF, evRes, mapO, one, Nat.reduceAdd, Nat.reduceLeDiff, Nat.reduceEqDiff, Nat.reduceMul, Nat.reduceSub, Nat.reduceLT, Nat.reduceBEq, reduceCtorEq, ↓reduceIte, Int.reduceToNat, Int.reduceLE, Int.reduceLT, Int.reduceEq, Int.reduceAdd, Int.reduceSub, Int.reduceMul, List.reduceReplicate, k24, hg]
  rfl
theorem k13n (w h : Int) (p nil : Bool) (cs : List Cu) (hg : goodZ w h cs = false) {d : Option Nat} {os : List MOp} {live : List Nat} {S : List KF} {Q : FQ} {fr : Fr} {A : Heap} : WCR T .ro 13 [.agg [.int .i64 w, .int .i64 h, .lst p 3 nil (cs.map avU)]] d os live S Q fr A ↔ WP T os live S Q (putd d (.tup [zT, .bool false]) fr) A := (p13n w h p nil cs hg).call (by simp only [mapO, depth_is, bo_agg, bo_int, bo_lU])
theorem p13y (W Hh : Nat) (l : List (List Sq)) (D : Dat W Hh l) (p nil : Bool) (cs : List Cu) (hg : goodZ W Hh cs = true) : Pure T 13 [.agg [.int .i64 (W : Int), .int .i64 (Hh : Int), .lst p 3 nil (cs.map avU)]] (match solP W Hh l cs with | [] => .tup [zT, .bool false] | sq :: _ => .tup [encT W Hh sq, .bool true]) := by
  rw [Pure_of t13]
  obtain ⟨hh, hl, hc⟩ := goodZ_all hg
  have hk1 := fun {d os live S Q fr A} => k25 W Hh p nil cs l D.ct (d := d) (os := os) (live := live) (S := S) (Q := Q) (fr := fr) (A := A)
  have hk2 := fun {d os live S Q fr A} => kpzAll D hh true false p nil cs hl hc (d := d) (os := os) (live := live) (S := S) (Q := Q) (fr := fr) (A := A)
  generalize solP W Hh l cs = r at hk2 ⊢
  cases r with
  | nil =>
    have hn : pzR W Hh [] = .lst true 0 true [] := rfl
    rw [hn] at hk2
    simp only [m13r0, m13r1, m13r2, m13r3, m13r4, m13r5, m13r6, m13, EVa, EVb, params, nilOk, bound, awayFrom, evM, fillA, setEls, Opd.ev, Fr.get, prune, Option.map, isB, tB, nB, isG, gT, gF, evRes, mapO, one, Nat.reduceAdd, Nat.reduceLeDiff, Nat.reduceEqDiff, Nat.reduceMul, Nat.reduceSub, Nat.reduceLT, Nat.reduceBEq, reduceCtorEq, ↓reduceIte, Int.reduceToNat, Int.reduceLE, Int.reduceLT, Int.reduceEq, Int.reduceAdd, Int.reduceSub, Int.reduceMul, List.reduceReplicate, k24, hg, hk1, hk2]
    rfl
  | cons sq rs =>
    have hn : pzR W Hh (sq :: rs) = .lst true 3 false (.agg [.int .i64 (W : Int), .int .i64 (Hh : Int), .lst true 3 false (sq.map avS)] :: rs.map (encT W Hh)) := rfl
    rw [hn] at hk2
    have h0 : (((rs.length + 1 : Nat) : Int) = 0) = False := eq_false (by omega)
    simp only [m13r0, m13r1, m13r2, m13r3, m13r4, m13r5, m13r6, m13, EVa, EVb, params, nilOk, bound, awayFrom, evM, fillA, setEls, Opd.ev, Fr.get, prune, Option.map, isB, tB, nB, isG, gT, gF, evRes, mapO, one, Nat.reduceAdd, Nat.reduceLeDiff, Nat.reduceEqDiff, Nat.reduceMul, Nat.reduceSub, Nat.reduceLT, Nat.reduceBEq, reduceCtorEq, ↓reduceIte, Int.reduceToNat, Int.reduceLE, Int.reduceLT, Int.reduceEq, Int.reduceAdd, Int.reduceSub, Int.reduceMul, List.reduceReplicate, k24, hg, hk1, hk2, h0]
    rfl
theorem k13y (W Hh : Nat) (l : List (List Sq)) (D : Dat W Hh l) (p nil : Bool) (cs : List Cu) (hg : goodZ W Hh cs = true) {d : Option Nat} {os : List MOp} {live : List Nat} {S : List KF} {Q : FQ} {fr : Fr} {A : Heap} : WCR T .ro 13 [.agg [.int .i64 (W : Int), .int .i64 (Hh : Int), .lst p 3 nil (cs.map avU)]] d os live S Q fr A ↔ WP T os live S Q (putd d (match solP W Hh l cs with | [] => .tup [zT, .bool false] | sq :: _ => .tup [encT W Hh sq, .bool true]) fr) A := (p13y W Hh l D p nil cs hg).call (by simp only [mapO, depth_is, bo_agg, bo_int, bo_lU])
theorem p18n (w h : Int) (p nil : Bool) (cs : List Cu) (hg : goodZ w h cs = false) : Pure T 18 [.agg [.int .i64 w, .int .i64 h, .lst p 3 nil (cs.map avU)]] (.tup [.lst true 0 true [], .bool false]) := by
  rw [Pure_of t18]
  simp only [m18r0, m18r1, m18r2, m18r3, m18, EVa, EVb, params, nilOk, bound, awayFrom, evM, fillA, setEls, Opd.ev, Fr.get, prune, Option.map, isB, tB, nB, isG, gT, gF, evRes, mapO, one, Nat.reduceAdd, Nat.reduceLeDiff, Nat.reduceEqDiff, Nat.reduceMul, Nat.reduceSub, Nat.reduceLT, Nat.reduceBEq, reduceCtorEq, ↓reduceIte, Int.reduceToNat, Int.reduceLE, Int.reduceLT, Int.reduceEq, Int.reduceAdd, Int.reduceSub, Int.reduceMul, List.reduceReplicate, k24, hg]
theorem k18n (w h : Int) (p nil : Bool) (cs : List Cu) (hg : goodZ w h cs = false) {d : Option Nat} {os : List MOp} {live : List Nat} {S : List KF} {Q : FQ} {fr : Fr} {A : Heap} : WCR T .ro 18 [.agg [.int .i64 w, .int .i64 h, .lst p 3 nil (cs.map avU)]] d os live S Q fr A ↔ WP T os live S Q (putd d (.tup [.lst true 0 true [], .bool false]) fr) A := (p18n w h p nil cs hg).call (by simp only [mapO, depth_is, bo_agg, bo_int, bo_lU])
theorem p18y (W Hh : Nat) (l : List (List Sq)) (D : Dat W Hh l) (p nil : Bool) (cs : List Cu) (hg : goodZ W Hh cs = true) : Pure T 18 [.agg [.int .i64 (W : Int), .int .i64 (Hh : Int), .lst p 3 nil (cs.map avU)]] (.tup [pzR W Hh (solP W Hh l cs), .bool true]) := by
  rw [Pure_of t18]
  obtain ⟨hh, hl, hc⟩ := goodZ_all hg
  have hk1 := fun {d os live S Q fr A} => k25 W Hh p nil cs l D.ct (d := d) (os := os) (live := live) (S := S) (Q := Q) (fr := fr) (A := A)
  have hk2 := fun {d os live S Q fr A} => kpzAll D hh true false p nil cs hl hc (d := d) (os := os) (live := live) (S := S) (Q := Q) (fr := fr) (A := A)
  have hg2 : giveBack [] 8 (pzR W Hh (solP W Hh l cs)) = some (pzR W Hh (solP W Hh l cs)) := by unfold pzR; split <;> rfl
  generalize pzR W Hh (solP W Hh l cs) = r at hk2 hg2 ⊢
  simp only [m18r0, m18r1, m18r2, m18r3, m18, EVa, EVb, params, nilOk, bound, awayFrom, evM, fillA, setEls, Opd.ev, Fr.get, prune, Option.map, isB, tB, nB, isG, gT, gF, evRes, mapO, one, Nat.reduceAdd, Nat.reduceLeDiff, Nat.reduceEqDiff, Nat.reduceMul, Nat.reduceSub, Nat.reduceLT, Nat.reduceBEq, reduceCtorEq, ↓reduceIte, Int.reduceToNat, Int.reduceLE, Int.reduceLT, Int.reduceEq, Int.reduceAdd, Int.reduceSub, Int.reduceMul, List.reduceReplicate, k24, hg, hk1, hk2, hg2]
theorem k18y (W Hh : Nat) (l : List (List Sq)) (D : Dat W Hh l) (p nil : Bool) (cs : List Cu) (hg : goodZ W Hh cs = true) {d : Option Nat} {os : List MOp} {live : List Nat} {S : List KF} {Q : FQ} {fr : Fr} {A : Heap} : WCR T .ro 18 [.agg [.int .i64 (W : Int), .int .i64 (Hh : Int), .lst p 3 nil (cs.map avU)]] d os live S Q fr A ↔ WP T os live S Q (putd d (.tup [pzR W Hh (solP W Hh l cs), .bool true]) fr) A := (p18y W Hh l D p nil cs hg).call (by simp only [mapO, depth_is, bo_agg, bo_int, bo_lU])
end Go.Ev.Z
end

section
set_option maxRecDepth 100000
set_option linter.unusedSimpArgs false
set_option linter.unusedVariables false
namespace Go.Ev.Z
open Go Go.Ev
theorem emb_avU (n : Nat) (cs : List Cu) : mapO (embedB n depth) [⟨58, 3, cs.map avU⟩] = some [⟨58, 3, cs.map avU⟩] := by
  simp only [mapO, embedB, depth_is, em_avU]
theorem Cu_ext {a b : Cu} : a = b ↔ a.k = b.k ∧ a.a = b.a ∧ a.b = b.b := by cases a; cases b; simp
theorem t23 : T 23 = some (.code m23) := rfl
theorem p23 (nil : Bool) (sz : Nat) (xs : List AV) (n : Int) (hn : 0 ≤ n ∧ n ≤ 1048576) (hl : xs.length ≤ 9223372036854775807) : Pure T 23 [.lst true sz nil xs, .int .i64 n] (.int .i64 (if n - xs.length < 0 then -1 else n - xs.length)) := by
  rw [Pure_of t23]
  have w1 := wrap_in (n - xs.length) (by omega) (by omega)
  (try simp only [EVa, EVb, params, nilOk, bound, awayFrom, evM, fillA, setEls, Opd.ev, Fr.get, prune, Option.map, isB, tB, nB, isG, gT, gF, evRes, mapO, one, Nat.reduceAdd, Nat.reduceLeDiff, Nat.reduceEqDiff, Nat.reduceMul, Nat.reduceSub, Nat.reduceLT, Nat.reduceBEq, reduceCtorEq, ↓reduceIte, Int.reduceToNat, Int.reduceLE, Int.reduceLT, Int.reduceEq, Int.reduceAdd, Int.reduceSub, Int.reduceMul, List.reduceReplicate, m23r0, m23r1, m23r2, m23r3, m23r4, m23, w1] <;> (try (first | refine WP_split (by simp only [EVa, EVb, params, nilOk, bound, awayFrom, evM, fillA, setEls, Opd.ev, Fr.get, prune, Option.map, isB, tB, nB, isG, gT, gF, evRes, mapO, one, Nat.reduceAdd, Nat.reduceLeDiff, Nat.reduceEqDiff, Nat.reduceMul, Nat.reduceSub, Nat.reduceLT, Nat.reduceBEq, reduceCtorEq, ↓reduceIte, Int.reduceToNat, Int.reduceLE, Int.reduceLT, Int.reduceEq, Int.reduceAdd, Int.reduceSub, Int.reduceMul, List.reduceReplicate]) (fun hc1 => ?_) (fun hc1 => ?_) | refine WS_split (by simp only [EVa, EVb, params, nilOk, bound, awayFrom, evM, fillA, setEls, Opd.ev, Fr.get, prune, Option.map, isB, tB, nB, isG, gT, gF, evRes, mapO, one, Nat.reduceAdd, Nat.reduceLeDiff, Nat.reduceEqDiff, Nat.reduceMul, Nat.reduceSub, Nat.reduceLT, Nat.reduceBEq, reduceCtorEq, ↓reduceIte, Int.reduceToNat, Int.reduceLE, Int.reduceLT, Int.reduceEq, Int.reduceAdd, Int.reduceSub, Int.reduceMul, List.reduceReplicate]) (fun hc1 => ?_) (fun hc1 => ?_)) <;> try simp only [EVa, EVb, params, nilOk, bound, awayFrom, evM, fillA, setEls, Opd.ev, Fr.get, prune, Option.map, isB, tB, nB, isG, gT, gF, evRes, mapO, one, Nat.reduceAdd, Nat.reduceLeDiff, Nat.reduceEqDiff, Nat.reduceMul, Nat.reduceSub, Nat.reduceLT, Nat.reduceBEq, reduceCtorEq, ↓reduceIte, Int.reduceToNat, Int.reduceLE, Int.reduceLT, Int.reduceEq, Int.reduceAdd, Int.reduceSub, Int.reduceMul, List.reduceReplicate] at hc1 <;> (try simp only [EVa, EVb, params, nilOk, bound, awayFrom, evM, fillA, setEls, Opd.ev, Fr.get, prune, Option.map, isB, tB, nB, isG, gT, gF, evRes, mapO, one, Nat.reduceAdd, Nat.reduceLeDiff, Nat.reduceEqDiff, Nat.reduceMul, Nat.reduceSub, Nat.reduceLT, Nat.reduceBEq, reduceCtorEq, ↓reduceIte, Int.reduceToNat, Int.reduceLE, Int.reduceLT, Int.reduceEq, Int.reduceAdd, Int.reduceSub, Int.reduceMul, List.reduceReplicate, m23r0, m23r1, m23r2, m23r3, m23r4, m23, w1, hc1]))) <;> simp_all
theorem k23 (nil : Bool) (sz : Nat) (xs : List AV) (n : Int) (hn : 0 ≤ n ∧ n ≤ 1048576) (hl : xs.length ≤ 9223372036854775807) {d : Option Nat} {os : List MOp} {live : List Nat} {S : List KF} {Q : FQ} {fr : Fr} {A : Heap} : WCR T .ro 23 [.lst true sz nil xs, .int .i64 n] d os live S Q fr A ↔ WP T os live S Q (putd d (.int .i64 (if n - xs.length < 0 then -1 else n - xs.length)) fr) A := (p23 nil sz xs n hn hl).call (by simp only [mapO, depth_is, bo_lst, bo_int])
theorem t6 : T 6 = some (.code m6) := rfl
theorem p6 (w h : Int) (nil : Bool) (sz : Nat) (xs : List AV) (n : Int) (hn : 0 ≤ n ∧ n ≤ 1048576) (hl : xs.length ≤ 9223372036854775807) : Pure T 6 [.agg [.int .i64 w, .int .i64 h, .lst true sz nil xs], .int .i64 n] (.int .i64 (if n - xs.length < 0 then -1 else n - xs.length)) := by
  rw [Pure_of t6]
  have hk := fun {d os live S Q fr A} => Pure.call (args := [.lst true sz nil xs, .int .i64 n]) (d := d) (os := os) (live := live) (S := S) (Q := Q) (fr := fr) (A := A) (p23 nil sz xs n hn hl) (by simp only [mapO, depth_is, bo_lst, bo_int])
  by_cases h0 : n - xs.length < 0
  · have h0' : (if n - (xs.length : Int) < 0 then (-1 : Int) else n - xs.length) = -1 := if_pos h0
    simp only [h0'] at hk ⊢
    simp only [m6r0, m6r1, m6r2, m6r3, m6r4, m6, EVa, EVb, params, nilOk, bound, awayFrom, evM, fillA, setEls, Opd.ev, Fr.get, prune, Option.map, isB, tB, nB, isG, gT, gF, evRes, mapO, one, Nat.reduceAdd, Nat.reduceLeDiff, Nat.reduceEqDiff, Nat.reduceMul, Nat.reduceSub, Nat.reduceLT, Nat.reduceBEq, reduceCtorEq, ↓reduceIte, Int.reduceToNat, Int.reduceLE, Int.reduceLT, Int.reduceEq, Int.reduceAdd, Int.reduceSub, Int.reduceMul, List.reduceReplicate, hk]
  · have h0' : (if n - (xs.length : Int) < 0 then (-1 : Int) else n - xs.length) = n - xs.length := if_neg h0
    simp only [h0'] at hk ⊢
    simp only [m6r0, m6r1, m6r2, m6r3, m6r4, m6, EVa, EVb, params, nilOk, bound, awayFrom, evM, fillA, setEls, Opd.ev, Fr.get, prune, Option.map, isB, tB, nB, isG, gT, gF, evRes, mapO, one, Nat.reduceAdd, Nat.reduceLeDiff, Nat.reduceEqDiff, Nat.reduceMul, Nat.reduceSub, Nat.reduceLT, Nat.reduceBEq, reduceCtorEq, ↓reduceIte, Int.reduceToNat, Int.reduceLE, Int.reduceLT, Int.reduceEq, Int.reduceAdd, Int.reduceSub, Int.reduceMul, List.reduceReplicate, hk, h0]
theorem k6 (w h : Int) (nil : Bool) (sz : Nat) (xs : List AV) (n : Int) (hn : 0 ≤ n ∧ n ≤ 1048576) (hl : xs.length ≤ 9223372036854775807) {d : Option Nat} {os : List MOp} {live : List Nat} {S : List KF} {Q : FQ} {fr : Fr} {A : Heap} : WCR T .ro 6 [.agg [.int .i64 w, .int .i64 h, .lst true sz nil xs], .int .i64 n] d os live S Q fr A ↔ WP T os live S Q (putd d (.int .i64 (if n - xs.length < 0 then -1 else n - xs.length)) fr) A := (p6 w h nil sz xs n hn hl).call (by simp only [mapO, depth_is, bo_agg, bo_int, bo_lst])
theorem t45 : T 45 = some (.code m45) := rfl
theorem p45 (k a b : Int) : Pure T 45 [.agg [.int .i64 k, .int .i64 a, .int .i64 b]] (.agg [.int .i64 k, .int .i64 a, .int .i64 b]) := by
  rw [Pure_of t45]
  simp only [m45r0, m45r1, m45r2, m45r3, m45r4, m45r5, m45, EVa, EVb, params, nilOk, bound, awayFrom, evM, fillA, setEls, Opd.ev, Fr.get, prune, Option.map, isB, tB, nB, isG, gT, gF, evRes, mapO, one, Nat.reduceAdd, Nat.reduceLeDiff, Nat.reduceEqDiff, Nat.reduceMul, Nat.reduceSub, Nat.reduceLT, Nat.reduceBEq, reduceCtorEq, ↓reduceIte, Int.reduceToNat, Int.reduceLE, Int.reduceLT, Int.reduceEq, Int.reduceAdd, Int.reduceSub, Int.reduceMul, List.reduceReplicate]
theorem k45 (k a b : Int) {d : Option Nat} {os : List MOp} {live : List Nat} {S : List KF} {Q : FQ} {fr : Fr} {A : Heap} : WCR T .ro 45 [.agg [.int .i64 k, .int .i64 a, .int .i64 b]] d os live S Q fr A ↔ WP T os live S Q (putd d (.agg [.int .i64 k, .int .i64 a, .int .i64 b]) fr) A := (p45 k a b).call (by simp only [mapO, depth_is, bo_agg, bo_int, bo_bool, bo_str, bo_lst, bo_lS, bo_rp, bo_fn])
theorem t29 : T 29 = some (.code m29) := rfl
theorem t8 : T 8 = some (.code m8) := rfl
theorem t35 : T 35 = some (.code m35) := rfl
theorem t11 : T 11 = some (.code m11) := rfl
theorem r29 (p nil : Bool) (cs : List Cu) (hl : cs.length ≤ 1048576) : Runs T 29 [.lst p 3 nil (cs.map avU)] [] (.sl 0 3 cs.length 0 cs.length) [⟨58, 3, cs.map avU⟩] := by
  refine Runs.of ?_
  rw [WS_of t29]
  have c2 : ((cs.length : Int) * 24 ≤ 140737488355328) = True := eq_true (by omega)
  have c3 : ((cs.length : Int) ≤ 9223372036854775807) = True := eq_true (by omega)
  simp only [m29r0, m29r1, m29r2, m29r3, m29r4, m29r5, m29r7, m29, EVa, EVb, params, nilOk, bound, awayFrom, evM, fillA, setEls, Opd.ev, Fr.get, prune, Option.map, isB, tB, nB, isG, gT, gF, evRes, mapO, one, Nat.reduceAdd, Nat.reduceLeDiff, Nat.reduceEqDiff, Nat.reduceMul, Nat.reduceSub, Nat.reduceLT, Nat.reduceBEq, reduceCtorEq, ↓reduceIte, Int.reduceToNat, Int.reduceLE, Int.reduceLT, Int.reduceEq, Int.reduceAdd, Int.reduceSub, Int.reduceMul, List.reduceReplicate, c2, c3, Int.le_refl]
  refine WS_loop' (σ := Nat × List AV) (fun s => [(0, .lst p 3 nil (cs.map avU)), (3, .sl 0 3 cs.length 0 cs.length), (4, .int .i64 (s.1 : Int))])
    (fun s => [⟨58, 3, s.2⟩]) (fun s => cs.length - s.1) (fun s => s.1 ≤ cs.length ∧ s.2 = (cs.take s.1).map avU ++ List.replicate (cs.length - s.1) (.agg [.int .i64 0, .int .i64 0, .int .i64 0])) (0, _) rfl rfl ⟨Nat.zero_le _, by simp⟩ ?_
  rintro ⟨i, els⟩ ⟨hi, hels⟩
  dsimp only at hi hels
  by_cases hlt : i < cs.length
  · have e1 : (cs.map avU)[i]? = some (avU cs[i]) := map_get hlt
    have e4 := wsucc (i := i) (by omega)
    have hrep : List.replicate (cs.length - i) (AV.agg [.int .i64 0, .int .i64 0, .int .i64 0]) = .agg [.int .i64 0, .int .i64 0, .int .i64 0] :: List.replicate (cs.length - (i + 1)) (.agg [.int .i64 0, .int .i64 0, .int .i64 0]) := by
      rw [show cs.length - i = (cs.length - (i + 1)) + 1 by omega, List.replicate_succ]
    have hlen : els.length = cs.length := by rw [hels]; simp; omega
    have e5 : els[i]? = some (.agg [.int .i64 0, .int .i64 0, .int .i64 0]) := by
      rw [hels, hrep, List.getElem?_append_right (by simp; omega)]
      have : i - ((cs.take i).map avU).length = 0 := by simp; omega
      rw [this]; rfl
    simp only [m29l6, m29r0, m29r1, m29r2, m29r3, m29r4, m29r5, m29r7, m29, EVa, EVb, params, nilOk, bound, awayFrom, evM, fillA, setEls, Opd.ev, Fr.get, prune, Option.map, isB, tB, nB, isG, gT, gF, evRes, mapO, one, Nat.reduceAdd, Nat.reduceLeDiff, Nat.reduceEqDiff, Nat.reduceMul, Nat.reduceSub, Nat.reduceLT, Nat.reduceBEq, reduceCtorEq, ↓reduceIte, Int.reduceToNat, Int.reduceLE, Int.reduceLT, Int.reduceEq, Int.reduceAdd, Int.reduceSub, Int.reduceMul, List.reduceReplicate, e1, e4, hlt, avU, k45, e5, hlen]
    refine ⟨(i + 1, _), ⟨rfl, rfl⟩, ⟨hlt, ?_⟩, by simp only; omega⟩
    simp only
    rw [hels, hrep, List.set_append_right _ _ (by simp; omega)]
    have : i - ((cs.take i).map avU).length = 0 := by simp; omega
    rw [this, List.set_cons_zero, List.take_succ_eq_append_getElem hlt, List.map_append, List.append_assoc]
    rfl
  · have : i = cs.length := by omega
    subst this
    rw [List.take_length, Nat.sub_self] at hels
    simp only [List.replicate_zero, List.append_nil] at hels
    subst hels
    simp only [m29l6, m29r0, m29r1, m29r2, m29r3, m29r4, m29r5, m29r7, m29, EVa, EVb, params, nilOk, bound, awayFrom, evM, fillA, setEls, Opd.ev, Fr.get, prune, Option.map, isB, tB, nB, isG, gT, gF, evRes, mapO, one, Nat.reduceAdd, Nat.reduceLeDiff, Nat.reduceEqDiff, Nat.reduceMul, Nat.reduceSub, Nat.reduceLT, Nat.reduceBEq, reduceCtorEq, ↓reduceIte, Int.reduceToNat, Int.reduceLE, Int.reduceLT, Int.reduceEq, Int.reduceAdd, Int.reduceSub, Int.reduceMul, List.reduceReplicate, hlt]
section
variable {d : Option Nat} {os : List MOp} {live : List Nat} {S : List KF} {Q : FQ} {fr : Fr} {A : Heap}
theorem o29 (p nil : Bool) (cs : List Cu) (hl : cs.length ≤ 1048576) : WCR T .own 29 [.lst p 3 nil (cs.map avU)] d os live S Q fr A ↔ WP T os live S Q (putd d (.sl A.length 3 cs.length 0 cs.length) fr) (A ++ [⟨58, 3, cs.map avU⟩]) := by
  unfold WCR
  rw [WD_own]
  have hb : mapO (borrow A depth) [.lst p 3 nil (cs.map avU)] = some [.lst p 3 nil (cs.map avU)] := by simp only [mapO, depth_is, bo_lU]
  rw [hb]
  simp only
  rw [(r29 p nil cs hl).iff]
  simp only [depth_is, em_sl, Nat.zero_add]
  have := emb_avU A.length cs
  simp only [depth_is] at this
  rw [this]
theorem r8 (w h : Int) (p nil : Bool) (cs : List Cu) (hl : cs.length ≤ 1048576) : Runs T 8 [.agg [.int .i64 w, .int .i64 h, .lst p 3 nil (cs.map avU)]] [] (.agg [.int .i64 w, .int .i64 h, .sl 2 3 cs.length 0 cs.length])
    [⟨28, 3, [.agg [.int .i64 w, .int .i64 h, .sl 2 3 cs.length 0 cs.length]]⟩, ⟨28, 3, [.agg [.int .i64 w, .int .i64 h, .sl 2 3 cs.length 0 cs.length]]⟩, ⟨58, 3, cs.map avU⟩] := by
  refine Runs.of ?_
  rw [WS_of t8]
  have hk := fun {d os live S Q fr A} => o29 p nil cs hl (d := d) (os := os) (live := live) (S := S) (Q := Q) (fr := fr) (A := A)
  simp only [m8r0, m8r1, m8r2, m8r3, m8r4, m8r5, m8, EVa, EVb, params, nilOk, bound, awayFrom, evM, fillA, setEls, Opd.ev, Fr.get, prune, Option.map, isB, tB, nB, isG, gT, gF, evRes, mapO, one, Nat.reduceAdd, Nat.reduceLeDiff, Nat.reduceEqDiff, Nat.reduceMul, Nat.reduceSub, Nat.reduceLT, Nat.reduceBEq, reduceCtorEq, ↓reduceIte, Int.reduceToNat, Int.reduceLE, Int.reduceLT, Int.reduceEq, Int.reduceAdd, Int.reduceSub, Int.reduceMul, List.reduceReplicate, hk]
theorem p8 (w h : Int) (p nil : Bool) (cs : List Cu) (hl : cs.length ≤ 1048576) : Pure T 8 [.agg [.int .i64 w, .int .i64 h, .lst p 3 nil (cs.map avU)]] (.agg [.int .i64 w, .int .i64 h, .lst true 3 false (cs.map avU)]) := by
  refine (r8 w h p nil cs hl).iff.2 ?_
  have hg := fun A => gb_avU A 4 cs
  have ht : (cs.map avU).take cs.length = cs.map avU := List.take_of_length_le (by simp)
  simp only [EVa, EVb, params, nilOk, bound, awayFrom, evM, fillA, setEls, Opd.ev, Fr.get, prune, Option.map, isB, tB, nB, isG, gT, gF, evRes, mapO, one, Nat.reduceAdd, Nat.reduceLeDiff, Nat.reduceEqDiff, Nat.reduceMul, Nat.reduceSub, Nat.reduceLT, Nat.reduceBEq, reduceCtorEq, ↓reduceIte, Int.reduceToNat, Int.reduceLE, Int.reduceLT, Int.reduceEq, Int.reduceAdd, Int.reduceSub, Int.reduceMul, List.reduceReplicate, hg, ht]
theorem o8 (w h : Int) (p nil : Bool) (cs : List Cu) (hl : cs.length ≤ 1048576) : WCR T .own 8 [.agg [.int .i64 w, .int .i64 h, .lst p 3 nil (cs.map avU)]] d os live S Q fr A ↔
    WP T os live S Q (putd d (.agg [.int .i64 w, .int .i64 h, .sl (2 + A.length) 3 cs.length 0 cs.length]) fr) (A ++ [⟨28, 3, [.agg [.int .i64 w, .int .i64 h, .sl (2 + A.length) 3 cs.length 0 cs.length]]⟩, ⟨28, 3, [.agg [.int .i64 w, .int .i64 h, .sl (2 + A.length) 3 cs.length 0 cs.length]]⟩, ⟨58, 3, cs.map avU⟩]) := by
  unfold WCR
  rw [WD_own]
  have hb : mapO (borrow A depth) [.agg [.int .i64 w, .int .i64 h, .lst p 3 nil (cs.map avU)]] = some [.agg [.int .i64 w, .int .i64 h, .lst p 3 nil (cs.map avU)]] := by simp only [mapO, depth_is, bo_agg, bo_int, bo_lU]
  rw [hb]
  simp only
  rw [(r8 w h p nil cs hl).iff]
  have hm := em_avU A.length 6 cs
  simp only [mapO, embedB, depth_is, em_sl, em_agg, em_int, hm]
end
theorem t54 : T 54 = some (.code m54) := rfl
theorem p54 (k a b k2 a2 b2 : Int) : Pure T 54 [.agg [.int .i64 k, .int .i64 a, .int .i64 b], .agg [.int .i64 k2, .int .i64 a2, .int .i64 b2]] (.bool (decide ((⟨k, a, b⟩ : Cu) = ⟨k2, a2, b2⟩))) := by
  rw [Pure_of t54]
  (try simp only [EVa, EVb, params, nilOk, bound, awayFrom, evM, fillA, setEls, Opd.ev, Fr.get, prune, Option.map, isB, tB, nB, isG, gT, gF, evRes, mapO, one, Nat.reduceAdd, Nat.reduceLeDiff, Nat.reduceEqDiff, Nat.reduceMul, Nat.reduceSub, Nat.reduceLT, Nat.reduceBEq, reduceCtorEq, ↓reduceIte, Int.reduceToNat, Int.reduceLE, Int.reduceLT, Int.reduceEq, Int.reduceAdd, Int.reduceSub, Int.reduceMul, List.reduceReplicate, m54r0, m54r1, m54r2, m54r3, m54r4, m54r5, m54r6, m54r7, m54] <;> (try (first | refine WP_split (by simp only [EVa, EVb, params, nilOk, bound, awayFrom, evM, fillA, setEls, Opd.ev, Fr.get, prune, Option.map, isB, tB, nB, isG, gT, gF, evRes, mapO, one, Nat.reduceAdd, Nat.reduceLeDiff, Nat.reduceEqDiff, Nat.reduceMul, Nat.reduceSub, Nat.reduceLT, Nat.reduceBEq, reduceCtorEq, ↓reduceIte, Int.reduceToNat, Int.reduceLE, Int.reduceLT, Int.reduceEq, Int.reduceAdd, Int.reduceSub, Int.reduceMul, List.reduceReplicate]) (fun hc1 => ?_) (fun hc1 => ?_) | refine WS_split (by simp only [EVa, EVb, params, nilOk, bound, awayFrom, evM, fillA, setEls, Opd.ev, Fr.get, prune, Option.map, isB, tB, nB, isG, gT, gF, evRes, mapO, one, Nat.reduceAdd, Nat.reduceLeDiff, Nat.reduceEqDiff, Nat.reduceMul, Nat.reduceSub, Nat.reduceLT, Nat.reduceBEq, reduceCtorEq, ↓reduceIte, Int.reduceToNat, Int.reduceLE, Int.reduceLT, Int.reduceEq, Int.reduceAdd, Int.reduceSub, Int.reduceMul, List.reduceReplicate]) (fun hc1 => ?_) (fun hc1 => ?_)) <;> try simp only [EVa, EVb, params, nilOk, bound, awayFrom, evM, fillA, setEls, Opd.ev, Fr.get, prune, Option.map, isB, tB, nB, isG, gT, gF, evRes, mapO, one, Nat.reduceAdd, Nat.reduceLeDiff, Nat.reduceEqDiff, Nat.reduceMul, Nat.reduceSub, Nat.reduceLT, Nat.reduceBEq, reduceCtorEq, ↓reduceIte, Int.reduceToNat, Int.reduceLE, Int.reduceLT, Int.reduceEq, Int.reduceAdd, Int.reduceSub, Int.reduceMul, List.reduceReplicate] at hc1 <;> (try simp only [EVa, EVb, params, nilOk, bound, awayFrom, evM, fillA, setEls, Opd.ev, Fr.get, prune, Option.map, isB, tB, nB, isG, gT, gF, evRes, mapO, one, Nat.reduceAdd, Nat.reduceLeDiff, Nat.reduceEqDiff, Nat.reduceMul, Nat.reduceSub, Nat.reduceLT, Nat.reduceBEq, reduceCtorEq, ↓reduceIte, Int.reduceToNat, Int.reduceLE, Int.reduceLT, Int.reduceEq, Int.reduceAdd, Int.reduceSub, Int.reduceMul, List.reduceReplicate, m54r0, m54r1, m54r2, m54r3, m54r4, m54r5, m54r6, m54r7, m54, hc1] <;> (try (first | refine WP_split (by simp only [EVa, EVb, params, nilOk, bound, awayFrom, evM, fillA, setEls, Opd.ev, Fr.get, prune, Option.map, isB, tB, nB, isG, gT, gF, evRes, mapO, one, Nat.reduceAdd, Nat.reduceLeDiff, Nat.reduceEqDiff, Nat.reduceMul, Nat.reduceSub, Nat.reduceLT, Nat.reduceBEq, reduceCtorEq, ↓reduceIte, Int.reduceToNat, Int.reduceLE, Int.reduceLT, Int.reduceEq, Int.reduceAdd, Int.reduceSub, Int.reduceMul, List.reduceReplicate]) (fun hc2 => ?_) (fun hc2 => ?_) | refine WS_split (by simp only [EVa, EVb, params, nilOk, bound, awayFrom, evM, fillA, setEls, Opd.ev, Fr.get, prune, Option.map, isB, tB, nB, isG, gT, gF, evRes, mapO, one, Nat.reduceAdd, Nat.reduceLeDiff, Nat.reduceEqDiff, Nat.reduceMul, Nat.reduceSub, Nat.reduceLT, Nat.reduceBEq, reduceCtorEq, ↓reduceIte, Int.reduceToNat, Int.reduceLE, Int.reduceLT, Int.reduceEq, Int.reduceAdd, Int.reduceSub, Int.reduceMul, List.reduceReplicate]) (fun hc2 => ?_) (fun hc2 => ?_)) <;> try simp only [EVa, EVb, params, nilOk, bound, awayFrom, evM, fillA, setEls, Opd.ev, Fr.get, prune, Option.map, isB, tB, nB, isG, gT, gF, evRes, mapO, one, Nat.reduceAdd, Nat.reduceLeDiff, Nat.reduceEqDiff, Nat.reduceMul, Nat.reduceSub, Nat.reduceLT, Nat.reduceBEq, reduceCtorEq, ↓reduceIte, Int.reduceToNat, Int.reduceLE, Int.reduceLT, Int.reduceEq, Int.reduceAdd, Int.reduceSub, Int.reduceMul, List.reduceReplicate] at hc2 <;> (try simp only [EVa, EVb, params, nilOk, bound, awayFrom, evM, fillA, setEls, Opd.ev, Fr.get, prune, Option.map, isB, tB, nB, isG, gT, gF, evRes, mapO, one, Nat.reduceAdd, Nat.reduceLeDiff, Nat.reduceEqDiff, Nat.reduceMul, Nat.reduceSub, Nat.reduceLT, Nat.reduceBEq, reduceCtorEq, ↓reduceIte, Int.reduceToNat, Int.reduceLE, Int.reduceLT, Int.reduceEq, Int.reduceAdd, Int.reduceSub, Int.reduceMul, List.reduceReplicate, m54r0, m54r1, m54r2, m54r3, m54r4, m54r5, m54r6, m54r7, m54, hc1, hc2] <;> (try (first | refine WP_split (by simp only [EVa, EVb, params, nilOk, bound, awayFrom, evM, fillA, setEls, Opd.ev, Fr.get, prune, Option.map, isB, tB, nB, isG, gT, gF, evRes, mapO, one, Nat.reduceAdd, Nat.reduceLeDiff, Nat.reduceEqDiff, Nat.reduceMul, Nat.reduceSub, Nat.reduceLT, Nat.reduceBEq, reduceCtorEq, ↓reduceIte, Int.reduceToNat, Int.reduceLE, Int.reduceLT, Int.reduceEq, Int.reduceAdd, Int.reduceSub, Int.reduceMul, List.reduceReplicate]) (fun hc3 => ?_) (fun hc3 => ?_) | refine WS_split (by simp only [EVa, EVb, params, nilOk, bound, awayFrom, evM, fillA, setEls, Opd.ev, Fr.get, prune, Option.map, isB, tB, nB, isG, gT, gF, evRes, mapO, one, Nat.reduceAdd, Nat.reduceLeDiff, Nat.reduceEqDiff, Nat.reduceMul, Nat.reduceSub, Nat.reduceLT, Nat.reduceBEq, reduceCtorEq, ↓reduceIte, Int.reduceToNat, Int.reduceLE, Int.reduceLT, Int.reduceEq, Int.reduceAdd, Int.reduceSub, Int.reduceMul, List.reduceReplicate]) (fun hc3 => ?_) (fun hc3 => ?_)) <;> try simp only [EVa, EVb, params, nilOk, bound, awayFrom, evM, fillA, setEls, Opd.ev, Fr.get, prune, Option.map, isB, tB, nB, isG, gT, gF, evRes, mapO, one, Nat.reduceAdd, Nat.reduceLeDiff, Nat.reduceEqDiff, Nat.reduceMul, Nat.reduceSub, Nat.reduceLT, Nat.reduceBEq, reduceCtorEq, ↓reduceIte, Int.reduceToNat, Int.reduceLE, Int.reduceLT, Int.reduceEq, Int.reduceAdd, Int.reduceSub, Int.reduceMul, List.reduceReplicate] at hc3 <;> (try simp only [EVa, EVb, params, nilOk, bound, awayFrom, evM, fillA, setEls, Opd.ev, Fr.get, prune, Option.map, isB, tB, nB, isG, gT, gF, evRes, mapO, one, Nat.reduceAdd, Nat.reduceLeDiff, Nat.reduceEqDiff, Nat.reduceMul, Nat.reduceSub, Nat.reduceLT, Nat.reduceBEq, reduceCtorEq, ↓reduceIte, Int.reduceToNat, Int.reduceLE, Int.reduceLT, Int.reduceEq, Int.reduceAdd, Int.reduceSub, Int.reduceMul, List.reduceReplicate, m54r0, m54r1, m54r2, m54r3, m54r4, m54r5, m54r6, m54r7, m54, hc1, hc2, hc3]))))))) <;> simp_all [Cu_ext]
theorem k54 (k a b k2 a2 b2 : Int) {d : Option Nat} {os : List MOp} {live : List Nat} {S : List KF} {Q : FQ} {fr : Fr} {A : Heap} : WCR T .ro 54 [.agg [.int .i64 k, .int .i64 a, .int .i64 b], .agg [.int .i64 k2, .int .i64 a2, .int .i64 b2]] d os live S Q fr A ↔ WP T os live S Q (putd d (.bool (decide ((⟨k, a, b⟩ : Cu) = ⟨k2, a2, b2⟩))) fr) A := (p54 k a b k2 a2 b2).call (by simp only [mapO, depth_is, bo_agg, bo_int, bo_bool, bo_str, bo_lst, bo_lS, bo_rp, bo_fn])
theorem t34 : T 34 = some (.code m34) := rfl
theorem p34 (p q n1 n2 : Bool) (s1 s2 : Nat) (cs ds : List Cu) (h1 : s1 = 3 ∨ cs = []) (h2 : s2 = 3 ∨ ds = []) (hl : cs.length ≤ 1048576) (hl2 : ds.length ≤ 1048576) : Pure T 34 [.lst p s1 n1 (cs.map avU), .lst q s2 n2 (ds.map avU)] (.bool (decide (cs = ds))) := by
  rw [Pure_of t34]
  by_cases hlen : cs.length = ds.length
  · simp only [m34r0, m34r1, m34r2, m34r3, m34r4, m34r5, m34r6, m34r7, m34r9, m34, EVa, EVb, params, nilOk, bound, awayFrom, evM, fillA, setEls, Opd.ev, Fr.get, prune, Option.map, isB, tB, nB, isG, gT, gF, evRes, mapO, one, Nat.reduceAdd, Nat.reduceLeDiff, Nat.reduceEqDiff, Nat.reduceMul, Nat.reduceSub, Nat.reduceLT, Nat.reduceBEq, reduceCtorEq, ↓reduceIte, Int.reduceToNat, Int.reduceLE, Int.reduceLT, Int.reduceEq, Int.reduceAdd, Int.reduceSub, Int.reduceMul, List.reduceReplicate, hlen]
    refine WS_loop' (σ := Nat) (fun s => [(0, .lst p s1 n1 (cs.map avU)), (1, .lst q s2 n2 (ds.map avU)), (5, .int .i64 (s : Int))])
      (fun _ => []) (fun s => cs.length - s) (fun s => s ≤ cs.length ∧ decide (cs.drop s = ds.drop s) = decide (cs = ds)) 0 rfl rfl ⟨Nat.zero_le _, by simp⟩ ?_
    rintro i ⟨hi, hd⟩
    by_cases hlt : i < cs.length
    · have hlt2 : i < ds.length := by omega
      have hs1 : s1 = 3 := h1.resolve_right (by intro h; subst h; simp at hlt)
      have hs2 : s2 = 3 := h2.resolve_right (by intro h; subst h; simp at hlt2)
      subst hs1 hs2
      have e1 : (cs.map avU)[i]? = some (avU cs[i]) := map_get hlt
      have e2 : (ds.map avU)[i]? = some (avU ds[i]) := map_get hlt2
      have e4 := wsucc (i := i) (by omega)
      rw [List.drop_eq_getElem_cons hlt, List.drop_eq_getElem_cons hlt2] at hd
      by_cases hc : cs[i] = ds[i]
      · have hc' : ((⟨cs[i].k, cs[i].a, cs[i].b⟩ : Cu) = ⟨ds[i].k, ds[i].a, ds[i].b⟩) = True := eq_true hc
        simp only [m34l8, m34r0, m34r1, m34r2, m34r3, m34r4, m34r5, m34r6, m34r7, m34r9, m34, EVa, EVb, params, nilOk, bound, awayFrom, evM, fillA, setEls, Opd.ev, Fr.get, prune, Option.map, isB, tB, nB, isG, gT, gF, evRes, mapO, one, Nat.reduceAdd, Nat.reduceLeDiff, Nat.reduceEqDiff, Nat.reduceMul, Nat.reduceSub, Nat.reduceLT, Nat.reduceBEq, reduceCtorEq, ↓reduceIte, Int.reduceToNat, Int.reduceLE, Int.reduceLT, Int.reduceEq, Int.reduceAdd, Int.reduceSub, Int.reduceMul, List.reduceReplicate, e1, e2, e4, hlt, avU, k54, hc']
        refine ⟨_, ⟨rfl, rfl⟩, ⟨hlt, ?_⟩, by simp only; omega⟩
        rw [← hd]; simp only [List.cons.injEq, hc, true_and]
      · have hc' : ((⟨cs[i].k, cs[i].a, cs[i].b⟩ : Cu) = ⟨ds[i].k, ds[i].a, ds[i].b⟩) = False := eq_false hc
        simp only [m34l8, m34r0, m34r1, m34r2, m34r3, m34r4, m34r5, m34r6, m34r7, m34r9, m34, EVa, EVb, params, nilOk, bound, awayFrom, evM, fillA, setEls, Opd.ev, Fr.get, prune, Option.map, isB, tB, nB, isG, gT, gF, evRes, mapO, one, Nat.reduceAdd, Nat.reduceLeDiff, Nat.reduceEqDiff, Nat.reduceMul, Nat.reduceSub, Nat.reduceLT, Nat.reduceBEq, reduceCtorEq, ↓reduceIte, Int.reduceToNat, Int.reduceLE, Int.reduceLT, Int.reduceEq, Int.reduceAdd, Int.reduceSub, Int.reduceMul, List.reduceReplicate, e1, e2, e4, hlt, avU, k54, hc']
        rw [← hd]; simp only [List.cons.injEq, hc, false_and, decide_false]
    · have : i = cs.length := by omega
      subst this
      rw [List.drop_length, List.drop_eq_nil_of_le (by omega)] at hd
      have hd' : decide (cs = ds) = true := by rw [← hd]; rfl
      simp only [m34l8, m34r0, m34r1, m34r2, m34r3, m34r4, m34r5, m34r6, m34r7, m34r9, m34, EVa, EVb, params, nilOk, bound, awayFrom, evM, fillA, setEls, Opd.ev, Fr.get, prune, Option.map, isB, tB, nB, isG, gT, gF, evRes, mapO, one, Nat.reduceAdd, Nat.reduceLeDiff, Nat.reduceEqDiff, Nat.reduceMul, Nat.reduceSub, Nat.reduceLT, Nat.reduceBEq, reduceCtorEq, ↓reduceIte, Int.reduceToNat, Int.reduceLE, Int.reduceLT, Int.reduceEq, Int.reduceAdd, Int.reduceSub, Int.reduceMul, List.reduceReplicate, hlt, hd']
  · have hne : decide (cs = ds) = false := decide_eq_false fun h => hlen (by rw [h])
    have hlen' : ((cs.length : Int) = (ds.length : Int)) = False := eq_false (by omega)
    simp only [m34r0, m34r1, m34r2, m34r3, m34r4, m34r5, m34r6, m34r7, m34r9, m34, EVa, EVb, params, nilOk, bound, awayFrom, evM, fillA, setEls, Opd.ev, Fr.get, prune, Option.map, isB, tB, nB, isG, gT, gF, evRes, mapO, one, Nat.reduceAdd, Nat.reduceLeDiff, Nat.reduceEqDiff, Nat.reduceMul, Nat.reduceSub, Nat.reduceLT, Nat.reduceBEq, reduceCtorEq, ↓reduceIte, Int.reduceToNat, Int.reduceLE, Int.reduceLT, Int.reduceEq, Int.reduceAdd, Int.reduceSub, Int.reduceMul, List.reduceReplicate, hlen', hne]
theorem k34 (p q n1 n2 : Bool) (s1 s2 : Nat) (cs ds : List Cu) (h1 : s1 = 3 ∨ cs = []) (h2 : s2 = 3 ∨ ds = []) (hl : cs.length ≤ 1048576) (hl2 : ds.length ≤ 1048576) {d : Option Nat} {os : List MOp} {live : List Nat} {S : List KF} {Q : FQ} {fr : Fr} {A : Heap} : WCR T .ro 34 [.lst p s1 n1 (cs.map avU), .lst q s2 n2 (ds.map avU)] d os live S Q fr A ↔ WP T os live S Q (putd d (.bool (decide (cs = ds))) fr) A := (p34 p q n1 n2 s1 s2 cs ds h1 h2 hl hl2).call (by simp only [mapO, depth_is, bo_lU])
theorem t10 : T 10 = some (.code m10) := rfl
theorem p10 (w h w2 h2 : Int) (p q n1 n2 : Bool) (s1 s2 : Nat) (cs ds : List Cu) (hs1 : s1 = 3 ∨ cs = []) (hs2 : s2 = 3 ∨ ds = []) (hl : cs.length ≤ 1048576) (hl2 : ds.length ≤ 1048576) : Pure T 10 [.agg [.int .i64 w, .int .i64 h, .lst p s1 n1 (cs.map avU)], .agg [.int .i64 w2, .int .i64 h2, .lst q s2 n2 (ds.map avU)]] (.bool (decide (w = w2 ∧ h = h2 ∧ cs = ds))) := by
  rw [Pure_of t10]
  have hk := fun {d os live S Q fr A} => k34 p q n1 n2 s1 s2 cs ds hs1 hs2 hl hl2 (d := d) (os := os) (live := live) (S := S) (Q := Q) (fr := fr) (A := A)
  (try simp only [EVa, EVb, params, nilOk, bound, awayFrom, evM, fillA, setEls, Opd.ev, Fr.get, prune, Option.map, isB, tB, nB, isG, gT, gF, evRes, mapO, one, Nat.reduceAdd, Nat.reduceLeDiff, Nat.reduceEqDiff, Nat.reduceMul, Nat.reduceSub, Nat.reduceLT, Nat.reduceBEq, reduceCtorEq, ↓reduceIte, Int.reduceToNat, Int.reduceLE, Int.reduceLT, Int.reduceEq, Int.reduceAdd, Int.reduceSub, Int.reduceMul, List.reduceReplicate, m10r0, m10r1, m10r2, m10r3, m10r4, m10r5, m10r6, m10r7, m10, hk] <;> (try (first | refine WP_split (by simp only [EVa, EVb, params, nilOk, bound, awayFrom, evM, fillA, setEls, Opd.ev, Fr.get, prune, Option.map, isB, tB, nB, isG, gT, gF, evRes, mapO, one, Nat.reduceAdd, Nat.reduceLeDiff, Nat.reduceEqDiff, Nat.reduceMul, Nat.reduceSub, Nat.reduceLT, Nat.reduceBEq, reduceCtorEq, ↓reduceIte, Int.reduceToNat, Int.reduceLE, Int.reduceLT, Int.reduceEq, Int.reduceAdd, Int.reduceSub, Int.reduceMul, List.reduceReplicate]) (fun hc1 => ?_) (fun hc1 => ?_) | refine WS_split (by simp only [EVa, EVb, params, nilOk, bound, awayFrom, evM, fillA, setEls, Opd.ev, Fr.get, prune, Option.map, isB, tB, nB, isG, gT, gF, evRes, mapO, one, Nat.reduceAdd, Nat.reduceLeDiff, Nat.reduceEqDiff, Nat.reduceMul, Nat.reduceSub, Nat.reduceLT, Nat.reduceBEq, reduceCtorEq, ↓reduceIte, Int.reduceToNat, Int.reduceLE, Int.reduceLT, Int.reduceEq, Int.reduceAdd, Int.reduceSub, Int.reduceMul, List.reduceReplicate]) (fun hc1 => ?_) (fun hc1 => ?_)) <;> try simp only [EVa, EVb, params, nilOk, bound, awayFrom, evM, fillA, setEls, Opd.ev, Fr.get, prune, Option.map, isB, tB, nB, isG, gT, gF, evRes, mapO, one, Nat.reduceAdd, Nat.reduceLeDiff, Nat.reduceEqDiff, Nat.reduceMul, Nat.reduceSub, Nat.reduceLT, Nat.reduceBEq, reduceCtorEq, ↓reduceIte, Int.reduceToNat, Int.reduceLE, Int.reduceLT, Int.reduceEq, Int.reduceAdd, Int.reduceSub, Int.reduceMul, List.reduceReplicate] at hc1 <;> (try simp only [EVa, EVb, params, nilOk, bound, awayFrom, evM, fillA, setEls, Opd.ev, Fr.get, prune, Option.map, isB, tB, nB, isG, gT, gF, evRes, mapO, one, Nat.reduceAdd, Nat.reduceLeDiff, Nat.reduceEqDiff, Nat.reduceMul, Nat.reduceSub, Nat.reduceLT, Nat.reduceBEq, reduceCtorEq, ↓reduceIte, Int.reduceToNat, Int.reduceLE, Int.reduceLT, Int.reduceEq, Int.reduceAdd, Int.reduceSub, Int.reduceMul, List.reduceReplicate, m10r0, m10r1, m10r2, m10r3, m10r4, m10r5, m10r6, m10r7, m10, hk, hc1] <;> (try (first | refine WP_split (by simp only [EVa, EVb, params, nilOk, bound, awayFrom, evM, fillA, setEls, Opd.ev, Fr.get, prune, Option.map, isB, tB, nB, isG, gT, gF, evRes, mapO, one, Nat.reduceAdd, Nat.reduceLeDiff, Nat.reduceEqDiff, Nat.reduceMul, Nat.reduceSub, Nat.reduceLT, Nat.reduceBEq, reduceCtorEq, ↓reduceIte, Int.reduceToNat, Int.reduceLE, Int.reduceLT, Int.reduceEq, Int.reduceAdd, Int.reduceSub, Int.reduceMul, List.reduceReplicate]) (fun hc2 => ?_) (fun hc2 => ?_) | refine WS_split (by simp only [EVa, EVb, params, nilOk, bound, awayFrom, evM, fillA, setEls, Opd.ev, Fr.get, prune, Option.map, isB, tB, nB, isG, gT, gF, evRes, mapO, one, Nat.reduceAdd, Nat.reduceLeDiff, Nat.reduceEqDiff, Nat.reduceMul, Nat.reduceSub, Nat.reduceLT, Nat.reduceBEq, reduceCtorEq, ↓reduceIte, Int.reduceToNat, Int.reduceLE, Int.reduceLT, Int.reduceEq, Int.reduceAdd, Int.reduceSub, Int.reduceMul, List.reduceReplicate]) (fun hc2 => ?_) (fun hc2 => ?_)) <;> try simp only [EVa, EVb, params, nilOk, bound, awayFrom, evM, fillA, setEls, Opd.ev, Fr.get, prune, Option.map, isB, tB, nB, isG, gT, gF, evRes, mapO, one, Nat.reduceAdd, Nat.reduceLeDiff, Nat.reduceEqDiff, Nat.reduceMul, Nat.reduceSub, Nat.reduceLT, Nat.reduceBEq, reduceCtorEq, ↓reduceIte, Int.reduceToNat, Int.reduceLE, Int.reduceLT, Int.reduceEq, Int.reduceAdd, Int.reduceSub, Int.reduceMul, List.reduceReplicate] at hc2 <;> (try simp only [EVa, EVb, params, nilOk, bound, awayFrom, evM, fillA, setEls, Opd.ev, Fr.get, prune, Option.map, isB, tB, nB, isG, gT, gF, evRes, mapO, one, Nat.reduceAdd, Nat.reduceLeDiff, Nat.reduceEqDiff, Nat.reduceMul, Nat.reduceSub, Nat.reduceLT, Nat.reduceBEq, reduceCtorEq, ↓reduceIte, Int.reduceToNat, Int.reduceLE, Int.reduceLT, Int.reduceEq, Int.reduceAdd, Int.reduceSub, Int.reduceMul, List.reduceReplicate, m10r0, m10r1, m10r2, m10r3, m10r4, m10r5, m10r6, m10r7, m10, hk, hc1, hc2] <;> (try (first | refine WP_split (by simp only [EVa, EVb, params, nilOk, bound, awayFrom, evM, fillA, setEls, Opd.ev, Fr.get, prune, Option.map, isB, tB, nB, isG, gT, gF, evRes, mapO, one, Nat.reduceAdd, Nat.reduceLeDiff, Nat.reduceEqDiff, Nat.reduceMul, Nat.reduceSub, Nat.reduceLT, Nat.reduceBEq, reduceCtorEq, ↓reduceIte, Int.reduceToNat, Int.reduceLE, Int.reduceLT, Int.reduceEq, Int.reduceAdd, Int.reduceSub, Int.reduceMul, List.reduceReplicate]) (fun hc3 => ?_) (fun hc3 => ?_) | refine WS_split (by simp only [EVa, EVb, params, nilOk, bound, awayFrom, evM, fillA, setEls, Opd.ev, Fr.get, prune, Option.map, isB, tB, nB, isG, gT, gF, evRes, mapO, one, Nat.reduceAdd, Nat.reduceLeDiff, Nat.reduceEqDiff, Nat.reduceMul, Nat.reduceSub, Nat.reduceLT, Nat.reduceBEq, reduceCtorEq, ↓reduceIte, Int.reduceToNat, Int.reduceLE, Int.reduceLT, Int.reduceEq, Int.reduceAdd, Int.reduceSub, Int.reduceMul, List.reduceReplicate]) (fun hc3 => ?_) (fun hc3 => ?_)) <;> try simp only [EVa, EVb, params, nilOk, bound, awayFrom, evM, fillA, setEls, Opd.ev, Fr.get, prune, Option.map, isB, tB, nB, isG, gT, gF, evRes, mapO, one, Nat.reduceAdd, Nat.reduceLeDiff, Nat.reduceEqDiff, Nat.reduceMul, Nat.reduceSub, Nat.reduceLT, Nat.reduceBEq, reduceCtorEq, ↓reduceIte, Int.reduceToNat, Int.reduceLE, Int.reduceLT, Int.reduceEq, Int.reduceAdd, Int.reduceSub, Int.reduceMul, List.reduceReplicate] at hc3 <;> (try simp only [EVa, EVb, params, nilOk, bound, awayFrom, evM, fillA, setEls, Opd.ev, Fr.get, prune, Option.map, isB, tB, nB, isG, gT, gF, evRes, mapO, one, Nat.reduceAdd, Nat.reduceLeDiff, Nat.reduceEqDiff, Nat.reduceMul, Nat.reduceSub, Nat.reduceLT, Nat.reduceBEq, reduceCtorEq, ↓reduceIte, Int.reduceToNat, Int.reduceLE, Int.reduceLT, Int.reduceEq, Int.reduceAdd, Int.reduceSub, Int.reduceMul, List.reduceReplicate, m10r0, m10r1, m10r2, m10r3, m10r4, m10r5, m10r6, m10r7, m10, hk, hc1, hc2, hc3]))))))) <;> simp_all
theorem k10 (w h w2 h2 : Int) (p q n1 n2 : Bool) (s1 s2 : Nat) (cs ds : List Cu) (hs1 : s1 = 3 ∨ cs = []) (hs2 : s2 = 3 ∨ ds = []) (hl : cs.length ≤ 1048576) (hl2 : ds.length ≤ 1048576) {d : Option Nat} {os : List MOp} {live : List Nat} {S : List KF} {Q : FQ} {fr : Fr} {A : Heap} : WCR T .ro 10 [.agg [.int .i64 w, .int .i64 h, .lst p s1 n1 (cs.map avU)], .agg [.int .i64 w2, .int .i64 h2, .lst q s2 n2 (ds.map avU)]] d os live S Q fr A ↔ WP T os live S Q (putd d (.bool (decide (w = w2 ∧ h = h2 ∧ cs = ds))) fr) A := (p10 w h w2 h2 p q n1 n2 s1 s2 cs ds hs1 hs2 hl hl2).call (by simp only [mapO, depth_is, bo_agg, bo_int, bo_lU])
def mks (k : Int) (n : Nat) : List Cu := (List.range n).map fun (i : Nat) => (⟨k + 3 * (i : Int), k + 3 * (i : Int) + 1, k + 3 * (i : Int) + 1 + 1⟩ : Cu)
theorem mks_get {k : Int} {n i : Nat} (h : i < n) : (mks k n)[i]? = some ⟨k + 3 * i, k + 3 * i + 1, k + 3 * i + 1 + 1⟩ := by simp [mks, h]
theorem mks_len (k : Int) (n : Nat) : (mks k n).length = n := by simp [mks]
theorem mks_succ (k : Int) (n : Nat) : mks k (n + 1) = mks k n ++ [⟨k + 3 * n, k + 3 * n + 1, k + 3 * n + 1 + 1⟩] := by simp [mks, List.range_succ]
theorem r35 (A : Heap) (id : Nat) (cs ex : List Cu) (k : Int) (hk : 0 ≤ k ∧ k ≤ 1000) (hl : cs.length ≤ 1048576) (hA : A[id]? = some ⟨58, 3, (cs ++ ex).map avU⟩) :
    Runs T 35 [.sl id 3 (cs ++ ex).length 0 cs.length, .int .i64 k] A (.int .i64 (k + 3 * cs.length)) (A.set id ⟨58, 3, (mks k cs.length ++ ex).map avU⟩) := by
  refine Runs.of ?_
  rw [WS_of t35]
  have hid := lt_of_get hA
  have g1 : ∀ els, (A.set id ⟨58, 3, els⟩)[id]? = some ⟨58, 3, els⟩ := fun els => h_set_get hid
  generalize hN : (cs ++ ex).length = N
  have hN' : cs.length + ex.length = N := by rw [← hN, List.length_append]
  simp only [m35r0, m35r1, m35r2, m35r3, m35r4, m35r5, m35r6, m35r7, m35r8, m35r9, m35r11, m35, EVa, EVb, params, nilOk, bound, awayFrom, evM, fillA, setEls, Opd.ev, Fr.get, prune, Option.map, isB, tB, nB, isG, gT, gF, evRes, mapO, one, Nat.reduceAdd, Nat.reduceLeDiff, Nat.reduceEqDiff, Nat.reduceMul, Nat.reduceSub, Nat.reduceLT, Nat.reduceBEq, reduceCtorEq, ↓reduceIte, Int.reduceToNat, Int.reduceLE, Int.reduceLT, Int.reduceEq, Int.reduceAdd, Int.reduceSub, Int.reduceMul, List.reduceReplicate]
  refine WS_loop' (σ := Nat) (fun s => [(0, .sl id 3 N 0 cs.length), (1, .int .i64 (k + 3 * s)), (5, .int .i64 (s : Int))])
    (fun s => A.set id ⟨58, 3, (mks k s ++ (cs.drop s ++ ex)).map avU⟩) (fun s => cs.length - s) (fun s => s ≤ cs.length) 0 (by simp) ?_ (Nat.zero_le _) ?_
  · obtain ⟨_, hg⟩ := List.getElem?_eq_some_iff.1 hA
    have : mks k 0 ++ (cs.drop 0 ++ ex) = cs ++ ex := by simp [mks]
    rw [this, ← hg, List.set_getElem_self]
  rintro i hi
  by_cases hlt : i < cs.length
  · have e4 := wsucc (i := i) (by omega)
    have w1 := wrap_in (k + 3 * i + 1) (by omega) (by omega)
    have w2 := wrap_in (k + 3 * i + 1 + 1) (by omega) (by omega)
    have w3 := wrap_in (k + 3 * i + 1 + 1 + 1) (by omega) (by omega)
    have hd : cs.drop i = cs[i] :: cs.drop (i + 1) := List.drop_eq_getElem_cons hlt
    have hlen : (mks k i ++ (cs.drop i ++ ex)).length = N := by simp [mks_len]; omega
    have g2 : ((mks k i ++ (cs.drop i ++ ex)).map avU)[i]? = some (.agg [.int .i64 cs[i].k, .int .i64 cs[i].a, .int .i64 cs[i].b]) := by
      rw [List.getElem?_map, List.getElem?_append_right (by rw [mks_len]; exact Nat.le_refl _), mks_len, Nat.sub_self, hd]; rfl
    have g3 : ∀ x, (((mks k i ++ (cs.drop i ++ ex)).map avU).set i x)[i]? = some x := fun x => List.getElem?_set_self (by rw [List.length_map, hlen]; omega)
    have g5 : ((mks k i ++ (cs.drop i ++ ex)).map avU).set i (.agg [.int .i64 (k + 3 * i), .int .i64 (k + 3 * i + 1), .int .i64 (k + 3 * i + 1 + 1)]) = (mks k (i + 1) ++ (cs.drop (i + 1) ++ ex)).map avU := by
      rw [List.map_append, List.set_append_right _ _ (by rw [List.length_map, mks_len]; exact Nat.le_refl _), List.length_map, mks_len, Nat.sub_self, hd, mks_succ]
      simp only [List.map_append, List.map_cons, List.cons_append, List.set_cons_zero, List.map_nil, List.append_assoc, List.nil_append, avU]
    generalize (mks k i ++ (cs.drop i ++ ex)).map avU = L at g2 g3 g5 ⊢
    have hL : L.length = N := by
      have := congrArg List.length g5
      rw [List.length_set, List.length_map] at this
      rw [this]; simp [mks_len]; omega
    simp only [m35l10, m35r0, m35r1, m35r2, m35r3, m35r4, m35r5, m35r6, m35r7, m35r8, m35r9, m35r11, m35, EVa, EVb, params, nilOk, bound, awayFrom, evM, fillA, setEls, Opd.ev, Fr.get, prune, Option.map, isB, tB, nB, isG, gT, gF, evRes, mapO, one, Nat.reduceAdd, Nat.reduceLeDiff, Nat.reduceEqDiff, Nat.reduceMul, Nat.reduceSub, Nat.reduceLT, Nat.reduceBEq, reduceCtorEq, ↓reduceIte, Int.reduceToNat, Int.reduceLE, Int.reduceLT, Int.reduceEq, Int.reduceAdd, Int.reduceSub, Int.reduceMul, List.reduceReplicate, e4, hlt, w1, w2, w3, g1, g2, g3, hL, List.set_set, g5]
    have hend : k + 3 * (i : Int) + 1 + 1 + 1 = k + 3 * ((i + 1 : Nat) : Int) := by omega
    rw [hend]
    exact ⟨i + 1, ⟨rfl, rfl⟩, hlt, by simp only; omega⟩
  · have : i = cs.length := by omega
    subst this
    simp only [m35l10, m35r0, m35r1, m35r2, m35r3, m35r4, m35r5, m35r6, m35r7, m35r8, m35r9, m35r11, m35, EVa, EVb, params, nilOk, bound, awayFrom, evM, fillA, setEls, Opd.ev, Fr.get, prune, Option.map, isB, tB, nB, isG, gT, gF, evRes, mapO, one, Nat.reduceAdd, Nat.reduceLeDiff, Nat.reduceEqDiff, Nat.reduceMul, Nat.reduceSub, Nat.reduceLT, Nat.reduceBEq, reduceCtorEq, ↓reduceIte, Int.reduceToNat, Int.reduceLE, Int.reduceLT, Int.reduceEq, Int.reduceAdd, Int.reduceSub, Int.reduceMul, List.reduceReplicate, hlt]
    rw [List.drop_length, List.nil_append]
theorem r35z (A : Heap) (p nil : Bool) (sz : Nat) (k : Int) : Runs T 35 [.lst p sz nil [], .int .i64 k] A (.int .i64 k) A := by
  refine Runs.of ?_
  rw [WS_of t35]
  simp only [m35r0, m35r1, m35r2, m35r3, m35r4, m35r5, m35r6, m35r7, m35r8, m35r9, m35r11, m35, EVa, EVb, params, nilOk, bound, awayFrom, evM, fillA, setEls, Opd.ev, Fr.get, prune, Option.map, isB, tB, nB, isG, gT, gF, evRes, mapO, one, Nat.reduceAdd, Nat.reduceLeDiff, Nat.reduceEqDiff, Nat.reduceMul, Nat.reduceSub, Nat.reduceLT, Nat.reduceBEq, reduceCtorEq, ↓reduceIte, Int.reduceToNat, Int.reduceLE, Int.reduceLT, Int.reduceEq, Int.reduceAdd, Int.reduceSub, Int.reduceMul, List.reduceReplicate]
  refine WS_loop' (σ := Unit) (fun s => [(0, .lst p sz nil []), (1, .int .i64 k), (5, .int .i64 0)]) (fun s => A) (fun s => 0) (fun s => True) () rfl rfl trivial ?_
  rintro _ _
  simp only [m35l10, m35r0, m35r1, m35r2, m35r3, m35r4, m35r5, m35r6, m35r7, m35r8, m35r9, m35r11, m35, EVa, EVb, params, nilOk, bound, awayFrom, evM, fillA, setEls, Opd.ev, Fr.get, prune, Option.map, isB, tB, nB, isG, gT, gF, evRes, mapO, one, Nat.reduceAdd, Nat.reduceLeDiff, Nat.reduceEqDiff, Nat.reduceMul, Nat.reduceSub, Nat.reduceLT, Nat.reduceBEq, reduceCtorEq, ↓reduceIte, Int.reduceToNat, Int.reduceLE, Int.reduceLT, Int.reduceEq, Int.reduceAdd, Int.reduceSub, Int.reduceMul, List.reduceReplicate]
theorem r11 (A : Heap) (w h : Int) (id : Nat) (cs ex : List Cu) (k : Int) (hk : 0 ≤ k ∧ k ≤ 1000) (hl : cs.length ≤ 1048576) (hA : A[id]? = some ⟨58, 3, (cs ++ ex).map avU⟩) :
    Runs T 11 [.agg [.int .i64 w, .int .i64 h, .sl id 3 (cs ++ ex).length 0 cs.length], .int .i64 k] A (.int .i64 (k + 3 * cs.length)) (A.set id ⟨58, 3, (mks k cs.length ++ ex).map avU⟩) := by
  refine Runs.of ?_
  rw [WS_of t11]
  have hr := fun {d os live S Q fr} => (WCR_inl (T := T) (f := 35) (args := [.sl id 3 (cs ++ ex).length 0 cs.length, .int .i64 k]) (d := d) (os := os) (live := live) (S := S) (Q := Q) (fr := fr) (A := A)).trans (r35 A id cs ex k hk hl hA).iff
  generalize (cs ++ ex).length = N at hr ⊢
  simp only [m11r0, m11r1, m11r2, m11, EVa, EVb, params, nilOk, bound, awayFrom, evM, fillA, setEls, Opd.ev, Fr.get, prune, Option.map, isB, tB, nB, isG, gT, gF, evRes, mapO, one, Nat.reduceAdd, Nat.reduceLeDiff, Nat.reduceEqDiff, Nat.reduceMul, Nat.reduceSub, Nat.reduceLT, Nat.reduceBEq, reduceCtorEq, ↓reduceIte, Int.reduceToNat, Int.reduceLE, Int.reduceLT, Int.reduceEq, Int.reduceAdd, Int.reduceSub, Int.reduceMul, List.reduceReplicate, hr]
theorem r11z (A : Heap) (w h : Int) (p nil : Bool) (sz : Nat) (k : Int) :
    Runs T 11 [.agg [.int .i64 w, .int .i64 h, .lst p sz nil []], .int .i64 k] A (.int .i64 k) A := by
  refine Runs.of ?_
  rw [WS_of t11]
  have hr := fun {d os live S Q fr} => (WCR_inl (T := T) (f := 35) (args := [.lst p sz nil [], .int .i64 k]) (d := d) (os := os) (live := live) (S := S) (Q := Q) (fr := fr) (A := A)).trans (r35z A p nil sz k).iff
  simp only [m11r0, m11r1, m11r2, m11, EVa, EVb, params, nilOk, bound, awayFrom, evM, fillA, setEls, Opd.ev, Fr.get, prune, Option.map, isB, tB, nB, isG, gT, gF, evRes, mapO, one, Nat.reduceAdd, Nat.reduceLeDiff, Nat.reduceEqDiff, Nat.reduceMul, Nat.reduceSub, Nat.reduceLT, Nat.reduceBEq, reduceCtorEq, ↓reduceIte, Int.reduceToNat, Int.reduceLE, Int.reduceLT, Int.reduceEq, Int.reduceAdd, Int.reduceSub, Int.reduceMul, List.reduceReplicate, hr]
section
variable {d : Option Nat} {os : List MOp} {live : List Nat} {S : List KF} {Q : FQ} {fr : Fr} {A : Heap}
theorem z8 (w h : Int) (p nil : Bool) (cs : List Cu) (hl : cs.length ≤ 1048576) : WR0 T 8 [.agg [.int .i64 w, .int .i64 h, .lst p 3 nil (cs.map avU)]] d os live S Q fr A ↔ WP T os live S Q (putd d (.agg [.int .i64 w, .int .i64 h, .lst true 3 false (cs.map avU)]) fr) A := (p8 w h p nil cs hl).call0
theorem i11 (w h : Int) (id : Nat) (cs : List Cu) (hl : cs.length ≤ 1048576) (hA : A[id]? = some ⟨58, 3, cs.map avU⟩) : WCR T .inl 11 [.agg [.int .i64 w, .int .i64 h, .sl id 3 cs.length 0 cs.length], .int .i64 1] d os live S Q fr A ↔
    WP T os live S Q (putd d (.int .i64 (1 + 3 * cs.length)) fr) (A.set id ⟨58, 3, (mks 1 cs.length).map avU⟩) := by
  rw [WCR_inl]
  have := r11 A w h id cs [] 1 (by omega) hl (by rw [List.append_nil]; exact hA)
  rw [List.append_nil, List.append_nil] at this
  exact this.iff
theorem i11z (w h : Int) (p nil : Bool) (sz : Nat) : WCR T .inl 11 [.agg [.int .i64 w, .int .i64 h, .lst p sz nil []], .int .i64 1] d os live S Q fr A ↔ WP T os live S Q (putd d (.int .i64 1) fr) A := by
  rw [WCR_inl]
  exact (r11z A w h p nil sz 1).iff
end
end Go.Ev.Z
end
