import Derived.Test.YtfgbdbakafdinaaGreatWalkFirst
import Derived.Test.YtfgbdbakafdinaaGreatBase
import Derived.Test.YtfgbdbakafdinaaGreatDeepSecond

section
set_option maxRecDepth 100000
set_option linter.unusedSimpArgs false
set_option linter.unusedVariables false
namespace Go.Ev.Z
open Go Go.Ev
theorem t96 : T 96 = some (.code m96) := rfl
theorem p96 (s1 s2 s3 x y : Int) : Pure T 96 [.agg [.int .i64 s1, .int .i64 s2, .int .i64 s3], .rp [.int .i64 x] 0, .rp [.int .i64 y] 0] (.bool (lapW ⟨s1, s2, s3⟩ ⟨x, y, 1⟩)) := by
  rw [Pure_of t96]
  simp only [m96r0, m96r1, m96, EVa, EVb, params, nilOk, bound, awayFrom, evM, fillA, setEls, Opd.ev, Fr.get, prune, Option.map, isB, tB, nB, isG, gT, gF, evRes, mapO, one, Nat.reduceAdd, Nat.reduceLeDiff, Nat.reduceEqDiff, Nat.reduceMul, Nat.reduceSub, Nat.reduceLT, Nat.reduceBEq, reduceCtorEq, ↓reduceIte, Int.reduceToNat, Int.reduceLE, Int.reduceLT, Int.reduceEq, Int.reduceAdd, Int.reduceSub, Int.reduceMul, List.reduceReplicate, k97]
theorem k96 (s1 s2 s3 x y : Int) {d : Option Nat} {os : List MOp} {live : List Nat} {S : List KF} {Q : FQ} {fr : Fr} {A : Heap} : WCR T .ro 96 [.agg [.int .i64 s1, .int .i64 s2, .int .i64 s3], .rp [.int .i64 x] 0, .rp [.int .i64 y] 0] d os live S Q fr A ↔ WP T os live S Q (putd d (.bool (lapW ⟨s1, s2, s3⟩ ⟨x, y, 1⟩)) fr) A := (p96 s1 s2 s3 x y).call (by simp only [mapO, depth_is, bo_agg, bo_int, bo_bool, bo_str, bo_lst, bo_lS, bo_rp, bo_fn])
theorem t95 : T 95 = some (.code m95) := rfl
theorem p95 (p nil : Bool) (sq : List Sq) (f : Sq → Bool) (g : FuncId) (caps : List AV) (hl : sq.length ≤ 1000) (hf : ∀ s, s ∈ sq → Pure T g (avS s :: caps) (.bool (f s))) (hc : ∀ A, mapO (borrow A 8) caps = some caps) (hc5 : ∀ A, mapO (borrow A 7) caps = some caps) : Pure T 95 [.lst p 3 nil (sq.map avS), .fn g [] caps] (.int .i64 (numM (idxP f sq 0))) := by
  rw [Pure_of t95]
  simp only [m95r0, m95r1, m95r2, m95r3, m95r4, m95r5, m95r6, m95r8, m95, EVa, EVb, params, nilOk, bound, awayFrom, evM, fillA, setEls, Opd.ev, Fr.get, prune, Option.map, isB, tB, nB, isG, gT, gF, evRes, mapO, one, Nat.reduceAdd, Nat.reduceLeDiff, Nat.reduceEqDiff, Nat.reduceMul, Nat.reduceSub, Nat.reduceLT, Nat.reduceBEq, reduceCtorEq, ↓reduceIte, Int.reduceToNat, Int.reduceLE, Int.reduceLT, Int.reduceEq, Int.reduceAdd, Int.reduceSub, Int.reduceMul, List.reduceReplicate]
  refine WS_loop' (σ := Nat) (fun s => [(0, .lst p 3 nil (sq.map avS)), (1, .fn g [] caps), (7, .int .i64 sq.length), (8, .int .i64 s)])
    (fun s => []) (fun s => sq.length - s) (fun s => s ≤ sq.length ∧ idxP f (sq.drop s) s = idxP f sq 0) 0 rfl rfl (by simp) ?_
  rintro i ⟨hi, ha⟩
  by_cases hlt : i < sq.length
  · have e1 : (sq.map avS)[i]? = some (avS sq[i]) := map_get hlt
    have e4 := wsucc (i := i) (by omega)
    have hcall : ∀ {d os live S Q fr A}, WCR T .ro g (.agg [.int .i64 sq[i].x, .int .i64 sq[i].y, .int .i64 sq[i].d] :: caps) d os live S Q fr A ↔ WP T os live S Q (putd d (.bool (f sq[i])) fr) A := by
      intro d os live S Q fr A
      exact (hf sq[i] (List.getElem_mem hlt)).call (by simp only [mapO, depth_is, bo_agg, bo_int, hc, avS])
    rw [idxP_drop _ _ _ _ hlt] at ha
    (try simp only [EVa, EVb, params, nilOk, bound, awayFrom, evM, fillA, setEls, Opd.ev, Fr.get, prune, Option.map, isB, tB, nB, isG, gT, gF, evRes, mapO, one, Nat.reduceAdd, Nat.reduceLeDiff, Nat.reduceEqDiff, Nat.reduceMul, Nat.reduceSub, Nat.reduceLT, Nat.reduceBEq, reduceCtorEq, ↓reduceIte, Int.reduceToNat, Int.reduceLE, Int.reduceLT, Int.reduceEq, Int.reduceAdd, Int.reduceSub, Int.reduceMul, List.reduceReplicate, m95l7, m95r0, m95r1, m95r2, m95r3, m95r4, m95r5, m95r6, m95r8, m95, e1, e4, hlt, avS, hcall] <;> (try (first | refine WP_split (by simp only [EVa, EVb, params, nilOk, bound, awayFrom, evM, fillA, setEls, Opd.ev, Fr.get, prune, Option.map, isB, tB, nB, isG, gT, gF, evRes, mapO, one, Nat.reduceAdd, Nat.reduceLeDiff, Nat.reduceEqDiff, Nat.reduceMul, Nat.reduceSub, Nat.reduceLT, Nat.reduceBEq, reduceCtorEq, ↓reduceIte, Int.reduceToNat, Int.reduceLE, Int.reduceLT, Int.reduceEq, Int.reduceAdd, Int.reduceSub, Int.reduceMul, List.reduceReplicate]) (fun hc1 => ?_) (fun hc1 => ?_) | refine WS_split (by simp only [EVa, EVb, params, nilOk, bound, awayFrom, evM, fillA, setEls, Opd.ev, Fr.get, prune, Option.map, isB, tB, nB, isG, gT, gF, evRes, mapO, one, Nat.reduceAdd, Nat.reduceLeDiff, Nat.reduceEqDiff, Nat.reduceMul, Nat.reduceSub, Nat.reduceLT, Nat.reduceBEq, reduceCtorEq, ↓reduceIte, Int.reduceToNat, Int.reduceLE, Int.reduceLT, Int.reduceEq, Int.reduceAdd, Int.reduceSub, Int.reduceMul, List.reduceReplicate]) (fun hc1 => ?_) (fun hc1 => ?_)) <;> try simp only [EVa, EVb, params, nilOk, bound, awayFrom, evM, fillA, setEls, Opd.ev, Fr.get, prune, Option.map, isB, tB, nB, isG, gT, gF, evRes, mapO, one, Nat.reduceAdd, Nat.reduceLeDiff, Nat.reduceEqDiff, Nat.reduceMul, Nat.reduceSub, Nat.reduceLT, Nat.reduceBEq, reduceCtorEq, ↓reduceIte, Int.reduceToNat, Int.reduceLE, Int.reduceLT, Int.reduceEq, Int.reduceAdd, Int.reduceSub, Int.reduceMul, List.reduceReplicate] at hc1 <;> (try simp only [EVa, EVb, params, nilOk, bound, awayFrom, evM, fillA, setEls, Opd.ev, Fr.get, prune, Option.map, isB, tB, nB, isG, gT, gF, evRes, mapO, one, Nat.reduceAdd, Nat.reduceLeDiff, Nat.reduceEqDiff, Nat.reduceMul, Nat.reduceSub, Nat.reduceLT, Nat.reduceBEq, reduceCtorEq, ↓reduceIte, Int.reduceToNat, Int.reduceLE, Int.reduceLT, Int.reduceEq, Int.reduceAdd, Int.reduceSub, Int.reduceMul, List.reduceReplicate, m95l7, m95r0, m95r1, m95r2, m95r3, m95r4, m95r5, m95r6, m95r8, m95, e1, e4, hlt, avS, hcall, hc1])))
    · rw [if_pos hc1] at ha; rw [← ha]; rfl
    · rw [if_neg (by simp [hc1])] at ha
      exact ⟨_, ⟨rfl, rfl⟩, ⟨hlt, ha⟩, by simp only; omega⟩
  · rw [idxP_end _ _ _ _ hlt] at ha
    simp only [m95l7, m95r0, m95r1, m95r2, m95r3, m95r4, m95r5, m95r6, m95r8, m95, EVa, EVb, params, nilOk, bound, awayFrom, evM, fillA, setEls, Opd.ev, Fr.get, prune, Option.map, isB, tB, nB, isG, gT, gF, evRes, mapO, one, Nat.reduceAdd, Nat.reduceLeDiff, Nat.reduceEqDiff, Nat.reduceMul, Nat.reduceSub, Nat.reduceLT, Nat.reduceBEq, reduceCtorEq, ↓reduceIte, Int.reduceToNat, Int.reduceLE, Int.reduceLT, Int.reduceEq, Int.reduceAdd, Int.reduceSub, Int.reduceMul, List.reduceReplicate, hlt, ← ha]
    rfl
theorem k95 (p nil : Bool) (sq : List Sq) (f : Sq → Bool) (g : FuncId) (caps : List AV) (hl : sq.length ≤ 1000) (hf : ∀ s, s ∈ sq → Pure T g (avS s :: caps) (.bool (f s))) (hc : ∀ A, mapO (borrow A 8) caps = some caps) (hc5 : ∀ A, mapO (borrow A 7) caps = some caps) {d : Option Nat} {os : List MOp} {live : List Nat} {S : List KF} {Q : FQ} {fr : Fr} {A : Heap} : WCR T .ro 95 [.lst p 3 nil (sq.map avS), .fn g [] caps] d os live S Q fr A ↔ WP T os live S Q (putd d (.int .i64 (numM (idxP f sq 0))) fr) A := (p95 p nil sq f g caps hl hf hc hc5).call (by simp only [mapO, depth_is, bo_lS, bo_fn, hc5])
theorem t86 : T 86 = some (.code m86) := rfl
theorem p86 (w h : Int) (p nil : Bool) (sq : List Sq) (x y : Int) (hl : sq.length ≤ 1000) : Pure T 86 [.agg [.int .i64 w, .int .i64 h, .lst p 3 nil (sq.map avS)], .int .i64 x, .int .i64 y] (.int .i64 (numM (idxP (fun s => lapW s ⟨x, y, 1⟩) sq 0))) := by
  rw [Pure_of t86]
  have hk := fun {d os live S Q fr A} => k95 p nil sq (fun s => lapW s ⟨x, y, 1⟩) 96 [.rp [.int .i64 x] 0, .rp [.int .i64 y] 0] hl (fun s _ => p96 s.x s.y s.d x y) (fun _ => rfl) (fun _ => rfl) (d := d) (os := os) (live := live) (S := S) (Q := Q) (fr := fr) (A := A)
  simp only [m86r0, m86r1, m86, EVa, EVb, params, nilOk, bound, awayFrom, evM, fillA, setEls, Opd.ev, Fr.get, prune, Option.map, isB, tB, nB, isG, gT, gF, evRes, mapO, one, Nat.reduceAdd, Nat.reduceLeDiff, Nat.reduceEqDiff, Nat.reduceMul, Nat.reduceSub, Nat.reduceLT, Nat.reduceBEq, reduceCtorEq, ↓reduceIte, Int.reduceToNat, Int.reduceLE, Int.reduceLT, Int.reduceEq, Int.reduceAdd, Int.reduceSub, Int.reduceMul, List.reduceReplicate, hk]
theorem k86 (w h : Int) (p nil : Bool) (sq : List Sq) (x y : Int) (hl : sq.length ≤ 1000) {d : Option Nat} {os : List MOp} {live : List Nat} {S : List KF} {Q : FQ} {fr : Fr} {A : Heap} : WCR T .ro 86 [.agg [.int .i64 w, .int .i64 h, .lst p 3 nil (sq.map avS)], .int .i64 x, .int .i64 y] d os live S Q fr A ↔ WP T os live S Q (putd d (.int .i64 (numM (idxP (fun s => lapW s ⟨x, y, 1⟩) sq 0))) fr) A := (p86 w h p nil sq x y hl).call (by simp only [mapO, depth_is, bo_agg, bo_int, bo_bool, bo_str, bo_lst, bo_lS, bo_rp, bo_fn])
theorem t87 : T 87 = some (.code m87) := rfl
theorem p87 (w h : Int) (p nil : Bool) (sq : List Sq) (hb : Bds sq) : Pure T 87 [.agg [.int .i64 w, .int .i64 h, .lst p 3 nil (sq.map avS)]] (.lst true 1 false [.int .i64 (cnt (fun s => decide (s.y = 0)) sq), .int .i64 (cnt (fun s => decide (s.x + s.d = w)) sq), .int .i64 (cnt (fun s => decide (s.y + s.d = h)) sq), .int .i64 (cnt (fun s => decide (s.x = 0)) sq)]) := by
  rw [Pure_of t87]
  have hl := hb.1
  simp only [m87r0, m87r1, m87r2, m87r3, m87r4, m87r5, m87r6, m87r7, m87r8, m87r9, m87r11, m87, EVa, EVb, params, nilOk, bound, awayFrom, evM, fillA, setEls, Opd.ev, Fr.get, prune, Option.map, isB, tB, nB, isG, gT, gF, evRes, mapO, one, Nat.reduceAdd, Nat.reduceLeDiff, Nat.reduceEqDiff, Nat.reduceMul, Nat.reduceSub, Nat.reduceLT, Nat.reduceBEq, reduceCtorEq, ↓reduceIte, Int.reduceToNat, Int.reduceLE, Int.reduceLT, Int.reduceEq, Int.reduceAdd, Int.reduceSub, Int.reduceMul, List.reduceReplicate]
  refine WS_loop' (σ := Nat × Int × Int × Int × Int × Heap) (fun s => [(1, .rp [.int .i64 w, .int .i64 h, .lst p 3 nil (sq.map avS)] 0), (3, .sl 0 1 4 0 4), (8, .lst p 3 nil (sq.map avS)), (9, .int .i64 sq.length), (10, .int .i64 s.1)])
    (fun s => ⟨3, 1, [.int .i64 s.2.1, .int .i64 s.2.2.1, .int .i64 s.2.2.2.1, .int .i64 s.2.2.2.2.1]⟩ :: s.2.2.2.2.2) (fun s => sq.length - s.1)
    (fun s => s.1 ≤ sq.length ∧ s.2.1 + cnt (fun s => decide (s.y = 0)) (sq.drop s.1) = cnt (fun s => decide (s.y = 0)) sq ∧ s.2.2.1 + cnt (fun s => decide (s.x + s.d = w)) (sq.drop s.1) = cnt (fun s => decide (s.x + s.d = w)) sq
      ∧ s.2.2.2.1 + cnt (fun s => decide (s.y + s.d = h)) (sq.drop s.1) = cnt (fun s => decide (s.y + s.d = h)) sq ∧ s.2.2.2.2.1 + cnt (fun s => decide (s.x = 0)) (sq.drop s.1) = cnt (fun s => decide (s.x = 0)) sq
      ∧ (0 ≤ s.2.1 ∧ s.2.1 ≤ s.1) ∧ (0 ≤ s.2.2.1 ∧ s.2.2.1 ≤ s.1) ∧ (0 ≤ s.2.2.2.1 ∧ s.2.2.2.1 ≤ s.1) ∧ (0 ≤ s.2.2.2.2.1 ∧ s.2.2.2.2.1 ≤ s.1)) (0, 0, 0, 0, 0, []) rfl rfl (by simp) ?_
  rintro ⟨i, a, b, c, d, H⟩ ⟨hi, ha, hb', hc, hd, h1, h2, h3, h4⟩
  dsimp only at hi ha hb' hc hd h1 h2 h3 h4
  by_cases hlt : i < sq.length
  · have e1 : (sq.map avS)[i]? = some (avS sq[i]) := map_get hlt
    have e4 := wsucc (i := i) (by omega)
    have hB := hb.at i hlt
    have v1 := wrap_in (sq[i].x + sq[i].d) (by omega) (by omega)
    have v2 := wrap_in (sq[i].y + sq[i].d) (by omega) (by omega)
    have u1 := wrap_in (a + if sq[i].y = 0 then 1 else 0) (by split <;> omega) (by split <;> omega)
    have u2 := wrap_in (b + if sq[i].x + sq[i].d = w then 1 else 0) (by split <;> omega) (by split <;> omega)
    have u3 := wrap_in (c + if sq[i].y + sq[i].d = h then 1 else 0) (by split <;> omega) (by split <;> omega)
    have u4 := wrap_in (d + if sq[i].x = 0 then 1 else 0) (by split <;> omega) (by split <;> omega)
    rw [cnt_drop _ _ _ hlt] at ha hb' hc hd
    simp only [m87l10, m87r0, m87r1, m87r2, m87r3, m87r4, m87r5, m87r6, m87r7, m87r8, m87r9, m87r11, m87, EVa, EVb, params, nilOk, bound, awayFrom, evM, fillA, setEls, Opd.ev, Fr.get, prune, Option.map, isB, tB, nB, isG, gT, gF, evRes, mapO, one, Nat.reduceAdd, Nat.reduceLeDiff, Nat.reduceEqDiff, Nat.reduceMul, Nat.reduceSub, Nat.reduceLT, Nat.reduceBEq, reduceCtorEq, ↓reduceIte, Int.reduceToNat, Int.reduceLE, Int.reduceLT, Int.reduceEq, Int.reduceAdd, Int.reduceSub, Int.reduceMul, List.reduceReplicate, e1, e4, hlt, avS, v1, v2, k85, u1, u2, u3, u4]
    refine ⟨(_, _, _, _, _, _), ⟨rfl, rfl⟩, ⟨hlt, ?_⟩, by simp only; omega⟩
    simp only [decide_eq_true_eq] at ha hb' hc hd ⊢
    refine ⟨by omega, by omega, by omega, by omega, ?_, ?_, ?_, ?_⟩ <;> split <;> omega
  · rw [cnt_end _ _ _ hlt] at ha hb' hc hd
    simp only [m87l10, m87r0, m87r1, m87r2, m87r3, m87r4, m87r5, m87r6, m87r7, m87r8, m87r9, m87r11, m87, EVa, EVb, params, nilOk, bound, awayFrom, evM, fillA, setEls, Opd.ev, Fr.get, prune, Option.map, isB, tB, nB, isG, gT, gF, evRes, mapO, one, Nat.reduceAdd, Nat.reduceLeDiff, Nat.reduceEqDiff, Nat.reduceMul, Nat.reduceSub, Nat.reduceLT, Nat.reduceBEq, reduceCtorEq, ↓reduceIte, Int.reduceToNat, Int.reduceLE, Int.reduceLT, Int.reduceEq, Int.reduceAdd, Int.reduceSub, Int.reduceMul, List.reduceReplicate, hlt]
    simp_all
theorem k87 (w h : Int) (p nil : Bool) (sq : List Sq) (hb : Bds sq) {d : Option Nat} {os : List MOp} {live : List Nat} {S : List KF} {Q : FQ} {fr : Fr} {A : Heap} : WCR T .ro 87 [.agg [.int .i64 w, .int .i64 h, .lst p 3 nil (sq.map avS)]] d os live S Q fr A ↔ WP T os live S Q (putd d (.lst true 1 false [.int .i64 (cnt (fun s => decide (s.y = 0)) sq), .int .i64 (cnt (fun s => decide (s.x + s.d = w)) sq), .int .i64 (cnt (fun s => decide (s.y + s.d = h)) sq), .int .i64 (cnt (fun s => decide (s.x = 0)) sq)]) fr) A := (p87 w h p nil sq hb).call (by simp only [mapO, depth_is, bo_agg, bo_int, bo_bool, bo_str, bo_lst, bo_lS, bo_rp, bo_fn])
end Go.Ev.Z
end

section
set_option maxRecDepth 100000
set_option linter.unusedSimpArgs false
set_option linter.unusedVariables false
namespace Go.Ev.Z
open Go Go.Ev
theorem t88 : T 88 = some (.code m88) := rfl
theorem p88 (w h : Int) (p nil : Bool) (sq : List Sq) (hb : Bds sq) : Pure T 88 [.agg [.int .i64 w, .int .i64 h, .lst p 3 nil (sq.map avS)]] (.lst true 1 false ((sq.filter (crossP sq)).map avXY)) := by
  rw [Pure_of t88]
  have hl := hb.1
  simp only [m88r0, m88r1, m88r2, m88r3, m88r4, m88r5, m88r6, m88r7, m88r8, m88r9, m88r10, m88r11, m88r13, m88r14, m88r15, m88r17, m88, EVa, EVb, params, nilOk, bound, awayFrom, evM, fillA, setEls, Opd.ev, Fr.get, prune, Option.map, isB, tB, nB, isG, gT, gF, evRes, mapO, one, Nat.reduceAdd, Nat.reduceLeDiff, Nat.reduceEqDiff, Nat.reduceMul, Nat.reduceSub, Nat.reduceLT, Nat.reduceBEq, reduceCtorEq, ↓reduceIte, Int.reduceToNat, Int.reduceLE, Int.reduceLT, Int.reduceEq, Int.reduceAdd, Int.reduceSub, Int.reduceMul, List.reduceReplicate]
  refine WS_loop' (σ := Nat × AV × Heap) (fun s => [(1, .rp [.int .i64 w, .int .i64 h, .lst p 3 nil (sq.map avS)] 0), (3, s.2.1), (11, .lst p 3 nil (sq.map avS)), (12, .int .i64 sq.length), (13, .int .i64 s.1)])
    (fun s => s.2.2) (fun s => sq.length - s.1) (fun s => s.1 ≤ sq.length ∧ BldS s.2.2 83 1 s.2.1 (((sq.take s.1).filter (crossP sq)).map avXY)) (0, _, _) rfl rfl ⟨by simp, BldS.new [] 83 1 []⟩ ?_
  rintro ⟨i, v, H⟩ ⟨hi, hB⟩
  dsimp only at hi hB
  by_cases hlt : i < sq.length
  · have e1 : (sq.map avS)[i]? = some (avS sq[i]) := map_get hlt
    have e4 := wsucc (i := i) (by omega)
    have hs := hb.at i hlt
    have hfil := filter_drop (crossP sq) sq i hlt
    have hflen : ((sq.take i).filter (crossP sq)).length ≤ 1000 := Nat.le_trans (List.length_filter_le _ _) (by simp; omega)
    by_cases hz : sq[i].x = 0 ∨ sq[i].y = 0
    · have hcr : crossP sq sq[i] = false := by simp only [crossP]; rcases hz with h | h <;> simp [h]
      rw [hcr] at hfil
      simp at hfil
      (try simp only [EVa, EVb, params, nilOk, bound, awayFrom, evM, fillA, setEls, Opd.ev, Fr.get, prune, Option.map, isB, tB, nB, isG, gT, gF, evRes, mapO, one, Nat.reduceAdd, Nat.reduceLeDiff, Nat.reduceEqDiff, Nat.reduceMul, Nat.reduceSub, Nat.reduceLT, Nat.reduceBEq, reduceCtorEq, ↓reduceIte, Int.reduceToNat, Int.reduceLE, Int.reduceLT, Int.reduceEq, Int.reduceAdd, Int.reduceSub, Int.reduceMul, List.reduceReplicate, m88l16, m88r0, m88r1, m88r2, m88r3, m88r4, m88r5, m88r6, m88r7, m88r8, m88r9, m88r10, m88r11, m88r13, m88r14, m88r15, m88r17, m88, e1, e4, hlt, avS] <;> (try (first | refine WP_split (by simp only [EVa, EVb, params, nilOk, bound, awayFrom, evM, fillA, setEls, Opd.ev, Fr.get, prune, Option.map, isB, tB, nB, isG, gT, gF, evRes, mapO, one, Nat.reduceAdd, Nat.reduceLeDiff, Nat.reduceEqDiff, Nat.reduceMul, Nat.reduceSub, Nat.reduceLT, Nat.reduceBEq, reduceCtorEq, ↓reduceIte, Int.reduceToNat, Int.reduceLE, Int.reduceLT, Int.reduceEq, Int.reduceAdd, Int.reduceSub, Int.reduceMul, List.reduceReplicate]) (fun hc1 => ?_) (fun hc1 => ?_) | refine WS_split (by simp only [EVa, EVb, params, nilOk, bound, awayFrom, evM, fillA, setEls, Opd.ev, Fr.get, prune, Option.map, isB, tB, nB, isG, gT, gF, evRes, mapO, one, Nat.reduceAdd, Nat.reduceLeDiff, Nat.reduceEqDiff, Nat.reduceMul, Nat.reduceSub, Nat.reduceLT, Nat.reduceBEq, reduceCtorEq, ↓reduceIte, Int.reduceToNat, Int.reduceLE, Int.reduceLT, Int.reduceEq, Int.reduceAdd, Int.reduceSub, Int.reduceMul, List.reduceReplicate]) (fun hc1 => ?_) (fun hc1 => ?_)) <;> try simp only [EVa, EVb, params, nilOk, bound, awayFrom, evM, fillA, setEls, Opd.ev, Fr.get, prune, Option.map, isB, tB, nB, isG, gT, gF, evRes, mapO, one, Nat.reduceAdd, Nat.reduceLeDiff, Nat.reduceEqDiff, Nat.reduceMul, Nat.reduceSub, Nat.reduceLT, Nat.reduceBEq, reduceCtorEq, ↓reduceIte, Int.reduceToNat, Int.reduceLE, Int.reduceLT, Int.reduceEq, Int.reduceAdd, Int.reduceSub, Int.reduceMul, List.reduceReplicate] at hc1 <;> (try simp only [EVa, EVb, params, nilOk, bound, awayFrom, evM, fillA, setEls, Opd.ev, Fr.get, prune, Option.map, isB, tB, nB, isG, gT, gF, evRes, mapO, one, Nat.reduceAdd, Nat.reduceLeDiff, Nat.reduceEqDiff, Nat.reduceMul, Nat.reduceSub, Nat.reduceLT, Nat.reduceBEq, reduceCtorEq, ↓reduceIte, Int.reduceToNat, Int.reduceLE, Int.reduceLT, Int.reduceEq, Int.reduceAdd, Int.reduceSub, Int.reduceMul, List.reduceReplicate, m88l16, m88r0, m88r1, m88r2, m88r3, m88r4, m88r5, m88r6, m88r7, m88r8, m88r9, m88r10, m88r11, m88r13, m88r14, m88r15, m88r17, m88, e1, e4, hlt, avS, hc1] <;> (try (first | refine WP_split (by simp only [EVa, EVb, params, nilOk, bound, awayFrom, evM, fillA, setEls, Opd.ev, Fr.get, prune, Option.map, isB, tB, nB, isG, gT, gF, evRes, mapO, one, Nat.reduceAdd, Nat.reduceLeDiff, Nat.reduceEqDiff, Nat.reduceMul, Nat.reduceSub, Nat.reduceLT, Nat.reduceBEq, reduceCtorEq, ↓reduceIte, Int.reduceToNat, Int.reduceLE, Int.reduceLT, Int.reduceEq, Int.reduceAdd, Int.reduceSub, Int.reduceMul, List.reduceReplicate]) (fun hc2 => ?_) (fun hc2 => ?_) | refine WS_split (by simp only [EVa, EVb, params, nilOk, bound, awayFrom, evM, fillA, setEls, Opd.ev, Fr.get, prune, Option.map, isB, tB, nB, isG, gT, gF, evRes, mapO, one, Nat.reduceAdd, Nat.reduceLeDiff, Nat.reduceEqDiff, Nat.reduceMul, Nat.reduceSub, Nat.reduceLT, Nat.reduceBEq, reduceCtorEq, ↓reduceIte, Int.reduceToNat, Int.reduceLE, Int.reduceLT, Int.reduceEq, Int.reduceAdd, Int.reduceSub, Int.reduceMul, List.reduceReplicate]) (fun hc2 => ?_) (fun hc2 => ?_)) <;> try simp only [EVa, EVb, params, nilOk, bound, awayFrom, evM, fillA, setEls, Opd.ev, Fr.get, prune, Option.map, isB, tB, nB, isG, gT, gF, evRes, mapO, one, Nat.reduceAdd, Nat.reduceLeDiff, Nat.reduceEqDiff, Nat.reduceMul, Nat.reduceSub, Nat.reduceLT, Nat.reduceBEq, reduceCtorEq, ↓reduceIte, Int.reduceToNat, Int.reduceLE, Int.reduceLT, Int.reduceEq, Int.reduceAdd, Int.reduceSub, Int.reduceMul, List.reduceReplicate] at hc2 <;> (try simp only [EVa, EVb, params, nilOk, bound, awayFrom, evM, fillA, setEls, Opd.ev, Fr.get, prune, Option.map, isB, tB, nB, isG, gT, gF, evRes, mapO, one, Nat.reduceAdd, Nat.reduceLeDiff, Nat.reduceEqDiff, Nat.reduceMul, Nat.reduceSub, Nat.reduceLT, Nat.reduceBEq, reduceCtorEq, ↓reduceIte, Int.reduceToNat, Int.reduceLE, Int.reduceLT, Int.reduceEq, Int.reduceAdd, Int.reduceSub, Int.reduceMul, List.reduceReplicate, m88l16, m88r0, m88r1, m88r2, m88r3, m88r4, m88r5, m88r6, m88r7, m88r8, m88r9, m88r10, m88r11, m88r13, m88r14, m88r15, m88r17, m88, e1, e4, hlt, avS, hc1, hc2] <;> (try (first | refine WP_split (by simp only [EVa, EVb, params, nilOk, bound, awayFrom, evM, fillA, setEls, Opd.ev, Fr.get, prune, Option.map, isB, tB, nB, isG, gT, gF, evRes, mapO, one, Nat.reduceAdd, Nat.reduceLeDiff, Nat.reduceEqDiff, Nat.reduceMul, Nat.reduceSub, Nat.reduceLT, Nat.reduceBEq, reduceCtorEq, ↓reduceIte, Int.reduceToNat, Int.reduceLE, Int.reduceLT, Int.reduceEq, Int.reduceAdd, Int.reduceSub, Int.reduceMul, List.reduceReplicate]) (fun hc3 => ?_) (fun hc3 => ?_) | refine WS_split (by simp only [EVa, EVb, params, nilOk, bound, awayFrom, evM, fillA, setEls, Opd.ev, Fr.get, prune, Option.map, isB, tB, nB, isG, gT, gF, evRes, mapO, one, Nat.reduceAdd, Nat.reduceLeDiff, Nat.reduceEqDiff, Nat.reduceMul, Nat.reduceSub, Nat.reduceLT, Nat.reduceBEq, reduceCtorEq, ↓reduceIte, Int.reduceToNat, Int.reduceLE, Int.reduceLT, Int.reduceEq, Int.reduceAdd, Int.reduceSub, Int.reduceMul, List.reduceReplicate]) (fun hc3 => ?_) (fun hc3 => ?_)) <;> try simp only [EVa, EVb, params, nilOk, bound, awayFrom, evM, fillA, setEls, Opd.ev, Fr.get, prune, Option.map, isB, tB, nB, isG, gT, gF, evRes, mapO, one, Nat.reduceAdd, Nat.reduceLeDiff, Nat.reduceEqDiff, Nat.reduceMul, Nat.reduceSub, Nat.reduceLT, Nat.reduceBEq, reduceCtorEq, ↓reduceIte, Int.reduceToNat, Int.reduceLE, Int.reduceLT, Int.reduceEq, Int.reduceAdd, Int.reduceSub, Int.reduceMul, List.reduceReplicate] at hc3 <;> (try simp only [EVa, EVb, params, nilOk, bound, awayFrom, evM, fillA, setEls, Opd.ev, Fr.get, prune, Option.map, isB, tB, nB, isG, gT, gF, evRes, mapO, one, Nat.reduceAdd, Nat.reduceLeDiff, Nat.reduceEqDiff, Nat.reduceMul, Nat.reduceSub, Nat.reduceLT, Nat.reduceBEq, reduceCtorEq, ↓reduceIte, Int.reduceToNat, Int.reduceLE, Int.reduceLT, Int.reduceEq, Int.reduceAdd, Int.reduceSub, Int.reduceMul, List.reduceReplicate, m88l16, m88r0, m88r1, m88r2, m88r3, m88r4, m88r5, m88r6, m88r7, m88r8, m88r9, m88r10, m88r11, m88r13, m88r14, m88r15, m88r17, m88, e1, e4, hlt, avS, hc1, hc2, hc3])))))))
      all_goals first
        | (exact ⟨(_, _, _), ⟨rfl, rfl⟩, ⟨hlt, by simp only; rw [hfil]; exact hB.more⟩, by simp only; omega⟩)
        | (exfalso; omega)
    · have hz1 : ¬ sq[i].x = 0 := fun h => hz (.inl h)
      have hz2 : ¬ sq[i].y = 0 := fun h => hz (.inr h)
      simp only [m88l16, m88r0, m88r1, m88r2, m88r3, m88r4, m88r5, m88r6, m88r7, m88r8, m88r9, m88r10, m88r11, m88r13, m88r14, m88r15, m88r17, m88, EVa, EVb, params, nilOk, bound, awayFrom, evM, fillA, setEls, Opd.ev, Fr.get, prune, Option.map, isB, tB, nB, isG, gT, gF, evRes, mapO, one, Nat.reduceAdd, Nat.reduceLeDiff, Nat.reduceEqDiff, Nat.reduceMul, Nat.reduceSub, Nat.reduceLT, Nat.reduceBEq, reduceCtorEq, ↓reduceIte, Int.reduceToNat, Int.reduceLE, Int.reduceLT, Int.reduceEq, Int.reduceAdd, Int.reduceSub, Int.reduceMul, List.reduceReplicate, e1, hlt, avS, hz1, hz2]
      refine WS_loop' (σ := Nat × Int × Heap) (fun s => [(1, .rp [.int .i64 w, .int .i64 h, .lst p 3 nil (sq.map avS)] 0), (3, v), (5, .ptr H.length 1 0 0), (6, .int .i64 s.2.1), (11, .lst p 3 nil (sq.map avS)), (12, .int .i64 sq.length), (13, .int .i64 i), (26, .lst p 3 nil (sq.map avS)), (27, .int .i64 sq.length), (28, .int .i64 s.1)])
        (fun s => s.2.2) (fun s => sq.length - s.1) (fun s => s.1 ≤ sq.length ∧ s.2.1 + cnt (cornQ sq[i]) (sq.drop s.1) = cnt (cornQ sq[i]) sq ∧ (0 ≤ s.2.1 ∧ s.2.1 ≤ s.1) ∧ s.2.2[H.length]? = some ⟨80, 3, [.agg [.int .i64 sq[i].x, .int .i64 sq[i].y, .int .i64 sq[i].d]]⟩ ∧ BldS s.2.2 83 1 v (((sq.take i).filter (crossP sq)).map avXY)) (0, 0, _) rfl rfl ⟨by simp, by simp, by simp, by simp only [EVa, EVb, params, nilOk, bound, awayFrom, evM, fillA, setEls, Opd.ev, Fr.get, prune, Option.map, isB, tB, nB, isG, gT, gF, evRes, mapO, one, Nat.reduceAdd, Nat.reduceLeDiff, Nat.reduceEqDiff, Nat.reduceMul, Nat.reduceSub, Nat.reduceLT, Nat.reduceBEq, reduceCtorEq, ↓reduceIte, Int.reduceToNat, Int.reduceLE, Int.reduceLT, Int.reduceEq, Int.reduceAdd, Int.reduceSub, Int.reduceMul, List.reduceReplicate], hB.more⟩ ?_
      rintro ⟨k, a, G⟩ ⟨hk, ha, h01, hG, hBG⟩
      dsimp only at hk ha h01 hG hBG
      by_cases hkl : k < sq.length
      · have f1 : (sq.map avS)[k]? = some (avS sq[k]) := map_get hkl
        have f4 := wsucc (i := k) (by omega)
        have ht := hb.at k hkl
        have v1 := wrap_in (sq[k].x + sq[k].d) (by omega) (by omega)
        have v2 := wrap_in (sq[k].y + sq[k].d) (by omega) (by omega)
        have u0 := wrap_in (a + 0) (by omega) (by omega)
        have u1 := wrap_in (a + 1) (by omega) (by omega)
        have u2 := wrap_in (a + if sq[k].y + sq[k].d = sq[i].y then 1 else 0) (by split <;> omega) (by split <;> omega)
        have hG' : ∀ b, (G ++ [b])[H.length]? = some ⟨80, 3, [.agg [.int .i64 sq[i].x, .int .i64 sq[i].y, .int .i64 sq[i].d]]⟩ := fun b => h_get_of hG
        rw [cnt_drop _ _ _ hkl] at ha
        (try simp only [EVa, EVb, params, nilOk, bound, awayFrom, evM, fillA, setEls, Opd.ev, Fr.get, prune, Option.map, isB, tB, nB, isG, gT, gF, evRes, mapO, one, Nat.reduceAdd, Nat.reduceLeDiff, Nat.reduceEqDiff, Nat.reduceMul, Nat.reduceSub, Nat.reduceLT, Nat.reduceBEq, reduceCtorEq, ↓reduceIte, Int.reduceToNat, Int.reduceLE, Int.reduceLT, Int.reduceEq, Int.reduceAdd, Int.reduceSub, Int.reduceMul, List.reduceReplicate, m88l12, m88r0, m88r1, m88r2, m88r3, m88r4, m88r5, m88r6, m88r7, m88r8, m88r9, m88r10, m88r11, m88r13, m88r14, m88r15, m88r17, m88, f1, f4, hkl, avS, v1, v2, hG', k85, u0, u1, u2] <;> (try (first | refine WP_split (by simp only [EVa, EVb, params, nilOk, bound, awayFrom, evM, fillA, setEls, Opd.ev, Fr.get, prune, Option.map, isB, tB, nB, isG, gT, gF, evRes, mapO, one, Nat.reduceAdd, Nat.reduceLeDiff, Nat.reduceEqDiff, Nat.reduceMul, Nat.reduceSub, Nat.reduceLT, Nat.reduceBEq, reduceCtorEq, ↓reduceIte, Int.reduceToNat, Int.reduceLE, Int.reduceLT, Int.reduceEq, Int.reduceAdd, Int.reduceSub, Int.reduceMul, List.reduceReplicate]) (fun hc1 => ?_) (fun hc1 => ?_) | refine WS_split (by simp only [EVa, EVb, params, nilOk, bound, awayFrom, evM, fillA, setEls, Opd.ev, Fr.get, prune, Option.map, isB, tB, nB, isG, gT, gF, evRes, mapO, one, Nat.reduceAdd, Nat.reduceLeDiff, Nat.reduceEqDiff, Nat.reduceMul, Nat.reduceSub, Nat.reduceLT, Nat.reduceBEq, reduceCtorEq, ↓reduceIte, Int.reduceToNat, Int.reduceLE, Int.reduceLT, Int.reduceEq, Int.reduceAdd, Int.reduceSub, Int.reduceMul, List.reduceReplicate]) (fun hc1 => ?_) (fun hc1 => ?_)) <;> try simp only [EVa, EVb, params, nilOk, bound, awayFrom, evM, fillA, setEls, Opd.ev, Fr.get, prune, Option.map, isB, tB, nB, isG, gT, gF, evRes, mapO, one, Nat.reduceAdd, Nat.reduceLeDiff, Nat.reduceEqDiff, Nat.reduceMul, Nat.reduceSub, Nat.reduceLT, Nat.reduceBEq, reduceCtorEq, ↓reduceIte, Int.reduceToNat, Int.reduceLE, Int.reduceLT, Int.reduceEq, Int.reduceAdd, Int.reduceSub, Int.reduceMul, List.reduceReplicate] at hc1 <;> (try simp only [EVa, EVb, params, nilOk, bound, awayFrom, evM, fillA, setEls, Opd.ev, Fr.get, prune, Option.map, isB, tB, nB, isG, gT, gF, evRes, mapO, one, Nat.reduceAdd, Nat.reduceLeDiff, Nat.reduceEqDiff, Nat.reduceMul, Nat.reduceSub, Nat.reduceLT, Nat.reduceBEq, reduceCtorEq, ↓reduceIte, Int.reduceToNat, Int.reduceLE, Int.reduceLT, Int.reduceEq, Int.reduceAdd, Int.reduceSub, Int.reduceMul, List.reduceReplicate, m88l12, m88r0, m88r1, m88r2, m88r3, m88r4, m88r5, m88r6, m88r7, m88r8, m88r9, m88r10, m88r11, m88r13, m88r14, m88r15, m88r17, m88, f1, f4, hkl, avS, v1, v2, hG', k85, u0, u1, u2, hc1] <;> (try (first | refine WP_split (by simp only [EVa, EVb, params, nilOk, bound, awayFrom, evM, fillA, setEls, Opd.ev, Fr.get, prune, Option.map, isB, tB, nB, isG, gT, gF, evRes, mapO, one, Nat.reduceAdd, Nat.reduceLeDiff, Nat.reduceEqDiff, Nat.reduceMul, Nat.reduceSub, Nat.reduceLT, Nat.reduceBEq, reduceCtorEq, ↓reduceIte, Int.reduceToNat, Int.reduceLE, Int.reduceLT, Int.reduceEq, Int.reduceAdd, Int.reduceSub, Int.reduceMul, List.reduceReplicate]) (fun hc2 => ?_) (fun hc2 => ?_) | refine WS_split (by simp only [EVa, EVb, params, nilOk, bound, awayFrom, evM, fillA, setEls, Opd.ev, Fr.get, prune, Option.map, isB, tB, nB, isG, gT, gF, evRes, mapO, one, Nat.reduceAdd, Nat.reduceLeDiff, Nat.reduceEqDiff, Nat.reduceMul, Nat.reduceSub, Nat.reduceLT, Nat.reduceBEq, reduceCtorEq, ↓reduceIte, Int.reduceToNat, Int.reduceLE, Int.reduceLT, Int.reduceEq, Int.reduceAdd, Int.reduceSub, Int.reduceMul, List.reduceReplicate]) (fun hc2 => ?_) (fun hc2 => ?_)) <;> try simp only [EVa, EVb, params, nilOk, bound, awayFrom, evM, fillA, setEls, Opd.ev, Fr.get, prune, Option.map, isB, tB, nB, isG, gT, gF, evRes, mapO, one, Nat.reduceAdd, Nat.reduceLeDiff, Nat.reduceEqDiff, Nat.reduceMul, Nat.reduceSub, Nat.reduceLT, Nat.reduceBEq, reduceCtorEq, ↓reduceIte, Int.reduceToNat, Int.reduceLE, Int.reduceLT, Int.reduceEq, Int.reduceAdd, Int.reduceSub, Int.reduceMul, List.reduceReplicate] at hc2 <;> (try simp only [EVa, EVb, params, nilOk, bound, awayFrom, evM, fillA, setEls, Opd.ev, Fr.get, prune, Option.map, isB, tB, nB, isG, gT, gF, evRes, mapO, one, Nat.reduceAdd, Nat.reduceLeDiff, Nat.reduceEqDiff, Nat.reduceMul, Nat.reduceSub, Nat.reduceLT, Nat.reduceBEq, reduceCtorEq, ↓reduceIte, Int.reduceToNat, Int.reduceLE, Int.reduceLT, Int.reduceEq, Int.reduceAdd, Int.reduceSub, Int.reduceMul, List.reduceReplicate, m88l12, m88r0, m88r1, m88r2, m88r3, m88r4, m88r5, m88r6, m88r7, m88r8, m88r9, m88r10, m88r11, m88r13, m88r14, m88r15, m88r17, m88, f1, f4, hkl, avS, v1, v2, hG', k85, u0, u1, u2, hc1, hc2] <;> (try (first | refine WP_split (by simp only [EVa, EVb, params, nilOk, bound, awayFrom, evM, fillA, setEls, Opd.ev, Fr.get, prune, Option.map, isB, tB, nB, isG, gT, gF, evRes, mapO, one, Nat.reduceAdd, Nat.reduceLeDiff, Nat.reduceEqDiff, Nat.reduceMul, Nat.reduceSub, Nat.reduceLT, Nat.reduceBEq, reduceCtorEq, ↓reduceIte, Int.reduceToNat, Int.reduceLE, Int.reduceLT, Int.reduceEq, Int.reduceAdd, Int.reduceSub, Int.reduceMul, List.reduceReplicate]) (fun hc3 => ?_) (fun hc3 => ?_) | refine WS_split (by simp only [EVa, EVb, params, nilOk, bound, awayFrom, evM, fillA, setEls, Opd.ev, Fr.get, prune, Option.map, isB, tB, nB, isG, gT, gF, evRes, mapO, one, Nat.reduceAdd, Nat.reduceLeDiff, Nat.reduceEqDiff, Nat.reduceMul, Nat.reduceSub, Nat.reduceLT, Nat.reduceBEq, reduceCtorEq, ↓reduceIte, Int.reduceToNat, Int.reduceLE, Int.reduceLT, Int.reduceEq, Int.reduceAdd, Int.reduceSub, Int.reduceMul, List.reduceReplicate]) (fun hc3 => ?_) (fun hc3 => ?_)) <;> try simp only [EVa, EVb, params, nilOk, bound, awayFrom, evM, fillA, setEls, Opd.ev, Fr.get, prune, Option.map, isB, tB, nB, isG, gT, gF, evRes, mapO, one, Nat.reduceAdd, Nat.reduceLeDiff, Nat.reduceEqDiff, Nat.reduceMul, Nat.reduceSub, Nat.reduceLT, Nat.reduceBEq, reduceCtorEq, ↓reduceIte, Int.reduceToNat, Int.reduceLE, Int.reduceLT, Int.reduceEq, Int.reduceAdd, Int.reduceSub, Int.reduceMul, List.reduceReplicate] at hc3 <;> (try simp only [EVa, EVb, params, nilOk, bound, awayFrom, evM, fillA, setEls, Opd.ev, Fr.get, prune, Option.map, isB, tB, nB, isG, gT, gF, evRes, mapO, one, Nat.reduceAdd, Nat.reduceLeDiff, Nat.reduceEqDiff, Nat.reduceMul, Nat.reduceSub, Nat.reduceLT, Nat.reduceBEq, reduceCtorEq, ↓reduceIte, Int.reduceToNat, Int.reduceLE, Int.reduceLT, Int.reduceEq, Int.reduceAdd, Int.reduceSub, Int.reduceMul, List.reduceReplicate, m88l12, m88r0, m88r1, m88r2, m88r3, m88r4, m88r5, m88r6, m88r7, m88r8, m88r9, m88r10, m88r11, m88r13, m88r14, m88r15, m88r17, m88, f1, f4, hkl, avS, v1, v2, hG', k85, u0, u1, u2, hc1, hc2, hc3] <;> (try (first | refine WP_split (by simp only [EVa, EVb, params, nilOk, bound, awayFrom, evM, fillA, setEls, Opd.ev, Fr.get, prune, Option.map, isB, tB, nB, isG, gT, gF, evRes, mapO, one, Nat.reduceAdd, Nat.reduceLeDiff, Nat.reduceEqDiff, Nat.reduceMul, Nat.reduceSub, Nat.reduceLT, Nat.reduceBEq, reduceCtorEq, ↓reduceIte, Int.reduceToNat, Int.reduceLE, Int.reduceLT, Int.reduceEq, Int.reduceAdd, Int.reduceSub, Int.reduceMul, List.reduceReplicate]) (fun hc4 => ?_) (fun hc4 => ?_) | refine WS_split (by simp only [EVa, EVb, params, nilOk, bound, awayFrom, evM, fillA, setEls, Opd.ev, Fr.get, prune, Option.map, isB, tB, nB, isG, gT, gF, evRes, mapO, one, Nat.reduceAdd, Nat.reduceLeDiff, Nat.reduceEqDiff, Nat.reduceMul, Nat.reduceSub, Nat.reduceLT, Nat.reduceBEq, reduceCtorEq, ↓reduceIte, Int.reduceToNat, Int.reduceLE, Int.reduceLT, Int.reduceEq, Int.reduceAdd, Int.reduceSub, Int.reduceMul, List.reduceReplicate]) (fun hc4 => ?_) (fun hc4 => ?_)) <;> try simp only [EVa, EVb, params, nilOk, bound, awayFrom, evM, fillA, setEls, Opd.ev, Fr.get, prune, Option.map, isB, tB, nB, isG, gT, gF, evRes, mapO, one, Nat.reduceAdd, Nat.reduceLeDiff, Nat.reduceEqDiff, Nat.reduceMul, Nat.reduceSub, Nat.reduceLT, Nat.reduceBEq, reduceCtorEq, ↓reduceIte, Int.reduceToNat, Int.reduceLE, Int.reduceLT, Int.reduceEq, Int.reduceAdd, Int.reduceSub, Int.reduceMul, List.reduceReplicate] at hc4 <;> (try simp only [EVa, EVb, params, nilOk, bound, awayFrom, evM, fillA, setEls, Opd.ev, Fr.get, prune, Option.map, isB, tB, nB, isG, gT, gF, evRes, mapO, one, Nat.reduceAdd, Nat.reduceLeDiff, Nat.reduceEqDiff, Nat.reduceMul, Nat.reduceSub, Nat.reduceLT, Nat.reduceBEq, reduceCtorEq, ↓reduceIte, Int.reduceToNat, Int.reduceLE, Int.reduceLT, Int.reduceEq, Int.reduceAdd, Int.reduceSub, Int.reduceMul, List.reduceReplicate, m88l12, m88r0, m88r1, m88r2, m88r3, m88r4, m88r5, m88r6, m88r7, m88r8, m88r9, m88r10, m88r11, m88r13, m88r14, m88r15, m88r17, m88, f1, f4, hkl, avS, v1, v2, hG', k85, u0, u1, u2, hc1, hc2, hc3, hc4])))))))))
        all_goals (refine ⟨(_, _, _), ⟨rfl, rfl⟩, ⟨hkl, ?_, ?_, hG' _, hBG.more⟩, by simp only; omega⟩)
        all_goals simp only [cornQ] at ha ⊢
        all_goals first
          | (simp_all; done)
          | (simp_all; omega)
          | (simp_all; split <;> omega)
      · rw [cnt_end _ _ _ hkl] at ha
        have ha' : a = cnt (cornP sq[i].x sq[i].y) sq := by rw [← cornQ_eq]; omega
        (try simp only [EVa, EVb, params, nilOk, bound, awayFrom, evM, fillA, setEls, Opd.ev, Fr.get, prune, Option.map, isB, tB, nB, isG, gT, gF, evRes, mapO, one, Nat.reduceAdd, Nat.reduceLeDiff, Nat.reduceEqDiff, Nat.reduceMul, Nat.reduceSub, Nat.reduceLT, Nat.reduceBEq, reduceCtorEq, ↓reduceIte, Int.reduceToNat, Int.reduceLE, Int.reduceLT, Int.reduceEq, Int.reduceAdd, Int.reduceSub, Int.reduceMul, List.reduceReplicate, m88l12, m88r0, m88r1, m88r2, m88r3, m88r4, m88r5, m88r6, m88r7, m88r8, m88r9, m88r10, m88r11, m88r13, m88r14, m88r15, m88r17, m88, hkl, hG] <;> (try (first | refine WP_split (by simp only [EVa, EVb, params, nilOk, bound, awayFrom, evM, fillA, setEls, Opd.ev, Fr.get, prune, Option.map, isB, tB, nB, isG, gT, gF, evRes, mapO, one, Nat.reduceAdd, Nat.reduceLeDiff, Nat.reduceEqDiff, Nat.reduceMul, Nat.reduceSub, Nat.reduceLT, Nat.reduceBEq, reduceCtorEq, ↓reduceIte, Int.reduceToNat, Int.reduceLE, Int.reduceLT, Int.reduceEq, Int.reduceAdd, Int.reduceSub, Int.reduceMul, List.reduceReplicate]) (fun hc1 => ?_) (fun hc1 => ?_) | refine WS_split (by simp only [EVa, EVb, params, nilOk, bound, awayFrom, evM, fillA, setEls, Opd.ev, Fr.get, prune, Option.map, isB, tB, nB, isG, gT, gF, evRes, mapO, one, Nat.reduceAdd, Nat.reduceLeDiff, Nat.reduceEqDiff, Nat.reduceMul, Nat.reduceSub, Nat.reduceLT, Nat.reduceBEq, reduceCtorEq, ↓reduceIte, Int.reduceToNat, Int.reduceLE, Int.reduceLT, Int.reduceEq, Int.reduceAdd, Int.reduceSub, Int.reduceMul, List.reduceReplicate]) (fun hc1 => ?_) (fun hc1 => ?_)) <;> try simp only [EVa, EVb, params, nilOk, bound, awayFrom, evM, fillA, setEls, Opd.ev, Fr.get, prune, Option.map, isB, tB, nB, isG, gT, gF, evRes, mapO, one, Nat.reduceAdd, Nat.reduceLeDiff, Nat.reduceEqDiff, Nat.reduceMul, Nat.reduceSub, Nat.reduceLT, Nat.reduceBEq, reduceCtorEq, ↓reduceIte, Int.reduceToNat, Int.reduceLE, Int.reduceLT, Int.reduceEq, Int.reduceAdd, Int.reduceSub, Int.reduceMul, List.reduceReplicate] at hc1 <;> (try simp only [EVa, EVb, params, nilOk, bound, awayFrom, evM, fillA, setEls, Opd.ev, Fr.get, prune, Option.map, isB, tB, nB, isG, gT, gF, evRes, mapO, one, Nat.reduceAdd, Nat.reduceLeDiff, Nat.reduceEqDiff, Nat.reduceMul, Nat.reduceSub, Nat.reduceLT, Nat.reduceBEq, reduceCtorEq, ↓reduceIte, Int.reduceToNat, Int.reduceLE, Int.reduceLT, Int.reduceEq, Int.reduceAdd, Int.reduceSub, Int.reduceMul, List.reduceReplicate, m88l12, m88r0, m88r1, m88r2, m88r3, m88r4, m88r5, m88r6, m88r7, m88r8, m88r9, m88r10, m88r11, m88r13, m88r14, m88r15, m88r17, m88, hkl, hG, hc1])))
        · have hcr : crossP sq sq[i] = true := by simp only [crossP, ← ha']; simp [hz1, hz2, hc1]
          rw [if_pos hcr] at hfil
          refine WV_appS hBG (by simp; omega) ?_
          intro v' A' hB' hL' hF'
          simp only [EVa, EVb, params, nilOk, bound, awayFrom, evM, fillA, setEls, Opd.ev, Fr.get, prune, Option.map, isB, tB, nB, isG, gT, gF, evRes, mapO, one, Nat.reduceAdd, Nat.reduceLeDiff, Nat.reduceEqDiff, Nat.reduceMul, Nat.reduceSub, Nat.reduceLT, Nat.reduceBEq, reduceCtorEq, ↓reduceIte, Int.reduceToNat, Int.reduceLE, Int.reduceLT, Int.reduceEq, Int.reduceAdd, Int.reduceSub, Int.reduceMul, List.reduceReplicate, e4]
          exact ⟨(_, _, _), ⟨rfl, rfl⟩, ⟨hlt, by simp only; rw [hfil, List.map_append]; exact hB'⟩, by simp only; omega⟩
        · have hcr : crossP sq sq[i] = false := by simp only [crossP, ← ha']; simp [hc1]
          rw [hcr] at hfil
          simp at hfil
          simp only [EVa, EVb, params, nilOk, bound, awayFrom, evM, fillA, setEls, Opd.ev, Fr.get, prune, Option.map, isB, tB, nB, isG, gT, gF, evRes, mapO, one, Nat.reduceAdd, Nat.reduceLeDiff, Nat.reduceEqDiff, Nat.reduceMul, Nat.reduceSub, Nat.reduceLT, Nat.reduceBEq, reduceCtorEq, ↓reduceIte, Int.reduceToNat, Int.reduceLE, Int.reduceLT, Int.reduceEq, Int.reduceAdd, Int.reduceSub, Int.reduceMul, List.reduceReplicate, e4]
          exact ⟨(_, _, _), ⟨rfl, rfl⟩, ⟨hlt, by simp only; rw [hfil]; exact hBG⟩, by simp only; omega⟩
  · have : i = sq.length := by omega
    subst this
    rw [List.take_length] at hB
    have hg := hB.gbT (d := 7) (gb_map (f := avXY) (fun _ => rfl) _)
    simp only [m88l16, m88r0, m88r1, m88r2, m88r3, m88r4, m88r5, m88r6, m88r7, m88r8, m88r9, m88r10, m88r11, m88r13, m88r14, m88r15, m88r17, m88, EVa, EVb, params, nilOk, bound, awayFrom, evM, fillA, setEls, Opd.ev, Fr.get, prune, Option.map, isB, tB, nB, isG, gT, gF, evRes, mapO, one, Nat.reduceAdd, Nat.reduceLeDiff, Nat.reduceEqDiff, Nat.reduceMul, Nat.reduceSub, Nat.reduceLT, Nat.reduceBEq, reduceCtorEq, ↓reduceIte, Int.reduceToNat, Int.reduceLE, Int.reduceLT, Int.reduceEq, Int.reduceAdd, Int.reduceSub, Int.reduceMul, List.reduceReplicate, hlt, hg]
theorem k88 (w h : Int) (p nil : Bool) (sq : List Sq) (hb : Bds sq) {d : Option Nat} {os : List MOp} {live : List Nat} {S : List KF} {Q : FQ} {fr : Fr} {A : Heap} : WCR T .ro 88 [.agg [.int .i64 w, .int .i64 h, .lst p 3 nil (sq.map avS)]] d os live S Q fr A ↔ WP T os live S Q (putd d (.lst true 1 false ((sq.filter (crossP sq)).map avXY)) fr) A := (p88 w h p nil sq hb).call (by simp only [mapO, depth_is, bo_agg, bo_int, bo_bool, bo_str, bo_lst, bo_lS, bo_rp, bo_fn])
end Go.Ev.Z
end

section
set_option maxRecDepth 100000
set_option linter.unusedSimpArgs false
set_option linter.unusedVariables false
namespace Go.Ev.Z
open Go Go.Ev
theorem t106 : T 106 = some (.code m106) := rfl
theorem t104 : T 104 = some (.code m104) := rfl
theorem t102 : T 102 = some (.code m102) := rfl
theorem r106 (A : Heap) (id : Nat) (sq : List Sq) (hA : A[id]? = some ⟨80, 3, sq.map avS⟩) (hb : Bds sq) (h1 : 1 ≤ sq.length) :
    Runs T 106 [.sl id 3 sq.length 0 sq.length, .int .i64 0, .int .i64 sq.length, .fn 103 [] []] A (.tup []) (A.set id ⟨80, 3, (sortP sq).map avS⟩) := by
  refine Runs.of ?_
  rw [WS_of t106]
  have hl := hb.1
  have hid := lt_of_get hA
  have w01 : IntKind.i64.wrap 1 = 1 := wrap_in 1 (by omega) (by omega)
  simp only [m106r0, m106r1, m106r2, m106r3, m106r4, m106r5, m106r7, m106, EVa, EVb, params, nilOk, bound, awayFrom, evM, fillA, setEls, Opd.ev, Fr.get, prune, Option.map, isB, tB, nB, isG, gT, gF, evRes, mapO, one, Nat.reduceAdd, Nat.reduceLeDiff, Nat.reduceEqDiff, Nat.reduceMul, Nat.reduceSub, Nat.reduceLT, Nat.reduceBEq, reduceCtorEq, ↓reduceIte, Int.reduceToNat, Int.reduceLE, Int.reduceLT, Int.reduceEq, Int.reduceAdd, Int.reduceSub, Int.reduceMul, List.reduceReplicate, w01]
  have g1 : ∀ els, (A.set id ⟨80, 3, els⟩)[id]? = some ⟨80, 3, els⟩ := fun els => h_set_get hid
  refine WS_loop' (σ := Nat) (fun s => [(0, .sl id 3 sq.length 0 sq.length), (1, .int .i64 0), (2, .int .i64 sq.length), (3, .fn 103 [] []), (8, .int .i64 s)])
    (fun s => A.set id ⟨80, 3, ((sq.take s).foldl insP [] ++ sq.drop s).map avS⟩) (fun s => sq.length - s) (fun s => 1 ≤ s ∧ s ≤ sq.length) 1 rfl ?_ ⟨Nat.le_refl _, h1⟩ ?_
  · have : (sq.take 1).foldl insP [] ++ sq.drop 1 = sq := by
      cases sq with
      | nil => simp at h1
      | cons s r => rfl
    rw [this]
    obtain ⟨_, hg⟩ := List.getElem?_eq_some_iff.1 hA
    rw [← hg, List.set_getElem_self]
  rintro i ⟨hi1, hi⟩
  by_cases hlt : i < sq.length
  · have e4 := wsucc (i := i) (by omega)
    have hfold := fold_take insP sq [] i hlt
    have hol : ((sq.take i).foldl insP []).length = i := by rw [fold_insP_len]; simp; omega
    have hom : ∀ q, q ∈ (sq.take i).foldl insP [] → Bd q := fun q hq => by
      rw [mem_fold_insP] at hq
      rcases hq with hq | hq
      · cases hq
      · exact hb.2 _ (List.mem_of_mem_take hq)
    rw [List.drop_eq_getElem_cons hlt]
    generalize (sq.take i).foldl insP [] = out at hfold hol hom ⊢
    simp only [m106l8, m106r0, m106r1, m106r2, m106r3, m106r4, m106r5, m106r7, m106, EVa, EVb, params, nilOk, bound, awayFrom, evM, fillA, setEls, Opd.ev, Fr.get, prune, Option.map, isB, tB, nB, isG, gT, gF, evRes, mapO, one, Nat.reduceAdd, Nat.reduceLeDiff, Nat.reduceEqDiff, Nat.reduceMul, Nat.reduceSub, Nat.reduceLT, Nat.reduceBEq, reduceCtorEq, ↓reduceIte, Int.reduceToNat, Int.reduceLE, Int.reduceLT, Int.reduceEq, Int.reduceAdd, Int.reduceSub, Int.reduceMul, List.reduceReplicate, hlt]
    refine WS_loop' (σ := Nat) (fun s => [(0, .sl id 3 sq.length 0 sq.length), (1, .int .i64 0), (2, .int .i64 sq.length), (3, .fn 103 [] []), (8, .int .i64 i), (9, .int .i64 s)])
      (fun s => A.set id ⟨80, 3, (atL out (sq.drop (i + 1)) sq[i] s).map avS⟩) (fun s => s) (fun s => s ≤ out.length ∧ posP sq[i] out s = posP sq[i] out out.length) i rfl (by have hst := atL_start out (sq.drop (i + 1)) sq[i]; rw [hol] at hst; rw [hst]) ⟨by omega, by rw [hol]⟩ ?_
    rintro j ⟨hj, hpos⟩
    have hlenL : ∀ j, j ≤ out.length → (atL out (sq.drop (i + 1)) sq[i] j).length = sq.length := fun j hj => by rw [atL_len hj]; simp; omega
    rcases Nat.eq_zero_or_pos j with hj0 | hjp
    · have u2 : ((0 : Int) < (j : Int)) = False := eq_false (by omega)
      have hp : j = posP sq[i] out out.length := by rw [← hpos, hj0]; rfl
      simp only [m106l6, m106r0, m106r1, m106r2, m106r3, m106r4, m106r5, m106r7, m106, EVa, EVb, params, nilOk, bound, awayFrom, evM, fillA, setEls, Opd.ev, Fr.get, prune, Option.map, isB, tB, nB, isG, gT, gF, evRes, mapO, one, Nat.reduceAdd, Nat.reduceLeDiff, Nat.reduceEqDiff, Nat.reduceMul, Nat.reduceSub, Nat.reduceLT, Nat.reduceBEq, reduceCtorEq, ↓reduceIte, Int.reduceToNat, Int.reduceLE, Int.reduceLT, Int.reduceEq, Int.reduceAdd, Int.reduceSub, Int.reduceMul, List.reduceReplicate, u2, e4]
      exact ⟨_, ⟨rfl, by rw [atL_end hp, ← hfold]⟩, ⟨by omega, hlt⟩, by simp only; omega⟩
    · obtain ⟨m, rfl⟩ : ∃ m, j = m + 1 := ⟨j - 1, by omega⟩
      have hml : m < out.length := hj
      have u1 : IntKind.i64.wrap (((m + 1 : Nat) : Int) - 1) = (m : Int) := by rw [wrap_in _ (by omega) (by omega)]; omega
      have u2 : ((0 : Int) < ((m + 1 : Nat) : Int)) = True := eq_true (by omega)
      have u3 : m + 1 < sq.length := by omega
      have u4 : m < sq.length := by omega
      have g2 : ((atL out (sq.drop (i + 1)) sq[i] (m + 1)).map avS)[m + 1]? = some (.agg [.int .i64 sq[i].x, .int .i64 sq[i].y, .int .i64 sq[i].d]) := by rw [List.getElem?_map, atL_at hj]; rfl
      have g3 : ((atL out (sq.drop (i + 1)) sq[i] (m + 1)).map avS)[m]? = some (.agg [.int .i64 out[m].x, .int .i64 out[m].y, .int .i64 out[m].d]) := by rw [List.getElem?_map, atL_prev hml]; rfl
      have g4 : (((atL out (sq.drop (i + 1)) sq[i] (m + 1)).map avS).set (m + 1) (.agg [.int .i64 out[m].x, .int .i64 out[m].y, .int .i64 out[m].d]))[m]? = some (.agg [.int .i64 out[m].x, .int .i64 out[m].y, .int .i64 out[m].d]) := by
        rw [List.getElem?_set_ne (by omega), g3]
      have g5 : (((atL out (sq.drop (i + 1)) sq[i] (m + 1)).map avS).set (m + 1) (.agg [.int .i64 out[m].x, .int .i64 out[m].y, .int .i64 out[m].d])).set m (.agg [.int .i64 sq[i].x, .int .i64 sq[i].y, .int .i64 sq[i].d]) = (atL out (sq.drop (i + 1)) sq[i] m).map avS := by
        rw [← atL_swap hml, List.map_set, List.map_set]; rfl
      have g6 := hlenL (m + 1) hj
      have hcmp := cmp_less (s := sq[i]) (q := out[m]) (hb.2 _ (List.getElem_mem hlt)) (hom _ (List.getElem_mem hml))
      have hpos' : posP sq[i] out (m + 1) = if lessP sq[i] out[m] = true then posP sq[i] out m else m + 1 := by simp [posP, hml]
      rw [hpos'] at hpos
      by_cases hls : lessP sq[i] out[m] = true
      · rw [if_pos hls] at hpos
        simp only [m106l6, m106r0, m106r1, m106r2, m106r3, m106r4, m106r5, m106r7, m106, EVa, EVb, params, nilOk, bound, awayFrom, evM, fillA, setEls, Opd.ev, Fr.get, prune, Option.map, isB, tB, nB, isG, gT, gF, evRes, mapO, one, Nat.reduceAdd, Nat.reduceLeDiff, Nat.reduceEqDiff, Nat.reduceMul, Nat.reduceSub, Nat.reduceLT, Nat.reduceBEq, reduceCtorEq, ↓reduceIte, Int.reduceToNat, Int.reduceLE, Int.reduceLT, Int.reduceEq, Int.reduceAdd, Int.reduceSub, Int.reduceMul, List.reduceReplicate, u1, u2, u3, u4, g1, g2, g3, g4, g5, g6, k103, hcmp, hls, List.set_set]
        exact ⟨m, ⟨rfl, rfl⟩, ⟨Nat.le_of_lt hml, hpos⟩, by simp⟩
      · rw [if_neg hls] at hpos
        simp only [m106l6, m106r0, m106r1, m106r2, m106r3, m106r4, m106r5, m106r7, m106, EVa, EVb, params, nilOk, bound, awayFrom, evM, fillA, setEls, Opd.ev, Fr.get, prune, Option.map, isB, tB, nB, isG, gT, gF, evRes, mapO, one, Nat.reduceAdd, Nat.reduceLeDiff, Nat.reduceEqDiff, Nat.reduceMul, Nat.reduceSub, Nat.reduceLT, Nat.reduceBEq, reduceCtorEq, ↓reduceIte, Int.reduceToNat, Int.reduceLE, Int.reduceLT, Int.reduceEq, Int.reduceAdd, Int.reduceSub, Int.reduceMul, List.reduceReplicate, u1, u2, u3, u4, g1, g2, g3, g4, g5, g6, k103, hcmp, hls, e4]
        exact ⟨_, ⟨rfl, by rw [atL_end (show m + 1 = _ from hpos), ← hfold]⟩, ⟨by omega, hlt⟩, by simp only; omega⟩
  · have : i = sq.length := by omega
    subst this
    simp only [m106l8, m106r0, m106r1, m106r2, m106r3, m106r4, m106r5, m106r7, m106, EVa, EVb, params, nilOk, bound, awayFrom, evM, fillA, setEls, Opd.ev, Fr.get, prune, Option.map, isB, tB, nB, isG, gT, gF, evRes, mapO, one, Nat.reduceAdd, Nat.reduceLeDiff, Nat.reduceEqDiff, Nat.reduceMul, Nat.reduceSub, Nat.reduceLT, Nat.reduceBEq, reduceCtorEq, ↓reduceIte, Int.reduceToNat, Int.reduceLE, Int.reduceLT, Int.reduceEq, Int.reduceAdd, Int.reduceSub, Int.reduceMul, List.reduceReplicate, hlt]
    rw [List.take_length, List.drop_length, List.append_nil]; rfl
theorem len_run (n : Nat) (h : n ≤ 12) : ∃ r, Pure T 105 [.int .u64 (IntKind.u64.wrap (n : Int))] (.int .i64 r) := by
  have key : ∀ (r : Int), Runs T 105 [.int .u64 (IntKind.u64.wrap (n : Int))] [] (.int .i64 r) [] → Pure T 105 [.int .u64 (IntKind.u64.wrap (n : Int))] (.int .i64 r) := fun r hr => (Runs.iff hr).2 rfl
  match n, h with
  | 0, _ => exact ⟨0, key 0 (Runs.ofX (n := 10) (k := 5) (by kernel_rfl))⟩
  | 1, _ => exact ⟨1, key 1 (Runs.ofX (n := 10) (k := 5) (by kernel_rfl))⟩
  | 2, _ => exact ⟨2, key 2 (Runs.ofX (n := 10) (k := 5) (by kernel_rfl))⟩
  | 3, _ => exact ⟨2, key 2 (Runs.ofX (n := 10) (k := 5) (by kernel_rfl))⟩
  | 4, _ => exact ⟨3, key 3 (Runs.ofX (n := 10) (k := 5) (by kernel_rfl))⟩
  | 5, _ => exact ⟨3, key 3 (Runs.ofX (n := 10) (k := 5) (by kernel_rfl))⟩
  | 6, _ => exact ⟨3, key 3 (Runs.ofX (n := 10) (k := 5) (by kernel_rfl))⟩
  | 7, _ => exact ⟨3, key 3 (Runs.ofX (n := 10) (k := 5) (by kernel_rfl))⟩
  | 8, _ => exact ⟨4, key 4 (Runs.ofX (n := 10) (k := 5) (by kernel_rfl))⟩
  | 9, _ => exact ⟨4, key 4 (Runs.ofX (n := 10) (k := 5) (by kernel_rfl))⟩
  | 10, _ => exact ⟨4, key 4 (Runs.ofX (n := 10) (k := 5) (by kernel_rfl))⟩
  | 11, _ => exact ⟨4, key 4 (Runs.ofX (n := 10) (k := 5) (by kernel_rfl))⟩
  | 12, _ => exact ⟨4, key 4 (Runs.ofX (n := 10) (k := 5) (by kernel_rfl))⟩
  | n + 13, h => omega
theorem r104 (A : Heap) (id : Nat) (sq : List Sq) (lim : Int) (hA : A[id]? = some ⟨80, 3, sq.map avS⟩) (hb : Bds sq) (h1 : 1 ≤ sq.length) (h12 : sq.length ≤ 12) :
    Runs T 104 [.sl id 3 sq.length 0 sq.length, .int .i64 0, .int .i64 sq.length, .int .i64 lim, .fn 103 [] []] A (.tup []) (A.set id ⟨80, 3, (sortP sq).map avS⟩) := by
  refine Runs.of ?_
  rw [WS_of t104]
  simp only [m104r0, m104r1, m104r2, m104r3, m104r4, m104r5, m104r6, m104r7, m104r8, m104r9, m104r10, m104r11, m104r12, m104r13, m104r14, m104r15, m104r16, m104r17, m104r18, m104r19, m104r20, m104r21, m104r22, m104r23, m104r24, m104r25, m104r26, m104r27, m104r28, m104r29, m104r30, m104, EVa, EVb, params, nilOk, bound, awayFrom, evM, fillA, setEls, Opd.ev, Fr.get, prune, Option.map, isB, tB, nB, isG, gT, gF, evRes, mapO, one, Nat.reduceAdd, Nat.reduceLeDiff, Nat.reduceEqDiff, Nat.reduceMul, Nat.reduceSub, Nat.reduceLT, Nat.reduceBEq, reduceCtorEq, ↓reduceIte, Int.reduceToNat, Int.reduceLE, Int.reduceLT, Int.reduceEq, Int.reduceAdd, Int.reduceSub, Int.reduceMul, List.reduceReplicate]
  refine WS_loop' (σ := Unit) (fun _ => [(0, .sl id 3 sq.length 0 sq.length), (1, .int .i64 0), (2, .int .i64 sq.length), (3, .int .i64 lim), (4, .fn 103 [] []), (10, .bool true), (11, .bool true)])
    (fun _ => A) (fun _ => 0) (fun _ => True) () rfl rfl trivial ?_
  rintro _ _
  have w0 : IntKind.i64.wrap ((sq.length : Int) - 0) = sq.length := by rw [wrap_in _ (by omega) (by omega)]; omega
  have w1 : ((sq.length : Int) ≤ 12) = True := eq_true (by omega)
  have hi := (r106 A id sq hA hb h1)
  simp only [m104l31, m104r0, m104r1, m104r2, m104r3, m104r4, m104r5, m104r6, m104r7, m104r8, m104r9, m104r10, m104r11, m104r12, m104r13, m104r14, m104r15, m104r16, m104r17, m104r18, m104r19, m104r20, m104r21, m104r22, m104r23, m104r24, m104r25, m104r26, m104r27, m104r28, m104r29, m104r30, m104, EVa, EVb, params, nilOk, bound, awayFrom, evM, fillA, setEls, Opd.ev, Fr.get, prune, Option.map, isB, tB, nB, isG, gT, gF, evRes, mapO, one, Nat.reduceAdd, Nat.reduceLeDiff, Nat.reduceEqDiff, Nat.reduceMul, Nat.reduceSub, Nat.reduceLT, Nat.reduceBEq, reduceCtorEq, ↓reduceIte, Int.reduceToNat, Int.reduceLE, Int.reduceLT, Int.reduceEq, Int.reduceAdd, Int.reduceSub, Int.reduceMul, List.reduceReplicate, w0, w1, WCR_inl, hi.iff]
theorem r102 (A : Heap) (id : Nat) (sq : List Sq) (hA : A[id]? = some ⟨80, 3, sq.map avS⟩) (hb : Bds sq) (h1 : 1 ≤ sq.length) (h12 : sq.length ≤ 12) :
    Runs T 102 [.sl id 3 sq.length 0 sq.length, .fn 103 [] []] A (.tup []) (A.set id ⟨80, 3, (sortP sq).map avS⟩) := by
  refine Runs.of ?_
  rw [WS_of t102]
  obtain ⟨r, hr⟩ := len_run sq.length h12
  have hc := fun {d os live S Q fr A} => Pure.call (args := [.int .u64 (IntKind.u64.wrap (sq.length : Int))]) (d := d) (os := os) (live := live) (S := S) (Q := Q) (fr := fr) (A := A) hr rfl
  have hi := (r104 A id sq r hA hb h1 h12)
  simp only [m102r0, m102r1, m102, EVa, EVb, params, nilOk, bound, awayFrom, evM, fillA, setEls, Opd.ev, Fr.get, prune, Option.map, isB, tB, nB, isG, gT, gF, evRes, mapO, one, Nat.reduceAdd, Nat.reduceLeDiff, Nat.reduceEqDiff, Nat.reduceMul, Nat.reduceSub, Nat.reduceLT, Nat.reduceBEq, reduceCtorEq, ↓reduceIte, Int.reduceToNat, Int.reduceLE, Int.reduceLT, Int.reduceEq, Int.reduceAdd, Int.reduceSub, Int.reduceMul, List.reduceReplicate, hc, WCR_inl, hi.iff]
end Go.Ev.Z
end

section
set_option maxRecDepth 100000
set_option linter.unusedSimpArgs false
set_option linter.unusedVariables false
namespace Go.Ev.Z
open Go Go.Ev
theorem t100 : T 100 = some (.code m100) := rfl
theorem p100 (w0 h0 w h : Int) (p nil : Bool) (sq : List Sq) (g : FuncId) (caps : List AV) (f : Sq → Sq) (hf : ∀ s, s ∈ sq → Pure T g (avS s :: caps) (avS (f s))) (hc : ∀ A, mapO (borrow A 8) caps = some caps) (hc5 : ∀ A, mapO (borrow A 7) caps = some caps) (hb : Bds (sq.map f)) (h1 : 1 ≤ sq.length) (h12 : sq.length ≤ 12) : Pure T 100 [.agg [.int .i64 w0, .int .i64 h0, .lst p 3 nil (sq.map avS)], .int .i64 w, .int .i64 h, .fn g [] caps] (.agg [.int .i64 w, .int .i64 h, .lst true 3 false ((sortP (sq.map f)).map avS)]) := by
  rw [Pure_of t100]
  simp only [m100r0, m100r1, m100r2, m100r3, m100r4, m100r5, m100r6, m100r8, m100r9, m100, EVa, EVb, params, nilOk, bound, awayFrom, evM, fillA, setEls, Opd.ev, Fr.get, prune, Option.map, isB, tB, nB, isG, gT, gF, evRes, mapO, one, Nat.reduceAdd, Nat.reduceLeDiff, Nat.reduceEqDiff, Nat.reduceMul, Nat.reduceSub, Nat.reduceLT, Nat.reduceBEq, reduceCtorEq, ↓reduceIte, Int.reduceToNat, Int.reduceLE, Int.reduceLT, Int.reduceEq, Int.reduceAdd, Int.reduceSub, Int.reduceMul, List.reduceReplicate]
  refine WS_loop' (σ := Nat × AV × Heap) (fun s => [(3, .fn g [] caps), (8, .ptr 0 1 0 0), (9, .ptr 1 1 0 0), (16, .lst p 3 nil (sq.map avS)), (17, .int .i64 sq.length), (18, .int .i64 s.1)])
    (fun s => s.2.2) (fun s => sq.length - s.1) (fun s => s.1 ≤ sq.length ∧ Bld s.2.2 80 3 s.2.1 (((sq.take s.1).map f).map avS) ∧ (s.2.2[0]? = some ⟨37, 3, [.agg [.int .i64 0, .int .i64 0, .lst true 0 true []]]⟩ ∧ s.2.2[1]? = some ⟨37, 3, [.agg [.int .i64 w, .int .i64 h, s.2.1]]⟩) ∧ Off s.2.1 0 ∧ Off s.2.1 1) (0, .lst true 0 true [], _) rfl rfl ⟨by simp, Bld.nil _ _ _, ⟨rfl, rfl⟩, Off.nil _, Off.nil _⟩ ?_
  rintro ⟨i, v, H⟩ ⟨hi, hB, ⟨g0, g1⟩, ho0, ho1⟩
  dsimp only at hi hB g0 g1 ho0 ho1
  by_cases hlt : i < sq.length
  · have e1 : (sq.map avS)[i]? = some (avS sq[i]) := map_get hlt
    have e4 := wsucc (i := i) (by omega)
    have hcall : ∀ {d os live S Q fr A}, WCR T .ro g (.agg [.int .i64 sq[i].x, .int .i64 sq[i].y, .int .i64 sq[i].d] :: caps) d os live S Q fr A ↔ WP T os live S Q (putd d (avS (f sq[i])) fr) A := by
      intro d os live S Q fr A
      exact (hf sq[i] (List.getElem_mem hlt)).call (by simp only [mapO, depth_is, bo_agg, bo_int, hc, avS])
    have g1' : ∀ b, (H ++ [b])[1]? = some ⟨37, 3, [.agg [.int .i64 w, .int .i64 h, v]]⟩ := fun b => h_get_of g1
    have l1 := lt_of_get g1
    simp only [m100l7, m100r0, m100r1, m100r2, m100r3, m100r4, m100r5, m100r6, m100r8, m100r9, m100, EVa, EVb, params, nilOk, bound, awayFrom, evM, fillA, setEls, Opd.ev, Fr.get, prune, Option.map, isB, tB, nB, isG, gT, gF, evRes, mapO, one, Nat.reduceAdd, Nat.reduceLeDiff, Nat.reduceEqDiff, Nat.reduceMul, Nat.reduceSub, Nat.reduceLT, Nat.reduceBEq, reduceCtorEq, ↓reduceIte, Int.reduceToNat, Int.reduceLE, Int.reduceLT, Int.reduceEq, Int.reduceAdd, Int.reduceSub, Int.reduceMul, List.reduceReplicate, e1, hlt, avS, hcall, g1']
    refine WV_app' hB.more (by simp; omega) ?_
    intro v' A' hB' hL' hF'
    have hx0 := hF' 0 (by simp) ho0
    have hx1 := hF' 1 (by simp; omega) ho1
    have k1 : A'[1]? = some ⟨37, 3, [.agg [.int .i64 w, .int .i64 h, v]]⟩ := by rw [hx1.2]; exact g1' _
    have hsv : scalV v' = true := by
      rcases hB' with ⟨rfl, _⟩ | ⟨id, rfl, _⟩ <;> rfl
    simp only [EVa, EVb, params, nilOk, bound, awayFrom, evM, fillA, setEls, Opd.ev, Fr.get, prune, Option.map, isB, tB, nB, isG, gT, gF, evRes, mapO, one, Nat.reduceAdd, Nat.reduceLeDiff, Nat.reduceEqDiff, Nat.reduceMul, Nat.reduceSub, Nat.reduceLT, Nat.reduceBEq, reduceCtorEq, ↓reduceIte, Int.reduceToNat, Int.reduceLE, Int.reduceLT, Int.reduceEq, Int.reduceAdd, Int.reduceSub, Int.reduceMul, List.reduceReplicate, k1, hsv, e4]
    refine ⟨(_, v', _), ⟨rfl, rfl⟩, ⟨hlt, ?_, ⟨?_, ?_⟩, hx0.1, hx1.1⟩, by simp only; omega⟩
    · simp only
      rw [List.take_succ_eq_append_getElem hlt, List.map_append, List.map_append]
      exact hB'.set hx1.1
    · simp only
      rw [List.getElem?_set_ne (by omega), hx0.2]; exact h_get_of g0
    · exact h_set_get (lt_of_get k1)
  · have : i = sq.length := by omega
    subst this
    rw [List.take_length] at hB
    obtain ⟨id, hv, hid⟩ := hB.get (by simp; intro h; subst h; simp at h1)
    subst hv
    have hlm : (sq.map f).length = sq.length := List.length_map ..
    rw [List.length_map, hlm] at ho0 ho1 g1
    have n0 : id ≠ 0 := ho0 _ _ _ _ _ rfl
    have n1 : id ≠ 1 := ho1 _ _ _ _ _ rfl
    have hs := r102 H id (sq.map f) hid hb (by omega) (by omega)
    rw [hlm] at hs
    have k0 : (H.set id ⟨80, 3, (sortP (sq.map f)).map avS⟩)[0]? = some ⟨37, 3, [.agg [.int .i64 0, .int .i64 0, .lst true 0 true []]]⟩ := by rw [List.getElem?_set_ne n0, g0]
    have k1 : (H.set id ⟨80, 3, (sortP (sq.map f)).map avS⟩)[1]? = some ⟨37, 3, [.agg [.int .i64 w, .int .i64 h, .sl id 3 sq.length 0 sq.length]]⟩ := by rw [List.getElem?_set_ne n1, g1]
    have k2 : ∀ b, ((H.set id ⟨80, 3, (sortP (sq.map f)).map avS⟩).set 0 b)[0]? = some b := fun b => h_set_get (lt_of_get k0)
    have k3 : ∀ b, ((H.set id ⟨80, 3, (sortP (sq.map f)).map avS⟩).set 0 b)[id]? = some ⟨80, 3, (sortP (sq.map f)).map avS⟩ := fun b => by
      rw [List.getElem?_set_ne (Ne.symm n0), h_set_get (lt_of_get hid)]
    have k4 : (sortP (sq.map f)).length = sq.length := by rw [sortP_len, hlm]
    have k5 : ((sortP (sq.map f)).map avS).take sq.length = (sortP (sq.map f)).map avS := List.take_of_length_le (by simp [k4])
    have hg := fun A => gb_avS A 4 (sortP (sq.map f))
    have hlen2 : ((sq.map f).map avS).length = sq.length := by simp
    simp only [m100l7, m100r0, m100r1, m100r2, m100r3, m100r4, m100r5, m100r6, m100r8, m100r9, m100, EVa, EVb, params, nilOk, bound, awayFrom, evM, fillA, setEls, Opd.ev, Fr.get, prune, Option.map, isB, tB, nB, isG, gT, gF, evRes, mapO, one, Nat.reduceAdd, Nat.reduceLeDiff, Nat.reduceEqDiff, Nat.reduceMul, Nat.reduceSub, Nat.reduceLT, Nat.reduceBEq, reduceCtorEq, ↓reduceIte, Int.reduceToNat, Int.reduceLE, Int.reduceLT, Int.reduceEq, Int.reduceAdd, Int.reduceSub, Int.reduceMul, List.reduceReplicate, hlt, g1, WCR_inl, hs.iff, k0, k1, k2, k3, k4, k5, hg, hlen2]
theorem k100 (w0 h0 w h : Int) (p nil : Bool) (sq : List Sq) (g : FuncId) (caps : List AV) (f : Sq → Sq) (hf : ∀ s, s ∈ sq → Pure T g (avS s :: caps) (avS (f s))) (hc : ∀ A, mapO (borrow A 8) caps = some caps) (hc5 : ∀ A, mapO (borrow A 7) caps = some caps) (hb : Bds (sq.map f)) (h1 : 1 ≤ sq.length) (h12 : sq.length ≤ 12) {d : Option Nat} {os : List MOp} {live : List Nat} {S : List KF} {Q : FQ} {fr : Fr} {A : Heap} : WCR T .ro 100 [.agg [.int .i64 w0, .int .i64 h0, .lst p 3 nil (sq.map avS)], .int .i64 w, .int .i64 h, .fn g [] caps] d os live S Q fr A ↔ WP T os live S Q (putd d (.agg [.int .i64 w, .int .i64 h, .lst true 3 false ((sortP (sq.map f)).map avS)]) fr) A := (p100 w0 h0 w h p nil sq g caps f hf hc hc5 hb h1 h12).call (by simp only [mapO, depth_is, bo_agg, bo_int, bo_lS, bo_fn, hc5])
theorem t101 : T 101 = some (.code m101) := rfl
theorem p101 (s1 s2 s3 w h : Int) (p nil : Bool) (sq : List Sq) (hs : (0 ≤ s2 ∧ s2 ≤ 1000) ∧ (0 ≤ s3 ∧ s3 ≤ 1000)) (hh : 0 ≤ h ∧ h ≤ 1000) : Pure T 101 [.agg [.int .i64 s1, .int .i64 s2, .int .i64 s3], .rp [.int .i64 w, .int .i64 h, .lst p 3 nil (sq.map avS)] 0] (.agg [.int .i64 (h - s2 - s3), .int .i64 s1, .int .i64 s3]) := by
  rw [Pure_of t101]
  have v1 := wrap_in (h - s2) (by omega) (by omega)
  have v2 := wrap_in (h - s2 - s3) (by omega) (by omega)
  simp only [m101r0, m101r1, m101, EVa, EVb, params, nilOk, bound, awayFrom, evM, fillA, setEls, Opd.ev, Fr.get, prune, Option.map, isB, tB, nB, isG, gT, gF, evRes, mapO, one, Nat.reduceAdd, Nat.reduceLeDiff, Nat.reduceEqDiff, Nat.reduceMul, Nat.reduceSub, Nat.reduceLT, Nat.reduceBEq, reduceCtorEq, ↓reduceIte, Int.reduceToNat, Int.reduceLE, Int.reduceLT, Int.reduceEq, Int.reduceAdd, Int.reduceSub, Int.reduceMul, List.reduceReplicate, v1, v2]
theorem k101 (s1 s2 s3 w h : Int) (p nil : Bool) (sq : List Sq) (hs : (0 ≤ s2 ∧ s2 ≤ 1000) ∧ (0 ≤ s3 ∧ s3 ≤ 1000)) (hh : 0 ≤ h ∧ h ≤ 1000) {d : Option Nat} {os : List MOp} {live : List Nat} {S : List KF} {Q : FQ} {fr : Fr} {A : Heap} : WCR T .ro 101 [.agg [.int .i64 s1, .int .i64 s2, .int .i64 s3], .rp [.int .i64 w, .int .i64 h, .lst p 3 nil (sq.map avS)] 0] d os live S Q fr A ↔ WP T os live S Q (putd d (.agg [.int .i64 (h - s2 - s3), .int .i64 s1, .int .i64 s3]) fr) A := (p101 s1 s2 s3 w h p nil sq hs hh).call (by simp only [mapO, depth_is, bo_agg, bo_int, bo_bool, bo_str, bo_lst, bo_lS, bo_rp, bo_fn])
theorem t98 : T 98 = some (.code m98) := rfl
theorem p98 (w h : Int) (p nil : Bool) (sq : List Sq) (hb0 : Bds sq) (hh : 0 ≤ h ∧ h ≤ 1000) (hb : Bds (sq.map (turnS h))) (h1 : 1 ≤ sq.length) (h12 : sq.length ≤ 12) : Pure T 98 [.agg [.int .i64 w, .int .i64 h, .lst p 3 nil (sq.map avS)]] (.agg [.int .i64 h, .int .i64 w, .lst true 3 false ((sortP (sq.map (turnS h))).map avS)]) := by
  rw [Pure_of t98]
  have hbo : ∀ A, mapO (borrow A 8) [.rp [.int .i64 w, .int .i64 h, .lst p 3 nil (sq.map avS)] 0] = some [.rp [.int .i64 w, .int .i64 h, .lst p 3 nil (sq.map avS)] 0] := fun A => by simp only [mapO, bo_rp, bo_int, bo_lS]
  have hbo5 : ∀ A, mapO (borrow A 7) [.rp [.int .i64 w, .int .i64 h, .lst p 3 nil (sq.map avS)] 0] = some [.rp [.int .i64 w, .int .i64 h, .lst p 3 nil (sq.map avS)] 0] := fun A => by simp only [mapO, bo_rp, bo_int, bo_lS]
  have hk := fun {d os live S Q fr A} => k100 w h h w p nil sq 101 [.rp [.int .i64 w, .int .i64 h, .lst p 3 nil (sq.map avS)] 0] (turnS h)
    (fun s hs => p101 s.x s.y s.d w h p nil sq ⟨(hb0.2 s hs).2.1, (hb0.2 s hs).2.2⟩ hh) hbo hbo5 hb h1 h12 (d := d) (os := os) (live := live) (S := S) (Q := Q) (fr := fr) (A := A)
  simp only [m98r0, m98r1, m98, EVa, EVb, params, nilOk, bound, awayFrom, evM, fillA, setEls, Opd.ev, Fr.get, prune, Option.map, isB, tB, nB, isG, gT, gF, evRes, mapO, one, Nat.reduceAdd, Nat.reduceLeDiff, Nat.reduceEqDiff, Nat.reduceMul, Nat.reduceSub, Nat.reduceLT, Nat.reduceBEq, reduceCtorEq, ↓reduceIte, Int.reduceToNat, Int.reduceLE, Int.reduceLT, Int.reduceEq, Int.reduceAdd, Int.reduceSub, Int.reduceMul, List.reduceReplicate, hk]
theorem k98 (w h : Int) (p nil : Bool) (sq : List Sq) (hb0 : Bds sq) (hh : 0 ≤ h ∧ h ≤ 1000) (hb : Bds (sq.map (turnS h))) (h1 : 1 ≤ sq.length) (h12 : sq.length ≤ 12) {d : Option Nat} {os : List MOp} {live : List Nat} {S : List KF} {Q : FQ} {fr : Fr} {A : Heap} : WCR T .ro 98 [.agg [.int .i64 w, .int .i64 h, .lst p 3 nil (sq.map avS)]] d os live S Q fr A ↔ WP T os live S Q (putd d (.agg [.int .i64 h, .int .i64 w, .lst true 3 false ((sortP (sq.map (turnS h))).map avS)]) fr) A := (p98 w h p nil sq hb0 hh hb h1 h12).call (by simp only [mapO, depth_is, bo_agg, bo_int, bo_bool, bo_str, bo_lst, bo_lS, bo_rp, bo_fn])
end Go.Ev.Z
end

section
set_option maxRecDepth 100000
set_option linter.unusedSimpArgs false
set_option linter.unusedVariables false
namespace Go.Ev.Z
open Go Go.Ev
theorem t99 : T 99 = some (.code m99) := rfl
theorem p99 (W Hh : Nat) (p nil : Bool) (sq : List Sq) (hb : Bds sq) (hin : ∀ s, s ∈ sq → s.x + s.d ≤ W) (hW : W ≤ 1000) (hH : Hh ≤ 1000) : Pure T 99 [.agg [.int .i64 (W : Int), .int .i64 (Hh : Int), .lst p 3 nil (sq.map avS)]] (.lst true 1 false ((rowsP W Hh sq).map avR)) := by
  rw [Pure_of t99]
  have hl := hb.1
  have wh := wsucc (i := Hh) (by omega)
  simp only [m99r0, m99r1, m99r2, m99r3, m99r4, m99r5, m99r6, m99r7, m99r8, m99r9, m99r10, m99r11, m99r12, m99r13, m99r15, m99r17, m99r18, m99r19, m99r20, m99r21, m99r22, m99r23, m99r24, m99r26, m99r28, m99, EVa, EVb, params, nilOk, bound, awayFrom, evM, fillA, setEls, Opd.ev, Fr.get, prune, Option.map, isB, tB, nB, isG, gT, gF, evRes, mapO, one, Nat.reduceAdd, Nat.reduceLeDiff, Nat.reduceEqDiff, Nat.reduceMul, Nat.reduceSub, Nat.reduceLT, Nat.reduceBEq, reduceCtorEq, ↓reduceIte, Int.reduceToNat, Int.reduceLE, Int.reduceLT, Int.reduceEq, Int.reduceAdd, Int.reduceSub, Int.reduceMul, List.reduceReplicate, wh]
  refine WS_loop' (σ := Nat × AV × List (Nat × Row) × Heap) (fun s => [(1, .rp [.int .i64 (W : Int), .int .i64 (Hh : Int), .lst p 3 nil (sq.map avS)] 0), (3, s.2.1), (14, .int .i64 ((Hh + 1 : Nat) : Int)), (15, .int .i64 (s.1 : Int))])
    (fun s => s.2.2.2) (fun s => Hh + 1 - s.1) (fun s => s.1 ≤ Hh + 1 ∧ RowsOK s.2.2.2 s.2.1 s.2.2.1 ∧ s.2.2.1.map Prod.snd = (List.range s.1).foldl (rowsY W sq) [] ∧ s.2.2.1.length ≤ s.1 * W) (0, _, [], _) rfl rfl
    ⟨by simp, ⟨BldS.new [] 83 1 [], by simp, by simp, by simp⟩, rfl, by simp⟩ ?_
  rintro ⟨y, v, rs, H⟩ ⟨hy, hR, hrs, hlen⟩
  dsimp only at hy hR hrs hlen
  by_cases hlt : y < Hh + 1
  · have e4 := wsucc (i := y) (by omega)
    have c1 : (0 : Int) ≤ (W : Int) := by omega
    have c2 : ((W : Int) * ((1 : Nat) : Int) ≤ 140737488355328) = True := eq_true (by omega)
    have c3 : ((W : Int) ≤ 9223372036854775807) = True := eq_true (by omega)
    have c4 : ((W : Int) ≤ 140737488355328) = True := eq_true (by omega)
    simp only [m99l27, m99r0, m99r1, m99r2, m99r3, m99r4, m99r5, m99r6, m99r7, m99r8, m99r9, m99r10, m99r11, m99r12, m99r13, m99r15, m99r17, m99r18, m99r19, m99r20, m99r21, m99r22, m99r23, m99r24, m99r26, m99r28, m99, EVa, EVb, params, nilOk, bound, awayFrom, evM, fillA, setEls, Opd.ev, Fr.get, prune, Option.map, isB, tB, nB, isG, gT, gF, evRes, mapO, one, Nat.reduceAdd, Nat.reduceLeDiff, Nat.reduceEqDiff, Nat.reduceMul, Nat.reduceSub, Nat.reduceLT, Nat.reduceBEq, reduceCtorEq, ↓reduceIte, Int.reduceToNat, Int.reduceLE, Int.reduceLT, Int.reduceEq, Int.reduceAdd, Int.reduceSub, Int.reduceMul, List.reduceReplicate, hlt, Int.mul_one, c3, c4, Int.le_refl, mkB_rep]
    -- the marks of all squares
    refine WS_loop' (σ := Nat × (Nat → Bool) × Heap) (fun s => [(1, .rp [.int .i64 (W : Int), .int .i64 (Hh : Int), .lst p 3 nil (sq.map avS)] 0), (3, v), (4, .int .i64 (y : Int)), (5, .sl H.length 1 W 0 W), (14, .int .i64 ((Hh + 1 : Nat) : Int)), (15, .int .i64 (y : Int)), (22, .lst p 3 nil (sq.map avS)), (23, .int .i64 sq.length), (24, .int .i64 (s.1 : Int))])
      (fun s => s.2.2) (fun s => sq.length - s.1) (fun s => s.1 ≤ sq.length ∧ RowsOK s.2.2 v rs ∧ s.2.2[H.length]? = some ⟨4, 1, mkB W s.2.1⟩ ∧ ∀ x, x < W → s.2.1 x = (sq.take s.1).any fun s => edgeP y s && covP x s) (0, (fun _ => false), _) rfl rfl
      ⟨by simp, hR.more, by rw [h_get0]; rfl, by simp⟩ ?_
    rintro ⟨i, m, G⟩ ⟨hi, hRG, hG, hm⟩
    dsimp only at hi hRG hG hm
    have hvb : Off v H.length := by
      obtain ⟨id, hv, hid⟩ := hR.out
      have := lt_of_get hid
      subst hv
      exact Off.sl (by omega)
    have hrb : ∀ r, r ∈ rs → r.1 ≠ H.length := fun r hr => by have := lt_of_get (hR.blk r hr); omega
    by_cases hlt2 : i < sq.length
    · have f1 : (sq.map avS)[i]? = some (avS sq[i]) := map_get hlt2
      have f4 := wsucc (i := i) (by omega)
      have hs := hb.at i hlt2
      have hsi := hin sq[i] (List.getElem_mem hlt2)
      have v1 := wrap_in (sq[i].x + sq[i].d) (by omega) (by omega)
      have v2 := wrap_in (sq[i].y + sq[i].d) (by omega) (by omega)
      have hGl := lt_of_get hG
      have htake : ∀ x : Nat, (sq.take (i + 1)).any (fun s => edgeP y s && covP x s) = ((sq.take i).any (fun s => edgeP y s && covP x s) || (edgeP y sq[i] && covP x sq[i])) := fun x => by
        rw [List.take_succ_eq_append_getElem hlt2, List.any_append]; simp
      by_cases he : edgeP y sq[i] = true
      · have skip : ∀ (M : Prop), M → M := fun _ h => h
        have he' := he
        simp only [edgeP, Bool.or_eq_true, decide_eq_true_eq] at he'
        (try simp only [EVa, EVb, params, nilOk, bound, awayFrom, evM, fillA, setEls, Opd.ev, Fr.get, prune, Option.map, isB, tB, nB, isG, gT, gF, evRes, mapO, one, Nat.reduceAdd, Nat.reduceLeDiff, Nat.reduceEqDiff, Nat.reduceMul, Nat.reduceSub, Nat.reduceLT, Nat.reduceBEq, reduceCtorEq, ↓reduceIte, Int.reduceToNat, Int.reduceLE, Int.reduceLT, Int.reduceEq, Int.reduceAdd, Int.reduceSub, Int.reduceMul, List.reduceReplicate, m99l16, m99r0, m99r1, m99r2, m99r3, m99r4, m99r5, m99r6, m99r7, m99r8, m99r9, m99r10, m99r11, m99r12, m99r13, m99r15, m99r17, m99r18, m99r19, m99r20, m99r21, m99r22, m99r23, m99r24, m99r26, m99r28, m99, f1, hlt2, avS, v1, v2] <;> (try (first | refine WP_split (by simp only [EVa, EVb, params, nilOk, bound, awayFrom, evM, fillA, setEls, Opd.ev, Fr.get, prune, Option.map, isB, tB, nB, isG, gT, gF, evRes, mapO, one, Nat.reduceAdd, Nat.reduceLeDiff, Nat.reduceEqDiff, Nat.reduceMul, Nat.reduceSub, Nat.reduceLT, Nat.reduceBEq, reduceCtorEq, ↓reduceIte, Int.reduceToNat, Int.reduceLE, Int.reduceLT, Int.reduceEq, Int.reduceAdd, Int.reduceSub, Int.reduceMul, List.reduceReplicate]) (fun hc1 => ?_) (fun hc1 => ?_) | refine WS_split (by simp only [EVa, EVb, params, nilOk, bound, awayFrom, evM, fillA, setEls, Opd.ev, Fr.get, prune, Option.map, isB, tB, nB, isG, gT, gF, evRes, mapO, one, Nat.reduceAdd, Nat.reduceLeDiff, Nat.reduceEqDiff, Nat.reduceMul, Nat.reduceSub, Nat.reduceLT, Nat.reduceBEq, reduceCtorEq, ↓reduceIte, Int.reduceToNat, Int.reduceLE, Int.reduceLT, Int.reduceEq, Int.reduceAdd, Int.reduceSub, Int.reduceMul, List.reduceReplicate]) (fun hc1 => ?_) (fun hc1 => ?_)) <;> try simp only [EVa, EVb, params, nilOk, bound, awayFrom, evM, fillA, setEls, Opd.ev, Fr.get, prune, Option.map, isB, tB, nB, isG, gT, gF, evRes, mapO, one, Nat.reduceAdd, Nat.reduceLeDiff, Nat.reduceEqDiff, Nat.reduceMul, Nat.reduceSub, Nat.reduceLT, Nat.reduceBEq, reduceCtorEq, ↓reduceIte, Int.reduceToNat, Int.reduceLE, Int.reduceLT, Int.reduceEq, Int.reduceAdd, Int.reduceSub, Int.reduceMul, List.reduceReplicate] at hc1 <;> (try simp only [EVa, EVb, params, nilOk, bound, awayFrom, evM, fillA, setEls, Opd.ev, Fr.get, prune, Option.map, isB, tB, nB, isG, gT, gF, evRes, mapO, one, Nat.reduceAdd, Nat.reduceLeDiff, Nat.reduceEqDiff, Nat.reduceMul, Nat.reduceSub, Nat.reduceLT, Nat.reduceBEq, reduceCtorEq, ↓reduceIte, Int.reduceToNat, Int.reduceLE, Int.reduceLT, Int.reduceEq, Int.reduceAdd, Int.reduceSub, Int.reduceMul, List.reduceReplicate, m99l16, m99r0, m99r1, m99r2, m99r3, m99r4, m99r5, m99r6, m99r7, m99r8, m99r9, m99r10, m99r11, m99r12, m99r13, m99r15, m99r17, m99r18, m99r19, m99r20, m99r21, m99r22, m99r23, m99r24, m99r26, m99r28, m99, f1, hlt2, avS, v1, v2, hc1] <;> (try (first | refine WP_split (by simp only [EVa, EVb, params, nilOk, bound, awayFrom, evM, fillA, setEls, Opd.ev, Fr.get, prune, Option.map, isB, tB, nB, isG, gT, gF, evRes, mapO, one, Nat.reduceAdd, Nat.reduceLeDiff, Nat.reduceEqDiff, Nat.reduceMul, Nat.reduceSub, Nat.reduceLT, Nat.reduceBEq, reduceCtorEq, ↓reduceIte, Int.reduceToNat, Int.reduceLE, Int.reduceLT, Int.reduceEq, Int.reduceAdd, Int.reduceSub, Int.reduceMul, List.reduceReplicate]) (fun hc2 => ?_) (fun hc2 => ?_) | refine WS_split (by simp only [EVa, EVb, params, nilOk, bound, awayFrom, evM, fillA, setEls, Opd.ev, Fr.get, prune, Option.map, isB, tB, nB, isG, gT, gF, evRes, mapO, one, Nat.reduceAdd, Nat.reduceLeDiff, Nat.reduceEqDiff, Nat.reduceMul, Nat.reduceSub, Nat.reduceLT, Nat.reduceBEq, reduceCtorEq, ↓reduceIte, Int.reduceToNat, Int.reduceLE, Int.reduceLT, Int.reduceEq, Int.reduceAdd, Int.reduceSub, Int.reduceMul, List.reduceReplicate]) (fun hc2 => ?_) (fun hc2 => ?_)) <;> try simp only [EVa, EVb, params, nilOk, bound, awayFrom, evM, fillA, setEls, Opd.ev, Fr.get, prune, Option.map, isB, tB, nB, isG, gT, gF, evRes, mapO, one, Nat.reduceAdd, Nat.reduceLeDiff, Nat.reduceEqDiff, Nat.reduceMul, Nat.reduceSub, Nat.reduceLT, Nat.reduceBEq, reduceCtorEq, ↓reduceIte, Int.reduceToNat, Int.reduceLE, Int.reduceLT, Int.reduceEq, Int.reduceAdd, Int.reduceSub, Int.reduceMul, List.reduceReplicate] at hc2 <;> (try simp only [EVa, EVb, params, nilOk, bound, awayFrom, evM, fillA, setEls, Opd.ev, Fr.get, prune, Option.map, isB, tB, nB, isG, gT, gF, evRes, mapO, one, Nat.reduceAdd, Nat.reduceLeDiff, Nat.reduceEqDiff, Nat.reduceMul, Nat.reduceSub, Nat.reduceLT, Nat.reduceBEq, reduceCtorEq, ↓reduceIte, Int.reduceToNat, Int.reduceLE, Int.reduceLT, Int.reduceEq, Int.reduceAdd, Int.reduceSub, Int.reduceMul, List.reduceReplicate, m99l16, m99r0, m99r1, m99r2, m99r3, m99r4, m99r5, m99r6, m99r7, m99r8, m99r9, m99r10, m99r11, m99r12, m99r13, m99r15, m99r17, m99r18, m99r19, m99r20, m99r21, m99r22, m99r23, m99r24, m99r26, m99r28, m99, f1, hlt2, avS, v1, v2, hc1, hc2])))))
        all_goals first
          | (exfalso; omega)
          | skip
        all_goals
          refine WS_loop' (σ := Int × (Nat → Bool) × Heap) (fun s => [(1, .rp [.int .i64 (W : Int), .int .i64 (Hh : Int), .lst p 3 nil (sq.map avS)] 0), (3, v), (4, .int .i64 (y : Int)), (5, .sl H.length 1 W 0 W), (7, .ptr G.length 1 0 0), (8, .int .i64 s.1), (14, .int .i64 ((Hh + 1 : Nat) : Int)), (15, .int .i64 (y : Int)), (22, .lst p 3 nil (sq.map avS)), (23, .int .i64 sq.length), (24, .int .i64 (i : Int))])
            (fun s => s.2.2) (fun s => (sq[i].x + sq[i].d - s.1).toNat) (fun s => (sq[i].x ≤ s.1 ∧ s.1 ≤ sq[i].x + sq[i].d) ∧ RowsOK s.2.2 v rs ∧ s.2.2[H.length]? = some ⟨4, 1, mkB W s.2.1⟩ ∧ (∃ yy, s.2.2[G.length]? = some ⟨80, 3, [.agg [.int .i64 sq[i].x, .int .i64 yy, .int .i64 sq[i].d]]⟩)
              ∧ ∀ x, x < W → s.2.1 x = (m x || (decide (sq[i].x ≤ (x : Int)) && decide ((x : Int) < s.1)))) (sq[i].x, m, _) rfl rfl
            ⟨by simp only; omega, hRG.more, h_get_of hG, ⟨_, by rw [h_get0]; rfl⟩, fun x _ => by
              have : (decide (sq[i].x ≤ (x : Int)) && decide ((x : Int) < sq[i].x)) = false := by simp only [Bool.and_eq_false_iff, decide_eq_false_iff_not]; omega
              rw [this]; simp⟩ ?_
          rintro ⟨x, m2, E⟩ ⟨hx, hRE, hE, ⟨yy, hE2⟩, hm2⟩
          dsimp only at hx hRE hE hE2 hm2
          by_cases hxl : x < sq[i].x + sq[i].d
          · have x4 := wrap_in (x + 1) (by omega) (by omega)
            have x0 : 0 ≤ x := by omega
            have x1 : x < (W : Int) := by omega
            have x2 : x.toNat < W := by omega
            have x3 := mkB_get (W := W) (m := m2) x2
            simp only [m99l14, m99r0, m99r1, m99r2, m99r3, m99r4, m99r5, m99r6, m99r7, m99r8, m99r9, m99r10, m99r11, m99r12, m99r13, m99r15, m99r17, m99r18, m99r19, m99r20, m99r21, m99r22, m99r23, m99r24, m99r26, m99r28, m99, EVa, EVb, params, nilOk, bound, awayFrom, evM, fillA, setEls, Opd.ev, Fr.get, prune, Option.map, isB, tB, nB, isG, gT, gF, evRes, mapO, one, Nat.reduceAdd, Nat.reduceLeDiff, Nat.reduceEqDiff, Nat.reduceMul, Nat.reduceSub, Nat.reduceLT, Nat.reduceBEq, reduceCtorEq, ↓reduceIte, Int.reduceToNat, Int.reduceLE, Int.reduceLT, Int.reduceEq, Int.reduceAdd, Int.reduceSub, Int.reduceMul, List.reduceReplicate, hE2, v1, hxl, x0, x1, hE, x3, x4, mkB_len, mkB_set x2]
            refine ⟨(_, _, _), ⟨rfl, rfl⟩, ⟨by simp only; omega, hRE.set hvb hrb, h_set_get (lt_of_get hE), ?_, ?_⟩, by simp only; omega⟩
            · exact ⟨yy, by simp only; rw [List.getElem?_set_ne (by omega), hE2]⟩
            · intro z hz
              show (m2 z || decide (z = x.toNat)) = (m z || (decide (sq[i].x ≤ (z : Int)) && decide ((z : Int) < x + 1)))
              rw [hm2 z hz, Bool.or_assoc]
              congr 1
              rw [Bool.eq_iff_iff]
              simp only [Bool.or_eq_true, Bool.and_eq_true, decide_eq_true_eq]
              omega
          · simp only [m99l14, m99r0, m99r1, m99r2, m99r3, m99r4, m99r5, m99r6, m99r7, m99r8, m99r9, m99r10, m99r11, m99r12, m99r13, m99r15, m99r17, m99r18, m99r19, m99r20, m99r21, m99r22, m99r23, m99r24, m99r26, m99r28, m99, EVa, EVb, params, nilOk, bound, awayFrom, evM, fillA, setEls, Opd.ev, Fr.get, prune, Option.map, isB, tB, nB, isG, gT, gF, evRes, mapO, one, Nat.reduceAdd, Nat.reduceLeDiff, Nat.reduceEqDiff, Nat.reduceMul, Nat.reduceSub, Nat.reduceLT, Nat.reduceBEq, reduceCtorEq, ↓reduceIte, Int.reduceToNat, Int.reduceLE, Int.reduceLT, Int.reduceEq, Int.reduceAdd, Int.reduceSub, Int.reduceMul, List.reduceReplicate, hE2, v1, hxl, f4]
            refine ⟨(_, m2, _), ⟨rfl, rfl⟩, ⟨hlt2, hRE, hE, fun z hz => ?_⟩, by simp only; omega⟩
            simp only
            rw [htake, hm2 z hz, hm z hz, he, Bool.true_and]
            congr 1
            simp only [covP]
            have : x = sq[i].x + sq[i].d := by omega
            rw [this]
      · have he' := he
        simp only [edgeP, Bool.or_eq_true, decide_eq_true_eq, not_or] at he'
        simp only [m99l16, m99r0, m99r1, m99r2, m99r3, m99r4, m99r5, m99r6, m99r7, m99r8, m99r9, m99r10, m99r11, m99r12, m99r13, m99r15, m99r17, m99r18, m99r19, m99r20, m99r21, m99r22, m99r23, m99r24, m99r26, m99r28, m99, EVa, EVb, params, nilOk, bound, awayFrom, evM, fillA, setEls, Opd.ev, Fr.get, prune, Option.map, isB, tB, nB, isG, gT, gF, evRes, mapO, one, Nat.reduceAdd, Nat.reduceLeDiff, Nat.reduceEqDiff, Nat.reduceMul, Nat.reduceSub, Nat.reduceLT, Nat.reduceBEq, reduceCtorEq, ↓reduceIte, Int.reduceToNat, Int.reduceLE, Int.reduceLT, Int.reduceEq, Int.reduceAdd, Int.reduceSub, Int.reduceMul, List.reduceReplicate, f1, f4, hlt2, avS, v1, v2, he'.1, he'.2]
        refine ⟨(_, m, _), ⟨rfl, rfl⟩, ⟨hlt2, hRG.more, h_get_of hG, fun z hz => ?_⟩, by simp only; omega⟩
        simp only
        have he2 : edgeP y sq[i] = false := by simpa using he
        rw [htake, hm z hz, he2]; simp
    · have : i = sq.length := by omega
      subst this
      rw [List.take_length] at hm
      have hG2 : G[H.length]? = some ⟨4, 1, mkB W fun x => markP sq y x⟩ := by rw [hG, mkB_congr hm]; rfl
      have hGl := lt_of_get hG
      simp only [m99l16, m99r0, m99r1, m99r2, m99r3, m99r4, m99r5, m99r6, m99r7, m99r8, m99r9, m99r10, m99r11, m99r12, m99r13, m99r15, m99r17, m99r18, m99r19, m99r20, m99r21, m99r22, m99r23, m99r24, m99r26, m99r28, m99, EVa, EVb, params, nilOk, bound, awayFrom, evM, fillA, setEls, Opd.ev, Fr.get, prune, Option.map, isB, tB, nB, isG, gT, gF, evRes, mapO, one, Nat.reduceAdd, Nat.reduceLeDiff, Nat.reduceEqDiff, Nat.reduceMul, Nat.reduceSub, Nat.reduceLT, Nat.reduceBEq, reduceCtorEq, ↓reduceIte, Int.reduceToNat, Int.reduceLE, Int.reduceLT, Int.reduceEq, Int.reduceAdd, Int.reduceSub, Int.reduceMul, List.reduceReplicate, hlt2]
      refine WS_loop' (σ := Nat × AV × List (Nat × Row) × Heap) (fun s => [(1, .rp [.int .i64 (W : Int), .int .i64 (Hh : Int), .lst p 3 nil (sq.map avS)] 0), (3, s.2.1), (4, .int .i64 (y : Int)), (5, .sl H.length 1 W 0 W), (14, .int .i64 ((Hh + 1 : Nat) : Int)), (15, .int .i64 (y : Int)), (56, .sl H.length 1 W 0 W), (57, .int .i64 (W : Int)), (58, .int .i64 (s.1 : Int))])
        (fun s => s.2.2.2) (fun s => W - s.1) (fun s => s.1 ≤ W ∧ RowsOK s.2.2.2 s.2.1 s.2.2.1 ∧ s.2.2.1.map Prod.snd = (List.range s.1).foldl (stepR sq y) (rs.map Prod.snd) ∧ s.2.2.2[H.length]? = some ⟨4, 1, mkB W fun x => markP sq y x⟩ ∧ (Off s.2.1 H.length ∧ ∀ r, r ∈ s.2.2.1 → r.1 ≠ H.length) ∧ (0 < s.1 → markP sq y ((s.1 : Int) - 1) = true → s.2.2.1 ≠ []) ∧ s.2.2.1.length ≤ y * W + s.1) (0, v, rs, G) rfl rfl
        ⟨by simp, hRG, rfl, hG2, ⟨hvb, hrb⟩, by simp, by simpa using hlen⟩ ?_
      rintro ⟨x, v', qs, E⟩ ⟨hx, hRE, hqs, hE, ⟨hvE, hqE⟩, hne, hlq⟩
      dsimp only at hx hRE hqs hE hvE hqE hne hlq
      by_cases hxl : x < W
      · have x4 := wsucc (i := x) (by omega)
        have x3 := mkB_get (W := W) (m := fun x => markP sq y x) hxl
        have hst := range_fold (stepR sq y) (rs.map Prod.snd) x
        rw [← hqs] at hst
        have hlW : qs.length ≤ 1002000 := Nat.le_trans hlq (by have := Nat.mul_le_mul (show y ≤ 1001 by omega) hW; omega)
        by_cases hmk : markP sq y x = true
        · by_cases h0 : 0 < x
          · obtain ⟨z, hz⟩ : ∃ z, x = z + 1 := ⟨x - 1, by omega⟩
            have z1 : ((0 : Int) < (x : Int)) = True := eq_true (by omega)
            have z2 : IntKind.i64.wrap ((x : Int) - 1) = (z : Int) := by rw [wrap_in _ (by omega) (by omega)]; omega
            have z2' : ((x : Int) - 1) = (z : Int) := by omega
            have z3 : z < W := by omega
            have z5 := mkB_get (W := W) (m := fun x => markP sq y x) z3
            rw [z2'] at hne
            by_cases hmz : markP sq y z = true
            · have hst' : stepR sq y (qs.map Prod.snd) x = setLast (qs.map Prod.snd) ((x : Int) + 1) := by
                simp only [stepR, hmk, z2', hmz, h0]; simp
              rcases List.eq_nil_or_concat qs with hq | ⟨pre, r, hq⟩
              · exact absurd hq (hne (by omega) hmz)
              rw [List.concat_eq_append] at hq
              subst hq
              obtain ⟨id, hv', hid⟩ := hRE.out
              have hr := hRE.blk r (by simp)
              have hrl := lt_of_get hr
              subst hv'
              have hll : ((pre ++ [r]).map rowSl).length = pre.length + 1 := by simp
              rw [hll] at hvE
              have y1 : IntKind.i64.wrap (((pre.length + 1 : Nat) : Int) - 1) = (pre.length : Int) := by rw [wrap_in _ (by omega) (by simp at hlW; omega)]; omega
              have y2 : ((pre ++ [r]).map rowSl)[pre.length]? = some (.sl r.1 1 3 0 3) := by simp [rowSl]
              have y3 : pre.length < pre.length + 1 := Nat.lt_succ_self _
              have hr' : E[r.1]? = some ⟨3, 1, [.int .i64 r.2.1, .int .i64 r.2.2.1, .int .i64 r.2.2.2]⟩ := hr
              have x4' : IntKind.i64.wrap ((x : Int) + 1) = (x : Int) + 1 := wrap_in _ (by omega) (by omega)
              simp only [m99l25, m99r0, m99r1, m99r2, m99r3, m99r4, m99r5, m99r6, m99r7, m99r8, m99r9, m99r10, m99r11, m99r12, m99r13, m99r15, m99r17, m99r18, m99r19, m99r20, m99r21, m99r22, m99r23, m99r24, m99r26, m99r28, m99, EVa, EVb, params, nilOk, bound, awayFrom, evM, fillA, setEls, Opd.ev, Fr.get, prune, Option.map, isB, tB, nB, isG, gT, gF, evRes, mapO, one, Nat.reduceAdd, Nat.reduceLeDiff, Nat.reduceEqDiff, Nat.reduceMul, Nat.reduceSub, Nat.reduceLT, Nat.reduceBEq, reduceCtorEq, ↓reduceIte, Int.reduceToNat, Int.reduceLE, Int.reduceLT, Int.reduceEq, Int.reduceAdd, Int.reduceSub, Int.reduceMul, List.reduceReplicate, hxl, hE, x3, mkB_len, hmk, z1, z2, z3, z5, hmz, hid, hll, y1, y2, y3, hr', x4]
              refine ⟨(_, _, pre ++ [(r.1, (r.2.1, r.2.2.1, (x : Int) + 1))], _), ⟨rfl, rfl⟩, ⟨hxl, ?_, ?_, ?_, ⟨?_, ?_⟩, by simp, ?_⟩, by simp only; omega⟩
              · have := hRE.last (row := (r.2.1, r.2.2.1, (x : Int) + 1))
                simpa [rowB] using this
              · simp only
                rw [hst, hst']
                simp only [List.map_append, List.map_cons, List.map_nil, setLast_app]
              · simp only
                rw [List.getElem?_set_ne (hqE r (by simp)), hE]
              · exact hvE
              · intro q hq
                simp only at hq
                rcases List.mem_append.1 hq with hq | hq
                · exact hqE q (by simp [hq])
                · obtain rfl := List.mem_singleton.1 hq
                  exact hqE r (by simp)
              · simp only [List.length_append, List.length_cons, List.length_nil] at hlq ⊢; omega
            · have hmz' : markP sq y z = false := by simpa using hmz
              have hst' : stepR sq y (qs.map Prod.snd) x = qs.map Prod.snd ++ [((y : Int), (x : Int), (x : Int) + 1)] := by
                simp only [stepR, hmk, z2', hmz']; simp
              have x4' : IntKind.i64.wrap ((x : Int) + 1) = (x : Int) + 1 := wrap_in _ (by omega) (by omega)
              simp only [m99l25, m99r0, m99r1, m99r2, m99r3, m99r4, m99r5, m99r6, m99r7, m99r8, m99r9, m99r10, m99r11, m99r12, m99r13, m99r15, m99r17, m99r18, m99r19, m99r20, m99r21, m99r22, m99r23, m99r24, m99r26, m99r28, m99, EVa, EVb, params, nilOk, bound, awayFrom, evM, fillA, setEls, Opd.ev, Fr.get, prune, Option.map, isB, tB, nB, isG, gT, gF, evRes, mapO, one, Nat.reduceAdd, Nat.reduceLeDiff, Nat.reduceEqDiff, Nat.reduceMul, Nat.reduceSub, Nat.reduceLT, Nat.reduceBEq, reduceCtorEq, ↓reduceIte, Int.reduceToNat, Int.reduceLE, Int.reduceLT, Int.reduceEq, Int.reduceAdd, Int.reduceSub, Int.reduceMul, List.reduceReplicate, hxl, hE, x3, mkB_len, hmk, z1, z2, z3, z5, hmz', x4']
              refine WV_appS hRE.out.more (by simp; omega) ?_
              intro v2 A2 hB2 hL2 hF2
              simp only [EVa, EVb, params, nilOk, bound, awayFrom, evM, fillA, setEls, Opd.ev, Fr.get, prune, Option.map, isB, tB, nB, isG, gT, gF, evRes, mapO, one, Nat.reduceAdd, Nat.reduceLeDiff, Nat.reduceEqDiff, Nat.reduceMul, Nat.reduceSub, Nat.reduceLT, Nat.reduceBEq, reduceCtorEq, ↓reduceIte, Int.reduceToNat, Int.reduceLE, Int.reduceLT, Int.reduceEq, Int.reduceAdd, Int.reduceSub, Int.reduceMul, List.reduceReplicate, x4']
              have hEl := lt_of_get hE
              refine ⟨(x + 1, v2, qs ++ [(E.length, ((y : Int), (x : Int), (x : Int) + 1))], _), ⟨rfl, rfl⟩, ⟨hxl, hRE.app hB2 hF2, ?_, ?_, ⟨(hF2 _ hvE).1, ?_⟩, by simp, ?_⟩, by simp only; omega⟩
              · simp only [hst, hst', List.map_append, List.map_cons, List.map_nil]
              · simp only
                rw [(hF2 _ hvE).2, h_get_of hE]
              · intro q hq
                simp only at hq
                rcases List.mem_append.1 hq with hq | hq
                · exact hqE q hq
                · obtain rfl := List.mem_singleton.1 hq
                  simp only; omega
              · simp only [List.length_append, List.length_cons, List.length_nil] at hlq ⊢; omega
          · have h00 : x = 0 := by omega
            have z1 : ((0 : Int) < (x : Int)) = False := eq_false (by omega)
            have hst' : stepR sq y (qs.map Prod.snd) x = qs.map Prod.snd ++ [((y : Int), (x : Int), (x : Int) + 1)] := by
              simp only [stepR, hmk, h0]; simp
            have x4' : IntKind.i64.wrap ((x : Int) + 1) = (x : Int) + 1 := wrap_in _ (by omega) (by omega)
            simp only [m99l25, m99r0, m99r1, m99r2, m99r3, m99r4, m99r5, m99r6, m99r7, m99r8, m99r9, m99r10, m99r11, m99r12, m99r13, m99r15, m99r17, m99r18, m99r19, m99r20, m99r21, m99r22, m99r23, m99r24, m99r26, m99r28, m99, EVa, EVb, params, nilOk, bound, awayFrom, evM, fillA, setEls, Opd.ev, Fr.get, prune, Option.map, isB, tB, nB, isG, gT, gF, evRes, mapO, one, Nat.reduceAdd, Nat.reduceLeDiff, Nat.reduceEqDiff, Nat.reduceMul, Nat.reduceSub, Nat.reduceLT, Nat.reduceBEq, reduceCtorEq, ↓reduceIte, Int.reduceToNat, Int.reduceLE, Int.reduceLT, Int.reduceEq, Int.reduceAdd, Int.reduceSub, Int.reduceMul, List.reduceReplicate, hxl, hE, x3, mkB_len, hmk, z1, x4']
            refine WV_appS hRE.out.more (by simp; omega) ?_
            intro v2 A2 hB2 hL2 hF2
            simp only [EVa, EVb, params, nilOk, bound, awayFrom, evM, fillA, setEls, Opd.ev, Fr.get, prune, Option.map, isB, tB, nB, isG, gT, gF, evRes, mapO, one, Nat.reduceAdd, Nat.reduceLeDiff, Nat.reduceEqDiff, Nat.reduceMul, Nat.reduceSub, Nat.reduceLT, Nat.reduceBEq, reduceCtorEq, ↓reduceIte, Int.reduceToNat, Int.reduceLE, Int.reduceLT, Int.reduceEq, Int.reduceAdd, Int.reduceSub, Int.reduceMul, List.reduceReplicate, x4']
            have hEl := lt_of_get hE
            refine ⟨(x + 1, v2, qs ++ [(E.length, ((y : Int), (x : Int), (x : Int) + 1))], _), ⟨rfl, rfl⟩, ⟨hxl, hRE.app hB2 hF2, ?_, ?_, ⟨(hF2 _ hvE).1, ?_⟩, by simp, ?_⟩, by simp only; omega⟩
            · simp only [hst, hst', List.map_append, List.map_cons, List.map_nil]
            · simp only
              rw [(hF2 _ hvE).2, h_get_of hE]
            · intro q hq
              simp only at hq
              rcases List.mem_append.1 hq with hq | hq
              · exact hqE q hq
              · obtain rfl := List.mem_singleton.1 hq
                simp only; omega
            · simp only [List.length_append, List.length_cons, List.length_nil] at hlq ⊢; omega
        · have hmk' : markP sq y x = false := by simpa using hmk
          have hst' : stepR sq y (qs.map Prod.snd) x = qs.map Prod.snd := by simp [stepR, hmk']
          simp only [m99l25, m99r0, m99r1, m99r2, m99r3, m99r4, m99r5, m99r6, m99r7, m99r8, m99r9, m99r10, m99r11, m99r12, m99r13, m99r15, m99r17, m99r18, m99r19, m99r20, m99r21, m99r22, m99r23, m99r24, m99r26, m99r28, m99, EVa, EVb, params, nilOk, bound, awayFrom, evM, fillA, setEls, Opd.ev, Fr.get, prune, Option.map, isB, tB, nB, isG, gT, gF, evRes, mapO, one, Nat.reduceAdd, Nat.reduceLeDiff, Nat.reduceEqDiff, Nat.reduceMul, Nat.reduceSub, Nat.reduceLT, Nat.reduceBEq, reduceCtorEq, ↓reduceIte, Int.reduceToNat, Int.reduceLE, Int.reduceLT, Int.reduceEq, Int.reduceAdd, Int.reduceSub, Int.reduceMul, List.reduceReplicate, hxl, hE, x3, mkB_len, hmk', x4]
          refine ⟨(_, _, qs, _), ⟨rfl, rfl⟩, ⟨hxl, hRE, by simp only; rw [hst, hst'], hE, ⟨hvE, hqE⟩, ?_, by simp only; omega⟩, by simp only; omega⟩
          intro _ h
          have : (((x + 1 : Nat) : Int) - 1) = (x : Int) := by omega
          simp only [this, hmk'] at h
          cases h
      · have : x = W := by omega
        subst this
        simp only [m99l25, m99r0, m99r1, m99r2, m99r3, m99r4, m99r5, m99r6, m99r7, m99r8, m99r9, m99r10, m99r11, m99r12, m99r13, m99r15, m99r17, m99r18, m99r19, m99r20, m99r21, m99r22, m99r23, m99r24, m99r26, m99r28, m99, EVa, EVb, params, nilOk, bound, awayFrom, evM, fillA, setEls, Opd.ev, Fr.get, prune, Option.map, isB, tB, nB, isG, gT, gF, evRes, mapO, one, Nat.reduceAdd, Nat.reduceLeDiff, Nat.reduceEqDiff, Nat.reduceMul, Nat.reduceSub, Nat.reduceLT, Nat.reduceBEq, reduceCtorEq, ↓reduceIte, Int.reduceToNat, Int.reduceLE, Int.reduceLT, Int.reduceEq, Int.reduceAdd, Int.reduceSub, Int.reduceMul, List.reduceReplicate, hxl, e4]
        have hst := range_fold (rowsY x sq) [] y
        refine ⟨(_, _, qs, _), ⟨rfl, rfl⟩, ⟨hlt, hRE, by simp only; rw [hst, hqs, hrs]; rfl, by simp only; rw [Nat.succ_mul]; exact hlq⟩, by simp only; omega⟩
  · have : y = Hh + 1 := by omega
    subst this
    have hg := hR.gb
    rw [hrs] at hg
    simp only [m99l27, m99r0, m99r1, m99r2, m99r3, m99r4, m99r5, m99r6, m99r7, m99r8, m99r9, m99r10, m99r11, m99r12, m99r13, m99r15, m99r17, m99r18, m99r19, m99r20, m99r21, m99r22, m99r23, m99r24, m99r26, m99r28, m99, EVa, EVb, params, nilOk, bound, awayFrom, evM, fillA, setEls, Opd.ev, Fr.get, prune, Option.map, isB, tB, nB, isG, gT, gF, evRes, mapO, one, Nat.reduceAdd, Nat.reduceLeDiff, Nat.reduceEqDiff, Nat.reduceMul, Nat.reduceSub, Nat.reduceLT, Nat.reduceBEq, reduceCtorEq, ↓reduceIte, Int.reduceToNat, Int.reduceLE, Int.reduceLT, Int.reduceEq, Int.reduceAdd, Int.reduceSub, Int.reduceMul, List.reduceReplicate, hlt, hg]
    rfl
theorem k99 (W Hh : Nat) (p nil : Bool) (sq : List Sq) (hb : Bds sq) (hin : ∀ s, s ∈ sq → s.x + s.d ≤ W) (hW : W ≤ 1000) (hH : Hh ≤ 1000) {d : Option Nat} {os : List MOp} {live : List Nat} {S : List KF} {Q : FQ} {fr : Fr} {A : Heap} : WCR T .ro 99 [.agg [.int .i64 (W : Int), .int .i64 (Hh : Int), .lst p 3 nil (sq.map avS)]] d os live S Q fr A ↔ WP T os live S Q (putd d (.lst true 1 false ((rowsP W Hh sq).map avR)) fr) A := (p99 W Hh p nil sq hb hin hW hH).call (by simp only [mapO, depth_is, bo_agg, bo_int, bo_bool, bo_str, bo_lst, bo_lS, bo_rp, bo_fn])
end Go.Ev.Z
end

section
set_option maxRecDepth 100000
set_option linter.unusedSimpArgs false
set_option linter.unusedVariables false
namespace Go.Ev.Z
open Go Go.Ev
theorem lineMost_drop (H : Int) (rows : List Row) (i : Nat) (h : i < rows.length) (m : Int) : lineMost H (rows.drop i) m = lineMost H (rows.drop (i + 1)) (if inP rows[i].1 1 (H - 1) = true then max m (rows[i].2.2 - rows[i].2.1) else m) := by
  rw [List.drop_eq_getElem_cons h]; rfl
theorem lineMost_bd (H : Int) (rows : List Row) (m : Int) (hm : 0 ≤ m ∧ m ≤ 1000) (hr : ∀ r, r ∈ rows → r.2.2 - r.2.1 ≤ 1000) : 0 ≤ lineMost H rows m ∧ lineMost H rows m ≤ 1000 :=
  fold_inv (P := fun m => 0 ≤ m ∧ m ≤ 1000) _ rows m hm fun b a ha hb => by
    have := hr a ha
    split <;> omega
theorem t89 : T 89 = some (.code m89) := rfl
theorem p89 (W Hh : Nat) (p nil : Bool) (sq : List Sq) (hf : Fit W Hh sq) : Pure T 89 [.agg [.int .i64 (W : Int), .int .i64 (Hh : Int), .lst p 3 nil (sq.map avS)]] (.int .i64 (longP W Hh sq)) := by
  rw [Pure_of t89]
  have hft := hf.turn
  have hkt := fun {d os live S Q fr A} => k98 W Hh p nil sq hf.b (by have := hf.h; omega) hf.turnB hf.n.1 hf.n.2 (d := d) (os := os) (live := live) (S := S) (Q := Q) (fr := fr) (A := A)
  simp only [m89r0, m89r1, m89r2, m89r3, m89r4, m89r5, m89r6, m89r7, m89r8, m89r9, m89r10, m89r12, m89r14, m89, EVa, EVb, params, nilOk, bound, awayFrom, evM, fillA, setEls, Opd.ev, Fr.get, prune, Option.map, isB, tB, nB, isG, gT, gF, evRes, mapO, one, Nat.reduceAdd, Nat.reduceLeDiff, Nat.reduceEqDiff, Nat.reduceMul, Nat.reduceSub, Nat.reduceLT, Nat.reduceBEq, reduceCtorEq, ↓reduceIte, Int.reduceToNat, Int.reduceLE, Int.reduceLT, Int.reduceEq, Int.reduceAdd, Int.reduceSub, Int.reduceMul, List.reduceReplicate, hkt]
  generalize permAll _ = pp
  -- one of the two cuts
  have key : ∀ (i : Nat) (W' H' : Nat) (p' nil' : Bool) (sq' : List Sq) (hf' : Fit W' H' sq') (m0 m1 : Int) (hm1 : m1 = lineMost H' (rowsP W' H' sq') m0) (G : Heap),
      [AV.agg [.int .i64 (W : Int), .int .i64 (Hh : Int), .lst p 3 nil (sq.map avS)], AV.agg [.int .i64 (Hh : Int), .int .i64 (W : Int), .lst true 3 false ((sortP (sq.map (turnS Hh))).map avS)]][i]? = some (.agg [.int .i64 (W' : Int), .int .i64 (H' : Int), .lst p' 3 nil' (sq'.map avS)]) → i < 2 → (0 ≤ m0 ∧ m0 ≤ 1000) →
      ∀ (S : List KF) (Q : FQ), (∀ E, WN T S Q [(3, .int .i64 m1), (11, .lst pp 3 false [AV.agg [.int .i64 (W : Int), .int .i64 (Hh : Int), .lst p 3 nil (sq.map avS)], AV.agg [.int .i64 (Hh : Int), .int .i64 (W : Int), .lst true 3 false ((sortP (sq.map (turnS Hh))).map avS)]]), (12, .int .i64 2), (13, .int .i64 ((i + 1 : Nat) : Int))] E) →
      WS T m89l13 S Q [(3, .int .i64 m0), (11, .lst pp 3 false [AV.agg [.int .i64 (W : Int), .int .i64 (Hh : Int), .lst p 3 nil (sq.map avS)], AV.agg [.int .i64 (Hh : Int), .int .i64 (W : Int), .lst true 3 false ((sortP (sq.map (turnS Hh))).map avS)]]), (12, .int .i64 2), (13, .int .i64 (i : Int))] G := by
    intro i W' H' p' nil' sq' hf' m0 m1 hm1 G hget hi2 hm0 S Q hk
    have hi2' : ((i : Int) < 2) = True := eq_true (by omega)
    have e4 := wsucc (i := i) (by omega)
    have hk' := fun {d os live S Q fr A} => k99 W' H' p' nil' sq' hf'.b (fun s hs => (hf'.i s hs).1.2) (by have := hf'.w; omega) (by have := hf'.h; omega) (d := d) (os := os) (live := live) (S := S) (Q := Q) (fr := fr) (A := A)
    have hrb := rowsP_bd W' H' sq'
    have hrl := rowsP_len W' H' sq'
    simp only [m89l13, m89r0, m89r1, m89r2, m89r3, m89r4, m89r5, m89r6, m89r7, m89r8, m89r9, m89r10, m89r12, m89r14, m89, EVa, EVb, params, nilOk, bound, awayFrom, evM, fillA, setEls, Opd.ev, Fr.get, prune, Option.map, isB, tB, nB, isG, gT, gF, evRes, mapO, one, Nat.reduceAdd, Nat.reduceLeDiff, Nat.reduceEqDiff, Nat.reduceMul, Nat.reduceSub, Nat.reduceLT, Nat.reduceBEq, reduceCtorEq, ↓reduceIte, Int.reduceToNat, Int.reduceLE, Int.reduceLT, Int.reduceEq, Int.reduceAdd, Int.reduceSub, Int.reduceMul, List.reduceReplicate, hget, hi2', hk']
    generalize hrows : rowsP W' H' sq' = rows at hm1 hrb hrl ⊢
    have hw' := hf'.w
    have hh' := hf'.h
    have hln : rows.length < 4611686018427387904 := by
      have : (H' + 1) * W' ≤ 501 * 500 := Nat.mul_le_mul (by omega) (by omega)
      omega
    · refine WS_loop' (σ := Nat × Int × Heap) (fun s => [(3, .int .i64 s.2.1), (5, .ptr G.length 1 0 0), (11, .lst pp 3 false [AV.agg [.int .i64 (W : Int), .int .i64 (Hh : Int), .lst p 3 nil (sq.map avS)], AV.agg [.int .i64 (Hh : Int), .int .i64 (W : Int), .lst true 3 false ((sortP (sq.map (turnS Hh))).map avS)]]), (12, .int .i64 2), (13, .int .i64 (i : Int)), (18, .lst true 1 false (rows.map avR)), (19, .int .i64 rows.length), (20, .int .i64 (s.1 : Int))])
        (fun s => s.2.2) (fun s => rows.length - s.1) (fun s => s.1 ≤ rows.length ∧ lineMost H' (rows.drop s.1) s.2.1 = m1 ∧ (0 ≤ s.2.1 ∧ s.2.1 ≤ 1000) ∧ s.2.2[G.length]? = some ⟨37, 3, [.agg [.int .i64 (W' : Int), .int .i64 (H' : Int), .lst p' 3 nil' (sq'.map avS)]]⟩) (0, m0, _) rfl rfl ⟨by simp, by simp [hm1], hm0, by rw [h_get0]; rfl⟩ ?_
      rintro ⟨k, m, E⟩ ⟨hkl, hm, hmb, hE⟩
      dsimp only at hkl hm hmb hE
      by_cases hlt : k < rows.length
      · have f1 : (rows.map avR)[k]? = some (avR rows[k]) := map_get hlt
        have f4 := wsucc (i := k) (by omega)
        have hb := hrb rows[k] (List.getElem_mem hlt)
        unfold RowB at hb
        have w1 := wrap_in ((H' : Int) - 1) (by omega) (by omega)
        have w2 := wrap_in (rows[k].2.2 - rows[k].2.1) (by omega) (by omega)
        rw [lineMost_drop _ _ _ hlt] at hm
        by_cases hin : inP rows[k].1 1 ((H' : Int) - 1) = true
        · rw [if_pos hin] at hm
          simp only [m89l11, m89r0, m89r1, m89r2, m89r3, m89r4, m89r5, m89r6, m89r7, m89r8, m89r9, m89r10, m89r12, m89r14, m89, EVa, EVb, params, nilOk, bound, awayFrom, evM, fillA, setEls, Opd.ev, Fr.get, prune, Option.map, isB, tB, nB, isG, gT, gF, evRes, mapO, one, Nat.reduceAdd, Nat.reduceLeDiff, Nat.reduceEqDiff, Nat.reduceMul, Nat.reduceSub, Nat.reduceLT, Nat.reduceBEq, reduceCtorEq, ↓reduceIte, Int.reduceToNat, Int.reduceLE, Int.reduceLT, Int.reduceEq, Int.reduceAdd, Int.reduceSub, Int.reduceMul, List.reduceReplicate, f1, f4, hlt, avR, hE, w1, w2, k73, hin, mm_max]
          refine ⟨(_, _, _), ⟨rfl, rfl⟩, ⟨hlt, ?_, ?_, hE⟩, by simp only; omega⟩
          · exact hm
          · simp only; omega
        · rw [if_neg hin] at hm
          have hin' : inP rows[k].1 1 ((H' : Int) - 1) = false := by simpa using hin
          simp only [m89l11, m89r0, m89r1, m89r2, m89r3, m89r4, m89r5, m89r6, m89r7, m89r8, m89r9, m89r10, m89r12, m89r14, m89, EVa, EVb, params, nilOk, bound, awayFrom, evM, fillA, setEls, Opd.ev, Fr.get, prune, Option.map, isB, tB, nB, isG, gT, gF, evRes, mapO, one, Nat.reduceAdd, Nat.reduceLeDiff, Nat.reduceEqDiff, Nat.reduceMul, Nat.reduceSub, Nat.reduceLT, Nat.reduceBEq, reduceCtorEq, ↓reduceIte, Int.reduceToNat, Int.reduceLE, Int.reduceLT, Int.reduceEq, Int.reduceAdd, Int.reduceSub, Int.reduceMul, List.reduceReplicate, f1, f4, hlt, avR, hE, w1, w2, k73, hin']
          exact ⟨(_, _, _), ⟨rfl, rfl⟩, ⟨hlt, hm, hmb, hE⟩, by simp only; omega⟩
      · rw [List.drop_eq_nil_of_le (by omega)] at hm
        have hm' : m = m1 := hm
        subst hm'
        simp only [m89l11, m89r0, m89r1, m89r2, m89r3, m89r4, m89r5, m89r6, m89r7, m89r8, m89r9, m89r10, m89r12, m89r14, m89, EVa, EVb, params, nilOk, bound, awayFrom, evM, fillA, setEls, Opd.ev, Fr.get, prune, Option.map, isB, tB, nB, isG, gT, gF, evRes, mapO, one, Nat.reduceAdd, Nat.reduceLeDiff, Nat.reduceEqDiff, Nat.reduceMul, Nat.reduceSub, Nat.reduceLT, Nat.reduceBEq, reduceCtorEq, ↓reduceIte, Int.reduceToNat, Int.reduceLE, Int.reduceLT, Int.reduceEq, Int.reduceAdd, Int.reduceSub, Int.reduceMul, List.reduceReplicate, hlt, e4]
        exact hk E
  have hb1 := rowsP_bd W Hh sq
  have hb0 : 0 ≤ lineMost Hh (rowsP W Hh sq) 0 ∧ lineMost Hh (rowsP W Hh sq) 0 ≤ 1000 := lineMost_bd _ _ 0 (by omega) fun r hr => by
    have h1 := hb1 r hr
    have h2 := hf.w
    unfold RowB at h1; omega
  refine WS_loop' (σ := Nat × Int × Heap) (fun s => [(3, .int .i64 s.2.1), (11, .lst pp 3 false [AV.agg [.int .i64 (W : Int), .int .i64 (Hh : Int), .lst p 3 nil (sq.map avS)], AV.agg [.int .i64 (Hh : Int), .int .i64 (W : Int), .lst true 3 false ((sortP (sq.map (turnS Hh))).map avS)]]), (12, .int .i64 2), (13, .int .i64 (s.1 : Int))])
    (fun s => s.2.2) (fun s => 2 - s.1) (fun s => s.1 = 0 ∧ s.2.1 = 0 ∨ s.1 = 1 ∧ s.2.1 = lineMost Hh (rowsP W Hh sq) 0 ∨ s.1 = 2 ∧ s.2.1 = longP W Hh sq) (0, 0, _) rfl rfl (.inl ⟨rfl, rfl⟩) ?_
  rintro ⟨i, m, H⟩ hP
  dsimp only at hP
  rcases hP with ⟨rfl, rfl⟩ | ⟨rfl, rfl⟩ | ⟨rfl, rfl⟩
  · refine key 0 W Hh p nil sq hf 0 _ rfl H rfl (by omega) (by omega) _ _ fun E => ?_
    exact ⟨(1, _, E), ⟨rfl, rfl⟩, .inr (.inl ⟨rfl, rfl⟩), by simp⟩
  · refine key 1 Hh W true false _ hft _ _ rfl H rfl (by omega) hb0 _ _ fun E => ?_
    exact ⟨(2, _, E), ⟨rfl, rfl⟩, .inr (.inr ⟨rfl, rfl⟩), by simp⟩
  · simp only [m89l13, m89r0, m89r1, m89r2, m89r3, m89r4, m89r5, m89r6, m89r7, m89r8, m89r9, m89r10, m89r12, m89r14, m89, EVa, EVb, params, nilOk, bound, awayFrom, evM, fillA, setEls, Opd.ev, Fr.get, prune, Option.map, isB, tB, nB, isG, gT, gF, evRes, mapO, one, Nat.reduceAdd, Nat.reduceLeDiff, Nat.reduceEqDiff, Nat.reduceMul, Nat.reduceSub, Nat.reduceLT, Nat.reduceBEq, reduceCtorEq, ↓reduceIte, Int.reduceToNat, Int.reduceLE, Int.reduceLT, Int.reduceEq, Int.reduceAdd, Int.reduceSub, Int.reduceMul, List.reduceReplicate]
theorem k89 (W Hh : Nat) (p nil : Bool) (sq : List Sq) (hf : Fit W Hh sq) {d : Option Nat} {os : List MOp} {live : List Nat} {S : List KF} {Q : FQ} {fr : Fr} {A : Heap} : WCR T .ro 89 [.agg [.int .i64 (W : Int), .int .i64 (Hh : Int), .lst p 3 nil (sq.map avS)]] d os live S Q fr A ↔ WP T os live S Q (putd d (.int .i64 (longP W Hh sq)) fr) A := (p89 W Hh p nil sq hf).call (by simp only [mapO, depth_is, bo_agg, bo_int, bo_bool, bo_str, bo_lst, bo_lS, bo_rp, bo_fn])
end Go.Ev.Z
end

section
set_option maxRecDepth 100000
set_option linter.unusedSimpArgs false
set_option linter.unusedVariables false
namespace Go.Ev.Z
open Go Go.Ev
theorem get4 {α : Type} {e0 e1 e2 e3 n : α} {a : Int} (h : (if 0 ≤ a then [e0, e1, e2, e3][a.toNat]? else none) = some n) : (a = 0 ∧ n = e0) ∨ (a = 1 ∧ n = e1) ∨ (a = 2 ∧ n = e2) ∨ (a = 3 ∧ n = e3) := by
  by_cases h0 : 0 ≤ a
  · rw [if_pos h0] at h
    obtain ⟨k, rfl⟩ := Int.eq_ofNat_of_zero_le h0
    rw [Int.toNat_natCast] at h
    match k, h with
    | 0, h => left; simpa using h.symm
    | 1, h => right; left; simpa using h.symm
    | 2, h => right; right; left; simpa using h.symm
    | 3, h => right; right; right; simpa using h.symm
    | k + 4, h => simp at h
  · rw [if_neg h0] at h; cases h
theorem tdiv_bd {a : Int} {W : Nat} (ha : 0 ≤ a ∧ a ≤ 1000) : 0 ≤ a.tdiv W ∧ a.tdiv W ≤ 1000 :=
  ⟨Int.tdiv_nonneg ha.1 (Int.natCast_nonneg W), Int.le_trans (Int.tdiv_le_self _ ha.1) ha.2⟩
theorem t71 : T 71 = some (.code m71) := rfl
theorem p71 (kind a : Int) (W Hh : Nat) (p nil : Bool) (sq : List Sq) (hf : Fit W Hh sq) (ha : 0 ≤ a ∧ a ≤ 1000) (n : Int) (ht : toldO kind a W Hh sq = some n) : Pure T 71 [.int .i64 kind, .int .i64 a, .agg [.int .i64 (W : Int), .int .i64 (Hh : Int), .lst p 3 nil (sq.map avS)]] (.int .i64 n) := by
  rw [Pure_of t71]
  unfold toldO at ht
  have hl := hf.b.1
  by_cases h0 : kind = 0
  · subst h0
    simp only [if_true, Option.some.injEq] at ht
    simp only [m71r0, m71r1, m71r2, m71r3, m71r4, m71r5, m71r6, m71r7, m71r8, m71r9, m71r10, m71r12, m71r13, m71r14, m71r15, m71r16, m71r17, m71r18, m71r19, m71, EVa, EVb, params, nilOk, bound, awayFrom, evM, fillA, setEls, Opd.ev, Fr.get, prune, Option.map, isB, tB, nB, isG, gT, gF, evRes, mapO, one, Nat.reduceAdd, Nat.reduceLeDiff, Nat.reduceEqDiff, Nat.reduceMul, Nat.reduceSub, Nat.reduceLT, Nat.reduceBEq, reduceCtorEq, ↓reduceIte, Int.reduceToNat, Int.reduceLE, Int.reduceLT, Int.reduceEq, Int.reduceAdd, Int.reduceSub, Int.reduceMul, List.reduceReplicate, ← ht]
  rw [if_neg h0] at ht
  by_cases h1 : kind = 1
  · subst h1
    simp only [if_true, Option.some.injEq] at ht
    subst ht
    simp only [m71r0, m71r1, m71r2, m71r3, m71r4, m71r5, m71r6, m71r7, m71r8, m71r9, m71r10, m71r12, m71r13, m71r14, m71r15, m71r16, m71r17, m71r18, m71r19, m71, EVa, EVb, params, nilOk, bound, awayFrom, evM, fillA, setEls, Opd.ev, Fr.get, prune, Option.map, isB, tB, nB, isG, gT, gF, evRes, mapO, one, Nat.reduceAdd, Nat.reduceLeDiff, Nat.reduceEqDiff, Nat.reduceMul, Nat.reduceSub, Nat.reduceLT, Nat.reduceBEq, reduceCtorEq, ↓reduceIte, Int.reduceToNat, Int.reduceLE, Int.reduceLT, Int.reduceEq, Int.reduceAdd, Int.reduceSub, Int.reduceMul, List.reduceReplicate]
    refine WS_loop' (σ := Nat × Int × Heap) (fun s => [(1, .int .i64 a), (7, .int .i64 s.2.1), (19, .lst p 3 nil (sq.map avS)), (20, .int .i64 sq.length), (21, .int .i64 s.1)])
      (fun s => s.2.2) (fun s => sq.length - s.1) (fun s => s.1 ≤ sq.length ∧ s.2.1 + cnt (fun s => decide (s.d = a)) (sq.drop s.1) = cnt (fun s => decide (s.d = a)) sq ∧ (0 ≤ s.2.1 ∧ s.2.1 ≤ s.1)) (0, 0, _) rfl rfl ⟨by simp, by simp, by simp⟩ ?_
    rintro ⟨i, m, H⟩ ⟨hi, hm, hmb⟩
    dsimp only at hi hm hmb
    by_cases hlt : i < sq.length
    · have e1 : (sq.map avS)[i]? = some (avS sq[i]) := map_get hlt
      have e4 := wsucc (i := i) (by omega)
      have u1 := wrap_in (m + if sq[i].d = a then 1 else 0) (by split <;> omega) (by split <;> omega)
      rw [cnt_drop _ _ _ hlt] at hm
      simp only [m71l11, m71r0, m71r1, m71r2, m71r3, m71r4, m71r5, m71r6, m71r7, m71r8, m71r9, m71r10, m71r12, m71r13, m71r14, m71r15, m71r16, m71r17, m71r18, m71r19, m71, EVa, EVb, params, nilOk, bound, awayFrom, evM, fillA, setEls, Opd.ev, Fr.get, prune, Option.map, isB, tB, nB, isG, gT, gF, evRes, mapO, one, Nat.reduceAdd, Nat.reduceLeDiff, Nat.reduceEqDiff, Nat.reduceMul, Nat.reduceSub, Nat.reduceLT, Nat.reduceBEq, reduceCtorEq, ↓reduceIte, Int.reduceToNat, Int.reduceLE, Int.reduceLT, Int.reduceEq, Int.reduceAdd, Int.reduceSub, Int.reduceMul, List.reduceReplicate, e1, e4, hlt, avS, k85, u1]
      refine ⟨(_, _, _), ⟨rfl, rfl⟩, ⟨hlt, ?_, ?_⟩, by simp only; omega⟩
      · simp only [decide_eq_true_eq] at hm ⊢; omega
      · simp only; split <;> omega
    · rw [cnt_end _ _ _ hlt] at hm
      simp only [m71l11, m71r0, m71r1, m71r2, m71r3, m71r4, m71r5, m71r6, m71r7, m71r8, m71r9, m71r10, m71r12, m71r13, m71r14, m71r15, m71r16, m71r17, m71r18, m71r19, m71, EVa, EVb, params, nilOk, bound, awayFrom, evM, fillA, setEls, Opd.ev, Fr.get, prune, Option.map, isB, tB, nB, isG, gT, gF, evRes, mapO, one, Nat.reduceAdd, Nat.reduceLeDiff, Nat.reduceEqDiff, Nat.reduceMul, Nat.reduceSub, Nat.reduceLT, Nat.reduceBEq, reduceCtorEq, ↓reduceIte, Int.reduceToNat, Int.reduceLE, Int.reduceLT, Int.reduceEq, Int.reduceAdd, Int.reduceSub, Int.reduceMul, List.reduceReplicate, hlt]
      congr 1; omega
  rw [if_neg h1] at ht
  by_cases h2 : kind = 2
  · subst h2
    simp only [if_true] at ht
    have hw := hf.w
    have hW0 : ((W : Int) = 0) = False := eq_false (by omega)
    have hd := tdiv_bd (W := W) ha
    have w1 := wrap_in (a.tdiv W) (by omega) (by omega)
    split at ht
    · rename_i k hk
      obtain ⟨hkl, hkd⟩ : ∃ h : k < sq.length, sq[k].d = n := by
        cases hg : sq[k]? with
        | none => rw [hg] at ht; cases ht
        | some s =>
          obtain ⟨h, rfl⟩ := List.getElem?_eq_some_iff.1 hg
          rw [hg] at ht
          exact ⟨h, by simpa using ht⟩
      have e1 : (sq.map avS)[k]? = some (avS sq[k]) := map_get hkl
      have hkk := fun {d os live S Q fr A} => k86 W Hh p nil sq (a.tmod W) (a.tdiv W) hl (d := d) (os := os) (live := live) (S := S) (Q := Q) (fr := fr) (A := A)
      simp only [hk, numM] at hkk
      simp only [m71r0, m71r1, m71r2, m71r3, m71r4, m71r5, m71r6, m71r7, m71r8, m71r9, m71r10, m71r12, m71r13, m71r14, m71r15, m71r16, m71r17, m71r18, m71r19, m71, EVa, EVb, params, nilOk, bound, awayFrom, evM, fillA, setEls, Opd.ev, Fr.get, prune, Option.map, isB, tB, nB, isG, gT, gF, evRes, mapO, one, Nat.reduceAdd, Nat.reduceLeDiff, Nat.reduceEqDiff, Nat.reduceMul, Nat.reduceSub, Nat.reduceLT, Nat.reduceBEq, reduceCtorEq, ↓reduceIte, Int.reduceToNat, Int.reduceLE, Int.reduceLT, Int.reduceEq, Int.reduceAdd, Int.reduceSub, Int.reduceMul, List.reduceReplicate, hW0, w1, hkk, e1, avS, hkd]
    · cases ht
  rw [if_neg h2] at ht
  by_cases h3 : kind = 3
  · subst h3
    simp only [if_true] at ht
    rcases get4 ht with ⟨rfl, rfl⟩ | ⟨rfl, rfl⟩ | ⟨rfl, rfl⟩ | ⟨rfl, rfl⟩ <;>
    simp only [m71r0, m71r1, m71r2, m71r3, m71r4, m71r5, m71r6, m71r7, m71r8, m71r9, m71r10, m71r12, m71r13, m71r14, m71r15, m71r16, m71r17, m71r18, m71r19, m71, EVa, EVb, params, nilOk, bound, awayFrom, evM, fillA, setEls, Opd.ev, Fr.get, prune, Option.map, isB, tB, nB, isG, gT, gF, evRes, mapO, one, Nat.reduceAdd, Nat.reduceLeDiff, Nat.reduceEqDiff, Nat.reduceMul, Nat.reduceSub, Nat.reduceLT, Nat.reduceBEq, reduceCtorEq, ↓reduceIte, Int.reduceToNat, Int.reduceLE, Int.reduceLT, Int.reduceEq, Int.reduceAdd, Int.reduceSub, Int.reduceMul, List.reduceReplicate, k87 _ _ _ _ _ hf.b]
  rw [if_neg h3] at ht
  by_cases h4 : kind = 4
  · subst h4
    simp only [if_true, Option.some.injEq] at ht
    simp only [m71r0, m71r1, m71r2, m71r3, m71r4, m71r5, m71r6, m71r7, m71r8, m71r9, m71r10, m71r12, m71r13, m71r14, m71r15, m71r16, m71r17, m71r18, m71r19, m71, EVa, EVb, params, nilOk, bound, awayFrom, evM, fillA, setEls, Opd.ev, Fr.get, prune, Option.map, isB, tB, nB, isG, gT, gF, evRes, mapO, one, Nat.reduceAdd, Nat.reduceLeDiff, Nat.reduceEqDiff, Nat.reduceMul, Nat.reduceSub, Nat.reduceLT, Nat.reduceBEq, reduceCtorEq, ↓reduceIte, Int.reduceToNat, Int.reduceLE, Int.reduceLT, Int.reduceEq, Int.reduceAdd, Int.reduceSub, Int.reduceMul, List.reduceReplicate, k88 _ _ _ _ _ hf.b, ← ht]
  rw [if_neg h4] at ht
  simp only [Option.some.injEq] at ht
  simp only [m71r0, m71r1, m71r2, m71r3, m71r4, m71r5, m71r6, m71r7, m71r8, m71r9, m71r10, m71r12, m71r13, m71r14, m71r15, m71r16, m71r17, m71r18, m71r19, m71, EVa, EVb, params, nilOk, bound, awayFrom, evM, fillA, setEls, Opd.ev, Fr.get, prune, Option.map, isB, tB, nB, isG, gT, gF, evRes, mapO, one, Nat.reduceAdd, Nat.reduceLeDiff, Nat.reduceEqDiff, Nat.reduceMul, Nat.reduceSub, Nat.reduceLT, Nat.reduceBEq, reduceCtorEq, ↓reduceIte, Int.reduceToNat, Int.reduceLE, Int.reduceLT, Int.reduceEq, Int.reduceAdd, Int.reduceSub, Int.reduceMul, List.reduceReplicate, h0, h1, h2, h3, h4, k89 _ _ _ _ _ hf, ← ht]
theorem k71 (kind a : Int) (W Hh : Nat) (p nil : Bool) (sq : List Sq) (hf : Fit W Hh sq) (ha : 0 ≤ a ∧ a ≤ 1000) (n : Int) (ht : toldO kind a W Hh sq = some n) {d : Option Nat} {os : List MOp} {live : List Nat} {S : List KF} {Q : FQ} {fr : Fr} {A : Heap} : WCR T .ro 71 [.int .i64 kind, .int .i64 a, .agg [.int .i64 (W : Int), .int .i64 (Hh : Int), .lst p 3 nil (sq.map avS)]] d os live S Q fr A ↔ WP T os live S Q (putd d (.int .i64 n) fr) A := (p71 kind a W Hh p nil sq hf ha n ht).call (by simp only [mapO, depth_is, bo_agg, bo_int, bo_bool, bo_str, bo_lst, bo_lS, bo_rp, bo_fn])
theorem t64 : T 64 = some (.code m64) := rfl
theorem p64 (kind a : Int) (W Hh : Nat) (p nil : Bool) (sq : List Sq) (hf : Fit W Hh sq) (hg : goodP W Hh sq = true) (ha : 0 ≤ a ∧ a ≤ 1000) (n : Int) (ht : pzO kind a W Hh sq = some n) : Pure T 64 [.int .i64 kind, .int .i64 a, .agg [.int .i64 (W : Int), .int .i64 (Hh : Int), .lst p 3 nil (sq.map avS)]] (.int .i64 n) := by
  rw [Pure_of t64]
  unfold pzO at ht
  have hl := hf.b.1
  have hw := hf.w
  have hh := hf.h
  by_cases h0 : kind = 0
  · subst h0
    simp only [if_true, Option.some.injEq] at ht
    simp only [m64r0, m64r1, m64r2, m64r3, m64r4, m64r5, m64r6, m64r7, m64r8, m64r9, m64r10, m64r11, m64r12, m64r13, m64r14, m64r15, m64r16, m64r17, m64r18, m64r20, m64, EVa, EVb, params, nilOk, bound, awayFrom, evM, fillA, setEls, Opd.ev, Fr.get, prune, Option.map, isB, tB, nB, isG, gT, gF, evRes, mapO, one, Nat.reduceAdd, Nat.reduceLeDiff, Nat.reduceEqDiff, Nat.reduceMul, Nat.reduceSub, Nat.reduceLT, Nat.reduceBEq, reduceCtorEq, ↓reduceIte, Int.reduceToNat, Int.reduceLE, Int.reduceLT, Int.reduceEq, Int.reduceAdd, Int.reduceSub, Int.reduceMul, List.reduceReplicate, ← ht]
  rw [if_neg h0] at ht
  by_cases h2 : kind = 2
  · subst h2
    simp only [if_true] at ht
    have hW0 : ((W : Int) = 0) = False := eq_false (by omega)
    have hd := tdiv_bd (W := W) ha
    have w1 := wrap_in (a.tdiv W) (by omega) (by omega)
    split at ht
    · rename_i hxy
      rw [Bool.and_eq_true] at hxy
      obtain ⟨k, hk, hkl, hkd⟩ : ∃ k : Nat, numO (idxP (cellP (a.tmod W) (a.tdiv W)) sq 0) = k ∧ ∃ h : k < sq.length, sq[k].d = n := by
        split at ht
        · rename_i k hk
          refine ⟨k, by rw [hk]; rfl, ?_⟩
          cases hg : sq[k]? with
          | none => rw [hg] at ht; cases ht
          | some s =>
            obtain ⟨h, rfl⟩ := List.getElem?_eq_some_iff.1 hg
            rw [hg] at ht
            exact ⟨h, by simpa using ht⟩
        · rename_i hk
          refine ⟨0, by rw [hk]; rfl, ?_⟩
          cases hg : sq[0]? with
          | none => rw [hg] at ht; cases ht
          | some s =>
            obtain ⟨h, rfl⟩ := List.getElem?_eq_some_iff.1 hg
            rw [hg] at ht
            exact ⟨h, by simpa using ht⟩
      have e1 : (sq.map avS)[k]? = some (avS sq[k]) := map_get hkl
      have hkk := fun {d os live S Q fr A} => k78 W Hh p nil sq (a.tmod W) (a.tdiv W) hg hxy.1 hxy.2 (d := d) (os := os) (live := live) (S := S) (Q := Q) (fr := fr) (A := A)
      rw [hk] at hkk
      simp only [m64r0, m64r1, m64r2, m64r3, m64r4, m64r5, m64r6, m64r7, m64r8, m64r9, m64r10, m64r11, m64r12, m64r13, m64r14, m64r15, m64r16, m64r17, m64r18, m64r20, m64, EVa, EVb, params, nilOk, bound, awayFrom, evM, fillA, setEls, Opd.ev, Fr.get, prune, Option.map, isB, tB, nB, isG, gT, gF, evRes, mapO, one, Nat.reduceAdd, Nat.reduceLeDiff, Nat.reduceEqDiff, Nat.reduceMul, Nat.reduceSub, Nat.reduceLT, Nat.reduceBEq, reduceCtorEq, ↓reduceIte, Int.reduceToNat, Int.reduceLE, Int.reduceLT, Int.reduceEq, Int.reduceAdd, Int.reduceSub, Int.reduceMul, List.reduceReplicate, hW0, w1, hkk, e1, avS, hkd]
    · cases ht
  rw [if_neg h2] at ht
  by_cases h3 : kind = 3
  · subst h3
    simp only [if_true] at ht
    rcases get4 ht with ⟨rfl, rfl⟩ | ⟨rfl, rfl⟩ | ⟨rfl, rfl⟩ | ⟨rfl, rfl⟩ <;>
    simp only [m64r0, m64r1, m64r2, m64r3, m64r4, m64r5, m64r6, m64r7, m64r8, m64r9, m64r10, m64r11, m64r12, m64r13, m64r14, m64r15, m64r16, m64r17, m64r18, m64r20, m64, EVa, EVb, params, nilOk, bound, awayFrom, evM, fillA, setEls, Opd.ev, Fr.get, prune, Option.map, isB, tB, nB, isG, gT, gF, evRes, mapO, one, Nat.reduceAdd, Nat.reduceLeDiff, Nat.reduceEqDiff, Nat.reduceMul, Nat.reduceSub, Nat.reduceLT, Nat.reduceBEq, reduceCtorEq, ↓reduceIte, Int.reduceToNat, Int.reduceLE, Int.reduceLT, Int.reduceEq, Int.reduceAdd, Int.reduceSub, Int.reduceMul, List.reduceReplicate, k79 _ _ _ _ _ hg]
  rw [if_neg h3] at ht
  by_cases h5 : kind = 5
  · subst h5
    simp only [if_true, Option.some.injEq] at ht
    have hne : sq ≠ [] := by intro h; have := hf.n.1; simp [h] at this
    have hft := hf.turn
    have hk1 := fun {d os live S Q fr A} => k81 W Hh p nil sq hf.b (by omega) (by omega) (d := d) (os := os) (live := live) (S := S) (Q := Q) (fr := fr) (A := A)
    have hk2 := fun {d os live S Q fr A} => k82 W Hh p nil sq hf.b (by omega) hne (d := d) (os := os) (live := live) (S := S) (Q := Q) (fr := fr) (A := A)
    have hk3 := fun {d os live S Q fr A} => k81 Hh W true false (sortP (sq.map (turnS Hh))) hft.b (by omega) (by omega) (d := d) (os := os) (live := live) (S := S) (Q := Q) (fr := fr) (A := A)
    simp only [m64r0, m64r1, m64r2, m64r3, m64r4, m64r5, m64r6, m64r7, m64r8, m64r9, m64r10, m64r11, m64r12, m64r13, m64r14, m64r15, m64r16, m64r17, m64r18, m64r20, m64, EVa, EVb, params, nilOk, bound, awayFrom, evM, fillA, setEls, Opd.ev, Fr.get, prune, Option.map, isB, tB, nB, isG, gT, gF, evRes, mapO, one, Nat.reduceAdd, Nat.reduceLeDiff, Nat.reduceEqDiff, Nat.reduceMul, Nat.reduceSub, Nat.reduceLT, Nat.reduceBEq, reduceCtorEq, ↓reduceIte, Int.reduceToNat, Int.reduceLE, Int.reduceLT, Int.reduceEq, Int.reduceAdd, Int.reduceSub, Int.reduceMul, List.reduceReplicate, hk1, hk2, hk3, k80, ← ht]
  rw [if_neg h5] at ht
  simp only [Option.some.injEq] at ht
  subst ht
  simp only [m64r0, m64r1, m64r2, m64r3, m64r4, m64r5, m64r6, m64r7, m64r8, m64r9, m64r10, m64r11, m64r12, m64r13, m64r14, m64r15, m64r16, m64r17, m64r18, m64r20, m64, EVa, EVb, params, nilOk, bound, awayFrom, evM, fillA, setEls, Opd.ev, Fr.get, prune, Option.map, isB, tB, nB, isG, gT, gF, evRes, mapO, one, Nat.reduceAdd, Nat.reduceLeDiff, Nat.reduceEqDiff, Nat.reduceMul, Nat.reduceSub, Nat.reduceLT, Nat.reduceBEq, reduceCtorEq, ↓reduceIte, Int.reduceToNat, Int.reduceLE, Int.reduceLT, Int.reduceEq, Int.reduceAdd, Int.reduceSub, Int.reduceMul, List.reduceReplicate, h0, h2, h3, h5]
  refine WS_loop' (σ := Nat × Int × Heap) (fun s => [(0, .int .i64 kind), (1, .int .i64 a), (5, .rp [.int .i64 (W : Int), .int .i64 (Hh : Int), .lst p 3 nil (sq.map avS)] 0), (7, .int .i64 s.2.1), (61, .lst p 3 nil (sq.map avS)), (62, .int .i64 sq.length), (63, .int .i64 s.1)])
    (fun s => s.2.2) (fun s => sq.length - s.1) (fun s => s.1 ≤ sq.length ∧ s.2.1 + cnt (fun s => (decide (kind = 1) && decide (s.d = a)) || (decide (kind = 4) && decide (cnt (cornP s.x s.y) sq = 4))) (sq.drop s.1) = cnt (fun s => (decide (kind = 1) && decide (s.d = a)) || (decide (kind = 4) && decide (cnt (cornP s.x s.y) sq = 4))) sq ∧ (0 ≤ s.2.1 ∧ s.2.1 ≤ s.1)) (0, 0, _) rfl rfl ⟨by simp, by simp, by simp⟩ ?_
  rintro ⟨i, m, H⟩ ⟨hi, hm, hmb⟩
  dsimp only at hi hm hmb
  by_cases hlt : i < sq.length
  · have e1 : (sq.map avS)[i]? = some (avS sq[i]) := map_get hlt
    have e4 := wsucc (i := i) (by omega)
    have u1 := wrap_in (m + 1) (by omega) (by omega)
    rw [cnt_drop _ _ _ hlt] at hm
    have hkc := fun {x y d os live S Q fr A} => k83 W Hh p nil sq x y hf.b (d := d) (os := os) (live := live) (S := S) (Q := Q) (fr := fr) (A := A)
    (try simp only [EVa, EVb, params, nilOk, bound, awayFrom, evM, fillA, setEls, Opd.ev, Fr.get, prune, Option.map, isB, tB, nB, isG, gT, gF, evRes, mapO, one, Nat.reduceAdd, Nat.reduceLeDiff, Nat.reduceEqDiff, Nat.reduceMul, Nat.reduceSub, Nat.reduceLT, Nat.reduceBEq, reduceCtorEq, ↓reduceIte, Int.reduceToNat, Int.reduceLE, Int.reduceLT, Int.reduceEq, Int.reduceAdd, Int.reduceSub, Int.reduceMul, List.reduceReplicate, m64l19, m64r0, m64r1, m64r2, m64r3, m64r4, m64r5, m64r6, m64r7, m64r8, m64r9, m64r10, m64r11, m64r12, m64r13, m64r14, m64r15, m64r16, m64r17, m64r18, m64r20, m64, e1, e4, hlt, avS, hkc, u1] <;> (try (first | refine WP_split (by simp only [EVa, EVb, params, nilOk, bound, awayFrom, evM, fillA, setEls, Opd.ev, Fr.get, prune, Option.map, isB, tB, nB, isG, gT, gF, evRes, mapO, one, Nat.reduceAdd, Nat.reduceLeDiff, Nat.reduceEqDiff, Nat.reduceMul, Nat.reduceSub, Nat.reduceLT, Nat.reduceBEq, reduceCtorEq, ↓reduceIte, Int.reduceToNat, Int.reduceLE, Int.reduceLT, Int.reduceEq, Int.reduceAdd, Int.reduceSub, Int.reduceMul, List.reduceReplicate]) (fun hc1 => ?_) (fun hc1 => ?_) | refine WS_split (by simp only [EVa, EVb, params, nilOk, bound, awayFrom, evM, fillA, setEls, Opd.ev, Fr.get, prune, Option.map, isB, tB, nB, isG, gT, gF, evRes, mapO, one, Nat.reduceAdd, Nat.reduceLeDiff, Nat.reduceEqDiff, Nat.reduceMul, Nat.reduceSub, Nat.reduceLT, Nat.reduceBEq, reduceCtorEq, ↓reduceIte, Int.reduceToNat, Int.reduceLE, Int.reduceLT, Int.reduceEq, Int.reduceAdd, Int.reduceSub, Int.reduceMul, List.reduceReplicate]) (fun hc1 => ?_) (fun hc1 => ?_)) <;> try simp only [EVa, EVb, params, nilOk, bound, awayFrom, evM, fillA, setEls, Opd.ev, Fr.get, prune, Option.map, isB, tB, nB, isG, gT, gF, evRes, mapO, one, Nat.reduceAdd, Nat.reduceLeDiff, Nat.reduceEqDiff, Nat.reduceMul, Nat.reduceSub, Nat.reduceLT, Nat.reduceBEq, reduceCtorEq, ↓reduceIte, Int.reduceToNat, Int.reduceLE, Int.reduceLT, Int.reduceEq, Int.reduceAdd, Int.reduceSub, Int.reduceMul, List.reduceReplicate] at hc1 <;> (try simp only [EVa, EVb, params, nilOk, bound, awayFrom, evM, fillA, setEls, Opd.ev, Fr.get, prune, Option.map, isB, tB, nB, isG, gT, gF, evRes, mapO, one, Nat.reduceAdd, Nat.reduceLeDiff, Nat.reduceEqDiff, Nat.reduceMul, Nat.reduceSub, Nat.reduceLT, Nat.reduceBEq, reduceCtorEq, ↓reduceIte, Int.reduceToNat, Int.reduceLE, Int.reduceLT, Int.reduceEq, Int.reduceAdd, Int.reduceSub, Int.reduceMul, List.reduceReplicate, m64l19, m64r0, m64r1, m64r2, m64r3, m64r4, m64r5, m64r6, m64r7, m64r8, m64r9, m64r10, m64r11, m64r12, m64r13, m64r14, m64r15, m64r16, m64r17, m64r18, m64r20, m64, e1, e4, hlt, avS, hkc, u1, hc1] <;> (try (first | refine WP_split (by simp only [EVa, EVb, params, nilOk, bound, awayFrom, evM, fillA, setEls, Opd.ev, Fr.get, prune, Option.map, isB, tB, nB, isG, gT, gF, evRes, mapO, one, Nat.reduceAdd, Nat.reduceLeDiff, Nat.reduceEqDiff, Nat.reduceMul, Nat.reduceSub, Nat.reduceLT, Nat.reduceBEq, reduceCtorEq, ↓reduceIte, Int.reduceToNat, Int.reduceLE, Int.reduceLT, Int.reduceEq, Int.reduceAdd, Int.reduceSub, Int.reduceMul, List.reduceReplicate]) (fun hc2 => ?_) (fun hc2 => ?_) | refine WS_split (by simp only [EVa, EVb, params, nilOk, bound, awayFrom, evM, fillA, setEls, Opd.ev, Fr.get, prune, Option.map, isB, tB, nB, isG, gT, gF, evRes, mapO, one, Nat.reduceAdd, Nat.reduceLeDiff, Nat.reduceEqDiff, Nat.reduceMul, Nat.reduceSub, Nat.reduceLT, Nat.reduceBEq, reduceCtorEq, ↓reduceIte, Int.reduceToNat, Int.reduceLE, Int.reduceLT, Int.reduceEq, Int.reduceAdd, Int.reduceSub, Int.reduceMul, List.reduceReplicate]) (fun hc2 => ?_) (fun hc2 => ?_)) <;> try simp only [EVa, EVb, params, nilOk, bound, awayFrom, evM, fillA, setEls, Opd.ev, Fr.get, prune, Option.map, isB, tB, nB, isG, gT, gF, evRes, mapO, one, Nat.reduceAdd, Nat.reduceLeDiff, Nat.reduceEqDiff, Nat.reduceMul, Nat.reduceSub, Nat.reduceLT, Nat.reduceBEq, reduceCtorEq, ↓reduceIte, Int.reduceToNat, Int.reduceLE, Int.reduceLT, Int.reduceEq, Int.reduceAdd, Int.reduceSub, Int.reduceMul, List.reduceReplicate] at hc2 <;> (try simp only [EVa, EVb, params, nilOk, bound, awayFrom, evM, fillA, setEls, Opd.ev, Fr.get, prune, Option.map, isB, tB, nB, isG, gT, gF, evRes, mapO, one, Nat.reduceAdd, Nat.reduceLeDiff, Nat.reduceEqDiff, Nat.reduceMul, Nat.reduceSub, Nat.reduceLT, Nat.reduceBEq, reduceCtorEq, ↓reduceIte, Int.reduceToNat, Int.reduceLE, Int.reduceLT, Int.reduceEq, Int.reduceAdd, Int.reduceSub, Int.reduceMul, List.reduceReplicate, m64l19, m64r0, m64r1, m64r2, m64r3, m64r4, m64r5, m64r6, m64r7, m64r8, m64r9, m64r10, m64r11, m64r12, m64r13, m64r14, m64r15, m64r16, m64r17, m64r18, m64r20, m64, e1, e4, hlt, avS, hkc, u1, hc1, hc2] <;> (try (first | refine WP_split (by simp only [EVa, EVb, params, nilOk, bound, awayFrom, evM, fillA, setEls, Opd.ev, Fr.get, prune, Option.map, isB, tB, nB, isG, gT, gF, evRes, mapO, one, Nat.reduceAdd, Nat.reduceLeDiff, Nat.reduceEqDiff, Nat.reduceMul, Nat.reduceSub, Nat.reduceLT, Nat.reduceBEq, reduceCtorEq, ↓reduceIte, Int.reduceToNat, Int.reduceLE, Int.reduceLT, Int.reduceEq, Int.reduceAdd, Int.reduceSub, Int.reduceMul, List.reduceReplicate]) (fun hc3 => ?_) (fun hc3 => ?_) | refine WS_split (by simp only [EVa, EVb, params, nilOk, bound, awayFrom, evM, fillA, setEls, Opd.ev, Fr.get, prune, Option.map, isB, tB, nB, isG, gT, gF, evRes, mapO, one, Nat.reduceAdd, Nat.reduceLeDiff, Nat.reduceEqDiff, Nat.reduceMul, Nat.reduceSub, Nat.reduceLT, Nat.reduceBEq, reduceCtorEq, ↓reduceIte, Int.reduceToNat, Int.reduceLE, Int.reduceLT, Int.reduceEq, Int.reduceAdd, Int.reduceSub, Int.reduceMul, List.reduceReplicate]) (fun hc3 => ?_) (fun hc3 => ?_)) <;> try simp only [EVa, EVb, params, nilOk, bound, awayFrom, evM, fillA, setEls, Opd.ev, Fr.get, prune, Option.map, isB, tB, nB, isG, gT, gF, evRes, mapO, one, Nat.reduceAdd, Nat.reduceLeDiff, Nat.reduceEqDiff, Nat.reduceMul, Nat.reduceSub, Nat.reduceLT, Nat.reduceBEq, reduceCtorEq, ↓reduceIte, Int.reduceToNat, Int.reduceLE, Int.reduceLT, Int.reduceEq, Int.reduceAdd, Int.reduceSub, Int.reduceMul, List.reduceReplicate] at hc3 <;> (try simp only [EVa, EVb, params, nilOk, bound, awayFrom, evM, fillA, setEls, Opd.ev, Fr.get, prune, Option.map, isB, tB, nB, isG, gT, gF, evRes, mapO, one, Nat.reduceAdd, Nat.reduceLeDiff, Nat.reduceEqDiff, Nat.reduceMul, Nat.reduceSub, Nat.reduceLT, Nat.reduceBEq, reduceCtorEq, ↓reduceIte, Int.reduceToNat, Int.reduceLE, Int.reduceLT, Int.reduceEq, Int.reduceAdd, Int.reduceSub, Int.reduceMul, List.reduceReplicate, m64l19, m64r0, m64r1, m64r2, m64r3, m64r4, m64r5, m64r6, m64r7, m64r8, m64r9, m64r10, m64r11, m64r12, m64r13, m64r14, m64r15, m64r16, m64r17, m64r18, m64r20, m64, e1, e4, hlt, avS, hkc, u1, hc1, hc2, hc3] <;> (try (first | refine WP_split (by simp only [EVa, EVb, params, nilOk, bound, awayFrom, evM, fillA, setEls, Opd.ev, Fr.get, prune, Option.map, isB, tB, nB, isG, gT, gF, evRes, mapO, one, Nat.reduceAdd, Nat.reduceLeDiff, Nat.reduceEqDiff, Nat.reduceMul, Nat.reduceSub, Nat.reduceLT, Nat.reduceBEq, reduceCtorEq, ↓reduceIte, Int.reduceToNat, Int.reduceLE, Int.reduceLT, Int.reduceEq, Int.reduceAdd, Int.reduceSub, Int.reduceMul, List.reduceReplicate]) (fun hc4 => ?_) (fun hc4 => ?_) | refine WS_split (by simp only [EVa, EVb, params, nilOk, bound, awayFrom, evM, fillA, setEls, Opd.ev, Fr.get, prune, Option.map, isB, tB, nB, isG, gT, gF, evRes, mapO, one, Nat.reduceAdd, Nat.reduceLeDiff, Nat.reduceEqDiff, Nat.reduceMul, Nat.reduceSub, Nat.reduceLT, Nat.reduceBEq, reduceCtorEq, ↓reduceIte, Int.reduceToNat, Int.reduceLE, Int.reduceLT, Int.reduceEq, Int.reduceAdd, Int.reduceSub, Int.reduceMul, List.reduceReplicate]) (fun hc4 => ?_) (fun hc4 => ?_)) <;> try simp only [EVa, EVb, params, nilOk, bound, awayFrom, evM, fillA, setEls, Opd.ev, Fr.get, prune, Option.map, isB, tB, nB, isG, gT, gF, evRes, mapO, one, Nat.reduceAdd, Nat.reduceLeDiff, Nat.reduceEqDiff, Nat.reduceMul, Nat.reduceSub, Nat.reduceLT, Nat.reduceBEq, reduceCtorEq, ↓reduceIte, Int.reduceToNat, Int.reduceLE, Int.reduceLT, Int.reduceEq, Int.reduceAdd, Int.reduceSub, Int.reduceMul, List.reduceReplicate] at hc4 <;> (try simp only [EVa, EVb, params, nilOk, bound, awayFrom, evM, fillA, setEls, Opd.ev, Fr.get, prune, Option.map, isB, tB, nB, isG, gT, gF, evRes, mapO, one, Nat.reduceAdd, Nat.reduceLeDiff, Nat.reduceEqDiff, Nat.reduceMul, Nat.reduceSub, Nat.reduceLT, Nat.reduceBEq, reduceCtorEq, ↓reduceIte, Int.reduceToNat, Int.reduceLE, Int.reduceLT, Int.reduceEq, Int.reduceAdd, Int.reduceSub, Int.reduceMul, List.reduceReplicate, m64l19, m64r0, m64r1, m64r2, m64r3, m64r4, m64r5, m64r6, m64r7, m64r8, m64r9, m64r10, m64r11, m64r12, m64r13, m64r14, m64r15, m64r16, m64r17, m64r18, m64r20, m64, e1, e4, hlt, avS, hkc, u1, hc1, hc2, hc3, hc4] <;> (try (first | refine WP_split (by simp only [EVa, EVb, params, nilOk, bound, awayFrom, evM, fillA, setEls, Opd.ev, Fr.get, prune, Option.map, isB, tB, nB, isG, gT, gF, evRes, mapO, one, Nat.reduceAdd, Nat.reduceLeDiff, Nat.reduceEqDiff, Nat.reduceMul, Nat.reduceSub, Nat.reduceLT, Nat.reduceBEq, reduceCtorEq, ↓reduceIte, Int.reduceToNat, Int.reduceLE, Int.reduceLT, Int.reduceEq, Int.reduceAdd, Int.reduceSub, Int.reduceMul, List.reduceReplicate]) (fun hc5 => ?_) (fun hc5 => ?_) | refine WS_split (by simp only [EVa, EVb, params, nilOk, bound, awayFrom, evM, fillA, setEls, Opd.ev, Fr.get, prune, Option.map, isB, tB, nB, isG, gT, gF, evRes, mapO, one, Nat.reduceAdd, Nat.reduceLeDiff, Nat.reduceEqDiff, Nat.reduceMul, Nat.reduceSub, Nat.reduceLT, Nat.reduceBEq, reduceCtorEq, ↓reduceIte, Int.reduceToNat, Int.reduceLE, Int.reduceLT, Int.reduceEq, Int.reduceAdd, Int.reduceSub, Int.reduceMul, List.reduceReplicate]) (fun hc5 => ?_) (fun hc5 => ?_)) <;> try simp only [EVa, EVb, params, nilOk, bound, awayFrom, evM, fillA, setEls, Opd.ev, Fr.get, prune, Option.map, isB, tB, nB, isG, gT, gF, evRes, mapO, one, Nat.reduceAdd, Nat.reduceLeDiff, Nat.reduceEqDiff, Nat.reduceMul, Nat.reduceSub, Nat.reduceLT, Nat.reduceBEq, reduceCtorEq, ↓reduceIte, Int.reduceToNat, Int.reduceLE, Int.reduceLT, Int.reduceEq, Int.reduceAdd, Int.reduceSub, Int.reduceMul, List.reduceReplicate] at hc5 <;> (try simp only [EVa, EVb, params, nilOk, bound, awayFrom, evM, fillA, setEls, Opd.ev, Fr.get, prune, Option.map, isB, tB, nB, isG, gT, gF, evRes, mapO, one, Nat.reduceAdd, Nat.reduceLeDiff, Nat.reduceEqDiff, Nat.reduceMul, Nat.reduceSub, Nat.reduceLT, Nat.reduceBEq, reduceCtorEq, ↓reduceIte, Int.reduceToNat, Int.reduceLE, Int.reduceLT, Int.reduceEq, Int.reduceAdd, Int.reduceSub, Int.reduceMul, List.reduceReplicate, m64l19, m64r0, m64r1, m64r2, m64r3, m64r4, m64r5, m64r6, m64r7, m64r8, m64r9, m64r10, m64r11, m64r12, m64r13, m64r14, m64r15, m64r16, m64r17, m64r18, m64r20, m64, e1, e4, hlt, avS, hkc, u1, hc1, hc2, hc3, hc4, hc5])))))))))))
    all_goals (refine ⟨(_, _, _), ⟨rfl, rfl⟩, ⟨hlt, ?_⟩, by simp only; omega⟩; simp only at hm ⊢)
    all_goals first
      | (simp_all; done)
      | (simp_all; omega)
  · rw [cnt_end _ _ _ hlt] at hm
    simp only [m64l19, m64r0, m64r1, m64r2, m64r3, m64r4, m64r5, m64r6, m64r7, m64r8, m64r9, m64r10, m64r11, m64r12, m64r13, m64r14, m64r15, m64r16, m64r17, m64r18, m64r20, m64, EVa, EVb, params, nilOk, bound, awayFrom, evM, fillA, setEls, Opd.ev, Fr.get, prune, Option.map, isB, tB, nB, isG, gT, gF, evRes, mapO, one, Nat.reduceAdd, Nat.reduceLeDiff, Nat.reduceEqDiff, Nat.reduceMul, Nat.reduceSub, Nat.reduceLT, Nat.reduceBEq, reduceCtorEq, ↓reduceIte, Int.reduceToNat, Int.reduceLE, Int.reduceLT, Int.reduceEq, Int.reduceAdd, Int.reduceSub, Int.reduceMul, List.reduceReplicate, hlt]
    congr 1; omega
theorem k64 (kind a : Int) (W Hh : Nat) (p nil : Bool) (sq : List Sq) (hf : Fit W Hh sq) (hg : goodP W Hh sq = true) (ha : 0 ≤ a ∧ a ≤ 1000) (n : Int) (ht : pzO kind a W Hh sq = some n) {d : Option Nat} {os : List MOp} {live : List Nat} {S : List KF} {Q : FQ} {fr : Fr} {A : Heap} : WCR T .ro 64 [.int .i64 kind, .int .i64 a, .agg [.int .i64 (W : Int), .int .i64 (Hh : Int), .lst p 3 nil (sq.map avS)]] d os live S Q fr A ↔ WP T os live S Q (putd d (.int .i64 n) fr) A := (p64 kind a W Hh p nil sq hf hg ha n ht).call (by simp only [mapO, depth_is, bo_agg, bo_int, bo_bool, bo_str, bo_lst, bo_lS, bo_rp, bo_fn])
end Go.Ev.Z
end
