import Derived.Test.YtfgbdbakafdinaaGreatWalkFourth

section
set_option maxRecDepth 100000
set_option linter.unusedSimpArgs false
set_option linter.unusedVariables false
namespace Go.Ev.Z
open Go Go.Ev
theorem CutsAt.bo {A : Heap} {W Hh : Nat} {v : AV} {es : List Ent} (h : CutsAt A W Hh v es) : borrow A 8 v = some (.lst false 3 false ((es.map Prod.snd).map (encP false W Hh))) := by
  obtain ⟨⟨id, rest, rfl, hid⟩, hho, _⟩ := h
  exact bo_sl hid rfl (by simp) (by
    rw [List.drop_zero, List.take_append_of_le_length (by simp), List.take_of_length_le (by simp)]
    exact avBs_bo 3 es hho)
theorem avBs_gb {A : Heap} {W Hh : Nat} (d : Nat) : ∀ es : List Ent, (∀ e, e ∈ es → Hold A e) → mapO (giveBack A (d + 4)) (es.map (avB W Hh)) = some ((es.map Prod.snd).map (encT W Hh))
  | [], _ => rfl
  | e :: r, h => mapO_cons (by
      have hh : A[e.1]? = some ⟨80, 3, e.2.map avS⟩ := h e (by simp)
      have hm := gb_avS A d e.2
      have ht : (e.2.map avS).take e.2.length = e.2.map avS := List.take_of_length_le (by simp)
      have := gb_sl (A := A) (d := d + 2) hh (sz := 3) (ver := e.2.length) (off := 0) (len := e.2.length) (by simp) (by simp) (ys := e.2.map avS) (by rw [List.drop_zero]; simp only [ht]; exact hm)
      simp only [avB, encT, giveBack, mapO] at this ⊢
      rw [this]) (avBs_gb d r fun e he => h e (by simp [he]))
theorem CutsAt.gb {A : Heap} {W Hh : Nat} {v : AV} {es : List Ent} (h : CutsAt A W Hh v es) : giveBack A 8 v = some (.lst true 3 false ((es.map Prod.snd).map (encT W Hh))) := by
  obtain ⟨⟨id, rest, rfl, hid⟩, hho, _⟩ := h
  exact gb_sl hid rfl (by simp) (by
    rw [List.drop_zero, List.take_append_of_le_length (by simp), List.take_of_length_le (by simp)]
    exact avBs_gb 3 es hho)
theorem bo_lE (A : Heap) (d : Nat) (p nil q : Bool) (sz W Hh : Nat) (l : List (List Sq)) : borrow A (d + 5) (.lst p sz nil (l.map (encP q W Hh))) = some (.lst p sz nil (l.map (encP q W Hh))) := bo_lst_id (bo_encP A d q W Hh l)
theorem t20 : T 20 = some (.code m20) := rfl
theorem p20 (p q n1 n2 p1 p2 : Bool) (s1 s2 W Hh : Nat) (ls : List (List Sq)) (h1 : s1 = 3 ∨ ls = []) (h2 : s2 = 3 ∨ ls = []) (hb : ∀ sq, sq ∈ ls → sq.length ≤ 1048576) (hl : ls.length ≤ 1048576) : Pure T 20 [.lst p s1 n1 (ls.map (encP p1 W Hh)), .lst q s2 n2 (ls.map (encP p2 W Hh))] (.bool true) := by
  rw [Pure_of t20]
  simp only [m20r0, m20r1, m20r2, m20r3, m20r4, m20r5, m20r6, m20r7, m20r9, m20, EVa, EVb, params, nilOk, bound, awayFrom, evM, fillA, setEls, Opd.ev, Fr.get, prune, Option.map, isB, tB, nB, isG, gT, gF, evRes, mapO, one, Nat.reduceAdd, Nat.reduceLeDiff, Nat.reduceEqDiff, Nat.reduceMul, Nat.reduceSub, Nat.reduceLT, Nat.reduceBEq, reduceCtorEq, ↓reduceIte, Int.reduceToNat, Int.reduceLE, Int.reduceLT, Int.reduceEq, Int.reduceAdd, Int.reduceSub, Int.reduceMul, List.reduceReplicate]
  refine WS_loop' (σ := Nat) (fun s => [(0, .lst p s1 n1 (ls.map (encP p1 W Hh))), (1, .lst q s2 n2 (ls.map (encP p2 W Hh))), (5, .int .i64 (s : Int))])
    (fun _ => []) (fun s => ls.length - s) (fun s => s ≤ ls.length) 0 rfl rfl (Nat.zero_le _) ?_
  rintro i hi
  by_cases hlt : i < ls.length
  · have hs1 : s1 = 3 := h1.resolve_right (by intro h; subst h; simp at hlt)
    have hs2 : s2 = 3 := h2.resolve_right (by intro h; subst h; simp at hlt)
    subst hs1 hs2
    have e1 : (ls.map (encP p1 W Hh))[i]? = some (encP p1 W Hh ls[i]) := map_get hlt
    have e2 : (ls.map (encP p2 W Hh))[i]? = some (encP p2 W Hh ls[i]) := map_get hlt
    have e4 := wsucc (i := i) (by omega)
    have hbi := hb ls[i] (List.getElem_mem hlt)
    have zE := fun {d os live S Q fr A} => k15 (d := d) (os := os) (live := live) (S := S) (Q := Q) (fr := fr) (A := A) W Hh W Hh p1 p2 false false 3 3 ls[i] ls[i] (.inl rfl) (.inl rfl) hbi hbi
    simp only [and_self, decide_true] at zE
    simp only [m20l8, m20r0, m20r1, m20r2, m20r3, m20r4, m20r5, m20r6, m20r7, m20r9, m20, EVa, EVb, params, nilOk, bound, awayFrom, evM, fillA, setEls, Opd.ev, Fr.get, prune, Option.map, isB, tB, nB, isG, gT, gF, evRes, mapO, one, Nat.reduceAdd, Nat.reduceLeDiff, Nat.reduceEqDiff, Nat.reduceMul, Nat.reduceSub, Nat.reduceLT, Nat.reduceBEq, reduceCtorEq, ↓reduceIte, Int.reduceToNat, Int.reduceLE, Int.reduceLT, Int.reduceEq, Int.reduceAdd, Int.reduceSub, Int.reduceMul, List.reduceReplicate, e1, e2, e4, hlt, encP, zE]
    exact ⟨i + 1, ⟨rfl, rfl⟩, hlt, by simp only; omega⟩
  · have : i = ls.length := by omega
    subst this
    simp only [m20l8, m20r0, m20r1, m20r2, m20r3, m20r4, m20r5, m20r6, m20r7, m20r9, m20, EVa, EVb, params, nilOk, bound, awayFrom, evM, fillA, setEls, Opd.ev, Fr.get, prune, Option.map, isB, tB, nB, isG, gT, gF, evRes, mapO, one, Nat.reduceAdd, Nat.reduceLeDiff, Nat.reduceEqDiff, Nat.reduceMul, Nat.reduceSub, Nat.reduceLT, Nat.reduceBEq, reduceCtorEq, ↓reduceIte, Int.reduceToNat, Int.reduceLE, Int.reduceLT, Int.reduceEq, Int.reduceAdd, Int.reduceSub, Int.reduceMul, List.reduceReplicate, hlt]
theorem k20 (p q n1 n2 p1 p2 : Bool) (s1 s2 W Hh : Nat) (ls : List (List Sq)) (h1 : s1 = 3 ∨ ls = []) (h2 : s2 = 3 ∨ ls = []) (hb : ∀ sq, sq ∈ ls → sq.length ≤ 1048576) (hl : ls.length ≤ 1048576) {d : Option Nat} {os : List MOp} {live : List Nat} {S : List KF} {Q : FQ} {fr : Fr} {A : Heap} : WCR T .ro 20 [.lst p s1 n1 (ls.map (encP p1 W Hh)), .lst q s2 n2 (ls.map (encP p2 W Hh))] d os live S Q fr A ↔ WP T os live S Q (putd d (.bool true) fr) A := (p20 p q n1 n2 p1 p2 s1 s2 W Hh ls h1 h2 hb hl).call (by simp only [mapO, depth_is, bo_lE])
/-- The number that cut i's marks begin with. -/
def kC (ns : List Nat) : Nat → Int
  | 0 => 1
  | i + 1 => kC ns i + 1 + 1 + 3 * ((ns.getD i 0 : Nat) : Int)
theorem getD_le {ns : List Nat} (hn : ∀ n, n ∈ ns → n ≤ 12) (i : Nat) : ns.getD i 0 ≤ 12 := by
  by_cases hi : i < ns.length
  · have : ns.getD i 0 = ns[i] := by simp [List.getD, hi]
    rw [this]; exact hn _ (List.getElem_mem hi)
  · have : ns.getD i 0 = 0 := by simp [List.getD, hi]
    omega
theorem kC_bd (ns : List Nat) (hn : ∀ n, n ∈ ns → n ≤ 12) : ∀ i, 1 ≤ kC ns i ∧ kC ns i ≤ 1 + 38 * i
  | 0 => by simp [kC]
  | i + 1 => by
    have h := kC_bd ns hn i
    have : ns.getD i 0 ≤ 12 := by
      exact getD_le hn i
    simp only [kC]
    omega
def mcX (ns : List Nat) (f : Nat → AV) (n : Nat) : List AV := (List.range n).map fun i => .agg [.int .i64 (kC ns i), .int .i64 (kC ns i + 1), f i]
def mcB (ns : List Nat) : List AV := mcX ns (fun i => .lst false 3 false ((mkq (kC ns i + 1 + 1) (ns.getD i 0)).map avS)) ns.length
theorem mcX_get {ns : List Nat} {f : Nat → AV} {n i : Nat} (h : i < n) : (mcX ns f n)[i]? = some (.agg [.int .i64 (kC ns i), .int .i64 (kC ns i + 1), f i]) := by simp [mcX, h]
theorem mcX_len (ns : List Nat) (f : Nat → AV) (n : Nat) : (mcX ns f n).length = n := by simp [mcX]
theorem mcX_succ (ns : List Nat) (f : Nat → AV) (n : Nat) : mcX ns f (n + 1) = mcX ns f n ++ [.agg [.int .i64 (kC ns n), .int .i64 (kC ns n + 1), f n]] := by simp [mcX, List.range_succ]
theorem bo_mcB (A : Heap) (d : Nat) (ns : List Nat) : mapO (borrow A (d + 4)) (mcB ns) = some (mcB ns) := bo_map (fun i => by simp only [bo_agg, mapO, bo_int, bo_lS]) _
theorem bo_lB (A : Heap) (d : Nat) (p nil : Bool) (sz : Nat) (ns : List Nat) : borrow A (d + 5) (.lst p sz nil (mcB ns)) = some (.lst p sz nil (mcB ns)) := bo_lst_id (bo_mcB A d ns)
theorem t22 : T 22 = some (.code m22) := rfl
theorem p22 (p nil : Bool) (sz : Nat) (ns : List Nat) (hn : ∀ n, n ∈ ns → n ≤ 12) (hl : ns.length ≤ 1000) (hsz : sz = 3 ∨ ns = []) : Pure T 22 [.lst p sz nil (mcB ns), .int .i64 1] (.int .i64 (kC ns ns.length)) := by
  rw [Pure_of t22]
  have hlen : (mcB ns).length = ns.length := mcX_len _ _ _
  simp only [m22r0, m22r1, m22r2, m22r3, m22r4, m22r5, m22r6, m22r7, m22r8, m22r9, m22r10, m22r11, m22r12, m22r14, m22, EVa, EVb, params, nilOk, bound, awayFrom, evM, fillA, setEls, Opd.ev, Fr.get, prune, Option.map, isB, tB, nB, isG, gT, gF, evRes, mapO, one, Nat.reduceAdd, Nat.reduceLeDiff, Nat.reduceEqDiff, Nat.reduceMul, Nat.reduceSub, Nat.reduceLT, Nat.reduceBEq, reduceCtorEq, ↓reduceIte, Int.reduceToNat, Int.reduceLE, Int.reduceLT, Int.reduceEq, Int.reduceAdd, Int.reduceSub, Int.reduceMul, List.reduceReplicate]
  refine WS_loop' (σ := Nat) (fun s => [(0, .lst p sz nil (mcB ns)), (1, .int .i64 (kC ns s)), (5, .int .i64 (s : Int))])
    (fun s => []) (fun s => ns.length - s) (fun s => s ≤ ns.length) 0 rfl rfl (Nat.zero_le _) ?_
  rintro i hi
  by_cases hlt : i < ns.length
  · have hs : sz = 3 := hsz.resolve_right (by intro h; subst h; simp at hlt)
    subst hs
    have e1 : (mcB ns)[i]? = some (.agg [.int .i64 (kC ns i), .int .i64 (kC ns i + 1), .lst false 3 false ((mkq (kC ns i + 1 + 1) (ns.getD i 0)).map avS)]) := mcX_get hlt
    have e4 := wsucc (i := i) (by omega)
    have hk := kC_bd ns hn i
    have hni : ns.getD i 0 ≤ 12 := getD_le hn i
    have w1 := wrap_in (kC ns i + 1) (by omega) (by omega)
    have w2 := wrap_in (kC ns i + 1 + 1) (by omega) (by omega)
    have zH := fun {d os live S Q fr A} => k39 (d := d) (os := os) (live := live) (S := S) (Q := Q) (fr := fr) (A := A) false false 3 (ns.getD i 0) (kC ns i + 1 + 1) (by omega) (by omega) (.inl rfl)
    have h0 : (kC ns i + 1 + 1 + 3 * ((ns.getD i 0 : Nat) : Int) < 0) = False := eq_false (by omega)
    have hsu : kC ns i + 1 + 1 + 3 * ((ns.getD i 0 : Nat) : Int) = kC ns (i + 1) := rfl
    generalize ns.getD i 0 = n at e1 zH h0 hsu hni
    simp only [m22l13, m22r0, m22r1, m22r2, m22r3, m22r4, m22r5, m22r6, m22r7, m22r8, m22r9, m22r10, m22r11, m22r12, m22r14, m22, EVa, EVb, params, nilOk, bound, awayFrom, evM, fillA, setEls, Opd.ev, Fr.get, prune, Option.map, isB, tB, nB, isG, gT, gF, evRes, mapO, one, Nat.reduceAdd, Nat.reduceLeDiff, Nat.reduceEqDiff, Nat.reduceMul, Nat.reduceSub, Nat.reduceLT, Nat.reduceBEq, reduceCtorEq, ↓reduceIte, Int.reduceToNat, Int.reduceLE, Int.reduceLT, Int.reduceEq, Int.reduceAdd, Int.reduceSub, Int.reduceMul, List.reduceReplicate, e1, e4, hlt, w1, w2, zH, h0, hlen]
    rw [hsu]
    exact ⟨i + 1, ⟨rfl, rfl⟩, hlt, by simp only; omega⟩
  · have : i = ns.length := by omega
    subst this
    simp only [m22l13, m22r0, m22r1, m22r2, m22r3, m22r4, m22r5, m22r6, m22r7, m22r8, m22r9, m22r10, m22r11, m22r12, m22r14, m22, EVa, EVb, params, nilOk, bound, awayFrom, evM, fillA, setEls, Opd.ev, Fr.get, prune, Option.map, isB, tB, nB, isG, gT, gF, evRes, mapO, one, Nat.reduceAdd, Nat.reduceLeDiff, Nat.reduceEqDiff, Nat.reduceMul, Nat.reduceSub, Nat.reduceLT, Nat.reduceBEq, reduceCtorEq, ↓reduceIte, Int.reduceToNat, Int.reduceLE, Int.reduceLT, Int.reduceEq, Int.reduceAdd, Int.reduceSub, Int.reduceMul, List.reduceReplicate, hlt, hlen]
theorem k22 (p nil : Bool) (sz : Nat) (ns : List Nat) (hn : ∀ n, n ∈ ns → n ≤ 12) (hl : ns.length ≤ 1000) (hsz : sz = 3 ∨ ns = []) {d : Option Nat} {os : List MOp} {live : List Nat} {S : List KF} {Q : FQ} {fr : Fr} {A : Heap} : WCR T .ro 22 [.lst p sz nil (mcB ns), .int .i64 1] d os live S Q fr A ↔ WP T os live S Q (putd d (.int .i64 (kC ns ns.length)) fr) A := (p22 p nil sz ns hn hl hsz).call (by simp only [mapO, depth_is, bo_lB, bo_int])
theorem mapO_ptw {α : Type} {f : AV → Option AV} {g h : α → AV} : ∀ {l : List α}, (∀ x, x ∈ l → f (g x) = some (h x)) → mapO f (l.map g) = some (l.map h)
  | [], _ => rfl
  | x :: r, hx => mapO_cons (hx x (by simp)) (mapO_ptw fun y hy => hx y (by simp [hy]))
theorem t21 : T 21 = some (.code m21) := rfl
/-- The cuts after the marks. -/
structure MarkAt (A : Heap) (v : AV) (es : List Ent) : Prop where
  sl : ∃ id rest, v = .sl id 3 (es.length + rest.length) 0 es.length ∧ A[id]? = some ⟨37, 3, mcX (es.map fun e => e.2.length) (fun i => .sl ((es.map Prod.fst).getD i 0) 3 ((es.map fun e => e.2.length).getD i 0) 0 ((es.map fun e => e.2.length).getD i 0)) es.length ++ rest⟩
  hold : ∀ i (h : i < es.length), A[es[i].1]? = some ⟨80, 3, (mkq (kC (es.map fun e => e.2.length) i + 1 + 1) es[i].2.length).map avS⟩
theorem getD_map {α : Type} (es : List α) (f : α → Nat) {i : Nat} (h : i < es.length) : (es.map f).getD i 0 = f es[i] := by simp [List.getD, h]
theorem nodup_ne {α : Type} {es : List α} {f : α → Nat} (h : (es.map f).Nodup) {i j : Nat} (hi : i < es.length) (hj : j < es.length) (hij : i ≠ j) : f es[i] ≠ f es[j] := by
  intro he
  have hi' : i < (es.map f).length := by simpa using hi
  have hj' : j < (es.map f).length := by simpa using hj
  have hp := List.pairwise_iff_getElem.1 h
  rcases Nat.lt_or_gt_of_ne hij with h1 | h1
  · exact hp i j hi' hj' h1 (by simpa using he)
  · exact hp j i hj' hi' h1 (by simpa using he.symm)
theorem w21 (A : Heap) (W Hh : Nat) (v : AV) (es : List Ent) (hC : CutsAt A W Hh v es) (hn : ∀ e, e ∈ es → e.2.length ≤ 12) (hl : es.length ≤ 1000) :
    WF T 21 [v, .int .i64 1] A (fun r A' => r = .int .i64 (kC (es.map fun e => e.2.length) es.length) ∧ MarkAt A' v es) := by
  obtain ⟨⟨id, rest, rfl, hid⟩, hho, hnd⟩ := hC
  have hNe : (es.map (avB W Hh) ++ rest).length = es.length + rest.length := by simp
  rw [hNe]
  generalize hns : (es.map fun e : Ent => e.2.length) = ns
  have hn' : ∀ n, n ∈ ns → n ≤ 12 := by
    intro n h; rw [← hns] at h
    obtain ⟨e, he, rfl⟩ := List.mem_map.1 h
    exact hn e he
  generalize hN : es.length + rest.length = N
  have hne : ∀ i (h : i < es.length), id ≠ es[i].1 := by
    intro i h he
    have h1 : A[es[i].1]? = some ⟨80, 3, es[i].2.map avS⟩ := hho _ (List.getElem_mem h)
    rw [← he, hid] at h1
    cases h1
  rw [WS_of t21]
  simp only [m21r0, m21r1, m21r2, m21r3, m21r4, m21r5, m21r6, m21r7, m21r8, m21r10, m21, EVa, EVb, params, nilOk, bound, awayFrom, evM, fillA, setEls, Opd.ev, Fr.get, prune, Option.map, isB, tB, nB, isG, gT, gF, evRes, mapO, one, Nat.reduceAdd, Nat.reduceLeDiff, Nat.reduceEqDiff, Nat.reduceMul, Nat.reduceSub, Nat.reduceLT, Nat.reduceBEq, reduceCtorEq, ↓reduceIte, Int.reduceToNat, Int.reduceLE, Int.reduceLT, Int.reduceEq, Int.reduceAdd, Int.reduceSub, Int.reduceMul, List.reduceReplicate]
  refine WS_loop' (σ := Nat × Heap) (fun s => [(0, .sl id 3 N 0 es.length), (1, .int .i64 (kC ns s.1)), (5, .int .i64 (s.1 : Int))])
    (fun s => s.2) (fun s => es.length - s.1) (fun s => s.1 ≤ es.length ∧ s.2[id]? = some ⟨37, 3, mcX ns (fun i => .sl ((es.map Prod.fst).getD i 0) 3 (ns.getD i 0) 0 (ns.getD i 0)) s.1 ++ ((es.drop s.1).map (avB W Hh) ++ rest)⟩ ∧
      (∀ j (h : j < es.length), j < s.1 → s.2[es[j].1]? = some ⟨80, 3, (mkq (kC ns j + 1 + 1) es[j].2.length).map avS⟩) ∧ (∀ j (h : j < es.length), s.1 ≤ j → s.2[es[j].1]? = some ⟨80, 3, es[j].2.map avS⟩)) (0, A) rfl rfl
    ⟨Nat.zero_le _, by simpa [mcX] using hid, fun j h h0 => by omega, fun j h _ => hho _ (List.getElem_mem h)⟩ ?_
  rintro ⟨i, H⟩ ⟨hi, hH, hdone, htodo⟩
  dsimp only at hi hH hdone htodo
  by_cases hlt : i < es.length
  · have e4 := wsucc (i := i) (by omega)
    have hk := kC_bd ns hn' i
    have hni : es[i].2.length ≤ 12 := hn _ (List.getElem_mem hlt)
    have w1 := wrap_in (kC ns i + 1) (by omega) (by omega)
    have w2 := wrap_in (kC ns i + 1 + 1) (by omega) (by omega)
    have hgd : ns.getD i 0 = es[i].2.length := by rw [← hns]; exact getD_map es _ hlt
    have hgf : (es.map Prod.fst).getD i 0 = es[i].1 := getD_map es _ hlt
    have hidl := lt_of_get hH
    have hnei := hne i hlt
    have hd : es.drop i = es[i] :: es.drop (i + 1) := List.drop_eq_getElem_cons hlt
    have g2 : (mcX ns (fun i => .sl ((es.map Prod.fst).getD i 0) 3 (ns.getD i 0) 0 (ns.getD i 0)) i ++ ((es.drop i).map (avB W Hh) ++ rest))[i]? = some (.agg [.int .i64 (W : Int), .int .i64 (Hh : Int), .sl es[i].1 3 es[i].2.length 0 es[i].2.length]) := by
      rw [List.getElem?_append_right (by rw [mcX_len]; exact Nat.le_refl _), mcX_len, Nat.sub_self, hd]; rfl
    have g5 : (mcX ns (fun i => .sl ((es.map Prod.fst).getD i 0) 3 (ns.getD i 0) 0 (ns.getD i 0)) i ++ ((es.drop i).map (avB W Hh) ++ rest)).set i (.agg [.int .i64 (kC ns i), .int .i64 (kC ns i + 1), .sl es[i].1 3 es[i].2.length 0 es[i].2.length]) =
        mcX ns (fun i => .sl ((es.map Prod.fst).getD i 0) 3 (ns.getD i 0) 0 (ns.getD i 0)) (i + 1) ++ ((es.drop (i + 1)).map (avB W Hh) ++ rest) := by
      rw [List.set_append_right _ _ (by rw [mcX_len]; exact Nat.le_refl _), mcX_len, Nat.sub_self, hd, mcX_succ, hgd, hgf]
      simp only [List.map_cons, List.cons_append, List.set_cons_zero, List.append_assoc, List.nil_append]
    have hL : (mcX ns (fun i => .sl ((es.map Prod.fst).getD i 0) 3 (ns.getD i 0) 0 (ns.getD i 0)) i ++ ((es.drop i).map (avB W Hh) ++ rest)).length = N := by
      simp [mcX_len]; omega
    generalize (mcX ns (fun i => .sl ((es.map Prod.fst).getD i 0) 3 (ns.getD i 0) 0 (ns.getD i 0)) i ++ ((es.drop i).map (avB W Hh) ++ rest)) = L at hH g2 g5 hL
    generalize hL2 : mcX ns (fun i => .sl ((es.map Prod.fst).getD i 0) 3 (ns.getD i 0) 0 (ns.getD i 0)) (i + 1) ++ ((es.drop (i + 1)).map (avB W Hh) ++ rest) = L2 at g5
    have hLl : i < L.length := by omega
    have g3 : ∀ x, (L.set i x)[i]? = some x := fun x => List.getElem?_set_self hLl
    have g1 : ∀ b, (H.set id b)[id]? = some b := fun b => h_set_get hidl
    have g6 : ∀ b, (H.set id b)[es[i].1]? = some ⟨80, 3, es[i].2.map avS⟩ := fun b => by rw [List.getElem?_set_ne hnei]; exact htodo i hlt (Nat.le_refl _)
    have zM := fun {d os live S Q fr} {A : Heap} (hA : A[es[i].1]? = some ⟨80, 3, es[i].2.map avS⟩) => i38 (d := d) (os := os) (live := live) (S := S) (Q := Q) (fr := fr) (A := A) es[i].1 es[i].2 (kC ns i + 1 + 1) (by omega) (by omega) hA
    have hsu : kC ns i + 1 + 1 + 3 * ((es[i].2.length : Nat) : Int) = kC ns (i + 1) := by rw [← hgd]; rfl
    have hiN : i < N := by omega
    generalize hb : es[i].2.length = n at hni hgd g2 g5 zM hsu
    generalize hb1 : es[i].1 = id1 at hnei hgf g2 g5 g6 zM
    have g7 : L2[i]? = some (.agg [.int .i64 (kC ns i), .int .i64 (kC ns i + 1), .sl id1 3 n 0 n]) := by rw [← g5]; exact g3 _
    have g8 : L2.length = N := by rw [← g5, List.length_set, hL]
    simp only [m21l9, m21r0, m21r1, m21r2, m21r3, m21r4, m21r5, m21r6, m21r7, m21r8, m21r10, m21, EVa, EVb, params, nilOk, bound, awayFrom, evM, fillA, setEls, Opd.ev, Fr.get, prune, Option.map, isB, tB, nB, isG, gT, gF, evRes, mapO, one, Nat.reduceAdd, Nat.reduceLeDiff, Nat.reduceEqDiff, Nat.reduceMul, Nat.reduceSub, Nat.reduceLT, Nat.reduceBEq, reduceCtorEq, ↓reduceIte, Int.reduceToNat, Int.reduceLE, Int.reduceLT, Int.reduceEq, Int.reduceAdd, Int.reduceSub, Int.reduceMul, List.reduceReplicate, e4, hlt, w1, w2, g1, g2, g3, g6, g7, g8, hL, hiN, hH, List.set_set, g5, zM]
    rw [hsu]
    refine ⟨(i + 1, _), ⟨rfl, rfl⟩, ⟨hlt, ?_, ?_, ?_⟩, by simp only; omega⟩
    · simp only
      rw [List.getElem?_set_ne hnei.symm, g1, hL2]
    · intro j hj hj2
      simp only at hj2 ⊢
      by_cases hji : j = i
      · subst hji
        rw [hb1, h_set_get (by rw [List.length_set]; exact lt_of_get (by rw [← hb1]; exact htodo j hj (Nat.le_refl _))), hb]
      · have h1 := nodup_ne hnd hj hlt hji
        rw [hb1] at h1
        rw [List.getElem?_set_ne (Ne.symm h1), List.getElem?_set_ne (hne j hj)]
        exact hdone j hj (by omega)
    · intro j hj hj2
      simp only at hj2 ⊢
      have h1 := nodup_ne hnd hj hlt (by omega)
      rw [hb1] at h1
      rw [List.getElem?_set_ne (Ne.symm h1), List.getElem?_set_ne (hne j hj)]
      exact htodo j hj (by omega)
  · have : i = es.length := by omega
    subst this
    simp only [m21l9, m21r0, m21r1, m21r2, m21r3, m21r4, m21r5, m21r6, m21r7, m21r8, m21r10, m21, EVa, EVb, params, nilOk, bound, awayFrom, evM, fillA, setEls, Opd.ev, Fr.get, prune, Option.map, isB, tB, nB, isG, gT, gF, evRes, mapO, one, Nat.reduceAdd, Nat.reduceLeDiff, Nat.reduceEqDiff, Nat.reduceMul, Nat.reduceSub, Nat.reduceLT, Nat.reduceBEq, reduceCtorEq, ↓reduceIte, Int.reduceToNat, Int.reduceLE, Int.reduceLT, Int.reduceEq, Int.reduceAdd, Int.reduceSub, Int.reduceMul, List.reduceReplicate, hlt]
    refine ⟨⟨id, rest, by rw [hN], ?_⟩, fun j h => ?_⟩
    · rw [hns, hH]; simp
    · rw [hns]; exact hdone j h h
theorem r21z (A : Heap) (p nil : Bool) (sz : Nat) (k : Int) : Runs T 21 [.lst p sz nil [], .int .i64 k] A (.int .i64 k) A := by
  refine Runs.of ?_
  rw [WS_of t21]
  simp only [m21r0, m21r1, m21r2, m21r3, m21r4, m21r5, m21r6, m21r7, m21r8, m21r10, m21, EVa, EVb, params, nilOk, bound, awayFrom, evM, fillA, setEls, Opd.ev, Fr.get, prune, Option.map, isB, tB, nB, isG, gT, gF, evRes, mapO, one, Nat.reduceAdd, Nat.reduceLeDiff, Nat.reduceEqDiff, Nat.reduceMul, Nat.reduceSub, Nat.reduceLT, Nat.reduceBEq, reduceCtorEq, ↓reduceIte, Int.reduceToNat, Int.reduceLE, Int.reduceLT, Int.reduceEq, Int.reduceAdd, Int.reduceSub, Int.reduceMul, List.reduceReplicate]
  refine WS_loop' (σ := Unit) (fun s => [(0, .lst p sz nil []), (1, .int .i64 k), (5, .int .i64 0)]) (fun s => A) (fun s => 0) (fun s => True) () rfl rfl trivial ?_
  rintro _ _
  simp only [m21l9, m21r0, m21r1, m21r2, m21r3, m21r4, m21r5, m21r6, m21r7, m21r8, m21r10, m21, EVa, EVb, params, nilOk, bound, awayFrom, evM, fillA, setEls, Opd.ev, Fr.get, prune, Option.map, isB, tB, nB, isG, gT, gF, evRes, mapO, one, Nat.reduceAdd, Nat.reduceLeDiff, Nat.reduceEqDiff, Nat.reduceMul, Nat.reduceSub, Nat.reduceLT, Nat.reduceBEq, reduceCtorEq, ↓reduceIte, Int.reduceToNat, Int.reduceLE, Int.reduceLT, Int.reduceEq, Int.reduceAdd, Int.reduceSub, Int.reduceMul, List.reduceReplicate]
section
variable {d : Option Nat} {os : List MOp} {live : List Nat} {S : List KF} {Q : FQ} {fr : Fr} {A : Heap}
theorem i21z (p nil : Bool) (sz : Nat) (k : Int) : WCR T .inl 21 [.lst p sz nil [], .int .i64 k] d os live S Q fr A ↔ WP T os live S Q (putd d (.int .i64 k) fr) A := WCR_inl.trans (r21z A p nil sz k).iff
end
theorem MarkAt.bo {A : Heap} {v : AV} {es : List Ent} (h : MarkAt A v es) : borrow A 8 v = some (.lst false 3 false (mcB (es.map fun e => e.2.length))) := by
  obtain ⟨⟨id, rest, rfl, hid⟩, hho⟩ := h
  refine bo_sl hid (by simp [mcX_len]) (by omega) ?_
  rw [List.drop_zero, List.take_append_of_le_length (by simp [mcX_len]), List.take_of_length_le (by simp [mcX_len])]
  have hlen : (es.map fun e : Ent => e.2.length).length = es.length := by simp
  unfold mcB
  rw [hlen]
  have key : ∀ n, n ≤ es.length → mapO (borrow A 7) (mcX (es.map fun e => e.2.length) (fun i => .sl ((es.map Prod.fst).getD i 0) 3 ((es.map fun e => e.2.length).getD i 0) 0 ((es.map fun e => e.2.length).getD i 0)) n) =
      some (mcX (es.map fun e => e.2.length) (fun i => .lst false 3 false ((mkq (kC (es.map fun e => e.2.length) i + 1 + 1) ((es.map fun e => e.2.length).getD i 0)).map avS)) n) := by
    intro n hn
    unfold mcX
    refine mapO_ptw fun i hi => ?_
    have hi' : i < es.length := by have := List.mem_range.1 hi; omega
    have h2 := hho i hi'
    have g1 : (es.map fun e : Ent => e.2.length).getD i 0 = es[i].2.length := getD_map es _ hi'
    have g2 : (es.map Prod.fst).getD i 0 = es[i].1 := getD_map es _ hi'
    simp only [g1, g2]
    have hm := bo_avS A 3 (mkq (kC (es.map fun e => e.2.length) i + 1 + 1) es[i].2.length)
    have := bo_sl (A := A) (d := 5) h2 (sz := 3) (ver := es[i].2.length) (off := 0) (len := es[i].2.length) (by simp [mkq_len]) (by simp) (by rw [List.drop_zero, List.take_of_length_le (by simp [mkq_len])]; exact hm)
    simp only [bo_agg, mapO, bo_int, this]
  exact key _ (Nat.le_refl _)
end Go.Ev.Z
end
