import Derived.Test.YtfgbdbakafdinaaGreatMarks
import Derived.Test.YtfgbdbakafdinaaGreatWalkFourth
import Derived.Test.YtfgbdbakafdinaaGreatKnown
import Derived.Test.YtfgbdbakafdinaaGreatDeepThird

section
set_option maxRecDepth 100000
set_option linter.unusedSimpArgs false
set_option linter.unusedVariables false
namespace Go.Ev.Z
open Go Go.Ev
theorem t5 : T 5 = some (.code m5) := rfl
theorem CutsAt.emb4 {A' A2 : Heap} {W Hh : Nat} {v : AV} {es : List Ent} (h : CutsAt A' W Hh v es) (hA2 : mapO (embedB 4 depth) A' = some A2) : ∃ v2, embed 4 depth v = some v2 ∧ ∀ b0 b1 b2 b3, CutsAt (b0 :: b1 :: b2 :: b3 :: A2) W Hh v2 (es.map fun e => (e.1 + 4, e.2)) := by
  obtain ⟨v2, h1, _⟩ := h.emb (A := [⟨0, 0, []⟩, ⟨0, 0, []⟩, ⟨0, 0, []⟩, ⟨0, 0, []⟩]) hA2
  refine ⟨v2, h1, fun b0 b1 b2 b3 => ?_⟩
  obtain ⟨v3, h3, h4⟩ := h.emb (A := [b0, b1, b2, b3]) hA2
  have h5 : v3 = v2 := Option.some.inj (h3.symm.trans h1)
  subst h5
  exact h4
theorem pzR_form (W Hh : Nat) (l : List (List Sq)) : ∃ s nil, (s = 3 ∨ l = []) ∧ pzR W Hh l = .lst true s nil (l.map (encP true W Hh)) := by
  cases l with
  | nil => exact ⟨0, true, .inr rfl, rfl⟩
  | cons a r => exact ⟨3, false, .inl rfl, rfl⟩
theorem p191 (W Hh : Nat) (l : List (List Sq)) (D : Dat W Hh l) (p : Bool) (cs : List Cu) (hg : goodZ W Hh cs = true) : Pure T 19 [.agg [.int .i64 (W : Int), .int .i64 (Hh : Int), .lst p 3 false (cs.map avU)]]
    (.tup [.lst true 3 false ((solP W Hh l cs).map (encP true W Hh)), .bool true]) := by
  refine (w19 W Hh l D p false cs hg).mono fun r A' hr => ?_
  obtain ⟨_, v, es, rfl, hC, hes⟩ := hr
  have hb := hC.gb
  rw [hes] at hb
  simp only [EVa, EVb, params, nilOk, bound, awayFrom, evM, fillA, setEls, Opd.ev, Fr.get, prune, Option.map, isB, tB, nB, isG, gT, gF, evRes, mapO, one, Nat.reduceAdd, Nat.reduceLeDiff, Nat.reduceEqDiff, Nat.reduceMul, Nat.reduceSub, Nat.reduceLT, Nat.reduceBEq, reduceCtorEq, ↓reduceIte, Int.reduceToNat, Int.reduceLE, Int.reduceLT, Int.reduceEq, Int.reduceAdd, Int.reduceSub, Int.reduceMul, List.reduceReplicate, hb]
  rfl
/-- No puzzle: both say so. -/
theorem law_no (w h : Int) (nil : Bool) (cs : List Cu) (hl : cs.length ≤ 1048576)
    (hS : Pure T 18 [.agg [.int .i64 w, .int .i64 h, .lst true 3 false (cs.map avU)]] (.tup [.lst true 0 true [], .bool false]))
    (hI : ∀ p, WF T 19 [.agg [.int .i64 w, .int .i64 h, .lst p 3 false (cs.map avU)]] [] (fun r A' => HpD A' ∧ r = .tup [.lst true 0 true [], .bool false])) :
    WF T 5 [.agg [.int .i64 w, .int .i64 h, .lst true 3 nil (cs.map avU)]] [] (fun r A' => r = .bool true) := by
  rw [WS_of t5]
  have hsz := (p6 w h nil 3 (cs.map avU) 1048576 (by omega) (by simp; omega))
  have h0 : (if (1048576 : Int) - ((cs.map avU).length : Nat) < 0 then (-1 : Int) else 1048576 - ((cs.map avU).length : Nat)) = 1048576 - (cs.length : Int) := by rw [List.length_map, if_neg (by omega)]
  rw [h0] at hsz
  have h1 : ((1048576 : Int) - (cs.length : Int) < 0) = False := eq_false (by omega)
  have zsz := fun {d os live S Q fr A} => hsz.call0 (d := d) (os := os) (live := live) (S := S) (Q := Q) (fr := fr) (A := A)
  have zS := fun {d os live S Q fr A} => hS.call0 (d := d) (os := os) (live := live) (S := S) (Q := Q) (fr := fr) (A := A)
  have zT' := fun {d os live S Q fr A} => z8 w h true nil cs hl (d := d) (os := os) (live := live) (S := S) (Q := Q) (fr := fr) (A := A)
  have oT := fun {d os live S Q fr A} => o8 w h true nil cs hl (d := d) (os := os) (live := live) (S := S) (Q := Q) (fr := fr) (A := A)
  have hbU := fun A => bo_avU A 4 cs
  have hbU3 := fun A => bo_avU A 5 cs
  have ht : (cs.map avU).take cs.length = cs.map avU := List.take_of_length_le (by simp)
  have zE0 := fun {d os live S Q fr A} => (p20 true true true true true true 0 0 0 0 [] (.inr rfl) (.inr rfl) (by simp) (by simp)).call0 (d := d) (os := os) (live := live) (S := S) (Q := Q) (fr := fr) (A := A)
  simp only [List.map_nil] at zE0
  have zE1 := fun {d os live S Q fr A} => (p10 w h w h false true false false 3 3 cs cs (.inl rfl) (.inl rfl) hl hl).call0 (d := d) (os := os) (live := live) (S := S) (Q := Q) (fr := fr) (A := A)
  simp only [and_self, decide_true] at zE1
  have zM := fun {d os live S Q fr A} => i11 (d := d) (os := os) (live := live) (S := S) (Q := Q) (fr := fr) (A := A) w h 2 cs hl
  have zH := fun {d os live S Q fr A} => (p22 true true 0 [] (by simp) (by simp) (.inr rfl)).call0 (d := d) (os := os) (live := live) (S := S) (Q := Q) (fr := fr) (A := A)
  have hm0 : mcB [] = [] := rfl
  have hi0 : kC [] ([] : List Nat).length = 1 := rfl
  rw [hm0, hi0] at zH
  have hmp : ((1 : Int) + 3 * (cs.length : Int) < 0) = False := eq_false (by omega)
  have hz9 : Pure T 19 [.agg [.int .i64 w, .int .i64 h, .lst true 3 false (cs.map avU)]] (.tup [.lst true 0 true [], .bool false]) := (hI true).mono fun r A' hr => by rw [hr.2]; rfl
  have z9 := fun {d os live S Q fr A} => hz9.call0 (d := d) (os := os) (live := live) (S := S) (Q := Q) (fr := fr) (A := A)
  simp only [m5r0, m5r1, m5r2, m5r3, m5r4, m5r5, m5r6, m5r7, m5r8, m5r9, m5r10, m5r11, m5r12, m5r13, m5r14, m5r15, m5r16, m5r17, m5r18, m5r19, m5r20, m5r21, m5r22, m5r23, m5r24, m5r25, m5r26, m5r27, m5r28, m5r29, m5r30, m5r31, m5r32, m5r33, m5, EVa, EVb, params, nilOk, bound, awayFrom, evM, fillA, setEls, Opd.ev, Fr.get, prune, Option.map, isB, tB, nB, isG, gT, gF, evRes, mapO, one, Nat.reduceAdd, Nat.reduceLeDiff, Nat.reduceEqDiff, Nat.reduceMul, Nat.reduceSub, Nat.reduceLT, Nat.reduceBEq, reduceCtorEq, ↓reduceIte, Int.reduceToNat, Int.reduceLE, Int.reduceLT, Int.reduceEq, Int.reduceAdd, Int.reduceSub, Int.reduceMul, List.reduceReplicate, WCR_ro, WRm_some, bo_agg, bo_int, bo_bool, bo_lst, zsz, zS, zT', oT, h1]
  refine own_of (args' := [.agg [.int .i64 w, .int .i64 h, .lst false 3 false (cs.map avU)]]) ?_ (hI false) ?_
  · simp only [EVa, EVb, params, nilOk, bound, awayFrom, evM, fillA, setEls, Opd.ev, Fr.get, prune, Option.map, isB, tB, nB, isG, gT, gF, evRes, mapO, one, Nat.reduceAdd, Nat.reduceLeDiff, Nat.reduceEqDiff, Nat.reduceMul, Nat.reduceSub, Nat.reduceLT, Nat.reduceBEq, reduceCtorEq, ↓reduceIte, Int.reduceToNat, Int.reduceLE, Int.reduceLT, Int.reduceEq, Int.reduceAdd, Int.reduceSub, Int.reduceMul, List.reduceReplicate, bo_agg, bo_int, bo_get, boB_some, boL_some, ht, hbU, hbU3]
  rintro r A' ⟨hE, rfl⟩
  obtain ⟨A2, hA2, _⟩ := hE.emb _
  refine ⟨.tup [.lst true 0 true [], .bool false], A2, rfl, hA2, ?_⟩
  clear hA2 hE
  simp only [EVa, EVb, params, nilOk, bound, awayFrom, evM, fillA, setEls, Opd.ev, Fr.get, prune, Option.map, isB, tB, nB, isG, gT, gF, evRes, mapO, one, Nat.reduceAdd, Nat.reduceLeDiff, Nat.reduceEqDiff, Nat.reduceMul, Nat.reduceSub, Nat.reduceLT, Nat.reduceBEq, reduceCtorEq, ↓reduceIte, Int.reduceToNat, Int.reduceLE, Int.reduceLT, Int.reduceEq, Int.reduceAdd, Int.reduceSub, Int.reduceMul, List.reduceReplicate, WCR_ro, WRm_some, bo_agg, bo_int, bo_bool, bo_lst, bo_get, boB_some, boL_some, ht, hbU, hbU3, zsz, zS, zT', zE0, zE1, zM, i21z, zH, z9, h1, hmp]
/-- A puzzle: both give the same solutions. -/
theorem law_yes (W Hh : Nat) (nil : Bool) (cs : List Cu) (l : List (List Sq)) (D : Dat W Hh l) (hg : goodZ W Hh cs = true) :
    WF T 5 [.agg [.int .i64 (W : Int), .int .i64 (Hh : Int), .lst true 3 nil (cs.map avU)]] [] (fun r A' => r = .bool true) := by
  rw [WS_of t5]
  have hl : cs.length ≤ 1048576 := by have := (goodZ_all hg).2.1; omega
  have hsz := (p6 W Hh nil 3 (cs.map avU) 1048576 (by omega) (by simp; omega))
  have h0 : (if (1048576 : Int) - ((cs.map avU).length : Nat) < 0 then (-1 : Int) else 1048576 - ((cs.map avU).length : Nat)) = 1048576 - (cs.length : Int) := by rw [List.length_map, if_neg (by omega)]
  rw [h0] at hsz
  have h1 : ((1048576 : Int) - (cs.length : Int) < 0) = False := eq_false (by omega)
  have hS := p18y W Hh l D true false cs hg
  have hI := w19 W Hh l D false false cs hg
  have hz9 := p191 W Hh l D true cs hg
  have hle : ∀ sq, sq ∈ solP W Hh l cs → sq.length ≤ 12 := fun sq hm => (D.fit sq (List.mem_filter.1 (show sq ∈ List.filter _ _ from hm)).1).1.n.2
  have hll : (solP W Hh l cs).length ≤ 1000 := Nat.le_trans (List.length_filter_le _ _) D.len
  generalize solP W Hh l cs = ls at hS hI hz9 hle hll
  obtain ⟨s1, n1, hs1, hpz⟩ := pzR_form W Hh ls
  rw [hpz] at hS
  have zsz := fun {d os live S Q fr A} => hsz.call0 (d := d) (os := os) (live := live) (S := S) (Q := Q) (fr := fr) (A := A)
  have zS := fun {d os live S Q fr A} => hS.call0 (d := d) (os := os) (live := live) (S := S) (Q := Q) (fr := fr) (A := A)
  have zT' := fun {d os live S Q fr A} => z8 W Hh true nil cs hl (d := d) (os := os) (live := live) (S := S) (Q := Q) (fr := fr) (A := A)
  have oT := fun {d os live S Q fr A} => o8 W Hh true nil cs hl (d := d) (os := os) (live := live) (S := S) (Q := Q) (fr := fr) (A := A)
  have z9 := fun {d os live S Q fr A} => hz9.call0 (d := d) (os := os) (live := live) (S := S) (Q := Q) (fr := fr) (A := A)
  have hbU := fun A => bo_avU A 4 cs
  have hbU3 := fun A => bo_avU A 5 cs
  have ht : (cs.map avU).take cs.length = cs.map avU := List.take_of_length_le (by simp)
  have zE0 := fun {d os live S Q fr A} => (p20 false true false n1 false true 3 s1 W Hh ls (.inl rfl) hs1 (fun sq h => by have := hle sq h; omega) (by omega)).call0 (d := d) (os := os) (live := live) (S := S) (Q := Q) (fr := fr) (A := A)
  have zE3 := fun {d os live S Q fr A} => (p20 true true false n1 true true 3 s1 W Hh ls (.inl rfl) hs1 (fun sq h => by have := hle sq h; omega) (by omega)).call0 (d := d) (os := os) (live := live) (S := S) (Q := Q) (fr := fr) (A := A)
  have zE1 := fun {d os live S Q fr A} => (p10 W Hh W Hh false true false false 3 3 cs cs (.inl rfl) (.inl rfl) hl hl).call0 (d := d) (os := os) (live := live) (S := S) (Q := Q) (fr := fr) (A := A)
  simp only [and_self, decide_true] at zE1
  have zM := fun {d os live S Q fr A} => i11 (d := d) (os := os) (live := live) (S := S) (Q := Q) (fr := fr) (A := A) W Hh 2 cs hl
  have hmp : ((1 : Int) + 3 * (cs.length : Int) < 0) = False := eq_false (by omega)
  simp only [m5r0, m5r1, m5r2, m5r3, m5r4, m5r5, m5r6, m5r7, m5r8, m5r9, m5r10, m5r11, m5r12, m5r13, m5r14, m5r15, m5r16, m5r17, m5r18, m5r19, m5r20, m5r21, m5r22, m5r23, m5r24, m5r25, m5r26, m5r27, m5r28, m5r29, m5r30, m5r31, m5r32, m5r33, m5, EVa, EVb, params, nilOk, bound, awayFrom, evM, fillA, setEls, Opd.ev, Fr.get, prune, Option.map, isB, tB, nB, isG, gT, gF, evRes, mapO, one, Nat.reduceAdd, Nat.reduceLeDiff, Nat.reduceEqDiff, Nat.reduceMul, Nat.reduceSub, Nat.reduceLT, Nat.reduceBEq, reduceCtorEq, ↓reduceIte, Int.reduceToNat, Int.reduceLE, Int.reduceLT, Int.reduceEq, Int.reduceAdd, Int.reduceSub, Int.reduceMul, List.reduceReplicate, WCR_ro, WRm_some, bo_agg, bo_int, bo_bool, bo_lst, zsz, zS, zT', oT, h1]
  refine own_of (args' := [.agg [.int .i64 (W : Int), .int .i64 (Hh : Int), .lst false 3 false (cs.map avU)]]) ?_ hI ?_
  · simp only [EVa, EVb, params, nilOk, bound, awayFrom, evM, fillA, setEls, Opd.ev, Fr.get, prune, Option.map, isB, tB, nB, isG, gT, gF, evRes, mapO, one, Nat.reduceAdd, Nat.reduceLeDiff, Nat.reduceEqDiff, Nat.reduceMul, Nat.reduceSub, Nat.reduceLT, Nat.reduceBEq, reduceCtorEq, ↓reduceIte, Int.reduceToNat, Int.reduceLE, Int.reduceLT, Int.reduceEq, Int.reduceAdd, Int.reduceSub, Int.reduceMul, List.reduceReplicate, bo_agg, bo_int, bo_get, boB_some, boL_some, ht, hbU, hbU3]
  rintro r A' ⟨hE, v, es0, rfl, hC0, hes0⟩
  obtain ⟨A2, hA2, _⟩ := hE.emb 4
  obtain ⟨v2, hv2, hC⟩ := hC0.emb4 hA2
  have hemb : embed 4 depth (.tup [v, .bool true]) = some (.tup [v2, .bool true]) := by
    obtain ⟨⟨id, rest, rfl, _⟩, _, _⟩ := hC0
    have e := Option.some.inj hv2
    subst e
    rfl
  refine ⟨.tup [v2, .bool true], A2, hemb, hA2, ?_⟩
  clear hemb hv2 hA2 hE hC0 hI
  have hsnd : (es0.map fun e : Ent => ((e.1 + 4, e.2) : Ent)).map Prod.snd = ls := by rw [← hes0, List.map_map]; rfl
  generalize (es0.map fun e : Ent => ((e.1 + 4, e.2) : Ent)) = es at hC hsnd
  have hbv : ∀ b0 b1 b2 b3, borrow (b0 :: b1 :: b2 :: b3 :: A2) 8 v2 = some (.lst false 3 false (ls.map (encP false W Hh))) := fun b0 b1 b2 b3 => by
    rw [← hsnd]; exact (hC b0 b1 b2 b3).bo
  have hen : ∀ e, e ∈ es → e.2.length ≤ 12 := fun e he => hle _ (by rw [← hsnd]; exact List.mem_map.2 ⟨e, he, rfl⟩)
  have hel : es.length ≤ 1000 := by
    have := congrArg List.length hsnd
    rw [List.length_map] at this
    omega
  simp only [EVa, EVb, params, nilOk, bound, awayFrom, evM, fillA, setEls, Opd.ev, Fr.get, prune, Option.map, isB, tB, nB, isG, gT, gF, evRes, mapO, one, Nat.reduceAdd, Nat.reduceLeDiff, Nat.reduceEqDiff, Nat.reduceMul, Nat.reduceSub, Nat.reduceLT, Nat.reduceBEq, reduceCtorEq, ↓reduceIte, Int.reduceToNat, Int.reduceLE, Int.reduceLT, Int.reduceEq, Int.reduceAdd, Int.reduceSub, Int.reduceMul, List.reduceReplicate, WCR_ro, WRm_some, bo_agg, bo_int, bo_bool, bo_lst, bo_get, boB_some, boL_some, ht, hbU, hbU3, hbv, zT', zE0, zE1, zM, hmp]
  rw [WCR_inl]
  refine (w21 _ W Hh v2 es (hC _ _ _ _) hen hel).mono fun r H' hr => ?_
  obtain ⟨rfl, hM⟩ := hr
  have hbM := hM.bo
  have hnl : es.length = (es.map fun e : Ent => e.2.length).length := by simp
  rw [hnl]
  have hns : ∀ n, n ∈ (es.map fun e : Ent => e.2.length) → n ≤ 12 := fun n h => by
    obtain ⟨e, he, rfl⟩ := List.mem_map.1 h
    exact hen e he
  rw [hnl] at hel
  generalize (es.map fun e : Ent => e.2.length) = ns at hbM hns hel
  have zH := fun {d os live S Q fr A} => (p22 false false 3 ns hns hel (.inl rfl)).call0 (d := d) (os := os) (live := live) (S := S) (Q := Q) (fr := fr) (A := A)
  have hK := kC_bd ns hns ns.length
  generalize kC ns ns.length = K at zH hK
  have hK0 : (K < 0) = False := eq_false (by omega)
  simp only [EVa, EVb, params, nilOk, bound, awayFrom, evM, fillA, setEls, Opd.ev, Fr.get, prune, Option.map, isB, tB, nB, isG, gT, gF, evRes, mapO, one, Nat.reduceAdd, Nat.reduceLeDiff, Nat.reduceEqDiff, Nat.reduceMul, Nat.reduceSub, Nat.reduceLT, Nat.reduceBEq, reduceCtorEq, ↓reduceIte, Int.reduceToNat, Int.reduceLE, Int.reduceLT, Int.reduceEq, Int.reduceAdd, Int.reduceSub, Int.reduceMul, List.reduceReplicate, WCR_ro, WRm_some, bo_agg, bo_int, bo_bool, bo_lst, hbM, zT', zE3, zH, z9, hK0]
theorem law_big (w h : Int) (nil : Bool) (cs : List Cu) (hl : cs.length ≤ maxLen) (hb : ¬ cs.length ≤ 1048576) :
    WF T 5 [.agg [.int .i64 w, .int .i64 h, .lst true 3 nil (cs.map avU)]] [] (fun r A' => r = .bool true) := by
  rw [WS_of t5]
  have hl' : cs.length ≤ 9223372036854775807 := hl
  have hsz := (p6 w h nil 3 (cs.map avU) 1048576 (by omega) (by simp; omega))
  have h0 : (if (1048576 : Int) - ((cs.map avU).length : Nat) < 0 then (-1 : Int) else 1048576 - ((cs.map avU).length : Nat)) = -1 := by rw [List.length_map, if_pos (by omega)]
  rw [h0] at hsz
  have zsz := fun {d os live S Q fr A} => hsz.call0 (d := d) (os := os) (live := live) (S := S) (Q := Q) (fr := fr) (A := A)
  simp only [m5r0, m5r1, m5r2, m5r3, m5r4, m5r5, m5r6, m5r7, m5r8, m5r9, m5r10, m5r11, m5r12, m5r13, m5r14, m5r15, m5r16, m5r17, m5r18, m5r19, m5r20, m5r21, m5r22, m5r23, m5r24, m5r25, m5r26, m5r27, m5r28, m5r29, m5r30, m5r31, m5r32, m5r33, m5, EVa, EVb, params, nilOk, bound, awayFrom, evM, fillA, setEls, Opd.ev, Fr.get, prune, Option.map, isB, tB, nB, isG, gT, gF, evRes, mapO, one, Nat.reduceAdd, Nat.reduceLeDiff, Nat.reduceEqDiff, Nat.reduceMul, Nat.reduceSub, Nat.reduceLT, Nat.reduceBEq, reduceCtorEq, ↓reduceIte, Int.reduceToNat, Int.reduceLE, Int.reduceLT, Int.reduceEq, Int.reduceAdd, Int.reduceSub, Int.reduceMul, List.reduceReplicate, WCR_ro, WRm_some, bo_agg, bo_int, bo_bool, bo_lst, zsz]
theorem run5 (x : AV) (hx : ArgT Go.Proofs.Tryz.prog 4 24 x) : ∃ A', Runs T 5 [x] [] (.bool true) A' := by
  obtain ⟨w, h, nil, cs, rfl, hl⟩ := open_puzzle hx
  have key : ∀ {x : AV}, WF T 5 [x] [] (fun r A' => r = .bool true) → ∃ A', Runs T 5 [x] [] (.bool true) A' := by
    rintro x ⟨k, r, A', h, rfl⟩
    exact ⟨A', k, h⟩
  by_cases hb : cs.length ≤ 1048576
  · cases hg : goodZ w h cs with
    | false => exact key (law_no w h nil cs hb (p18n w h true false cs hg) (fun p => w19n w h p false cs hg))
    | true =>
      have hh := (goodZ_all hg).1
      have hbd := hidP_bd hh
      obtain ⟨W, rfl⟩ := Int.eq_ofNat_of_zero_le (show 0 ≤ w by omega)
      obtain ⟨Hh, rfl⟩ := Int.eq_ofNat_of_zero_le (show 0 ≤ h by omega)
      exact key (law_yes W Hh nil cs _ (dat hh) hg)
  · exact key (law_big w h nil cs hl hb)
end Go.Ev.Z
end
