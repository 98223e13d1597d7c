import Derived.Test.YtfgbdbakafdinaaGreatWalkFourth
import Derived.Test.YtfgbdbakafdinaaGreatKnown
import Derived.Test.YtfgbdbakafdinaaGreatDeepThird

section
set_option maxRecDepth 100000
set_option linter.unusedSimpArgs false
set_option linter.unusedVariables false
namespace Go.Ev.Z
open Go Go.Ev
theorem t4 : T 4 = some (.code m4) := rfl
theorem p14n (w h : Int) (p : Bool) (cs : List Cu) (hg : goodZ w h cs = false) : Pure T 14 [.agg [.int .i64 w, .int .i64 h, .lst p 3 false (cs.map avU)]] (.tup [zT, .bool false]) := by
  refine (w14n w h p false cs hg).mono fun r A' hr => ?_
  rw [hr.2]; rfl
theorem p140 (W Hh : Nat) (l : List (List Sq)) (D : Dat W Hh l) (p : Bool) (cs : List Cu) (hg : goodZ W Hh cs = true) (ho : solP W Hh l cs = []) : Pure T 14 [.agg [.int .i64 (W : Int), .int .i64 (Hh : Int), .lst p 3 false (cs.map avU)]] (.tup [zT, .bool false]) := by
  refine (w14 W Hh l D p false cs hg).mono fun r A' hr => ?_
  rw [hr.2.1 ho]; rfl
theorem p141 (W Hh : Nat) (l : List (List Sq)) (D : Dat W Hh l) (p : Bool) (cs : List Cu) (hg : goodZ W Hh cs = true) (sq : List Sq) (rs : List (List Sq)) (ho : solP W Hh l cs = sq :: rs) : Pure T 14 [.agg [.int .i64 (W : Int), .int .i64 (Hh : Int), .lst p 3 false (cs.map avU)]]
    (.tup [.agg [.int .i64 (W : Int), .int .i64 (Hh : Int), .lst true 3 false (sq.map avS)], .bool true]) := by
  refine (w14 W Hh l D p false cs hg).mono fun r A' hr => ?_
  obtain ⟨_, _, h3⟩ := hr
  obtain ⟨e, he, rfl, hH⟩ := h3 sq rs ho
  obtain ⟨id, s⟩ := e
  dsimp only at he
  subst he
  have hH' : A'[id]? = some ⟨80, 3, s.map avS⟩ := hH
  have hg2 := gb_avS A' 4 s
  have ht : (s.map avS).take s.length = s.map avS := List.take_of_length_le (by simp)
  simp only [EVa, EVb, params, nilOk, bound, awayFrom, evM, fillA, setEls, Opd.ev, Fr.get, prune, Option.map, isB, tB, nB, isG, gT, gF, evRes, mapO, one, Nat.reduceAdd, Nat.reduceLeDiff, Nat.reduceEqDiff, Nat.reduceMul, Nat.reduceSub, Nat.reduceLT, Nat.reduceBEq, reduceCtorEq, ↓reduceIte, Int.reduceToNat, Int.reduceLE, Int.reduceLT, Int.reduceEq, Int.reduceAdd, Int.reduceSub, Int.reduceMul, List.reduceReplicate, avB, hH', hg2, ht, List.length_map, Nat.le_refl]
/-- Nothing is found: both say so. -/
theorem law_no (w h : Int) (nil : Bool) (cs : List Cu) (hl : cs.length ≤ 1048576)
    (hS : Pure T 13 [.agg [.int .i64 w, .int .i64 h, .lst true 3 false (cs.map avU)]] (.tup [zT, .bool false]))
    (hI : ∀ p, WF T 14 [.agg [.int .i64 w, .int .i64 h, .lst p 3 false (cs.map avU)]] [] (fun r A' => HpD A' ∧ r = .tup [zT, .bool false])) :
    WF T 4 [.agg [.int .i64 w, .int .i64 h, .lst true 3 nil (cs.map avU)]] [] (fun r A' => r = .bool true) := by
  rw [WS_of t4]
  have hsz := (p6 w h nil 3 (cs.map avU) 1048576 (by omega) (by simp; omega))
  have h0 : (if (1048576 : Int) - ((cs.map avU).length : Nat) < 0 then (-1 : Int) else 1048576 - ((cs.map avU).length : Nat)) = 1048576 - (cs.length : Int) := by rw [List.length_map, if_neg (by omega)]
  rw [h0] at hsz
  have h1 : ((1048576 : Int) - (cs.length : Int) < 0) = False := eq_false (by omega)
  have zsz := fun {d os live S Q fr A} => hsz.call0 (d := d) (os := os) (live := live) (S := S) (Q := Q) (fr := fr) (A := A)
  have zS := fun {d os live S Q fr A} => hS.call0 (d := d) (os := os) (live := live) (S := S) (Q := Q) (fr := fr) (A := A)
  have zT' := fun {d os live S Q fr A} => z8 w h true nil cs hl (d := d) (os := os) (live := live) (S := S) (Q := Q) (fr := fr) (A := A)
  have oT := fun {d os live S Q fr A} => o8 w h true nil cs hl (d := d) (os := os) (live := live) (S := S) (Q := Q) (fr := fr) (A := A)
  have hbU := fun A => bo_avU A 4 cs
  have hbU3 := fun A => bo_avU A 5 cs
  have ht : (cs.map avU).take cs.length = cs.map avU := List.take_of_length_le (by simp)
  have zE0 := fun {d os live S Q fr A} => (p15 0 0 0 0 true true true true 0 0 [] [] (.inr rfl) (.inr rfl) (by simp) (by simp)).call0 (d := d) (os := os) (live := live) (S := S) (Q := Q) (fr := fr) (A := A)
  simp only [List.map_nil, and_self, decide_true] at zE0
  have zE1 := fun {d os live S Q fr A} => (p10 w h w h false true false false 3 3 cs cs (.inl rfl) (.inl rfl) hl hl).call0 (d := d) (os := os) (live := live) (S := S) (Q := Q) (fr := fr) (A := A)
  simp only [and_self, decide_true] at zE1
  have zM := fun {d os live S Q fr A} => i11 (d := d) (os := os) (live := live) (S := S) (Q := Q) (fr := fr) (A := A) w h 3 cs hl
  have zH := fun {d os live S Q fr A} => (p17 0 0 true true 0 0 1 (by omega) (by omega) (.inr rfl)).call0 (d := d) (os := os) (live := live) (S := S) (Q := Q) (fr := fr) (A := A)
  have hm0 : (mkq 1 0).map avS = [] := rfl
  have hi0 : (1 : Int) + 3 * ((0 : Nat) : Int) = 1 := rfl
  rw [hm0, hi0] at zH
  have hmp : ((1 : Int) + 3 * (cs.length : Int) < 0) = False := eq_false (by omega)
  have hz9 : Pure T 14 [.agg [.int .i64 w, .int .i64 h, .lst true 3 false (cs.map avU)]] (.tup [zT, .bool false]) := (hI true).mono fun r A' hr => by rw [hr.2]; rfl
  have z9 := fun {d os live S Q fr A} => hz9.call0 (d := d) (os := os) (live := live) (S := S) (Q := Q) (fr := fr) (A := A)
  simp only [zT] at z9
  simp only [m4r0, m4r1, m4r2, m4r3, m4r4, m4r5, m4r6, m4r7, m4r8, m4r9, m4r10, m4r11, m4r12, m4r13, m4r14, m4r15, m4r16, m4r17, m4r18, m4r19, m4r20, m4r21, m4r22, m4r23, m4r24, m4r25, m4r26, m4r27, m4r28, m4r29, m4r30, m4r31, m4r32, m4r33, m4, EVa, EVb, params, nilOk, bound, awayFrom, evM, fillA, setEls, Opd.ev, Fr.get, prune, Option.map, isB, tB, nB, isG, gT, gF, evRes, mapO, one, Nat.reduceAdd, Nat.reduceLeDiff, Nat.reduceEqDiff, Nat.reduceMul, Nat.reduceSub, Nat.reduceLT, Nat.reduceBEq, reduceCtorEq, ↓reduceIte, Int.reduceToNat, Int.reduceLE, Int.reduceLT, Int.reduceEq, Int.reduceAdd, Int.reduceSub, Int.reduceMul, List.reduceReplicate, WCR_ro, WRm_some, bo_agg, bo_int, bo_bool, bo_lst, zsz, zS, zT', oT, h1, zT]
  refine own_of (args' := [.agg [.int .i64 w, .int .i64 h, .lst false 3 false (cs.map avU)]]) ?_ (hI false) ?_
  · simp only [EVa, EVb, params, nilOk, bound, awayFrom, evM, fillA, setEls, Opd.ev, Fr.get, prune, Option.map, isB, tB, nB, isG, gT, gF, evRes, mapO, one, Nat.reduceAdd, Nat.reduceLeDiff, Nat.reduceEqDiff, Nat.reduceMul, Nat.reduceSub, Nat.reduceLT, Nat.reduceBEq, reduceCtorEq, ↓reduceIte, Int.reduceToNat, Int.reduceLE, Int.reduceLT, Int.reduceEq, Int.reduceAdd, Int.reduceSub, Int.reduceMul, List.reduceReplicate, bo_agg, bo_int, bo_get, boB_some, boL_some, ht, hbU, hbU3]
  rintro r A' ⟨hE, rfl⟩
  obtain ⟨A2, hA2, _⟩ := hE.emb _
  refine ⟨.tup [zT, .bool false], A2, rfl, hA2, ?_⟩
  clear hA2 hE
  simp only [EVa, EVb, params, nilOk, bound, awayFrom, evM, fillA, setEls, Opd.ev, Fr.get, prune, Option.map, isB, tB, nB, isG, gT, gF, evRes, mapO, one, Nat.reduceAdd, Nat.reduceLeDiff, Nat.reduceEqDiff, Nat.reduceMul, Nat.reduceSub, Nat.reduceLT, Nat.reduceBEq, reduceCtorEq, ↓reduceIte, Int.reduceToNat, Int.reduceLE, Int.reduceLT, Int.reduceEq, Int.reduceAdd, Int.reduceSub, Int.reduceMul, List.reduceReplicate, WCR_ro, WRm_some, bo_agg, bo_int, bo_bool, bo_lst, bo_get, boB_some, boL_some, ht, hbU, hbU3, zsz, zS, zT', zE0, zE1, zM, i16z, zH, z9, h1, hmp, zT]
/-- A first solution: both give it. -/
theorem law_yes (W Hh : Nat) (nil : Bool) (cs : List Cu) (l : List (List Sq)) (D : Dat W Hh l) (hg : goodZ W Hh cs = true) (sq : List Sq) (rs : List (List Sq)) (ho : solP W Hh l cs = sq :: rs) (hcl : sq.length ≤ 1048576) :
    WF T 4 [.agg [.int .i64 (W : Int), .int .i64 (Hh : Int), .lst true 3 nil (cs.map avU)]] [] (fun r A' => r = .bool true) := by
  rw [WS_of t4]
  have hl : cs.length ≤ 1048576 := by have := (goodZ_all hg).2.1; omega
  have hsz := (p6 W Hh nil 3 (cs.map avU) 1048576 (by omega) (by simp; omega))
  have h0 : (if (1048576 : Int) - ((cs.map avU).length : Nat) < 0 then (-1 : Int) else 1048576 - ((cs.map avU).length : Nat)) = 1048576 - (cs.length : Int) := by rw [List.length_map, if_neg (by omega)]
  rw [h0] at hsz
  have h1 : ((1048576 : Int) - (cs.length : Int) < 0) = False := eq_false (by omega)
  have hS := p13y W Hh l D true false cs hg
  rw [ho] at hS
  simp only [encT] at hS
  have hI := w14 W Hh l D false false cs hg
  have hz9 := p141 W Hh l D true cs hg sq rs ho
  have zsz := fun {d os live S Q fr A} => hsz.call0 (d := d) (os := os) (live := live) (S := S) (Q := Q) (fr := fr) (A := A)
  have zS := fun {d os live S Q fr A} => hS.call0 (d := d) (os := os) (live := live) (S := S) (Q := Q) (fr := fr) (A := A)
  have zT' := fun {d os live S Q fr A} => z8 W Hh true nil cs hl (d := d) (os := os) (live := live) (S := S) (Q := Q) (fr := fr) (A := A)
  have oT := fun {d os live S Q fr A} => o8 W Hh true nil cs hl (d := d) (os := os) (live := live) (S := S) (Q := Q) (fr := fr) (A := A)
  have z9 := fun {d os live S Q fr A} => hz9.call0 (d := d) (os := os) (live := live) (S := S) (Q := Q) (fr := fr) (A := A)
  have hbU := fun A => bo_avU A 4 cs
  have hbU3 := fun A => bo_avU A 5 cs
  have hbC := fun A => bo_avS A 4 sq
  have hbC3 := fun A => bo_avS A 5 sq
  have hbM := fun A => bo_avS A 4 (mkq 1 sq.length)
  have hbM3 := fun A => bo_avS A 5 (mkq 1 sq.length)
  have ht : (cs.map avU).take cs.length = cs.map avU := List.take_of_length_le (by simp)
  have zE0 := fun {d os live S Q fr A} => (p15 W Hh W Hh false true false false 3 3 sq sq (.inl rfl) (.inl rfl) hcl hcl).call0 (d := d) (os := os) (live := live) (S := S) (Q := Q) (fr := fr) (A := A)
  simp only [and_self, decide_true] at zE0
  have zE3 := fun {d os live S Q fr A} => (p15 W Hh W Hh true true false false 3 3 sq sq (.inl rfl) (.inl rfl) hcl hcl).call0 (d := d) (os := os) (live := live) (S := S) (Q := Q) (fr := fr) (A := A)
  simp only [and_self, decide_true] at zE3
  have zE1 := fun {d os live S Q fr A} => (p10 W Hh W Hh false true false false 3 3 cs cs (.inl rfl) (.inl rfl) hl hl).call0 (d := d) (os := os) (live := live) (S := S) (Q := Q) (fr := fr) (A := A)
  simp only [and_self, decide_true] at zE1
  have zM := fun {d os live S Q fr A} => i11 (d := d) (os := os) (live := live) (S := S) (Q := Q) (fr := fr) (A := A) W Hh 3 cs hl
  have zH := fun {d os live S Q fr A} => (p17 W Hh false false 3 sq.length 1 (by omega) hcl (.inl rfl)).call0 (d := d) (os := os) (live := live) (S := S) (Q := Q) (fr := fr) (A := A)
  have hmp : ((1 : Int) + 3 * (cs.length : Int) < 0) = False := eq_false (by omega)
  have hmc : ((1 : Int) + 3 * (sq.length : Int) < 0) = False := eq_false (by omega)
  simp only [m4r0, m4r1, m4r2, m4r3, m4r4, m4r5, m4r6, m4r7, m4r8, m4r9, m4r10, m4r11, m4r12, m4r13, m4r14, m4r15, m4r16, m4r17, m4r18, m4r19, m4r20, m4r21, m4r22, m4r23, m4r24, m4r25, m4r26, m4r27, m4r28, m4r29, m4r30, m4r31, m4r32, m4r33, m4, EVa, EVb, params, nilOk, bound, awayFrom, evM, fillA, setEls, Opd.ev, Fr.get, prune, Option.map, isB, tB, nB, isG, gT, gF, evRes, mapO, one, Nat.reduceAdd, Nat.reduceLeDiff, Nat.reduceEqDiff, Nat.reduceMul, Nat.reduceSub, Nat.reduceLT, Nat.reduceBEq, reduceCtorEq, ↓reduceIte, Int.reduceToNat, Int.reduceLE, Int.reduceLT, Int.reduceEq, Int.reduceAdd, Int.reduceSub, Int.reduceMul, List.reduceReplicate, WCR_ro, WRm_some, bo_agg, bo_int, bo_bool, bo_lst, zsz, zS, zT', oT, h1]
  refine own_of (args' := [.agg [.int .i64 (W : Int), .int .i64 (Hh : Int), .lst false 3 false (cs.map avU)]]) ?_ hI ?_
  · simp only [EVa, EVb, params, nilOk, bound, awayFrom, evM, fillA, setEls, Opd.ev, Fr.get, prune, Option.map, isB, tB, nB, isG, gT, gF, evRes, mapO, one, Nat.reduceAdd, Nat.reduceLeDiff, Nat.reduceEqDiff, Nat.reduceMul, Nat.reduceSub, Nat.reduceLT, Nat.reduceBEq, reduceCtorEq, ↓reduceIte, Int.reduceToNat, Int.reduceLE, Int.reduceLT, Int.reduceEq, Int.reduceAdd, Int.reduceSub, Int.reduceMul, List.reduceReplicate, bo_agg, bo_int, bo_get, boB_some, boL_some, ht, hbU, hbU3]
  rintro r A' ⟨hE, _, hr⟩
  obtain ⟨⟨id, s⟩, he, rfl, hid⟩ := hr sq rs ho
  dsimp only at he
  subst he
  have hid' : A'[id]? = some ⟨80, 3, s.map avS⟩ := hid
  obtain ⟨A2, hA2, _⟩ := hE.emb _
  obtain ⟨b2, hb2, hi2⟩ := mapO_getD hA2 hid'
  have hb2' : b2 = ⟨80, 3, s.map avS⟩ := by
    simp only [embedB, depth_is, em_avS] at hb2
    exact (Option.some.inj hb2).symm
  subst hb2'
  refine ⟨_, A2, rfl, hA2, ?_⟩
  clear hA2 hE hr hI hb2 hid hid'
  have hidl := lt_of_get hi2
  have q1 : ∀ B, (A2 ++ B)[id]? = some ⟨80, 3, s.map avS⟩ := fun B => h_get_of hi2
  have q2 : ∀ B b, (A2 ++ B).set id b = A2.set id b ++ B := fun B b => h_set_lt hidl
  have q3 : ∀ B b, (A2.set id b ++ B)[id]? = some b := fun B b => h_get_of (h_set_get hidl)
  have q4 : ∀ B b, (A2.set id b ++ B)[A2.length]? = B[0]? := fun B b => by
    have := h_get0 (A2.set id b) B
    rwa [List.length_set] at this
  have q5 : ∀ B b k, (A2.set id b ++ B)[A2.length + k]? = B[k]? := fun B b k => by
    have := h_getk (A2.set id b) B k
    rwa [List.length_set] at this
  have q6 : ∀ B b k c, (A2.set id b ++ B).set (A2.length + k) c = A2.set id b ++ B.set k c := fun B b k c => by
    have := h_setk (A2.set id b) B k c
    rwa [List.length_set] at this
  have t1 : (s.map avS).take s.length = s.map avS := List.take_of_length_le (by simp)
  have t2 : ((mkq 1 s.length).map avS).take s.length = (mkq 1 s.length).map avS := List.take_of_length_le (by simp [mkq_len])
  have l2 : (mkq 1 s.length).length = s.length := by simp [mkq_len]
  have zG := fun {d os live S Q fr A} => i16 (d := d) (os := os) (live := live) (S := S) (Q := Q) (fr := fr) (A := A) W Hh (id + 5) s 1 (by omega) hcl
  generalize (mkq 1 s.length) = M at t2 l2 zG hbM hbM3 zH ⊢
  simp only [EVa, EVb, params, nilOk, bound, awayFrom, evM, fillA, setEls, Opd.ev, Fr.get, prune, Option.map, isB, tB, nB, isG, gT, gF, evRes, mapO, one, Nat.reduceAdd, Nat.reduceLeDiff, Nat.reduceEqDiff, Nat.reduceMul, Nat.reduceSub, Nat.reduceLT, Nat.reduceBEq, reduceCtorEq, ↓reduceIte, Int.reduceToNat, Int.reduceLE, Int.reduceLT, Int.reduceEq, Int.reduceAdd, Int.reduceSub, Int.reduceMul, List.reduceReplicate, WCR_ro, WRm_some, bo_agg, bo_int, bo_bool, bo_lst, bo_get, boB_some, boL_some, ht, hbU, hbU3, hbC, hbC3, hbM, hbM3, zsz, zS, zT', zE0, zE1, zE3, zM, zG, zH, z9, h1, hmp, hmc, q1, q2, q3, q4, q5, q6, t1, t2, l2]
theorem law_big (w h : Int) (nil : Bool) (cs : List Cu) (hl : cs.length ≤ maxLen) (hb : ¬ cs.length ≤ 1048576) :
    WF T 4 [.agg [.int .i64 w, .int .i64 h, .lst true 3 nil (cs.map avU)]] [] (fun r A' => r = .bool true) := by
  rw [WS_of t4]
  have hl' : cs.length ≤ 9223372036854775807 := hl
  have hsz := (p6 w h nil 3 (cs.map avU) 1048576 (by omega) (by simp; omega))
  have h0 : (if (1048576 : Int) - ((cs.map avU).length : Nat) < 0 then (-1 : Int) else 1048576 - ((cs.map avU).length : Nat)) = -1 := by rw [List.length_map, if_pos (by omega)]
  rw [h0] at hsz
  have zsz := fun {d os live S Q fr A} => hsz.call0 (d := d) (os := os) (live := live) (S := S) (Q := Q) (fr := fr) (A := A)
  simp only [m4r0, m4r1, m4r2, m4r3, m4r4, m4r5, m4r6, m4r7, m4r8, m4r9, m4r10, m4r11, m4r12, m4r13, m4r14, m4r15, m4r16, m4r17, m4r18, m4r19, m4r20, m4r21, m4r22, m4r23, m4r24, m4r25, m4r26, m4r27, m4r28, m4r29, m4r30, m4r31, m4r32, m4r33, m4, EVa, EVb, params, nilOk, bound, awayFrom, evM, fillA, setEls, Opd.ev, Fr.get, prune, Option.map, isB, tB, nB, isG, gT, gF, evRes, mapO, one, Nat.reduceAdd, Nat.reduceLeDiff, Nat.reduceEqDiff, Nat.reduceMul, Nat.reduceSub, Nat.reduceLT, Nat.reduceBEq, reduceCtorEq, ↓reduceIte, Int.reduceToNat, Int.reduceLE, Int.reduceLT, Int.reduceEq, Int.reduceAdd, Int.reduceSub, Int.reduceMul, List.reduceReplicate, WCR_ro, WRm_some, bo_agg, bo_int, bo_bool, bo_lst, zsz]
theorem run4 (x : AV) (hx : ArgT Go.Proofs.Tryz.prog 4 24 x) : ∃ A', Runs T 4 [x] [] (.bool true) A' := by
  obtain ⟨w, h, nil, cs, rfl, hl⟩ := open_puzzle hx
  have key : ∀ {x : AV}, WF T 4 [x] [] (fun r A' => r = .bool true) → ∃ A', Runs T 4 [x] [] (.bool true) A' := by
    rintro x ⟨k, r, A', h, rfl⟩
    exact ⟨A', k, h⟩
  by_cases hb : cs.length ≤ 1048576
  · cases hg : goodZ w h cs with
    | false => exact key (law_no w h nil cs hb (p13n w h true false cs hg) (fun p => w14n w h p false cs hg))
    | true =>
      have hh := (goodZ_all hg).1
      have hbd := hidP_bd hh
      obtain ⟨W, rfl⟩ := Int.eq_ofNat_of_zero_le (show 0 ≤ w by omega)
      obtain ⟨Hh, rfl⟩ := Int.eq_ofNat_of_zero_le (show 0 ≤ h by omega)
      have D := dat hh
      cases ho : solP W Hh (cutsP W Hh) cs with
      | nil =>
        have hS := p13y W Hh _ D true false cs hg
        rw [ho] at hS
        exact key (law_no W Hh nil cs hb hS (fun p => (w14 W Hh _ D p false cs hg).mono fun r A' hr => ⟨hr.1, hr.2.1 ho⟩))
      | cons sq rs =>
        have hm : sq ∈ solP W Hh (cutsP W Hh) cs := by rw [ho]; simp
        have hF := (D.fit sq (List.mem_filter.1 (show sq ∈ List.filter _ _ from hm)).1).1
        exact key (law_yes W Hh nil cs _ D hg sq rs ho (by have := hF.n; omega))
  · exact key (law_big w h nil cs hl hb)
end Go.Ev.Z
end
