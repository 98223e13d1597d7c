import Derived.Test.YtfgbdbakafdinaaGreatRulesThird
import Derived.Test.YtfgbdbakafdinaaGreatPlain
import Derived.Test.YtfgbdbakafdinaaGreatRunsA
import Derived.Test.YtfgbdbakafdinaaGreatRunsB
import Derived.Test.YtfgbdbakafdinaaGreatRunsC
import Derived.Test.YtfgbdbakafdinaaGreatRunsD
import Derived.Test.YtfgbdbakafdinaaGreatEvThird
import Derived.Test.YtfgbdbakafdinaaGreatChecked
import Derived.KernelRfl
import Derived.Test.YtfgbdbakafdinaaGreatRulesFourth

section
set_option maxRecDepth 100000
set_option linter.unusedSimpArgs false
set_option linter.unusedVariables false
namespace Go.Ev.Z
open Go Go.Ev
theorem all_runs : ∀ W Hh : Nat, 1 ≤ W → W ≤ 6 → 1 ≤ Hh → Hh ≤ 6 → W * Hh ≤ 12 → AllRun T 49 W Hh (cutsP W Hh) :=
  hidden_cases (fun W Hh => AllRun T 49 W Hh (cutsP W Hh)) ra1_1 ra1_2 ra1_3 ra1_4 ra1_5 ra1_6 ra2_1 ra2_2 ra2_3 ra2_4 ra2_5 ra2_6 ra3_1 ra3_2 ra3_3 ra3_4 ra4_1 ra4_2 ra4_3 ra5_1 ra5_2 ra6_1 ra6_2
theorem ct_runs : ∀ W Hh : Nat, 1 ≤ W → W ≤ 6 → 1 ≤ Hh → Hh ≤ 6 → W * Hh ≤ 12 → CtRun T 43 W Hh (cutsP W Hh) :=
  hidden_cases (fun W Hh => CtRun T 43 W Hh (cutsP W Hh)) rc1_1 rc1_2 rc1_3 rc1_4 rc1_5 rc1_6 rc2_1 rc2_2 rc2_3 rc2_4 rc2_5 rc2_6 rc3_1 rc3_2 rc3_3 rc3_4 rc4_1 rc4_2 rc4_3 rc5_1 rc5_2 rc6_1 rc6_2
theorem eqO_some {x y : Option Int} (h : eqO x y = true) : ∃ n, x = some n ∧ y = some n := by
  cases x <;> cases y <;> simp_all [eqO]
theorem ag_of {W Hh : Nat} {sq : List Sq} (ha : agB W Hh sq = true) (c : Cu) (hc : clueP W Hh c = true) : ∃ b, fitO c W Hh sq = some b ∧ fitR c W Hh sq = some b := by
  unfold agB at ha
  rw [List.all_eq_true] at ha
  obtain ⟨k, a, b⟩ := c
  have h0 : ∀ q, q ∈ pairsP W Hh → ∃ n, toldO q.1 q.2 W Hh sq = some n ∧ pzO q.1 q.2 W Hh sq = some n := fun q hq => eqO_some (ha q hq)
  simp only [clueP, inP, Bool.or_eq_true, Bool.and_eq_true, decide_eq_true_eq] at hc
  rcases hc with ((((⟨rfl, hr⟩ | ⟨rfl, hr⟩) | ⟨rfl, hr⟩) | ⟨rfl, hr⟩) | ⟨rfl, hr⟩) | ⟨rfl, hr⟩
  · obtain ⟨n, h1, h2⟩ := h0 (0, 0) (by simp [pairsP])
    exact ⟨decide (n = a), by simp only [fitO]; rw [if_neg (by simp [inP])]; simp only at h1; rw [h1]; rfl, by simp only [fitR]; rw [if_pos (by simp [inP])]; simp only at h2; rw [h2]; rfl⟩
  · obtain ⟨n, h1, h2⟩ := h0 (1, a) (by
      have : a = 1 ∨ a = 2 ∨ a = 3 ∨ a = 4 ∨ a = 5 ∨ a = 6 := by omega
      rcases this with rfl | rfl | rfl | rfl | rfl | rfl <;> simp [pairsP])
    exact ⟨decide (n = b), by simp only [fitO]; rw [if_pos (by simp [inP])]; simp only at h1; rw [h1]; rfl, by simp only [fitR]; rw [if_neg (by simp [inP])]; simp only at h2; rw [h2]; rfl⟩
  · obtain ⟨n, h1, h2⟩ := h0 (2, a) (by
      obtain ⟨m, rfl⟩ := Int.eq_ofNat_of_zero_le hr.1.1
      have : m < W * Hh := by
        have := hr.1.2
        have h3 : ((W * Hh : Nat) : Int) = (W : Int) * Hh := Int.natCast_mul W Hh
        omega
      simp only [pairsP, List.mem_append]
      exact .inr (List.mem_map.2 ⟨m, List.mem_range.2 this, rfl⟩))
    exact ⟨decide (n = b), by simp only [fitO]; rw [if_pos (by simp [inP])]; simp only at h1; rw [h1]; rfl, by simp only [fitR]; rw [if_neg (by simp [inP])]; simp only at h2; rw [h2]; rfl⟩
  · obtain ⟨n, h1, h2⟩ := h0 (3, a) (by
      have : a = 0 ∨ a = 1 ∨ a = 2 ∨ a = 3 := by omega
      rcases this with rfl | rfl | rfl | rfl <;> simp [pairsP])
    exact ⟨decide (n = b), by simp only [fitO]; rw [if_pos (by simp [inP])]; simp only at h1; rw [h1]; rfl, by simp only [fitR]; rw [if_neg (by simp [inP])]; simp only at h2; rw [h2]; rfl⟩
  · obtain ⟨n, h1, h2⟩ := h0 (4, 0) (by simp [pairsP])
    exact ⟨decide (n = a), by simp only [fitO]; rw [if_neg (by simp [inP])]; simp only at h1; rw [h1]; rfl, by simp only [fitR]; rw [if_pos (by simp [inP])]; simp only at h2; rw [h2]; rfl⟩
  · obtain ⟨n, h1, h2⟩ := h0 (5, 0) (by simp [pairsP])
    exact ⟨decide (n = a), by simp only [fitO]; rw [if_neg (by simp [inP])]; simp only at h1; rw [h1]; rfl, by simp only [fitR]; rw [if_pos (by simp [inP])]; simp only at h2; rw [h2]; rfl⟩
theorem dat {W Hh : Nat} (hh : hidP W Hh = true) : Dat W Hh (cutsP W Hh) := by
  have hb := hidP_bd hh
  have h12 : W * Hh ≤ 12 := by
    have h3 : ((W * Hh : Nat) : Int) = (W : Int) * Hh := Int.natCast_mul W Hh
    omega
  have hok := ok_all W Hh (by omega) (by omega) (by omega) (by omega) h12
  simp only [okB, Bool.and_eq_true, decide_eq_true_eq, List.all_eq_true] at hok
  obtain ⟨⟨⟨⟨⟨h1, h2⟩, h3⟩, h4⟩, h5⟩, h6⟩ := hok
  refine ⟨all_runs W Hh (by omega) (by omega) (by omega) (by omega) h12, ct_runs W Hh (by omega) (by omega) (by omega) (by omega) h12, fun sq hs => ?_, h5, fun c hc sq hs => ag_of (h6 sq hs).2 c hc⟩
  obtain ⟨⟨hf, hg⟩, _⟩ := h6 sq hs
  have hB := (good_Bds hg).1
  simp only [fitB, Bool.and_eq_true, decide_eq_true_eq, List.all_eq_true] at hf
  exact ⟨⟨by omega, by omega, hf.1, hB, fun s h => by have := hf.2 s h; omega⟩, hg⟩
end Go.Ev.Z
end

section
/- A puzzle given to a law. -/
set_option linter.unusedVariables false
set_option maxRecDepth 100000
namespace Go.Ev
def fieldsOf (P : Program) (t : TypeId) : List (TypeId × Nat) := match P.underlying t with
  | some (.struct fs) => fs.toList.map fun f => (f.type, f.offset)
  | _ => []
theorem TyA.fields {P : Program} {n : Nat} {t : TypeId} {xs : List AV} (h : TyA P (n + 1) t xs) (hs : isStruct P t = true) : xs.length = P.cellsOf t ∧ ∀ q, q ∈ fieldsOf P t → TyA P n q.1 ((xs.drop q.2).take (P.cellsOf q.1)) := by
  unfold isStruct at hs
  split at hs
  · rename_i fs hu
    simp only [TyA, hu] at h
    refine ⟨h.1, fun q hq => ?_⟩
    simp only [fieldsOf, hu] at hq
    obtain ⟨f, hf, rfl⟩ := List.mem_map.1 hq
    exact h.2 f hf
  · cases hs
theorem TyA.int {P : Program} {n : Nat} {t : TypeId} {xs : List AV} {k : IntKind} (hu : P.underlying t = some (.int k)) (h : TyA P (n + 1) t xs) : ∃ m, xs = [.int k m] ∧ k.min ≤ m ∧ m ≤ k.max := by
  simpa only [TyA, hu] using h
theorem TyA.slice {P : Program} {n : Nat} {t e : TypeId} {xs : List AV} (hu : P.underlying t = some (.slice e)) (h : TyA P (n + 1) t xs) : ∃ nil ys, xs = [.lst true (P.cellsOf e) nil ys] ∧ (nil = true → ys = []) ∧ ys.length ≤ maxLen ∧
    ∀ y ∈ ys, TyA P n e (cellsOf y) ∧ (if isStruct P e then ∃ zs, y = .agg zs else cellsOf y = [y]) := by
  simpa only [TyA, hu] using h
/-- A struct of three. -/
theorem three {α : Type} {xs : List α} (h : xs.length = 3) : ∃ a b c, xs = [a, b, c] := by
  match xs, h with
  | [a, b, c], _ => exact ⟨a, b, c, rfl⟩
end Go.Ev
namespace Go.Ev.Z
open Go Go.Ev
theorem u3 : Go.Proofs.Tryz.prog.underlying 3 = some (.int .i64) := by kernel_rfl
theorem u22 : Go.Proofs.Tryz.prog.underlying 22 = some (.slice 69) := by kernel_rfl
theorem s24 : isStruct Go.Proofs.Tryz.prog 24 = true := by kernel_rfl
theorem s69 : isStruct Go.Proofs.Tryz.prog 69 = true := by kernel_rfl
theorem f24 : fieldsOf Go.Proofs.Tryz.prog 24 = [(3, 0), (3, 1), (22, 2)] := by kernel_rfl
theorem f69 : fieldsOf Go.Proofs.Tryz.prog 69 = [(3, 0), (3, 1), (3, 2)] := by kernel_rfl
theorem zc24 : Go.Proofs.Tryz.prog.cellsOf 24 = 3 := by kernel_rfl
theorem zc69 : Go.Proofs.Tryz.prog.cellsOf 69 = 3 := by kernel_rfl
theorem zc3 : Go.Proofs.Tryz.prog.cellsOf 3 = 1 := by kernel_rfl
theorem zc22 : Go.Proofs.Tryz.prog.cellsOf 22 = 1 := by kernel_rfl
theorem open_clue {y : AV} (h : TyA Go.Proofs.Tryz.prog 2 69 (cellsOf y)) (hs : ∃ zs, y = .agg zs) : ∃ c, y = avU c := by
  obtain ⟨zs, rfl⟩ := hs
  obtain ⟨h1, h2⟩ := h.fields s69
  rw [zc69] at h1
  obtain ⟨a, b, c, rfl⟩ := three h1
  rw [f69] at h2
  obtain ⟨m1, e1, _⟩ := (h2 (3, 0) (by simp)).int u3
  obtain ⟨m2, e2, _⟩ := (h2 (3, 1) (by simp)).int u3
  obtain ⟨m3, e3, _⟩ := (h2 (3, 2) (by simp)).int u3
  simp only [zc3] at e1 e2 e3
  have d1 : a = .int .i64 m1 := by simpa [cellsOf] using e1
  have d2 : b = .int .i64 m2 := by simpa [cellsOf] using e2
  have d3 : c = .int .i64 m3 := by simpa [cellsOf] using e3
  subst d1 d2 d3
  exact ⟨⟨m1, m2, m3⟩, rfl⟩
theorem open_clues : ∀ ys : List AV, (∀ y ∈ ys, TyA Go.Proofs.Tryz.prog 2 69 (cellsOf y) ∧ (if isStruct Go.Proofs.Tryz.prog 69 then ∃ zs, y = .agg zs else cellsOf y = [y])) → ∃ cs : List Cu, ys = cs.map avU
  | [], _ => ⟨[], rfl⟩
  | y :: r, h => by
    obtain ⟨cs, rfl⟩ := open_clues r fun z hz => h z (by simp [hz])
    have hy := h y (by simp)
    rw [s69, if_pos rfl] at hy
    obtain ⟨c, rfl⟩ := open_clue hy.1 hy.2
    exact ⟨c :: cs, rfl⟩
theorem open_puzzle {x : AV} (h : ArgT Go.Proofs.Tryz.prog 4 24 x) : ∃ (w h : Int) (nil : Bool) (cs : List Cu), x = .agg [.int .i64 w, .int .i64 h, .lst true 3 nil (cs.map avU)] ∧ cs.length ≤ maxLen := by
  obtain ⟨h1, h2, h3⟩ := h
  rw [s24, if_pos rfl] at h3
  obtain ⟨zs, rfl⟩ := h3
  obtain ⟨k1, k2⟩ := h1.fields s24
  rw [zc24] at k1
  obtain ⟨a, b, c, rfl⟩ := three k1
  rw [f24] at k2
  obtain ⟨m1, e1, _⟩ := (k2 (3, 0) (by simp)).int u3
  obtain ⟨m2, e2, _⟩ := (k2 (3, 1) (by simp)).int u3
  obtain ⟨nil, ys, e3, _, hl, hy⟩ := (k2 (22, 2) (by simp)).slice u22
  obtain ⟨cs, rfl⟩ := open_clues ys hy
  simp only [zc3, zc22, zc69] at e1 e2 e3
  have d1 : a = .int .i64 m1 := by simpa [cellsOf] using e1
  have d2 : b = .int .i64 m2 := by simpa [cellsOf] using e2
  have d3 : c = .lst true 3 nil (cs.map avU) := by simpa [cellsOf] using e3
  subst d1 d2 d3
  exact ⟨m1, m2, nil, cs, rfl, by simpa using hl⟩
end Go.Ev.Z
end

section
set_option maxRecDepth 100000
set_option linter.unusedSimpArgs false
set_option linter.unusedVariables false
namespace Go.Ev.Z
open Go Go.Ev
theorem t3 : T 3 = some (.code m3) := rfl
def zP : AV := .agg [.int .i64 0, .int .i64 0, .lst true 0 true []]
section
variable {d : Option Nat} {os : List MOp} {live : List Nat} {S : List KF} {Q : FQ} {fr : Fr} {A : Heap}
theorem z8 (w h : Int) (p nil : Bool) (cs : List Cu) (hl : cs.length ≤ 1048576) : WR0 T 8 [.agg [.int .i64 w, .int .i64 h, .lst p 3 nil (cs.map avU)]] d os live S Q fr A ↔ WP T os live S Q (putd d (.agg [.int .i64 w, .int .i64 h, .lst true 3 false (cs.map avU)]) fr) A := (p8 w h p nil cs hl).call0
theorem i11 (w h : Int) (id : Nat) (cs : List Cu) (hl : cs.length ≤ 1048576) (hA : A[id]? = some ⟨58, 3, cs.map avU⟩) : WCR T .inl 11 [.agg [.int .i64 w, .int .i64 h, .sl id 3 cs.length 0 cs.length], .int .i64 1] d os live S Q fr A ↔
    WP T os live S Q (putd d (.int .i64 (1 + 3 * cs.length)) fr) (A.set id ⟨58, 3, (mks 1 cs.length).map avU⟩) := by
  rw [WCR_inl]
  have := r11 A w h id cs [] 1 (by omega) hl (by rw [List.append_nil]; exact hA)
  rw [List.append_nil, List.append_nil] at this
  exact this.iff
theorem i11z (w h : Int) (p nil : Bool) (sz : Nat) : WCR T .inl 11 [.agg [.int .i64 w, .int .i64 h, .lst p sz nil []], .int .i64 1] d os live S Q fr A ↔ WP T os live S Q (putd d (.int .i64 1) fr) A := by
  rw [WCR_inl]
  exact (r11z A w h p nil sz 1).iff
end
theorem p9n (w h : Int) (p : Bool) (cs : List Cu) (hg : goodZ w h cs = false) : Pure T 9 [.agg [.int .i64 w, .int .i64 h, .lst p 3 false (cs.map avU)]] (.tup [zP, .bool false]) := by
  refine (w9n w h p cs hg).mono fun r A' hr => ?_
  rw [hr.2]; rfl
theorem p9 (W Hh : Nat) (l : List (List Sq)) (D : Dat W Hh l) (p : Bool) (cs : List Cu) (hg : goodZ W Hh cs = true) : Pure T 9 [.agg [.int .i64 (W : Int), .int .i64 (Hh : Int), .lst p 3 false (cs.map avU)]]
    (if oneP W Hh l cs = true then .tup [.agg [.int .i64 (W : Int), .int .i64 (Hh : Int), .lst true 3 false ((hardF (oneP W Hh l) cs.length cs 0).map avU)], .bool true] else .tup [zP, .bool false]) := by
  refine (w9 W Hh l D p cs hg).mono fun r A' hr => ?_
  obtain ⟨h1, h2, h3⟩ := hr
  by_cases ho : oneP W Hh l cs = true
  · rw [if_pos ho]
    obtain ⟨v, rfl, id, ex, rfl, hid, _⟩ := h3 ho
    have hg2 := gb_avU A' 2 (hardF (oneP W Hh l) cs.length cs 0)
    have ht : ((hardF (oneP W Hh l) cs.length cs 0 ++ ex).map avU).take (hardF (oneP W Hh l) cs.length cs 0).length = (hardF (oneP W Hh l) cs.length cs 0).map avU := by
      rw [List.map_append, List.take_append_of_le_length (by simp), List.take_of_length_le (by simp)]
    have hle : (hardF (oneP W Hh l) cs.length cs 0).length ≤ (hardF (oneP W Hh l) cs.length cs 0 ++ ex).length := by simp
    generalize hardF (oneP W Hh l) cs.length cs 0 ++ ex = E at hid ht hle ⊢
    simp only [params, WS_skip, WS_exit, WS_ret, WS_seq, WS_block, WS_reg, WS_cond_t, WS_cond_f, WN_seq, WN_blk, WN_inv, WN_nil, WE_seq, WE_inv, WE_blk, WR_seq, WR_blk, WR_inv, WR_nil, RV_some, WU_some, WV_some, WCf_fn, putd_some, putd_none, WP_nil, WP_guard_t, WP_guard_f, WP_call, WP_mv, WP_pick, pickV_bool, WP_load, loadV_rp, loadV_ptr, loadE_some, loadFrom_1, loadFrom_all, loadB_some, WP_nilchk, nilOk, WP_faddr, faddrV_ptr, faddrV_rp, WP_bin, b_add, b_sub, b_mul, b_quo, b_rem, b_eql, b_neq, b_lss, b_leq, b_gtr, b_geq, b_seql, b_sneq, b_beql, b_bneq, WP_un, u_not, u_neg, WP_len, lenV_lst, lenV_sl, WP_iaddr, iaddr_lst', iaG_some, iaddr_sl, WP_rbox, WP_box, WP_alloc, WP_store, storeV_ptr, storeG_some, storeO_some, storeB_get, storeE_agg, storeE_cell, storeE_scal, sc_int, st_int, ce_int, sc_bool, st_bool, ce_bool, sc_str, st_str, ce_str, sc_nilp, st_nilp, ce_nilp, sc_ptr, st_ptr, ce_ptr, sc_rp, st_rp, ce_rp, sc_sl, st_sl, ce_sl, sc_lst, st_lst, ce_lst, sc_fn, st_fn, ce_fn, sc_nilf, st_nilf, ce_nilf, sc_iface, st_iface, ce_iface, sc_nili, st_nili, ce_nili, st_agg, ce_agg, WP_build, WP_bsl, WP_rbsl, WP_fld, WP_mm, WP_mkfn, WP_ext, extV_tup, WP_slc, slc_lst_hi, slc_lst_lo, slc_lst, slc_sl_hi, slc_sl_lo, WP_cvt, WP_slcm, bound, b_nil, b_nilS, WP_clear, WP_slcx, permAll_nil, permAll_int, WP_append, WP_appendA, awayFrom, List.all_cons, List.all_nil, appV_lst, WP_mksl, Int.cast_ofNat_Int, List.reduceReplicate, WP_mkif, evM, fillA, setEls, Opd.ev, Fr.get, prune, Option.map, isB, tB, nB, isG, gT, gF, evRes, mapO, one, List.map_cons, List.map_nil, List.cons_append, List.nil_append, List.append_nil, List.length_cons, List.length_nil, List.drop_zero, List.drop_succ_cons, List.take_succ_cons, List.take_zero, List.set_cons_zero, List.set_cons_succ, List.getElem?_cons_zero, List.getElem?_cons_succ, Nat.zero_add, Nat.add_zero, Nat.reduceAdd, Nat.reduceLeDiff, Nat.reduceEqDiff, Nat.reduceMul, Nat.reduceSub, Nat.reduceLT, Nat.le_refl, Nat.zero_le, Nat.succ_ne_self, reduceCtorEq, ↓reduceIte, if_true, if_false, true_and, and_true, and_self, eq_self, Option.some.injEq, beq_true, beq_false, Bool.not_true, Bool.not_false, decide_true, decide_false, decide_eq_true_eq, Bool.not_eq_true', decide_eq_false_iff_not, Bool.not_not, Bool.not_eq_eq_eq_not, Bool.true_eq_false, Bool.false_eq_true, bne_iff_ne, ne_eq, not_true_eq_false, not_false_eq_true, List.length_map, List.length_set, h_get0, h_getk, h_set0, h_setk, List.length_append, List.append_assoc, Int.reduceToNat, Nat.reduceBEq, beq_self_eq_true, toNat_cast, cast_nonneg, Int.ofNat_lt, Int.ofNat_le, Int.reduceLE, Int.reduceLT, Int.reduceEq, Int.reduceAdd, Int.reduceSub, Int.reduceMul, depth_is, gt_bool, gt_int, gt_str, gt_nilp, gt_lst, gt_agg, gt_tup, gb_int, gb_bool, gb_str, gb_nilp, gb_nilf, gb_nili, gb_lst, gb_agg, gt_sl, gb_get, gbB_some, gbL_some, Bool.or_eq_true, Bool.and_eq_true, Bool.true_and, Bool.and_true, Bool.false_and, Bool.and_false, Bool.true_or, Bool.or_true, Bool.false_or, Bool.or_false, not_and, not_or, hid, ht, hg2, hle]
  · rw [if_neg ho, h2 (by simpa using ho)]; rfl
/-- Nothing is found: both say so. -/
theorem law_no (w h : Int) (nil : Bool) (cs : List Cu) (hl : cs.length ≤ 1048576)
    (hS : Pure T 7 [.agg [.int .i64 w, .int .i64 h, .lst true 3 false (cs.map avU)]] (.tup [zP, .bool false]))
    (hI : ∀ p, WF T 9 [.agg [.int .i64 w, .int .i64 h, .lst p 3 false (cs.map avU)]] [] (fun r A' => EmbOK A' ∧ r = .tup [zP, .bool false])) :
    WF T 3 [.agg [.int .i64 w, .int .i64 h, .lst true 3 nil (cs.map avU)]] [] (fun r A' => r = .bool true) := by
  rw [WS_of t3]
  have hsz := (p6 w h nil 3 (cs.map avU) 1048576 (by omega) (by simp; omega))
  have h0 : (if (1048576 : Int) - ((cs.map avU).length : Nat) < 0 then (-1 : Int) else 1048576 - ((cs.map avU).length : Nat)) = 1048576 - (cs.length : Int) := by rw [List.length_map, if_neg (by omega)]
  rw [h0] at hsz
  have h1 : ((1048576 : Int) - (cs.length : Int) < 0) = False := eq_false (by omega)
  have zsz := fun {d os live S Q fr A} => hsz.call0 (d := d) (os := os) (live := live) (S := S) (Q := Q) (fr := fr) (A := A)
  have zS := fun {d os live S Q fr A} => hS.call0 (d := d) (os := os) (live := live) (S := S) (Q := Q) (fr := fr) (A := A)
  have zT := fun {d os live S Q fr A} => z8 w h true nil cs hl (d := d) (os := os) (live := live) (S := S) (Q := Q) (fr := fr) (A := A)
  have oT := fun {d os live S Q fr A} => o8 w h true nil cs hl (d := d) (os := os) (live := live) (S := S) (Q := Q) (fr := fr) (A := A)
  have hbU := fun A => bo_avU A 2 cs
  have hbU3 := fun A => bo_avU A 3 cs
  have ht : (cs.map avU).take cs.length = cs.map avU := List.take_of_length_le (by simp)
  have zE0 := fun {d os live S Q fr A} => (p10 0 0 0 0 true true true true 0 0 [] [] (.inr rfl) (.inr rfl) (by simp) (by simp)).call0 (d := d) (os := os) (live := live) (S := S) (Q := Q) (fr := fr) (A := A)
  simp only [List.map_nil, and_self, decide_true] at zE0
  have zE1 := fun {d os live S Q fr A} => (p10 w h w h false true false false 3 3 cs cs (.inl rfl) (.inl rfl) hl hl).call0 (d := d) (os := os) (live := live) (S := S) (Q := Q) (fr := fr) (A := A)
  simp only [and_self, decide_true] at zE1
  have zM := fun {d os live S Q fr A} => i11 (d := d) (os := os) (live := live) (S := S) (Q := Q) (fr := fr) (A := A) w h 3 cs hl
  have zH := fun {d os live S Q fr A} => (p12 0 0 true true 0 0 1 (by omega) (by omega) (.inr rfl)).call0 (d := d) (os := os) (live := live) (S := S) (Q := Q) (fr := fr) (A := A)
  have hm0 : (mks 1 0).map avU = [] := rfl
  have hi0 : (1 : Int) + 3 * ((0 : Nat) : Int) = 1 := rfl
  rw [hm0, hi0] at zH
  have hmp : ((1 : Int) + 3 * (cs.length : Int) < 0) = False := eq_false (by omega)
  have hz9 : Pure T 9 [.agg [.int .i64 w, .int .i64 h, .lst true 3 false (cs.map avU)]] (.tup [zP, .bool false]) := (hI true).mono fun r A' hr => by rw [hr.2]; rfl
  have z9 := fun {d os live S Q fr A} => hz9.call0 (d := d) (os := os) (live := live) (S := S) (Q := Q) (fr := fr) (A := A)
  simp only [zP] at z9
  simp only [m3r0, m3r1, m3r2, m3r3, m3r4, m3r5, m3r6, m3r7, m3r8, m3r9, m3r10, m3r11, m3r12, m3r13, m3r14, m3r15, m3r16, m3r17, m3r18, m3r19, m3r20, m3r21, m3r22, m3r23, m3r24, m3r25, m3r26, m3r27, m3r28, m3r29, m3r30, m3r31, m3r32, m3r33, m3, params, WS_skip, WS_exit, WS_ret, WS_seq, WS_block, WS_reg, WS_cond_t, WS_cond_f, WN_seq, WN_blk, WN_inv, WN_nil, WE_seq, WE_inv, WE_blk, WR_seq, WR_blk, WR_inv, WR_nil, RV_some, WU_some, WV_some, WCf_fn, putd_some, putd_none, WP_nil, WP_guard_t, WP_guard_f, WP_call, WP_mv, WP_pick, pickV_bool, WP_load, loadV_rp, loadV_ptr, loadE_some, loadFrom_1, loadFrom_all, loadB_some, WP_nilchk, nilOk, WP_faddr, faddrV_ptr, faddrV_rp, WP_bin, b_add, b_sub, b_mul, b_quo, b_rem, b_eql, b_neq, b_lss, b_leq, b_gtr, b_geq, b_seql, b_sneq, b_beql, b_bneq, WP_un, u_not, u_neg, WP_len, lenV_lst, lenV_sl, WP_iaddr, iaddr_lst', iaG_some, iaddr_sl, WP_rbox, WP_box, WP_alloc, WP_store, storeV_ptr, storeG_some, storeO_some, storeB_get, storeE_agg, storeE_cell, storeE_scal, sc_int, st_int, ce_int, sc_bool, st_bool, ce_bool, sc_str, st_str, ce_str, sc_nilp, st_nilp, ce_nilp, sc_ptr, st_ptr, ce_ptr, sc_rp, st_rp, ce_rp, sc_sl, st_sl, ce_sl, sc_lst, st_lst, ce_lst, sc_fn, st_fn, ce_fn, sc_nilf, st_nilf, ce_nilf, sc_iface, st_iface, ce_iface, sc_nili, st_nili, ce_nili, st_agg, ce_agg, WP_build, WP_bsl, WP_rbsl, WP_fld, WP_mm, WP_mkfn, WP_ext, extV_tup, WP_slc, slc_lst_hi, slc_lst_lo, slc_lst, slc_sl_hi, slc_sl_lo, WP_cvt, WP_slcm, bound, b_nil, b_nilS, WP_clear, WP_slcx, permAll_nil, permAll_int, WP_append, WP_appendA, awayFrom, List.all_cons, List.all_nil, appV_lst, WP_mksl, Int.cast_ofNat_Int, List.reduceReplicate, WP_mkif, evM, fillA, setEls, Opd.ev, Fr.get, prune, Option.map, isB, tB, nB, isG, gT, gF, evRes, mapO, one, List.map_cons, List.map_nil, List.cons_append, List.nil_append, List.append_nil, List.length_cons, List.length_nil, List.drop_zero, List.drop_succ_cons, List.take_succ_cons, List.take_zero, List.set_cons_zero, List.set_cons_succ, List.getElem?_cons_zero, List.getElem?_cons_succ, Nat.zero_add, Nat.add_zero, Nat.reduceAdd, Nat.reduceLeDiff, Nat.reduceEqDiff, Nat.reduceMul, Nat.reduceSub, Nat.reduceLT, Nat.le_refl, Nat.zero_le, Nat.succ_ne_self, reduceCtorEq, ↓reduceIte, if_true, if_false, true_and, and_true, and_self, eq_self, Option.some.injEq, beq_true, beq_false, Bool.not_true, Bool.not_false, decide_true, decide_false, decide_eq_true_eq, Bool.not_eq_true', decide_eq_false_iff_not, Bool.not_not, Bool.not_eq_eq_eq_not, Bool.true_eq_false, Bool.false_eq_true, bne_iff_ne, ne_eq, not_true_eq_false, not_false_eq_true, List.length_map, List.length_set, h_get0, h_getk, h_set0, h_setk, List.length_append, List.append_assoc, Int.reduceToNat, Nat.reduceBEq, beq_self_eq_true, toNat_cast, cast_nonneg, Int.ofNat_lt, Int.ofNat_le, Int.reduceLE, Int.reduceLT, Int.reduceEq, Int.reduceAdd, Int.reduceSub, Int.reduceMul, depth_is, gt_bool, gt_int, gt_str, gt_nilp, gt_lst, gt_agg, gt_tup, gb_int, gb_bool, gb_str, gb_nilp, gb_nilf, gb_nili, gb_lst, gb_agg, gt_sl, gb_get, gbB_some, gbL_some, Bool.or_eq_true, Bool.and_eq_true, Bool.true_and, Bool.and_true, Bool.false_and, Bool.and_false, Bool.true_or, Bool.or_true, Bool.false_or, Bool.or_false, not_and, not_or, WCR_ro, WRm_some, bo_agg, bo_int, bo_bool, bo_lst, zsz, zS, zT, oT, h1, zP]
  refine own_of (args' := [.agg [.int .i64 w, .int .i64 h, .lst false 3 false (cs.map avU)]]) ?_ (hI false) ?_
  · simp only [params, WS_skip, WS_exit, WS_ret, WS_seq, WS_block, WS_reg, WS_cond_t, WS_cond_f, WN_seq, WN_blk, WN_inv, WN_nil, WE_seq, WE_inv, WE_blk, WR_seq, WR_blk, WR_inv, WR_nil, RV_some, WU_some, WV_some, WCf_fn, putd_some, putd_none, WP_nil, WP_guard_t, WP_guard_f, WP_call, WP_mv, WP_pick, pickV_bool, WP_load, loadV_rp, loadV_ptr, loadE_some, loadFrom_1, loadFrom_all, loadB_some, WP_nilchk, nilOk, WP_faddr, faddrV_ptr, faddrV_rp, WP_bin, b_add, b_sub, b_mul, b_quo, b_rem, b_eql, b_neq, b_lss, b_leq, b_gtr, b_geq, b_seql, b_sneq, b_beql, b_bneq, WP_un, u_not, u_neg, WP_len, lenV_lst, lenV_sl, WP_iaddr, iaddr_lst', iaG_some, iaddr_sl, WP_rbox, WP_box, WP_alloc, WP_store, storeV_ptr, storeG_some, storeO_some, storeB_get, storeE_agg, storeE_cell, storeE_scal, sc_int, st_int, ce_int, sc_bool, st_bool, ce_bool, sc_str, st_str, ce_str, sc_nilp, st_nilp, ce_nilp, sc_ptr, st_ptr, ce_ptr, sc_rp, st_rp, ce_rp, sc_sl, st_sl, ce_sl, sc_lst, st_lst, ce_lst, sc_fn, st_fn, ce_fn, sc_nilf, st_nilf, ce_nilf, sc_iface, st_iface, ce_iface, sc_nili, st_nili, ce_nili, st_agg, ce_agg, WP_build, WP_bsl, WP_rbsl, WP_fld, WP_mm, WP_mkfn, WP_ext, extV_tup, WP_slc, slc_lst_hi, slc_lst_lo, slc_lst, slc_sl_hi, slc_sl_lo, WP_cvt, WP_slcm, bound, b_nil, b_nilS, WP_clear, WP_slcx, permAll_nil, permAll_int, WP_append, WP_appendA, awayFrom, List.all_cons, List.all_nil, appV_lst, WP_mksl, Int.cast_ofNat_Int, List.reduceReplicate, WP_mkif, evM, fillA, setEls, Opd.ev, Fr.get, prune, Option.map, isB, tB, nB, isG, gT, gF, evRes, mapO, one, List.map_cons, List.map_nil, List.cons_append, List.nil_append, List.append_nil, List.length_cons, List.length_nil, List.drop_zero, List.drop_succ_cons, List.take_succ_cons, List.take_zero, List.set_cons_zero, List.set_cons_succ, List.getElem?_cons_zero, List.getElem?_cons_succ, Nat.zero_add, Nat.add_zero, Nat.reduceAdd, Nat.reduceLeDiff, Nat.reduceEqDiff, Nat.reduceMul, Nat.reduceSub, Nat.reduceLT, Nat.le_refl, Nat.zero_le, Nat.succ_ne_self, reduceCtorEq, ↓reduceIte, if_true, if_false, true_and, and_true, and_self, eq_self, Option.some.injEq, beq_true, beq_false, Bool.not_true, Bool.not_false, decide_true, decide_false, decide_eq_true_eq, Bool.not_eq_true', decide_eq_false_iff_not, Bool.not_not, Bool.not_eq_eq_eq_not, Bool.true_eq_false, Bool.false_eq_true, bne_iff_ne, ne_eq, not_true_eq_false, not_false_eq_true, List.length_map, List.length_set, h_get0, h_getk, h_set0, h_setk, List.length_append, List.append_assoc, Int.reduceToNat, Nat.reduceBEq, beq_self_eq_true, toNat_cast, cast_nonneg, Int.ofNat_lt, Int.ofNat_le, Int.reduceLE, Int.reduceLT, Int.reduceEq, Int.reduceAdd, Int.reduceSub, Int.reduceMul, depth_is, gt_bool, gt_int, gt_str, gt_nilp, gt_lst, gt_agg, gt_tup, gb_int, gb_bool, gb_str, gb_nilp, gb_nilf, gb_nili, gb_lst, gb_agg, gt_sl, gb_get, gbB_some, gbL_some, Bool.or_eq_true, Bool.and_eq_true, Bool.true_and, Bool.and_true, Bool.false_and, Bool.and_false, Bool.true_or, Bool.or_true, Bool.false_or, Bool.or_false, not_and, not_or, bo_agg, bo_int, bo_get, boB_some, boL_some, ht, hbU, hbU3]
  rintro r A' ⟨hE, rfl⟩
  obtain ⟨A2, hA2⟩ := hE.all _
  refine ⟨.tup [zP, .bool false], A2, rfl, hA2, ?_⟩
  clear hA2 hE
  simp only [params, WS_skip, WS_exit, WS_ret, WS_seq, WS_block, WS_reg, WS_cond_t, WS_cond_f, WN_seq, WN_blk, WN_inv, WN_nil, WE_seq, WE_inv, WE_blk, WR_seq, WR_blk, WR_inv, WR_nil, RV_some, WU_some, WV_some, WCf_fn, putd_some, putd_none, WP_nil, WP_guard_t, WP_guard_f, WP_call, WP_mv, WP_pick, pickV_bool, WP_load, loadV_rp, loadV_ptr, loadE_some, loadFrom_1, loadFrom_all, loadB_some, WP_nilchk, nilOk, WP_faddr, faddrV_ptr, faddrV_rp, WP_bin, b_add, b_sub, b_mul, b_quo, b_rem, b_eql, b_neq, b_lss, b_leq, b_gtr, b_geq, b_seql, b_sneq, b_beql, b_bneq, WP_un, u_not, u_neg, WP_len, lenV_lst, lenV_sl, WP_iaddr, iaddr_lst', iaG_some, iaddr_sl, WP_rbox, WP_box, WP_alloc, WP_store, storeV_ptr, storeG_some, storeO_some, storeB_get, storeE_agg, storeE_cell, storeE_scal, sc_int, st_int, ce_int, sc_bool, st_bool, ce_bool, sc_str, st_str, ce_str, sc_nilp, st_nilp, ce_nilp, sc_ptr, st_ptr, ce_ptr, sc_rp, st_rp, ce_rp, sc_sl, st_sl, ce_sl, sc_lst, st_lst, ce_lst, sc_fn, st_fn, ce_fn, sc_nilf, st_nilf, ce_nilf, sc_iface, st_iface, ce_iface, sc_nili, st_nili, ce_nili, st_agg, ce_agg, WP_build, WP_bsl, WP_rbsl, WP_fld, WP_mm, WP_mkfn, WP_ext, extV_tup, WP_slc, slc_lst_hi, slc_lst_lo, slc_lst, slc_sl_hi, slc_sl_lo, WP_cvt, WP_slcm, bound, b_nil, b_nilS, WP_clear, WP_slcx, permAll_nil, permAll_int, WP_append, WP_appendA, awayFrom, List.all_cons, List.all_nil, appV_lst, WP_mksl, Int.cast_ofNat_Int, List.reduceReplicate, WP_mkif, evM, fillA, setEls, Opd.ev, Fr.get, prune, Option.map, isB, tB, nB, isG, gT, gF, evRes, mapO, one, List.map_cons, List.map_nil, List.cons_append, List.nil_append, List.append_nil, List.length_cons, List.length_nil, List.drop_zero, List.drop_succ_cons, List.take_succ_cons, List.take_zero, List.set_cons_zero, List.set_cons_succ, List.getElem?_cons_zero, List.getElem?_cons_succ, Nat.zero_add, Nat.add_zero, Nat.reduceAdd, Nat.reduceLeDiff, Nat.reduceEqDiff, Nat.reduceMul, Nat.reduceSub, Nat.reduceLT, Nat.le_refl, Nat.zero_le, Nat.succ_ne_self, reduceCtorEq, ↓reduceIte, if_true, if_false, true_and, and_true, and_self, eq_self, Option.some.injEq, beq_true, beq_false, Bool.not_true, Bool.not_false, decide_true, decide_false, decide_eq_true_eq, Bool.not_eq_true', decide_eq_false_iff_not, Bool.not_not, Bool.not_eq_eq_eq_not, Bool.true_eq_false, Bool.false_eq_true, bne_iff_ne, ne_eq, not_true_eq_false, not_false_eq_true, List.length_map, List.length_set, h_get0, h_getk, h_set0, h_setk, List.length_append, List.append_assoc, Int.reduceToNat, Nat.reduceBEq, beq_self_eq_true, toNat_cast, cast_nonneg, Int.ofNat_lt, Int.ofNat_le, Int.reduceLE, Int.reduceLT, Int.reduceEq, Int.reduceAdd, Int.reduceSub, Int.reduceMul, depth_is, gt_bool, gt_int, gt_str, gt_nilp, gt_lst, gt_agg, gt_tup, gb_int, gb_bool, gb_str, gb_nilp, gb_nilf, gb_nili, gb_lst, gb_agg, gt_sl, gb_get, gbB_some, gbL_some, Bool.or_eq_true, Bool.and_eq_true, Bool.true_and, Bool.and_true, Bool.false_and, Bool.and_false, Bool.true_or, Bool.or_true, Bool.false_or, Bool.or_false, not_and, not_or, WCR_ro, WRm_some, bo_agg, bo_int, bo_bool, bo_lst, bo_get, boB_some, boL_some, ht, hbU, hbU3, zsz, zS, zT, zE0, zE1, zM, i11z, zH, z9, h1, hmp, zP]
theorem hardF_len (one : List Cu → Bool) : ∀ (f : Nat) (cs : List Cu) (k : Nat), (hardF one f cs k).length ≤ cs.length := by
  intro f
  induction f with
  | zero => intro cs k; exact Nat.le_refl _
  | succ f ih =>
    intro cs k
    simp only [hardF]
    split
    · exact Nat.le_trans (ih _ _) (List.length_eraseIdx_le _ _)
    · exact ih _ _
section
variable {d : Option Nat} {os : List MOp} {live : List Nat} {S : List KF} {Q : FQ} {fr : Fr} {A : Heap}
theorem i11g (w h : Int) (id N : Nat) (cs ex : List Cu) (hl : cs.length ≤ 1048576) (hN : N = (cs ++ ex).length) (hA : A[id]? = some ⟨58, 3, (cs ++ ex).map avU⟩) : WCR T .inl 11 [.agg [.int .i64 w, .int .i64 h, .sl id 3 N 0 cs.length], .int .i64 1] d os live S Q fr A ↔
    WP T os live S Q (putd d (.int .i64 (1 + 3 * cs.length)) fr) (A.set id ⟨58, 3, (mks 1 cs.length ++ ex).map avU⟩) := by
  subst hN
  rw [WCR_inl]
  exact (r11 A w h id cs ex 1 (by omega) hl hA).iff
end
/-- One solution: both take the same clues out. -/
theorem law_yes (W Hh : Nat) (nil : Bool) (cs : List Cu) (l : List (List Sq)) (D : Dat W Hh l) (hg : goodZ W Hh cs = true) (ho : oneP W Hh l cs = true) :
    WF T 3 [.agg [.int .i64 (W : Int), .int .i64 (Hh : Int), .lst true 3 nil (cs.map avU)]] [] (fun r A' => r = .bool true) := by
  rw [WS_of t3]
  have hl : cs.length ≤ 1048576 := by have := (goodZ_all hg).2.1; omega
  have hsz := (p6 W Hh nil 3 (cs.map avU) 1048576 (by omega) (by simp; omega))
  have h0 : (if (1048576 : Int) - ((cs.map avU).length : Nat) < 0 then (-1 : Int) else 1048576 - ((cs.map avU).length : Nat)) = 1048576 - (cs.length : Int) := by rw [List.length_map, if_neg (by omega)]
  rw [h0] at hsz
  have h1 : ((1048576 : Int) - (cs.length : Int) < 0) = False := eq_false (by omega)
  obtain ⟨nil', hS⟩ := p7 W Hh l D true false cs hg
  rw [if_pos ho] at hS
  have hI := w9 W Hh l D false cs hg
  have hz9 := p9 W Hh l D true cs hg
  rw [if_pos ho] at hz9
  have hcl : (hardF (oneP W Hh l) cs.length cs 0).length ≤ 1048576 := Nat.le_trans (hardF_len _ _ _ _) hl
  generalize hardF (oneP W Hh l) cs.length cs 0 = hc at hS hI hz9 hcl
  have zsz := fun {d os live S Q fr A} => hsz.call0 (d := d) (os := os) (live := live) (S := S) (Q := Q) (fr := fr) (A := A)
  have zS := fun {d os live S Q fr A} => hS.call0 (d := d) (os := os) (live := live) (S := S) (Q := Q) (fr := fr) (A := A)
  have zT := fun {d os live S Q fr A} => z8 W Hh true nil cs hl (d := d) (os := os) (live := live) (S := S) (Q := Q) (fr := fr) (A := A)
  have oT := fun {d os live S Q fr A} => o8 W Hh true nil cs hl (d := d) (os := os) (live := live) (S := S) (Q := Q) (fr := fr) (A := A)
  have z9 := fun {d os live S Q fr A} => hz9.call0 (d := d) (os := os) (live := live) (S := S) (Q := Q) (fr := fr) (A := A)
  have hbU := fun A => bo_avU A 2 cs
  have hbU3 := fun A => bo_avU A 3 cs
  have hbC := fun A => bo_avU A 2 hc
  have hbC3 := fun A => bo_avU A 3 hc
  have hbM := fun A => bo_avU A 2 (mks 1 hc.length)
  have ht : (cs.map avU).take cs.length = cs.map avU := List.take_of_length_le (by simp)
  have zE0 := fun {d os live S Q fr A} => (p10 W Hh W Hh false true false nil' 3 3 hc hc (.inl rfl) (.inl rfl) hcl hcl).call0 (d := d) (os := os) (live := live) (S := S) (Q := Q) (fr := fr) (A := A)
  simp only [and_self, decide_true] at zE0
  have zE3 := fun {d os live S Q fr A} => (p10 W Hh W Hh true true false nil' 3 3 hc hc (.inl rfl) (.inl rfl) hcl hcl).call0 (d := d) (os := os) (live := live) (S := S) (Q := Q) (fr := fr) (A := A)
  simp only [and_self, decide_true] at zE3
  have zE1 := fun {d os live S Q fr A} => (p10 W Hh W Hh false true false false 3 3 cs cs (.inl rfl) (.inl rfl) hl hl).call0 (d := d) (os := os) (live := live) (S := S) (Q := Q) (fr := fr) (A := A)
  simp only [and_self, decide_true] at zE1
  have zM := fun {d os live S Q fr A} => i11 (d := d) (os := os) (live := live) (S := S) (Q := Q) (fr := fr) (A := A) W Hh 3 cs hl
  have zH := fun {d os live S Q fr A} => (p12 W Hh false false 3 hc.length 1 (by omega) hcl (.inl rfl)).call0 (d := d) (os := os) (live := live) (S := S) (Q := Q) (fr := fr) (A := A)
  have hmp : ((1 : Int) + 3 * (cs.length : Int) < 0) = False := eq_false (by omega)
  have hmc : ((1 : Int) + 3 * (hc.length : Int) < 0) = False := eq_false (by omega)
  simp only [m3r0, m3r1, m3r2, m3r3, m3r4, m3r5, m3r6, m3r7, m3r8, m3r9, m3r10, m3r11, m3r12, m3r13, m3r14, m3r15, m3r16, m3r17, m3r18, m3r19, m3r20, m3r21, m3r22, m3r23, m3r24, m3r25, m3r26, m3r27, m3r28, m3r29, m3r30, m3r31, m3r32, m3r33, m3, params, WS_skip, WS_exit, WS_ret, WS_seq, WS_block, WS_reg, WS_cond_t, WS_cond_f, WN_seq, WN_blk, WN_inv, WN_nil, WE_seq, WE_inv, WE_blk, WR_seq, WR_blk, WR_inv, WR_nil, RV_some, WU_some, WV_some, WCf_fn, putd_some, putd_none, WP_nil, WP_guard_t, WP_guard_f, WP_call, WP_mv, WP_pick, pickV_bool, WP_load, loadV_rp, loadV_ptr, loadE_some, loadFrom_1, loadFrom_all, loadB_some, WP_nilchk, nilOk, WP_faddr, faddrV_ptr, faddrV_rp, WP_bin, b_add, b_sub, b_mul, b_quo, b_rem, b_eql, b_neq, b_lss, b_leq, b_gtr, b_geq, b_seql, b_sneq, b_beql, b_bneq, WP_un, u_not, u_neg, WP_len, lenV_lst, lenV_sl, WP_iaddr, iaddr_lst', iaG_some, iaddr_sl, WP_rbox, WP_box, WP_alloc, WP_store, storeV_ptr, storeG_some, storeO_some, storeB_get, storeE_agg, storeE_cell, storeE_scal, sc_int, st_int, ce_int, sc_bool, st_bool, ce_bool, sc_str, st_str, ce_str, sc_nilp, st_nilp, ce_nilp, sc_ptr, st_ptr, ce_ptr, sc_rp, st_rp, ce_rp, sc_sl, st_sl, ce_sl, sc_lst, st_lst, ce_lst, sc_fn, st_fn, ce_fn, sc_nilf, st_nilf, ce_nilf, sc_iface, st_iface, ce_iface, sc_nili, st_nili, ce_nili, st_agg, ce_agg, WP_build, WP_bsl, WP_rbsl, WP_fld, WP_mm, WP_mkfn, WP_ext, extV_tup, WP_slc, slc_lst_hi, slc_lst_lo, slc_lst, slc_sl_hi, slc_sl_lo, WP_cvt, WP_slcm, bound, b_nil, b_nilS, WP_clear, WP_slcx, permAll_nil, permAll_int, WP_append, WP_appendA, awayFrom, List.all_cons, List.all_nil, appV_lst, WP_mksl, Int.cast_ofNat_Int, List.reduceReplicate, WP_mkif, evM, fillA, setEls, Opd.ev, Fr.get, prune, Option.map, isB, tB, nB, isG, gT, gF, evRes, mapO, one, List.map_cons, List.map_nil, List.cons_append, List.nil_append, List.append_nil, List.length_cons, List.length_nil, List.drop_zero, List.drop_succ_cons, List.take_succ_cons, List.take_zero, List.set_cons_zero, List.set_cons_succ, List.getElem?_cons_zero, List.getElem?_cons_succ, Nat.zero_add, Nat.add_zero, Nat.reduceAdd, Nat.reduceLeDiff, Nat.reduceEqDiff, Nat.reduceMul, Nat.reduceSub, Nat.reduceLT, Nat.le_refl, Nat.zero_le, Nat.succ_ne_self, reduceCtorEq, ↓reduceIte, if_true, if_false, true_and, and_true, and_self, eq_self, Option.some.injEq, beq_true, beq_false, Bool.not_true, Bool.not_false, decide_true, decide_false, decide_eq_true_eq, Bool.not_eq_true', decide_eq_false_iff_not, Bool.not_not, Bool.not_eq_eq_eq_not, Bool.true_eq_false, Bool.false_eq_true, bne_iff_ne, ne_eq, not_true_eq_false, not_false_eq_true, List.length_map, List.length_set, h_get0, h_getk, h_set0, h_setk, List.length_append, List.append_assoc, Int.reduceToNat, Nat.reduceBEq, beq_self_eq_true, toNat_cast, cast_nonneg, Int.ofNat_lt, Int.ofNat_le, Int.reduceLE, Int.reduceLT, Int.reduceEq, Int.reduceAdd, Int.reduceSub, Int.reduceMul, depth_is, gt_bool, gt_int, gt_str, gt_nilp, gt_lst, gt_agg, gt_tup, gb_int, gb_bool, gb_str, gb_nilp, gb_nilf, gb_nili, gb_lst, gb_agg, gt_sl, gb_get, gbB_some, gbL_some, Bool.or_eq_true, Bool.and_eq_true, Bool.true_and, Bool.and_true, Bool.false_and, Bool.and_false, Bool.true_or, Bool.or_true, Bool.false_or, Bool.or_false, not_and, not_or, WCR_ro, WRm_some, bo_agg, bo_int, bo_bool, bo_lst, zsz, zS, zT, oT, h1]
  refine own_of (args' := [.agg [.int .i64 (W : Int), .int .i64 (Hh : Int), .lst false 3 false (cs.map avU)]]) ?_ hI ?_
  · simp only [params, WS_skip, WS_exit, WS_ret, WS_seq, WS_block, WS_reg, WS_cond_t, WS_cond_f, WN_seq, WN_blk, WN_inv, WN_nil, WE_seq, WE_inv, WE_blk, WR_seq, WR_blk, WR_inv, WR_nil, RV_some, WU_some, WV_some, WCf_fn, putd_some, putd_none, WP_nil, WP_guard_t, WP_guard_f, WP_call, WP_mv, WP_pick, pickV_bool, WP_load, loadV_rp, loadV_ptr, loadE_some, loadFrom_1, loadFrom_all, loadB_some, WP_nilchk, nilOk, WP_faddr, faddrV_ptr, faddrV_rp, WP_bin, b_add, b_sub, b_mul, b_quo, b_rem, b_eql, b_neq, b_lss, b_leq, b_gtr, b_geq, b_seql, b_sneq, b_beql, b_bneq, WP_un, u_not, u_neg, WP_len, lenV_lst, lenV_sl, WP_iaddr, iaddr_lst', iaG_some, iaddr_sl, WP_rbox, WP_box, WP_alloc, WP_store, storeV_ptr, storeG_some, storeO_some, storeB_get, storeE_agg, storeE_cell, storeE_scal, sc_int, st_int, ce_int, sc_bool, st_bool, ce_bool, sc_str, st_str, ce_str, sc_nilp, st_nilp, ce_nilp, sc_ptr, st_ptr, ce_ptr, sc_rp, st_rp, ce_rp, sc_sl, st_sl, ce_sl, sc_lst, st_lst, ce_lst, sc_fn, st_fn, ce_fn, sc_nilf, st_nilf, ce_nilf, sc_iface, st_iface, ce_iface, sc_nili, st_nili, ce_nili, st_agg, ce_agg, WP_build, WP_bsl, WP_rbsl, WP_fld, WP_mm, WP_mkfn, WP_ext, extV_tup, WP_slc, slc_lst_hi, slc_lst_lo, slc_lst, slc_sl_hi, slc_sl_lo, WP_cvt, WP_slcm, bound, b_nil, b_nilS, WP_clear, WP_slcx, permAll_nil, permAll_int, WP_append, WP_appendA, awayFrom, List.all_cons, List.all_nil, appV_lst, WP_mksl, Int.cast_ofNat_Int, List.reduceReplicate, WP_mkif, evM, fillA, setEls, Opd.ev, Fr.get, prune, Option.map, isB, tB, nB, isG, gT, gF, evRes, mapO, one, List.map_cons, List.map_nil, List.cons_append, List.nil_append, List.append_nil, List.length_cons, List.length_nil, List.drop_zero, List.drop_succ_cons, List.take_succ_cons, List.take_zero, List.set_cons_zero, List.set_cons_succ, List.getElem?_cons_zero, List.getElem?_cons_succ, Nat.zero_add, Nat.add_zero, Nat.reduceAdd, Nat.reduceLeDiff, Nat.reduceEqDiff, Nat.reduceMul, Nat.reduceSub, Nat.reduceLT, Nat.le_refl, Nat.zero_le, Nat.succ_ne_self, reduceCtorEq, ↓reduceIte, if_true, if_false, true_and, and_true, and_self, eq_self, Option.some.injEq, beq_true, beq_false, Bool.not_true, Bool.not_false, decide_true, decide_false, decide_eq_true_eq, Bool.not_eq_true', decide_eq_false_iff_not, Bool.not_not, Bool.not_eq_eq_eq_not, Bool.true_eq_false, Bool.false_eq_true, bne_iff_ne, ne_eq, not_true_eq_false, not_false_eq_true, List.length_map, List.length_set, h_get0, h_getk, h_set0, h_setk, List.length_append, List.append_assoc, Int.reduceToNat, Nat.reduceBEq, beq_self_eq_true, toNat_cast, cast_nonneg, Int.ofNat_lt, Int.ofNat_le, Int.reduceLE, Int.reduceLT, Int.reduceEq, Int.reduceAdd, Int.reduceSub, Int.reduceMul, depth_is, gt_bool, gt_int, gt_str, gt_nilp, gt_lst, gt_agg, gt_tup, gb_int, gb_bool, gb_str, gb_nilp, gb_nilf, gb_nili, gb_lst, gb_agg, gt_sl, gb_get, gbB_some, gbL_some, Bool.or_eq_true, Bool.and_eq_true, Bool.true_and, Bool.and_true, Bool.false_and, Bool.and_false, Bool.true_or, Bool.or_true, Bool.false_or, Bool.or_false, not_and, not_or, bo_agg, bo_int, bo_get, boB_some, boL_some, ht, hbU, hbU3]
  rintro r A' ⟨hE, _, hr⟩
  obtain ⟨v, rfl, id, ex, rfl, hid, _⟩ := hr ho
  obtain ⟨A2, hA2⟩ := hE.all _
  obtain ⟨b2, hb2, hi2⟩ := mapO_get hA2 hid
  have hb2' : b2 = ⟨58, 3, (hc ++ ex).map avU⟩ := by
    simp only [embedB, depth_is, em_avU] at hb2
    exact (Option.some.inj hb2).symm
  subst hb2'
  refine ⟨_, A2, rfl, hA2, ?_⟩
  clear hA2 hE hr hI hb2
  have hidl := lt_of_get hi2
  have q1 : ∀ B, (A2 ++ B)[id]? = some ⟨58, 3, (hc ++ ex).map avU⟩ := fun B => h_get_of hi2
  have q2 : ∀ B b, (A2 ++ B).set id b = A2.set id b ++ B := fun B b => h_set_lt hidl
  have q3 : ∀ B b, (A2.set id b ++ B)[id]? = some b := fun B b => h_get_of (h_set_get hidl)
  have q4 : ∀ B b, (A2.set id b ++ B)[A2.length]? = B[0]? := fun B b => by
    have := h_get0 (A2.set id b) B
    rwa [List.length_set] at this
  have q5 : ∀ B b k, (A2.set id b ++ B)[A2.length + k]? = B[k]? := fun B b k => by
    have := h_getk (A2.set id b) B k
    rwa [List.length_set] at this
  have q6 : ∀ B b k c, (A2.set id b ++ B).set (A2.length + k) c = A2.set id b ++ B.set k c := fun B b k c => by
    have := h_setk (A2.set id b) B k c
    rwa [List.length_set] at this
  have t1 : ((hc ++ ex).map avU).take hc.length = hc.map avU := by rw [List.map_append, List.take_append_of_le_length (by simp), List.take_of_length_le (by simp)]
  have t2 : ((mks 1 hc.length ++ ex).map avU).take hc.length = (mks 1 hc.length).map avU := by rw [List.map_append, List.take_append_of_le_length (by simp [mks_len]), List.take_of_length_le (by simp [mks_len])]
  have l1 : hc.length ≤ (hc ++ ex).length := by simp
  have l2 : (mks 1 hc.length ++ ex).length = (hc ++ ex).length := by simp [mks_len]
  have zG := fun {d os live S Q fr A} => i11g (d := d) (os := os) (live := live) (S := S) (Q := Q) (fr := fr) (A := A) W Hh (id + 5) _ hc ex hcl rfl
  generalize (hc ++ ex) = E at q1 t1 l1 l2 zG ⊢
  generalize (mks 1 hc.length ++ ex) = M at t2 l2 zG ⊢
  simp only [params, WS_skip, WS_exit, WS_ret, WS_seq, WS_block, WS_reg, WS_cond_t, WS_cond_f, WN_seq, WN_blk, WN_inv, WN_nil, WE_seq, WE_inv, WE_blk, WR_seq, WR_blk, WR_inv, WR_nil, RV_some, WU_some, WV_some, WCf_fn, putd_some, putd_none, WP_nil, WP_guard_t, WP_guard_f, WP_call, WP_mv, WP_pick, pickV_bool, WP_load, loadV_rp, loadV_ptr, loadE_some, loadFrom_1, loadFrom_all, loadB_some, WP_nilchk, nilOk, WP_faddr, faddrV_ptr, faddrV_rp, WP_bin, b_add, b_sub, b_mul, b_quo, b_rem, b_eql, b_neq, b_lss, b_leq, b_gtr, b_geq, b_seql, b_sneq, b_beql, b_bneq, WP_un, u_not, u_neg, WP_len, lenV_lst, lenV_sl, WP_iaddr, iaddr_lst', iaG_some, iaddr_sl, WP_rbox, WP_box, WP_alloc, WP_store, storeV_ptr, storeG_some, storeO_some, storeB_get, storeE_agg, storeE_cell, storeE_scal, sc_int, st_int, ce_int, sc_bool, st_bool, ce_bool, sc_str, st_str, ce_str, sc_nilp, st_nilp, ce_nilp, sc_ptr, st_ptr, ce_ptr, sc_rp, st_rp, ce_rp, sc_sl, st_sl, ce_sl, sc_lst, st_lst, ce_lst, sc_fn, st_fn, ce_fn, sc_nilf, st_nilf, ce_nilf, sc_iface, st_iface, ce_iface, sc_nili, st_nili, ce_nili, st_agg, ce_agg, WP_build, WP_bsl, WP_rbsl, WP_fld, WP_mm, WP_mkfn, WP_ext, extV_tup, WP_slc, slc_lst_hi, slc_lst_lo, slc_lst, slc_sl_hi, slc_sl_lo, WP_cvt, WP_slcm, bound, b_nil, b_nilS, WP_clear, WP_slcx, permAll_nil, permAll_int, WP_append, WP_appendA, awayFrom, List.all_cons, List.all_nil, appV_lst, WP_mksl, Int.cast_ofNat_Int, List.reduceReplicate, WP_mkif, evM, fillA, setEls, Opd.ev, Fr.get, prune, Option.map, isB, tB, nB, isG, gT, gF, evRes, mapO, one, List.map_cons, List.map_nil, List.cons_append, List.nil_append, List.append_nil, List.length_cons, List.length_nil, List.drop_zero, List.drop_succ_cons, List.take_succ_cons, List.take_zero, List.set_cons_zero, List.set_cons_succ, List.getElem?_cons_zero, List.getElem?_cons_succ, Nat.zero_add, Nat.add_zero, Nat.reduceAdd, Nat.reduceLeDiff, Nat.reduceEqDiff, Nat.reduceMul, Nat.reduceSub, Nat.reduceLT, Nat.le_refl, Nat.zero_le, Nat.succ_ne_self, reduceCtorEq, ↓reduceIte, if_true, if_false, true_and, and_true, and_self, eq_self, Option.some.injEq, beq_true, beq_false, Bool.not_true, Bool.not_false, decide_true, decide_false, decide_eq_true_eq, Bool.not_eq_true', decide_eq_false_iff_not, Bool.not_not, Bool.not_eq_eq_eq_not, Bool.true_eq_false, Bool.false_eq_true, bne_iff_ne, ne_eq, not_true_eq_false, not_false_eq_true, List.length_map, List.length_set, h_get0, h_getk, h_set0, h_setk, List.length_append, List.append_assoc, Int.reduceToNat, Nat.reduceBEq, beq_self_eq_true, toNat_cast, cast_nonneg, Int.ofNat_lt, Int.ofNat_le, Int.reduceLE, Int.reduceLT, Int.reduceEq, Int.reduceAdd, Int.reduceSub, Int.reduceMul, depth_is, gt_bool, gt_int, gt_str, gt_nilp, gt_lst, gt_agg, gt_tup, gb_int, gb_bool, gb_str, gb_nilp, gb_nilf, gb_nili, gb_lst, gb_agg, gt_sl, gb_get, gbB_some, gbL_some, Bool.or_eq_true, Bool.and_eq_true, Bool.true_and, Bool.and_true, Bool.false_and, Bool.and_false, Bool.true_or, Bool.or_true, Bool.false_or, Bool.or_false, not_and, not_or, WCR_ro, WRm_some, bo_agg, bo_int, bo_bool, bo_lst, bo_get, boB_some, boL_some, ht, hbU, hbU3, hbC, hbC3, hbM, zsz, zS, zT, zE0, zE1, zE3, zM, zG, zH, z9, h1, hmp, hmc, q1, q2, q3, q4, q5, q6, t1, t2, l1, l2]
end Go.Ev.Z
namespace Go.Ev.Z
open Go Go.Ev
theorem law_big (w h : Int) (nil : Bool) (cs : List Cu) (hl : cs.length ≤ maxLen) (hb : ¬ cs.length ≤ 1048576) :
    WF T 3 [.agg [.int .i64 w, .int .i64 h, .lst true 3 nil (cs.map avU)]] [] (fun r A' => r = .bool true) := by
  rw [WS_of t3]
  have hl' : cs.length ≤ 9223372036854775807 := hl
  have hsz := (p6 w h nil 3 (cs.map avU) 1048576 (by omega) (by simp; omega))
  have h0 : (if (1048576 : Int) - ((cs.map avU).length : Nat) < 0 then (-1 : Int) else 1048576 - ((cs.map avU).length : Nat)) = -1 := by rw [List.length_map, if_pos (by omega)]
  rw [h0] at hsz
  have zsz := fun {d os live S Q fr A} => hsz.call0 (d := d) (os := os) (live := live) (S := S) (Q := Q) (fr := fr) (A := A)
  simp only [m3r0, m3r1, m3r2, m3r3, m3r4, m3r5, m3r6, m3r7, m3r8, m3r9, m3r10, m3r11, m3r12, m3r13, m3r14, m3r15, m3r16, m3r17, m3r18, m3r19, m3r20, m3r21, m3r22, m3r23, m3r24, m3r25, m3r26, m3r27, m3r28, m3r29, m3r30, m3r31, m3r32, m3r33, m3, params, WS_skip, WS_exit, WS_ret, WS_seq, WS_block, WS_reg, WS_cond_t, WS_cond_f, WN_seq, WN_blk, WN_inv, WN_nil, WE_seq, WE_inv, WE_blk, WR_seq, WR_blk, WR_inv, WR_nil, RV_some, WU_some, WV_some, WCf_fn, putd_some, putd_none, WP_nil, WP_guard_t, WP_guard_f, WP_call, WP_mv, WP_pick, pickV_bool, WP_load, loadV_rp, loadV_ptr, loadE_some, loadFrom_1, loadFrom_all, loadB_some, WP_nilchk, nilOk, WP_faddr, faddrV_ptr, faddrV_rp, WP_bin, b_add, b_sub, b_mul, b_quo, b_rem, b_eql, b_neq, b_lss, b_leq, b_gtr, b_geq, b_seql, b_sneq, b_beql, b_bneq, WP_un, u_not, u_neg, WP_len, lenV_lst, lenV_sl, WP_iaddr, iaddr_lst', iaG_some, iaddr_sl, WP_rbox, WP_box, WP_alloc, WP_store, storeV_ptr, storeG_some, storeO_some, storeB_get, storeE_agg, storeE_cell, storeE_scal, sc_int, st_int, ce_int, sc_bool, st_bool, ce_bool, sc_str, st_str, ce_str, sc_nilp, st_nilp, ce_nilp, sc_ptr, st_ptr, ce_ptr, sc_rp, st_rp, ce_rp, sc_sl, st_sl, ce_sl, sc_lst, st_lst, ce_lst, sc_fn, st_fn, ce_fn, sc_nilf, st_nilf, ce_nilf, sc_iface, st_iface, ce_iface, sc_nili, st_nili, ce_nili, st_agg, ce_agg, WP_build, WP_bsl, WP_rbsl, WP_fld, WP_mm, WP_mkfn, WP_ext, extV_tup, WP_slc, slc_lst_hi, slc_lst_lo, slc_lst, slc_sl_hi, slc_sl_lo, WP_cvt, WP_slcm, bound, b_nil, b_nilS, WP_clear, WP_slcx, permAll_nil, permAll_int, WP_append, WP_appendA, awayFrom, List.all_cons, List.all_nil, appV_lst, WP_mksl, Int.cast_ofNat_Int, List.reduceReplicate, WP_mkif, evM, fillA, setEls, Opd.ev, Fr.get, prune, Option.map, isB, tB, nB, isG, gT, gF, evRes, mapO, one, List.map_cons, List.map_nil, List.cons_append, List.nil_append, List.append_nil, List.length_cons, List.length_nil, List.drop_zero, List.drop_succ_cons, List.take_succ_cons, List.take_zero, List.set_cons_zero, List.set_cons_succ, List.getElem?_cons_zero, List.getElem?_cons_succ, Nat.zero_add, Nat.add_zero, Nat.reduceAdd, Nat.reduceLeDiff, Nat.reduceEqDiff, Nat.reduceMul, Nat.reduceSub, Nat.reduceLT, Nat.le_refl, Nat.zero_le, Nat.succ_ne_self, reduceCtorEq, ↓reduceIte, if_true, if_false, true_and, and_true, and_self, eq_self, Option.some.injEq, beq_true, beq_false, Bool.not_true, Bool.not_false, decide_true, decide_false, decide_eq_true_eq, Bool.not_eq_true', decide_eq_false_iff_not, Bool.not_not, Bool.not_eq_eq_eq_not, Bool.true_eq_false, Bool.false_eq_true, bne_iff_ne, ne_eq, not_true_eq_false, not_false_eq_true, List.length_map, List.length_set, h_get0, h_getk, h_set0, h_setk, List.length_append, List.append_assoc, Int.reduceToNat, Nat.reduceBEq, beq_self_eq_true, toNat_cast, cast_nonneg, Int.ofNat_lt, Int.ofNat_le, Int.reduceLE, Int.reduceLT, Int.reduceEq, Int.reduceAdd, Int.reduceSub, Int.reduceMul, depth_is, gt_bool, gt_int, gt_str, gt_nilp, gt_lst, gt_agg, gt_tup, gb_int, gb_bool, gb_str, gb_nilp, gb_nilf, gb_nili, gb_lst, gb_agg, gt_sl, gb_get, gbB_some, gbL_some, Bool.or_eq_true, Bool.and_eq_true, Bool.true_and, Bool.and_true, Bool.false_and, Bool.and_false, Bool.true_or, Bool.or_true, Bool.false_or, Bool.or_false, not_and, not_or, WCR_ro, WRm_some, bo_agg, bo_int, bo_bool, bo_lst, zsz]
theorem run3 (x : AV) (hx : ArgT Go.Proofs.Tryz.prog 4 24 x) : ∃ A', Runs T 3 [x] [] (.bool true) A' := by
  obtain ⟨w, h, nil, cs, rfl, hl⟩ := open_puzzle hx
  have key : ∀ {x : AV}, WF T 3 [x] [] (fun r A' => r = .bool true) → ∃ A', Runs T 3 [x] [] (.bool true) A' := by
    rintro x ⟨k, r, A', h, rfl⟩
    exact ⟨A', k, h⟩
  by_cases hb : cs.length ≤ 1048576
  · cases hg : goodZ w h cs with
    | false => exact key (law_no w h nil cs hb (p7n w h true false cs hg) (fun p => w9n w h p cs hg))
    | true =>
      have hh := (goodZ_all hg).1
      have hbd := hidP_bd hh
      obtain ⟨W, rfl⟩ := Int.eq_ofNat_of_zero_le (show 0 ≤ w by omega)
      obtain ⟨Hh, rfl⟩ := Int.eq_ofNat_of_zero_le (show 0 ≤ h by omega)
      have D := dat hh
      cases ho : oneP W Hh (cutsP W Hh) cs with
      | true => exact key (law_yes W Hh nil cs _ D hg ho)
      | false =>
        obtain ⟨nil', hS⟩ := p7 W Hh _ D true false cs hg
        rw [if_neg (by simp [ho])] at hS
        exact key (law_no W Hh nil cs hb hS (fun p => (w9 W Hh _ D p cs hg).mono fun r A' hr => ⟨hr.1, hr.2.1 ho⟩))
  · exact key (law_big w h nil cs hl hb)
end Go.Ev.Z
end
