import Derived.Test.YtfgbdbakafdinaaGreatWalkThird
import Derived.Test.YtfgbdbakafdinaaGreatBase
import Derived.Test.YtfgbdbakafdinaaGreatDrawnA
import Derived.Test.YtfgbdbakafdinaaGreatDrawnB
import Derived.Test.YtfgbdbakafdinaaGreatDrawnC
import Derived.Test.YtfgbdbakafdinaaGreatDrawnD
import Derived.Test.YtfgbdbakafdinaaGreatDeepThird
import Derived.Test.YtfgbdbakafdinaaGreatChecked
import Derived.KernelRfl

section
set_option maxRecDepth 100000
set_option linter.unusedSimpArgs false
set_option linter.unusedVariables false
namespace Go.Ev.Z
open Go Go.Ev
theorem all_runs : ∀ W Hh : Nat, 1 ≤ W → W ≤ 6 → 1 ≤ Hh → Hh ≤ 6 → W * Hh ≤ 12 → AllRunB T 49 W Hh (cutsP W Hh) :=
  hidden_cases (fun W Hh => AllRunB T 49 W Hh (cutsP W Hh)) ra1_1 ra1_2 ra1_3 ra1_4 ra1_5 ra1_6 ra2_1 ra2_2 ra2_3 ra2_4 ra2_5 ra2_6 ra3_1 ra3_2 ra3_3 ra3_4 ra4_1 ra4_2 ra4_3 ra5_1 ra5_2 ra6_1 ra6_2
theorem ct_runs : ∀ W Hh : Nat, 1 ≤ W → W ≤ 6 → 1 ≤ Hh → Hh ≤ 6 → W * Hh ≤ 12 → CtRun T 43 W Hh (cutsP W Hh) :=
  hidden_cases (fun W Hh => CtRun T 43 W Hh (cutsP W Hh)) rc1_1 rc1_2 rc1_3 rc1_4 rc1_5 rc1_6 rc2_1 rc2_2 rc2_3 rc2_4 rc2_5 rc2_6 rc3_1 rc3_2 rc3_3 rc3_4 rc4_1 rc4_2 rc4_3 rc5_1 rc5_2 rc6_1 rc6_2
theorem eqO_some {x y : Option Int} (h : eqO x y = true) : ∃ n, x = some n ∧ y = some n := by
  cases x <;> cases y <;> simp_all [eqO]
theorem ag_of {W Hh : Nat} {sq : List Sq} (ha : agB W Hh sq = true) (c : Cu) (hc : clueP W Hh c = true) : ∃ b, fitO c W Hh sq = some b ∧ fitR c W Hh sq = some b := by
  unfold agB at ha
  rw [List.all_eq_true] at ha
  obtain ⟨k, a, b⟩ := c
  have h0 : ∀ q, q ∈ pairsP W Hh → ∃ n, toldO q.1 q.2 W Hh sq = some n ∧ pzO q.1 q.2 W Hh sq = some n := fun q hq => eqO_some (ha q hq)
  simp only [clueP, inP, Bool.or_eq_true, Bool.and_eq_true, decide_eq_true_eq] at hc
  rcases hc with ((((⟨rfl, hr⟩ | ⟨rfl, hr⟩) | ⟨rfl, hr⟩) | ⟨rfl, hr⟩) | ⟨rfl, hr⟩) | ⟨rfl, hr⟩
  · obtain ⟨n, h1, h2⟩ := h0 (0, 0) (by simp [pairsP])
    exact ⟨decide (n = a), by simp only [fitO]; rw [if_neg (by simp [inP])]; simp only at h1; rw [h1]; rfl, by simp only [fitR]; rw [if_pos (by simp [inP])]; simp only at h2; rw [h2]; rfl⟩
  · obtain ⟨n, h1, h2⟩ := h0 (1, a) (by
      have : a = 1 ∨ a = 2 ∨ a = 3 ∨ a = 4 ∨ a = 5 ∨ a = 6 := by omega
      rcases this with rfl | rfl | rfl | rfl | rfl | rfl <;> simp [pairsP])
    exact ⟨decide (n = b), by simp only [fitO]; rw [if_pos (by simp [inP])]; simp only at h1; rw [h1]; rfl, by simp only [fitR]; rw [if_neg (by simp [inP])]; simp only at h2; rw [h2]; rfl⟩
  · obtain ⟨n, h1, h2⟩ := h0 (2, a) (by
      obtain ⟨m, rfl⟩ := Int.eq_ofNat_of_zero_le hr.1.1
      have : m < W * Hh := by
        have := hr.1.2
        have h3 : ((W * Hh : Nat) : Int) = (W : Int) * Hh := Int.natCast_mul W Hh
        omega
      simp only [pairsP, List.mem_append]
      exact .inr (List.mem_map.2 ⟨m, List.mem_range.2 this, rfl⟩))
    exact ⟨decide (n = b), by simp only [fitO]; rw [if_pos (by simp [inP])]; simp only at h1; rw [h1]; rfl, by simp only [fitR]; rw [if_neg (by simp [inP])]; simp only at h2; rw [h2]; rfl⟩
  · obtain ⟨n, h1, h2⟩ := h0 (3, a) (by
      have : a = 0 ∨ a = 1 ∨ a = 2 ∨ a = 3 := by omega
      rcases this with rfl | rfl | rfl | rfl <;> simp [pairsP])
    exact ⟨decide (n = b), by simp only [fitO]; rw [if_pos (by simp [inP])]; simp only at h1; rw [h1]; rfl, by simp only [fitR]; rw [if_neg (by simp [inP])]; simp only at h2; rw [h2]; rfl⟩
  · obtain ⟨n, h1, h2⟩ := h0 (4, 0) (by simp [pairsP])
    exact ⟨decide (n = a), by simp only [fitO]; rw [if_neg (by simp [inP])]; simp only at h1; rw [h1]; rfl, by simp only [fitR]; rw [if_pos (by simp [inP])]; simp only at h2; rw [h2]; rfl⟩
  · obtain ⟨n, h1, h2⟩ := h0 (5, 0) (by simp [pairsP])
    exact ⟨decide (n = a), by simp only [fitO]; rw [if_neg (by simp [inP])]; simp only at h1; rw [h1]; rfl, by simp only [fitR]; rw [if_pos (by simp [inP])]; simp only at h2; rw [h2]; rfl⟩
theorem dat {W Hh : Nat} (hh : hidP W Hh = true) : Dat W Hh (cutsP W Hh) := by
  have hb := hidP_bd hh
  have h12 : W * Hh ≤ 12 := by
    have h3 : ((W * Hh : Nat) : Int) = (W : Int) * Hh := Int.natCast_mul W Hh
    omega
  have hok := ok_all W Hh (by omega) (by omega) (by omega) (by omega) h12
  simp only [okB, Bool.and_eq_true, decide_eq_true_eq, List.all_eq_true] at hok
  obtain ⟨⟨⟨⟨⟨h1, h2⟩, h3⟩, h4⟩, h5⟩, h6⟩ := hok
  refine ⟨all_runs W Hh (by omega) (by omega) (by omega) (by omega) h12, ct_runs W Hh (by omega) (by omega) (by omega) (by omega) h12, fun sq hs => ?_, h5, fun c hc sq hs => ag_of (h6 sq hs).2 c hc⟩
  obtain ⟨⟨hf, hg⟩, _⟩ := h6 sq hs
  have hB := (good_Bds hg).1
  simp only [fitB, Bool.and_eq_true, decide_eq_true_eq, List.all_eq_true] at hf
  exact ⟨⟨by omega, by omega, hf.1, hB, fun s h => by have := hf.2 s h; omega⟩, hg⟩
end Go.Ev.Z
end

section
/- A puzzle given to a law. -/
set_option linter.unusedVariables false
set_option maxRecDepth 100000
namespace Go.Ev
def fieldsOf (P : Program) (t : TypeId) : List (TypeId × Nat) := match P.underlying t with
  | some (.struct fs) => fs.toList.map fun f => (f.type, f.offset)
  | _ => []
theorem TyA.fields {P : Program} {n : Nat} {t : TypeId} {xs : List AV} (h : TyA P (n + 1) t xs) (hs : isStruct P t = true) : xs.length = P.cellsOf t ∧ ∀ q, q ∈ fieldsOf P t → TyA P n q.1 ((xs.drop q.2).take (P.cellsOf q.1)) := by
  unfold isStruct at hs
  split at hs
  · rename_i fs hu
    simp only [TyA, hu] at h
    refine ⟨h.1, fun q hq => ?_⟩
    simp only [fieldsOf, hu] at hq
    obtain ⟨f, hf, rfl⟩ := List.mem_map.1 hq
    exact h.2 f hf
  · cases hs
theorem TyA.int {P : Program} {n : Nat} {t : TypeId} {xs : List AV} {k : IntKind} (hu : P.underlying t = some (.int k)) (h : TyA P (n + 1) t xs) : ∃ m, xs = [.int k m] ∧ k.min ≤ m ∧ m ≤ k.max := by
  simpa only [TyA, hu] using h
theorem TyA.slice {P : Program} {n : Nat} {t e : TypeId} {xs : List AV} (hu : P.underlying t = some (.slice e)) (h : TyA P (n + 1) t xs) : ∃ nil ys, xs = [.lst true (P.cellsOf e) nil ys] ∧ (nil = true → ys = []) ∧ ys.length ≤ maxLen ∧
    ∀ y ∈ ys, TyA P n e (cellsOf y) ∧ (if isStruct P e then ∃ zs, y = .agg zs else cellsOf y = [y]) := by
  simpa only [TyA, hu] using h
/-- A struct of three. -/
theorem three {α : Type} {xs : List α} (h : xs.length = 3) : ∃ a b c, xs = [a, b, c] := by
  match xs, h with
  | [a, b, c], _ => exact ⟨a, b, c, rfl⟩
end Go.Ev
namespace Go.Ev.Z
open Go Go.Ev
theorem u3 : Go.Proofs.Tryz.prog.underlying 3 = some (.int .i64) := by kernel_rfl
theorem u22 : Go.Proofs.Tryz.prog.underlying 22 = some (.slice 69) := by kernel_rfl
theorem s24 : isStruct Go.Proofs.Tryz.prog 24 = true := by kernel_rfl
theorem s69 : isStruct Go.Proofs.Tryz.prog 69 = true := by kernel_rfl
theorem f24 : fieldsOf Go.Proofs.Tryz.prog 24 = [(3, 0), (3, 1), (22, 2)] := by kernel_rfl
theorem f69 : fieldsOf Go.Proofs.Tryz.prog 69 = [(3, 0), (3, 1), (3, 2)] := by kernel_rfl
theorem zc24 : Go.Proofs.Tryz.prog.cellsOf 24 = 3 := by kernel_rfl
theorem zc69 : Go.Proofs.Tryz.prog.cellsOf 69 = 3 := by kernel_rfl
theorem zc3 : Go.Proofs.Tryz.prog.cellsOf 3 = 1 := by kernel_rfl
theorem zc22 : Go.Proofs.Tryz.prog.cellsOf 22 = 1 := by kernel_rfl
theorem open_clue {y : AV} (h : TyA Go.Proofs.Tryz.prog 2 69 (cellsOf y)) (hs : ∃ zs, y = .agg zs) : ∃ c, y = avU c := by
  obtain ⟨zs, rfl⟩ := hs
  obtain ⟨h1, h2⟩ := h.fields s69
  rw [zc69] at h1
  obtain ⟨a, b, c, rfl⟩ := three h1
  rw [f69] at h2
  obtain ⟨m1, e1, _⟩ := (h2 (3, 0) (by simp)).int u3
  obtain ⟨m2, e2, _⟩ := (h2 (3, 1) (by simp)).int u3
  obtain ⟨m3, e3, _⟩ := (h2 (3, 2) (by simp)).int u3
  simp only [zc3] at e1 e2 e3
  have d1 : a = .int .i64 m1 := by simpa [cellsOf] using e1
  have d2 : b = .int .i64 m2 := by simpa [cellsOf] using e2
  have d3 : c = .int .i64 m3 := by simpa [cellsOf] using e3
  subst d1 d2 d3
  exact ⟨⟨m1, m2, m3⟩, rfl⟩
theorem open_clues : ∀ ys : List AV, (∀ y ∈ ys, TyA Go.Proofs.Tryz.prog 2 69 (cellsOf y) ∧ (if isStruct Go.Proofs.Tryz.prog 69 then ∃ zs, y = .agg zs else cellsOf y = [y])) → ∃ cs : List Cu, ys = cs.map avU
  | [], _ => ⟨[], rfl⟩
  | y :: r, h => by
    obtain ⟨cs, rfl⟩ := open_clues r fun z hz => h z (by simp [hz])
    have hy := h y (by simp)
    rw [s69, if_pos rfl] at hy
    obtain ⟨c, rfl⟩ := open_clue hy.1 hy.2
    exact ⟨c :: cs, rfl⟩
theorem open_puzzle {x : AV} (h : ArgT Go.Proofs.Tryz.prog 4 24 x) : ∃ (w h : Int) (nil : Bool) (cs : List Cu), x = .agg [.int .i64 w, .int .i64 h, .lst true 3 nil (cs.map avU)] ∧ cs.length ≤ maxLen := by
  obtain ⟨h1, h2, h3⟩ := h
  rw [s24, if_pos rfl] at h3
  obtain ⟨zs, rfl⟩ := h3
  obtain ⟨k1, k2⟩ := h1.fields s24
  rw [zc24] at k1
  obtain ⟨a, b, c, rfl⟩ := three k1
  rw [f24] at k2
  obtain ⟨m1, e1, _⟩ := (k2 (3, 0) (by simp)).int u3
  obtain ⟨m2, e2, _⟩ := (k2 (3, 1) (by simp)).int u3
  obtain ⟨nil, ys, e3, _, hl, hy⟩ := (k2 (22, 2) (by simp)).slice u22
  obtain ⟨cs, rfl⟩ := open_clues ys hy
  simp only [zc3, zc22, zc69] at e1 e2 e3
  have d1 : a = .int .i64 m1 := by simpa [cellsOf] using e1
  have d2 : b = .int .i64 m2 := by simpa [cellsOf] using e2
  have d3 : c = .lst true 3 nil (cs.map avU) := by simpa [cellsOf] using e3
  subst d1 d2 d3
  exact ⟨m1, m2, nil, cs, rfl, by simpa using hl⟩
end Go.Ev.Z
end
