import Derived.Test.YtfgbdbakafdinaaGreatDeepSecond
import GoSem.ClaimChange
import Derived.DataReads
import Derived.ChangeOld
import Derived.Below
import Derived.IntWalk

section
/- Arguments of a law, as the row gives them, as abstract values. -/
set_option linter.unusedVariables false
set_option linter.unusedSimpArgs false
namespace Go.Ev

/-- Fields that lie one behind the other. -/
def layB (P : Program) : Nat → List Field → Nat → Bool
  | off, [], tot => off == tot
  | off, f :: r, tot => f.offset == off && layB P (off + P.cellsOf f.type) r tot

def isStruct (P : Program) (t : TypeId) : Bool := match P.underlying t with
  | some (.struct _) => true
  | _ => false

/-- Types whose values are read to the end without pointers, maps, interfaces. -/
def goodT (P : Program) : Nat → TypeId → Bool
  | 0, _ => false
  | n + 1, t => match P.underlying t with
    | some .bool => P.cellsOf t == 1
    | some (.int _) => P.cellsOf t == 1
    | some .string => P.cellsOf t == 1
    | some (.slice e) => P.cellsOf t == 1 && (0 < P.cellsOf e && goodT P n e)
    | some (.struct fs) => layB P 0 fs.toList (P.cellsOf t) && fs.toList.all fun f => goodT P n f.type
    | _ => false

/-- The abstract cells of a value of a type. -/
def TyA (P : Program) : Nat → TypeId → List AV → Prop
  | 0, _, _ => False
  | n + 1, t, xs => match P.underlying t with
    | some .bool => ∃ b, xs = [.bool b]
    | some (.int k) => ∃ m, xs = [.int k m] ∧ k.min ≤ m ∧ m ≤ k.max
    | some .string => ∃ s : List UInt8, xs = [.str s] ∧ s.length ≤ maxLen
    | some (.slice e) => ∃ nil ys, xs = [.lst true (P.cellsOf e) nil ys] ∧ (nil = true → ys = []) ∧ ys.length ≤ maxLen ∧
        ∀ y ∈ ys, TyA P n e (cellsOf y) ∧ (if isStruct P e then ∃ zs, y = .agg zs else cellsOf y = [y])
    | some (.struct fs) => xs.length = P.cellsOf t ∧ ∀ f ∈ fs.toList, TyA P n f.type ((xs.drop f.offset).take (P.cellsOf f.type))
    | _ => False

section
variable {H : Type} {enc : TypeId × Value → H} {P : Program} {w : World} {spare : Nat → Bool}

abbrev Free : Nat → Prop := fun _ => False

/-- What an opened row of cells is. -/
def Opened (P : Program) (w : World) (n : Nat) (t : TypeId) (cs : List Value) (xs : List AV) : Prop :=
  VRels Free [] w xs cs ∧ (∀ v ∈ cs, v.oneCell' = true) ∧ TyA P n t xs ∧ permA.permL xs = true ∧ (isStruct P t = false → ∃ x, xs = [x] ∧ cellsOf x = [x])

theorem one_open {n : Nat} {t : TypeId} {v : Value} {x : AV} (h : VRel Free [] w x v) (h1 : v.oneCell' = true) (ht : TyA P n t [x]) (hp : permA x = true) (hc : cellsOf x = [x]) : Opened P w n t [v] [x] := by
  refine ⟨⟨rfl, fun i hi => ?_⟩, by simpa using h1, ht, by simp [permA.permL, hp], fun _ => ⟨x, rfl, hc⟩⟩
  have : i = 0 := by simp at hi; omega
  subst this
  exact h

theorem cellsOf_pos_open {n : Nat} {t : TypeId} {cs : List Value} {xs : List AV} (h : Opened P w n t cs xs) : xs.length = cs.length := h.1.1.symm

/-- Fields one behind the other. -/
theorem open_fields {n fuel : Nat} (ih : ∀ t cs r, DataW.trod enc P w 0 spare true fuel t cs = some r → goodT P n t = true → cs.length = P.cellsOf t → ∃ xs, Opened P w n t cs xs) (cs : List Value) :
    ∀ (fs : List Field) (off tot : Nat) (out : List (DataW H × List MemPlace)), layB P off fs tot = true → tot = cs.length → off ≤ cs.length → (fs.all fun f => goodT P n f.type) = true →
      fs.mapM (fun f => DataW.trod enc P w 0 spare true fuel f.type ((cs.drop f.offset).take (P.cellsOf f.type))) = some out →
      ∃ xs, VRels Free [] w xs (cs.drop off) ∧ (∀ v ∈ cs.drop off, v.oneCell' = true) ∧ permA.permL xs = true ∧ ∀ f ∈ fs, off ≤ f.offset ∧ TyA P n f.type ((xs.drop (f.offset - off)).take (P.cellsOf f.type))
  | [], off, tot, out, hl, ht, ho, hg, hm => by
    simp only [layB, beq_iff_eq] at hl
    have : cs.drop off = [] := List.drop_eq_nil_of_le (by omega)
    rw [this]
    exact ⟨[], ⟨rfl, fun i hi => by simp at hi⟩, by simp, rfl, by simp⟩
  | f :: r, off, tot, out, hl, ht, ho, hg, hm => by
    simp only [layB, Bool.and_eq_true, beq_iff_eq] at hl
    obtain ⟨h1, h2⟩ := hl
    simp only [List.all_cons, Bool.and_eq_true] at hg
    rw [List.mapM_cons] at hm
    cases hf : DataW.trod enc P w 0 spare true fuel f.type ((cs.drop f.offset).take (P.cellsOf f.type)) with
    | none => rw [hf] at hm; cases hm
    | some d =>
      rw [hf] at hm
      cases hr : r.mapM (fun f => DataW.trod enc P w 0 spare true fuel f.type ((cs.drop f.offset).take (P.cellsOf f.type))) with
      | none => rw [hr] at hm; cases hm
      | some out' =>
        have hle : ∀ (fs : List Field) (off tot : Nat), layB P off fs tot = true → off ≤ tot := by
          intro fs
          induction fs with
          | nil => intro off tot h; simp only [layB, beq_iff_eq] at h; omega
          | cons g s ihs =>
            intro off tot h
            simp only [layB, Bool.and_eq_true] at h
            have := ihs _ _ h.2
            omega
        have hle2 := hle _ _ _ h2
        obtain ⟨xs1, o1, o2, o3, o4, o5⟩ := ih _ _ _ hf hg.1 (by rw [List.length_take, List.length_drop]; omega)
        obtain ⟨xs2, p1, p2, p3, p4⟩ := open_fields ih cs r (off + P.cellsOf f.type) tot out' h2 ht (by omega) hg.2 hr
        have hsplit : cs.drop off = (cs.drop f.offset).take (P.cellsOf f.type) ++ cs.drop (off + P.cellsOf f.type) := by
          rw [h1, ← List.drop_drop, List.take_append_drop]
        have hl1 : xs1.length = P.cellsOf f.type := by
          rw [← o1.1, List.length_take, List.length_drop]; omega
        refine ⟨xs1 ++ xs2, by rw [hsplit]; exact vrels_app o1 p1, ?_, ?_, ?_⟩
        · intro v hv
          rw [hsplit] at hv
          rcases List.mem_append.1 hv with h | h
          · exact o2 v h
          · exact p2 v h
        · rw [permL_iff] at o4 p3 ⊢
          intro x hx
          rcases List.mem_append.1 hx with h | h
          · exact o4 x h
          · exact p3 x h
        · intro g hg'
          rcases List.mem_cons.1 hg' with rfl | hg'
          · refine ⟨by omega, ?_⟩
            rw [h1, Nat.sub_self, List.drop_zero, List.take_append_of_le_length (by omega), List.take_of_length_le (by omega)]
            exact o3
          · obtain ⟨q1, q2⟩ := p4 g hg'
            refine ⟨by omega, ?_⟩
            have : g.offset - off = xs1.length + (g.offset - (off + P.cellsOf f.type)) := by omega
            rw [this, List.drop_length_add_append]
            exact q2

theorem cell_spot {a : Addr} {v : Value} (h : w.cell? a = some v) : a.spot = none := by
  unfold World.cell? at h
  split at h
  · split at h
    · cases h
    · rename_i hs; simpa using hs
  · cases h

theorem cell_add {a : Addr} {n : Nat} {v : Value} (h : w.cell? (a.add n) = some v) : w.cell? ⟨a.block, a.off + n, none⟩ = some v := by
  unfold Addr.add at h
  split at h
  · rename_i h0
    subst h0
    have hs := cell_spot h
    obtain ⟨b, o, s⟩ := a
    simp only at hs
    subst hs
    exact h
  · exact h

theorem open_slice {n : Nat} {t e : TypeId} {a : Addr} {len cap : Nat} (hg2 : 0 < P.cellsOf e) (hlc : len ≤ cap) (hcm : cap ≤ maxLen)
    (each : ∀ i, i < len → ∃ ci xi, w.cells? 0 (a.add (i * P.cellsOf e)) (P.cellsOf e) = some ci ∧ Opened P w n e ci xi) (hu : P.underlying t = some (.slice e)) (hg3 : goodT P n e = true) :
    ∃ xs, Opened P w (n + 1) t [.slice (some a) len cap] xs := by
  let sz := P.cellsOf e
  have each' : ∀ i, ∃ p : List Value × List AV, i < len → w.cells? 0 (a.add (i * P.cellsOf e)) (P.cellsOf e) = some p.1 ∧ Opened P w n e p.1 p.2 := by
    intro i
    by_cases hi : i < len
    · obtain ⟨ci, xi, h1, h2⟩ := each i hi
      exact ⟨(ci, xi), fun _ => ⟨h1, h2⟩⟩
    · exact ⟨([], []), fun h => absurd h hi⟩
  let cx : Nat → List Value × List AV := fun i => Classical.choose (each' i)
  have hcx : ∀ i, i < len → w.cells? 0 (a.add (i * P.cellsOf e)) (P.cellsOf e) = some (cx i).1 ∧ Opened P w n e (cx i).1 (cx i).2 := fun i => Classical.choose_spec (each' i)
  let y : Nat → AV := fun i => if isStruct P e then .agg (cx i).2 else (cx i).2.headD .junk
  have hy : ∀ i, i < len → cellsOf (y i) = (cx i).2 ∧ permA (y i) = true ∧ (if isStruct P e then ∃ zs, y i = .agg zs else cellsOf (y i) = [y i]) := by
    intro i hi
    obtain ⟨_, _, _, _, o4, o5⟩ := hcx i hi
    by_cases hs : isStruct P e = true
    · simp only [y, hs, if_true]
      exact ⟨rfl, o4, _, rfl⟩
    · have hs' : isStruct P e = false := by simpa using hs
      obtain ⟨x, e1, e2⟩ := o5 hs'
      simp only [y, hs', e1, List.headD_cons, Bool.false_eq_true, if_false]
      refine ⟨e2, ?_, e2⟩
      rw [e1] at o4
      simpa [permA.permL] using o4
  let ys := (List.range len).map y
  have hlen : ys.length = len := by simp [ys]
  have hyg : ∀ i (h : i < ys.length), ys[i] = y i := by intro i h; simp [ys]
  have hmem : ∀ z ∈ ys, ∃ i, i < len ∧ z = y i := by
    intro z hz
    obtain ⟨i, hi, rfl⟩ := List.mem_map.1 hz
    exact ⟨i, by simpa using hi, rfl⟩
  have hcs : ∀ i, i < len → (cx i).1.length = P.cellsOf e := fun i hi => (World.cells?_some (hcx i hi).1).2.1
  have huni : ∀ z ∈ ys, (cellsOf z).length = P.cellsOf e := by
    intro z hz
    obtain ⟨i, hi, rfl⟩ := hmem z hz
    rw [(hy i hi).1, cellsOf_pos_open (hcx i hi).2, hcs i hi]
  have hfl := flatE_length huni
  have key : ∀ k (hk : k < (flatE ys).length), ∃ u, w.cell? ⟨a.block, a.off + k, none⟩ = some u ∧ VRel Free [] w (flatE ys)[k] u ∧ u.oneCell' = true := by
    intro k hk
    rw [hfl, hlen] at hk
    have hi : k / P.cellsOf e < len := by
      rw [Nat.div_lt_iff_lt_mul hg2]; exact hk
    have hj : k % P.cellsOf e < P.cellsOf e := Nat.mod_lt _ hg2
    have hk2 : k / P.cellsOf e * P.cellsOf e + k % P.cellsOf e = k := by rw [Nat.mul_comm]; exact Nat.div_add_mod _ _
    generalize k / P.cellsOf e = i at hi hk2
    generalize k % P.cellsOf e = j at hj hk2
    obtain ⟨hc, ho⟩ := hcx i hi
    have hcell := (World.cells?_some hc).2.2 j hj
    have hjl : j < (cx i).1.length := by rw [hcs i hi]; exact hj
    rw [List.getElem?_eq_getElem hjl] at hcell
    have hcell2 := cell_add hcell
    have hblk : (a.add (i * P.cellsOf e)).block = a.block ∧ (a.add (i * P.cellsOf e)).off = a.off + i * P.cellsOf e := by
      unfold Addr.add; split <;> simp_all
    rw [hblk.1, hblk.2, Nat.add_assoc, hk2] at hcell2
    have hxl : j < (cx i).2.length := by rw [cellsOf_pos_open ho]; exact hjl
    have hg := flatE_get huni (i := i) (e := y i) (by rw [List.getElem?_eq_getElem (by omega), hyg]) j hj
    rw [hk2, (hy i hi).1, List.getElem?_eq_getElem hxl, List.getElem?_eq_getElem (by rw [hfl, hlen]; omega)] at hg
    have hR := ho.1.2 j hxl
    rw [List.getD_eq_getElem?_getD, List.getElem?_eq_getElem hjl] at hR
    exact ⟨_, hcell2, by rw [Option.some.inj hg]; exact hR, ho.2.1 _ (List.getElem_mem hjl)⟩
  have hperm : permAll ys = true := by
    unfold permAll
    rw [List.all_eq_true]
    intro z hz
    obtain ⟨i, hi, rfl⟩ := hmem z hz
    exact (hy i hi).2.1
  have hno : ¬ Has [] a.block := by rintro ⟨x, hx, _⟩; simp at hx
  have hR : VRel Free [] w (.lst true (P.cellsOf e) false ys) (.slice (some a) ys.length cap) := by
    refine .lst true (P.cellsOf e) ys a cap (fun k => (w.cell? ⟨a.block, a.off + k, none⟩).getD undef) (fun _ => hperm) (by omega) (fun hne => ?_) huni (fun k hk => ?_) (fun k hk => ?_) (fun k hk => ?_)
    · have hpos : 0 < len := by
        rcases Nat.eq_zero_or_pos len with h0 | h0
        · exact absurd (List.length_eq_zero_iff.1 (by omega)) hne
        · exact h0
      have hc := (hcx 0 hpos).1
      have hc0 := (World.cells?_some hc).2.2 0 hg2
      have hl0 : 0 < (cx 0).1.length := by rw [hcs 0 hpos]; exact hg2
      rw [List.getElem?_eq_getElem hl0] at hc0
      have e0 : (a.add (0 * P.cellsOf e)).add 0 = a := by simp [Addr.add]
      rw [e0] at hc0
      exact ⟨cell_spot hc0, hno, World.block_lt_of_cell? w _ hc0, fun _ h => h⟩
    · obtain ⟨u, e1, _, _⟩ := key k hk
      simp only [e1, Option.getD_some]
    · obtain ⟨u, e1, r1, _⟩ := key k hk
      simp only [e1, Option.getD_some]
      exact r1
    · obtain ⟨u, e1, _, o1⟩ := key k hk
      simp only [e1, Option.getD_some]
      exact o1
  rw [hlen] at hR
  refine ⟨[_], one_open hR rfl ?_ rfl rfl⟩
  simp only [TyA, hu]
  refine ⟨false, ys, rfl, (fun h => absurd h (by decide)), (by omega), ?_⟩
  intro z hz
  obtain ⟨i, hi, rfl⟩ := hmem z hz
  refine ⟨?_, (hy i hi).2.2⟩
  rw [(hy i hi).1]
  exact (hcx i hi).2.2.2.1

theorem open_trod : ∀ (fuel n : Nat) (t : TypeId) (cs : List Value) (r : DataW H × List MemPlace), DataW.trod enc P w 0 spare true fuel t cs = some r → goodT P n t = true → cs.length = P.cellsOf t →
    ∃ xs, Opened P w n t cs xs := by
  intro fuel
  induction fuel with
  | zero => intro n t cs r h; simp [DataW.trod] at h
  | succ fuel ih =>
    intro n t cs r h hg hlen
    cases n with
    | zero => simp [goodT] at hg
    | succ n =>
      unfold DataW.trod at h
      simp only [goodT] at hg
      split at hg
      · -- bool
        rename_i hu
        simp only [hu] at h
        split at h
        · rename_i b e2
          exact ⟨[.bool b], one_open (.bool b) rfl (by simp only [TyA, hu]; exact ⟨b, rfl⟩) rfl rfl⟩
        all_goals first
          | (cases ‹some TypeDesc.bool = some _›; done)
          | (cases h; done)
      · -- int
        rename_i k hu
        simp only [hu] at h
        split at h
        all_goals first
          | (cases h; done)
          | (cases ‹some (TypeDesc.int k) = some TypeDesc.bool›; done)
          | (cases ‹some (TypeDesc.int k) = some TypeDesc.string›; done)
          | (cases ‹some (TypeDesc.int k) = some TypeDesc.unsafePointer›; done)
          | (cases ‹some (TypeDesc.int k) = some (TypeDesc.float _)›; done)
          | (cases ‹some (TypeDesc.int k) = some (TypeDesc.pointer _)›; done)
          | (cases ‹some (TypeDesc.int k) = some (TypeDesc.slice _)›; done)
          | (cases ‹some (TypeDesc.int k) = some (TypeDesc.struct _)›; done)
          | (cases ‹some (TypeDesc.int k) = some (TypeDesc.array _ _)›; done)
          | (cases ‹some (TypeDesc.int k) = some (TypeDesc.interface _)›; done)
          | (cases ‹some (TypeDesc.int k) = some (TypeDesc.map _ _)›; done)
          | (cases ‹some (TypeDesc.int k) = some (TypeDesc.func ..)›; done)
          | (cases ‹some (TypeDesc.int k) = some (TypeDesc.chan ..)›; done)
          | skip
        · rename_i heq
          cases heq
          split at h
          · rename_i hc
            obtain ⟨rfl, hw⟩ := hc
            simp only [Lit.wf, Bool.and_eq_true, decide_eq_true_eq] at hw
            exact ⟨[.int _ _], one_open (.int _ _) rfl (by simp only [TyA, hu]; exact ⟨_, rfl, hw.1, hw.2⟩) rfl rfl⟩
          · cases h
      · -- string
        rename_i hu
        simp only [hu] at h
        split at h
        all_goals first
          | (cases h; done)
          | (cases ‹some TypeDesc.string = some TypeDesc.bool›; done)
          | (cases ‹some TypeDesc.string = some TypeDesc.unsafePointer›; done)
          | (cases ‹some TypeDesc.string = some (TypeDesc.int _)›; done)
          | (cases ‹some TypeDesc.string = some (TypeDesc.float _)›; done)
          | (cases ‹some TypeDesc.string = some (TypeDesc.pointer _)›; done)
          | (cases ‹some TypeDesc.string = some (TypeDesc.slice _)›; done)
          | (cases ‹some TypeDesc.string = some (TypeDesc.struct _)›; done)
          | (cases ‹some TypeDesc.string = some (TypeDesc.array _ _)›; done)
          | (cases ‹some TypeDesc.string = some (TypeDesc.interface _)›; done)
          | (cases ‹some TypeDesc.string = some (TypeDesc.map _ _)›; done)
          | (cases ‹some TypeDesc.string = some (TypeDesc.func ..)›; done)
          | (cases ‹some TypeDesc.string = some (TypeDesc.chan ..)›; done)
          | skip
        · rename_i sb heq
          split at h
          · rename_i hc
            refine ⟨[.str sb.data.toList], one_open ?_ rfl (by simp only [TyA, hu]; exact ⟨_, rfl, by simpa using hc⟩) rfl rfl⟩
            have := VRel.str (O := Free) (I := []) (w := w) sb.data.toList
            rwa [Array.toArray_toList] at this
          · cases h
      · -- slice
        rename_i e hu
        simp only [Bool.and_eq_true, beq_iff_eq, decide_eq_true_eq] at hg
        obtain ⟨hg1, hg2, hg3⟩ := hg
        simp only [hu] at h
        split at h
        all_goals first
          | (cases h; done)
          | (cases ‹some (TypeDesc.slice e) = some TypeDesc.bool›; done)
          | (cases ‹some (TypeDesc.slice e) = some TypeDesc.string›; done)
          | (cases ‹some (TypeDesc.slice e) = some TypeDesc.unsafePointer›; done)
          | (cases ‹some (TypeDesc.slice e) = some (TypeDesc.int _)›; done)
          | (cases ‹some (TypeDesc.slice e) = some (TypeDesc.float _)›; done)
          | (cases ‹some (TypeDesc.slice e) = some (TypeDesc.pointer _)›; done)
          | (cases ‹some (TypeDesc.slice e) = some (TypeDesc.struct _)›; done)
          | (cases ‹some (TypeDesc.slice e) = some (TypeDesc.array _ _)›; done)
          | (cases ‹some (TypeDesc.slice e) = some (TypeDesc.interface _)›; done)
          | (cases ‹some (TypeDesc.slice e) = some (TypeDesc.map _ _)›; done)
          | (cases ‹some (TypeDesc.slice e) = some (TypeDesc.func ..)›; done)
          | (cases ‹some (TypeDesc.slice e) = some (TypeDesc.chan ..)›; done)
          | skip
        · exact ⟨[.lst true (P.cellsOf e) true []], one_open (.lstn _ _) rfl (by simp only [TyA, hu]; exact ⟨true, [], rfl, fun _ => rfl, by simp, by simp⟩) rfl rfl⟩
        · rename_i e' a len cap heq
          cases heq
          split at h
          · rename_i hc
            obtain ⟨hb0, hlc, hcm⟩ := hc
            cases hm : (List.range len).mapM (fun i => (w.cells? 0 (a.add (i * P.cellsOf e)) (P.cellsOf e)).bind (DataW.trod enc P w 0 spare true fuel e)) with
            | none => rw [hm] at h; cases h
            | some elems =>
              have each : ∀ i, i < len → ∃ ci xi, w.cells? 0 (a.add (i * P.cellsOf e)) (P.cellsOf e) = some ci ∧ Opened P w n e ci xi := by
                intro i hi
                have hget := mapM_some_get hm i i (by simp [hi])
                have hlt : i < elems.length := by have := mapM_some_length hm; simp at this; omega
                rw [List.getElem?_eq_getElem hlt] at hget
                cases hcl : w.cells? 0 (a.add (i * P.cellsOf e)) (P.cellsOf e) with
                | none => rw [hcl] at hget; cases hget
                | some ci =>
                  rw [hcl] at hget
                  obtain ⟨xi, hxi⟩ := ih n e ci _ hget hg3 (World.cells?_some hcl).2.1
                  exact ⟨ci, xi, rfl, hxi⟩
              exact open_slice hg2 hlc hcm each hu hg3
          · cases h
      · -- struct
        rename_i fs hu
        simp only [Bool.and_eq_true] at hg
        obtain ⟨hg1, hg2⟩ := hg
        simp only [hu] at h
        split at h
        all_goals first
          | (cases h; done)
          | (cases ‹some (TypeDesc.struct fs) = some TypeDesc.bool›; done)
          | (cases ‹some (TypeDesc.struct fs) = some TypeDesc.string›; done)
          | (cases ‹some (TypeDesc.struct fs) = some TypeDesc.unsafePointer›; done)
          | (cases ‹some (TypeDesc.struct fs) = some (TypeDesc.int _)›; done)
          | (cases ‹some (TypeDesc.struct fs) = some (TypeDesc.float _)›; done)
          | (cases ‹some (TypeDesc.struct fs) = some (TypeDesc.pointer _)›; done)
          | (cases ‹some (TypeDesc.struct fs) = some (TypeDesc.slice _)›; done)
          | (cases ‹some (TypeDesc.struct fs) = some (TypeDesc.array _ _)›; done)
          | (cases ‹some (TypeDesc.struct fs) = some (TypeDesc.interface _)›; done)
          | (cases ‹some (TypeDesc.struct fs) = some (TypeDesc.map _ _)›; done)
          | (cases ‹some (TypeDesc.struct fs) = some (TypeDesc.func ..)›; done)
          | (cases ‹some (TypeDesc.struct fs) = some (TypeDesc.chan ..)›; done)
          | skip
        · cases hm : fs.toList.mapM (fun f => DataW.trod enc P w 0 spare true fuel f.type ((cs.drop f.offset).take (P.cellsOf f.type))) with
          | none => rw [hm] at h; cases h
          | some out =>
            obtain ⟨xs, p1, p2, p3, p4⟩ := open_fields (fun t cs r h1 h2 h3 => ih n t cs r h1 h2 h3) cs fs.toList 0 _ out hg1 hlen.symm (Nat.zero_le _) hg2 hm
            rw [List.drop_zero] at p1 p2
            refine ⟨xs, p1, p2, ?_, p3, fun hs => by simp [isStruct, hu] at hs⟩
            simp only [TyA, hu]
            refine ⟨by rw [← p1.1]; exact hlen, fun f hf => ?_⟩
            have := (p4 f hf).2
            rwa [Nat.sub_zero] at this
        · rename_i hno; exact absurd hlen hno
      · cases hg

end
end Go.Ev
end

section
/- A law's call, from a run of the evaluator. -/
set_option linter.unusedVariables false
set_option linter.unusedSimpArgs false
namespace Go.Ev

section
variable {P : Program} {T : Tab}

/-- An argument of a law: its shape, told. -/
def ArgT (P : Program) (n : Nat) (t : TypeId) (x : AV) : Prop := TyA P n t (cellsOf x) ∧ permA x = true ∧ (if isStruct P t then ∃ zs, x = .agg zs else cellsOf x = [x])

theorem open_arg {H : Type} {enc : TypeId × Value → H} {w : World} {spare : Nat → Bool} {n : Nat} {t : TypeId} {v : Value} {d : DataW H} {ps : List MemPlace}
    (h : DataW.Trod enc P w 0 spare true t v d ps) {base : Nat} (ho : Value.okWide P w .any base t v) (hg : goodT P n t = true) : ∃ x, VRel Free [] w x v ∧ ArgT P n t x := by
  obtain ⟨fuel, h⟩ := h
  by_cases hs : isStruct P t = true
  · unfold isStruct at hs
    split at hs
    · rename_i fs hu
      simp only [Value.okWide, hu] at ho
      obtain ⟨cs, rfl, hc, _⟩ := ho
      obtain ⟨xs, o1, o2, o3, o4, _⟩ := open_trod fuel n t _ _ h hg (by simpa [Value.cells] using hc)
      refine ⟨.agg xs, ?_, o3, by simpa [permA] using o4, ?_⟩
      · have := VRel.agg (O := Free) (I := []) (w := w) xs cs.toList o1.1 o1.2 (by simpa [Value.cells] using o2)
        rwa [Array.toArray_toList] at this
      · simp only [isStruct, hu, if_true]
        exact ⟨xs, rfl⟩
    · cases hs
  · have hs' : isStruct P t = false := by simpa using hs
    have hone : v.cells = #[v] ∧ P.cellsOf t = 1 := by
      cases n with
      | zero => simp [goodT] at hg
      | succ n =>
        simp only [goodT] at hg
        split at hg
        · rename_i hu
          simp only [Value.okWide, hu, Cell.okWide] at ho
          refine ⟨?_, by simpa using hg⟩
          cases v <;> first | rfl | (simp [Cell.ok, hu] at ho)
        · rename_i k hu
          simp only [Value.okWide, hu, Cell.okWide] at ho
          refine ⟨?_, by simpa using hg⟩
          cases v <;> first | rfl | (simp [Cell.ok, hu] at ho)
        · rename_i hu
          simp only [Value.okWide, hu, Cell.okWide] at ho
          refine ⟨?_, by simpa using hg⟩
          cases v <;> first | rfl | (simp [Cell.ok, hu] at ho)
        · rename_i e hu
          simp only [Value.okWide, hu, Cell.okWide] at ho
          simp only [Bool.and_eq_true, beq_iff_eq] at hg
          refine ⟨?_, hg.1⟩
          cases v <;> first | rfl | (simp [Cell.ok, hu] at ho)
        · rename_i fs hu
          simp [isStruct, hu] at hs'
        · cases hg
    obtain ⟨xs, o1, o2, o3, o4, o5⟩ := open_trod fuel n t _ _ h hg (by simp [hone.1, hone.2])
    obtain ⟨x, rfl, hx⟩ := o5 hs'
    refine ⟨x, ?_, by rw [hx]; exact o3, by simpa [permA.permL] using o4, by rw [hs']; simpa using hx⟩
    have := o1.2 0 (by simp)
    simpa [hone.1] using this

theorem law_calls (hT : TabOK P T) (hm : P.follows .mixedOrders = true) {f : FuncId} {fn : Func} (hf : P.funcs[f]? = some fn) (hn : (fn.name == "runtime.NumGoroutine") = false) (hb : fn.body.isSome = true)
    {args : List AV} {r : AV} {A' : Heap} (hr : Runs T f args [] r A') {W : World} {vs : List Value} (hv : VRels Free [] W args vs) :
    Calls P f vs.toArray W (fun e w' => ∃ v I', e = .returned v ∧ VRel Free I' w' r v ∧ RowKit.Below W.heap.size W w') := by
  obtain ⟨k, hk⟩ := hr
  have hS : SRel Free [] [] W := ⟨rfl, fun id b bi h => by simp at h, fun i j bi bj h => by simp at h, fun id bi h => by simp at h, fun b ⟨x, hx, _⟩ => by simp at hx, fun b h => h.elim⟩
  have hno : ∀ b, ¬ Has ([] : Info) b := by rintro b ⟨x, hx, _⟩; simp at hx
  rcases evF_sound hT hm k f args [] r A' hk Free [] W vs hS hv with ⟨_, h2⟩ | ⟨v, I', w', h1, _⟩
  · refine Calls.mono h2 ?_
    rintro e w' ⟨v, I', he, hvr, _, hE⟩
    exact ⟨v, I', he, hvr, hE.os, hE.tape, hE.output, hE.size, fun b hb => hE.block b hb (hno b)⟩
  · rw [run_callFunc_code hf hn hb] at h1
    cases h1

/-! ### tables as trees of tests -/

def EntOK (P : Program) (f : FuncId) (e : Ent) : Prop := match e with
  | .code m => ∃ fn an, P.funcs[f]? = some fn ∧ (fn.name == "runtime.NumGoroutine") = false ∧ compF P fn an = some m
  | .ext spec => ExtOK P f spec

theorem tab_if {f : FuncId} {b : Bool} {x y : Option Ent} (hx : ∀ e, x = some e → EntOK P f e) (hy : ∀ e, y = some e → EntOK P f e) : ∀ e, cond b x y = some e → EntOK P f e := by
  cases b
  · exact hy
  · exact hx

theorem tab_leaf {f k : FuncId} {fn : Func} {an : AnC} {m : MFunc} (hf : P.funcs[k]? = some fn) (hn : (fn.name == "runtime.NumGoroutine") = false) (hc : compF P fn an = some m) :
    ∀ e, cond (Nat.beq f k) (some (Ent.code m)) none = some e → EntOK P f e := by
  intro e h
  cases hb : Nat.beq f k with
  | false => rw [hb] at h; cases h
  | true =>
    rw [hb] at h
    cases h
    have := Nat.eq_of_beq_eq_true hb
    subst this
    exact ⟨fn, an, hf, hn, hc⟩

end
end Go.Ev
end

section
/- Rules for loops, for heaps that grow, and for calls whose results are only read. -/
set_option linter.unusedVariables false
namespace Go.Ev

section
variable {T : Tab}

/-- A loop by an invariant: states, a frame and a heap for each, a number that goes down. -/
theorem WC_inv {σ : Type} (F : σ → Fr) (H : σ → Heap) (μ : σ → Nat) (P : σ → Prop) {c : MC} {Q : Ex → Fr → Heap → Prop}
    (step : ∀ s, P s → WC T c (Ex.go Q (fun fr A => ∃ s', (fr = F s' ∧ A = H s') ∧ P s' ∧ μ s' < μ s)) (F s) (H s)) :
    ∀ s, P s → WC T (.loop c) Q (F s) (H s) := by
  have key : ∀ n s, μ s < n → P s → WC T (.loop c) Q (F s) (H s) := by
    intro n
    induction n with
    | zero => intro s h; omega
    | succ n ih =>
      intro s h hp
      rw [WC_loop]
      refine (step s hp).mono fun ex fr A h1 => ?_
      cases ex with
      | norm =>
        obtain ⟨s', ⟨rfl, rfl⟩, hp', hm⟩ := h1
        exact ih s' (by omega) hp'
      | exit id => exact h1
      | ret => exact h1
  intro s hp
  exact key _ s (Nat.lt_succ_self _) hp

/-- A call apart whose result is only read: what it comes to. -/
def Pure (T : Tab) (f : FuncId) (args : List AV) (r : AV) : Prop := WF T f args [] (fun v A1 => giveBackT A1 depth v = some r)

variable {f : FuncId} {args args' : List AV} {r : AV} {A : Heap} {K : AV → Heap → Prop}

theorem Pure.ro (h : Pure T f args' r) (hb : mapO (borrow A depth) args = some args') : WD T .ro f args A K ↔ K r A := by
  rw [WD_ro, hb]
  obtain ⟨k, v, A1, h1, h2⟩ := h
  simp only
  rw [WF_of h1]
  simp only [h2]

theorem Pure.self (h : Pure T f args r) (hb : ∀ A, mapO (borrow A depth) args = some args) : WD T .ro f args A K ↔ K r A := h.ro (hb A)

theorem wrap_in (n : Int) (h1 : -9223372036854775808 ≤ n) (h2 : n ≤ 9223372036854775807) : IntKind.i64.wrap n = n := IntWalk.i64_in n ⟨h1, by omega⟩

/-! ### heaps that grow -/
theorem h_get0 (A B : Heap) : (A ++ B)[A.length]? = B[0]? := by rw [List.getElem?_append_right (Nat.le_refl _), Nat.sub_self]
theorem h_getk (A B : Heap) (k : Nat) : (A ++ B)[A.length + k]? = B[k]? := by rw [List.getElem?_append_right (by omega)]; congr 1; omega
theorem h_set0 (A B : Heap) (b : Blk) : (A ++ B).set A.length b = A ++ B.set 0 b := by rw [List.set_append_right _ _ (Nat.le_refl _), Nat.sub_self]
theorem h_setk (A B : Heap) (k : Nat) (b : Blk) : (A ++ B).set (A.length + k) b = A ++ B.set k b := by rw [List.set_append_right _ _ (by omega)]; congr 2; omega
theorem h_get_lt {A B : Heap} {k : Nat} (h : k < A.length) : (A ++ B)[k]? = A[k]? := List.getElem?_append_left h
theorem h_set_lt {A B : Heap} {k : Nat} {b : Blk} (h : k < A.length) : (A ++ B).set k b = A.set k b ++ B := List.set_append_left _ _ h
theorem h_get_of {A B : Heap} {k : Nat} {b : Blk} (h : A[k]? = some b) : (A ++ B)[k]? = some b := by
  rw [List.getElem?_append_left (List.getElem?_eq_some_iff.1 h).1, h]
theorem h_set_get {A : Heap} {k : Nat} {b : Blk} (h : k < A.length) : (A.set k b)[k]? = some b := List.getElem?_set_self h
theorem lt_of_get {α : Type} {A : List α} {k : Nat} {b : α} (h : A[k]? = some b) : k < A.length := (List.getElem?_eq_some_iff.1 h).1

theorem map_get {α : Type} {f : α → AV} {xs : List α} {i : Nat} (h : i < xs.length) : (xs.map f)[i]? = some (f xs[i]) := by simp [h]

/-- a list lent, whatever its mark -/
theorem bo_lst_id {d sz : Nat} {p nil : Bool} {xs : List AV} (h : mapO (borrow A d) xs = some xs) : borrow A (d + 1) (.lst p sz nil xs) = some (.lst p sz nil xs) := by
  cases p <;> simp [borrow, h]
theorem bo_map {α : Type} {f : α → AV} {d : Nat} (h : ∀ x, borrow A d (f x) = some (f x)) (xs : List α) : mapO (borrow A d) (xs.map f) = some (xs.map f) :=
  mapO_id fun x hx => by obtain ⟨c, _, rfl⟩ := List.mem_map.1 hx; exact h c
theorem gb_map {α : Type} {f : α → AV} {d : Nat} (h : ∀ x, giveBack A d (f x) = some (f x)) (xs : List α) : mapO (giveBack A d) (xs.map f) = some (xs.map f) :=
  mapO_id fun x hx => by obtain ⟨c, _, rfl⟩ := List.mem_map.1 hx; exact h c
theorem em_map {α : Type} {f : α → AV} {n d : Nat} (h : ∀ x, embed n d (f x) = some (f x)) (xs : List α) : mapO (embed n d) (xs.map f) = some (xs.map f) :=
  mapO_id fun x hx => by obtain ⟨c, _, rfl⟩ := List.mem_map.1 hx; exact h c
theorem gb_sl0 {id sz ver off len d : Nat} {b : Blk} {ys : List AV} (hb : A[id]? = some b) (hv : ver = b.els.length) (h0 : off = 0) (hl : len = ver) (hy : mapO (giveBack A d) b.els = some ys) :
    giveBack A (d + 1) (.sl id sz ver off len) = some (.lst true sz false ys) := by
  subst hv h0 hl
  exact gb_sl hb rfl (by omega) (by rw [List.drop_zero, List.take_length]; exact hy)
/-! ### tests as plain alternatives -/
def WG (g : Option Bool) (X Y : Prop) : Prop := match g with
  | some true => X
  | some false => Y
  | none => False
theorem WG_some {b : Bool} {X Y : Prop} : WG (some b) X Y ↔ if b = true then X else Y := by cases b <;> simp [WG]
theorem WG_none {X Y : Prop} : WG none X Y ↔ False := Iff.rfl
def WB (v : AV) (X Y : Prop) : Prop := match v with
  | .bool true => X
  | .bool false => Y
  | _ => False
theorem WB_bool {b : Bool} {X Y : Prop} : WB (.bool b) X Y ↔ if b = true then X else Y := by cases b <;> simp [WB]
theorem WC_if {c : Opd} {a b : MC} {Q : Ex → Fr → Heap → Prop} {fr : Fr} : WC T (.cond c a b) Q fr A ↔ WB (c.ev fr.get) (WC T a Q fr A) (WC T b Q fr A) := by
  rw [WC_cond]; unfold WB; rfl
theorem WO_one {o : MOp} {os : List MOp} {N : Fr → Heap → Prop} {fr : Fr} : WO T (o :: os) N fr A ↔ (chk o fr.get = true ∧
    WG (guardOk fr.get o.guard) (WK T o.k fr.get A (fun v A' => WO T os N (putd o.dst v fr) A')) (WO T os N (putd o.dst (.tup []) fr) A)) := by
  rw [WO_cons]; unfold WG; rfl
theorem guard_none {g : Nat → AV} : guardOk g none = some true := rfl
def gB (v : AV) (want : Bool) : Option Bool := match v with
  | .bool b => some (b == want)
  | .tup [] => some false
  | _ => none
theorem guard_some {g : Nat → AV} {n : Nat} {want : Bool} : guardOk g (some (n, want)) = gB (g n) want := by
  simp only [guardOk, gB]
  generalize g n = v
  cases v with
  | tup xs => cases xs <;> rfl
  | _ => rfl
theorem gB_bool {b want : Bool} : gB (.bool b) want = some (b == want) := rfl
theorem gB_tup {want : Bool} : gB (.tup []) want = some false := rfl
end
end Go.Ev
end

section
/- Running by rules, what goes on behind kept as a list: so that rewriting stays at the head. -/
set_option linter.unusedVariables false
set_option linter.unusedSimpArgs false
namespace Go.Ev

inductive KF where
  | seq (b : MC)
  | blk (id : Nat)
  | inv (I : Fr → Heap → Prop)

abbrev FQ := Ex → Fr → Heap → Prop

def stk (T : Tab) : List KF → FQ → FQ
  | [], Q => Q
  | .seq b :: S, Q => Ex.go (stk T S Q) (WC T b (stk T S Q))
  | .blk id :: S, Q => Ex.blk id (stk T S Q)
  | .inv I :: S, Q => Ex.go (stk T S Q) I

def WS (T : Tab) (m : MC) (S : List KF) (Q : FQ) (fr : Fr) (A : Heap) : Prop := WC T m (stk T S Q) fr A
def WP (T : Tab) (os : List MOp) (live : List Nat) (S : List KF) (Q : FQ) (fr : Fr) (A : Heap) : Prop := WO T os (fun fr' A' => stk T S Q .norm (prune live fr') A') fr A
def WN (T : Tab) (S : List KF) (Q : FQ) (fr : Fr) (A : Heap) : Prop := stk T S Q .norm fr A
def WE (T : Tab) (id : Nat) (S : List KF) (Q : FQ) (fr : Fr) (A : Heap) : Prop := stk T S Q (.exit id) fr A
def WR (T : Tab) (S : List KF) (Q : FQ) (fr : Fr) (A : Heap) : Prop := stk T S Q .ret fr A

def RV (o : Option (List AV)) (K : AV → Heap → Prop) (A : Heap) : Prop := match o with
  | some vs => K (one vs) A
  | none => False
def RQ (res : List MRes) (K : AV → Heap → Prop) : FQ := fun ex fr A => match ex with
  | .exit _ => False
  | _ => RV (mapO (evRes fr A) res) K A

def isB : AV → Bool
  | .bool _ => true
  | _ => false
def tB : AV → Bool
  | .bool b => b
  | _ => false
def isG : AV → Bool
  | .bool _ => true
  | .tup [] => true
  | _ => false
def gT (w : Bool) : AV → Bool
  | .bool b => b == w
  | _ => false

section
variable {T : Tab} {S : List KF} {Q : FQ} {fr : Fr} {A : Heap} {K : AV → Heap → Prop} {os : List MOp} {live : List Nat}

theorem WS_of {f : FuncId} {m : MFunc} (hm : T f = some (.code m)) {args : List AV} : WF T f args A K ↔ WS T m.body [] (RQ m.res K) (params 0 args) A := by
  rw [WF_code hm]
  unfold WS stk RQ RV
  rfl

theorem WS_skip : WS T .skip S Q fr A ↔ WN T S Q fr A := WC_skip
theorem WS_exit {id : Nat} : WS T (.exit id) S Q fr A ↔ WE T id S Q fr A := WC_exit
theorem WS_ret : WS T .ret S Q fr A ↔ WR T S Q fr A := WC_ret
theorem WS_seq {a b : MC} : WS T (.seq a b) S Q fr A ↔ WS T a (.seq b :: S) Q fr A := WC_seq
theorem WS_block {id : Nat} {c : MC} : WS T (.block id c) S Q fr A ↔ WS T c (.blk id :: S) Q fr A := WC_block
theorem WS_reg : WS T (.reg os live) S Q fr A ↔ WP T os live S Q fr A := WC_reg
theorem WS_cond {c : Opd} {a b : MC} : WS T (.cond c a b) S Q fr A ↔ isB (c.ev fr.get) = true ∧ if tB (c.ev fr.get) = true then WS T a S Q fr A else WS T b S Q fr A := by
  unfold WS
  rw [WC_cond]
  generalize c.ev fr.get = v
  cases v with
  | bool b => cases b <;> simp [isB, tB]
  | _ => simp [isB]
theorem WN_seq {b : MC} : WN T (.seq b :: S) Q fr A ↔ WS T b S Q fr A := Iff.rfl
theorem WN_blk {id : Nat} : WN T (.blk id :: S) Q fr A ↔ WN T S Q fr A := Iff.rfl
theorem WN_inv {I : Fr → Heap → Prop} : WN T (.inv I :: S) Q fr A ↔ I fr A := Iff.rfl
theorem WN_nil {res : List MRes} : WN T [] (RQ res K) fr A ↔ RV (mapO (evRes fr A) res) K A := Iff.rfl
theorem WE_seq {id : Nat} {b : MC} : WE T id (.seq b :: S) Q fr A ↔ WE T id S Q fr A := Iff.rfl
theorem WE_inv {id : Nat} {I : Fr → Heap → Prop} : WE T id (.inv I :: S) Q fr A ↔ WE T id S Q fr A := Iff.rfl
theorem WE_blk {id id' : Nat} : WE T id (.blk id' :: S) Q fr A ↔ if id = id' then WN T S Q fr A else WE T id S Q fr A := Iff.rfl
theorem WR_seq {b : MC} : WR T (.seq b :: S) Q fr A ↔ WR T S Q fr A := Iff.rfl
theorem WR_blk {id : Nat} : WR T (.blk id :: S) Q fr A ↔ WR T S Q fr A := Iff.rfl
theorem WR_inv {I : Fr → Heap → Prop} : WR T (.inv I :: S) Q fr A ↔ WR T S Q fr A := Iff.rfl
theorem WR_nil {res : List MRes} : WR T [] (RQ res K) fr A ↔ RV (mapO (evRes fr A) res) K A := Iff.rfl
theorem RV_some {vs : List AV} : RV (some vs) K A ↔ K (one vs) A := Iff.rfl

def nB : AV → Bool
  | .bool b => !b
  | _ => false
def gF (w : Bool) : AV → Bool
  | .bool b => !(b == w)
  | .tup [] => true
  | _ => false
theorem WS_cond_t {c : Opd} {a b : MC} (h : tB (c.ev fr.get) = true) : WS T (.cond c a b) S Q fr A ↔ WS T a S Q fr A := by
  rw [WS_cond, if_pos h]
  have : isB (c.ev fr.get) = true := by cases hv : c.ev fr.get <;> simp_all [tB, isB]
  simp [this]
theorem WS_cond_f {c : Opd} {a b : MC} (h : nB (c.ev fr.get) = true) : WS T (.cond c a b) S Q fr A ↔ WS T b S Q fr A := by
  rw [WS_cond]
  cases hv : c.ev fr.get <;> simp_all [tB, isB, nB]
theorem WS_split {c : Opd} {a b : MC} (hb : isB (c.ev fr.get) = true) (ht : tB (c.ev fr.get) = true → WS T a S Q fr A) (hf : nB (c.ev fr.get) = true → WS T b S Q fr A) : WS T (.cond c a b) S Q fr A := by
  by_cases h : tB (c.ev fr.get) = true
  · exact (WS_cond_t h).2 (ht h)
  · have : nB (c.ev fr.get) = true := by cases hv : c.ev fr.get <;> simp_all [tB, isB, nB]
    exact (WS_cond_f this).2 (hf this)

/-! ### operations -/
def WU (T : Tab) (o : Option AV) (d : Option Nat) (os : List MOp) (live : List Nat) (S : List KF) (Q : FQ) (fr : Fr) (A : Heap) : Prop := match o with
  | some v => WP T os live S Q (putd d v fr) A
  | none => False
def WV (T : Tab) (o : Option (AV × Heap)) (d : Option Nat) (os : List MOp) (live : List Nat) (S : List KF) (Q : FQ) (fr : Fr) : Prop := match o with
  | some (v, A) => WP T os live S Q (putd d v fr) A
  | none => False
def WCR (T : Tab) (c : CK) (f : FuncId) (args : List AV) (d : Option Nat) (os : List MOp) (live : List Nat) (S : List KF) (Q : FQ) (fr : Fr) (A : Heap) : Prop :=
  WD T c f args A (fun v A' => WP T os live S Q (putd d v fr) A')
def WCf (T : Tab) (c : CK) (f : AV) (args : List AV) (d : Option Nat) (os : List MOp) (live : List Nat) (S : List KF) (Q : FQ) (fr : Fr) (A : Heap) : Prop := match f with
  | .fn f first caps => WCR T c f (first ++ args ++ caps) d os live S Q fr A
  | _ => False

theorem WU_some {v : AV} {d : Option Nat} : WU T (some v) d os live S Q fr A ↔ WP T os live S Q (putd d v fr) A := Iff.rfl
theorem WV_some {v : AV} {d : Option Nat} : WV T (some (v, A)) d os live S Q fr ↔ WP T os live S Q (putd d v fr) A := Iff.rfl
theorem WCf_fn {c : CK} {f : FuncId} {a b args : List AV} {d : Option Nat} : WCf T c (.fn f a b) args d os live S Q fr A ↔ WCR T c f (a ++ args ++ b) d os live S Q fr A := Iff.rfl
theorem WCR_inl {f : FuncId} {args : List AV} {d : Option Nat} : WCR T .inl f args d os live S Q fr A ↔ WF T f args A (fun v A' => WP T os live S Q (putd d v fr) A') := Iff.rfl
theorem putd_some {d : Nat} {v : AV} : putd (some d) v fr = (d, v) :: fr := rfl
theorem putd_none {v : AV} : putd none v fr = fr := rfl

theorem Pure.call {f : FuncId} {args args' : List AV} {r : AV} {d : Option Nat} (h : Pure T f args' r) (hb : mapO (borrow A depth) args = some args') :
    WCR T .ro f args d os live S Q fr A ↔ WP T os live S Q (putd d r fr) A := h.ro hb

theorem WP_nil : WP T [] live S Q fr A ↔ WN T S Q (prune live fr) A := WO_nil

theorem WP_guard {d : Option Nat} {n : Nat} {w : Bool} {k : MK} : WP T (⟨d, some (n, w), k⟩ :: os) live S Q fr A ↔
    isG (fr.get n) = true ∧ if gT w (fr.get n) = true then WP T (⟨d, none, k⟩ :: os) live S Q fr A else WP T os live S Q (putd d (.tup []) fr) A := by
  unfold WP
  rw [WO_one, WO_one, guard_some, guard_none, WG_some, if_pos rfl]
  have hc : ∀ (b : Bool), gB (fr.get n) w = some b → chk ⟨d, some (n, w), k⟩ fr.get = (!b || chk ⟨d, none, k⟩ fr.get) := by
    intro b hb
    cases k with
    | append ty sz bytes s x away =>
      simp only [chk, guard_some, hb, guard_none]
      cases b <;> rfl
    | _ => simp [chk]
  generalize hv : fr.get n = v at hc ⊢
  cases v with
  | bool b =>
    have := hc _ gB_bool
    rw [this, gB_bool, WG_some]
    simp only [isG, gT, true_and]
    rcases Bool.eq_false_or_eq_true (b == w) with h | h <;> simp [h]
  | tup xs =>
    cases xs with
    | nil =>
      have := hc _ gB_tup
      rw [this, gB_tup, WG_some]
      simp [isG, gT]
    | cons _ _ => simp [isG, gB, WG]
  | _ => simp [isG, gB, WG]

theorem WP_guard_t {d : Option Nat} {n : Nat} {w : Bool} {k : MK} (h : gT w (fr.get n) = true) : WP T (⟨d, some (n, w), k⟩ :: os) live S Q fr A ↔ WP T (⟨d, none, k⟩ :: os) live S Q fr A := by
  rw [WP_guard, if_pos h]
  have : isG (fr.get n) = true := by cases hv : fr.get n <;> simp_all [gT, isG]
  simp [this]
theorem WP_guard_f {d : Option Nat} {n : Nat} {w : Bool} {k : MK} (h : gF w (fr.get n) = true) : WP T (⟨d, some (n, w), k⟩ :: os) live S Q fr A ↔ WP T os live S Q (putd d (.tup []) fr) A := by
  rw [WP_guard]
  generalize fr.get n = v at h ⊢
  cases v with
  | bool b => cases b <;> cases w <;> simp_all [gT, isG, gF]
  | tup xs => cases xs <;> simp_all [gT, isG, gF]
  | _ => simp_all [gT, isG, gF]
theorem WP_split {d : Option Nat} {n : Nat} {w : Bool} {k : MK} (hg : isG (fr.get n) = true) (ht : gT w (fr.get n) = true → WP T (⟨d, none, k⟩ :: os) live S Q fr A)
    (hf : gF w (fr.get n) = true → WP T os live S Q (putd d (.tup []) fr) A) : WP T (⟨d, some (n, w), k⟩ :: os) live S Q fr A := by
  by_cases h : gT w (fr.get n) = true
  · exact (WP_guard_t h).2 (ht h)
  · have : gF w (fr.get n) = true := by
      generalize fr.get n = v at h hg ⊢
      cases v with
      | bool b => cases b <;> cases w <;> simp_all [gT, isG, gF]
      | tup xs => cases xs <;> simp_all [gT, isG, gF]
      | _ => simp_all [gT, isG, gF]
    exact (WP_guard_f this).2 (hf this)

theorem WP_k {d : Option Nat} {k : MK} (hk : ∀ c f args, k ≠ .call c f args) (hc : chk ⟨d, none, k⟩ fr.get = true) :
    WP T (⟨d, none, k⟩ :: os) live S Q fr A ↔ WV T (evM k fr.get A) d os live S Q fr := by
  unfold WP
  rw [WO_one, guard_none, WG_some, if_pos rfl, hc]
  unfold WV WP
  cases k with
  | call c f args => exact absurd rfl (hk _ _ _)
  | _ => simp only [WK, true_and]; rfl

/-- Operations that leave the heap. -/
theorem WP_v {d : Option Nat} {k : MK} {o : Option AV} (hk : ∀ c f args, k ≠ .call c f args) (hc : chk ⟨d, none, k⟩ fr.get = true)
    (he : evM k fr.get A = match o with | some v => some (v, A) | none => none) :
    WP T (⟨d, none, k⟩ :: os) live S Q fr A ↔ WU T o d os live S Q fr A := by
  rw [WP_k hk hc, he]
  cases o <;> rfl

theorem WP_call {d : Option Nat} {c : CK} {f : Opd} {args : List Opd} : WP T (⟨d, none, .call c f args⟩ :: os) live S Q fr A ↔ WCf T c (f.ev fr.get) (args.map (·.ev fr.get)) d os live S Q fr A := by
  unfold WP
  rw [WO_one, guard_none, WG_some, if_pos rfl]
  simp only [chk, true_and, WK, WCf, WCR, WP]
  rfl

theorem WP_mv {d : Option Nat} {x : Opd} : WP T (⟨d, none, .mv x⟩ :: os) live S Q fr A ↔ WP T os live S Q (putd d (x.ev fr.get) fr) A :=
  WP_v (o := some (x.ev fr.get)) (by intros; simp) rfl rfl

def pickV : AV → AV → AV → Option AV
  | .bool t, a, b => some (if t = true then a else b)
  | _, _, _ => none
theorem WP_pick {d : Option Nat} {c a b : Opd} : WP T (⟨d, none, .pick c a b⟩ :: os) live S Q fr A ↔ WU T (pickV (c.ev fr.get) (a.ev fr.get) (b.ev fr.get)) d os live S Q fr A :=
  WP_v (by intros; simp) rfl (by simp only [evM]; cases c.ev fr.get <;> rfl)
theorem pickV_bool {t : Bool} {a b : AV} : pickV (.bool t) a b = some (if t = true then a else b) := rfl

def loadV (agg : Bool) (sz : Nat) (A : Heap) : AV → Option AV
  | .ptr id ver ix off => match A[id]? with
    | some b => if ver = b.els.length then match b.els[ix]? with
      | some e => loadFrom agg sz off (cellsOf e)
      | none => none
      else none
    | none => none
  | .rp cs off => loadFrom agg sz off cs
  | _ => none
theorem WP_load {d : Option Nat} {agg : Bool} {sz : Nat} {a : Opd} : WP T (⟨d, none, .load agg sz a⟩ :: os) live S Q fr A ↔ WU T (loadV agg sz A (a.ev fr.get)) d os live S Q fr A :=
  WP_v (by intros; simp) rfl (by
    simp only [evM, loadV]
    cases a.ev fr.get with
    | ptr id ver ix off =>
      simp only
      cases A[id]? with
      | none => rfl
      | some b =>
        simp only
        split
        · cases b.els[ix]? with
          | none => rfl
          | some e => simp only; cases loadFrom agg sz off (cellsOf e) <;> rfl
        · rfl
    | rp cs off => simp only; cases loadFrom agg sz off cs <;> rfl
    | _ => rfl)
theorem loadV_rp {agg : Bool} {sz off : Nat} {cs : List AV} : loadV agg sz A (.rp cs off) = loadFrom agg sz off cs := rfl
def loadB (agg : Bool) (sz ver ix off : Nat) : Option Blk → Option AV
  | some b => if ver = b.els.length then match b.els[ix]? with
      | some e => loadFrom agg sz off (cellsOf e)
      | none => none
      else none
  | none => none
theorem loadV_ptr {agg : Bool} {sz off ver id ix : Nat} : loadV agg sz A (.ptr id ver ix off) = loadB agg sz ver ix off A[id]? := by
  simp only [loadV, loadB]
def loadE (agg : Bool) (sz off : Nat) : Option AV → Option AV
  | some e => loadFrom agg sz off (cellsOf e)
  | none => none
theorem loadB_some {agg : Bool} {sz off ver ix : Nat} {b : Blk} (h : ver = b.els.length) : loadB agg sz ver ix off (some b) = loadE agg sz off b.els[ix]? := by
  simp only [loadB, loadE, if_pos h]
theorem loadE_some {agg : Bool} {sz off : Nat} {e : AV} : loadE agg sz off (some e) = loadFrom agg sz off (cellsOf e) := rfl
theorem loadFrom_1 {off : Nat} {cs : List AV} : loadFrom false 1 off cs = cs[off]? := by
  unfold loadFrom
  by_cases h : off + 1 ≤ cs.length
  · rw [if_pos h, List.drop_eq_getElem_cons (by omega)]
    rw [List.take_succ_cons, List.take_zero]
    simp [mkEl, List.getElem?_eq_getElem (show off < cs.length by omega)]
  · rw [if_neg h, List.getElem?_eq_none (by omega)]
theorem loadFrom_all {sz : Nat} {cs : List AV} (h : cs.length = sz) : loadFrom true sz 0 cs = some (.agg cs) := by
  unfold loadFrom
  rw [if_pos (by omega)]
  simp [mkEl, ← h]

def nilOk : AV → Bool
  | .ptr .. | .rp .. | .fn .. => true
  | _ => false
theorem WP_nilchk {d : Option Nat} {x : Opd} : WP T (⟨d, none, .nilchk x⟩ :: os) live S Q fr A ↔ nilOk (x.ev fr.get) = true ∧ WP T os live S Q (putd d (x.ev fr.get) fr) A := by
  rw [WP_k (by intros; simp) rfl]
  simp only [evM]
  cases x.ev fr.get <;> simp [nilOk, WV]

def faddrV (off : Nat) : AV → Option AV
  | .ptr id ver ix o => some (.ptr id ver ix (o + off))
  | .rp cs o => some (.rp cs (o + off))
  | _ => none
theorem WP_faddr {d : Option Nat} {off : Nat} {x : Opd} : WP T (⟨d, none, .faddr off x⟩ :: os) live S Q fr A ↔ WU T (faddrV off (x.ev fr.get)) d os live S Q fr A :=
  WP_v (by intros; simp) rfl (by simp only [evM]; cases x.ev fr.get <;> rfl)
theorem faddrV_ptr {off id ver ix o : Nat} : faddrV off (.ptr id ver ix o) = some (.ptr id ver ix (o + off)) := rfl
theorem faddrV_rp {off o : Nat} {cs : List AV} : faddrV off (.rp cs o) = some (.rp cs (o + off)) := rfl

theorem WP_bin {d : Option Nat} {op : BinOp} {eq : EqI} {x y : Opd} : WP T (⟨d, none, .bin op eq x y⟩ :: os) live S Q fr A ↔ WU T (evBin op eq (x.ev fr.get) (y.ev fr.get)) d os live S Q fr A :=
  WP_v (by intros; simp) rfl (by simp only [evM]; cases evBin op eq (x.ev fr.get) (y.ev fr.get) <;> rfl)
section
variable {eq : EqI} {k : IntKind} {a b : Int} {s t : List UInt8}
theorem b_add : evBin .add eq (.int k a) (.int k b) = some (.int k (k.wrap (a + b))) := by simp [evBin, intBin]
theorem b_sub : evBin .sub eq (.int k a) (.int k b) = some (.int k (k.wrap (a - b))) := by simp [evBin, intBin]
theorem b_mul : evBin .mul eq (.int k a) (.int k b) = some (.int k (k.wrap (a * b))) := by simp [evBin, intBin]
theorem b_quo : evBin .quo eq (.int k a) (.int k b) = if b = 0 then none else some (.int k (k.wrap (a.tdiv b))) := by simp [evBin, intBin]
theorem b_rem : evBin .rem eq (.int k a) (.int k b) = if b = 0 then none else some (.int k (a.tmod b)) := by simp [evBin, intBin]
theorem b_eql : evBin .eql eq (.int k a) (.int k b) = some (.bool (decide (a = b))) := by simp [evBin, intBin]
theorem b_neq : evBin .neq eq (.int k a) (.int k b) = some (.bool (!decide (a = b))) := by simp [evBin, intBin]
theorem b_lss : evBin .lss eq (.int k a) (.int k b) = some (.bool (decide (a < b))) := by simp [evBin, intBin]
theorem b_leq : evBin .leq eq (.int k a) (.int k b) = some (.bool (decide (a ≤ b))) := by simp [evBin, intBin]
theorem b_gtr : evBin .gtr eq (.int k a) (.int k b) = some (.bool (decide (b < a))) := by simp [evBin, intBin]
theorem b_geq : evBin .geq eq (.int k a) (.int k b) = some (.bool (decide (b ≤ a))) := by simp [evBin, intBin]
theorem b_sadd : evBin .add eq (.str s) (.str t) = strBin .add s t := by simp [evBin]
theorem b_seql : evBin .eql eq (.str s) (.str t) = some (.bool (s == t)) := by simp [evBin, strBin]
theorem b_sneq : evBin .neq eq (.str s) (.str t) = some (.bool (!(s == t))) := by simp [evBin, strBin]
theorem b_beql {p q : Bool} : evBin .eql (.scal .bool) (.bool p) (.bool q) = some (.bool (p == q)) := by simp [evBin, evEq, scalEq]
theorem b_bneq {p q : Bool} : evBin .neq (.scal .bool) (.bool p) (.bool q) = some (.bool (!(p == q))) := by simp [evBin, evEq, scalEq]
end
theorem WP_un {d : Option Nat} {op : UnOp} {x : Opd} : WP T (⟨d, none, .un op x⟩ :: os) live S Q fr A ↔ WU T (evUn op (x.ev fr.get)) d os live S Q fr A :=
  WP_v (by intros; simp) rfl (by simp only [evM]; cases evUn op (x.ev fr.get) <;> rfl)
theorem u_not {b : Bool} : evUn .not (.bool b) = some (.bool !b) := rfl
theorem u_neg {k : IntKind} {n : Int} : evUn .neg (.int k n) = some (.int k (k.wrap (0 - n))) := rfl

def lenV : AV → Option AV
  | .lst _ _ _ xs => some (.int .i64 xs.length)
  | .sl _ _ _ _ len => some (.int .i64 len)
  | _ => none
theorem WP_len {d : Option Nat} {x : Opd} : WP T (⟨d, none, .len false x⟩ :: os) live S Q fr A ↔ WU T (lenV (x.ev fr.get)) d os live S Q fr A :=
  WP_v (by intros; simp) rfl (by simp only [evM]; cases x.ev fr.get <;> rfl)
theorem lenV_lst {p nil : Bool} {sz : Nat} {xs : List AV} : lenV (.lst p sz nil xs) = some (.int .i64 (xs.length : Nat)) := rfl
theorem lenV_sl {id sz ver off len : Nat} : lenV (.sl id sz ver off len) = some (.int .i64 (len : Nat)) := rfl

def iaddrV (sz : Nat) : AV → AV → Option AV
  | .sl id s ver off len, .int _ n => if s = sz ∧ 0 ≤ n ∧ n < len then some (.ptr id ver (off + n.toNat) 0) else none
  | .lst _ s _ xs, .int _ n => if 0 ≤ n ∧ n < xs.length then
      match xs[n.toNat]? with
      | some e => if s = sz then some (.rp (cellsOf e) 0) else none
      | none => none
    else none
  | _, _ => none
theorem WP_iaddr {d : Option Nat} {sz : Nat} {x i : Opd} : WP T (⟨d, none, .iaddr sz x i⟩ :: os) live S Q fr A ↔ WU T (iaddrV sz (x.ev fr.get) (i.ev fr.get)) d os live S Q fr A :=
  WP_v (by intros; simp) rfl (by
    simp only [evM]
    cases hi : i.ev fr.get <;> cases hx : x.ev fr.get <;> try rfl
    · simp only [iaddrV]; split <;> rfl
    · rename_i k n p s nil xs
      simp only [iaddrV]
      by_cases h0 : 0 ≤ n
      · rw [if_pos h0]
        by_cases h1 : n < xs.length
        · rw [if_pos ⟨h0, h1⟩]
          cases xs[n.toNat]? with
          | none => rfl
          | some e => simp only; split <;> rfl
        · rw [if_neg (by omega), List.getElem?_eq_none (by omega)]
      · rw [if_neg h0, if_neg (by omega)])
theorem iaddr_sl {id sz ver off len : Nat} {k : IntKind} {n : Int} (h0 : 0 ≤ n) (h1 : n < len) : iaddrV sz (.sl id sz ver off len) (.int k n) = some (.ptr id ver (off + n.toNat) 0) := by
  simp [iaddrV, h0, h1]
theorem iaddr_lst {p nil : Bool} {sz : Nat} {xs : List AV} {k : IntKind} {n : Int} {e : AV} (h0 : 0 ≤ n) (he : xs[n.toNat]? = some e) : iaddrV sz (.lst p sz nil xs) (.int k n) = some (.rp (cellsOf e) 0) := by
  have : n < xs.length := by have := (List.getElem?_eq_some_iff.1 he).1; omega
  simp only [iaddrV, h0, this, he, and_self, if_true]

def iaG : Option AV → Option AV
  | some e => some (.rp (cellsOf e) 0)
  | none => none
theorem iaddr_lst' {p nil : Bool} {sz : Nat} {xs : List AV} {k : IntKind} {n : Int} : iaddrV sz (.lst p sz nil xs) (.int k n) = if 0 ≤ n then iaG xs[n.toNat]? else none := by
  simp only [iaddrV]
  by_cases h0 : 0 ≤ n
  · by_cases h1 : n < xs.length
    · rw [if_pos ⟨h0, h1⟩, if_pos h0]
      cases xs[n.toNat]? <;> simp [iaG]
    · rw [if_neg (by omega), if_pos h0, List.getElem?_eq_none (by omega)]; rfl
  · rw [if_neg (by omega), if_neg h0]
theorem iaG_some {e : AV} : iaG (some e) = some (.rp (cellsOf e) 0) := rfl

theorem WP_rbox {d : Option Nat} {sz : Nat} {x : Opd} : WP T (⟨d, none, .rbox sz x⟩ :: os) live S Q fr A ↔ (storable (x.ev fr.get) = true ∧ (cellsOf (x.ev fr.get)).length = sz) ∧ WP T os live S Q (putd d (.rp (cellsOf (x.ev fr.get)) 0) fr) A := by
  rw [WP_k (by intros; simp) rfl]
  simp only [evM]
  split
  · rename_i h; simp [h, WV]
  · rename_i h; simp [h, WV]
theorem WP_box {d : Option Nat} {ty sz : Nat} {x : Opd} : WP T (⟨d, none, .box ty sz x⟩ :: os) live S Q fr A ↔ (storable (x.ev fr.get) = true ∧ (cellsOf (x.ev fr.get)).length = sz) ∧ WP T os live S Q (putd d (.ptr A.length 1 0 0) fr) (A ++ [⟨ty, sz, [x.ev fr.get]⟩]) := by
  rw [WP_k (by intros; simp) rfl]
  simp only [evM]
  split
  · rename_i h; simp [h, WV]
  · rename_i h; simp [h, WV]
theorem WP_alloc {d : Option Nat} {ty sz : Nat} {z : AV} : WP T (⟨d, none, .alloc ty sz z⟩ :: os) live S Q fr A ↔ WP T os live S Q (putd d (.ptr A.length 1 0 0) fr) (A ++ [⟨ty, sz, [z]⟩]) := by
  rw [WP_k (by intros; simp) rfl]; rfl

/-- A store by place. -/
def storeB (sz ver ix off : Nat) (x : AV) (b : Blk) : Option Blk := match b.els[ix]? with
  | some e => if ver = b.els.length ∧ storable x ∧ (cellsOf x).length = sz ∧ off + sz ≤ (cellsOf e).length then
      match mkEl (e matches .agg _) ((cellsOf e).take off ++ cellsOf x ++ (cellsOf e).drop (off + sz)) with
      | some e' => some ⟨b.ty, b.sz, b.els.set ix e'⟩
      | none => none
    else none
  | none => none
def storeV (sz : Nat) (A : Heap) (x : AV) : AV → Option (AV × Heap)
  | .ptr id ver ix off => match A[id]? with
    | some b => match storeB sz ver ix off x b with
      | some b' => some (.junk, A.set id b')
      | none => none
    | none => none
  | _ => none
theorem WP_store {d : Option Nat} {sz : Nat} {a x : Opd} : WP T (⟨d, none, .store sz a x⟩ :: os) live S Q fr A ↔ WV T (storeV sz A (x.ev fr.get) (a.ev fr.get)) d os live S Q fr := by
  rw [WP_k (by intros; simp) rfl]
  have : evM (.store sz a x) fr.get A = storeV sz A (x.ev fr.get) (a.ev fr.get) := by
    simp only [evM, storeV, storeB]
    cases a.ev fr.get with
    | ptr id ver ix off =>
      simp only
      cases A[id]? with
      | none => rfl
      | some b =>
        simp only
        cases b.els[ix]? with
        | none => rfl
        | some e =>
          simp only
          split
          · generalize mkEl _ _ = o
            cases o <;> rfl
          · rfl
    | _ => rfl
  rw [this]
def storeO (sz id : Nat) (A : Heap) : Option Blk → Option (AV × Heap)
  | some b => some (.junk, A.set id b)
  | none => none
def storeG (sz id ver ix off : Nat) (x : AV) (A : Heap) : Option Blk → Option (AV × Heap)
  | some b => storeO sz id A (storeB sz ver ix off x b)
  | none => none
theorem storeV_ptr {sz id ver ix off : Nat} {x : AV} : storeV sz A x (.ptr id ver ix off) = storeG sz id ver ix off x A A[id]? := by
  simp only [storeV, storeG, storeO]
theorem storeG_some {sz id ver ix off : Nat} {x : AV} {b : Blk} : storeG sz id ver ix off x A (some b) = storeO sz id A (storeB sz ver ix off x b) := rfl
theorem storeO_some {sz id : Nat} {b : Blk} : storeO sz id A (some b) = some (.junk, A.set id b) := rfl
/-- a whole struct -/
theorem storeB_agg {sz ver ix ty bsz : Nat} {xs : List AV} {els : List AV} {cs : List AV} (he : els[ix]? = some (.agg cs)) (hv : ver = els.length) (hx : xs.length = sz) (hc : cs.length = sz) :
    storeB sz ver ix 0 (.agg xs) ⟨ty, bsz, els⟩ = some ⟨ty, bsz, els.set ix (.agg xs)⟩ := by
  have hd : cs.drop sz = [] := List.drop_eq_nil_of_le (by omega)
  simp [storeB, he, hv, storable, cellsOf, hx, hc, mkEl, hd]
def scalV : AV → Bool
  | .junk | .tup _ | .agg _ => false
  | _ => true
theorem scalV_cells {v : AV} (h : scalV v = true) : storable v = true ∧ cellsOf v = [v] ∧ (v matches .agg _) = false := by
  cases v <;> first
    | (cases h; done)
    | exact ⟨rfl, rfl, rfl⟩
theorem sc_int {k : IntKind} {n : Int} : scalV (.int k n) = true := by simp only [scalV]
theorem st_int {k : IntKind} {n : Int} : storable (.int k n) = true := by simp only [storable]
theorem ce_int {k : IntKind} {n : Int} : cellsOf (.int k n) = [(.int k n)] := rfl
theorem sc_bool {b : Bool} : scalV (.bool b) = true := by simp only [scalV]
theorem st_bool {b : Bool} : storable (.bool b) = true := by simp only [storable]
theorem ce_bool {b : Bool} : cellsOf (.bool b) = [(.bool b)] := rfl
theorem sc_str {s : List UInt8} : scalV (.str s) = true := by simp only [scalV]
theorem st_str {s : List UInt8} : storable (.str s) = true := by simp only [storable]
theorem ce_str {s : List UInt8} : cellsOf (.str s) = [(.str s)] := rfl
theorem sc_nilp  : scalV .nilp = true := by simp only [scalV]
theorem st_nilp  : storable .nilp = true := by simp only [storable]
theorem ce_nilp  : cellsOf .nilp = [.nilp] := rfl
theorem sc_ptr {a b c d : Nat} : scalV (.ptr a b c d) = true := by simp only [scalV]
theorem st_ptr {a b c d : Nat} : storable (.ptr a b c d) = true := by simp only [storable]
theorem ce_ptr {a b c d : Nat} : cellsOf (.ptr a b c d) = [(.ptr a b c d)] := rfl
theorem sc_rp {cs : List AV} {o : Nat} : scalV (.rp cs o) = true := by simp only [scalV]
theorem st_rp {cs : List AV} {o : Nat} : storable (.rp cs o) = true := by simp only [storable]
theorem ce_rp {cs : List AV} {o : Nat} : cellsOf (.rp cs o) = [(.rp cs o)] := rfl
theorem sc_sl {a b c d e : Nat} : scalV (.sl a b c d e) = true := by simp only [scalV]
theorem st_sl {a b c d e : Nat} : storable (.sl a b c d e) = true := by simp only [storable]
theorem ce_sl {a b c d e : Nat} : cellsOf (.sl a b c d e) = [(.sl a b c d e)] := rfl
theorem sc_lst {p n : Bool} {s : Nat} {xs : List AV} : scalV (.lst p s n xs) = true := by simp only [scalV]
theorem st_lst {p n : Bool} {s : Nat} {xs : List AV} : storable (.lst p s n xs) = true := by simp only [storable]
theorem ce_lst {p n : Bool} {s : Nat} {xs : List AV} : cellsOf (.lst p s n xs) = [(.lst p s n xs)] := rfl
theorem sc_fn {f : FuncId} {a b : List AV} : scalV (.fn f a b) = true := by simp only [scalV]
theorem st_fn {f : FuncId} {a b : List AV} : storable (.fn f a b) = true := by simp only [storable]
theorem ce_fn {f : FuncId} {a b : List AV} : cellsOf (.fn f a b) = [(.fn f a b)] := rfl
theorem sc_nilf  : scalV .nilf = true := by simp only [scalV]
theorem st_nilf  : storable .nilf = true := by simp only [storable]
theorem ce_nilf  : cellsOf .nilf = [.nilf] := rfl
theorem sc_iface {t : TypeId} {v : AV} : scalV (.iface t v) = true := by simp only [scalV]
theorem st_iface {t : TypeId} {v : AV} : storable (.iface t v) = true := by simp only [storable]
theorem ce_iface {t : TypeId} {v : AV} : cellsOf (.iface t v) = [(.iface t v)] := rfl
theorem sc_nili  : scalV .nili = true := by simp only [scalV]
theorem st_nili  : storable .nili = true := by simp only [storable]
theorem ce_nili  : cellsOf .nili = [.nili] := rfl
theorem st_agg {xs : List AV} : storable (.agg xs) = true := by simp only [storable]
theorem ce_agg {xs : List AV} : cellsOf (.agg xs) = xs := rfl
/-- one cell of a struct -/
theorem storeB_cell {ver ix off ty bsz : Nat} {x : AV} {els cs : List AV} (he : els[ix]? = some (.agg cs)) (hv : ver = els.length) (hs : scalV x = true) (hc : off < cs.length) :
    storeB 1 ver ix off x ⟨ty, bsz, els⟩ = some ⟨ty, bsz, els.set ix (.agg (cs.set off x))⟩ := by
  have hset : cs.set off x = cs.take off ++ [x] ++ cs.drop (off + 1) := by
    rw [List.set_eq_take_append_cons_drop, if_pos hc]; simp
  have h1 : off + 1 ≤ cs.length := hc
  rw [hset]
  cases x <;> first
    | (cases hs; done)
    | simp [storeB, he, hv, storable, cellsOf, mkEl, h1]
/-- a variable that is no struct -/
theorem storeB_scal {ver ix ty bsz : Nat} {x e : AV} {els : List AV} (he : els[ix]? = some e) (hv : ver = els.length) (hs : scalV x = true) (hc : scalV e = true) :
    storeB 1 ver ix 0 x ⟨ty, bsz, els⟩ = some ⟨ty, bsz, els.set ix x⟩ := by
  have hx : storable x = true ∧ cellsOf x = [x] := by cases x <;> first | (cases hs; done) | exact ⟨rfl, rfl⟩
  unfold storeB
  rw [he]
  simp only [hx.1, hx.2, hv]
  cases e <;> first
    | (cases hc; done)
    | simp [cellsOf, mkEl]

def storeE (sz ver off ix : Nat) (x : AV) (ty bsz : Nat) (els : List AV) : Option AV → Option Blk
  | some e => if ver = els.length ∧ storable x ∧ (cellsOf x).length = sz ∧ off + sz ≤ (cellsOf e).length then
      match mkEl (e matches .agg _) ((cellsOf e).take off ++ cellsOf x ++ (cellsOf e).drop (off + sz)) with
      | some e' => some ⟨ty, bsz, els.set ix e'⟩
      | none => none
    else none
  | none => none
theorem storeB_get {sz ver ix off ty bsz : Nat} {x : AV} {els : List AV} : storeB sz ver ix off x ⟨ty, bsz, els⟩ = storeE sz ver off ix x ty bsz els els[ix]? := by
  simp only [storeB, storeE]
theorem storeE_agg {sz ver ix ty bsz : Nat} {xs els cs : List AV} (hv : ver = els.length) (hx : xs.length = sz) (hc : cs.length = sz) : storeE sz ver 0 ix (.agg xs) ty bsz els (some (.agg cs)) = some ⟨ty, bsz, els.set ix (.agg xs)⟩ := by
  have hd : cs.drop sz = [] := List.drop_eq_nil_of_le (by omega)
  simp [storeE, hv, storable, cellsOf, hx, hc, mkEl, hd]
theorem storeE_cell {ver ix off ty bsz : Nat} {x : AV} {els cs : List AV} (hv : ver = els.length) (hs : scalV x = true) (hc : off < cs.length) : storeE 1 ver off ix x ty bsz els (some (.agg cs)) = some ⟨ty, bsz, els.set ix (.agg (cs.set off x))⟩ := by
  have hset : cs.set off x = cs.take off ++ [x] ++ cs.drop (off + 1) := by
    rw [List.set_eq_take_append_cons_drop, if_pos hc]; simp
  have h1 : off + 1 ≤ cs.length := hc
  rw [hset]
  cases x <;> first
    | (cases hs; done)
    | simp [storeE, hv, storable, cellsOf, mkEl, h1]
theorem storeE_scal {ver ix ty bsz : Nat} {x e : AV} {els : List AV} (hv : ver = els.length) (hs : scalV x = true) (hc : scalV e = true) : storeE 1 ver 0 ix x ty bsz els (some e) = some ⟨ty, bsz, els.set ix x⟩ := by
  have hx : storable x = true ∧ cellsOf x = [x] := by cases x <;> first | (cases hs; done) | exact ⟨rfl, rfl⟩
  unfold storeE
  simp only [hx.1, hx.2, hv]
  cases e <;> first
    | (cases hc; done)
    | simp [cellsOf, mkEl]

/-! ### the others -/
theorem WP_build {d : Option Nat} {z : List AV} {ps : List (Nat × Nat × Opd)} : WP T (⟨d, none, .build z ps⟩ :: os) live S Q fr A ↔ WV T (evM (.build z ps) fr.get A) d os live S Q fr := WP_k (by intros; simp) rfl
theorem WP_bsl {d : Option Nat} {a b : Nat} {z : List AV} {ps : List (Nat × Opd)} : WP T (⟨d, none, .bsl a b z ps⟩ :: os) live S Q fr A ↔ WV T (evM (.bsl a b z ps) fr.get A) d os live S Q fr := WP_k (by intros; simp) rfl
theorem WP_rbsl {d : Option Nat} {b : Nat} {z : List AV} {ps : List (Nat × Opd)} : WP T (⟨d, none, .rbsl b z ps⟩ :: os) live S Q fr A ↔ WV T (evM (.rbsl b z ps) fr.get A) d os live S Q fr := WP_k (by intros; simp) rfl
theorem WP_cvt {d : Option Nat} {k : IntKind} {x : Opd} : WP T (⟨d, none, .cvt k x⟩ :: os) live S Q fr A ↔ WV T (evM (.cvt k x) fr.get A) d os live S Q fr := WP_k (by intros; simp) rfl
theorem WP_fld {d : Option Nat} {g : Bool} {a b : Nat} {x : Opd} : WP T (⟨d, none, .fld g a b x⟩ :: os) live S Q fr A ↔ WV T (evM (.fld g a b x) fr.get A) d os live S Q fr := WP_k (by intros; simp) rfl
theorem WP_iaddrA {d : Option Nat} {a b : Nat} {x y : Opd} : WP T (⟨d, none, .iaddrA a b x y⟩ :: os) live S Q fr A ↔ WV T (evM (.iaddrA a b x y) fr.get A) d os live S Q fr := WP_k (by intros; simp) rfl
theorem WP_idxS {d : Option Nat} {x y : Opd} : WP T (⟨d, none, .idxS x y⟩ :: os) live S Q fr A ↔ WV T (evM (.idxS x y) fr.get A) d os live S Q fr := WP_k (by intros; simp) rfl
theorem WP_idxA {d : Option Nat} {g : Bool} {a b : Nat} {x y : Opd} : WP T (⟨d, none, .idxA g a b x y⟩ :: os) live S Q fr A ↔ WV T (evM (.idxA g a b x y) fr.get A) d os live S Q fr := WP_k (by intros; simp) rfl
theorem WP_slcx {d : Option Nat} {a : Nat} {x : Opd} {l h : Option Opd} : WP T (⟨d, none, .slcx a x l h⟩ :: os) live S Q fr A ↔ WV T (evM (.slcx a x l h) fr.get A) d os live S Q fr := WP_k (by intros; simp) rfl
theorem WP_slcS {d : Option Nat} {x : Opd} {l h : Option Opd} : WP T (⟨d, none, .slcS x l h⟩ :: os) live S Q fr A ↔ WV T (evM (.slcS x l h) fr.get A) d os live S Q fr := WP_k (by intros; simp) rfl
theorem WP_slcA {d : Option Nat} {a b : Nat} {x : Opd} {l h : Option Opd} : WP T (⟨d, none, .slcA a b x l h⟩ :: os) live S Q fr A ↔ WV T (evM (.slcA a b x l h) fr.get A) d os live S Q fr := WP_k (by intros; simp) rfl
theorem WP_mksl {d : Option Nat} {a b c : Nat} {z : AV} {x y : Opd} : WP T (⟨d, none, .mksl a b c z x y⟩ :: os) live S Q fr A ↔ WV T (evM (.mksl a b c z x y) fr.get A) d os live S Q fr := WP_k (by intros; simp) rfl
theorem WP_mkif {d : Option Nat} {t : TypeId} {x : Opd} : WP T (⟨d, none, .mkif t x⟩ :: os) live S Q fr A ↔ WP T os live S Q (putd d (.iface t (x.ev fr.get)) fr) A := by rw [WP_k (by intros; simp) rfl]; rfl
theorem WP_slen {d : Option Nat} {x : Opd} : WP T (⟨d, none, .len true x⟩ :: os) live S Q fr A ↔ WV T (evM (.len true x) fr.get A) d os live S Q fr := WP_k (by intros; simp) rfl
theorem WP_copy {d : Option Nat} {a : Nat} {x y : Opd} : WP T (⟨d, none, .copy a x y⟩ :: os) live S Q fr A ↔ WV T (evM (.copy a x y) fr.get A) d os live S Q fr := WP_k (by intros; simp) rfl
theorem WP_clear {d : Option Nat} {a : Nat} {z : AV} {y : Opd} : WP T (⟨d, none, .clear a z y⟩ :: os) live S Q fr A ↔ WV T (evM (.clear a z y) fr.get A) d os live S Q fr := WP_k (by intros; simp) rfl
theorem WP_mm {d : Option Nat} {a : Bool} {xs : List Opd} : WP T (⟨d, none, .mm a xs⟩ :: os) live S Q fr A ↔ WV T (evM (.mm a xs) fr.get A) d os live S Q fr := WP_k (by intros; simp) rfl
theorem WP_mkfn {d : Option Nat} {f : FuncId} {a b : List Opd} : WP T (⟨d, none, .mkfn f a b⟩ :: os) live S Q fr A ↔ WP T os live S Q (putd d (.fn f (a.map (·.ev fr.get)) (b.map (·.ev fr.get))) fr) A := by rw [WP_k (by intros; simp) rfl]; rfl
def extV (i : Nat) : AV → Option AV
  | .tup vs => vs[i]?
  | _ => none
theorem WP_ext {d : Option Nat} {i : Nat} {x : Opd} : WP T (⟨d, none, .ext i x⟩ :: os) live S Q fr A ↔ WU T (extV i (x.ev fr.get)) d os live S Q fr A :=
  WP_v (by intros; simp) rfl (by
    simp only [evM, extV]
    cases x.ev fr.get with
    | tup vs => cases h : vs[i]? <;> simp [h]
    | _ => rfl)
theorem extV_tup {i : Nat} {vs : List AV} : extV i (.tup vs) = vs[i]? := rfl

/-- cutting a slice, its bounds told -/
def bndV (dflt : Nat) : Option AV → Option Int
  | none => some dflt
  | some (.int _ i) => some i
  | _ => none
def slcV (sz : Nat) (lo hi : Option AV) : AV → Option AV
  | .sl id s ver off len => match bndV 0 lo, bndV len hi with
    | some l, some h => if s = sz ∧ 0 ≤ l ∧ l ≤ h ∧ h ≤ len then some (.sl id s ver (off + l.toNat) (h.toNat - l.toNat)) else none
    | _, _ => none
  | .lst p s nil xs => match bndV 0 lo, bndV xs.length hi with
    | some l, some h => if (s = sz ∨ xs = []) ∧ 0 ≤ l ∧ l ≤ h ∧ h ≤ xs.length then some (.lst p s nil ((xs.drop l.toNat).take (h.toNat - l.toNat))) else none
    | _, _ => none
  | _ => none
theorem bound_eq (g : Nat → AV) (n : Nat) (o : Option Opd) : bound g n o = bndV n (o.map (·.ev g)) := by
  cases o with
  | none => rfl
  | some x => simp only [bound, Option.map, bndV]; cases x.ev g <;> rfl
theorem WP_slc {d : Option Nat} {sz : Nat} {x : Opd} {lo hi : Option Opd} : WP T (⟨d, none, .slc sz x lo hi none⟩ :: os) live S Q fr A ↔
    WU T (slcV sz (lo.map (·.ev fr.get)) (hi.map (·.ev fr.get)) (x.ev fr.get)) d os live S Q fr A :=
  WP_v (by intros; simp) rfl (by
    simp only [evM, slcV, bound_eq]
    cases x.ev fr.get with
    | sl id s ver off len =>
      simp only
      generalize bndV 0 _ = a
      generalize bndV len _ = b
      cases a <;> cases b <;> try rfl
      simp only; split <;> rfl
    | lst p s nil xs =>
      simp only
      generalize bndV 0 _ = a
      generalize bndV xs.length _ = b
      cases a <;> cases b <;> try rfl
      simp only; split <;> rfl
    | _ => rfl)
theorem slc_lst_hi {p nil : Bool} {sz : Nat} {xs : List AV} {k : IntKind} {h : Int} (h0 : 0 ≤ h) (h1 : h ≤ xs.length) :
    slcV sz none (some (.int k h)) (.lst p sz nil xs) = some (.lst p sz nil (xs.take h.toNat)) := by
  simp [slcV, bndV, h0, h1]
theorem slc_lst_lo {p nil : Bool} {sz : Nat} {xs : List AV} {k : IntKind} {l : Int} (h0 : 0 ≤ l) (h1 : l ≤ xs.length) :
    slcV sz (some (.int k l)) none (.lst p sz nil xs) = some (.lst p sz nil (xs.drop l.toNat)) := by
  have : ((xs.drop l.toNat).take (xs.length - l.toNat)) = xs.drop l.toNat := List.take_of_length_le (by simp)
  simp [slcV, bndV, h0, h1, this]
theorem slc_lst {p nil : Bool} {sz : Nat} {xs : List AV} {k k' : IntKind} {l h : Int} (h0 : 0 ≤ l) (h2 : l ≤ h) (h1 : h ≤ xs.length) :
    slcV sz (some (.int k l)) (some (.int k' h)) (.lst p sz nil xs) = some (.lst p sz nil ((xs.drop l.toNat).take (h.toNat - l.toNat))) := by
  simp [slcV, bndV, h0, h1, h2]
theorem slc_sl_hi {id sz ver off len : Nat} {k : IntKind} {h : Int} (h0 : 0 ≤ h) (h1 : h ≤ len) :
    slcV sz none (some (.int k h)) (.sl id sz ver off len) = some (.sl id sz ver off h.toNat) := by
  simp [slcV, bndV, h0, h1]
theorem slc_sl_lo {id sz ver off len : Nat} {k : IntKind} {l : Int} (h0 : 0 ≤ l) (h1 : l ≤ len) :
    slcV sz (some (.int k l)) none (.sl id sz ver off len) = some (.sl id sz ver (off + l.toNat) (len - l.toNat)) := by
  simp [slcV, bndV, h0, h1]

/-- appending -/
def appV (ty sz bytes : Nat) (A : Heap) (s : AV) (x : AV) : Option (AV × Heap) := match elemsOf A x with
  | some xs => if szOk sz x then appEls ty A sz bytes s xs else none
  | none => none
theorem WP_append {d : Option Nat} {ty sz bytes : Nat} {s x : Opd} : WP T (⟨d, none, .append ty sz bytes s x []⟩ :: os) live S Q fr A ↔ WV T (appV ty sz bytes A (s.ev fr.get) (x.ev fr.get)) d os live S Q fr :=
  WP_k (by intros; simp) (by simp [chk])
theorem appV_lst {ty sz bytes : Nat} {s : AV} {p nil : Bool} {xs : List AV} : appV ty sz bytes A s (.lst p sz nil xs) = appEls ty A sz bytes s xs := by
  simp [appV, elemsOf, szOk]
theorem appV_sl {ty sz bytes : Nat} {s : AV} {id ver off len : Nat} {b : Blk} (hb : A[id]? = some b) (hv : ver = b.els.length) (hl : off + len ≤ ver) : appV ty sz bytes A s (.sl id sz ver off len) = appEls ty A sz bytes s ((b.els.drop off).take len) := by
  subst hv
  simp [appV, elemsOf, szOk, hb, hl]
theorem app_none {ty sz bytes : Nat} {p nil : Bool} {s' : Nat} {ys : List AV} : appEls ty A sz bytes (.lst p s' nil ys) [] = some (.lst p s' nil ys, A) := by
  simp [appEls]
theorem app_new {ty sz bytes : Nat} {p : Bool} {s' : Nat} {xs : List AV} (h : xs ≠ []) (hb : xs.length * bytes ≤ 140737488355328) : appEls ty A sz bytes (.lst p s' true []) xs = some (.sl A.length sz xs.length 0 xs.length, A ++ [⟨ty, sz, xs⟩]) := by
  have h' : xs.isEmpty = false := by cases xs <;> simp_all
  simp [appEls, hb, h']
theorem app_end {ty sz bytes bsz : Nat} {id ver len : Nat} {els xs : List AV} (hA : A[id]? = some ⟨ty, bsz, els⟩) (hv : ver = els.length) (hl : len = ver) (hb : (len + xs.length) * bytes ≤ 140737488355328) :
    appEls ty A sz bytes (.sl id sz ver 0 len) xs = some (.sl id sz (ver + xs.length) 0 (len + xs.length), A.set id ⟨ty, bsz, els ++ xs⟩) := by
  subst hv hl
  cases xs with
  | nil => simp at hb; simp [appEls, hA, hb]
  | cons x r =>
    simp only [List.length_cons] at hb
    simp [appEls, hA, hb]
theorem app_in {ty sz bytes bsz bty : Nat} {id ver off len : Nat} {els xs : List AV} (hA : A[id]? = some ⟨bty, bsz, els⟩) (hv : ver = els.length) (hl : off + len + xs.length ≤ ver) (hb : (len + xs.length) * bytes ≤ 140737488355328) :
    appEls ty A sz bytes (.sl id sz ver off len) xs = some (.sl id sz ver off (len + xs.length), A.set id ⟨bty, bsz, els.take (off + len) ++ xs ++ els.drop (off + len + xs.length)⟩) := by
  subst hv
  have h2 : off + len ≤ els.length := by omega
  simp [appEls, hA, hb, hl, h2]

theorem wsucc {i : Nat} (h : i < 4611686018427387904) : IntKind.i64.wrap ((i : Int) + 1) = ((i + 1 : Nat) : Int) := by
  rw [wrap_in _ (by omega) (by omega)]; rfl
theorem cast0 : (0 : Int) = ((0 : Nat) : Int) := rfl
theorem WF_Pure {f : FuncId} {args : List AV} {r : AV} : Pure T f args r ↔ WF T f args [] (fun v A1 => giveBackT A1 depth v = some r) := Iff.rfl
theorem Pure_of {f : FuncId} {m : MFunc} (hm : T f = some (.code m)) {args : List AV} {r : AV} : Pure T f args r ↔ WS T m.body [] (RQ m.res (fun v A1 => giveBackT A1 depth v = some r)) (params 0 args) [] := WS_of hm

/-! ### giving back and lending own slices -/
def gbL (sz : Nat) : Option (List AV) → Option AV
  | some ys => some (.lst true sz false ys)
  | none => none
def gbB (A : Heap) (d sz ver off len : Nat) : Option Blk → Option AV
  | some b => if ver = b.els.length ∧ off + len ≤ ver then gbL sz (mapO (giveBack A d) ((b.els.drop off).take len)) else none
  | none => none
theorem gb_get {d id sz ver off len : Nat} : giveBack A (d + 1) (.sl id sz ver off len) = gbB A d sz ver off len A[id]? := by
  simp only [giveBack, gbB, gbL]
  cases A[id]? <;> rfl
theorem gbB_some {d sz ver off len : Nat} {b : Blk} (hv : ver = b.els.length) (hl : off + len ≤ ver) : gbB A d sz ver off len (some b) = gbL sz (mapO (giveBack A d) ((b.els.drop off).take len)) := by
  simp only [gbB, if_pos (And.intro hv hl)]
theorem gbL_some {sz : Nat} {ys : List AV} : gbL sz (some ys) = some (.lst true sz false ys) := rfl
def boL (sz : Nat) : Option (List AV) → Option AV
  | some ys => some (.lst false sz false ys)
  | none => none
def boB (A : Heap) (d sz ver off len : Nat) : Option Blk → Option AV
  | some b => if ver = b.els.length ∧ off + len ≤ ver then boL sz (mapO (borrow A d) ((b.els.drop off).take len)) else none
  | none => none
theorem bo_get {d id sz ver off len : Nat} : borrow A (d + 1) (.sl id sz ver off len) = boB A d sz ver off len A[id]? := by
  simp only [borrow, boB, boL]
  cases A[id]? <;> rfl
theorem boB_some {d sz ver off len : Nat} {b : Blk} (hv : ver = b.els.length) (hl : off + len ≤ ver) : boB A d sz ver off len (some b) = boL sz (mapO (borrow A d) ((b.els.drop off).take len)) := by
  simp only [boB, if_pos (And.intro hv hl)]
theorem boL_some {sz : Nat} {ys : List AV} : boL sz (some ys) = some (.lst false sz false ys) := rfl

/-! ### slices that are built up -/
/-- A slice under way: nil with nothing in it, or a block of its own up to its end. -/
def Bld (A : Heap) (ty sz : Nat) (v : AV) (xs : List AV) : Prop := (v = .lst true 0 true [] ∧ xs = []) ∨ ∃ id, v = .sl id sz xs.length 0 xs.length ∧ A[id]? = some ⟨ty, sz, xs⟩
/-- It does not lie in a block. -/
def Off (v : AV) (k : Nat) : Prop := ∀ id sz ver off len, v = .sl id sz ver off len → id ≠ k
theorem Bld.nil (A : Heap) (ty sz : Nat) : Bld A ty sz (.lst true 0 true []) [] := .inl ⟨rfl, rfl⟩
theorem Off.nil (k : Nat) : Off (.lst true 0 true []) k := fun _ _ _ _ _ h => by cases h
theorem Bld.more {A B : Heap} {ty sz : Nat} {v : AV} {xs : List AV} (h : Bld A ty sz v xs) : Bld (A ++ B) ty sz v xs := by
  rcases h with h | ⟨id, h1, h2⟩
  · exact .inl h
  · exact .inr ⟨id, h1, h_get_of h2⟩
theorem Bld.set {A : Heap} {ty sz k : Nat} {v : AV} {xs : List AV} {b : Blk} (h : Bld A ty sz v xs) (ho : Off v k) : Bld (A.set k b) ty sz v xs := by
  rcases h with h | ⟨id, h1, h2⟩
  · exact .inl h
  · refine .inr ⟨id, h1, ?_⟩
    rw [List.getElem?_set_ne (fun e => ho _ _ _ _ _ h1 e.symm), h2]
/-- What an append does. -/
theorem Bld.app {ty sz bytes : Nat} {v : AV} {xs ys : List AV} (h : Bld A ty sz v xs) (hne : ys ≠ []) (hb : (xs.length + ys.length) * bytes ≤ 140737488355328) :
    ∃ v' A', appEls ty A sz bytes v ys = some (v', A') ∧ Bld A' ty sz v' (xs ++ ys) ∧ A.length ≤ A'.length ∧ (∀ k, k < A.length → Off v k → Off v' k ∧ A'[k]? = A[k]?) := by
  rcases h with ⟨rfl, rfl⟩ | ⟨id, rfl, h2⟩
  · refine ⟨_, _, app_new hne (by simpa using hb), .inr ⟨A.length, rfl, ?_⟩, by simp, fun k hk _ => ⟨fun id' _ _ _ _ e => ?_, ?_⟩⟩
    · rw [h_get0]; rfl
    · cases e; omega
    · exact h_get_lt hk
  · refine ⟨_, _, app_end h2 rfl rfl hb, .inr ⟨id, by simp, ?_⟩, by simp, fun k hk ho => ⟨fun id' _ _ _ _ e => ?_, ?_⟩⟩
    · exact h_set_get (lt_of_get h2)
    · cases e; exact ho _ _ _ _ _ rfl
    · rw [List.getElem?_set_ne (ho _ _ _ _ _ rfl)]
theorem WV_app {ty sz bytes : Nat} {v : AV} {xs ys : List AV} {d : Option Nat} (h : Bld A ty sz v xs) (hne : ys ≠ []) (hb : (xs.length + ys.length) * bytes ≤ 140737488355328)
    (k : ∀ v' A', Bld A' ty sz v' (xs ++ ys) → A.length ≤ A'.length → (∀ k, k < A.length → Off v k → Off v' k ∧ A'[k]? = A[k]?) → WP T os live S Q (putd d v' fr) A') :
    WV T (appEls ty A sz bytes v ys) d os live S Q fr := by
  obtain ⟨v', A', h1, h2, h3, h4⟩ := h.app hne hb
  rw [h1]
  exact k v' A' h2 h3 h4
theorem Bld.len {ty sz : Nat} {v : AV} {xs : List AV} (h : Bld A ty sz v xs) : lenV v = some (.int .i64 (xs.length : Nat)) := by
  rcases h with ⟨rfl, rfl⟩ | ⟨id, rfl, h2⟩ <;> rfl
/-- lent -/
theorem Bld.bo {ty sz d : Nat} {v : AV} {xs : List AV} (h : Bld A ty sz v xs) (hx : mapO (borrow A d) xs = some xs) : ∃ p s nil, borrow A (d + 1) v = some (.lst p s nil xs) ∧ (xs = [] ∨ s = sz) := by
  rcases h with ⟨rfl, rfl⟩ | ⟨id, rfl, h2⟩
  · exact ⟨true, 0, true, rfl, .inl rfl⟩
  · exact ⟨false, sz, false, bo_sl h2 rfl (by simp) (by simpa using hx), .inr rfl⟩
theorem Bld.gb {ty sz d : Nat} {v : AV} {xs ys : List AV} (h : Bld A ty sz v xs) (hne : xs ≠ []) (hx : mapO (giveBack A d) xs = some ys) : giveBack A (d + 1) v = some (.lst true sz false ys) := by
  rcases h with ⟨rfl, rfl⟩ | ⟨id, rfl, h2⟩
  · exact absurd rfl hne
  · exact gb_sl h2 rfl (by simp) (by simpa using hx)

/-! ### loops -/
def INV {σ : Type} (F : σ → Fr) (H : σ → Heap) (μ : σ → Nat) (P : σ → Prop) (s : σ) (fr : Fr) (A : Heap) : Prop := ∃ s', (fr = F s' ∧ A = H s') ∧ P s' ∧ μ s' < μ s
theorem WS_loop {σ : Type} (F : σ → Fr) (H : σ → Heap) (μ : σ → Nat) (P : σ → Prop) {c : MC}
    (step : ∀ s, P s → WS T c (.inv (INV F H μ P s) :: S) Q (F s) (H s)) (s : σ) (hs : P s) : WS T (.loop c) S Q (F s) (H s) :=
  WC_inv F H μ P step s hs
theorem WS_loop' {σ : Type} (F : σ → Fr) (H : σ → Heap) (μ : σ → Nat) (P : σ → Prop) (s : σ) {c : MC} (hF : fr = F s) (hH : A = H s) (hs : P s)
    (step : ∀ s, P s → WS T c (.inv (INV F H μ P s) :: S) Q (F s) (H s)) : WS T (.loop c) S Q fr A := by
  subst hF hH
  exact WC_inv F H μ P step s hs
end
end Go.Ev
end

section
/- Slices that are built up: cuts of them, appends with other memory beside. -/
set_option linter.unusedVariables false
set_option linter.unusedSimpArgs false
namespace Go.Ev
section
variable {T : Tab} {S : List KF} {Q : FQ} {fr : Fr} {A : Heap} {K : AV → Heap → Prop} {os : List MOp} {live : List Nat}

theorem Bld.app' {ty sz bytes : Nat} {v : AV} {xs ys : List AV} (h : Bld A ty sz v xs) (hb : (xs.length + ys.length) * bytes ≤ 140737488355328) :
    ∃ v' A', appEls ty A sz bytes v ys = some (v', A') ∧ Bld A' ty sz v' (xs ++ ys) ∧ A.length ≤ A'.length ∧ (∀ k, k < A.length → Off v k → Off v' k ∧ A'[k]? = A[k]?) := by
  by_cases hne : ys = []
  · subst hne
    rcases h with ⟨rfl, rfl⟩ | ⟨id, rfl, h2⟩
    · exact ⟨_, _, app_none, by simpa using Bld.nil A ty sz, Nat.le_refl _, fun k _ ho => ⟨ho, rfl⟩⟩
    · have hA : A.set id ⟨ty, sz, xs ++ []⟩ = A := by
        obtain ⟨hl, hg⟩ := List.getElem?_eq_some_iff.1 h2
        rw [List.append_nil, ← hg, List.set_getElem_self]
      refine ⟨_, _, app_end h2 rfl rfl hb, ?_⟩
      rw [hA]
      exact ⟨.inr ⟨id, by simp, by simpa using h2⟩, Nat.le_refl _, fun k _ ho => ⟨fun id' _ _ _ _ e => by cases e; exact ho _ _ _ _ _ rfl, rfl⟩⟩
  · exact h.app hne hb
theorem WV_app' {ty sz bytes : Nat} {v : AV} {xs ys : List AV} {d : Option Nat} (h : Bld A ty sz v xs) (hb : (xs.length + ys.length) * bytes ≤ 140737488355328)
    (k : ∀ v' A', Bld A' ty sz v' (xs ++ ys) → A.length ≤ A'.length → (∀ k, k < A.length → Off v k → Off v' k ∧ A'[k]? = A[k]?) → WP T os live S Q (putd d v' fr) A') :
    WV T (appEls ty A sz bytes v ys) d os live S Q fr := by
  obtain ⟨v', A', h1, h2, h3, h4⟩ := h.app' hb
  rw [h1]
  exact k v' A' h2 h3 h4
theorem WV_appV {ty sz bytes : Nat} {v x : AV} {xs ys : List AV} {d : Option Nat} (h : Bld A ty sz v xs) (hx : elemsOf A x = some ys) (hs : szOk sz x = true) (hb : (xs.length + ys.length) * bytes ≤ 140737488355328)
    (k : ∀ v' A', Bld A' ty sz v' (xs ++ ys) → A.length ≤ A'.length → (∀ k, k < A.length → Off v k → Off v' k ∧ A'[k]? = A[k]?) → WP T os live S Q (putd d v' fr) A') :
    WV T (appV ty sz bytes A v x) d os live S Q fr := by
  unfold appV
  rw [hx]
  simp only [hs, if_true]
  exact WV_app' h hb k
theorem WP_appendA {d : Option Nat} {ty sz bytes : Nat} {s x : Opd} {away : List Nat} : WP T (⟨d, none, .append ty sz bytes s x away⟩ :: os) live S Q fr A ↔
    (away.all fun n => awayFrom (s.ev fr.get) (fr.get n)) = true ∧ WV T (appV ty sz bytes A (s.ev fr.get) (x.ev fr.get)) d os live S Q fr := by
  by_cases h : (away.all fun n => awayFrom (s.ev fr.get) (fr.get n)) = true
  · rw [WP_k (by intros; simp) (by simp [chk, h])]
    simp [h]; rfl
  · unfold WP
    rw [WO_one]
    have : chk ⟨d, none, .append ty sz bytes s x away⟩ fr.get = false := by simpa [chk, guardOk] using h
    simp [this, h]

theorem Bld.get {ty sz : Nat} {v : AV} {xs : List AV} (h : Bld A ty sz v xs) (hne : xs ≠ []) : ∃ id, v = .sl id sz xs.length 0 xs.length ∧ A[id]? = some ⟨ty, sz, xs⟩ := by
  rcases h with ⟨rfl, rfl⟩ | h
  · exact absurd rfl hne
  · exact h
/-- the first ones of it -/
theorem Bld.hi {ty sz : Nat} {v : AV} {xs : List AV} (h : Bld A ty sz v xs) {k : Nat} {kd : IntKind} (hk : k ≤ xs.length) :
    ∃ v1, slcV sz none (some (.int kd k)) v = some v1 ∧ szOk sz v1 = true ∧ ∀ A', (∀ id, ¬ Off v id → A'[id]? = A[id]?) → elemsOf A' v1 = some (xs.take k) := by
  rcases h with ⟨rfl, rfl⟩ | ⟨id, rfl, h2⟩
  · have : k = 0 := by simpa using hk
    subst this
    exact ⟨.lst true 0 true [], by simp [slcV, bndV], by simp [szOk], fun A' _ => by simp [elemsOf]⟩
  · refine ⟨.sl id sz xs.length 0 k, slc_sl_hi (by omega) (by omega), by simp [szOk], fun A' hA => ?_⟩
    rw [← hA id (fun ho => ho _ _ _ _ _ rfl rfl)] at h2
    simp [elemsOf, h2, hk]
theorem Bld.lo {ty sz : Nat} {v : AV} {xs : List AV} (h : Bld A ty sz v xs) {k : Nat} {kd : IntKind} (hk : k ≤ xs.length) :
    ∃ v1, slcV sz (some (.int kd k)) none v = some v1 ∧ szOk sz v1 = true ∧ ∀ A', (∀ id, ¬ Off v id → A'[id]? = A[id]?) → elemsOf A' v1 = some (xs.drop k) := by
  rcases h with ⟨rfl, rfl⟩ | ⟨id, rfl, h2⟩
  · have : k = 0 := by simpa using hk
    subst this
    exact ⟨.lst true 0 true [], by simp [slcV, bndV], by simp [szOk], fun A' _ => by simp [elemsOf]⟩
  · refine ⟨.sl id sz xs.length k (xs.length - k), ?_, by simp [szOk], fun A' hA => ?_⟩
    · rw [slc_sl_lo (by omega) (by omega)]; simp
    rw [← hA id (fun ho => ho _ _ _ _ _ rfl rfl)] at h2
    have : k + (xs.length - k) ≤ xs.length := by omega
    simp [elemsOf, h2, this]
    rw [List.take_of_length_le (by simp)]
/-- where it lies -/
theorem Bld.lt {ty sz : Nat} {v : AV} {xs : List AV} (h : Bld A ty sz v xs) {id : Nat} (ho : ¬ Off v id) : id < A.length := by
  rcases h with ⟨rfl, rfl⟩ | ⟨id', rfl, h2⟩
  · exact absurd (Off.nil id) ho
  · by_cases e : id' = id
    · subst e; exact lt_of_get h2
    · exact absurd (fun _ _ _ _ _ e' => by cases e'; exact e) ho
theorem Bld.keep {ty sz : Nat} {v : AV} {xs : List AV} {A' : Heap} (h : Bld A ty sz v xs) (hA : ∀ id, ¬ Off v id → A'[id]? = A[id]?) : Bld A' ty sz v xs := by
  rcases h with ⟨rfl, rfl⟩ | ⟨id, rfl, h2⟩
  · exact .inl ⟨rfl, rfl⟩
  · exact .inr ⟨id, rfl, by rw [hA id (fun ho => ho _ _ _ _ _ rfl rfl), h2]⟩
theorem Bld.new (A : Heap) (ty sz : Nat) (xs : List AV) : Bld (A ++ [⟨ty, sz, xs⟩]) ty sz (.sl A.length sz xs.length 0 xs.length) xs := .inr ⟨A.length, rfl, by rw [h_get0]; rfl⟩
theorem Off.sl {id sz ver off len k : Nat} (h : id ≠ k) : Off (.sl id sz ver off len) k := fun _ _ _ _ _ e => by cases e; exact h
theorem Off_lt {ty sz : Nat} {v : AV} {xs : List AV} (h : Bld A ty sz v xs) {k : Nat} (hk : A.length ≤ k) : Off v k := by
  rcases h with ⟨rfl, rfl⟩ | ⟨id, rfl, h2⟩
  · exact Off.nil k
  · have := lt_of_get h2
    exact Off.sl (by omega)
end
end Go.Ev
namespace Go.Ev
section
variable {T : Tab} {S : List KF} {Q : FQ} {fr : Fr} {A : Heap} {K : AV → Heap → Prop} {os : List MOp} {live : List Nat}
/-- A slice under way that is not nil. -/
def BldS (A : Heap) (ty sz : Nat) (v : AV) (xs : List AV) : Prop := ∃ id, v = .sl id sz xs.length 0 xs.length ∧ A[id]? = some ⟨ty, sz, xs⟩
theorem BldS.bld {ty sz : Nat} {v : AV} {xs : List AV} (h : BldS A ty sz v xs) : Bld A ty sz v xs := .inr h
theorem BldS.more {A B : Heap} {ty sz : Nat} {v : AV} {xs : List AV} (h : BldS A ty sz v xs) : BldS (A ++ B) ty sz v xs := by
  obtain ⟨id, h1, h2⟩ := h
  exact ⟨id, h1, h_get_of h2⟩
theorem BldS.keep {ty sz : Nat} {v : AV} {xs : List AV} {A' : Heap} (h : BldS A ty sz v xs) (hA : ∀ id, ¬ Off v id → A'[id]? = A[id]?) : BldS A' ty sz v xs := by
  obtain ⟨id, rfl, h2⟩ := h
  exact ⟨id, rfl, by rw [hA id (fun ho => ho _ _ _ _ _ rfl rfl), h2]⟩
theorem BldS.new (A : Heap) (ty sz : Nat) (xs : List AV) : BldS (A ++ [⟨ty, sz, xs⟩]) ty sz (.sl A.length sz xs.length 0 xs.length) xs := ⟨A.length, rfl, by rw [h_get0]; rfl⟩
theorem WV_appS {ty sz bytes : Nat} {v : AV} {xs ys : List AV} {d : Option Nat} (h : BldS A ty sz v xs) (hb : (xs.length + ys.length) * bytes ≤ 140737488355328)
    (k : ∀ v' A', BldS A' ty sz v' (xs ++ ys) → A.length = A'.length → (∀ k, Off v k → Off v' k ∧ A'[k]? = A[k]?) → WP T os live S Q (putd d v' fr) A') :
    WV T (appEls ty A sz bytes v ys) d os live S Q fr := by
  obtain ⟨id, rfl, h2⟩ := h
  rw [app_end h2 rfl rfl hb]
  refine k _ _ ⟨id, by simp, h_set_get (lt_of_get h2)⟩ (by simp) fun k ho => ⟨fun id' _ _ _ _ e => ?_, ?_⟩
  · cases e; exact ho _ _ _ _ _ rfl
  · rw [List.getElem?_set_ne (ho _ _ _ _ _ rfl)]
theorem BldS.gbT {ty sz d : Nat} {v : AV} {xs ys : List AV} (h : BldS A ty sz v xs) (hx : mapO (giveBack A d) xs = some ys) : giveBackT A (d + 1) v = some (.lst true sz false ys) := by
  obtain ⟨id, rfl, h2⟩ := h
  rw [gt_sl]
  exact gb_sl h2 rfl (by simp) (by simpa using hx)
theorem BldS.len {ty sz : Nat} {v : AV} {xs : List AV} (h : BldS A ty sz v xs) : lenV v = some (.int .i64 (xs.length : Nat)) := h.bld.len
theorem permAll_nil : permAll [] = true := rfl
theorem permAll_int {k : IntKind} {n : Int} {r : List AV} : permAll (.int k n :: r) = permAll r := rfl
theorem permAll_agg {xs r : List AV} (h : permA (.agg xs) = true) : permAll (.agg xs :: r) = permAll r := by simp [permAll, h]
end
end Go.Ev
namespace Go.Ev
theorem mm_max {k k' : IntKind} {a b : Int} : minmax true (.int k a) [.int k' b] = some (.int k (max a b)) := by
  simp only [minmax, if_true]
  congr 2
  split <;> omega
theorem mm_min {k k' : IntKind} {a b : Int} : minmax false (.int k a) [.int k' b] = some (.int k (min a b)) := by
  simp only [minmax, Bool.false_eq_true, if_false]
  congr 2
  split <;> omega
end Go.Ev
namespace Go.Ev
section
variable {T : Tab} {S : List KF} {Q : FQ} {fr : Fr} {A : Heap} {os : List MOp} {live : List Nat}
theorem WP_slcm {d : Option Nat} {a : Nat} {x m : Opd} {l h : Option Opd} : WP T (⟨d, none, .slc a x l h (some m)⟩ :: os) live S Q fr A ↔ WV T (evM (.slc a x l h (some m)) fr.get A) d os live S Q fr := WP_k (by intros; simp) rfl
theorem b_nil {p q nil : Bool} {s t : Nat} {xs ys : List AV} : evBin .eql .slc (.lst p s nil xs) (.lst q t true ys) = some (.bool nil) := rfl
theorem b_nilS {q : Bool} {t id sz ver off len : Nat} {ys : List AV} : evBin .eql .slc (.sl id sz ver off len) (.lst q t true ys) = some (.bool false) := rfl
end
end Go.Ev
namespace Go.Ev
section
variable {T : Tab} {S : List KF} {Q : FQ} {fr : Fr} {A : Heap} {os : List MOp} {live : List Nat}
/-- A call apart, its arguments lent already. -/
def WR0 (T : Tab) (f : FuncId) (args : List AV) (d : Option Nat) (os : List MOp) (live : List Nat) (S : List KF) (Q : FQ) (fr : Fr) (A : Heap) : Prop :=
  WF T f args [] (fun v A1 => match giveBackT A1 depth v with
    | some r => WP T os live S Q (putd d r fr) A
    | none => False)
def WRm (T : Tab) (f : FuncId) (o : Option (List AV)) (d : Option Nat) (os : List MOp) (live : List Nat) (S : List KF) (Q : FQ) (fr : Fr) (A : Heap) : Prop := match o with
  | some args => WR0 T f args d os live S Q fr A
  | none => False
theorem WCR_ro {f : FuncId} {args : List AV} {d : Option Nat} : WCR T .ro f args d os live S Q fr A ↔ WRm T f (mapO (borrow A depth) args) d os live S Q fr A := by
  unfold WCR
  rw [WD_ro]
  unfold WRm WR0
  rfl
theorem WRm_some {f : FuncId} {args : List AV} {d : Option Nat} : WRm T f (some args) d os live S Q fr A ↔ WR0 T f args d os live S Q fr A := Iff.rfl
theorem Pure.call0 {f : FuncId} {args : List AV} {r : AV} {d : Option Nat} (h : Pure T f args r) : WR0 T f args d os live S Q fr A ↔ WP T os live S Q (putd d r fr) A := by
  obtain ⟨k, v, A1, h1, h2⟩ := h
  unfold WR0
  rw [WF_of h1, h2]
end
end Go.Ev
end

section
/- The rules in two bundles. -/
set_option maxRecDepth 10000
set_option linter.defProp false
namespace Go.Ev
def EVa := And.intro @WS_skip <| And.intro @WS_exit <| And.intro @WS_ret <| And.intro @WS_seq <| And.intro @WS_block <| And.intro @WS_reg <| And.intro @WS_cond_t <| And.intro @WS_cond_f <| And.intro @WN_seq <| And.intro @WN_blk <| And.intro @WN_inv <| And.intro @WN_nil <| And.intro @WE_seq <| And.intro @WE_inv <| And.intro @WE_blk <| And.intro @WR_seq <| And.intro @WR_blk <| And.intro @WR_inv <| And.intro @WR_nil <| And.intro @RV_some <| And.intro @WU_some <| And.intro @WV_some <| And.intro @WCf_fn <| And.intro @putd_some <| And.intro @putd_none <| And.intro @WP_nil <| And.intro @WP_guard_t <| And.intro @WP_guard_f <| And.intro @WP_call <| And.intro @WP_mv <| And.intro @WP_pick <| And.intro @pickV_bool <| And.intro @WP_load <| And.intro @loadV_rp <| And.intro @loadV_ptr <| And.intro @loadE_some <| And.intro @loadFrom_1 <| And.intro @loadFrom_all <| And.intro @loadB_some <| And.intro @WP_nilchk <| And.intro @WP_faddr <| And.intro @faddrV_ptr <| And.intro @faddrV_rp <| And.intro @WP_bin <| And.intro @b_add <| And.intro @b_sub <| And.intro @b_mul <| And.intro @b_quo <| And.intro @b_rem <| And.intro @b_eql <| And.intro @b_neq <| And.intro @b_lss <| And.intro @b_leq <| And.intro @b_gtr <| And.intro @b_geq <| And.intro @b_seql <| And.intro @b_sneq <| And.intro @b_beql <| And.intro @b_bneq <| And.intro @WP_un <| And.intro @u_not <| And.intro @u_neg <| And.intro @WP_len <| And.intro @lenV_lst <| And.intro @lenV_sl <| And.intro @WP_iaddr <| And.intro @iaddr_lst' <| And.intro @iaG_some <| And.intro @iaddr_sl <| And.intro @WP_rbox <| And.intro @WP_box <| And.intro @WP_alloc <| And.intro @WP_store <| And.intro @storeV_ptr <| And.intro @storeG_some <| And.intro @storeO_some <| And.intro @storeB_get <| And.intro @storeE_agg <| And.intro @storeE_cell <| And.intro @storeE_scal <| And.intro @sc_int <| And.intro @st_int <| And.intro @ce_int <| And.intro @sc_bool <| And.intro @st_bool <| And.intro @ce_bool <| And.intro @sc_str <| And.intro @st_str <| And.intro @ce_str <| And.intro @sc_nilp <| And.intro @st_nilp <| And.intro @ce_nilp <| And.intro @sc_ptr <| And.intro @st_ptr <| And.intro @ce_ptr <| And.intro @sc_rp <| And.intro @st_rp <| And.intro @ce_rp <| And.intro @sc_sl <| And.intro @st_sl <| And.intro @ce_sl <| And.intro @sc_lst <| And.intro @st_lst <| And.intro @ce_lst <| And.intro @sc_fn <| And.intro @st_fn <| And.intro @ce_fn <| And.intro @sc_nilf <| And.intro @st_nilf <| And.intro @ce_nilf <| And.intro @sc_iface <| And.intro @st_iface <| And.intro @ce_iface <| And.intro @sc_nili <| And.intro @st_nili <| And.intro @ce_nili <| And.intro @st_agg <| And.intro @ce_agg <| And.intro @WP_build <| And.intro @WP_bsl <| And.intro @WP_rbsl <| And.intro @WP_fld <| And.intro @WP_mm <| And.intro @WP_mkfn <| And.intro @WP_ext <| And.intro @extV_tup <| And.intro @WP_slc <| And.intro @slc_lst_hi <| And.intro @slc_lst_lo <| And.intro @slc_lst <| And.intro @slc_sl_hi <| And.intro @slc_sl_lo <| And.intro @WP_cvt <| And.intro @WP_slcm <| And.intro @b_nil <| And.intro @b_nilS <| And.intro @WP_clear <| And.intro @WP_slcx <| And.intro @permAll_nil <| And.intro @permAll_int <| And.intro @WP_append <| And.intro @WP_appendA <| And.intro @appV_lst <| And.intro @WP_mksl <| And.intro @WP_mkif <| And.intro @h_get0 <| And.intro @h_getk <| And.intro @h_set0 <| And.intro @h_setk <| And.intro @toNat_cast <| And.intro @cast_nonneg <| And.intro @depth_is <| And.intro @gt_bool <| And.intro @gt_int <| And.intro @gt_str <| And.intro @gt_nilp <| And.intro @gt_lst <| And.intro @gt_agg <| And.intro @gt_tup <| And.intro @gb_int <| And.intro @gb_bool <| And.intro @gb_str <| And.intro @gb_nilp <| And.intro @gb_nilf <| And.intro @gb_nili <| And.intro @gb_lst <| And.intro @gb_agg <| And.intro @gt_sl <| And.intro @gb_get <| And.intro @gbB_some <| @gbL_some
def EVb := And.intro @Int.cast_ofNat_Int <| And.intro @Nat.zero_add <| And.intro @Nat.add_zero <| And.intro @Nat.le_refl <| And.intro @Nat.zero_le <| And.intro @Nat.succ_ne_self <| And.intro @true_and <| And.intro @and_true <| And.intro @and_self <| And.intro @beq_true <| And.intro @beq_false <| And.intro @Bool.not_true <| And.intro @Bool.not_false <| And.intro @decide_true <| And.intro @decide_false <| And.intro @decide_eq_true_eq <| And.intro @Bool.not_eq_true' <| And.intro @decide_eq_false_iff_not <| And.intro @Bool.not_not <| And.intro @Bool.not_eq_eq_eq_not <| And.intro @Bool.true_eq_false <| And.intro @Bool.false_eq_true <| And.intro @not_true_eq_false <| And.intro @not_false_eq_true <| And.intro @Int.ofNat_lt <| And.intro @Int.ofNat_le <| And.intro @Bool.or_eq_true <| And.intro @Bool.and_eq_true <| And.intro @Bool.true_and <| And.intro @Bool.and_true <| And.intro @Bool.false_and <| And.intro @Bool.and_false <| And.intro @Bool.true_or <| And.intro @Bool.or_true <| And.intro @Bool.false_or <| And.intro @Bool.or_false <| And.intro @not_and <| And.intro @not_or <| And.intro @List.all_cons.{0} <| And.intro @List.all_nil.{0} <| And.intro @List.cons_append.{0} <| And.intro @List.nil_append.{0} <| And.intro @List.append_nil.{0} <| And.intro @List.length_cons.{0} <| And.intro @List.length_nil.{0} <| And.intro @List.drop_zero.{0} <| And.intro @List.drop_succ_cons.{0} <| And.intro @List.take_succ_cons.{0} <| And.intro @List.take_zero.{0} <| And.intro @List.set_cons_zero.{0} <| And.intro @List.set_cons_succ.{0} <| And.intro @List.getElem?_cons_zero.{0} <| And.intro @List.getElem?_cons_succ.{0} <| And.intro @Option.some.injEq.{0} <| And.intro @bne_iff_ne.{0} <| And.intro @List.length_set.{0} <| And.intro @List.length_append.{0} <| And.intro @List.append_assoc.{0} <| And.intro @beq_self_eq_true.{0} <| And.intro @List.map_cons.{0,0} <| And.intro @List.map_nil.{0,0} <| And.intro @List.length_map.{0,0} <| And.intro @if_true.{0} <| And.intro @if_true.{1} <| And.intro @if_false.{0} <| And.intro @if_false.{1} <| And.intro @eq_self.{1} <| @ne_eq.{1}
end Go.Ev
end

section
/- A call apart whose blocks become the caller's own, told by what it comes to. -/
set_option linter.unusedVariables false
namespace Go.Ev
section
variable {T : Tab} {S : List KF} {Q : FQ} {fr : Fr} {A : Heap} {os : List MOp} {live : List Nat}
theorem own_of {f : FuncId} {args args' : List AV} {d : Option Nat} {R : AV → Heap → Prop} (hb : mapO (borrow A depth) args = some args') (h : WF T f args' [] R)
    (he : ∀ r A', R r A' → ∃ r2 A2, embed A.length depth r = some r2 ∧ mapO (embedB A.length depth) A' = some A2 ∧ WP T os live S Q (putd d r2 fr) (A ++ A2)) : WCR T .own f args d os live S Q fr A := by
  unfold WCR
  rw [WD_own, hb]
  simp only
  refine h.mono fun r A' hr => ?_
  obtain ⟨r2, A2, h1, h2, h3⟩ := he r A' hr
  rw [h1, h2]
  exact h3
end
end Go.Ev
end
