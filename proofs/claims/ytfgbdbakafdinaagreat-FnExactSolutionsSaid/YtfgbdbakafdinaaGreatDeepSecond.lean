import Derived.Test.YtfgbdbakafdinaaGreatDeepFirst
import Derived.Orders
import Derived.LoopN
import Derived.IntWalk

section
/- From the model's operations to the evaluator's: the translation, and that what the evaluator answers is what the model does. -/
set_option linter.unusedVariables false
set_option linter.unusedSimpArgs false
namespace Go.Ev

def zeroOf (P : Program) (T : TypeId) : Option (TypeInfo × AV) :=
  match P.info? T with
  | some i => match i.zero with
    | some z => match cVal z with
      | some zc => if storable zc = true ∧ (cellsOf zc).length = i.size ∧ 0 < i.size then some (i, zc) else none
      | none => none
    | none => none
  | none => none

theorem zeroOf_some {P : Program} {T : TypeId} {i : TypeInfo} {zc : AV} (h : zeroOf P T = some (i, zc)) :
    P.info? T = some i ∧ ∃ z, i.zero = some z ∧ cVal z = some zc ∧ storable zc = true ∧ (cellsOf zc).length = i.size ∧ 0 < i.size := by
  unfold zeroOf at h
  split at h
  · rename_i i' hi
    split at h
    · rename_i z hz
      split at h
      · rename_i zc' hc
        split at h
        · rename_i hcond
          cases h
          exact ⟨hi, z, hz, hc, hcond⟩
        · cases h
      · cases h
    · cases h
  · cases h

def loadT (P : Program) (T : TypeId) : Option (Bool × Nat) :=
  match P.underlying T with
  | some d => match P.info? T with
    | some i => if isAggD d = true ∨ i.size = 1 then some (isAggD d, i.size) else none
    | none => none
  | none => none

theorem loadT_some {P : Program} {T : TypeId} {agg : Bool} {sz : Nat} (h : loadT P T = some (agg, sz)) : LoadT P T agg sz ∧ (agg = false → sz = 1) := by
  unfold loadT at h
  split at h
  · rename_i d hd
    split at h
    · rename_i i hi
      split at h
      · rename_i hc
        cases h
        refine ⟨⟨d, i, hd, hi, rfl, rfl⟩, fun e => ?_⟩
        rcases hc with hc | hc
        · rw [e] at hc; cases hc
        · exact hc
      · cases h
    · cases h
  · cases h

def eqOf (P : Program) (T : TypeId) (y : Operand) : EqI :=
  match scalT P T with
  | some k => .scal k
  | none => match P.underlying T with
    | some (.slice _) => .slc
    | some (.struct fs) => match flatFields P 0 fs.toList with
      | some ks => if P.stoodInHeld T = false ∧ P.eqGuardType P.depth T = false then .flat ks else .other
      | none => .other
    | some (.interface _) => match y with
      | .const _ => .ifc
      | _ => .other
    | _ => .other

theorem eqOf_T (P : Program) (T : TypeId) (y : Operand) : EqT P T y (eqOf P T y) := by
  unfold eqOf
  split
  · rename_i k hk; exact hk
  · split
    · rename_i e he; exact ⟨e, he⟩
    · rename_i fs hfs
      split
      · rename_i ks hks
        split
        · rename_i hc; exact ⟨fs, hfs, hks, hc.1, hc.2⟩
        · trivial
      · trivial
    · rename_i ms hms
      split
      · rename_i c; exact ⟨⟨ms, hms⟩, c, rfl⟩
      · trivial
    · trivial

def cOpds (xs : List Operand) : Option (List Opd) := mapO cOpd xs

def cOpt : Option Operand → Option (Option Opd)
  | none => some none
  | some x => match cOpd x with
    | some y => some (some y)
    | none => none

def lenT (P : Program) (T : TypeId) : Option Bool :=
  match P.underlying T with
  | some .string => some true
  | some (.slice _) => some false
  | _ => none

def compB (P : Program) (an : An) (b : Builtin) (args : List Operand) (ts : List TypeId) : Option MK :=
  match b, args, ts with
  | .len, [x], [T] => match lenT P T, cOpd x with
    | some str, some y => some (.len str y)
    | _, _ => none
  | .append, [s, x], [T, U] => match P.underlying T with
    | some (.slice e) => match lenT P U, zeroOf P e, cOpd s, cOpd x with
      | some _, some (i, _), some s', some x' => if 0 < i.bytes then some (.append e i.size i.bytes s' x' an.away) else none
      | _, _, _, _ => none
    | _ => none
  | .copy, [d, s], [T, _] => match P.underlying T with
    | some (.slice e) => match P.info? e, cOpd d, cOpd s with
      | some i, some d', some s' => some (.copy i.size d' s')
      | _, _, _ => none
    | _ => none
  | .clear, [x], [T] => match P.underlying T with
    | some (.slice e) => match zeroOf P e, cOpd x with
      | some (i, zc), some y => some (.clear i.size zc y)
      | _, _ => none
    | _ => none
  | .min, xs, _ => match cOpds xs with
    | some ys => some (.mm false ys)
    | none => none
  | .max, xs, _ => match cOpds xs with
    | some ys => some (.mm true ys)
    | none => none
  | _, _, _ => none

def compOp (P : Program) (an : An) : Op → Option MK
  | .move x => match cOpd x with
    | some y => some (.mv y)
    | none => none
  | .assign x => match cOpd x with
    | some y => some (.mv y)
    | none => none
  | .pick c a b => match cOpd c, cOpd a, cOpd b with
    | some c', some a', some b' => some (.pick c' a' b')
    | _, _, _ => none
  | .alloc T => match zeroOf P T with
    | some (i, zc) => some (.alloc T i.size zc)
    | none => none
  | .box T x => match P.info? T, cOpd x with
    | some i, some y => if 0 < i.size then (if an.ro then some (.rbox i.size y) else some (.box T i.size y)) else none
    | _, _ => none
  | .build T parts => match zeroOf P T, placesOf P T with
    | some (i, .agg zs), some pl => match cParts pl parts.toList with
      | some out => some (.build zs out)
      | none => none
    | _, _ => none
  | .buildSlice T n parts => match P.underlying T with
    | some (.slice e) => match zeroOf P e, cPartsS parts.toList with
      | some (i, zc), some out => if n * i.size ≤ 2 ^ 24 then
          (if an.ro then some (.rbsl i.size (List.replicate n zc) out) else some (.bsl e i.size (List.replicate n zc) out)) else none
      | _, _ => none
    | _ => none
  | .load T a => match loadT P T, cOpd a with
    | some (agg, sz), some y => some (.load agg sz y)
    | _, _ => none
  | .store T a x => match P.info? T, cOpd a, cOpd x with
    | some i, some a', some x' => some (.store i.size a' x')
    | _, _, _ => none
  | .nilCheck x => match cOpd x with
    | some y => some (.nilchk y)
    | none => none
  | .binOp op T x y _ => match cOpd x, cOpd y with
    | some x', some y' => some (.bin op (eqOf P T y) x' y')
    | _, _ => none
  | .unOp op _ x => match cOpd x with
    | some y => some (.un op y)
    | none => none
  | .convert src dst x => match P.underlying src, P.underlying dst, cOpd x with
    | some _, some (.int k), some y => some (.cvt k y)
    | _, _, _ => none
  | .fieldAddr T x n => match P.underlying T with
    | some (.struct fs) => match fs[n]?, cOpd x with
      | some f, some y => match P.info? f.type with
        | some i => if i.size ≠ 0 then some (.faddr f.offset y) else none
        | none => none
      | _, _ => none
    | _ => none
  | .field T x n => match P.underlying T with
    | some (.struct fs) => match fs[n]?, cOpd x with
      | some f, some y => match loadT P f.type with
        | some (agg, sz) => some (.fld agg f.offset sz y)
        | none => none
      | _, _ => none
    | _ => none
  | .indexAddr T x i => match cOpd x, cOpd i with
    | some x', some i' => match P.underlying T with
      | some (.slice e) => match P.info? e with
        | some ie => some (.iaddr ie.size x' i')
        | none => none
      | some (.array n e) => match P.info? e with
        | some ie => some (.iaddrA n ie.size x' i')
        | none => none
      | _ => none
    | _, _ => none
  | .index T x i => match cOpd x, cOpd i with
    | some x', some i' => match P.underlying T with
      | some .string => some (.idxS x' i')
      | some (.array n e) => match loadT P e with
        | some (agg, sz) => some (.idxA agg n sz x' i')
        | none => none
      | _ => none
    | _, _ => none
  | .slice T x lo hi mx => match cOpd x, cOpt lo, cOpt hi, cOpt mx with
    | some x', some lo', some hi', some mx' => match P.underlying T with
      | some (.slice e) => match P.info? e with
        | some ie => if mx'.isSome = true ∧ hi'.isSome = false then none else
            if an.ro = true ∧ mx'.isSome = false then some (.slcx ie.size x' lo' hi') else some (.slc ie.size x' lo' hi' mx')
        | none => none
      | some .string => match mx' with
        | none => some (.slcS x' lo' hi')
        | some _ => none
      | some (.array n e) => match P.info? e, mx' with
        | some ie, none => if ie.size = 1 then some (.slcA n 1 x' lo' hi') else none
        | _, _ => none
      | _ => none
    | _, _, _, _ => none
  | .extract x i => match cOpd x with
    | some y => some (.ext i y)
    | none => none
  | .makeFunc (.func f) first caps => match cOpds first.toList, cOpds caps.toList with
    | some a, some b => some (.mkfn f a b)
    | _, _ => none
  | .makeSlice T l c => match P.underlying T with
    | some (.slice e) => match zeroOf P e, cOpd l, cOpd c with
      | some (i, zc), some l', some c' => some (.mksl e i.size i.bytes zc l' c')
      | _, _, _ => none
    | _ => none
  | .makeInterface T x => match P.underlying T, cOpd x with
    | some (.interface _), _ => none
    | some _, some y => some (.mkif T y)
    | _, _ => none
  | .call c => match c.callee with
    | .value f => match cOpd f, cOpds c.args.toList with
      | some f', some as => some (.call an.ck f' as)
      | _, _ => none
    | .builtin b => compB P an b c.args.toList c.argTypes.toList
    | .invoke _ _ => none
  | _ => none

theorem cOpds_rel {O : Nat → Prop} {I : Info} {w : World} {g : Nat → AV} {a : Act} (hR : RRel O I w g a) {xs : List Operand} {ys : List Opd} (h : cOpds xs = some ys) :
    VRels O I w (ys.map (·.ev g)) (xs.map a.eval) := by
  obtain ⟨h1, h2⟩ := mapO_some h
  refine ⟨by simp [h1], fun i hi => ?_⟩
  have hi1 : i < ys.length := by simpa using hi
  have hi2 : i < xs.length := by omega
  simp only [List.getElem_map]
  rw [List.getD_eq_getElem?_getD, List.getElem?_eq_getElem (by simpa using hi2)]
  simp only [List.getElem_map, Option.getD_some]
  exact opd_rel hR (h2 i hi2 hi1)

theorem bound_rel {O : Nat → Prop} {I : Info} {w : World} {g : Nat → AV} {a : Act} (hR : RRel O I w g a) {x : Option Operand} {y : Option Opd} (h : cOpt x = some y) {d : Nat} {n : Int} (hb : bound g d y = some n) :
    ∃ b : Option Int, BoundRel b (x.map a.eval) ∧ n = b.getD d ∧ (y.isSome = true → b.isSome = true) := by
  cases x with
  | none =>
    simp only [cOpt] at h
    cases h
    simp only [bound] at hb
    cases hb
    exact ⟨none, trivial, rfl, fun h => by cases h⟩
  | some o =>
    simp only [cOpt] at h
    split at h
    · rename_i y' hy
      cases h
      simp only [bound] at hb
      split at hb
      · rename_i k i hi
        cases hb
        have := opd_rel hR hy
        rw [hi] at this
        exact ⟨some n, ⟨k, rel_int this⟩, rfl, fun _ => rfl⟩
      · cases hb
    · cases h

theorem lenT_some {P : Program} {T : TypeId} {b : Bool} (h : lenT P T = some b) : (b = true ∧ P.underlying T = some .string) ∨ (b = false ∧ ∃ e, P.underlying T = some (.slice e)) := by
  unfold lenT at h
  split at h
  · rename_i e; cases h; exact .inl ⟨rfl, e⟩
  · rename_i e he; cases h; exact .inr ⟨rfl, e, he⟩
  · cases h

section
variable {P : Program} {O : Nat → Prop} {I : Info} {A : Heap} {w : World}

theorem appEls_ok (hS : SRel O I A w) {T U e : TypeId} {i : TypeInfo} {z : Value} {zc : AV} (ht : P.underlying T = some (.slice e)) (hu : AppT P U) (hi : P.info? e = some i) (hzv : i.zero = some z) (hcv : cVal z = some zc)
    (hst : storable zc = true) (hzs : (cellsOf zc).length = i.size) (hpos : 0 < i.size) (hbp : 0 < i.bytes) {ty : TypeId} {s x : AV} {vs vx : Value} (hs' : VRel O I w s vs) (hx' : VRel O I w x vx) {xs : List AV}
    (hel : elemsOf A x = some xs) (hsz : szOk i.size x = true) {v : AV} {A' : Heap} (h : appEls e A i.size i.bytes s xs = some (v, A')) :
    OpOk P O I A w (do pure (.value (← Builtin.append_ #[T, U] ty #[vs, vx]))) v A' := by
  unfold appEls at h
  split at h
  · rename_i id ssz ver off len
    split at h
    · rename_i bb hb
      split at h
      · rename_i hcond
        obtain ⟨c1, c2, c3, c4⟩ := hcond
        split at h
        · rename_i hroom
          cases h
          rw [c3] at hs' 
          exact append_in hS ht hu hi hs' hb c1 rfl hx' hel hsz hroom
        · rename_i hroom
          split at h
          · rename_i hg
            obtain ⟨g1, g2, g3⟩ := hg
            cases h
            subst g1
            have hnp : 0 < xs.length := by omega
            have h63 : len + xs.length ≤ 9223372036854775807 := by
              have : (len + xs.length) * 1 ≤ (len + xs.length) * i.bytes := Nat.mul_le_mul_left _ hbp
              omega
            rw [c3] at hs'
            exact append_out hS ht hu hi hzv hcv hst hzs hs' hb c1 g2 rfl g3 hx' hel hsz hnp c4 h63
          · cases h
      · cases h
    · cases h
  · rename_i p sz' nil ys
    split at h
    · rename_i hem
      have : xs = [] := by simpa using hem
      subst this
      cases h
      exact append_none hS ht hu hi hs' hx' hel hsz
    · rename_i hem
      split at h
      · rename_i hcond
        simp only [Bool.and_eq_true, List.isEmpty_iff, decide_eq_true_eq] at hcond
        obtain ⟨⟨rfl, rfl⟩, hby⟩ := hcond
        cases h
        have hnp : 0 < xs.length := by
          rcases xs with _ | ⟨y, r⟩
          · simp at hem
          · simp
        have h63 : xs.length ≤ 9223372036854775807 := by
          have : xs.length * 1 ≤ xs.length * i.bytes := Nat.mul_le_mul_left _ hbp
          omega
        exact append_new hS ht hu hi hzv hcv hst hzs hpos hs' hx' hel hsz hnp hby h63
      · cases h
  · cases h

theorem compB_sound (hS : SRel O I A w) {g : Nat → AV} {a : Act} (hR : RRel O I w g a) {b : Builtin} {args : Array Operand} {ts : Array TypeId} {type : TypeId} {consts : Array Bool} {m : MK} {an : An} (hc : compB P an b args.toList ts.toList = some m)
    {v : AV} {A' : Heap} (h : evM m g A = some (v, A')) : OpOk P O I A w (builtin b ts type consts (args.map a.eval)) v A' := by
  unfold compB at hc
  split at hc
  · -- len
    rename_i x T hargs hts
    have ea : args = #[x] := by rw [← Array.toArray_toList (xs := args), hargs]
    have et : ts = #[T] := by rw [← Array.toArray_toList (xs := ts), hts]
    subst ea et
    rw [show (#[x] : Array Operand).map a.eval = #[a.eval x] from by simp]
    split at hc
    · rename_i str y hl hy
      cases hc
      have hx := opd_rel hR hy
      simp only [evM] at h
      have hcases := lenT_some hl
      split at h
      · rename_i p sz nil xs e
        split at h
        · cases h
        · rename_i hs
          cases h
          rw [e] at hx
          rcases hcases with ⟨h1, _⟩ | ⟨_, el, h2⟩
          · exact absurd h1 hs
          · exact len_ok hS h2 (.inr ⟨el, rfl⟩) hx (.inl ⟨p, sz, nil, xs, rfl, rfl, by simp⟩)
      · rename_i s e
        split at h
        · rename_i hs
          cases h
          rw [e] at hx
          rcases hcases with ⟨_, h2⟩ | ⟨h1, _⟩
          · exact len_ok hS h2 (.inl rfl) hx (.inr (.inl ⟨s, rfl, rfl, rfl⟩))
          · rw [h1] at hs; cases hs
        · cases h
      · rename_i id sz ver off len e
        split at h
        · cases h
        · rename_i hs
          cases h
          rw [e] at hx
          rcases hcases with ⟨h1, _⟩ | ⟨_, el, h2⟩
          · exact absurd h1 hs
          · exact len_ok hS h2 (.inr ⟨el, rfl⟩) hx (.inr (.inr ⟨id, sz, ver, off, rfl, by simp⟩))
      · cases h
    · cases hc
  · -- append
    rename_i s x T U hargs hts
    have ea : args = #[s, x] := by rw [← Array.toArray_toList (xs := args), hargs]
    have et : ts = #[T, U] := by rw [← Array.toArray_toList (xs := ts), hts]
    subst ea et
    rw [show (#[s, x] : Array Operand).map a.eval = #[a.eval s, a.eval x] from by simp]
    split at hc
    · rename_i e ht
      split at hc
      · rename_i lb i zc s' x' hl hz hs hx
        split at hc
        · rename_i hbp
          cases hc
          obtain ⟨hi, z, hzv, hcv, hst, hzs, hpos⟩ := zeroOf_some hz
          have hu : AppT P U := by
            rcases lenT_some hl with ⟨_, h2⟩ | ⟨_, el, h2⟩
            · exact .inl h2
            · exact .inr ⟨el, h2⟩
          have hs' := opd_rel hR hs
          have hx' := opd_rel hR hx
          simp only [evM] at h
          split at h
          · rename_i xs hel
            split at h
            · rename_i hsz
              exact appEls_ok hS ht hu hi hzv hcv hst hzs hpos hbp hs' hx' hel hsz h
            · cases h
          · cases h
        · cases hc
      · cases hc
    · cases hc
  · -- copy
    rename_i d s T U hargs hts
    have ea : args = #[d, s] := by rw [← Array.toArray_toList (xs := args), hargs]
    have et : ts = #[T, U] := by rw [← Array.toArray_toList (xs := ts), hts]
    subst ea et
    rw [show (#[d, s] : Array Operand).map a.eval = #[a.eval d, a.eval s] from by simp]
    split at hc
    · rename_i e ht
      split at hc
      · rename_i i d' s' hi hd hs
        cases hc
        have hd' := opd_rel hR hd
        have hs' := opd_rel hR hs
        simp only [evM] at h
        split at h
        · rename_i id ssz ver off len es
          rw [es] at hd'
          split at h
          · rename_i b xs hb hel
            split at h
            · rename_i hcond
              obtain ⟨c1, c2, c3, c4⟩ := hcond
              cases h
              exact copy_ok hS ht hi hd' hb c1 c2 c3 hs' hel c4
            · cases h
          · cases h
        · cases h
      · cases hc
    · cases hc
  · -- clear
    rename_i x T hargs hts
    have ea : args = #[x] := by rw [← Array.toArray_toList (xs := args), hargs]
    have et : ts = #[T] := by rw [← Array.toArray_toList (xs := ts), hts]
    subst ea et
    rw [show (#[x] : Array Operand).map a.eval = #[a.eval x] from by simp]
    split at hc
    · rename_i e ht
      split at hc
      · rename_i i zc y hz hy
        cases hc
        obtain ⟨hi, z, hzv, hcv, hst, hzs, hpos⟩ := zeroOf_some hz
        have hy' := opd_rel hR hy
        simp only [evM] at h
        split at h
        · rename_i id ssz ver off len es
          rw [es] at hy'
          split at h
          · rename_i b hb
            split at h
            · rename_i hcond
              obtain ⟨c1, c2, c3⟩ := hcond
              cases h
              exact clear_ok hS ht hi hzv hcv hst hzs hy' hb c1 c3 c2
            · cases h
          · cases h
        · rename_i p sz nil es
          rw [es] at hy'
          cases h
          have hR0 : VRel O I w (.tup []) (.tuple #[]) := .tup [] [] rfl (fun i hi => by simp at hi)
          generalize a.eval x = vx at hy'
          cases hy' with
          | lstn =>
            refine .quiet hS (u := .tuple #[]) ?_ hR0
            simp [Builtin.clear_, run_underlying ht]
          | lst _ _ _ ad c vals =>
            refine .quiet hS (u := .tuple #[]) ?_ hR0
            simp [Builtin.clear_, run_underlying ht]
        · cases h
      · cases hc
    · cases hc
  · -- min
    rename_i xs ts' 
    split at hc
    · rename_i ys hys
      cases hc
      have hv := cOpds_rel hR hys
      simp only [evM] at h
      split at h
      · rename_i x r hx
        split at h
        · rename_i u hu
          cases h
          rw [hx] at hv
          have hal : (args.map a.eval).toList = args.toList.map a.eval := by simp
          generalize hgl : args.toList.map a.eval = vl at hv
          cases vl with
          | nil => have := hv.1; simp at this
          | cons vx vr =>
            have hxr : VRel O I w x vx := by have := hv.2 0 (by simp); simpa using this
            have hrr : VRels O I w r vr := ⟨by have := hv.1; simpa using this, fun i hi => by have := hv.2 (i + 1) (by simpa using hi); simpa using this⟩
            obtain ⟨u', h1, h2⟩ := minmax_ok (P := P) r x v vx vr hu hxr hrr
            simp only [Bool.false_eq_true, if_false] at h1
            refine .quiet hS (s := Builtin.min_ ts type (args.map a.eval)) ?_ h2
            unfold Builtin.min_
            rw [hal, hgl]
            exact h1
        · cases h
      · cases h
    · cases hc
  · -- max
    rename_i xs ts'
    split at hc
    · rename_i ys hys
      cases hc
      have hv := cOpds_rel hR hys
      simp only [evM] at h
      split at h
      · rename_i x r hx
        split at h
        · rename_i u hu
          cases h
          rw [hx] at hv
          have hal : (args.map a.eval).toList = args.toList.map a.eval := by simp
          generalize hgl : args.toList.map a.eval = vl at hv
          cases vl with
          | nil => have := hv.1; simp at this
          | cons vx vr =>
            have hxr : VRel O I w x vx := by have := hv.2 0 (by simp); simpa using this
            have hrr : VRels O I w r vr := ⟨by have := hv.1; simpa using this, fun i hi => by have := hv.2 (i + 1) (by simpa using hi); simpa using this⟩
            obtain ⟨u', h1, h2⟩ := minmax_ok (P := P) r x v vx vr hu hxr hrr
            simp only [if_true] at h1
            refine .quiet hS (s := Builtin.max_ ts type (args.map a.eval)) ?_ h2
            unfold Builtin.max_
            rw [hal, hgl]
            exact h1
        · cases h
      · cases h
    · cases hc
  · cases hc

end
end Go.Ev
end

section
/- Every operation that is no call of a Go function: what the evaluator answers is what the model does. -/
set_option linter.unusedVariables false
set_option linter.unusedSimpArgs false
namespace Go.Ev

section
variable {P : Program} {O : Nat → Prop} {I : Info} {A : Heap} {w : World}

theorem rp_one {cs : List AV} {off : Nat} {va : Value} (hv : VRel O I w (.rp cs off) va) : ∀ c ∈ cs, (cellsOf c).length = 1 := by
  intro c hc
  cases hv with
  | rp _ _ b o vals hb hlt hcc hvv h1 =>
    obtain ⟨j, hj, rfl⟩ := List.getElem_of_mem hc
    rw [one_cell (hvv j hj) (h1 j hj)]
    rfl

theorem evM_sound (hS : SRel O I A w) {g : Nat → AV} {a : Act} (hR : RRel O I w g a) {o : Oper} {an : An} {m : MK} (hc : compOp P an o.op = some m)
    {v : AV} {A' : Heap} (h : evM m g A = some (v, A')) : OpOk P O I A w (execOp a.eval o) v A' := by
  obtain ⟨dst, op, type, pos, after, guard⟩ := o
  simp only at hc
  unfold compOp at hc
  split at hc
  · -- move
    split at hc
    · rename_i y hy; cases hc; simp only [evM] at h; cases h; exact .now hS (opd_rel hR hy)
    · cases hc
  · -- assign
    split at hc
    · rename_i y hy; cases hc; simp only [evM] at h; cases h; exact .now hS (opd_rel hR hy)
    · cases hc
  · -- pick
    rename_i c x y
    split at hc
    · rename_i c' x' y' h1 h2 h3
      cases hc
      simp only [evM] at h
      split at h
      · rename_i t ht
        cases h
        have hb := opd_rel hR h1
        rw [ht] at hb
        have hbv := rel_bool hb
        refine ⟨I, w, if t then a.eval x else a.eval y, .inl ?_, ?_, hS, Ext.refl _ _⟩
        · unfold execOp
          simp only [hbv]
          cases t <;> rfl
        · cases t
          · exact opd_rel hR h3
          · exact opd_rel hR h2
      · cases h
    · cases hc
  · -- alloc
    split at hc
    · rename_i i zc hz
      cases hc
      simp only [evM] at h
      cases h
      obtain ⟨hi, z, hzv, hcv, hst, hzs, hpos⟩ := zeroOf_some hz
      exact alloc_ok hS hi hzv hcv hzs hpos hst
    · cases hc
  · -- box
    split at hc
    · rename_i i y hi hy
      have hx := opd_rel hR hy
      split at hc
      · rename_i hpos
        split at hc
        · cases hc
          simp only [evM] at h
          split at h
          · rename_i hcond
            cases h
            exact rbox_ok hS hx hcond.1
          · cases h
        · cases hc
          simp only [evM] at h
          split at h
          · rename_i hcond
            cases h
            exact box_ok hS hx hcond.1 hcond.2 hpos
          · cases h
      · cases hc
    · cases hc
  · -- build
    split at hc
    · rename_i i zs pl hz hpl
      split at hc
      · rename_i out hout
        cases hc
        simp only [evM] at h
        split at h
        · rename_i cs hcs
          cases h
          obtain ⟨hi, z, hzv, hcv, hst, hzs, hpos⟩ := zeroOf_some hz
          exact build_ok hS hR hi hzv hcv hpl hout hcs
        · cases h
      · cases hc
    · cases hc
  · -- buildSlice
    split at hc
    · rename_i e ht
      split at hc
      · rename_i i zc out hz hout
        obtain ⟨hi, z, hzv, hcv, hst, hzs, hpos⟩ := zeroOf_some hz
        split at hc
        · rename_i hn
          split at hc
          · cases hc
            simp only [evM] at h
            split at h
            · rename_i els hels
              cases h
              exact rbsl_ok hS hR ht hi hzv hcv hst hzs hpos hn hout hels
            · cases h
          · cases hc
            simp only [evM] at h
            split at h
            · rename_i els hels
              cases h
              exact bsl_ok hS hR ht hi hzv hcv hst hzs hpos hn hout hels
            · cases h
        · cases hc
      · cases hc
    · cases hc
  · -- load
    split at hc
    · rename_i agg sz y hl hy
      cases hc
      obtain ⟨hl1, hl2⟩ := loadT_some hl
      have hx := opd_rel hR hy
      simp only [evM] at h
      split at h
      · rename_i id ver ix off e
        split at h
        · rename_i b hb
          split at h
          · rename_i hver
            split at h
            · rename_i el hel
              split at h
              · rename_i u hu
                cases h
                exact load_ok hS hl1 hx e hb hver hel hu
              · cases h
            · cases h
          · cases h
        · cases h
      · rename_i cs off e
        split at h
        · rename_i u hu
          cases h
          exact loadR_ok hS hl1 hx e hu
        · cases h
      · cases h
    · cases hc
  · -- store
    split at hc
    · rename_i i a' x' hi ha hx
      cases hc
      have ha' := opd_rel hR ha
      have hx' := opd_rel hR hx
      simp only [evM] at h
      split at h
      · rename_i id ver ix off e
        split at h
        · rename_i b hb
          split at h
          · rename_i el hel
            split at h
            · rename_i hcond
              obtain ⟨c1, c2, c3, c4⟩ := hcond
              split at h
              · rename_i e' he'
                cases h
                exact store_ok hS hi rfl ha' e hb c1 hel hx' c2 c3 c4 he'
              · cases h
            · cases h
          · cases h
        · cases h
      · cases h
    · cases hc
  · -- nilCheck
    split at hc
    · rename_i y hy
      cases hc
      have hx := opd_rel hR hy
      simp only [evM] at h
      split at h
      · rename_i id ver ix off e
        cases h
        rw [e] at hx
        exact nilchk_ok hS hx rfl rfl (.inl ⟨id, ver, ix, off, rfl⟩)
      · rename_i cs off e
        cases h
        rw [e] at hx
        exact nilchk_ok hS hx rfl rfl (.inr (.inl ⟨cs, off, rfl⟩))
      · rename_i f b c e
        cases h
        rw [e] at hx
        exact nilchk_ok hS hx rfl rfl (.inr (.inr ⟨f, b, c, rfl⟩))
      · cases h
    · cases hc
  · -- binOp
    split at hc
    · rename_i x' y' hx hy
      cases hc
      simp only [evM] at h
      split at h
      · rename_i u hu
        cases h
        exact bin_ok hS (eqOf_T P _ _) hu (opd_rel hR hx) (opd_rel hR hy)
      · cases h
    · cases hc
  · -- unOp
    split at hc
    · rename_i y hy
      cases hc
      simp only [evM] at h
      split at h
      · rename_i u hu
        cases h
        exact un_ok hS hu (opd_rel hR hy)
      · cases h
    · cases hc
  · -- convert
    split at hc
    · rename_i d k y hs hd hy
      cases hc
      simp only [evM] at h
      split at h
      · rename_i k' n e
        cases h
        have hx := opd_rel hR hy
        rw [e] at hx
        exact cvt_ok hS hs hd hx
      · cases h
    · cases hc
  · -- fieldAddr
    split at hc
    · rename_i fs ht
      split at hc
      · rename_i f y hf hy
        split at hc
        · rename_i i hi
          split at hc
          · rename_i hp
            cases hc
            have hx := opd_rel hR hy
            simp only [evM] at h
            split at h
            · rename_i id ver ix off e
              cases h
              exact faddr_ok hS ht hf hi hp hx (.inl ⟨id, ver, ix, off, e, rfl⟩)
            · rename_i cs off e
              cases h
              exact faddr_ok hS ht hf hi hp hx (.inr ⟨cs, off, e, rfl⟩)
            · cases h
          · cases hc
        · cases hc
      · cases hc
    · cases hc
  · -- field
    split at hc
    · rename_i fs ht
      split at hc
      · rename_i f y hf hy
        split at hc
        · rename_i agg sz hl
          cases hc
          obtain ⟨hl1, hl2⟩ := loadT_some hl
          have hx := opd_rel hR hy
          simp only [evM] at h
          split at h
          · rename_i cs e
            split at h
            · rename_i u hu
              cases h
              rw [e] at hx
              exact fld_ok hS ht hf hl1 hl2 hx hu
            · cases h
          · cases h
        · cases hc
      · cases hc
    · cases hc
  · -- indexAddr
    split at hc
    · rename_i x' i' hx hi'
      have hx' := opd_rel hR hx
      have hn' := opd_rel hR hi'
      split at hc
      · rename_i e ht
        split at hc
        · rename_i ie hie
          cases hc
          simp only [evM] at h
          split at h
          · rename_i k n en
            rw [en] at hn'
            split at h
            · rename_i id ssz ver off len ex
              rw [ex] at hx'
              split at h
              · rename_i hcond
                obtain ⟨c1, c2, c3⟩ := hcond
                cases h
                exact iaddr_ok hS ht hie hx' c1 c2 c3 hn'
              · cases h
            · rename_i p s nil xs ex
              rw [ex] at hx'
              split at h
              · rename_i h0
                split at h
                · rename_i el hel
                  split at h
                  · rename_i hsz
                    cases h
                    exact iaddrR_ok hS ht hie hx' hsz h0 hel hn'
                  · cases h
                · cases h
              · cases h
            · cases h
          · cases h
        · cases hc
      · rename_i n e ht
        split at hc
        · rename_i ie hie
          cases hc
          simp only [evM] at h
          split at h
          · rename_i k j en
            rw [en] at hn'
            split at h
            · rename_i hcond
              split at h
              · rename_i id ver ix o ex
                cases h
                exact iaddrA_ok hS ht hie hx' hcond.1 hcond.2 hn' (.inl ⟨id, ver, ix, o, ex, rfl⟩)
              · rename_i cs o ex
                cases h
                exact iaddrA_ok hS ht hie hx' hcond.1 hcond.2 hn' (.inr ⟨cs, o, ex, rfl⟩)
              · cases h
            · cases h
          · cases h
        · cases hc
      · cases hc
    · cases hc
  · -- index
    split at hc
    · rename_i x' i' hx hi'
      have hx' := opd_rel hR hx
      have hn' := opd_rel hR hi'
      split at hc
      · rename_i ht
        cases hc
        simp only [evM] at h
        split at h
        · rename_i s k n ex en
          rw [ex] at hx'
          rw [en] at hn'
          split at h
          · rename_i h0
            split at h
            · rename_i b hb
              cases h
              exact idxS_ok hS ht hx' hn' h0 hb
            · cases h
          · cases h
        · cases h
      · rename_i n e ht
        split at hc
        · rename_i agg sz hl
          cases hc
          obtain ⟨hl1, hl2⟩ := loadT_some hl
          simp only [evM] at h
          split at h
          · rename_i cs k j ex en
            rw [ex] at hx'
            rw [en] at hn'
            split at h
            · rename_i hcond
              split at h
              · rename_i u hu
                cases h
                exact idxA_ok hS ht hl1 hl2 hx' hn' hcond.1 hcond.2 hu
              · cases h
            · cases h
          · cases h
        · cases hc
      · cases hc
    · cases hc
  · -- slice
    rename_i T x lo hi mx
    split at hc
    · rename_i x' lo' hi' mx' hx hlo hhi hmx
      have hx' := opd_rel hR hx
      split at hc
      · rename_i e ht
        split at hc
        · rename_i ie hie
          split at hc
          · cases hc
          rename_i hmxhi
          split at hc
          · rename_i hro
            cases hc
            simp only [evM] at h
            split at h
            · rename_i id ssz ver off len ex
              rw [ex] at hx'
              split at h
              · rename_i l hh hbl hbh
                obtain ⟨bl, r1, e1, _⟩ := bound_rel hR hlo hbl
                obtain ⟨bh, r2, e2, hs2⟩ := bound_rel hR hhi hbh
                split at h
                · rename_i hcond
                  obtain ⟨c1, c4, c5, c6⟩ := hcond
                  cases h
                  have hm0 : mx = none := by
                    cases mx with
                    | none => rfl
                    | some z =>
                      simp only [cOpt] at hmx
                      split at hmx
                      · cases hmx; exact absurd hro.2 (by simp)
                      · cases hmx
                  subst hm0
                  exact slc_ok hS ht hie hx' c1 r1 r2 e1 e2 c4 c5 c6
                · cases h
              · cases h
            · cases h
          cases hc
          simp only [evM] at h
          split at h
          · rename_i id ssz ver off len ex
            rw [ex] at hx'
            split at h
            · rename_i l hh hbl hbh
              obtain ⟨bl, r1, e1, _⟩ := bound_rel hR hlo hbl
              obtain ⟨bh, r2, e2, hs2⟩ := bound_rel hR hhi hbh
              split at h
              · rename_i hcond
                obtain ⟨c1, c4, c5, c6⟩ := hcond
                split at h
                · cases h
                  have hm0 : mx = none := by
                    cases mx with
                    | none => rfl
                    | some z => simp only [cOpt] at hmx; split at hmx <;> cases hmx
                  subst hm0
                  exact slc_ok hS ht hie hx' c1 r1 r2 e1 e2 c4 c5 (by unfold hiOk; simp [c6])
                · rename_i m
                  cases mx with
                  | none => simp only [cOpt] at hmx; cases hmx
                  | some z =>
                    simp only [cOpt] at hmx
                    split at hmx
                    · rename_i m' hm'
                      cases hmx
                      have hmr := opd_rel hR hm'
                      split at h
                      · rename_i k q hq
                        rw [hq] at hmr
                        split at h
                        · rename_i hcq
                          cases h
                          have hsome : bh.isSome = true := hs2 (by
                            cases hq : hi'.isSome with
                            | true => rfl
                            | false => exact absurd ⟨rfl, hq⟩ hmxhi)
                          show OpOk P O I A w (do pure (.value (← Instr.sliceAt T (a.eval x) (lo.map a.eval) (hi.map a.eval) (some (a.eval z))))) .junk A
                          rw [rel_int hmr]
                          generalize a.eval x = vx at hx'
                          cases hx' with
                          | sl _ _ _ _ _ ad c bi hbi hvv hs hl hhh => exact slcJ_ok hS ht hie rfl r1 r2 hsome e1 e2 c4 c5 hcq.1 (by omega)
                        · cases h
                      · cases h
                    · cases hmx
              · cases h
            · cases h
          · rename_i p s nil xs ex
            rw [ex] at hx'
            split at h
            · rename_i l hh hbl hbh
              obtain ⟨bl, r1, e1, _⟩ := bound_rel hR hlo hbl
              obtain ⟨bh, r2, e2, hs2⟩ := bound_rel hR hhi hbh
              split at h
              · rename_i hcond
                obtain ⟨c1, c2, c3, c4⟩ := hcond
                split at h
                · cases h
                  have hm0 : mx = none := by
                    cases mx with
                    | none => rfl
                    | some z => simp only [cOpt] at hmx; split at hmx <;> cases hmx
                  subst hm0
                  exact slcR_ok hS ht hie hx' c1 r1 r2 e1 e2 c2 c3 c4
                · rename_i m
                  cases mx with
                  | none => simp only [cOpt] at hmx; cases hmx
                  | some z =>
                    simp only [cOpt] at hmx
                    split at hmx
                    · rename_i m' hm'
                      cases hmx
                      have hmr := opd_rel hR hm'
                      split at h
                      · rename_i k q hq
                        rw [hq] at hmr
                        split at h
                        · rename_i hcq
                          cases h
                          have hsome : bh.isSome = true := hs2 (by
                            cases hq : hi'.isSome with
                            | true => rfl
                            | false => exact absurd ⟨rfl, hq⟩ hmxhi)
                          show OpOk P O I A w (do pure (.value (← Instr.sliceAt T (a.eval x) (lo.map a.eval) (hi.map a.eval) (some (a.eval z))))) .junk A
                          rw [rel_int hmr]
                          generalize a.eval x = vx at hx'
                          cases hx' with
                          | lstn => exact slcJ_ok hS ht hie rfl r1 r2 hsome e1 e2 c2 c3 hcq.1 hcq.2
                          | lst _ _ _ ad c vals hp hcap => exact slcJ_ok hS ht hie rfl r1 r2 hsome e1 e2 c2 c3 hcq.1 (by omega)
                        · cases h
                      · cases h
                    · cases hmx
              · cases h
            · cases h
          · cases h
        · cases hc
      · rename_i ht
        split at hc
        · cases hc
          have hm0 : mx = none := by
            cases mx with
            | none => rfl
            | some z => simp only [cOpt] at hmx; split at hmx <;> cases hmx
          subst hm0
          simp only [evM] at h
          split at h
          · rename_i s ex
            rw [ex] at hx'
            split at h
            · rename_i l hh hbl hbh
              obtain ⟨bl, r1, e1, _⟩ := bound_rel hR hlo hbl
              obtain ⟨bh, r2, e2, _⟩ := bound_rel hR hhi hbh
              split at h
              · rename_i hcond
                cases h
                exact slcS_ok hS ht hx' r1 r2 e1 e2 hcond.1 hcond.2.1 hcond.2.2
              · cases h
            · cases h
          · cases h
        · cases hc
      · rename_i n e ht
        split at hc
        · rename_i ie hie
          split at hc
          · rename_i h1
            cases hc
            have hm0 : mx = none := by
              cases mx with
              | none => rfl
              | some z => simp only [cOpt] at hmx; split at hmx <;> cases hmx
            subst hm0
            simp only [evM] at h
            split at h
            · rename_i cs o ex
              rw [ex] at hx'
              split at h
              · rename_i l hh hbl hbh
                obtain ⟨bl, r1, e1, _⟩ := bound_rel hR hlo hbl
                obtain ⟨bh, r2, e2, _⟩ := bound_rel hR hhi hbh
                split at h
                · rename_i hcond
                  obtain ⟨_, c1, c2, c3, c4, c5⟩ := hcond
                  cases h
                  subst c1
                  exact slcA_ok hS ht hie h1 hx' c2 (rp_one hx') r1 r2 e1 e2 c3 c4 c5
                · cases h
              · cases h
            · cases h
          · cases hc
        · cases hc
      · cases hc
    · cases hc
  · -- extract
    split at hc
    · rename_i y hy
      cases hc
      simp only [evM] at h
      split at h
      · rename_i vs e
        split at h
        · rename_i u hu
          cases h
          have hx := opd_rel hR hy
          rw [e] at hx
          exact ext_ok hS hx hu
        · cases h
      · cases h
    · cases hc
  · -- makeFunc
    rename_i f first caps
    split at hc
    · rename_i x y hx hy
      cases hc
      simp only [evM] at h
      cases h
      have h1 := cOpds_rel hR hx
      have h2 := cOpds_rel hR hy
      refine .quiet hS (s := Instr.makeFunc (.func f) (first.map a.eval) (caps.map a.eval)) rfl ?_
      have := VRel.fn (O := O) (I := I) (w := w) f (x.map (·.ev g)) (y.map (·.ev g)) (first.toList.map a.eval) (caps.toList.map a.eval) h1.1 h2.1 h1.2 h2.2
      have e1 : (first.toList.map a.eval).toArray = first.map a.eval := by apply Array.ext'; simp
      have e2 : (caps.toList.map a.eval).toArray = caps.map a.eval := by apply Array.ext'; simp
      rwa [e1, e2] at this
    · cases hc
  · -- makeSlice
    split at hc
    · rename_i e ht
      split at hc
      · rename_i i zc l' c' hz hl hcc
        cases hc
        obtain ⟨hi, z, hzv, hcv, hst, hzs, hpos⟩ := zeroOf_some hz
        have h1 := opd_rel hR hl
        have h2 := opd_rel hR hcc
        simp only [evM] at h
        split at h
        · rename_i k1 n k2 mm e1 e2
          rw [e1] at h1
          rw [e2] at h2
          split at h
          · rename_i hcond
            obtain ⟨c1, c2, c3, c4⟩ := hcond
            cases h
            have := mksl_ok (P := P) hS ht hi hzv hcv hst hzs hpos (kl := k1) (kc := k2) c1 c2 c3 c4
            rw [← rel_int h1, ← rel_int h2] at this
            exact this
          · cases h
        · cases h
      · cases hc
    · cases hc
  · -- makeInterface
    split at hc
    · cases hc
    · rename_i d y hne hd hy
      cases hc
      simp only [evM] at h
      cases h
      exact mkif_ok hS hd (fun ms e => by subst e; exact hne ms rfl) (opd_rel hR hy)
    · cases hc
  · -- call
    rename_i c
    split at hc
    · split at hc
      · cases hc
        simp only [evM] at h
        cases h
      · cases hc
    · rename_i b hb
      have := compB_sound (type := type) (consts := c.args.map fun | .const _ => true | _ => false) hS hR hc h
      have e : execOp a.eval ⟨dst, .call c, type, pos, after, guard⟩ = builtin b c.argTypes type (c.args.map fun | .const _ => true | _ => false) (c.args.map a.eval) := by
        unfold execOp
        simp only [resolve, hb]
        rfl
      rw [e]
      exact this
    · cases hc
  · cases hc

end
end Go.Ev
end

section
/- Handing over: lending values to a run apart, and taking its results. -/
set_option linter.unusedVariables false
set_option linter.unusedSimpArgs false
namespace Go.Ev

theorem permL_iff : ∀ (xs : List AV), permA.permL xs = true ↔ ∀ x ∈ xs, permA x = true
  | [] => by simp [permA.permL]
  | x :: r => by
    have ih := permL_iff r
    simp only [permA.permL, Bool.and_eq_true, ih, List.mem_cons, forall_eq_or_imp]

theorem permA_cells {e : AV} (h : permA e = true) : ∀ c ∈ cellsOf e, permA c = true := by
  intro c hc
  cases e <;> simp only [cellsOf, List.mem_singleton] at hc <;> first
    | (subst hc; exact h)
    | (simp only [permA] at h; exact (permL_iff _).1 h c hc)

theorem permAll_flat {xs : List AV} (h : permAll xs = true) : ∀ c ∈ flatE xs, permA c = true := by
  intro c hc
  simp only [flatE, List.mem_flatMap] at hc
  obtain ⟨e, he, hce⟩ := hc
  unfold permAll at h
  rw [List.all_eq_true] at h
  exact permA_cells (h e he) c hce

section
variable {P : Program} {w : World}

/-- A value that stays good for ever, told over other blocks. -/
theorem perm_rel {O O2 : Nat → Prop} {I I2 : Info} (hO : ∀ b, ¬ Has I b → ¬ O b → ¬ Has I2 b ∧ ¬ O2 b) {x : AV} {v : Value} (h : VRel O I w x v) : permA x = true → VRel O2 I2 w x v := by
  induction h with
  | junk v => intro hp; simp [permA] at hp
  | int k n => intro _; exact .int k n
  | bool b => intro _; exact .bool b
  | str s => intro _; exact .str s
  | nilp => intro _; exact .nilp
  | nilf => intro _; exact .nilf
  | nili => intro _; exact .nili
  | ptr => intro hp; simp [permA] at hp
  | rp => intro hp; simp [permA] at hp
  | sl => intro hp; simp [permA] at hp
  | lstn p sz => intro _; exact .lstn p sz
  | lst p sz xs a c vals hpp hcap ha hu hc hv h1 ih =>
    intro hp
    simp only [permA] at hp
    subst hp
    have hall := hpp rfl
    refine .lst true sz xs a c vals hpp hcap (fun hne => ?_) hu hc (fun k hk => ih k hk (permAll_flat hall _ (List.getElem_mem hk))) h1
    obtain ⟨a1, a2, a3, a4⟩ := ha hne
    obtain ⟨b1, b2⟩ := hO a.block a2 (a4 rfl)
    exact ⟨a1, b1, a3, fun _ => b2⟩
  | fn => intro hp; simp [permA] at hp
  | iface t x v _ ih => intro hp; simp only [permA] at hp; exact .iface t x v (ih hp)
  | agg xs vl hl _ h1 ih =>
    intro hp
    simp only [permA] at hp
    exact .agg xs vl hl (fun i hi => ih i hi ((permL_iff _).1 hp _ (List.getElem_mem hi))) h1
  | tup => intro hp; simp [permA] at hp

/-! ### maps over values -/

def Shp (F : Nat → AV → Option AV) : Prop :=
  ∀ d x y, F d x = some y → (∃ xs d' ys, x = .agg xs ∧ d = d' + 1 ∧ y = .agg ys ∧ mapO (F d') xs = some ys) ∨ (cellsOf x = [x] ∧ cellsOf y = [y])

theorem shp_cells {F : Nat → AV → Option AV} (hF : Shp F) {d : Nat} {x y : AV} (h : F d x = some y) :
    (cellsOf y).length = (cellsOf x).length ∧ ∀ (j : Nat) (hj : j < (cellsOf x).length) (hj' : j < (cellsOf y).length), ∃ d', d' ≤ d ∧ F d' (cellsOf x)[j] = some (cellsOf y)[j] := by
  rcases hF d x y h with ⟨xs, d', ys, rfl, rfl, rfl, hm⟩ | ⟨e1, e2⟩
  · obtain ⟨h1, h2⟩ := mapO_some hm
    exact ⟨h1, fun j hj hj' => ⟨d', by omega, h2 j hj hj'⟩⟩
  · refine ⟨by rw [e1, e2]; rfl, fun j hj hj' => ⟨d, Nat.le_refl _, ?_⟩⟩
    have hj0 : j = 0 := by rw [e1] at hj; simp at hj; omega
    subst hj0
    simp only [e1, e2, List.getElem_cons_zero]
    exact h

theorem shp_flat {F : Nat → AV → Option AV} (hF : Shp F) : ∀ {d : Nat} {xs ys : List AV}, mapO (F d) xs = some ys →
    ys.length = xs.length ∧ (∀ sz, (∀ e ∈ xs, (cellsOf e).length = sz) → ∀ e ∈ ys, (cellsOf e).length = sz) ∧ (flatE ys).length = (flatE xs).length ∧
      ∀ (k : Nat) (h : k < (flatE xs).length) (h' : k < (flatE ys).length), ∃ d', d' ≤ d ∧ F d' (flatE xs)[k] = some (flatE ys)[k]
  | d, [], ys, h => by
    simp only [mapO] at h
    cases h
    exact ⟨rfl, fun _ _ => by simp, rfl, fun k hk => by simp [flatE] at hk⟩
  | d, x :: r, ys, h => by
    simp only [mapO] at h
    split at h
    · rename_i y hy
      split at h
      · rename_i zs hz
        cases h
        obtain ⟨c1, c2⟩ := shp_cells hF hy
        obtain ⟨h1, h2, h3, h4⟩ := shp_flat hF hz
        have ex : flatE (x :: r) = cellsOf x ++ flatE r := by simp [flatE]
        have ey : flatE (y :: zs) = cellsOf y ++ flatE zs := by simp [flatE]
        refine ⟨by simp [h1], ?_, by rw [ex, ey]; simp [c1, h3], ?_⟩
        · intro sz hsz e he
          rcases List.mem_cons.1 he with rfl | he
          · rw [c1]; exact hsz x (by simp)
          · exact h2 sz (fun e he => hsz e (by simp [he])) e he
        · intro k hk hk'
          simp only [ex, ey]
          rcases Nat.lt_or_ge k (cellsOf x).length with c | c
          · rw [List.getElem_append_left c, List.getElem_append_left (by omega)]
            exact c2 k c (by omega)
          · rw [List.getElem_append_right c, List.getElem_append_right (by omega)]
            have := h4 (k - (cellsOf x).length) (by rw [ex] at hk; simp at hk; omega) (by rw [ex] at hk; simp at hk; omega)
            simpa [c1] using this
      · cases h
    · cases h

theorem borrow_shp (A : Heap) : Shp (borrow A) := by
  intro d x y h
  cases d with
  | zero => simp [borrow] at h
  | succ d =>
    cases x <;> simp only [borrow] at h <;> first
      | (cases h; right; exact ⟨rfl, rfl⟩)
      | (cases h; done)
      | skip
    · -- ptr
      right
      split at h <;> try (cases h; done)
      split at h <;> try (cases h; done)
      split at h <;> try (cases h; done)
      split at h <;> try (cases h; done)
      cases h; exact ⟨rfl, rfl⟩
    · right
      split at h <;> try (cases h; done)
      cases h; exact ⟨rfl, rfl⟩
    · right
      split at h <;> try (cases h; done)
      split at h <;> try (cases h; done)
      split at h <;> try (cases h; done)
      cases h; exact ⟨rfl, rfl⟩
    · right
      split at h
      · cases h; exact ⟨rfl, rfl⟩
      · split at h <;> try (cases h; done)
        cases h; exact ⟨rfl, rfl⟩
    · right
      split at h <;> try (cases h; done)
      cases h; exact ⟨rfl, rfl⟩
    · right
      split at h <;> try (cases h; done)
      cases h; exact ⟨rfl, rfl⟩
    · left
      split at h
      · rename_i xs ys hys
        cases h
        exact ⟨_, d, _, rfl, rfl, rfl, hys⟩
      · cases h

theorem giveBack_shp (A : Heap) : Shp (giveBack A) := by
  intro d x y h
  cases d with
  | zero => simp [giveBack] at h
  | succ d =>
    cases x <;> simp only [giveBack] at h <;> first
      | (cases h; right; exact ⟨rfl, rfl⟩)
      | (cases h; done)
      | skip
    · right
      split at h <;> try (cases h; done)
      split at h <;> try (cases h; done)
      split at h <;> try (cases h; done)
      cases h; exact ⟨rfl, rfl⟩
    · right
      split at h <;> try (cases h; done)
      cases h; exact ⟨rfl, rfl⟩
    · right
      split at h <;> try (cases h; done)
      cases h; exact ⟨rfl, rfl⟩
    · left
      split at h
      · rename_i xs ys hys
        cases h
        exact ⟨_, d, _, rfl, rfl, rfl, hys⟩
      · cases h

theorem embed_shp (n : Nat) : Shp (embed n) := by
  intro d x y h
  cases d with
  | zero => simp [embed] at h
  | succ d =>
    cases x <;> simp only [embed] at h <;> first
      | (cases h; right; exact ⟨rfl, rfl⟩)
      | (cases h; done)
      | skip
    · right
      split at h <;> (cases h; exact ⟨rfl, rfl⟩)
    · right
      split at h <;> try (cases h; done)
      cases h; exact ⟨rfl, rfl⟩
    · left
      split at h
      · rename_i xs ys hys
        cases h
        exact ⟨_, d, _, rfl, rfl, rfl, hys⟩
      · cases h
    · right
      split at h <;> try (cases h; done)
      cases h; exact ⟨rfl, rfl⟩

/-- Pointwise, for a list of values. -/
theorem mapO_rels {F : Nat → AV → Option AV} {d : Nat} {xs ys : List AV} (h : mapO (F d) xs = some ys) {O O2 : Nat → Prop} {I I2 : Info} {vl : List Value} (hl : vl.length = xs.length)
    (hx : ∀ (i : Nat) (h : i < xs.length), VRel O I w xs[i] (vl.getD i undef)) (hF : ∀ x y v, F d x = some y → VRel O I w x v → VRel O2 I2 w y v) :
    vl.length = ys.length ∧ ∀ (i : Nat) (h : i < ys.length), VRel O2 I2 w ys[i] (vl.getD i undef) := by
  obtain ⟨h1, h2⟩ := mapO_some h
  exact ⟨by omega, fun i hi => hF _ _ _ (h2 i (by omega) hi) (hx i (by omega))⟩

def Lent (O : Nat → Prop) (I : Info) : Nat → Prop := fun b => O b ∨ Has I b

theorem borrow_rel {O : Nat → Prop} {I : Info} {A : Heap} (hS : SRel O I A w) : ∀ (n d : Nat), d ≤ n → ∀ (x y : AV) (v : Value), borrow A d x = some y → VRel O I w x v → VRel (Lent O I) [] w y v := by
  have hno : ∀ b, ¬ Has [] b := by rintro b ⟨x, hx, _⟩; simp at hx
  have hperm : ∀ b, ¬ Has I b → ¬ O b → ¬ Has [] b ∧ ¬ Lent O I b := fun b h1 h2 => ⟨hno b, fun h => h.elim h2 h1⟩
  intro n
  induction n with
  | zero =>
    intro d hd x y v h
    have : d = 0 := by omega
    subst this
    simp [borrow] at h
  | succ n ih =>
    intro d hd x y v h hv
    cases d with
    | zero => simp [borrow] at h
    | succ d =>
      have ihd : ∀ x y v, borrow A d x = some y → VRel O I w x v → VRel (Lent O I) [] w y v := fun x y v => ih d (by omega) x y v
      cases x with
      | junk => simp [borrow] at h
      | int k n => simp only [borrow] at h; cases h; rw [rel_int hv]; exact .int _ _
      | bool b => simp only [borrow] at h; cases h; rw [rel_bool hv]; exact .bool _
      | str s => simp only [borrow] at h; cases h; rw [rel_str hv]; exact .str _
      | nilp => simp only [borrow] at h; cases h; rw [rel_nilp hv]; exact .nilp
      | nilf => simp only [borrow] at h; cases h; rw [rel_nilf hv]; exact .nilf
      | nili => simp only [borrow] at h; cases h; rw [rel_nili hv]; exact .nili
      | ptr id ver ix off =>
        simp only [borrow] at h
        split at h
        · rename_i b hb
          split at h
          · rename_i hver
            split at h
            · rename_i e he
              split at h
              · rename_i cs hcs
                cases h
                obtain ⟨bi, hbi, hB⟩ := hS.get hb
                cases hv with
                | ptr _ _ _ _ ad bi' hi' hvv hp =>
                  rw [hbi] at hi'
                  cases hi'
                  rw [hp (by rw [hB.n]; exact hver)]
                  obtain ⟨ul, u1, u2, u3, u4⟩ := hB.cells he (off := 0) (n := (cellsOf e).length) (by omega)
                  simp only [List.drop_zero, List.take_length] at u3
                  obtain ⟨m1, m2⟩ := mapO_some hcs
                  refine .rp cs off bi.r (ix * bi.sz) (fun j => ul.getD j undef) (hno _) (hS.lt _ _ hbi) (fun j hj => ?_) (fun j hj => ?_) (fun j hj => ?_)
                  · have hj' : j < ul.length := by omega
                    have := u2 j ul[j] (List.getElem?_eq_getElem hj')
                    simpa [List.getD_eq_getElem?_getD, hj'] using this
                  · exact ihd _ _ _ (m2 j (by omega) hj) (u3.2 j (by omega))
                  · have hj' : j < ul.length := by omega
                    rw [List.getD_eq_getElem?_getD, List.getElem?_eq_getElem hj']
                    exact u4 _ (List.getElem_mem _)
              · cases h
            · cases h
          · cases h
        · cases h
      | rp cs off =>
        simp only [borrow] at h
        split at h
        · rename_i ys hys
          cases h
          obtain ⟨m1, m2⟩ := mapO_some hys
          cases hv with
          | rp _ _ b o vals hb hlt hc hvv h1 =>
            exact .rp ys off b o vals (hno _) hlt (fun j hj => hc j (by omega)) (fun j hj => ihd _ _ _ (m2 j (by omega) hj) (hvv j (by omega))) (fun j hj => h1 j (by omega))
        · cases h
      | sl id sz ver off len =>
        simp only [borrow] at h
        split at h
        · rename_i b hb
          split at h
          · rename_i hcond
            obtain ⟨hver, hle⟩ := hcond
            split at h
            · rename_i ys hys
              cases h
              obtain ⟨bi, hbi, hB⟩ := hS.get hb
              obtain ⟨cs, hr, hs, hrow⟩ := hB.rows
              obtain ⟨s1, s2, s3, s4⟩ := shp_flat (borrow_shp A) hys
              cases hv with
              | sl _ _ _ _ _ ad c bi' hi' hvv hss hl hh =>
                rw [hbi] at hi'
                cases hi'
                obtain ⟨rfl, had⟩ := hh (by rw [hB.n]; exact hver)
                have hsz : b.sz = sz := by rw [← hB.sz]; exact hss
                have hul : ∀ e ∈ (b.els.drop off).take len, (cellsOf e).length = sz := fun e he' => by rw [← hsz]; exact hB.uni e (List.mem_of_mem_drop (List.mem_of_mem_take he'))
                have hlen : ((b.els.drop off).take len).length = len := by simp; omega
                have hfe : flatE ((b.els.drop off).take len) = ((flatE b.els).drop (off * sz)).take (len * sz) := by rw [← hsz]; exact flatE_seg hB.uni off len
                have hfl := flatE_length hB.uni
                have hmul : (off + len) * b.sz ≤ b.els.length * b.sz := Nat.mul_le_mul_right _ (by omega)
                rw [Nat.add_mul, hsz] at hmul
                rw [hsz] at hfl
                have hflen : (flatE ((b.els.drop off).take len)).length = len * sz := by rw [hfe]; simp; omega
                have key : ∀ k, k < len * sz → ∃ u, cs[off * sz + k]? = some u ∧ (∀ hk : k < (flatE ((b.els.drop off).take len)).length, VRel O I w (flatE ((b.els.drop off).take len))[k] u) ∧ u.oneCell' = true := by
                  intro k hk
                  have hlt : off * sz + k < (flatE b.els).length := by omega
                  obtain ⟨u, e1, r1, o1⟩ := hrow _ hlt
                  refine ⟨u, e1, fun hk2 => ?_, o1⟩
                  have e : (flatE ((b.els.drop off).take len))[k]? = (flatE b.els)[off * sz + k]? := by rw [hfe, List.getElem?_take, if_pos hk, List.getElem?_drop]
                  rw [List.getElem?_eq_getElem hk2, List.getElem?_eq_getElem hlt] at e
                  rw [Option.some.inj e]
                  exact r1
                have hyl : ys.length = len := by omega
                have hcp := hB.cap
                have hR := VRel.lst (O := Lent O I) (I := []) (w := w) false sz ys ad (bi.cap - off) (fun k => cs.getD (off * sz + k) undef) (fun h => by cases h) (by omega) (fun hne => ?_) (s2 sz hul) (fun k hk => ?_) (fun k hk => ?_) (fun k hk => ?_)
                · rw [hyl] at hR
                  exact hR
                · have hpos : 0 < len := by
                    rcases Nat.eq_zero_or_pos len with h0 | h0
                    · exact absurd (List.length_eq_zero_iff.1 (by omega)) hne
                    · exact h0
                  rw [had (by omega)]
                  exact ⟨rfl, hno _, hS.lt _ _ hbi, fun h => by cases h⟩
                · obtain ⟨u, e1, _, _⟩ := key k (by omega)
                  have hpos : 0 < len := by
                    rcases Nat.eq_zero_or_pos len with h0 | h0
                    · subst h0; omega
                    · exact h0
                  rw [had (by omega), hss, cell_row hr, e1]
                  simp [Array.getD_eq_getD_getElem?, e1]
                · obtain ⟨u, e1, r1, _⟩ := key k (by omega)
                  obtain ⟨d', hd', hb'⟩ := s4 k (by omega) hk
                  have : cs.getD (off * sz + k) undef = u := by simp [Array.getD_eq_getD_getElem?, e1]
                  rw [this]
                  exact ih d' (by omega) _ _ _ hb' (r1 (by omega))
                · obtain ⟨u, e1, _, o1⟩ := key k (by omega)
                  have : cs.getD (off * sz + k) undef = u := by simp [Array.getD_eq_getD_getElem?, e1]
                  rw [this]
                  exact o1
            · cases h
          · cases h
        · cases h
      | lst p sz nil xs =>
        simp only [borrow] at h
        split at h
        · rename_i hp
          cases h
          subst hp
          exact perm_rel hperm hv rfl
        · rename_i hp
          have hp' : p = false := by simpa using hp
          subst hp'
          split at h
          · rename_i ys hys
            cases h
            obtain ⟨s1, s2, s3, s4⟩ := shp_flat (borrow_shp A) hys
            cases hv with
            | lstn =>
              have : ys = [] := List.length_eq_zero_iff.1 (by simpa using s1)
              subst this
              exact .lstn _ _
            | lst _ _ _ ad c vals hpp hcap ha hu hc hvv h1 =>
              have hR := VRel.lst (O := Lent O I) (I := []) (w := w) false sz ys ad c vals (fun h => by cases h) (by omega) (fun hne => ?_) (s2 sz hu) (fun k hk => hc k (by omega)) (fun k hk => ?_) (fun k hk => h1 k (by omega))
              · rw [s1] at hR
                exact hR
              · have hne' : xs ≠ [] := by rintro rfl; exact hne (List.length_eq_zero_iff.1 (by simpa using s1))
                obtain ⟨a1, a2, a3, a4⟩ := ha hne'
                exact ⟨a1, hno _, a3, fun h => by cases h⟩
              · obtain ⟨d', hd', hb'⟩ := s4 k (by omega) hk
                exact ih d' (by omega) _ _ _ hb' (hvv k (by omega))
          · cases h
      | fn f first caps =>
        simp only [borrow] at h
        split at h
        · rename_i a' b' ha hb
          cases h
          cases hv with
          | fn _ _ _ fl cl hf hc h1 h2 =>
            obtain ⟨m1, m2⟩ := mapO_rels ha hf h1 ihd
            obtain ⟨m3, m4⟩ := mapO_rels hb hc h2 ihd
            exact .fn f a' b' fl cl m1 m3 m2 m4
        · cases h
      | iface t x =>
        simp only [borrow] at h
        split at h
        · rename_i y' hy
          cases h
          cases hv with
          | iface _ _ v hv => exact .iface t y' v (ihd _ _ _ hy hv)
        · cases h
      | agg xs =>
        simp only [borrow] at h
        split at h
        · rename_i ys hys
          cases h
          cases hv with
          | agg _ vl hl hr h1 =>
            obtain ⟨m1, m2⟩ := mapO_rels hys hl hr ihd
            exact .agg ys vl m1 m2 h1
        · cases h
      | tup xs => simp [borrow] at h

theorem permAll_mapO {F : Nat → AV → Option AV} {d : Nat} (hF : ∀ x y, F d x = some y → permA y = true) {xs ys : List AV} (h : mapO (F d) xs = some ys) : permAll ys = true := by
  obtain ⟨h1, h2⟩ := mapO_some h
  unfold permAll
  rw [List.all_eq_true]
  intro y hy
  obtain ⟨i, hi, rfl⟩ := List.getElem_of_mem hy
  exact hF _ _ (h2 i (by omega) hi)

theorem giveBack_perm (A1 : Heap) : ∀ (d : Nat) (x y : AV), giveBack A1 d x = some y → permA y = true := by
  intro d
  induction d with
  | zero => intro x y h; simp [giveBack] at h
  | succ d ih =>
    intro x y h
    cases x <;> simp only [giveBack] at h <;> first
      | (cases h; done)
      | (cases h; rfl)
      | skip
    · split at h <;> try (cases h; done)
      split at h <;> try (cases h; done)
      split at h <;> try (cases h; done)
      cases h; rfl
    · split at h <;> try (cases h; done)
      rename_i hp
      cases h
      simpa [permA] using hp
    · split at h <;> try (cases h; done)
      rename_i z hz
      cases h
      simpa [permA] using ih _ _ hz
    · split at h <;> try (cases h; done)
      rename_i ys hys
      cases h
      have := permAll_mapO (F := giveBack A1) ih hys
      simp only [permA]
      rw [permL_iff]
      unfold permAll at this
      rw [List.all_eq_true] at this
      exact this

theorem giveBack_rel {O : Nat → Prop} {I I1 : Info} {A1 : Heap} (hS : SRel (Lent O I) I1 A1 w) : ∀ (n d : Nat), d ≤ n → ∀ (x y : AV) (v : Value), giveBack A1 d x = some y → VRel (Lent O I) I1 w x v → VRel O I w y v := by
  have hperm : ∀ b, ¬ Has I1 b → ¬ Lent O I b → ¬ Has I b ∧ ¬ O b := fun b _ h2 => ⟨fun h => h2 (.inr h), fun h => h2 (.inl h)⟩
  intro n
  induction n with
  | zero =>
    intro d hd x y v h
    have : d = 0 := by omega
    subst this
    simp [giveBack] at h
  | succ n ih =>
    intro d hd x y v h hv
    cases d with
    | zero => simp [giveBack] at h
    | succ d =>
      have ihd : ∀ x y v, giveBack A1 d x = some y → VRel (Lent O I) I1 w x v → VRel O I w y v := fun x y v => ih d (by omega) x y v
      cases x with
      | junk => simp [giveBack] at h
      | int k n => simp only [giveBack] at h; cases h; rw [rel_int hv]; exact .int _ _
      | bool b => simp only [giveBack] at h; cases h; rw [rel_bool hv]; exact .bool _
      | str s => simp only [giveBack] at h; cases h; rw [rel_str hv]; exact .str _
      | nilp => simp only [giveBack] at h; cases h; rw [rel_nilp hv]; exact .nilp
      | nilf => simp only [giveBack] at h; cases h; rw [rel_nilf hv]; exact .nilf
      | nili => simp only [giveBack] at h; cases h; rw [rel_nili hv]; exact .nili
      | ptr => simp [giveBack] at h
      | rp => simp [giveBack] at h
      | fn => simp [giveBack] at h
      | tup => simp [giveBack] at h
      | sl id sz ver off len =>
        simp only [giveBack] at h
        split at h
        · rename_i b hb
          split at h
          · rename_i hcond
            obtain ⟨hver, hle⟩ := hcond
            split at h
            · rename_i ys hys
              cases h
              obtain ⟨bi, hbi, hB⟩ := hS.get hb
              obtain ⟨cs, hr, hs, hrow⟩ := hB.rows
              obtain ⟨s1, s2, s3, s4⟩ := shp_flat (giveBack_shp A1) hys
              have hpall := permAll_mapO (F := giveBack A1) (giveBack_perm A1 d) hys
              cases hv with
              | sl _ _ _ _ _ ad c bi' hi' hvv hss hl hh =>
                rw [hbi] at hi'
                cases hi'
                obtain ⟨rfl, had⟩ := hh (by rw [hB.n]; exact hver)
                have hsz : b.sz = sz := by rw [← hB.sz]; exact hss
                have hul : ∀ e ∈ (b.els.drop off).take len, (cellsOf e).length = sz := fun e he' => by rw [← hsz]; exact hB.uni e (List.mem_of_mem_drop (List.mem_of_mem_take he'))
                have hlen : ((b.els.drop off).take len).length = len := by simp; omega
                have hfe : flatE ((b.els.drop off).take len) = ((flatE b.els).drop (off * sz)).take (len * sz) := by rw [← hsz]; exact flatE_seg hB.uni off len
                have hfl := flatE_length hB.uni
                have hmul : (off + len) * b.sz ≤ b.els.length * b.sz := Nat.mul_le_mul_right _ (by omega)
                rw [Nat.add_mul, hsz] at hmul
                rw [hsz] at hfl
                have hflen : (flatE ((b.els.drop off).take len)).length = len * sz := by rw [hfe]; simp; omega
                have key : ∀ k, k < len * sz → ∃ u, cs[off * sz + k]? = some u ∧ (∀ hk : k < (flatE ((b.els.drop off).take len)).length, VRel (Lent O I) I1 w (flatE ((b.els.drop off).take len))[k] u) ∧ u.oneCell' = true := by
                  intro k hk
                  have hlt : off * sz + k < (flatE b.els).length := by omega
                  obtain ⟨u, e1, r1, o1⟩ := hrow _ hlt
                  refine ⟨u, e1, fun hk2 => ?_, o1⟩
                  have e : (flatE ((b.els.drop off).take len))[k]? = (flatE b.els)[off * sz + k]? := by rw [hfe, List.getElem?_take, if_pos hk, List.getElem?_drop]
                  rw [List.getElem?_eq_getElem hk2, List.getElem?_eq_getElem hlt] at e
                  rw [Option.some.inj e]
                  exact r1
                have hyl : ys.length = len := by omega
                have hcp := hB.cap
                have hno : ¬ Has I bi.r ∧ ¬ O bi.r := by
                  have := hS.out _ (has_of hbi)
                  exact ⟨fun h => this (.inr h), fun h => this (.inl h)⟩
                have hR := VRel.lst (O := O) (I := I) (w := w) true sz ys ad (bi.cap - off) (fun k => cs.getD (off * sz + k) undef) (fun _ => hpall) (by omega) (fun hne => ?_) (s2 sz hul) (fun k hk => ?_) (fun k hk => ?_) (fun k hk => ?_)
                · rw [hyl] at hR
                  exact hR
                · have hpos : 0 < len := by
                    rcases Nat.eq_zero_or_pos len with h0 | h0
                    · exact absurd (List.length_eq_zero_iff.1 (by omega)) hne
                    · exact h0
                  rw [had (by omega)]
                  exact ⟨rfl, hno.1, hS.lt _ _ hbi, fun _ => hno.2⟩
                · obtain ⟨u, e1, _, _⟩ := key k (by omega)
                  have hpos : 0 < len := by
                    rcases Nat.eq_zero_or_pos len with h0 | h0
                    · subst h0; omega
                    · exact h0
                  rw [had (by omega), hss, cell_row hr, e1]
                  simp [Array.getD_eq_getD_getElem?, e1]
                · obtain ⟨u, e1, r1, _⟩ := key k (by omega)
                  obtain ⟨d', hd', hb'⟩ := s4 k (by omega) hk
                  have : cs.getD (off * sz + k) undef = u := by simp [Array.getD_eq_getD_getElem?, e1]
                  rw [this]
                  exact ih d' (by omega) _ _ _ hb' (r1 (by omega))
                · obtain ⟨u, e1, _, o1⟩ := key k (by omega)
                  have : cs.getD (off * sz + k) undef = u := by simp [Array.getD_eq_getD_getElem?, e1]
                  rw [this]
                  exact o1
            · cases h
          · cases h
        · cases h
      | lst p sz nil xs =>
        simp only [giveBack] at h
        split at h
        · rename_i hp
          cases h
          subst hp
          exact perm_rel hperm hv rfl
        · cases h
      | iface t x =>
        simp only [giveBack] at h
        split at h
        · rename_i y' hy
          cases h
          cases hv with
          | iface _ _ v hv => exact .iface t y' v (ihd _ _ _ hy hv)
        · cases h
      | agg xs =>
        simp only [giveBack] at h
        split at h
        · rename_i ys hys
          cases h
          cases hv with
          | agg _ vl hl hr h1 =>
            obtain ⟨m1, m2⟩ := mapO_rels hys hl hr ihd
            exact .agg ys vl m1 m2 h1
        · cases h

theorem giveBackT_rel {O : Nat → Prop} {I I1 : Info} {A1 : Heap} (hS : SRel (Lent O I) I1 A1 w) {d : Nat} {x y : AV} {v : Value} (h : giveBackT A1 d x = some y) (hv : VRel (Lent O I) I1 w x v) : VRel O I w y v := by
  unfold giveBackT at h
  split at h
  · split at h
    · rename_i xs ys hys
      cases h
      cases hv with
      | tup _ vl hl hr =>
        obtain ⟨m1, m2⟩ := mapO_rels hys hl hr (fun x y v => giveBack_rel hS d d (Nat.le_refl _) x y v)
        exact .tup ys vl m1 m2
    · cases h
  · exact giveBack_rel hS d d (Nat.le_refl _) x y v h hv

theorem embed_rel {O : Nat → Prop} {I I1 : Info} : ∀ (m d : Nat), d ≤ m → ∀ (x y : AV) (v : Value), embed I.length d x = some y → VRel (Lent O I) I1 w x v → VRel O (I ++ I1) w y v := by
  have hperm : ∀ b, ¬ Has I1 b → ¬ Lent O I b → ¬ Has (I ++ I1) b ∧ ¬ O b := by
    intro b h1 h2
    refine ⟨?_, fun h => h2 (.inl h)⟩
    rintro ⟨x, hx, rfl⟩
    rcases List.mem_append.1 hx with hx | hx
    · exact h2 (.inr ⟨x, hx, rfl⟩)
    · exact h1 ⟨x, hx, rfl⟩
  have hget : ∀ (id : Nat) (bi : BI), I1[id]? = some bi → (I ++ I1)[id + I.length]? = some bi := by
    intro id bi h
    rw [List.getElem?_append_right (by omega), Nat.add_sub_cancel]
    exact h
  intro m
  induction m with
  | zero =>
    intro d hd x y v h
    have : d = 0 := by omega
    subst this
    simp [embed] at h
  | succ m ih =>
    intro d hd x y v h hv
    cases d with
    | zero => simp [embed] at h
    | succ d =>
      have ihd : ∀ x y v, embed I.length d x = some y → VRel (Lent O I) I1 w x v → VRel O (I ++ I1) w y v := fun x y v => ih d (by omega) x y v
      cases x with
      | junk => simp only [embed] at h; cases h; exact .junk _
      | int k n => simp only [embed] at h; cases h; rw [rel_int hv]; exact .int _ _
      | bool b => simp only [embed] at h; cases h; rw [rel_bool hv]; exact .bool _
      | str s => simp only [embed] at h; cases h; rw [rel_str hv]; exact .str _
      | nilp => simp only [embed] at h; cases h; rw [rel_nilp hv]; exact .nilp
      | nilf => simp only [embed] at h; cases h; rw [rel_nilf hv]; exact .nilf
      | nili => simp only [embed] at h; cases h; rw [rel_nili hv]; exact .nili
      | rp => simp only [embed] at h; cases h; exact .junk _
      | fn => simp only [embed] at h; cases h; exact .junk _
      | ptr id ver ix off =>
        simp only [embed] at h
        cases h
        cases hv with
        | ptr _ _ _ _ a bi hi hvv hh => exact .ptr _ _ _ _ a bi (hget _ _ hi) hvv hh
      | sl id sz ver off len =>
        simp only [embed] at h
        cases h
        cases hv with
        | sl _ _ _ _ _ a c bi hi hvv hs hl hh => exact .sl _ _ _ _ _ a c bi (hget _ _ hi) hvv hs hl hh
      | lst p sz nil xs =>
        simp only [embed] at h
        split at h
        · rename_i hp
          cases h
          subst hp
          exact perm_rel hperm hv rfl
        · cases h
          exact .junk _
      | iface t x =>
        simp only [embed] at h
        split at h
        · rename_i y' hy
          cases h
          cases hv with
          | iface _ _ v hv => exact .iface t y' v (ihd _ _ _ hy hv)
        · cases h
      | agg xs =>
        simp only [embed] at h
        split at h
        · rename_i ys hys
          cases h
          cases hv with
          | agg _ vl hl hr h1 =>
            obtain ⟨m1, m2⟩ := mapO_rels hys hl hr ihd
            exact .agg ys vl m1 m2 h1
        · cases h
      | tup xs =>
        simp only [embed] at h
        split at h
        · rename_i ys hys
          cases h
          cases hv with
          | tup _ vl hl hr =>
            obtain ⟨m1, m2⟩ := mapO_rels hys hl hr ihd
            exact .tup ys vl m1 m2
        · cases h

theorem lent_start {O : Nat → Prop} {I : Info} {A : Heap} (hS : SRel O I A w) : SRel (Lent O I) [] [] w where
  len := rfl
  blk := fun id b bi h => by simp at h
  inj := fun i j bi bj h => by simp at h
  lt := fun id bi h => by simp at h
  out := fun b ⟨x, hx, _⟩ => by simp at hx
  olt := fun b h => h.elim (hS.olt b) (fun h => hS.has_lt h)

/-- Behind a run apart the caller's state stands. -/
theorem lent_back {O : Nat → Prop} {I I1 : Info} {A : Heap} {w' : World} (hS : SRel O I A w) (hE : Ext [] w I1 w') : SRel O I A w' ∧ Ext I w I w' := by
  have hno : ∀ b, ¬ Has ([] : Info) b := by rintro b ⟨x, hx, _⟩; simp at hx
  have he : Ext I w I w' := ⟨hE.os, hE.tape, hE.output, hE.size, fun b hb _ => hE.block b hb (hno b), fun _ h => .inl h, fun _ bi h => ⟨bi, h, rfl, Nat.le_refl _, fun _ => rfl⟩⟩
  exact ⟨hS.grow he fun b hb => hE.block b (hS.has_lt hb) (hno b), he⟩

theorem embedB_some {n d : Nat} {b b' : Blk} (h : embedB n d b = some b') : ∃ els, mapO (embed n d) b.els = some els ∧ b' = ⟨b.ty, b.sz, els⟩ := by
  unfold embedB at h
  split at h
  · rename_i els hels
    cases h
    exact ⟨els, hels, rfl⟩
  · cases h

/-- A run apart whose blocks become the caller's. -/
theorem lent_own {O : Nat → Prop} {I I1 : Info} {A A1 A2 : Heap} {w' : World} (hS : SRel O I A w) (hE : Ext [] w I1 w') (hS1 : SRel (Lent O I) I1 A1 w') {d : Nat} (h : mapO (embedB I.length d) A1 = some A2) :
    SRel O (I ++ I1) (A ++ A2) w' ∧ Ext I w (I ++ I1) w' := by
  obtain ⟨hS', hE'⟩ := lent_back hS hE
  obtain ⟨m1, m2⟩ := mapO_some h
  have hno : ∀ b, ¬ Has ([] : Info) b := by rintro b ⟨x, hx, _⟩; simp at hx
  have hfresh : ∀ b, Has I1 b → w.heap.size ≤ b := fun b hb => (hE.own b hb).resolve_left (hno b)
  have he : Ext I w (I ++ I1) w' := by
    refine ⟨hE.os, hE.tape, hE.output, hE.size, fun b hb _ => hE.block b hb (hno b), ?_, ?_⟩
    · rintro b ⟨x, hx, rfl⟩
      rcases List.mem_append.1 hx with hx | hx
      · exact .inl ⟨x, hx, rfl⟩
      · exact .inr (hfresh _ ⟨x, hx, rfl⟩)
    · intro id bi hi
      exact ⟨bi, by rw [List.getElem?_append_left (List.getElem?_eq_some_iff.1 hi).1]; exact hi, rfl, Nat.le_refl _, fun _ => rfl⟩
  have hnotI : ∀ b, Has I1 b → ¬ Has I b := fun b h1 h2 => hS1.out b h1 (.inr h2)
  refine ⟨⟨?_, ?_, ?_, ?_, ?_, ?_⟩, he⟩
  · simp [hS.len, hS1.len, m1]
  · intro id b bi hb hi
    rcases Nat.lt_or_ge id I.length with hlt | hge
    · rw [List.getElem?_append_left hlt] at hi
      rw [List.getElem?_append_left (by rw [← hS.len]; exact hlt)] at hb
      have hB := hS.blk id b bi hb hi
      refine ⟨hB.n, hB.sz, hB.pos, hB.cap, hB.capm, hB.uni, ?_⟩
      obtain ⟨cs, e1, e2, e3⟩ := hB.row
      refine ⟨cs, by rw [hE.block _ (hS.lt _ _ hi) (hno _)]; exact e1, e2, fun k hk => ?_⟩
      obtain ⟨u, u1, u2, u3⟩ := e3 k hk
      exact ⟨u, u1, u2.mono he, u3⟩
    · rw [List.getElem?_append_right hge] at hi
      rw [List.getElem?_append_right (by rw [← hS.len]; exact hge), ← hS.len] at hb
      have hlt2 : id - I.length < A2.length := (List.getElem?_eq_some_iff.1 hb).1
      have hlt1 : id - I.length < A1.length := by omega
      have hm := m2 _ hlt1 hlt2
      have hb' : A2[id - I.length] = b := (List.getElem?_eq_some_iff.1 hb).2
      rw [hb'] at hm
      obtain ⟨els, h1, rfl⟩ := embedB_some hm
      have hB := hS1.blk _ _ bi (List.getElem?_eq_getElem hlt1) hi
      obtain ⟨s1, s2, s3, s4⟩ := shp_flat (embed_shp I.length) h1
      refine ⟨by rw [hB.n]; exact s1.symm, hB.sz, hB.pos, by rw [s1]; exact hB.cap, hB.capm, s2 _ hB.uni, ?_⟩
      obtain ⟨cs, e1, e2, e3⟩ := hB.row
      refine ⟨cs, e1, e2, fun k hk => ?_⟩
      have hk2 : k < (flatE els).length := hk
      have hk' : k < (flatE A1[id - I.length].els).length := by omega
      obtain ⟨u, u1, u2, u3⟩ := e3 k hk'
      obtain ⟨d', hd', hb2⟩ := s4 k hk' hk
      exact ⟨u, u1, embed_rel d' d' (Nat.le_refl _) _ _ _ hb2 u2, u3⟩
  · intro i j bi bj hi hj hr
    rcases Nat.lt_or_ge i I.length with h1 | h1 <;> rcases Nat.lt_or_ge j I.length with h2 | h2
    · rw [List.getElem?_append_left h1] at hi
      rw [List.getElem?_append_left h2] at hj
      exact hS.inj i j bi bj hi hj hr
    · rw [List.getElem?_append_left h1] at hi
      rw [List.getElem?_append_right h2] at hj
      exact absurd (hr ▸ has_of hi) (hnotI _ (has_of hj))
    · rw [List.getElem?_append_right h1] at hi
      rw [List.getElem?_append_left h2] at hj
      exact absurd (hr ▸ has_of hj) (hnotI _ (has_of hi))
    · rw [List.getElem?_append_right h1] at hi
      rw [List.getElem?_append_right h2] at hj
      have := hS1.inj _ _ bi bj hi hj hr
      omega
  · intro id bi hi
    rcases Nat.lt_or_ge id I.length with h1 | h1
    · rw [List.getElem?_append_left h1] at hi
      exact hS'.lt id bi hi
    · rw [List.getElem?_append_right h1] at hi
      exact hS1.lt _ bi hi
  · rintro b ⟨x, hx, rfl⟩ ho
    rcases List.mem_append.1 hx with hx | hx
    · exact hS.out _ ⟨x, hx, rfl⟩ ho
    · exact hS1.out _ ⟨x, hx, rfl⟩ (.inl ho)
  · exact hS'.olt

end
end Go.Ev
end

section
/- Operations in another order: what an operation looks at, and which operations change places. No program in sight. -/
set_option linter.unusedVariables false
set_option linter.unusedSimpArgs false
namespace Go.Ev

def MK.opds : MK → List Opd
  | .mv x => [x]
  | .pick c a b => [c, a, b]
  | .alloc _ _ _ => []
  | .box _ _ x => [x]
  | .rbox _ x => [x]
  | .build _ parts => parts.map (·.2.2)
  | .bsl _ _ _ parts => parts.map (·.2)
  | .rbsl _ _ parts => parts.map (·.2)
  | .load _ _ a => [a]
  | .store _ a x => [a, x]
  | .nilchk x => [x]
  | .bin _ _ x y => [x, y]
  | .un _ x => [x]
  | .cvt _ x => [x]
  | .faddr _ x => [x]
  | .fld _ _ _ x => [x]
  | .iaddr _ x i => [x, i]
  | .iaddrA _ _ x i => [x, i]
  | .idxS x i => [x, i]
  | .idxA _ _ _ x i => [x, i]
  | .slc _ x lo hi mx => x :: (lo.toList ++ hi.toList ++ mx.toList)
  | .slcx _ x lo hi => x :: (lo.toList ++ hi.toList)
  | .slcS x lo hi => x :: (lo.toList ++ hi.toList)
  | .slcA _ _ x lo hi => x :: (lo.toList ++ hi.toList)
  | .ext _ x => [x]
  | .mkfn _ first caps => first ++ caps
  | .mksl _ _ _ _ l c => [l, c]
  | .mkif _ x => [x]
  | .len _ x => [x]
  | .append _ _ _ s x _ => [s, x]
  | .copy _ d s => [d, s]
  | .clear _ _ x => [x]
  | .mm _ xs => xs
  | .call _ f args => f :: args
  | .bad => []

theorem bound_congr {g g' : Nat → AV} {d : Nat} {o : Option Opd} (h : ∀ x ∈ o.toList, x.ev g = x.ev g') : bound g d o = bound g' d o := by
  cases o with
  | none => rfl
  | some x => simp only [bound, h x (by simp)]

theorem evK_congr (call : CallF) {k : MK} {g g' : Nat → AV} (h : ∀ x ∈ k.opds, x.ev g = x.ev g') (A : Heap) : evK call k g A = evK call k g' A := by
  cases k with
  | build zero parts =>
    have : (parts.map fun p => (p.1, p.2.1, p.2.2.ev g)) = parts.map fun p => (p.1, p.2.1, p.2.2.ev g') :=
      List.map_congr_left fun p hp => by rw [h p.2.2 (by simp only [MK.opds]; exact List.mem_map_of_mem hp)]
    simp only [evK, evM, this]
  | bsl ty sz zs parts =>
    have : (parts.map fun p => (p.1, p.2.ev g)) = parts.map fun p => (p.1, p.2.ev g') :=
      List.map_congr_left fun p hp => by rw [h p.2 (by simp only [MK.opds]; exact List.mem_map_of_mem hp)]
    simp only [evK, evM, this]
  | rbsl sz zs parts =>
    have : (parts.map fun p => (p.1, p.2.ev g)) = parts.map fun p => (p.1, p.2.ev g') :=
      List.map_congr_left fun p hp => by rw [h p.2 (by simp only [MK.opds]; exact List.mem_map_of_mem hp)]
    simp only [evK, evM, this]
  | mkfn f first caps =>
    have h1 : first.map (·.ev g) = first.map (·.ev g') := List.map_congr_left fun p hp => h p (by simp [MK.opds, hp])
    have h2 : caps.map (·.ev g) = caps.map (·.ev g') := List.map_congr_left fun p hp => h p (by simp [MK.opds, hp])
    simp only [evK, evM, h1, h2]
  | mm mx xs =>
    have h1 : xs.map (·.ev g) = xs.map (·.ev g') := List.map_congr_left fun p hp => h p (by simp [MK.opds, hp])
    simp only [evK, evM, h1]
  | call k f args =>
    have h0 := h f (by simp [MK.opds])
    have h1 : args.map (·.ev g) = args.map (·.ev g') := List.map_congr_left fun p hp => h p (by simp [MK.opds, hp])
    simp only [evK, h0, h1]
  | slc sz x lo hi mx =>
    have h0 := h x (by simp [MK.opds])
    have h1 : ∀ d, bound g d lo = bound g' d lo := fun d => bound_congr fun y hy => h y (by simp only [MK.opds, List.mem_cons, List.mem_append]; exact .inr (.inl (.inl hy)))
    have h2 : ∀ d, bound g d hi = bound g' d hi := fun d => bound_congr fun y hy => h y (by simp only [MK.opds, List.mem_cons, List.mem_append]; exact .inr (.inl (.inr hy)))
    cases mx with
    | none => simp only [evK, evM, h0, h1, h2]
    | some m =>
      have h3 := h m (by simp [MK.opds])
      simp only [evK, evM, h0, h1, h2, h3]
  | slcx sz x lo hi =>
    have h0 := h x (by simp [MK.opds])
    have h1 : ∀ d, bound g d lo = bound g' d lo := fun d => bound_congr fun y hy => h y (by simp only [MK.opds, List.mem_cons, List.mem_append]; exact .inr (.inl hy))
    have h2 : ∀ d, bound g d hi = bound g' d hi := fun d => bound_congr fun y hy => h y (by simp only [MK.opds, List.mem_cons, List.mem_append]; exact .inr (.inr hy))
    simp only [evK, evM, h0, h1, h2]
  | slcS x lo hi =>
    have h0 := h x (by simp [MK.opds])
    have h1 : ∀ d, bound g d lo = bound g' d lo := fun d => bound_congr fun y hy => h y (by simp only [MK.opds, List.mem_cons, List.mem_append]; exact .inr (.inl hy))
    have h2 : ∀ d, bound g d hi = bound g' d hi := fun d => bound_congr fun y hy => h y (by simp only [MK.opds, List.mem_cons, List.mem_append]; exact .inr (.inr hy))
    simp only [evK, evM, h0, h1, h2]
  | slcA n sz x lo hi =>
    have h0 := h x (by simp [MK.opds])
    have h1 : ∀ d, bound g d lo = bound g' d lo := fun d => bound_congr fun y hy => h y (by simp only [MK.opds, List.mem_cons, List.mem_append]; exact .inr (.inl hy))
    have h2 : ∀ d, bound g d hi = bound g' d hi := fun d => bound_congr fun y hy => h y (by simp only [MK.opds, List.mem_cons, List.mem_append]; exact .inr (.inr hy))
    simp only [evK, evM, h0, h1, h2]
  | _ =>
    simp only [MK.opds, List.mem_cons, List.not_mem_nil, or_false, forall_eq_or_imp, forall_eq, false_implies, implies_true] at h
    simp only [evK, evM, h]

/-- The registers that an operation looks at. -/
def Opd.tmp : Opd → List Nat
  | .t n => [n]
  | .c _ => []

def MOp.looks (o : MOp) : List Nat := o.k.opds.flatMap Opd.tmp ++ (match o.guard with
  | some (n, _) => [n]
  | none => [])

theorem evV_congr (call : CallF) {o : MOp} {g g' : Nat → AV} (h : ∀ n ∈ o.looks, g n = g' n) (A : Heap) : evV call o g A = evV call o g' A := by
  have hg : guardOk g o.guard = guardOk g' o.guard := by
    cases hh : o.guard with
    | none => rfl
    | some p =>
      obtain ⟨n, b⟩ := p
      have := h n (by simp [MOp.looks, hh])
      simp only [guardOk, this]
  have hk : ∀ x ∈ o.k.opds, x.ev g = x.ev g' := by
    intro x hx
    cases x with
    | c v => rfl
    | t n => exact h n (by simp only [MOp.looks, List.mem_append, List.mem_flatMap]; exact .inl ⟨.t n, hx, by simp [Opd.tmp]⟩)
  unfold evV
  rw [hg, evK_congr call hk]

/-! ### what an operation does to the memory -/

/-- 0: nothing, and it reads none; 1: it reads; 2: new blocks behind the old ones; 3: the rest. -/
def MK.cls : MK → Nat
  | .load .. => 1
  | .slcx .. => 1
  | .call .ro _ _ => 1
  | .alloc .. | .box .. | .bsl .. | .mksl .. => 2
  | .call .own _ _ => 2
  | .store .. | .append .. | .copy .. | .clear .. | .bad | .call .inl _ _ => 3
  | _ => 0

theorem evM_pure {k : MK} (hc : k.cls = 0) {g : Nat → AV} {A A' : Heap} {v : AV} (h : evM k g A = some (v, A')) : A' = A ∧ ∀ B, evM k g B = some (v, B) := by
  cases k <;> first
    | (simp only [MK.cls] at hc; omega)
    | (simp only [evM] at h ⊢
       repeat' split at h
       all_goals first
         | (cases h; done)
         | (cases h; refine ⟨rfl, fun B => ?_⟩; simp_all))
    | skip
  all_goals (rename_i k _ _; cases k <;> simp [MK.cls] at hc)

theorem getElem?_append_some {A B : Heap} {i : Nat} {b : Blk} (h : A[i]? = some b) : (A ++ B)[i]? = some b := by
  rw [List.getElem?_append_left (List.getElem?_eq_some_iff.1 h).1]; exact h

theorem mapO_imp {α β : Type} {f f' : α → Option β} (hf : ∀ x y, f x = some y → f' x = some y) : ∀ {xs : List α} {ys : List β}, mapO f xs = some ys → mapO f' xs = some ys
  | [], ys, h => h
  | x :: r, ys, h => by
    simp only [mapO] at h ⊢
    split at h
    · rename_i y hy
      split at h
      · rename_i zs hz
        rw [hf _ _ hy, mapO_imp hf hz]
        exact h
      · cases h
    · cases h

theorem borrow_app {A B : Heap} : ∀ (d : Nat) (x y : AV), borrow A d x = some y → borrow (A ++ B) d x = some y
  | 0, x, y, h => by simp [borrow] at h
  | d + 1, x, y, h => by
    have ih := fun {xs ys} => mapO_imp (f := borrow A d) (f' := borrow (A ++ B) d) (xs := xs) (ys := ys) (borrow_app d)
    cases x <;> simp only [borrow] at h ⊢ <;> try exact h
    case lst p sz nil xs =>
      split at h
      · rename_i hp; rw [if_pos hp]; exact h
      · rename_i hp
        rw [if_neg hp]
        split at h
        · rename_i ys hys; rw [ih hys]; exact h
        · cases h
    case sl id sz ver off len =>
      split at h
      · rename_i b hb
        rw [getElem?_append_some hb]
        simp only
        split at h
        · rename_i hc
          rw [if_pos hc]
          split at h
          · rename_i ys hys; rw [ih hys]; exact h
          · cases h
        · cases h
      · cases h
    case ptr id ver ix off =>
      split at h
      · rename_i b hb
        rw [getElem?_append_some hb]
        simp only
        split at h
        · rename_i hc
          rw [if_pos hc]
          split at h
          · rename_i e he
            split at h
            · rename_i ys hys; rw [ih hys]; exact h
            · cases h
          · cases h
        · cases h
      · cases h
    case rp cs off =>
      split at h
      · rename_i ys hys; rw [ih hys]; exact h
      · cases h
    case fn f a b =>
      split at h
      · rename_i a' b' ha hb; rw [ih ha, ih hb]; exact h
      · cases h
    case iface t x =>
      split at h
      · rename_i y' hy; rw [borrow_app d _ _ hy]; exact h
      · cases h
    case agg xs =>
      split at h
      · rename_i ys hys; rw [ih hys]; exact h
      · cases h

theorem evK_read (call : CallF) {k : MK} (hc : k.cls = 1) {g : Nat → AV} {A A' : Heap} {v : AV} (h : evK call k g A = some (v, A')) :
    A' = A ∧ ∀ B, evK call k g (A ++ B) = some (v, A ++ B) := by
  cases k <;> simp only [MK.cls] at hc <;> try omega
  case load agg sz a =>
    simp only [evK, evM] at h ⊢
    split at h
    · rename_i id ver ix off ha
      split at h
      · rename_i b hb
        split at h
        · rename_i hv
          split at h
          · rename_i e he
            split at h
            · rename_i u hu
              cases h
              refine ⟨rfl, fun B => ?_⟩
              simp only [ha, getElem?_append_some hb, hv, he, hu, if_pos]
            · cases h
          · cases h
        · cases h
      · cases h
    · rename_i cs off ha
      split at h
      · rename_i u hu
        cases h
        exact ⟨rfl, fun B => by simp only [ha, hu]⟩
      · cases h
    · cases h
  case slcx sz x lo hi =>
    have up : ∀ {id ver off len : Nat} {h : Int} (B : Heap), hiOk A id ver off len h = true → hiOk (A ++ B) id ver off len h = true := by
      intro id ver off len h B hh
      unfold hiOk at hh ⊢
      simp only [Bool.or_eq_true] at hh ⊢
      rcases hh with hh | hh
      · exact .inl hh
      · right
        split at hh
        · rename_i b hb
          rw [getElem?_append_some hb]
          exact hh
        · cases hh
    simp only [evK, evM] at h ⊢
    split at h
    · rename_i id s ver off len hx
      split at h
      · rename_i l hh hl hhh
        split at h
        · rename_i hc
          obtain ⟨c1, c2, c3, c4⟩ := hc
          cases h
          refine ⟨rfl, fun B => ?_⟩
          simp only [hx, hl, hhh, c1, c2, c3, up B c4, and_self, if_true]
        · cases h
      · cases h
    · cases h
  case call c f args =>
    cases c <;> simp only [MK.cls] at hc <;> try omega
    simp only [evK] at h ⊢
    split at h
    · rename_i f' first caps hf
      simp only [doCall] at h ⊢
      split at h
      · rename_i as has
        split at h
        · rename_i u A1 hu
          split at h
          · rename_i r hr
            cases h
            refine ⟨rfl, fun B => ?_⟩
            simp only [hf, mapO_imp (f' := borrow (A ++ B) depth) (borrow_app depth) has, hu, hr]
          · cases h
        · cases h
      · cases h
    · cases h

theorem evK_grow (call : CallF) {k : MK} (hc : k.cls = 2) {g : Nat → AV} {A A' : Heap} {v : AV} (h : evK call k g A = some (v, A')) : ∃ B, A' = A ++ B := by
  cases k <;> simp only [MK.cls] at hc <;> try omega
  case call c f args =>
    cases c <;> simp only [MK.cls] at hc <;> try omega
    simp only [evK] at h
    split at h
    · simp only [doCall] at h
      split at h
      · split at h
        · split at h
          · cases h; exact ⟨_, rfl⟩
          · cases h
        · cases h
      · cases h
    · cases h
  all_goals
    simp only [evK, evM] at h
    repeat' split at h
    all_goals first
      | (cases h; done)
      | (cases h; exact ⟨_, rfl⟩)

theorem evK_pure (call : CallF) {k : MK} (hc : k.cls = 0) {g : Nat → AV} {A A' : Heap} {v : AV} (h : evK call k g A = some (v, A')) : A' = A ∧ ∀ B, evK call k g B = some (v, B) := by
  have hk : ∀ B, evK call k g B = evM k g B := by
    intro B
    cases k <;> first
      | rfl
      | (rename_i c _ _; cases c <;> simp [MK.cls] at hc)
  simp only [hk] at h ⊢
  exact evM_pure hc h

theorem evV_pure (call : CallF) {o : MOp} (hc : o.k.cls = 0) {g : Nat → AV} {A A' : Heap} {v : AV} (h : evV call o g A = some (v, A')) : A' = A ∧ ∀ B, evV call o g B = some (v, B) := by
  unfold evV at h ⊢
  split at h <;> rename_i hg
  · exact evK_pure call hc h
  · cases h; exact ⟨rfl, fun B => rfl⟩
  · cases h

theorem evV_read (call : CallF) {o : MOp} (hc : o.k.cls = 1) {g : Nat → AV} {A A' : Heap} {v : AV} (h : evV call o g A = some (v, A')) : A' = A ∧ ∀ B, evV call o g (A ++ B) = some (v, A ++ B) := by
  unfold evV at h ⊢
  split at h <;> rename_i hg
  · exact evK_read call hc h
  · cases h; exact ⟨rfl, fun B => rfl⟩
  · cases h

theorem evV_grow (call : CallF) {o : MOp} (hc : o.k.cls = 2) {g : Nat → AV} {A A' : Heap} {v : AV} (h : evV call o g A = some (v, A')) : ∃ B, A' = A ++ B := by
  unfold evV at h
  split at h <;> rename_i hg
  · exact evK_grow call hc h
  · cases h; exact ⟨[], by simp⟩
  · cases h

theorem appEls_get {ty : TypeId} {A A' : Heap} {sz bytes : Nat} {s v : AV} {xs : List AV} (h : appEls ty A sz bytes s xs = some (v, A')) {id : Nat} {b : Blk} (hb : A[id]? = some b)
    (ha : ∀ id' s' ver off len, s = .sl id' s' ver off len → id ≠ id') : A'[id]? = some b := by
  unfold appEls at h
  split at h
  · rename_i id' s' ver off len
    have hne := ha id' s' ver off len rfl
    split at h
    · split at h
      · split at h
        · cases h; rw [List.getElem?_set_ne (Ne.symm hne)]; exact hb
        · split at h
          · cases h; rw [List.getElem?_set_ne (Ne.symm hne)]; exact hb
          · cases h
      · cases h
    · cases h
  · split at h
    · cases h; exact hb
    · split at h
      · cases h; exact getElem?_append_some hb
      · cases h
  · cases h

theorem beside_ok (call : CallF) {agg : Bool} {sz n : Nat} {ty sz' bytes : Nat} {s x : Opd} {away : List Nat} {g : Nat → AV} {A A1 A2 : Heap} {v u : AV} (haw : awayFrom (s.ev g) (g n) = true)
    (hk : evK call (.load agg sz (.t n)) g A = some (v, A1)) (hl : evK call (.append ty sz' bytes s x away) g A = some (u, A2)) : evK call (.load agg sz (.t n)) g A2 = some (v, A2) := by
  simp only [evK, evM] at hl
  split at hl
  · split at hl
    · simp only [evK, evM, Opd.ev] at hk ⊢
      split at hk
      · rename_i id ver ix off ha
        rw [ha] at haw
        split at hk
        · rename_i b hb
          have : A2[id]? = some b := appEls_get hl hb fun id' s' ver off len he => by
            rw [he] at haw
            simpa [awayFrom] using haw
          rw [this]
          simp only
          split at hk
          · rename_i hv
            rw [if_pos hv]
            split at hk
            · split at hk
              · rename_i w hw; cases hk; rfl
              · cases hk
            · cases hk
          · cases hk
        · cases hk
      · split at hk
        · cases hk; rfl
        · cases hk
      · cases hk
    · cases hl
  · cases hl

/-- The registers of an append's check. -/
def MOp.aways (o : MOp) : List Nat := match o.k with
  | .append _ _ _ _ _ away => away
  | _ => []

theorem chk_congr {o : MOp} {g g' : Nat → AV} (h : ∀ n ∈ o.looks ++ o.aways, g n = g' n) : chk o g = chk o g' := by
  obtain ⟨d, gd, k⟩ := o
  cases k <;> simp only [chk]
  rename_i ty sz bytes s x away
  have hg : guardOk g gd = guardOk g' gd := by
    cases gd with
    | none => rfl
    | some p =>
      obtain ⟨n, b⟩ := p
      have := h n (by simp [MOp.looks])
      simp only [guardOk, this]
  have h0 : s.ev g = s.ev g' := by
    cases s with
    | c v => rfl
    | t n => exact h n (by simp [MOp.looks, MK.opds, Opd.tmp])
  have h2 : ∀ n ∈ away, g n = g' n := fun n hn => h n (by simp only [MOp.aways, List.mem_append]; exact .inr hn)
  have h3 : (away.all fun n => awayFrom (s.ev g) (g n)) = away.all fun n => awayFrom (s.ev g') (g' n) := by
    rw [h0]
    apply Bool.eq_iff_iff.2
    simp only [List.all_eq_true]
    exact ⟨fun hh n hn => by rw [← h2 n hn]; exact hh n hn, fun hh n hn => by rw [h2 n hn]; exact hh n hn⟩
  rw [hg, h3]

/-- A load and an append that changes another block. -/
def beside (x y : MOp) : Bool :=
  match x.k, y.k with
  | .load _ _ (.t n), .append _ _ _ _ _ away => away.contains n && x.dst != some n
  | _, _ => false

/-- A load's address is not overwritten behind it. -/
def keeps (x z : MOp) : Bool :=
  match x.k with
  | .load _ _ (.t n) => z.dst != some n
  | _ => true

def awayAt (y : MOp) (g : Nat → AV) (n : Nat) : Prop :=
  match y.k with
  | .append _ _ _ s _ away => n ∈ away → guardOk g y.guard = some true → awayFrom (s.ev g) (g n) = true
  | _ => True

theorem chk_away {y : MOp} {g : Nat → AV} (h : chk y g = true) (n : Nat) : awayAt y g n := by
  obtain ⟨d, gd, k⟩ := y
  cases k <;> simp only [awayAt, chk] at h ⊢
  intro hn hg
  simp only [hg, bne_self_eq_false, Bool.false_or] at h
  exact List.all_eq_true.1 h n hn

theorem awayAt_congr {y : MOp} {g g' : Nat → AV} {n : Nat} (h : ∀ m ∈ y.looks, g m = g' m) (hn : g n = g' n) (ha : awayAt y g n) : awayAt y g' n := by
  obtain ⟨d, gd, k⟩ := y
  cases k <;> simp only [awayAt] at ha ⊢
  rename_i ty sz bytes s x away
  have hg : guardOk g gd = guardOk g' gd := by
    cases gd with
    | none => rfl
    | some p =>
      obtain ⟨n, b⟩ := p
      have := h n (by simp [MOp.looks])
      simp only [guardOk, this]
  have h0 : s.ev g = s.ev g' := by
    cases s with
    | c v => rfl
    | t n => exact h n (by simp [MOp.looks, MK.opds, Opd.tmp])
  rw [← hg, ← h0, ← hn]
  exact ha

def apartB (x y : MOp) : Bool :=
  (match x.dst with
   | some d => !(y.looks).contains d && y.dst != some d
   | none => true) &&
  (match y.dst with
   | some d => !(x.looks).contains d && !(x.aways).contains d
   | none => true)

def commK (x y : MOp) : Bool := x.k.cls == 0 || y.k.cls == 0 || (x.k.cls == 1 && (y.k.cls == 1 || y.k.cls == 2)) || beside x y

/-- May the later operation be done ahead of the earlier one? -/
def comm (x y : MOp) : Bool := apartB x y && commK x y

theorem comm_mem (call : CallF) {x y : MOp} (h : commK x y = true) {g : Nat → AV} {A A1 A2 : Heap} {v u : AV} (ha : ∀ agg sz n, x.k = .load agg sz (.t n) → beside x y = true → awayAt y g n)
    (h1 : evV call x g A = some (v, A1)) (h2 : evV call y g A1 = some (u, A2)) : ∃ A3, evV call y g A = some (u, A3) ∧ evV call x g A3 = some (v, A2) := by
  simp only [commK, Bool.or_eq_true, beq_iff_eq, Bool.and_eq_true] at h
  rcases h with ((h | h) | ⟨hx, hy⟩) | h
  · obtain ⟨rfl, e⟩ := evV_pure call h h1
    exact ⟨A2, h2, e A2⟩
  · obtain ⟨rfl, e⟩ := evV_pure call h h2
    exact ⟨A, e A, h1⟩
  · obtain ⟨rfl, e⟩ := evV_read call hx h1
    rcases hy with hy | hy
    · obtain ⟨rfl, _⟩ := evV_read call hy h2
      exact ⟨_, h2, h1⟩
    · obtain ⟨B, rfl⟩ := evV_grow call hy h2
      exact ⟨_, h2, e B⟩
  · have hb := h
    unfold beside at h
    split at h
    · rename_i agg sz n ty sz' bytes s q away hxk hyk
      simp only [Bool.and_eq_true] at h
      have haw := ha agg sz n hxk hb
      simp only [awayAt, hyk] at haw
      have hn : n ∈ away := by simpa using h.1
      have haw := haw hn
      have hA : A1 = A := (evV_read call (by rw [hxk]; rfl) h1).1
      subst hA
      refine ⟨A2, h2, ?_⟩
      unfold evV at h1 h2 ⊢
      split at h1 <;> rename_i hg
      · split at h2 <;> rename_i hg2
        · rw [hxk] at h1 ⊢
          rw [hyk] at h2
          exact beside_ok call (haw hg2) h1 h2
        · cases h2
          exact h1
        · cases h2
      · cases h1
        rfl
      · cases h1
    · cases h

/-! ### frames by what they hold -/

theorem putd_get (d : Option Nat) (v : AV) (fr : Fr) (n : Nat) : (putd d v fr).get n = if d = some n then v else fr.get n := by
  cases d with
  | none => simp [putd]
  | some m =>
    simp only [putd, Fr.get, Option.some.injEq]

theorem evU_some (call : CallF) {o : MOp} {fr fr' : Fr} {A A' : Heap} (h : evU call o fr A = some (fr', A')) : ∃ v, evV call o fr.get A = some (v, A') ∧ fr' = putd o.dst v fr := by
  unfold evU at h
  split at h
  · rename_i v A1 hv
    cases h
    exact ⟨v, hv, rfl⟩
  · cases h

theorem evOp_some (call : CallF) {o : MOp} {fr fr' : Fr} {A A' : Heap} (h : evOp call o fr A = some (fr', A')) : chk o fr.get = true ∧ evU call o fr A = some (fr', A') := by
  unfold evOp at h
  split at h
  · rename_i hc; exact ⟨hc, h⟩
  · cases h

theorem evOp_congr (call : CallF) {o : MOp} {fr fr2 fr' : Fr} {A A' : Heap} (he : ∀ n, fr2.get n = fr.get n) (h : evOp call o fr A = some (fr', A')) :
    ∃ fr2', evOp call o fr2 A = some (fr2', A') ∧ ∀ n, fr2'.get n = fr'.get n := by
  obtain ⟨hc, hu⟩ := evOp_some call h
  obtain ⟨v, hv, rfl⟩ := evU_some call hu
  refine ⟨putd o.dst v fr2, ?_, fun n => by simp only [putd_get, he]⟩
  unfold evOp evU
  rw [chk_congr (g' := fr.get) (fun n _ => he n), if_pos hc, evV_congr call (fun n _ => he n), hv]

theorem evOps_congr (call : CallF) : ∀ {os : List MOp} {fr fr2 fr' : Fr} {A A' : Heap}, (∀ n, fr2.get n = fr.get n) → evOps call os fr A = some (fr', A') →
    ∃ fr2', evOps call os fr2 A = some (fr2', A') ∧ ∀ n, fr2'.get n = fr'.get n
  | [], fr, fr2, fr', A, A', he, h => by
    simp only [evOps] at h ⊢
    cases h
    exact ⟨fr2, rfl, he⟩
  | o :: r, fr, fr2, fr', A, A', he, h => by
    simp only [evOps] at h ⊢
    split at h
    · rename_i fr1 A1 h1
      obtain ⟨fr3, e3, g3⟩ := evOp_congr call he h1
      rw [e3]
      exact evOps_congr call g3 h
    · cases h

/-- An operation that changes places with all ahead of it, first. -/
theorem evOps_front (call : CallF) {y : MOp} {post : List MOp} : ∀ {pre : List MOp} {fr fr' : Fr} {A A' : Heap}, (∀ x ∈ pre, comm x y = true) → pre.Pairwise (fun x z => keeps x z = true) → evOps call (pre ++ y :: post) fr A = some (fr', A') →
    ∃ fr1 A1 fr2, evU call y fr A = some (fr1, A1) ∧ evOps call (pre ++ post) fr1 A1 = some (fr2, A') ∧ (∀ n, fr2.get n = fr'.get n) ∧ (∀ n, (∀ z ∈ pre, z.dst ≠ some n) → awayAt y fr.get n)
  | [], fr, fr', A, A', _, _, h => by
    simp only [List.nil_append, evOps] at h
    split at h
    · rename_i fr1 A1 h1
      obtain ⟨hc, hu⟩ := evOp_some call h1
      exact ⟨fr1, A1, fr', hu, h, fun _ => rfl, fun n _ => chk_away hc n⟩
    · cases h
  | x :: r, fr, fr', A, A', hc, hk, h => by
    simp only [List.cons_append, evOps] at h
    split at h
    · rename_i fr1 A1 h1
      obtain ⟨hxc, hxu⟩ := evOp_some call h1
      obtain ⟨v, hv, rfl⟩ := evU_some call hxu
      obtain ⟨hk1, hk2⟩ := List.pairwise_cons.1 hk
      obtain ⟨fr2, A2, fr3, e1, e2, e3, e4⟩ := evOps_front call (pre := r) (fun z hz => hc z (by simp [hz])) hk2 h
      obtain ⟨u, hu, rfl⟩ := evU_some call e1
      have hcx := hc x (by simp)
      simp only [comm, Bool.and_eq_true] at hcx
      obtain ⟨hap, hm⟩ := hcx
      simp only [apartB, Bool.and_eq_true] at hap
      obtain ⟨ha, hb⟩ := hap
      have hxy : ∀ n ∈ y.looks, (putd x.dst v fr).get n = fr.get n := by
        intro n hn
        rw [putd_get, if_neg]
        intro e
        rw [e] at ha
        simp [hn] at ha
      have hyx : ∀ n ∈ x.looks ++ x.aways, (putd y.dst u fr).get n = fr.get n := by
        intro n hn
        rw [putd_get, if_neg]
        intro e
        rw [e] at hb
        simp only [Bool.and_eq_true, Bool.not_eq_true', List.contains_eq_mem, decide_eq_false_iff_not] at hb
        rcases List.mem_append.1 hn with h' | h'
        · exact hb.1 h'
        · exact hb.2 h'
      have back : ∀ n, x.dst ≠ some n → (∀ z ∈ r, z.dst ≠ some n) → awayAt y fr.get n := fun n hn hz =>
        awayAt_congr hxy (by rw [putd_get, if_neg hn]) (e4 n hz)
      rw [evV_congr call hxy] at hu
      obtain ⟨A3, s1, s2⟩ := comm_mem call hm (fun agg sz n hxk hbe => back n (by
          unfold beside at hbe
          split at hbe
          · rename_i hxk2 _
            rw [hxk] at hxk2
            cases hxk2
            simp only [Bool.and_eq_true, bne_iff_ne, ne_eq] at hbe
            exact hbe.2
          · cases hbe) fun z hz => by
          have := hk1 z hz
          simpa [keeps, hxk] using this) hv hu
      have sx : evOp call x (putd y.dst u fr) A3 = some (putd x.dst v (putd y.dst u fr), A2) := by
        unfold evOp evU
        rw [chk_congr hyx, if_pos hxc, evV_congr call (fun n hn => hyx n (List.mem_append.2 (.inl hn))), s2]
      have hget : ∀ n, (putd x.dst v (putd y.dst u fr)).get n = (putd y.dst u (putd x.dst v fr)).get n := by
        intro n
        simp only [putd_get]
        by_cases hx : x.dst = some n
        · rw [hx] at ha
          have hne : y.dst ≠ some n := by
            intro e
            simp [e] at ha
          simp [hx, hne]
        · by_cases hy : y.dst = some n <;> simp [hx, hy]
      obtain ⟨fr6, t1, t2⟩ := evOps_congr call hget e2
      refine ⟨putd y.dst u fr, A3, fr6, by unfold evU; rw [s1], ?_, fun n => by rw [t2, e3], fun n hn => back n (hn x (by simp)) fun z hz => hn z (by simp [hz])⟩
      simp only [List.cons_append, evOps, sx, t1]
    · cases h

end Go.Ev
end

section
/- Calls, single operations in a region, and regions in whatever order. -/
set_option linter.unusedVariables false
set_option linter.unusedSimpArgs false
namespace Go.Ev

/-- What a call comes to. -/
def RetOk (O : Nat → Prop) (I : Info) (w : World) (r : AV) (A' : Heap) (e : Ending) (w' : World) : Prop :=
  ∃ v I', e = .returned v ∧ VRel O I' w' r v ∧ SRel O I' A' w' ∧ Ext I w I' w'

def CallRes (P : Program) (O : Nat → Prop) (I : Info) (w : World) (f : FuncId) (vs : List Value) (r : AV) (A' : Heap) : Prop :=
  ((callFunc f vs.toArray).run P w = .ok (.enter f vs.toArray) w ∧ Calls P f vs.toArray w (RetOk O I w r A')) ∨
  (∃ v I' w', (callFunc f vs.toArray).run P w = .ok (.value v) w' ∧ VRel O I' w' r v ∧ SRel O I' A' w' ∧ Ext I w I' w')

def CallOK (P : Program) (call : CallF) : Prop :=
  ∀ (f : FuncId) (args : List AV) (A : Heap) (r : AV) (A' : Heap), call f args A = some (r, A') →
    ∀ (O : Nat → Prop) (I : Info) (w : World) (vs : List Value), SRel O I A w → VRels O I w args vs → CallRes P O I w f vs r A'

section
variable {P : Program} {call : CallF}

theorem CallRes.mono {O O2 : Nat → Prop} {I I2 : Info} {w : World} {f : FuncId} {vs : List Value} {r r2 : AV} {A A2 : Heap} (h : CallRes P O I w f vs r A)
    (hm : ∀ v I' w', VRel O I' w' r v → SRel O I' A w' → Ext I w I' w' → ∃ I2', VRel O2 I2' w' r2 v ∧ SRel O2 I2' A2 w' ∧ Ext I2 w I2' w') : CallRes P O2 I2 w f vs r2 A2 := by
  rcases h with ⟨h1, h2⟩ | ⟨v, I', w', h1, h2, h3, h4⟩
  · refine .inl ⟨h1, Calls.mono h2 ?_⟩
    rintro e w' ⟨v, I', he, hv, hS, hE⟩
    obtain ⟨I2', a, b, c⟩ := hm v I' w' hv hS hE
    exact ⟨v, I2', he, a, b, c⟩
  · obtain ⟨I2', a, b, c⟩ := hm v I' w' h2 h3 h4
    exact .inr ⟨v, I2', w', h1, a, b, c⟩

theorem borrows_rel {O : Nat → Prop} {I : Info} {A : Heap} {w : World} (hS : SRel O I A w) {d : Nat} {xs ys : List AV} {vs : List Value} (h : mapO (borrow A d) xs = some ys) (hv : VRels O I w xs vs) :
    VRels (Lent O I) [] w ys vs := by
  obtain ⟨m1, m2⟩ := mapO_rels h hv.1 hv.2 (fun x y v => borrow_rel hS d d (Nat.le_refl _) x y v)
  exact ⟨m1, m2⟩

theorem doCall_sound (hC : CallOK P call) {k : CK} {f : FuncId} {args : List AV} {A A' : Heap} {r : AV} (h : doCall call k f args A = some (r, A'))
    {O : Nat → Prop} {I : Info} {w : World} {vs : List Value} (hS : SRel O I A w) (hv : VRels O I w args vs) : CallRes P O I w f vs r A' := by
  cases k with
  | inl => exact hC f args A r A' h O I w vs hS hv
  | ro =>
    simp only [doCall] at h
    split at h
    · rename_i as has
      split at h
      · rename_i v A1 h1
        split at h
        · rename_i r' hr
          cases h
          refine (hC f as [] v A1 h1 (Lent O I) [] w vs (lent_start hS) (borrows_rel hS has hv)).mono fun u I1 w' a b c => ?_
          obtain ⟨h2, h3⟩ := lent_back hS c
          exact ⟨I, giveBackT_rel b hr a, h2, h3⟩
        · cases h
      · cases h
    · cases h
  | own =>
    simp only [doCall] at h
    split at h
    · rename_i as has
      split at h
      · rename_i v A1 h1
        split at h
        · rename_i r' A2 hr hA2
          cases h
          refine (hC f as [] v A1 h1 (Lent O I) [] w vs (lent_start hS) (borrows_rel hS has hv)).mono fun u I1 w' a b c => ?_
          rw [← hS.len] at hr hA2
          obtain ⟨h2, h3⟩ := lent_own hS c b hA2
          exact ⟨I ++ I1, embed_rel depth depth (Nat.le_refl _) _ _ _ hr a, h2, h3⟩
        · cases h
      · cases h
    · cases h

/-! ### one operation -/

def compG (ops : Array Oper) : Option (Nat × Bool) → Option (Option (Nat × Bool))
  | none => some none
  | some (j, want) => match (ops[j]?).bind (·.dst) with
    | some t => some (some (t, want))
    | none => none

def dstOk (N : Nat) : Option Nat → Bool
  | none => true
  | some d => d < N

def compO (P : Program) (N : Nat) (ops : Array Oper) (an : An) (o : Oper) : Option MOp :=
  match compG ops o.guard with
  | some g => if dstOk N o.dst then some ⟨o.dst, g, (compOp P an o.op).getD .bad⟩ else none
  | none => none

theorem compO_some {N : Nat} {ops : Array Oper} {an : An} {o : Oper} {m : MOp} (h : compO P N ops an o = some m) :
    m.dst = o.dst ∧ compG ops o.guard = some m.guard ∧ (compOp P an o.op = some m.k ∨ m.k = .bad) ∧ dstOk N o.dst = true := by
  unfold compO at h
  split at h
  · rename_i g hg
    split at h
    · rename_i hd
      cases h
      refine ⟨rfl, hg, ?_, hd⟩
      cases hk : compOp P an o.op with
      | none => exact .inr rfl
      | some k => exact .inl rfl
    · cases h
  · cases h

theorem wanted_of {O : Nat → Prop} {I : Info} {w : World} {g : Nat → AV} {a : Act} (hR : RRel O I w g a) {ops : Array Oper} {o : Oper} {gd : Option (Nat × Bool)} (hc : compG ops o.guard = some gd) {b : Bool}
    (h : guardOk g gd = some b) : Region.wanted o (yielded ops a.tmps) = b := by
  unfold compG at hc
  split at hc
  · rename_i hg
    cases hc
    simp only [guardOk] at h
    cases h
    simp [Region.wanted, hg]
  · rename_i j want hg
    split at hc
    · rename_i t ht
      cases hc
      simp only [guardOk] at h
      have hr := hR t
      simp only [Region.wanted, hg, yielded, ht, Option.bind_some]
      split at h
      · rename_i c hc
        cases h
        rw [hc] at hr
        have := rel_bool hr
        cases hx : a.tmps[t]? with
        | none => rw [Array.getD_eq_getD_getElem?, hx] at this; simp [undef] at this
        | some u =>
          rw [Array.getD_eq_getD_getElem?, hx] at this
          simp only [Option.getD_some] at this
          subst this
          rfl
      · rename_i hc
        cases h
        rw [hc] at hr
        have := rel_tup0 hr
        cases hx : a.tmps[t]? with
        | none => rfl
        | some u =>
          rw [Array.getD_eq_getD_getElem?, hx] at this
          simp only [Option.getD_some] at this
          subst this
          rfl
      · cases h
    · cases hc

theorem put_rel {O : Nat → Prop} {I : Info} {w : World} {fr : Fr} {a : Act} (hR : RRel O I w fr.get a) {d : Option Nat} (hd : dstOk a.tmps.size d = true) {v : AV} {u : Value} (hv : VRel O I w v u) :
    RRel O I w (putd d v fr).get (a.put d u) := by
  intro t
  rw [putd_get]
  cases d with
  | none => simp only [Act.put]; rw [if_neg (by simp)]; exact hR t
  | some m =>
    simp only [dstOk, decide_eq_true_eq] at hd
    simp only [Act.put, Option.some.injEq]
    by_cases hm : m = t
    · subst hm
      rw [if_pos rfl, Array.getD_eq_getD_getElem?, Array.getElem?_setIfInBounds_self_of_lt hd]
      exact hv
    · rw [if_neg hm, Array.getD_eq_getD_getElem?, Array.getElem?_setIfInBounds_ne hm, ← Array.getD_eq_getD_getElem?]
      exact hR t

/-- What is known of an activation between operations. -/
structure AOk (O : Nat → Prop) (N : Nat) (I : Info) (w : World) (fr : Fr) (A : Heap) (a : Act) : Prop where
  reg : RRel O I w fr.get a
  mem : SRel O I A w
  size : N ≤ a.tmps.size
  defers : a.defers = []

theorem AOk.put {O : Nat → Prop} {N : Nat} {I I' : Info} {w w' : World} {fr : Fr} {A A' : Heap} {a : Act} (h : AOk O N I w fr A a) {d : Option Nat} (hd : dstOk N d = true) {v : AV} {u : Value}
    (hv : VRel O I' w' v u) (hS : SRel O I' A' w') (hE : Ext I w I' w') : AOk O N I' w' (putd d v fr) A' (a.put d u) := by
  refine ⟨put_rel (h.reg.mono hE) (by cases d with | none => rfl | some m => simp only [dstOk, decide_eq_true_eq] at hd ⊢; exact Nat.lt_of_lt_of_le hd h.size) hv, hS, ?_, ?_⟩
  · cases d <;> simp [Act.put, h.size]
  · cases d <;> simp [Act.put, h.defers]

theorem AOk.congr {O : Nat → Prop} {N : Nat} {I : Info} {w : World} {fr fr2 : Fr} {A : Heap} {a : Act} (h : AOk O N I w fr A a) (he : ∀ n, fr2.get n = fr.get n) : AOk O N I w fr2 A a :=
  ⟨fun t => by rw [he t]; exact h.reg t, h.mem, h.size, h.defers⟩

theorem vrels_app {O : Nat → Prop} {I : Info} {w : World} {xs ys : List AV} {us vs : List Value} (h1 : VRels O I w xs us) (h2 : VRels O I w ys vs) : VRels O I w (xs ++ ys) (us ++ vs) := by
  refine ⟨by simp [h1.1, h2.1], fun i hi => ?_⟩
  rcases Nat.lt_or_ge i xs.length with h | h
  · rw [List.getElem_append_left h, List.getD_eq_getElem?_getD, List.getElem?_append_left (by rw [h1.1]; exact h), ← List.getD_eq_getElem?_getD]
    exact h1.2 i h
  · rw [List.getElem_append_right h, List.getD_eq_getElem?_getD, List.getElem?_append_right (by rw [h1.1]; exact h), ← List.getD_eq_getElem?_getD, h1.1]
    exact h2.2 _ (by simp at hi; omega)

theorem compB_call {an : An} {b : Builtin} {as : List Operand} {ts : List TypeId} {ck : CK} {f : Opd} {args : List Opd} : compB P an b as ts ≠ some (.call ck f args) := by
  intro h
  unfold compB at h
  repeat' split at h
  all_goals first
    | (cases h; done)
    | skip

theorem compOp_call {an : An} {op : Op} {ck : CK} {f : Opd} {args : List Opd} (h : compOp P an op = some (.call ck f args)) :
    ∃ c fo, op = .call c ∧ c.callee = .value fo ∧ cOpd fo = some f ∧ cOpds c.args.toList = some args := by
  unfold compOp at h
  split at h
  all_goals
    repeat' split at h
    all_goals first
      | (cases h; done)
      | (exact absurd h compB_call)
      | (rename_i c _ fo hcal _ _ f' as hf has; cases h; exact ⟨c, fo, rfl, hcal, hf, has⟩)
      | skip

theorem call_exec {ρ : Operand → Value} {c : Call} {o : Oper} (ho : o.op = .call c) {f : Operand} (hc : c.callee = .value f) {fid : FuncId} {fl cl : Array Value} (hf : ρ f = .func (.func fid) fl cl) {w : World} :
    (execOp ρ o).run P w = (callFunc fid (fl ++ c.args.map ρ ++ cl)).run P w := by
  simp only [execOp, ho, resolve, hc, hf, Deferred.ofValue, invoke]
  rfl

theorem op_sound (hC : CallOK P call) {O : Nat → Prop} {N : Nat} {ops : Array Oper} {an : An} {i : Nat} {o : Oper} {m : MOp} (hi : ops[i]? = some o) (hc : compO P N ops an o = some m)
    {I : Info} {w : World} {fr fr' : Fr} {A A' : Heap} {a : Act} (h : AOk O N I w fr A a) (he : evU call m fr A = some (fr', A')) {Q : Exit → Act → World → Prop} {K : Act → World → Prop}
    (hK : ∀ a' w' I', AOk O N I' w' fr' A' a' → Ext I w I' w' → K a' w') : wpOp P ops Q i K a w := by
  obtain ⟨hd, hg, hk, hdo⟩ := compO_some hc
  obtain ⟨v, hv, rfl⟩ := evU_some call he
  unfold wpOp
  simp only [hi]
  unfold evV at hv
  split at hv <;> rename_i hgo
  · replace hk : compOp P an o.op = some m.k := by
      rcases hk with hk | hk
      · exact hk
      · rw [hk] at hv
        simp [evK, evM] at hv
    have hw := wanted_of h.reg hg hgo
    rw [hw]
    simp only [if_true]
    refine .inl ?_
    rw [hd] at hK
    have fin : ∀ u I' w', VRel O I' w' v u → SRel O I' A' w' → Ext I w I' w' → K (a.put o.dst u) w' := fun u I' w' h1 h2 h3 => hK _ _ _ (h.put hdo h1 h2 h3) h3
    unfold Oper.wp
    have plain : ∀ {m : MK}, compOp P an o.op = some m → evM m fr.get A = some (v, A') → o.upon P a K Q ((execOp a.eval o).run P w) := by
      intro m hm hev
      obtain ⟨I', w', u, h1, h2, h3, h4⟩ := evM_sound h.mem h.reg hm hev
      rcases h1 with h1 | ⟨h1, rfl⟩
      · rw [h1, Oper.upon_value]; exact fin _ _ _ h2 h3 h4
      · rw [h1, Oper.upon_skip]; exact fin _ _ _ h2 h3 h4
    unfold evK at hv
    split at hv
    · rename_i ck f args hmk
      split at hv
      · rename_i fid first caps hf
        rw [hmk] at hk
        -- the operation is a call
        have hop := compOp_call hk
        obtain ⟨c, fo, h1, h2, h3, h4⟩ := hop
        have hfr := opd_rel h.reg h3
        rw [hf] at hfr
        generalize hfv : a.eval fo = fv at hfr
        cases hfr with
        | fn _ _ _ fl cl hfl hcl r1 r2 =>
          rw [call_exec h1 h2 hfv]
          have hargs := cOpds_rel h.reg h4
          have hall := vrels_app (vrels_app (O := O) (I := I) (w := w) (xs := first) (us := fl) ⟨hfl, r1⟩ hargs) (ys := caps) (vs := cl) ⟨hcl, r2⟩
          have e : fl.toArray ++ c.args.map a.eval ++ cl.toArray = (fl ++ c.args.toList.map a.eval ++ cl).toArray := by
            apply Array.ext'
            simp
          rw [e]
          rcases doCall_sound hC hv h.mem hall with ⟨e1, e2⟩ | ⟨u, I', w', e1, e2, e3, e4⟩
          · rw [e1, Oper.upon_enter]
            refine Calls.mono e2 ?_
            rintro en w' ⟨u, I', rfl, hu, hS, hE⟩
            exact fin u I' w' hu hS hE
          · rw [e1, Oper.upon_value]
            exact fin _ _ _ e2 e3 e4
      · cases hv
    · rename_i hmk
      exact plain hk hv
  · cases hv
    have hw := wanted_of h.reg hg hgo
    rw [hw]
    simp only [Bool.false_eq_true, if_false]
    rw [hd] at hK
    exact hK _ _ _ (h.put hdo (.tup [] [] rfl (fun i hi => by simp at hi)) h.mem (Ext.refl _ _)) (Ext.refl _ _)
  · cases hv

end
end Go.Ev
end

section
/- Regions: in the text's order, and in whatever order. -/
set_option linter.unusedVariables false
set_option linter.unusedSimpArgs false
namespace Go.Ev

section
variable {P : Program} {call : CallF}

/-- The entries of a region's list are compiled operations. -/
def Comped (P : Program) (N : Nat) (ops : Array Oper) (l : List (Nat × MOp)) : Prop :=
  ∀ p ∈ l, ∃ o an, ops[p.1]? = some o ∧ compO P N ops an o = some p.2

theorem ops_sound (hC : CallOK P call) {O : Nat → Prop} {N : Nat} {ops : Array Oper} {Q : Exit → Act → World → Prop} :
    ∀ {l : List (Nat × MOp)} (hl : Comped P N ops l) {I : Info} {w : World} {fr fr' : Fr} {A A' : Heap} {a : Act}, AOk O N I w fr A a → evOps call (l.map (·.2)) fr A = some (fr', A') →
      (∀ a' w' I', AOk O N I' w' fr' A' a' → Ext I w I' w' → Q .normal a' w') → wpOps P ops Q (l.map (·.1)) a w
  | [], hl, I, w, fr, fr', A, A', a, h, he, hQ => by
    simp only [List.map_nil, evOps] at he
    cases he
    exact hQ a w I h (Ext.refl _ _)
  | (i, m) :: r, hl, I, w, fr, fr', A, A', a, h, he, hQ => by
    simp only [List.map_cons, evOps] at he
    split at he
    · rename_i fr1 A1 h1
      obtain ⟨o, an, ho, hc⟩ := hl (i, m) (by simp)
      rw [List.map_cons, wpOps_cons]
      refine op_sound hC ho hc h (evOp_some call h1).2 fun a1 w1 I1 k1 e1 => ?_
      exact ops_sound hC (fun p hp => hl p (by simp [hp])) k1 he fun a2 w2 I2 k2 e2 => hQ a2 w2 I2 k2 (e1.trans e2)
    · cases he

/-! ### the check of a region whose order is drawn -/

def maskOf : List (Nat × Nat) → Nat → Nat
  | [], _ => 0
  | (j, m) :: r, i => if j = i then m else maskOf r i

def predMask (es : List Edge) (ms : List (Nat × Nat)) : Nat :=
  es.foldr (fun e s => if Region.binds .any e then s ||| 2 ^ e.on ||| maskOf ms e.on else s) 0

def orderOk (ops : Array Oper) : List (Nat × MOp) → List (Nat × Nat) → List (Nat × MOp) → Bool
  | [], _, _ => true
  | (i, m) :: r, ms, done => match ops[i]? with
    | none => false
    | some o =>
      o.after.toList.all (fun e => !Region.binds .any e || (done.any (·.1 == e.on) && e.on != i)) &&
      done.all (fun x => keeps x.2 m && ((predMask o.after.toList ms).testBit x.1 || comm x.2 m)) && orderOk ops r ((i, predMask o.after.toList ms) :: ms) ((i, m) :: done)

def nodupB : List Nat → Bool
  | [] => true
  | x :: r => !r.contains x && nodupB r

def drawOk (ops : Array Oper) (l : List (Nat × MOp)) : Bool :=
  nodupB (l.map (·.1)) && (List.range ops.size).all (fun i => (l.map (·.1)).contains i) && orderOk ops l [] []

theorem nodupB_spec : ∀ {l : List Nat}, nodupB l = true → l.Nodup
  | [], _ => List.nodup_nil
  | x :: r, h => by
    simp only [nodupB, Bool.and_eq_true, Bool.not_eq_true', List.contains_eq_mem, decide_eq_false_iff_not] at h
    exact List.nodup_cons.2 ⟨h.1, nodupB_spec h.2⟩

def Pre (ops : Array Oper) (L : Nat → Prop) (i : Nat) : Prop := ∀ o, ops[i]? = some o → ∀ e ∈ o.after, Region.binds .any e = true → L e.on
def Closed (ops : Array Oper) (L : Nat → Prop) : Prop := ∀ y, L y → Pre ops L y

def Rel (ops : Array Oper) (x y : Nat × MOp) : Prop :=
  (keeps x.2 y.2 = true ∧ ((∀ L, Closed ops L → Pre ops L y.1 → L x.1) ∨ comm x.2 y.2 = true)) ∧ (∀ o, ops[x.1]? = some o → ∀ e ∈ o.after, Region.binds .any e = true → e.on ≠ y.1)

def MaskOk (ops : Array Oper) (ms : List (Nat × Nat)) : Prop := ∀ L, Closed ops L → ∀ i j, (maskOf ms i).testBit j = true → Pre ops L i → L j

theorem predMask_bit {ms : List (Nat × Nat)} {j : Nat} : ∀ {es : List Edge}, (predMask es ms).testBit j = true → ∃ e ∈ es, Region.binds .any e = true ∧ (e.on = j ∨ (maskOf ms e.on).testBit j = true)
  | [], h => by simp [predMask] at h
  | e :: r, h => by
    have ih := predMask_bit (ms := ms) (j := j) (es := r)
    simp only [predMask, List.foldr_cons] at h ih
    by_cases hb : Region.binds .any e = true
    · rw [if_pos hb] at h
      simp only [Nat.testBit_or, Bool.or_eq_true] at h
      rcases h with (h | h) | h
      · obtain ⟨e', he', h'⟩ := ih h
        exact ⟨e', by simp [he'], h'⟩
      · refine ⟨e, by simp, hb, .inl ?_⟩
        rw [Nat.testBit_two_pow] at h
        simpa using h
      · exact ⟨e, by simp, hb, .inr h⟩
    · rw [if_neg hb] at h
      obtain ⟨e', he', h'⟩ := ih h
      exact ⟨e', by simp [he'], h'⟩

theorem orderOk_spec {ops : Array Oper} : ∀ {l : List (Nat × MOp)} {ms : List (Nat × Nat)} {done : List (Nat × MOp)}, orderOk ops l ms done = true → MaskOk ops ms → (l.map (·.1)).Nodup → (∀ x ∈ done, x.1 ∉ l.map (·.1)) → (∀ x ∈ done, x.1 < ops.size) →
    (∀ x ∈ done, ∀ y ∈ l, keeps x.2 y.2 = true ∧ ((∀ L, Closed ops L → Pre ops L y.1 → L x.1) ∨ comm x.2 y.2 = true)) ∧ l.Pairwise (Rel ops) ∧
    (∀ x ∈ l, ∀ o, ops[x.1]? = some o → ∀ e ∈ o.after, Region.binds .any e = true → e.on < ops.size ∧ e.on ≠ x.1 ∧ (e.on ∈ done.map (·.1) ∨ e.on ∈ l.map (·.1)))
  | [], ms, done, h, hm, hn, hd, hs => ⟨fun _ _ y hy => by simp at hy, .nil, fun x hx => by simp at hx⟩
  | (i, m) :: r, ms, done, h, hm, hn, hd, hs => by
    simp only [orderOk] at h
    split at h
    · cases h
    · rename_i o ho
      have hi : i < ops.size := (Array.getElem?_eq_some_iff.1 ho).1
      simp only [Bool.and_eq_true] at h
      obtain ⟨⟨h1, h2⟩, h3⟩ := h
      simp only [List.map_cons, List.nodup_cons] at hn
      have hm' : MaskOk ops ((i, predMask o.after.toList ms) :: ms) := by
        intro L hL k j hb hp
        simp only [maskOf] at hb
        split at hb
        · rename_i hik
          subst hik
          obtain ⟨e, he, hbe, h4⟩ := predMask_bit hb
          have hLe := hp o ho e (by simpa using he) hbe
          rcases h4 with rfl | h4
          · exact hLe
          · exact hm L hL _ _ h4 (hL _ hLe)
        · exact hm L hL k j hb hp
      have hd' : ∀ x ∈ (i, m) :: done, x.1 ∉ r.map (·.1) := by
        intro x hx
        rcases List.mem_cons.1 hx with rfl | hx
        · exact hn.1
        · intro hmem
          exact hd x hx (by simp only [List.map_cons, List.mem_cons]; exact .inr hmem)
      have hs' : ∀ x ∈ (i, m) :: done, x.1 < ops.size := by
        intro x hx
        rcases List.mem_cons.1 hx with rfl | hx
        · exact hi
        · exact hs x hx
      obtain ⟨a1, a2, a3⟩ := orderOk_spec h3 hm' hn.2 hd' hs'
      have hpre : ∀ e ∈ o.after, Region.binds .any e = true → e.on ∈ done.map (·.1) ∧ e.on ≠ i := by
        intro e he hb
        have := List.all_eq_true.1 h1 e (by simpa using he)
        simp only [hb, Bool.not_true, Bool.false_or, Bool.and_eq_true, bne_iff_ne, ne_eq, List.any_eq_true, beq_iff_eq] at this
        obtain ⟨⟨x, hx, hxe⟩, hne⟩ := this
        exact ⟨by rw [← hxe]; exact List.mem_map_of_mem hx, hne⟩
      refine ⟨?_, ?_, ?_⟩
      · intro x hx y hy
        rcases List.mem_cons.1 hy with rfl | hy
        · have := List.all_eq_true.1 h2 x hx
          simp only [Bool.and_eq_true, Bool.or_eq_true] at this
          refine ⟨this.1, ?_⟩
          rcases this.2 with hb | hc
          · refine .inl fun L hL hp => ?_
            refine hm' L hL i x.1 ?_ hp
            simp only [maskOf, if_true]
            exact hb
          · exact .inr hc
        · exact a1 x (by simp [hx]) y hy
      · refine List.pairwise_cons.2 ⟨fun y hy => ⟨a1 (i, m) (by simp) y hy, ?_⟩, a2⟩
        intro o' ho' e he hb heq
        rw [ho] at ho'
        cases ho'
        obtain ⟨hin, _⟩ := hpre e he hb
        obtain ⟨x, hx, hxe⟩ := List.mem_map.1 hin
        refine hd' x (by simp [hx]) ?_
        rw [hxe, heq]
        exact List.mem_map_of_mem hy
      · intro x hx o' ho' e he hb
        rcases List.mem_cons.1 hx with rfl | hx
        · rw [ho] at ho'
          cases ho'
          obtain ⟨hin, hne⟩ := hpre e he hb
          obtain ⟨z, hz, hze⟩ := List.mem_map.1 hin
          exact ⟨by rw [← hze]; exact hs z hz, hne, .inl hin⟩
        · obtain ⟨b1, b2, b3⟩ := a3 x hx o' ho' e he hb
          refine ⟨b1, b2, ?_⟩
          rcases b3 with b3 | b3
          · simp only [List.map_cons, List.mem_cons] at b3
            rcases b3 with b3 | b3
            · exact .inr (by simp [b3])
            · exact .inl b3
          · exact .inr (by simp only [List.map_cons, List.mem_cons]; exact .inr b3)

theorem getD_set_self {listed : Array Bool} {i : Nat} : (listed.setIfInBounds i true).getD i true = true := by
  rcases Nat.lt_or_ge i listed.size with h | h
  · simp [h]
  · simp [Array.getElem?_eq_none h, Nat.not_lt.2 h]

theorem any_sound (hC : CallOK P call) {O : Nat → Prop} {N : Nat} {ops : Array Oper} {Q : Exit → Act → World → Prop} :
    ∀ (fuel : Nat) (l : List (Nat × MOp)) (listed : Array Bool) {I : Info} {w : World} {fr fr' : Fr} {A A' : Heap} {a : Act}, l.length ≤ fuel → Comped P N ops l → listed.size = ops.size → (l.map (·.1)).Nodup →
      (∀ i, i < ops.size → (listed.getD i true = false ↔ i ∈ l.map (·.1))) → Closed ops (fun y => listed.getD y false = true) → l.Pairwise (Rel ops) →
      (∀ x ∈ l, ∀ o, ops[x.1]? = some o → ∀ e ∈ o.after, Region.binds .any e = true → e.on < ops.size ∧ e.on ≠ x.1) →
      AOk O N I w fr A a → evOps call (l.map (·.2)) fr A = some (fr', A') →
      (∀ a' w' I', AOk O N I' w' fr' A' a' → Ext I w I' w' → Q .normal a' w') → wpAny P .any ops Q fuel listed a w := by
  intro fuel
  have fin : ∀ (l : List (Nat × MOp)) (listed : Array Bool) {I : Info} {w : World} {fr fr' : Fr} {A A' : Heap} {a : Act}, Comped P N ops l → listed.size = ops.size → (l.map (·.1)).Nodup →
      (∀ i, i < ops.size → (listed.getD i true = false ↔ i ∈ l.map (·.1))) → l.Pairwise (Rel ops) →
      (∀ x ∈ l, ∀ o, ops[x.1]? = some o → ∀ e ∈ o.after, Region.binds .any e = true → e.on < ops.size ∧ e.on ≠ x.1) →
      AOk O N I w fr A a → evOps call (l.map (·.2)) fr A = some (fr', A') →
      (∀ a' w' I', AOk O N I' w' fr' A' a' → Ext I w I' w' → Q .normal a' w') → Region.ready .any ops listed = [] → Q .normal a w := by
    intro l listed I w fr fr' A A' a hl hsz hn hu hp hb h he hQ hr
    cases l with
    | nil =>
      simp only [List.map_nil, evOps] at he
      cases he
      exact hQ a w I h (Ext.refl _ _)
    | cons x r =>
      exfalso
      obtain ⟨o, an, ho, hc⟩ := hl x (by simp)
      have hi : x.1 < ops.size := (Array.getElem?_eq_some_iff.1 ho).1
      have : x.1 ∈ Region.ready .any ops listed := by
        rw [mem_ready]
        refine ⟨(hu x.1 hi).2 (by simp), o, ho, fun e he hbe => ?_⟩
        obtain ⟨b1, b2⟩ := hb x (by simp) o ho e he hbe
        have hnot : e.on ∉ (x :: r).map (·.1) := by
          simp only [List.map_cons, List.mem_cons, not_or]
          refine ⟨b2, fun hm => ?_⟩
          obtain ⟨y, hy, hye⟩ := List.mem_map.1 hm
          exact ((List.pairwise_cons.1 hp).1 y hy).2 o ho e he hbe hye.symm
        have h1 : listed.getD e.on true ≠ false := fun hf => hnot ((hu _ b1).1 hf)
        have hlt : e.on < listed.size := by omega
        simp only [Array.getD_eq_getD_getElem?, Array.getElem?_eq_getElem hlt, Option.getD_some] at h1 ⊢
        simpa using h1
      rw [hr] at this
      cases this
  induction fuel with
  | zero =>
    intro l listed I w fr fr' A A' a hlen hl hsz hn hu hcl hp hb h he hQ
    have hl0 : l = [] := List.length_eq_zero_iff.1 (by omega)
    subst hl0
    have hr : Region.ready .any ops listed = [] := by
      cases hr : Region.ready .any ops listed with
      | nil => rfl
      | cons j s =>
        have hj : j ∈ Region.ready .any ops listed := by rw [hr]; simp
        obtain ⟨h1, o, ho, _⟩ := mem_ready.1 hj
        have := (hu j (Array.getElem?_eq_some_iff.1 ho).1).1 h1
        simp at this
    exact ⟨hr, fin [] listed hl hsz hn hu hp hb h he hQ hr⟩
  | succ fuel ih =>
    intro l listed I w fr fr' A A' a hlen hl hsz hn hu hcl hp hb h he hQ
    refine ⟨fin l listed hl hsz hn hu hp hb h he hQ, fun i hir => ?_⟩
    obtain ⟨hun, o, ho, hpre⟩ := mem_ready.1 hir
    have hi : i < ops.size := (Array.getElem?_eq_some_iff.1 ho).1
    obtain ⟨x, hx, hxi⟩ := List.mem_map.1 ((hu i hi).1 hun)
    subst hxi
    obtain ⟨l1, l2, rfl⟩ := List.append_of_mem hx
    have hpre' : Pre ops (fun y => listed.getD y false = true) x.1 := fun o' ho' e he' hbe => by
      rw [ho] at ho'
      cases ho'
      exact hpre e he' hbe
    have hcomm : ∀ z ∈ l1.map (·.2), comm z x.2 = true := by
      intro z hz
      obtain ⟨y, hy, rfl⟩ := List.mem_map.1 hz
      have hrel := (List.pairwise_append.1 hp).2.2 y hy x (by simp)
      rcases hrel.1.2 with h1 | h1
      · exfalso
        have h2 : listed.getD y.1 false = true := h1 _ hcl hpre'
        obtain ⟨oy, any, hoy, _⟩ := hl y (by simp [hy])
        have hylt : y.1 < ops.size := (Array.getElem?_eq_some_iff.1 hoy).1
        have h3 := (hu y.1 hylt).2 (by simp only [List.map_append, List.mem_append]; exact .inl (List.mem_map_of_mem hy))
        have hlt : y.1 < listed.size := by omega
        simp only [Array.getD_eq_getD_getElem?, Array.getElem?_eq_getElem hlt, Option.getD_some] at h2 h3
        rw [h2] at h3
        cases h3
      · exact h1
    obtain ⟨o', an, ho', hc⟩ := hl x hx
    rw [List.map_append, List.map_cons] at he
    have hkeep : (l1.map (·.2)).Pairwise (fun x z => keeps x z = true) := by
      rw [List.pairwise_map]
      exact (List.pairwise_append.1 hp).1.imp fun h => h.1.1
    obtain ⟨fr1, A1, fr2, e1, e2, e3, _⟩ := evOps_front call hcomm hkeep he
    refine op_sound hC ho' hc h e1 fun a1 w1 I1 k1 x1 => ?_
    have hsub : ∀ y, y ∈ l1 ++ l2 → y ∈ l1 ++ x :: l2 := fun y hy => by
      rcases List.mem_append.1 hy with h' | h'
      · exact List.mem_append.2 (.inl h')
      · exact List.mem_append.2 (.inr (by simp [h']))
    have hSub : (l1 ++ l2).Sublist (l1 ++ x :: l2) := List.Sublist.append (List.Sublist.refl _) (List.sublist_cons_self _ _)
    have hxn : x.1 ∉ (l1 ++ l2).map (·.1) := by
      rw [List.map_append, List.map_cons] at hn
      rw [List.map_append]
      have := List.nodup_append.1 hn
      intro hm
      rcases List.mem_append.1 hm with h' | h'
      · exact this.2.2 _ h' x.1 (by simp) rfl
      · exact (List.nodup_cons.1 this.2.1).1 h'
    refine ih (l1 ++ l2) (listed.setIfInBounds x.1 true) (by simp at hlen ⊢; omega) (fun p hp' => hl p (hsub p hp')) (by simpa using hsz) (hn.sublist (hSub.map _)) ?_ ?_ (hp.sublist hSub) (fun y hy => hb y (hsub y hy)) k1
      (by rw [List.map_append]; exact e2) fun a2 w2 I2 k2 x2 => hQ a2 w2 I2 (k2.congr fun n => (e3 n).symm) (x1.trans x2)
    · intro j hj
      by_cases hji : j = x.1
      · subst hji
        rw [getD_set_self]
        exact Iff.intro (fun hf => absurd hf (by decide)) (fun hm => absurd hm hxn)
      · rw [getD_set_ne true (Ne.symm hji), hu j hj]
        simp only [List.map_append, List.map_cons, List.mem_append, List.mem_cons]
        constructor
        · rintro (h' | h' | h')
          · exact .inl h'
          · exact absurd h' hji
          · exact .inr h'
        · rintro (h' | h')
          · exact .inl h'
          · exact .inr (.inr h')
    · intro y hy o2 ho2 e he2 hbe
      by_cases hyx : y = x.1
      · subst hyx
        exact getD_set_true (hpre' o2 ho2 e he2 hbe)
      · rw [getD_set_ne false (Ne.symm hyx)] at hy
        exact getD_set_true (hcl y hy o2 ho2 e he2 hbe)

/-! ### both kinds of regions -/

def regOk (draw : Bool) (ops : Array Oper) (l : List (Nat × MOp)) : Bool := match draw with
  | true => drawOk ops l
  | false => l.map (·.1) == List.range ops.size

def compReg (P : Program) (N : Nat) (ops : Array Oper) (draw : Bool) (ans : List (Nat × An)) : Option (List MOp) :=
  match mapO (fun p => match ops[p.1]? with
    | some o => match compO P N ops p.2 o with
      | some m => some (p.1, m)
      | none => none
    | none => none) ans with
  | some l => if regOk draw ops l = true then some (l.map (·.2)) else none
  | none => none

theorem compReg_some {N : Nat} {ops : Array Oper} {draw : Bool} {ans : List (Nat × An)} {ms : List MOp} (h : compReg P N ops draw ans = some ms) :
    ∃ l : List (Nat × MOp), Comped P N ops l ∧ ms = l.map (·.2) ∧ regOk draw ops l = true := by
  unfold compReg at h
  split at h
  · rename_i l hl
    split at h
    · rename_i hc
      cases h
      refine ⟨l, ?_, rfl, hc⟩
      intro p hp
      obtain ⟨m1, m2⟩ := mapO_some hl
      obtain ⟨i, hi, rfl⟩ := List.getElem_of_mem hp
      have := m2 i (by omega) hi
      split at this
      · rename_i o ho
        split at this
        · rename_i m hm
          have e := Option.some.inj this
          rw [← e]
          exact ⟨o, _, ho, hm⟩
        · cases this
      · cases this
    · cases h
  · cases h

theorem region_sound (hC : CallOK P call) (hm : P.follows .mixedOrders = true) {O : Nat → Prop} {N : Nat} {id : Nat} {ops : Array Oper} {draw : Bool} {ans : List (Nat × An)} {ms : List MOp}
    (hc : compReg P N ops draw ans = some ms) {I : Info} {w : World} {fr fr' : Fr} {A A' : Heap} {a : Act} (h : AOk O N I w fr A a) (he : evOps call ms fr A = some (fr', A'))
    {Q : Exit → Act → World → Prop} (hQ : ∀ a' w' I', AOk O N I' w' fr' A' a' → Ext I w I' w' → Q .normal a' w') : (Code.region id ops draw).wp P Q a w := by
  obtain ⟨l, hl, rfl, hk⟩ := compReg_some hc
  cases draw with
  | false =>
    simp only [regOk, beq_iff_eq] at hk
    refine wp_region ?_
    rw [← hk]
    exact ops_sound hC hl h he hQ
  | true =>
    simp only [regOk, drawOk, Bool.and_eq_true] at hk
    obtain ⟨⟨h1, h2⟩, h3⟩ := hk
    have hn := nodupB_spec h1
    obtain ⟨_, b2, b3⟩ := orderOk_spec h3 (fun L _ i j hb _ => by simp [maskOf] at hb) hn (fun x hx => by simp at hx) (fun x hx => by simp at hx)
    have hlen : l.length ≤ ops.size := by
      have hsub : ∀ i ∈ l.map (·.1), i ∈ List.range ops.size := by
        intro i hi
        obtain ⟨p, hp, rfl⟩ := List.mem_map.1 hi
        obtain ⟨o, _, ho, _⟩ := hl p hp
        exact List.mem_range.2 (Array.getElem?_eq_some_iff.1 ho).1
      have := List.Nodup.length_le_of_subset hn hsub
      simpa using this
    have hd := Ext.drew I w (w.drawn + 1)
    refine wp_region_any hm (any_sound hC ops.size l _ hlen hl (by simp) hn (fun i hi => ?_) ?_ b2 (fun x hx o ho e he hb => ⟨(b3 x hx o ho e he hb).1, (b3 x hx o ho e he hb).2.1⟩)
      ⟨h.reg.mono hd, h.mem.grow hd (fun b hb => rfl), h.size, h.defers⟩ he fun a' w' I' k x => hQ a' w' I' k (hd.trans x))
    · have := List.all_eq_true.1 h2 i (List.mem_range.2 hi)
      have hin : i ∈ l.map (·.1) := by simpa using this
      simp [hi, hin]
    · intro y hy
      have : (Array.replicate ops.size false).getD y false = false := by
        rw [Array.getD_eq_getD_getElem?, Array.getElem?_replicate]
        split <;> rfl
      rw [this] at hy
      cases hy

end
end Go.Ev
end

section
/- Code and functions: the compiled form, and that running it is running the program. -/
set_option linter.unusedVariables false
set_option linter.unusedSimpArgs false
namespace Go.Ev

inductive AnC where
  | leaf
  | reg (ans : List (Nat × An)) (live : List Nat)
  | two (a b : AnC)
  | one (a : AnC)
  deriving Inhabited

def compC (P : Program) (N : Nat) : Code → AnC → Option MC
  | .skip, _ => some .skip
  | .region _ ops draw, .reg ans live => match compReg P N ops draw ans with
    | some ms => some (.reg ms live)
    | none => none
  | .seq a b, .two x y => match compC P N a x, compC P N b y with
    | some a', some b' => some (.seq a' b')
    | _, _ => none
  | .cond c a b, .two x y => match cOpd c, compC P N a x, compC P N b y with
    | some c', some a', some b' => some (.cond c' a' b')
    | _, _, _ => none
  | .block id c, .one x => match compC P N c x with
    | some c' => some (.block id c')
    | none => none
  | .loop c, .one x => match compC P N c x with
    | some c' => some (.loop c')
    | none => none
  | .exit id, _ => some (.exit id)
  | .ret, _ => some .ret
  | _, _ => none

def Ex.out : Ex → Exit
  | .norm => .normal
  | .exit id => .exit id
  | .ret => .ret

theorem prune_get (live : List Nat) (fr : Fr) (n : Nat) : (prune live fr).get n = fr.get n ∨ (prune live fr).get n = .junk := by
  unfold prune
  induction live with
  | nil => exact .inr rfl
  | cons m r ih =>
    simp only [List.map_cons, Fr.get]
    split
    · rename_i h; subst h; exact .inl rfl
    · exact ih

section
variable {P : Program} {call : CallF}

theorem AOk.prune {O : Nat → Prop} {N : Nat} {I : Info} {w : World} {fr : Fr} {A : Heap} {a : Act} (h : AOk O N I w fr A a) (live : List Nat) : AOk O N I w (prune live fr) A a := by
  refine ⟨fun t => ?_, h.mem, h.size, h.defers⟩
  rcases prune_get live fr t with e | e
  · rw [e]; exact h.reg t
  · rw [e]; exact .junk _

theorem code_sound (hC : CallOK P call) (hm : P.follows .mixedOrders = true) {O : Nat → Prop} {N n : Nat} : ∀ {c : Code} {an : AnC} {m : MC}, compC P N c an = some m →
    ∀ {I : Info} {w : World} {fr fr' : Fr} {A A' : Heap} {a : Act} {ex : Ex} {Q : Exit → Act → World → Prop}, AOk O N I w fr A a → evC call n m fr A = some (ex, fr', A') →
      (∀ a' w' I', AOk O N I' w' fr' A' a' → Ext I w I' w' → Q ex.out a' w') → c.wp P Q a w := by
  intro c
  induction c with
  | skip =>
    intro an m hc I w fr fr' A A' a ex Q h he hQ
    simp only [compC] at hc
    cases hc
    simp only [evC] at he
    cases he
    exact wp_skip (hQ a w I h (Ext.refl _ _))
  | region id ops draw =>
    intro an m hc I w fr fr' A A' a ex Q h he hQ
    cases an <;> simp only [compC] at hc <;> try (cases hc; done)
    rename_i ans live
    split at hc
    · rename_i ms hms
      cases hc
      simp only [evC] at he
      split at he
      · rename_i fr1 A1 h1
        cases he
        exact region_sound hC hm hms h h1 fun a' w' I' k x => hQ a' w' I' (k.prune live) x
      · cases he
    · cases hc
  | seq x y ihx ihy =>
    intro an m hc I w fr fr' A A' a ex Q h he hQ
    cases an <;> simp only [compC] at hc <;> try (cases hc; done)
    split at hc
    · rename_i x' y' hx hy
      cases hc
      simp only [evC] at he
      refine wp_seq ?_
      split at he
      · rename_i fr1 A1 h1
        refine ihx hx h h1 fun a1 w1 I1 k1 e1 => ?_
        exact ihy hy k1 he fun a2 w2 I2 k2 e2 => hQ a2 w2 I2 k2 (e1.trans e2)
      · rename_i hne
        refine ihx hx h he fun a1 w1 I1 k1 e1 => ?_
        have := hQ a1 w1 I1 k1 e1
        cases ex with
        | norm => exact absurd he (hne _ _)
        | exit id => exact this
        | ret => exact this
    · cases hc
  | cond c x y ihx ihy =>
    intro an m hc I w fr fr' A A' a ex Q h he hQ
    cases an <;> simp only [compC] at hc <;> try (cases hc; done)
    split at hc
    · rename_i c' x' y' hcc hx hy
      cases hc
      have hr := opd_rel h.reg hcc
      simp only [evC] at he
      split at he
      · rename_i hb
        rw [hb] at hr
        exact wp_cond_true (rel_bool hr) (ihx hx h he hQ)
      · rename_i hb
        rw [hb] at hr
        exact wp_cond_false (rel_bool hr) (ihy hy h he hQ)
      · cases he
    · cases hc
  | block id c ih =>
    intro an m hc I w fr fr' A A' a ex Q h he hQ
    cases an <;> simp only [compC] at hc <;> try (cases hc; done)
    split at hc
    · rename_i c' hcc
      cases hc
      simp only [evC] at he
      refine wp_block ?_
      split at he
      · rename_i id' fr1 A1 h1
        refine ih hcc h h1 fun a1 w1 I1 k1 e1 => ?_
        simp only [Ex.out, Exit.inBlock]
        split at he
        · rename_i hid
          cases he
          rw [if_pos hid]
          exact hQ a1 w1 I1 k1 e1
        · rename_i hid
          cases he
          rw [if_neg hid]
          exact hQ a1 w1 I1 k1 e1
      · rename_i hne
        refine ih hcc h he fun a1 w1 I1 k1 e1 => ?_
        have := hQ a1 w1 I1 k1 e1
        cases ex with
        | norm => exact this
        | exit id' => exact absurd he (hne _ _ _)
        | ret => exact this
    · cases hc
  | loop c ih =>
    intro an m hc I w fr fr' A A' a ex Q h he hQ
    cases an <;> simp only [compC] at hc <;> try (cases hc; done)
    split at hc
    · rename_i c' hcc
      cases hc
      simp only [evC] at he
      refine wp_loop_rounds n ?_
      have key : ∀ (k : Nat) {I : Info} {w : World} {fr fr' : Fr} {A A' : Heap} {a : Act} {ex : Ex}, AOk O N I w fr A a → loopN (evC call n c') k fr A = some (ex, fr', A') →
          (∀ a' w' I', AOk O N I' w' fr' A' a' → Ext I w I' w' → Q ex.out a' w') → Code.rounds P c Q k a w := by
        intro k
        induction k with
        | zero => intro I w fr fr' A A' a ex h he hQ; simp [loopN] at he
        | succ k ihk =>
          intro I w fr fr' A A' a ex h he hQ
          rw [rounds_succ]
          simp only [loopN] at he
          split at he
          · rename_i fr1 A1 h1
            refine ih hcc h h1 fun a1 w1 I1 k1 e1 => ?_
            exact ihk k1 he fun a2 w2 I2 k2 e2 => hQ a2 w2 I2 k2 (e1.trans e2)
          · rename_i hne
            refine ih hcc h he fun a1 w1 I1 k1 e1 => ?_
            have := hQ a1 w1 I1 k1 e1
            cases ex with
            | norm => exact absurd he (hne _ _)
            | exit id' => exact this
            | ret => exact this
      exact key n h he hQ
    · cases hc
  | exit id =>
    intro an m hc I w fr fr' A A' a ex Q h he hQ
    simp only [compC] at hc
    cases hc
    simp only [evC] at he
    cases he
    exact wp_exit (hQ a w I h (Ext.refl _ _))
  | ret =>
    intro an m hc I w fr fr' A A' a ex Q h he hQ
    simp only [compC] at hc
    cases hc
    simp only [evC] at he
    cases he
    exact wp_ret (hQ a w I h (Ext.refl _ _))
  | _ =>
    intro an m hc
    simp [compC] at hc

/-! ### results -/

def compRes (P : Program) : ResultVar → Option MRes
  | .tmp t => some (.t t)
  | .cell a T => match loadT P T with
    | some (agg, sz) => some (.cell agg sz a)
    | none => none

theorem loadVar_rel {O : Nat → Prop} {I : Info} {A : Heap} {w : World} (hS : SRel O I A w) {T : TypeId} {agg : Bool} {sz : Nat} (hT : LoadT P T agg sz) {fr : Fr} {n : Nat} {va : Value} (hv : VRel O I w (fr.get n) va) {v : AV}
    (h : evRes fr A (.cell agg sz n) = some v) : ∃ u, (do loadVar T (← asAddr va) : Sem Value).run P w = .ok u w ∧ VRel O I w v u := by
  simp only [evRes] at h
  split at h
  · rename_i id ver ix off hp
    rw [hp] at hv
    split at h
    · rename_i b hb
      split at h
      · rename_i hver
        split at h
        · rename_i e he
          obtain ⟨bi, hbi, hB⟩ := hS.get hb
          cases hv with
          | ptr _ _ _ _ ad bi' hi hvv hp =>
            rw [hbi] at hi
            cases hi
            have hva := hp (by rw [hB.n]; exact hver)
            subst hva
            unfold loadFrom at h
            split at h
            · rename_i hle
              obtain ⟨ul, h2, h3, h4, h5⟩ := hB.cells he hle
              obtain ⟨ra, rb⟩ := run_loadVar (P := P) (w := w) hT (a := ⟨bi.r, ix * bi.sz + off, none⟩) h2 (fun j u hu => by rw [Addr.add_lit]; exact h3 j u hu)
              rcases mkEl_rel h h4 h5 with ⟨hg, hr⟩ | ⟨hg, u, rfl, hr⟩
              · exact ⟨_, by simp [asAddr, ra hg], hr⟩
              · exact ⟨_, by simp [asAddr, rb hg u rfl], hr⟩
            · cases h
        · cases h
      · cases h
    · cases h
  · rename_i cs off hp
    rw [hp] at hv
    cases hv with
    | rp _ _ b o vals hb hlt hc hvv h1 =>
      unfold loadFrom at h
      split at h
      · rename_i hle
        obtain ⟨ra, rb⟩ := run_loadVar (P := P) (w := w) hT (a := ⟨b, o + off, none⟩) (ul := (List.range sz).map fun j => vals (off + j)) (by simp) (fun j u hu => by
          have hj : j < sz := by have := (List.getElem?_eq_some_iff.1 hu).1; simpa using this
          rw [Addr.add_lit, Nat.add_assoc, hc (off + j) (by omega)]
          simp [hj] at hu
          rw [hu])
        have hR : VRels O I w ((cs.drop off).take sz) ((List.range sz).map fun j => vals (off + j)) := by
          refine ⟨by simp; omega, fun i hi => ?_⟩
          have hi' : i < sz := by simp at hi; omega
          simpa [List.getElem_take, List.getElem_drop, hi'] using hvv (off + i) (by omega)
        have h5 : ∀ u ∈ (List.range sz).map fun j => vals (off + j), u.oneCell' = true := by
          intro u hu
          obtain ⟨j, hj, rfl⟩ := List.mem_map.1 hu
          exact h1 _ (by simp at hj; omega)
        rcases mkEl_rel h hR h5 with ⟨hg, hr⟩ | ⟨hg, u, hu, hr⟩
        · exact ⟨_, by simp only [asAddr, Sem.run_bind, Sem.run_pure, Result.andThen_ok, ra hg], hr⟩
        · exact ⟨_, by simp only [asAddr, Sem.run_bind, Sem.run_pure, Result.andThen_ok, rb hg u hu], hr⟩
      · cases h
  · cases h

def resSem (tmps : Array Value) : ResultVar → Sem Value
  | .tmp t => pure (tmps.getD t undef)
  | .cell a t => do loadVar t (← asAddr (tmps.getD a undef))

theorem res_list {O : Nat → Prop} {I : Info} {A : Heap} {w : World} (hS : SRel O I A w) {fr : Fr} {a : Act} (hR : RRel O I w fr.get a) : ∀ {rs : List ResultVar} {ms : List MRes} {vs : List AV}, mapO (compRes P) rs = some ms → mapO (evRes fr A) ms = some vs →
    ∃ us, (rs.mapM (resSem a.tmps)).run P w = .ok us w ∧ VRels O I w vs us
  | [], ms, vs, h1, h2 => by
    simp only [mapO] at h1
    cases h1
    simp only [mapO] at h2
    cases h2
    exact ⟨[], by simp, rfl, fun i hi => by simp at hi⟩
  | r :: rs, ms, vs, h1, h2 => by
    simp only [mapO] at h1
    split at h1
    · rename_i m hm
      split at h1
      · rename_i ms' hms
        cases h1
        simp only [mapO] at h2
        split at h2
        · rename_i v hv
          split at h2
          · rename_i vs' hvs
            cases h2
            obtain ⟨us, e1, e2⟩ := res_list hS hR hms hvs
            have : ∃ u, (resSem a.tmps r).run P w = .ok u w ∧ VRel O I w v u := by
              cases r with
              | tmp t =>
                simp only [compRes] at hm
                cases hm
                simp only [evRes] at hv
                cases hv
                exact ⟨_, by simp [resSem], hR t⟩
              | cell t T =>
                simp only [compRes] at hm
                split at hm
                · rename_i agg sz hT
                  cases hm
                  exact loadVar_rel hS (loadT_some hT).1 (hR t) hv
                · cases hm
            obtain ⟨u, e3, e4⟩ := this
            refine ⟨u :: us, by simp [List.mapM_cons, e3, e1], by simp [e2.1], fun i hi => ?_⟩
            cases i with
            | zero => simpa using e4
            | succ i => simpa using e2.2 i (by simpa using hi)
          · cases h2
        · cases h2
      · cases h1
    · cases h1

def oneV : List Value → Value
  | [v] => v
  | vs => .tuple vs.toArray

theorem results_run {fn : Func} {tmps : Array Value} {us : List Value} {w : World} (h : (fn.results.toList.mapM (resSem tmps)).run P w = .ok us w) :
    (results fn tmps).run P w = .ok (oneV us) w := by
  have h2 : (fn.results.mapM (resSem tmps)).run P w = .ok us.toArray w := by
    rw [Array.mapM_eq_mapM_toList]
    simp [h]
  have e : results fn tmps = (do let vs ← fn.results.mapM (resSem tmps); pure (if h : vs.size = 1 then vs[0] else .tuple vs)) := by
    unfold results
    congr 1
  rw [e]
  simp only [Sem.run_bind, h2, Result.andThen_ok, Sem.run_pure]
  match us with
  | [] => rfl
  | [v] => rfl
  | u :: v :: r => simp [oneV]

theorem one_rel {O : Nat → Prop} {I : Info} {w : World} {vs : List AV} {us : List Value} (h : VRels O I w vs us) : VRel O I w (one vs) (oneV us) := by
  match vs, us, h with
  | [], [], h => exact .tup [] [] rfl (fun i hi => by simp at hi)
  | [v], [u], h => simpa [one, oneV] using h.2 0 (by simp)
  | v :: v2 :: r, u :: u2 :: s, h => exact .tup _ _ h.1 h.2
  | [], u :: s, h => simp [VRels] at h
  | [v], [], h => simp [VRels] at h
  | [v], u :: u2 :: s, h => simp [VRels] at h
  | v :: v2 :: r, [], h => simp [VRels] at h
  | v :: v2 :: r, [u], h => simp [VRels] at h

/-! ### functions -/

def compF (P : Program) (fn : Func) (an : AnC) : Option MFunc :=
  match fn.body with
  | some c => match compC P fn.ntmps c an, mapO (compRes P) fn.results.toList with
    | some b, some r => some ⟨b, r⟩
    | _, _ => none
  | none => none

theorem params_get : ∀ (n : Nat) (xs : List AV) (t : Nat), (params n xs).get t = if n ≤ t then xs.getD (t - n) .junk else .junk
  | n, [], t => by simp [params, Fr.get]
  | n, v :: r, t => by
    simp only [params, Fr.get]
    rw [params_get (n + 1) r t]
    by_cases h1 : n = t
    · subst h1; simp
    · rw [if_neg h1]
      by_cases h2 : n ≤ t
      · have e : t - n = (t - (n + 1)) + 1 := by omega
        rw [if_pos h2, if_pos (by omega), e, List.getD_cons_succ]
      · rw [if_neg h2, if_neg (by omega)]

theorem runBody_sound (hC : CallOK P call) (hm : P.follows .mixedOrders = true) {f : FuncId} {fn : Func} {an : AnC} {m : MFunc} (hf : P.funcs[f]? = some fn) (hc : compF P fn an = some m) {n : Nat} {args : List AV} {A A' : Heap} {r : AV}
    (he : runBody call n m args A = some (r, A')) {O : Nat → Prop} {I : Info} {w : World} {vs : List Value} (hS : SRel O I A w) (hv : VRels O I w args vs) :
    Calls P f vs.toArray w (RetOk O I w r A') := by
  unfold compF at hc
  split at hc
  · rename_i c hb
    split at hc
    · rename_i b rs hcb hrs
      cases hc
      refine calls_of_wp hf hb ?_
      have h0 : AOk O fn.ntmps I w (params 0 args) A { tmps := vs.toArray ++ Array.replicate (fn.ntmps - vs.toArray.size) undef, defers := [] } := by
        refine ⟨fun t => ?_, hS, by simp; omega, rfl⟩
        rw [params_get]
        simp only [Nat.zero_le, if_true, Nat.sub_zero]
        rcases Nat.lt_or_ge t args.length with h | h
        · have e1 : args.getD t .junk = args[t] := by rw [List.getD_eq_getElem?_getD, List.getElem?_eq_getElem h]; rfl
          have e2 : (vs.toArray ++ Array.replicate (fn.ntmps - vs.toArray.size) undef).getD t undef = vs.getD t undef := by
            rw [Array.getD_eq_getD_getElem?, Array.getElem?_append_left (by simp [hv.1]; exact h), List.getD_eq_getElem?_getD]
            simp
          rw [e1, e2]
          exact hv.2 t h
        · have : args.getD t .junk = .junk := by rw [List.getD_eq_getElem?_getD, List.getElem?_eq_none h]; rfl
          rw [this]
          exact .junk _
      unfold runBody at he
      have fin : ∀ {fr1 : Fr} {A1 : Heap} {vs' : List AV} {a' : Act} {w' : World} {I' : Info}, mapO (evRes fr1 A1) rs = some vs' → AOk O fn.ntmps I' w' fr1 A1 a' → Ext I w I' w' →
          a'.defers = [] ∧ ∃ v, (results fn a'.tmps).run P w' = .ok v w' ∧ RetOk O I w (one vs') A1 (.returned v) w' := by
        intro fr1 A1 vs' a' w' I' hvs k x
        obtain ⟨us, e1, e2⟩ := res_list (P := P) k.mem k.reg hrs hvs
        exact ⟨k.defers, _, results_run e1, _, I', rfl, one_rel e2, k.mem, x⟩
      split at he
      · rename_i fr1 A1 h1
        split at he
        · rename_i vs' hvs
          cases he
          exact code_sound hC hm hcb h0 h1 fun a' w' I' k x => fin hvs k x
        · cases he
      · rename_i fr1 A1 h1
        split at he
        · rename_i vs' hvs
          cases he
          exact code_sound hC hm hcb h0 h1 fun a' w' I' k x => fin hvs k x
        · cases he
      · cases he
    · cases hc
  · cases hc

/-- An entry without a body. -/
def ExtOK (P : Program) (f : FuncId) (spec : List AV → Option AV) : Prop :=
  ∀ (args : List AV) (r : AV), spec args = some r → permT r = true → ∀ (O : Nat → Prop) (w : World) (vs : List Value), (∀ b, O b → b < w.heap.size) → VRels O [] w args vs →
    ∃ v w', (callFunc f vs.toArray).run P w = .ok (.value v) w' ∧ VRel O [] w' r v ∧ Ext [] w [] w'

def TabOK (P : Program) (T : Tab) : Prop :=
  ∀ (f : FuncId) (e : Ent), T f = some e → match e with
    | .code m => ∃ fn an, P.funcs[f]? = some fn ∧ (fn.name == "runtime.NumGoroutine") = false ∧ compF P fn an = some m
    | .ext spec => ExtOK P f spec

theorem permT_rel {O O2 : Nat → Prop} {I I2 : Info} {w : World} (hO : ∀ b, ¬ Has I b → ¬ O b → ¬ Has I2 b ∧ ¬ O2 b) {x : AV} {v : Value} (h : VRel O I w x v) (hp : permT x = true) : VRel O2 I2 w x v := by
  cases h with
  | tup xs vl hl hr =>
    simp only [permT] at hp
    unfold permAll at hp
    rw [List.all_eq_true] at hp
    exact .tup xs vl hl fun i hi => perm_rel hO (hr i hi) (hp _ (List.getElem_mem hi))
  | junk v => simp [permT, permA] at hp
  | int k n => exact .int k n
  | bool b => exact .bool b
  | str s => exact .str s
  | nilp => exact .nilp
  | nilf => exact .nilf
  | nili => exact .nili
  | ptr id ver ix off a bi hi hv hh => simp [permT, permA] at hp
  | rp cs off b o vals hb hl hc hv h1 => simp [permT, permA] at hp
  | sl id sz ver off len a c bi hi hv hss hl hh => simp [permT, permA] at hp
  | lstn p sz => exact .lstn p sz
  | lst p sz xs a c vals hpp hcap ha hu hc hv h1 => exact perm_rel hO (.lst p sz xs a c vals hpp hcap ha hu hc hv h1) hp
  | fn f first caps fl cl hf hc h1 h2 => simp [permT, permA] at hp
  | iface t x v h => exact perm_rel hO (.iface t x v h) hp
  | agg xs vl hl hr h1 => exact perm_rel hO (.agg xs vl hl hr h1) hp

theorem run_callFunc_code {f : FuncId} {fn : Func} (hf : P.funcs[f]? = some fn) (hn : (fn.name == "runtime.NumGoroutine") = false) (hb : fn.body.isSome = true) {args : Array Value} {w : World} :
    (callFunc f args).run P w = .ok (.enter f args) w := by
  have hb' : ¬ fn.body = none := by intro h; simp [h] at hb
  have hn' : ¬ fn.name = "runtime.NumGoroutine" := by simpa using hn
  simp [callFunc, hf, hn', hb']

theorem evF_sound {T : Tab} (hT : TabOK P T) (hm : P.follows .mixedOrders = true) : ∀ k, CallOK P (evF T k) := by
  intro k
  induction k with
  | zero => intro f args A r A' h; simp [evF] at h
  | succ k ih =>
    intro f args A r A' h O I w vs hS hv
    simp only [evF] at h
    split at h
    · rename_i m hTm
      obtain ⟨fn, an, hf, hn, hc⟩ := hT f _ hTm
      have hb : fn.body.isSome = true := by
        unfold compF at hc
        split at hc
        · rename_i c hb; simp [hb]
        · cases hc
      exact .inl ⟨run_callFunc_code hf hn hb, runBody_sound ih hm hf hc h hS hv⟩
    · rename_i spec hTm
      have hE : ExtOK P f spec := hT f _ hTm
      split at h
      · rename_i as has
        split at h
        · rename_i r' hr
          split at h
          · rename_i hp
            cases h
            have hL := lent_start hS
            obtain ⟨v, w', e1, e2, e3⟩ := hE as _ hr hp (Lent O I) w vs hL.olt (borrows_rel hS has hv)
            obtain ⟨k1, k2⟩ := lent_back hS e3
            exact .inr ⟨v, I, w', e1, permT_rel (fun b h1 h2 => ⟨fun h => h2 (.inr h), fun h => h2 (.inl h)⟩) e2 hp, k1, k2⟩
          · cases h
        · cases h
      · cases h
    · cases h

end
end Go.Ev
end

section
/- Running by rules: fuel told away, so that a run is rewritten step by step. -/
set_option linter.unusedVariables false
set_option linter.unusedSimpArgs false
namespace Go.Ev

def CLe (f g : CallF) : Prop := ∀ a b c r, f a b c = some r → g a b c = some r

theorem CLe.refl (f : CallF) : CLe f f := fun _ _ _ _ h => h

theorem doCall_mono {f g : CallF} (h : CLe f g) {k : CK} {a : FuncId} {b : List AV} {A : Heap} {r : AV × Heap} (he : doCall f k a b A = some r) : doCall g k a b A = some r := by
  cases k <;> simp only [doCall] at he ⊢
  · exact h _ _ _ _ he
  all_goals
    split at he
    · split at he
      · rename_i h1
        rw [h _ _ _ _ h1]
        exact he
      · cases he
    · cases he

theorem evK_mono {f g : CallF} (h : CLe f g) {k : MK} {γ : Nat → AV} {A : Heap} {r : AV × Heap} (he : evK f k γ A = some r) : evK g k γ A = some r := by
  cases k with
  | call c fo args =>
    simp only [evK] at he ⊢
    split at he
    · exact doCall_mono h he
    · cases he
  | _ => exact he

theorem evV_mono {f g : CallF} (h : CLe f g) {o : MOp} {γ : Nat → AV} {A : Heap} {r : AV × Heap} (he : evV f o γ A = some r) : evV g o γ A = some r := by
  unfold evV at he ⊢
  split at he
  · exact evK_mono h he
  · exact he
  · cases he

theorem evOp_mono {f g : CallF} (h : CLe f g) {o : MOp} {fr : Fr} {A : Heap} {r : Fr × Heap} (he : evOp f o fr A = some r) : evOp g o fr A = some r := by
  unfold evOp evU at he ⊢
  split at he
  · rename_i hc
    rw [if_pos hc]
    split at he
    · rename_i h1
      rw [evV_mono h h1]
      exact he
    · cases he
  · cases he

theorem evOps_mono {f g : CallF} (h : CLe f g) : ∀ {os : List MOp} {fr : Fr} {A : Heap} {r : Fr × Heap}, evOps f os fr A = some r → evOps g os fr A = some r
  | [], _, _, _, he => he
  | o :: os, fr, A, r, he => by
    simp only [evOps] at he ⊢
    split at he
    · rename_i fr' A' h1
      rw [evOp_mono h h1]
      exact evOps_mono h he
    · cases he

theorem evC_mono {f g : CallF} (h : CLe f g) {n n' : Nat} (hn : n ≤ n') : ∀ {m : MC} {fr : Fr} {A : Heap} {r : Ex × Fr × Heap}, evC f n m fr A = some r → evC g n' m fr A = some r := by
  intro m
  induction m with
  | skip => intro fr A r he; exact he
  | reg ops live =>
    intro fr A r he
    simp only [evC] at he ⊢
    split at he
    · rename_i h1; rw [evOps_mono h h1]; exact he
    · cases he
  | seq a b iha ihb =>
    intro fr A r he
    simp only [evC] at he ⊢
    split at he
    · rename_i h1; rw [iha h1]; exact ihb he
    · rename_i hne
      rw [iha he]
      obtain ⟨ex, fr1, A1⟩ := r
      cases ex with
      | norm => exact absurd he (hne _ _)
      | _ => rfl
  | cond c a b iha ihb =>
    intro fr A r he
    simp only [evC] at he ⊢
    split at he
    · exact iha he
    · exact ihb he
    · cases he
  | block id c ih =>
    intro fr A r he
    simp only [evC] at he ⊢
    split at he
    · rename_i h1; rw [ih h1]; exact he
    · rename_i hne
      rw [ih he]
      obtain ⟨ex, fr1, A1⟩ := r
      cases ex with
      | exit id => exact absurd he (hne _ _ _)
      | _ => rfl
  | loop c ih =>
    intro fr A r he
    simp only [evC] at he ⊢
    have key : ∀ (k k' : Nat), k ≤ k' → ∀ {fr : Fr} {A : Heap} {r : Ex × Fr × Heap}, loopN (evC f n c) k fr A = some r → loopN (evC g n' c) k' fr A = some r := by
      intro k
      induction k with
      | zero => intro k' _ fr A r he; simp [loopN] at he
      | succ k ihk =>
        intro k' hk fr A r he
        obtain ⟨k'', rfl⟩ : ∃ k'', k' = k'' + 1 := ⟨k' - 1, by omega⟩
        simp only [loopN] at he ⊢
        split at he
        · rename_i h1; rw [ih h1]; exact ihk k'' (by omega) he
        · rename_i hne
          rw [ih he]
          obtain ⟨ex, fr1, A1⟩ := r
          cases ex with
          | norm => exact absurd he (hne _ _)
          | _ => rfl
    exact key n n' hn he
  | exit id => intro fr A r he; exact he
  | ret => intro fr A r he; exact he

theorem runBody_mono {f g : CallF} (h : CLe f g) {n n' : Nat} (hn : n ≤ n') {m : MFunc} {args : List AV} {A : Heap} {r : AV × Heap} (he : runBody f n m args A = some r) : runBody g n' m args A = some r := by
  unfold runBody at he ⊢
  split at he
  · rename_i h1; rw [evC_mono h hn h1]; exact he
  · rename_i h1; rw [evC_mono h hn h1]; exact he
  · cases he

theorem evF_succ (T : Tab) (k : Nat) (f : FuncId) (args : List AV) (A : Heap) : evF T (k + 1) f args A = match T f with
    | some (.code m) => runBody (evF T k) k m args A
    | some (.ext spec) => match mapO (borrow A depth) args with
      | some args' => match spec args' with
        | some r => if permT r then some (r, A) else none
        | none => none
      | none => none
    | none => none := rfl

theorem evF_step (T : Tab) : ∀ k, CLe (evF T k) (evF T (k + 1)) := by
  intro k
  induction k with
  | zero => intro a b c r h; simp [evF] at h
  | succ k ih =>
    intro a b c r h
    rw [evF_succ] at h ⊢
    split at h
    · exact runBody_mono ih (Nat.le_succ _) h
    · exact h
    · cases h

theorem evF_mono (T : Tab) {k k' : Nat} (h : k ≤ k') : CLe (evF T k) (evF T k') := by
  induction h with
  | refl => exact CLe.refl _
  | step _ ih => exact fun a b c r e => evF_step T _ _ _ _ _ (ih _ _ _ _ e)

/-! ### runs with an end told -/

def WC (T : Tab) (m : MC) (Q : Ex → Fr → Heap → Prop) (fr : Fr) (A : Heap) : Prop := ∃ k n ex fr' A', evC (evF T k) n m fr A = some (ex, fr', A') ∧ Q ex fr' A'
def WO (T : Tab) (os : List MOp) (K : Fr → Heap → Prop) (fr : Fr) (A : Heap) : Prop := ∃ k fr' A', evOps (evF T k) os fr A = some (fr', A') ∧ K fr' A'
def WF (T : Tab) (f : FuncId) (args : List AV) (A : Heap) (K : AV → Heap → Prop) : Prop := ∃ k r A', evF T k f args A = some (r, A') ∧ K r A'
def WD (T : Tab) (c : CK) (f : FuncId) (args : List AV) (A : Heap) (K : AV → Heap → Prop) : Prop := ∃ k r A', doCall (evF T k) c f args A = some (r, A') ∧ K r A'

/-- What goes on behind a piece of code. -/
def Ex.go (Q : Ex → Fr → Heap → Prop) (N : Fr → Heap → Prop) : Ex → Fr → Heap → Prop
  | .norm, fr, A => N fr A
  | .exit id, fr, A => Q (.exit id) fr A
  | .ret, fr, A => Q .ret fr A

def Ex.blk (id : Nat) (Q : Ex → Fr → Heap → Prop) : Ex → Fr → Heap → Prop
  | .norm, fr, A => Q .norm fr A
  | .exit id', fr, A => if id' = id then Q .norm fr A else Q (.exit id') fr A
  | .ret, fr, A => Q .ret fr A

section
variable {T : Tab} {Q : Ex → Fr → Heap → Prop} {K : AV → Heap → Prop} {N : Fr → Heap → Prop} {fr : Fr} {A : Heap}

theorem WC_skip : WC T .skip Q fr A ↔ Q .norm fr A := by
  constructor
  · rintro ⟨k, n, ex, fr', A', h, q⟩; simp only [evC] at h; cases h; exact q
  · intro q; exact ⟨0, 0, _, _, _, rfl, q⟩

theorem WC_exit {id : Nat} : WC T (.exit id) Q fr A ↔ Q (.exit id) fr A := by
  constructor
  · rintro ⟨k, n, ex, fr', A', h, q⟩; simp only [evC] at h; cases h; exact q
  · intro q; exact ⟨0, 0, _, _, _, rfl, q⟩

theorem WC_ret : WC T .ret Q fr A ↔ Q .ret fr A := by
  constructor
  · rintro ⟨k, n, ex, fr', A', h, q⟩; simp only [evC] at h; cases h; exact q
  · intro q; exact ⟨0, 0, _, _, _, rfl, q⟩

theorem WC_reg {os : List MOp} {live : List Nat} : WC T (.reg os live) Q fr A ↔ WO T os (fun fr' A' => Q .norm (prune live fr') A') fr A := by
  constructor
  · rintro ⟨k, n, ex, fr', A', h, q⟩
    simp only [evC] at h
    split at h
    · rename_i h1; cases h; exact ⟨k, _, _, h1, q⟩
    · cases h
  · rintro ⟨k, fr', A', h, q⟩; exact ⟨k, 0, _, _, _, by simp only [evC, h], q⟩

theorem evC_up {k n k' n' : Nat} (hk : k ≤ k') (hn : n ≤ n') {m : MC} {fr : Fr} {A : Heap} {r : Ex × Fr × Heap} (h : evC (evF T k) n m fr A = some r) : evC (evF T k') n' m fr A = some r :=
  evC_mono (evF_mono T hk) hn h

theorem WC_seq {a b : MC} : WC T (.seq a b) Q fr A ↔ WC T a (Ex.go Q (WC T b Q)) fr A := by
  constructor
  · rintro ⟨k, n, ex, fr', A', h, q⟩
    simp only [evC] at h
    split at h
    · rename_i fr1 A1 h1; exact ⟨k, n, _, _, _, h1, k, n, _, _, _, h, q⟩
    · rename_i hne
      refine ⟨k, n, _, _, _, h, ?_⟩
      cases ex with
      | norm => exact absurd h (hne _ _)
      | _ => exact q
  · rintro ⟨k, n, ex, fr', A', h, q⟩
    cases ex with
    | norm =>
      obtain ⟨k2, n2, ex2, fr2, A2, h2, q2⟩ := q
      refine ⟨max k k2, max n n2, ex2, fr2, A2, ?_, q2⟩
      simp only [evC, evC_up (Nat.le_max_left _ _) (Nat.le_max_left _ _) h, evC_up (Nat.le_max_right _ _) (Nat.le_max_right _ _) h2]
    | exit id => exact ⟨k, n, _, _, _, by simp only [evC, h], q⟩
    | ret => exact ⟨k, n, _, _, _, by simp only [evC, h], q⟩

theorem WC_cond {c : Opd} {a b : MC} : WC T (.cond c a b) Q fr A ↔ match c.ev fr.get with
    | .bool true => WC T a Q fr A
    | .bool false => WC T b Q fr A
    | _ => False := by
  constructor
  · rintro ⟨k, n, ex, fr', A', h, q⟩
    simp only [evC] at h
    split at h <;> rename_i hc <;> try simp only [hc]
    · exact ⟨k, n, _, _, _, h, q⟩
    · exact ⟨k, n, _, _, _, h, q⟩
    · cases h
  · intro h
    split at h <;> rename_i hc
    · obtain ⟨k, n, ex, fr', A', h, q⟩ := h; exact ⟨k, n, _, _, _, by simp only [evC, hc, h], q⟩
    · obtain ⟨k, n, ex, fr', A', h, q⟩ := h; exact ⟨k, n, _, _, _, by simp only [evC, hc, h], q⟩
    · exact h.elim

theorem WC_block {id : Nat} {c : MC} : WC T (.block id c) Q fr A ↔ WC T c (Ex.blk id Q) fr A := by
  constructor
  · rintro ⟨k, n, ex, fr', A', h, q⟩
    simp only [evC] at h
    split at h
    · rename_i id' fr1 A1 h1
      refine ⟨k, n, _, _, _, h1, ?_⟩
      simp only [Ex.blk]
      split at h
      · cases h; rename_i e; rw [if_pos e]; exact q
      · cases h; rename_i e; rw [if_neg e]; exact q
    · rename_i hne
      refine ⟨k, n, _, _, _, h, ?_⟩
      cases ex with
      | exit id => exact absurd h (hne _ _ _)
      | _ => exact q
  · rintro ⟨k, n, ex, fr', A', h, q⟩
    cases ex with
    | exit id' =>
      simp only [Ex.blk] at q
      split at q
      · rename_i e; exact ⟨k, n, _, _, _, by simp only [evC, h, if_pos e], q⟩
      · rename_i e; exact ⟨k, n, _, _, _, by simp only [evC, h, if_neg e], q⟩
    | norm => exact ⟨k, n, _, _, _, by simp only [evC, h], q⟩
    | ret => exact ⟨k, n, _, _, _, by simp only [evC, h], q⟩

theorem WC_loop {c : MC} : WC T (.loop c) Q fr A ↔ WC T c (Ex.go Q (WC T (.loop c) Q)) fr A := by
  constructor
  · rintro ⟨k, n, ex, fr', A', h, q⟩
    simp only [evC] at h
    cases n with
    | zero => simp [loopN] at h
    | succ n =>
      simp only [loopN] at h
      split at h
      · rename_i fr1 A1 h1
        refine ⟨k, n + 1, _, _, _, h1, k, n + 1, ex, fr', A', ?_, q⟩
        simp only [evC]
        have key : ∀ (j : Nat) {fr : Fr} {A : Heap} {r : Ex × Fr × Heap}, loopN (evC (evF T k) (n + 1) c) j fr A = some r → loopN (evC (evF T k) (n + 1) c) (j + 1) fr A = some r := by
          intro j
          induction j with
          | zero => intro fr A r he; simp [loopN] at he
          | succ j ih =>
            intro fr A r he
            rw [loopN] at he ⊢
            split at he
            · exact ih he
            · exact he
        exact key n h
      · rename_i hne
        refine ⟨k, n + 1, _, _, _, h, ?_⟩
        cases ex with
        | norm => exact absurd h (hne _ _)
        | _ => exact q
  · rintro ⟨k, n, ex, fr', A', h, q⟩
    cases ex with
    | norm =>
      obtain ⟨k2, n2, ex2, fr2, A2, h2, q2⟩ := q
      refine ⟨max k k2, max n n2 + 1, ex2, fr2, A2, ?_, q2⟩
      have e1 := evC_up (T := T) (k' := max k k2) (n' := max n n2 + 1) (Nat.le_max_left _ _) (by omega) h
      have e2 := evC_up (T := T) (k' := max k k2) (n' := max n n2) (Nat.le_max_right _ _) (by omega) h2
      have e3 : loopN (evC (evF T (max k k2)) (max n n2 + 1) c) (max n n2) fr' A' = some (ex2, fr2, A2) := by
        simp only [evC] at e2
        have key : ∀ (j : Nat) {fr : Fr} {A : Heap} {r : Ex × Fr × Heap}, loopN (evC (evF T (max k k2)) (max n n2) c) j fr A = some r → loopN (evC (evF T (max k k2)) (max n n2 + 1) c) j fr A = some r := by
          intro j
          induction j with
          | zero => intro fr A r he; simp [loopN] at he
          | succ j ih =>
            intro fr A r he
            simp only [loopN] at he ⊢
            split at he
            · rename_i h1; rw [evC_mono (CLe.refl _) (Nat.le_succ _) h1]; exact ih he
            · rename_i hne
              rw [evC_mono (CLe.refl _) (Nat.le_succ _) he]
              obtain ⟨ex, fr1, A1⟩ := r
              cases ex with
              | norm => exact absurd he (hne _ _)
              | _ => rfl
        exact key _ e2
      simp only [evC, loopN, e1, e3]
    | exit id => exact ⟨k, n + 1, _, _, _, by simp only [evC, loopN, evC_mono (CLe.refl _) (Nat.le_succ _) h], q⟩
    | ret => exact ⟨k, n + 1, _, _, _, by simp only [evC, loopN, evC_mono (CLe.refl _) (Nat.le_succ _) h], q⟩

def WK (T : Tab) (k : MK) (g : Nat → AV) (A : Heap) (K : AV → Heap → Prop) : Prop :=
  match k with
  | .call c f args => match f.ev g with
    | .fn f first caps => WD T c f (first ++ args.map (·.ev g) ++ caps) A K
    | _ => False
  | k => match evM k g A with
    | some (v, A') => K v A'
    | none => False

theorem WO_nil : WO T [] N fr A ↔ N fr A := by
  constructor
  · rintro ⟨k, fr', A', h, q⟩; simp only [evOps] at h; cases h; exact q
  · intro q; exact ⟨0, _, _, rfl, q⟩

theorem evOps_up {k k' : Nat} (hk : k ≤ k') {os : List MOp} {fr : Fr} {A : Heap} {r : Fr × Heap} (h : evOps (evF T k) os fr A = some r) : evOps (evF T k') os fr A = some r :=
  evOps_mono (evF_mono T hk) h

theorem optMatch {x : Option (AV × Heap)} : (match x with
    | some (v, A') => K v A'
    | none => False) ↔ ∃ v A', x = some (v, A') ∧ K v A' := by
  cases x with
  | none => simp
  | some r =>
    obtain ⟨v, A'⟩ := r
    constructor
    · intro h; exact ⟨v, A', rfl, h⟩
    · rintro ⟨v, A', h, q⟩; cases h; exact q

theorem WK_iff {k : MK} {g : Nat → AV} : WK T k g A K ↔ ∃ j v A', evK (evF T j) k g A = some (v, A') ∧ K v A' := by
  cases k with
  | call c f args =>
    simp only [WK, evK]
    cases f.ev g with
    | fn f first caps => exact Iff.rfl
    | _ => simp
  | mv x => exact ⟨fun q => ⟨0, _, _, rfl, q⟩, fun ⟨j, v, A', h, q⟩ => by cases h; exact q⟩
  | alloc ty sz z => exact ⟨fun q => ⟨0, _, _, rfl, q⟩, fun ⟨j, v, A', h, q⟩ => by cases h; exact q⟩
  | mkfn f a b => exact ⟨fun q => ⟨0, _, _, rfl, q⟩, fun ⟨j, v, A', h, q⟩ => by cases h; exact q⟩
  | mkif t x => exact ⟨fun q => ⟨0, _, _, rfl, q⟩, fun ⟨j, v, A', h, q⟩ => by cases h; exact q⟩
  | bad => simp [WK, evK, evM]
  | _ =>
    simp only [WK, evK]
    refine optMatch.trans ?_
    exact ⟨fun ⟨v, A', h, q⟩ => ⟨0, v, A', h, q⟩, fun ⟨j, v, A', h, q⟩ => ⟨v, A', h, q⟩⟩

theorem evOp_iff {o : MOp} (hc : chk o fr.get = true) (hg : guardOk fr.get o.guard = some true) :
    (∃ j fr' A', evOp (evF T j) o fr A = some (fr', A') ∧ N fr' A') ↔ WK T o.k fr.get A (fun v A' => N (putd o.dst v fr) A') := by
  rw [WK_iff]
  constructor
  · rintro ⟨j, fr', A', h, q⟩
    obtain ⟨v, hv, rfl⟩ := evU_some _ (evOp_some _ h).2
    unfold evV at hv
    rw [hg] at hv
    exact ⟨j, v, A', hv, q⟩
  · rintro ⟨j, v, A', h, q⟩
    refine ⟨j, _, A', ?_, q⟩
    unfold evOp evU evV
    rw [if_pos hc, hg]
    simp only [h]

theorem WO_cons {o : MOp} {os : List MOp} : WO T (o :: os) N fr A ↔ (chk o fr.get = true ∧ match guardOk fr.get o.guard with
    | some true => WK T o.k fr.get A (fun v A' => WO T os N (putd o.dst v fr) A')
    | some false => WO T os N (putd o.dst (.tup []) fr) A
    | none => False) := by
  have step : WO T (o :: os) N fr A ↔ ∃ j fr' A', evOp (evF T j) o fr A = some (fr', A') ∧ WO T os N fr' A' := by
    constructor
    · rintro ⟨k, fr', A', h, q⟩
      simp only [evOps] at h
      split at h
      · rename_i h1; exact ⟨k, _, _, h1, k, _, _, h, q⟩
      · cases h
    · rintro ⟨k, fr', A', h, k2, fr2, A2, h2, q⟩
      refine ⟨max k k2, fr2, A2, ?_, q⟩
      simp only [evOps, evOp_mono (evF_mono T (Nat.le_max_left k k2)) h, evOps_up (Nat.le_max_right k k2) h2]
  rw [step]
  by_cases hc : chk o fr.get = true
  · simp only [hc, true_and]
    split <;> rename_i hg
    · exact evOp_iff hc hg
    · unfold evOp evU evV
      simp only [hg, hc, if_true]
      constructor
      · rintro ⟨j, fr', A', h, q⟩; cases h; exact q
      · intro q; exact ⟨0, _, _, rfl, q⟩
    · unfold evOp evU evV
      simp only [hg, hc, if_true]
      constructor
      · rintro ⟨j, fr', A', h, q⟩; cases h
      · intro q; exact q.elim
  · constructor
    · rintro ⟨j, fr', A', h, q⟩; exact absurd (evOp_some _ h).1 hc
    · rintro ⟨h, _⟩; exact absurd h hc

variable {f : FuncId} {args : List AV}

theorem WD_inl : WD T .inl f args A K ↔ WF T f args A K := Iff.rfl

theorem WD_ro : WD T .ro f args A K ↔ match mapO (borrow A depth) args with
    | some as => WF T f as [] (fun v A1 => match giveBackT A1 depth v with
      | some r => K r A
      | none => False)
    | none => False := by
  constructor
  · rintro ⟨k, r, A', h, q⟩
    simp only [doCall] at h
    split at h
    · rename_i as has
      split at h
      · rename_i v A1 h1
        split at h
        · rename_i r' hr
          cases h
          simp only [has]
          refine ⟨k, _, _, h1, ?_⟩
          simp only [hr]
          exact q
        · cases h
      · cases h
    · cases h
  · intro h
    split at h
    · rename_i as has
      obtain ⟨k, v, A1, h1, q⟩ := h
      split at q
      · rename_i r hr
        exact ⟨k, r, A, by simp only [doCall, has, h1, hr], q⟩
      · exact q.elim
    · exact h.elim

theorem WD_own : WD T .own f args A K ↔ match mapO (borrow A depth) args with
    | some as => WF T f as [] (fun v A1 => match embed A.length depth v, mapO (embedB A.length depth) A1 with
      | some r, some A2 => K r (A ++ A2)
      | _, _ => False)
    | none => False := by
  constructor
  · rintro ⟨k, r, A', h, q⟩
    simp only [doCall] at h
    split at h
    · rename_i as has
      split at h
      · rename_i v A1 h1
        split at h
        · rename_i r' A2 hr hA
          cases h
          simp only [has]
          refine ⟨k, _, _, h1, ?_⟩
          simp only [hr, hA]
          exact q
        · cases h
      · cases h
    · cases h
  · intro h
    split at h
    · rename_i as has
      obtain ⟨k, v, A1, h1, q⟩ := h
      split at q
      · rename_i r A2 hr hA
        exact ⟨k, r, A ++ A2, by simp only [doCall, has, h1, hr, hA], q⟩
      · exact q.elim
    · exact h.elim

theorem WF_code {m : MFunc} (hm : T f = some (.code m)) : WF T f args A K ↔ WC T m.body (fun ex fr A' => match ex with
    | .exit _ => False
    | _ => match mapO (evRes fr A') m.res with
      | some vs => K (one vs) A'
      | none => False) (params 0 args) A := by
  constructor
  · rintro ⟨k, r, A', h, q⟩
    cases k with
    | zero => simp [evF] at h
    | succ k =>
      simp only [evF, hm, runBody] at h
      split at h
      · rename_i fr A1 h1
        split at h
        · rename_i vs hvs
          cases h
          refine ⟨k, k, _, _, _, h1, ?_⟩
          simp only [hvs]
          exact q
        · cases h
      · rename_i fr A1 h1
        split at h
        · rename_i vs hvs
          cases h
          refine ⟨k, k, _, _, _, h1, ?_⟩
          simp only [hvs]
          exact q
        · cases h
      · cases h
  · rintro ⟨k, n, ex, fr, A', h, q⟩
    have h' := evC_up (T := T) (k' := max k n) (n' := max k n) (Nat.le_max_left _ _) (Nat.le_max_right _ _) h
    cases ex with
    | exit id => exact q.elim
    | norm =>
      simp only at q
      split at q
      · rename_i vs hvs
        exact ⟨max k n + 1, one vs, A', by simp only [evF, hm, runBody, h', hvs], q⟩
      · exact q.elim
    | ret =>
      simp only at q
      split at q
      · rename_i vs hvs
        exact ⟨max k n + 1, one vs, A', by simp only [evF, hm, runBody, h', hvs], q⟩
      · exact q.elim

theorem WF_ext {spec : List AV → Option AV} (hm : T f = some (.ext spec)) : WF T f args A K ↔ match mapO (borrow A depth) args with
    | some as => match spec as with
      | some r => permT r = true ∧ K r A
      | none => False
    | none => False := by
  constructor
  · rintro ⟨k, r, A', h, q⟩
    cases k with
    | zero => simp [evF] at h
    | succ k =>
      simp only [evF, hm] at h
      split at h
      · rename_i as has
        split at h
        · rename_i r' hr
          split at h
          · rename_i hp
            cases h
            simp only [has, hr]
            exact ⟨hp, q⟩
          · cases h
        · cases h
      · cases h
  · intro h
    split at h
    · rename_i as has
      split at h
      · rename_i r hr
        exact ⟨1, r, A, by simp only [evF, hm, has, hr, if_pos h.1], h.2⟩
      · exact h.elim
    · exact h.elim

/-- What a run came to, as a rule for rewriting. -/
theorem WF_of {k : Nat} {r : AV} {A' : Heap} (h : evF T k f args A = some (r, A')) : WF T f args A K ↔ K r A' := by
  constructor
  · rintro ⟨k2, r2, A2, h2, q⟩
    have e1 := evF_mono T (Nat.le_max_left k k2) _ _ _ _ h
    have e2 := evF_mono T (Nat.le_max_right k k2) _ _ _ _ h2
    rw [e1] at e2
    cases e2
    exact q
  · intro q; exact ⟨k, r, A', h, q⟩

/-- A run that is known to come to something. -/
def Runs (T : Tab) (f : FuncId) (args : List AV) (A : Heap) (r : AV) (A' : Heap) : Prop := ∃ k, evF T k f args A = some (r, A')

theorem Runs.of {r : AV} {A' : Heap} (h : WF T f args A (fun v B => v = r ∧ B = A')) : Runs T f args A r A' := by
  obtain ⟨k, v, B, h, rfl, rfl⟩ := h
  exact ⟨k, h⟩

theorem Runs.iff {r : AV} {A' : Heap} (h : Runs T f args A r A') : WF T f args A K ↔ K r A' := by
  obtain ⟨k, h⟩ := h
  exact WF_of h

theorem WC.mono {m : MC} {Q' : Ex → Fr → Heap → Prop} (h : WC T m Q fr A) (hq : ∀ ex fr A, Q ex fr A → Q' ex fr A) : WC T m Q' fr A := by
  obtain ⟨k, n, ex, fr', A', h, q⟩ := h
  exact ⟨k, n, ex, fr', A', h, hq _ _ _ q⟩

theorem WF.mono {K' : AV → Heap → Prop} (h : WF T f args A K) (hq : ∀ r A, K r A → K' r A) : WF T f args A K' := by
  obtain ⟨k, r, A', h, q⟩ := h
  exact ⟨k, r, A', h, hq _ _ q⟩

end
end Go.Ev
end

section
/- The evaluator once more, shaped so that the kernel computes it fast: by the recursors themselves. It answers as the other does. -/
set_option linter.unusedVariables false
set_option linter.unusedSimpArgs false
namespace Go.Ev

noncomputable section

def getX (fr : Fr) (n : Nat) : AV := @List.rec (Nat × AV) (fun _ => AV) .junk (fun p _ ih => @Bool.rec (fun _ => AV) ih p.2 (Nat.beq p.1 n)) fr

theorem getX_eq (fr : Fr) : getX fr = fr.get := by
  funext n
  induction fr with
  | nil => rfl
  | cons p r ih =>
    obtain ⟨m, v⟩ := p
    have e : getX ((m, v) :: r) n = @Bool.rec (fun _ => AV) (getX r n) v (Nat.beq m n) := rfl
    rw [e, ih]
    simp only [Fr.get]
    by_cases h : m = n
    · subst h; rw [if_pos rfl, Nat.beq_refl m]
    · rw [if_neg h]
      have : Nat.beq m n = false := by
        cases hb : Nat.beq m n with
        | false => rfl
        | true => exact absurd (Nat.eq_of_beq_eq_true hb) h
      rw [this]

def pruneX (live : List Nat) (fr : Fr) : Fr := @List.rec Nat (fun _ => Fr) [] (fun n _ ih => (n, getX fr n) :: ih) live

theorem pruneX_eq (live : List Nat) (fr : Fr) : pruneX live fr = prune live fr := by
  induction live with
  | nil => rfl
  | cons n r ih =>
    have e : pruneX (n :: r) fr = (n, getX fr n) :: pruneX r fr := rfl
    rw [e, ih, getX_eq]
    rfl

def nthX {α : Type} (xs : List α) : Nat → Option α := @List.rec α (fun _ => Nat → Option α) (fun _ => none) (fun x _ ih n => @Nat.rec (fun _ => Option α) (some x) (fun m _ => ih m) n) xs

theorem nthX_eq {α : Type} (xs : List α) : ∀ n, nthX xs n = xs[n]? := by
  induction xs with
  | nil => intro n; rfl
  | cons x r ih =>
    intro n
    cases n with
    | zero => rfl
    | succ n =>
      have e : nthX (x :: r) (n + 1) = nthX r n := rfl
      rw [e, ih, List.getElem?_cons_succ]

def setX {α : Type} (xs : List α) : Nat → α → List α := @List.rec α (fun _ => Nat → α → List α) (fun _ _ => []) (fun x r ih n v => @Nat.rec (fun _ => List α) (v :: r) (fun m _ => x :: ih m v) n) xs

theorem setX_eq {α : Type} (xs : List α) : ∀ n v, setX xs n v = xs.set n v := by
  induction xs with
  | nil => intro n v; rfl
  | cons x r ih =>
    intro n v
    cases n with
    | zero => rfl
    | succ n =>
      have e : setX (x :: r) (n + 1) v = x :: setX r n v := rfl
      rw [e, ih, List.set_cons_succ]

def lenX {α : Type} (xs : List α) : Nat := @List.rec α (fun _ => Nat) 0 (fun _ _ ih => Nat.succ ih) xs

theorem lenX_eq {α : Type} (xs : List α) : lenX xs = xs.length := by
  induction xs with
  | nil => rfl
  | cons x r ih =>
    have e : lenX (x :: r) = lenX r + 1 := rfl
    rw [e, ih]; rfl

/-! ### numbers -/

def wrap64 (n : Int) : Int := @Int.rec (fun _ => Int) (fun m => @Bool.rec (fun _ => Int) (IntKind.i64.wrap (Int.ofNat m)) (Int.ofNat m) (Nat.blt m 9223372036854775808))
  (fun m => @Bool.rec (fun _ => Int) (IntKind.i64.wrap (Int.negSucc m)) (Int.negSucc m) (Nat.blt m 9223372036854775808)) n

theorem wrap64_eq (n : Int) : wrap64 n = IntKind.i64.wrap n := by
  cases n with
  | ofNat m =>
    have e : wrap64 (Int.ofNat m) = @Bool.rec (fun _ => Int) (IntKind.i64.wrap (Int.ofNat m)) (Int.ofNat m) (Nat.blt m 9223372036854775808) := rfl
    rw [e]
    cases hb : Nat.blt m 9223372036854775808 with
    | false => rfl
    | true =>
      have h : m < 9223372036854775808 := Nat.le_of_ble_eq_true hb
      exact (IntWalk.i64_in _ (by constructor <;> simp <;> omega)).symm
  | negSucc m =>
    have e : wrap64 (Int.negSucc m) = @Bool.rec (fun _ => Int) (IntKind.i64.wrap (Int.negSucc m)) (Int.negSucc m) (Nat.blt m 9223372036854775808) := rfl
    rw [e]
    cases hb : Nat.blt m 9223372036854775808 with
    | false => rfl
    | true =>
      have h : m < 9223372036854775808 := Nat.le_of_ble_eq_true hb
      exact (IntWalk.i64_in (Int.negSucc m) (by omega)).symm

def ltX (a b : Int) : Bool := @Int.rec (fun _ => Bool) (fun m => @Int.rec (fun _ => Bool) (fun n => Nat.blt m n) (fun _ => false) b)
  (fun m => @Int.rec (fun _ => Bool) (fun _ => true) (fun n => Nat.blt n m) b) a

theorem ltX_eq (a b : Int) : ltX a b = decide (a < b) := by
  cases a <;> cases b <;> apply Bool.eq_iff_iff.2 <;> simp only [decide_eq_true_eq]
  · rename_i m n
    show Nat.blt m n = true ↔ _
    simp [Nat.blt]; omega
  · show false = true ↔ _
    simp; omega
  · show true = true ↔ _
    simp; omega
  · rename_i m n
    show Nat.blt n m = true ↔ _
    simp [Nat.blt]; omega

def eqX (a b : Int) : Bool := @Int.rec (fun _ => Bool) (fun m => @Int.rec (fun _ => Bool) (fun n => Nat.beq m n) (fun _ => false) b)
  (fun m => @Int.rec (fun _ => Bool) (fun _ => false) (fun n => Nat.beq n m) b) a

theorem eqX_eq (a b : Int) : eqX a b = decide (a = b) := by
  cases a <;> cases b <;> apply Bool.eq_iff_iff.2 <;> simp only [decide_eq_true_eq]
  · rename_i m n
    show Nat.beq m n = true ↔ _
    simp; omega
  · show false = true ↔ _
    simp
  · show false = true ↔ _
    simp
  · rename_i m n
    show Nat.beq n m = true ↔ _
    rw [Nat.beq_eq, Int.negSucc.injEq]
    exact eq_comm

/-- Numbers of Go's int. -/
def binI (op : BinOp) : Int → Int → Option AV := match op with
  | .add => fun a b => some (.int .i64 (wrap64 (a + b)))
  | .sub => fun a b => some (.int .i64 (wrap64 (a - b)))
  | .mul => fun a b => some (.int .i64 (wrap64 (a * b)))
  | .eql => fun a b => some (.bool (eqX a b))
  | .neq => fun a b => some (.bool (!eqX a b))
  | .lss => fun a b => some (.bool (ltX a b))
  | .leq => fun a b => some (.bool (!ltX b a))
  | .gtr => fun a b => some (.bool (ltX b a))
  | .geq => fun a b => some (.bool (!ltX a b))
  | .quo => intBin .quo .i64
  | .rem => intBin .rem .i64
  | .and => intBin .and .i64
  | .or => intBin .or .i64
  | .xor => intBin .xor .i64
  | .shl => fun a b => evBin .shl .other (.int .i64 a) (.int .i64 b)
  | .shr => fun a b => evBin .shr .other (.int .i64 a) (.int .i64 b)
  | .andNot => fun a b => evBin .andNot .other (.int .i64 a) (.int .i64 b)

theorem binI_eq (op : BinOp) (eq : EqI) (a b : Int) : binI op a b = evBin op eq (.int .i64 a) (.int .i64 b) := by
  have h1 : (!decide (b < a)) = decide (a ≤ b) := by
    apply Bool.eq_iff_iff.2; simp
  have h2 : (!decide (a < b)) = decide (b ≤ a) := by
    apply Bool.eq_iff_iff.2; simp
  cases op
  all_goals first
    | rfl
    | (show some (AV.int .i64 (wrap64 _)) = _; rw [wrap64_eq]; rfl)
    | (show some (AV.bool (eqX a b)) = _; rw [eqX_eq]; rfl)
    | (show some (AV.bool (!eqX a b)) = _; rw [eqX_eq]; rfl)
    | (show some (AV.bool (ltX a b)) = _; rw [ltX_eq]; rfl)
    | (show some (AV.bool (ltX b a)) = _; rw [ltX_eq]; rfl)
    | (show some (AV.bool (!ltX b a)) = _; rw [ltX_eq, h1]; rfl)
    | (show some (AV.bool (!ltX a b)) = _; rw [ltX_eq, h2]; rfl)

def isI64 (k : IntKind) : Bool := match k with
  | .i64 => true
  | _ => false

theorem isI64_eq {k : IntKind} (h : isI64 k = true) : k = .i64 := by cases k <;> first | rfl | cases h

def x_bin (op : BinOp) (eq : EqI) (x y : Opd) (g : Nat → AV) (A : Heap) : Option (AV × Heap) :=
  match x.ev g with
  | .int k a => match y.ev g with
    | .int k' b => match isI64 k with
      | true => match isI64 k' with
        | true => match binI op a b with
          | some v => some (v, A)
          | none => none
        | false => evM (.bin op eq (.c (.int k a)) (.c (.int k' b))) g A
      | false => evM (.bin op eq (.c (.int k a)) (.c (.int k' b))) g A
    | v => evM (.bin op eq (.c (.int k a)) (.c v)) g A
  | v => evM (.bin op eq (.c v) y) g A

theorem x_bin_eq (op : BinOp) (eq : EqI) (x y : Opd) (g : Nat → AV) (A : Heap) : x_bin op eq x y g A = evM (.bin op eq x y) g A := by
  have hc : ∀ (v : AV), (Opd.c v).ev g = v := fun _ => rfl
  unfold x_bin
  simp only [evM]
  split
  · rename_i k a hx
    rw [hx]
    split
    · rename_i k' b hy
      rw [hy]
      split
      · rename_i hk
        split
        · rename_i hk'
          rw [isI64_eq hk, isI64_eq hk', ← binI_eq op eq]
          rfl
        · simp only [evM, hc]
      · simp only [evM, hc]
    · simp only [evM, hc]
  · simp only [evM, hc]

/-! ### single operations -/

def x_mv (x : Opd) (g : Nat → AV) (A : Heap) : Option (AV × Heap) := some (x.ev g, A)
def x_pick (c a b : Opd) (g : Nat → AV) (A : Heap) : Option (AV × Heap) := match c.ev g with
  | .bool t => some (if t then a.ev g else b.ev g, A)
  | _ => none
def x_load (agg : Bool) (sz : Nat) (a : Opd) (g : Nat → AV) (A : Heap) : Option (AV × Heap) := match a.ev g with
  | .ptr id ver ix off => match nthX A id with
    | some b => if ver = lenX b.els then
        match nthX b.els ix with
        | some e => match loadFrom agg sz off (cellsOf e) with
          | some v => some (v, A)
          | none => none
        | none => none
      else none
    | none => none
  | .rp cs off => match loadFrom agg sz off cs with
    | some v => some (v, A)
    | none => none
  | _ => none
def storeP (A : Heap) (id : Nat) (b : Blk) (ix : Nat) (e : AV) : Option (AV × Heap) := some (.junk, setX A id ⟨b.ty, b.sz, setX b.els ix e⟩)
def scal (v : AV) : Bool := match v with
  | .junk | .tup _ | .agg _ => false
  | _ => true
def x_store (sz : Nat) (a x : Opd) (g : Nat → AV) (A : Heap) : Option (AV × Heap) := match a.ev g with
  | .ptr id ver ix off => match nthX A id with
    | some b => match nthX b.els ix with
      | some e => match Nat.beq ver (lenX b.els) with
        | true => match e with
          | .agg cs => match x.ev g with
            | .agg xs => match Nat.beq off 0 && (Nat.beq (lenX xs) sz && Nat.beq (lenX cs) sz) with
              | true => storeP A id b ix (.agg xs)
              | false => evM (.store sz a x) g A
            | v => match scal v && (Nat.beq sz 1 && Nat.blt off (lenX cs)) with
              | true => storeP A id b ix (.agg (setX cs off v))
              | false => evM (.store sz a x) g A
          | e => match scal e && (scal (x.ev g) && (Nat.beq sz 1 && Nat.beq off 0)) with
            | true => storeP A id b ix (x.ev g)
            | false => evM (.store sz a x) g A
        | false => none
      | none => none
    | none => none
  | _ => none

theorem scal_cells {v : AV} (h : scal v = true) : storable v = true ∧ cellsOf v = [v] ∧ (v matches .agg _) = false := by
  cases v <;> first
    | (cases h; done)
    | exact ⟨rfl, rfl, rfl⟩

theorem x_store_eq (sz : Nat) (a x : Opd) (g : Nat → AV) (A : Heap) : x_store sz a x g A = evM (.store sz a x) g A := by
  unfold x_store
  split
  · rename_i id ver ix off ha
    rw [nthX_eq]
    split
    · rename_i b hb
      rw [nthX_eq]
      split
      · rename_i e he
        split
        · rename_i hver
          have hver : ver = b.els.length := by rw [← lenX_eq]; exact Nat.eq_of_beq_eq_true hver
          split
          · rename_i cs
            split
            · rename_i xs hx
              split
              · rename_i hc
                simp only [Bool.and_eq_true, Nat.beq_eq, lenX_eq] at hc
                obtain ⟨h1, h2, h3⟩ := hc
                subst h1
                have : (cs.drop sz) = [] := List.drop_eq_nil_of_le (by omega)
                simp only [evM, ha, hb, he, hx, hver, storable, cellsOf, h2, h3, storeP, setX_eq, mkEl]
                simp [this]
              · rfl
            · rename_i hx
              split
              · rename_i hc
                simp only [Bool.and_eq_true, Nat.beq_eq, lenX_eq] at hc
                obtain ⟨h1, h2, h3⟩ := hc
                subst h2
                have h3 : off < cs.length := Nat.le_of_ble_eq_true h3
                obtain ⟨k1, k2, k3⟩ := scal_cells h1
                simp only [evM, ha, hb, he, hver, k1, k2, storeP, setX_eq, mkEl, cellsOf, List.length_cons, List.length_nil, true_and]
                have hset : cs.set off (x.ev g) = cs.take off ++ [x.ev g] ++ cs.drop (off + 1) := by
                  rw [List.set_eq_take_append_cons_drop, if_pos h3]; simp
                rw [if_pos (by omega), hset]
                rfl
              · rfl
          · rename_i hne
            split
            · rename_i hc
              simp only [Bool.and_eq_true, Nat.beq_eq] at hc
              obtain ⟨h0, h1, h2, h3⟩ := hc
              subst h2 h3
              obtain ⟨k1, k2, k3⟩ := scal_cells h1
              obtain ⟨j1, j2, j3⟩ := scal_cells h0
              simp only [evM, ha, hb, he, hver, k1, k2, j2, storeP, setX_eq, List.length_cons, List.length_nil, true_and]
              simp only [mkEl, j3]
              simp
            · rfl
        · rename_i hver
          have hver : ¬ ver = b.els.length := by
            rw [← lenX_eq]
            intro h
            rw [h, Nat.beq_refl] at hver
            cases hver
          simp only [evM, ha, hb, he, hver, false_and, if_false]
      · rename_i he
        simp only [evM, ha, hb, he]
    · rename_i hb
      simp only [evM, ha, hb]
  · rename_i ha
    simp only [evM]
    try (split <;> first | rfl | (rename_i h; exact absurd h (ha _ _ _ _)))

def x_un (op : UnOp) (x : Opd) (g : Nat → AV) (A : Heap) : Option (AV × Heap) := match evUn op (x.ev g) with
  | some v => some (v, A)
  | none => none
def x_cvt (k : IntKind) (x : Opd) (g : Nat → AV) (A : Heap) : Option (AV × Heap) := match x.ev g with
  | .int _ n => some (.int k (k.wrap n), A)
  | _ => none
def x_faddr (off : Nat) (x : Opd) (g : Nat → AV) (A : Heap) : Option (AV × Heap) := match x.ev g with
  | .ptr id ver ix o => some (.ptr id ver ix (o + off), A)
  | .rp cs o => some (.rp cs (o + off), A)
  | _ => none
def x_fld (agg : Bool) (off sz : Nat) (x : Opd) (g : Nat → AV) (A : Heap) : Option (AV × Heap) := match x.ev g with
  | .agg cs => match loadFrom agg sz off cs with
    | some v => some (v, A)
    | none => none
  | _ => none
def x_iaddr (sz : Nat) (x i : Opd) (g : Nat → AV) (A : Heap) : Option (AV × Heap) := match i.ev g with
  | .int _ n => match x.ev g with
    | .sl id s ver off len => if s = sz ∧ 0 ≤ n ∧ n < len then some (.ptr id ver (off + n.toNat) 0, A) else none
    | .lst _ s _ xs => if 0 ≤ n then
        match nthX xs n.toNat with
        | some e => if s = sz then some (.rp (cellsOf e) 0, A) else none
        | none => none
      else none
    | _ => none
  | _ => none
def x_ext (i : Nat) (x : Opd) (g : Nat → AV) (A : Heap) : Option (AV × Heap) := match x.ev g with
  | .tup vs => match nthX vs i with
    | some v => some (v, A)
    | none => none
  | _ => none
def x_len (str : Bool) (x : Opd) (g : Nat → AV) (A : Heap) : Option (AV × Heap) := match x.ev g with
  | .lst _ _ _ xs => if str then none else some (.int .i64 (lenX xs), A)
  | .str s => if str then some (.int .i64 (lenX s), A) else none
  | .sl _ _ _ _ len => if str then none else some (.int .i64 len, A)
  | _ => none

/-- By the kind of the operation; calls apart. -/
def evMX (m : MK) : (Nat → AV) → Heap → Option (AV × Heap) := match m with
  | .mv x => x_mv x
  | .pick c a b => x_pick c a b
  | .alloc ty sz z => evM (.alloc ty sz z)
  | .box ty sz x => evM (.box ty sz x)
  | .rbox sz x => evM (.rbox sz x)
  | .build a b => evM (.build a b)
  | .bsl a b c d => evM (.bsl a b c d)
  | .rbsl a b c => evM (.rbsl a b c)
  | .load agg sz a => x_load agg sz a
  | .store sz a x => x_store sz a x
  | .nilchk x => evM (.nilchk x)
  | .bin op eq x y => x_bin op eq x y
  | .un op x => x_un op x
  | .cvt k x => x_cvt k x
  | .faddr off x => x_faddr off x
  | .fld a b c x => x_fld a b c x
  | .iaddr sz x i => x_iaddr sz x i
  | .iaddrA a b c d => evM (.iaddrA a b c d)
  | .idxS a b => evM (.idxS a b)
  | .idxA a b c d e => evM (.idxA a b c d e)
  | .slc a b c d e => evM (.slc a b c d e)
  | .slcx a b c d => evM (.slcx a b c d)
  | .slcS a b c => evM (.slcS a b c)
  | .slcA a b c d e => evM (.slcA a b c d e)
  | .ext i x => x_ext i x
  | .mkfn a b c => evM (.mkfn a b c)
  | .mksl a b c d e f => evM (.mksl a b c d e f)
  | .mkif a b => evM (.mkif a b)
  | .len s x => x_len s x
  | .append a b c d e f => evM (.append a b c d e f)
  | .copy a b c => evM (.copy a b c)
  | .clear a b c => evM (.clear a b c)
  | .mm a b => evM (.mm a b)
  | .call a b c => fun _ _ => none
  | .bad => fun _ _ => none

theorem evMX_eq (m : MK) (g : Nat → AV) (A : Heap) : evMX m g A = evM m g A := by
  cases m <;> first
    | rfl
    | (exact x_bin_eq _ _ _ _ g A)
    | (exact x_store_eq _ _ _ g A)
    | (simp only [evMX, x_load, x_iaddr, x_ext, x_len, evM, nthX_eq, setX_eq, lenX_eq]; done)
    | (simp only [evMX, x_load, x_iaddr, x_ext, x_len, evM, nthX_eq, setX_eq, lenX_eq]; rfl)

/-! ### calls, regions, code -/

def mapX {α β : Type} (f : α → Option β) (xs : List α) : Option (List β) := @List.rec α (fun _ => Option (List β)) (some []) (fun x _ ih => match f x with
  | some y => match ih with
    | some ys => some (y :: ys)
    | none => none
  | none => none) xs

theorem mapX_eq {α β : Type} (f : α → Option β) (xs : List α) : mapX f xs = mapO f xs := by
  induction xs with
  | nil => rfl
  | cons x r ih =>
    have e : mapX f (x :: r) = match f x with
      | some y => match mapX f r with
        | some ys => some (y :: ys)
        | none => none
      | none => none := rfl
    rw [e, ih]
    rfl

/-- A value lent: plain ones at once. -/
def lendX (A : Heap) (v : AV) : Option AV := match v with
  | .int k n => some (.int k n)
  | .bool b => some (.bool b)
  | v => borrow A depth v

theorem lendX_eq (A : Heap) (v : AV) : lendX A v = borrow A depth v := by cases v <;> rfl

def backX (A : Heap) (v : AV) : Option AV := match v with
  | .int k n => some (.int k n)
  | .bool b => some (.bool b)
  | v => giveBackT A depth v

theorem backX_eq (A : Heap) (v : AV) : backX A v = giveBackT A depth v := by cases v <;> rfl

theorem lendX_fun (A : Heap) : lendX A = borrow A depth := funext (lendX_eq A)

def doCallX (call : CallF) (k : CK) (f : FuncId) (args : List AV) (A : Heap) : Option (AV × Heap) :=
  match k with
  | .inl => call f args A
  | .ro => match mapX (lendX A) args with
    | some args' => match call f args' [] with
      | some (v, A1) => match backX A1 v with
        | some r => some (r, A)
        | none => none
      | none => none
    | none => none
  | .own => doCall call .own f args A

theorem doCallX_eq (call : CallF) (k : CK) (f : FuncId) (args : List AV) (A : Heap) : doCallX call k f args A = doCall call k f args A := by
  cases k with
  | ro => simp only [doCallX, doCall, mapX_eq, lendX_fun, backX_eq]; rfl
  | _ => rfl

def x_call (call : CallF) (k : CK) (f : Opd) (args : List Opd) (g : Nat → AV) (A : Heap) : Option (AV × Heap) := match f.ev g with
  | .fn f first caps => doCallX call k f (first ++ args.map (·.ev g) ++ caps) A
  | _ => none

/-- One operation that is wanted. -/
def opX (call : CallF) (m : MK) : Option (Nat × Bool) → (Nat → AV) → Heap → Option (AV × Heap) := match m with
  | .call k f args => fun _ => x_call call k f args
  | .append ty sz bytes s x away => fun gd g A => if chk ⟨none, gd, .append ty sz bytes s x away⟩ g then evM (.append ty sz bytes s x away) g A else none
  | m => fun _ => evMX m

def evOpX (call : CallF) (o : MOp) (fr : Fr) (A : Heap) : Option (Fr × Heap) :=
  match guardOk (getX fr) o.guard with
  | some true => match opX call o.k o.guard (getX fr) A with
    | some (v, A') => some (putd o.dst v fr, A')
    | none => none
  | some false => some (putd o.dst (.tup []) fr, A)
  | none => none

theorem evOpX_eq (call : CallF) (o : MOp) (fr : Fr) (A : Heap) : (∃ r, evOpX call o fr A = some r) → evOpX call o fr A = evOp call o fr A := by
  rintro ⟨r, h⟩
  unfold evOpX at h ⊢
  unfold evOp evU evV
  rw [getX_eq] at h ⊢
  obtain ⟨d, gd, k⟩ := o
  simp only at h ⊢
  have hchk : ∀ (k : MK), (∀ ty sz bytes s x away, k ≠ .append ty sz bytes s x away) → chk ⟨d, gd, k⟩ fr.get = true := by
    intro k hk
    cases k <;> first
      | rfl
      | exact absurd rfl (hk _ _ _ _ _ _)
  cases k with
  | append ty sz bytes s x away =>
    simp only [opX] at h ⊢
    have hc : chk ⟨d, gd, .append ty sz bytes s x away⟩ fr.get = chk ⟨none, gd, .append ty sz bytes s x away⟩ fr.get := rfl
    rw [hc]
    split at h <;> rename_i hg
    · by_cases hk : chk ⟨none, gd, .append ty sz bytes s x away⟩ fr.get = true
      · simp only [hk, if_true, hg]
        rfl
      · rw [if_neg hk] at h
        cases h
    · have : chk ⟨none, gd, .append ty sz bytes s x away⟩ fr.get = true := by simp [chk, hg]
      simp only [this, if_true, hg]
    · cases h
  | call c f args =>
    rw [hchk _ (by intros; exact fun h => by cases h)]
    simp only [opX, x_call, evK, doCallX_eq, if_true]
    cases guardOk fr.get gd with
    | none => rfl
    | some b => cases b <;> rfl
  | _ =>
    rw [hchk _ (by intros; exact fun h => by cases h)]
    simp only [opX, evMX_eq, evK, if_true]
    cases guardOk fr.get gd with
    | none => rfl
    | some b => cases b <;> rfl

def evOpsX (call : CallF) (os : List MOp) : Fr → Heap → Option (Fr × Heap) :=
  @List.rec MOp (fun _ => Fr → Heap → Option (Fr × Heap)) (fun fr A => some (fr, A)) (fun o _ ih fr A => match evOpX call o fr A with
    | some (fr', A') => ih fr' A'
    | none => none) os

theorem evOpsX_some (call : CallF) {os : List MOp} : ∀ {fr : Fr} {A : Heap} {r : Fr × Heap}, evOpsX call os fr A = some r → evOps call os fr A = some r := by
  induction os with
  | nil => intro fr A r h; exact h
  | cons o os ih =>
    intro fr A r h
    have e : evOpsX call (o :: os) fr A = match evOpX call o fr A with
      | some (fr', A') => evOpsX call os fr' A'
      | none => none := rfl
    rw [e] at h
    simp only [evOps]
    rw [← evOpX_eq call o fr A (by
      cases hx : evOpX call o fr A with
      | none => rw [hx] at h; cases h
      | some p => exact ⟨p, rfl⟩)]
    split at h
    · rename_i fr' A' h1
      rw [h1]
      exact ih h
    · cases h

def loopX (body : Fr → Heap → Outc) (n : Nat) : Fr → Heap → Outc := @Nat.rec (fun _ => Fr → Heap → Outc) (fun _ _ => none) (fun _ ih fr A => match body fr A with
  | some (.norm, fr', A') => ih fr' A'
  | r => r) n

def evCX (call : CallF) (n : Nat) (m : MC) : Fr → Heap → Outc :=
  @MC.rec (fun _ => Fr → Heap → Outc)
    (fun fr A => some (.norm, fr, A))
    (fun ops live fr A => match evOpsX call ops fr A with
      | some (fr', A') => some (.norm, pruneX live fr', A')
      | none => none)
    (fun _ _ a b fr A => match a fr A with
      | some (.norm, fr', A') => b fr' A'
      | r => r)
    (fun c _ _ a b fr A => match c.ev (getX fr) with
      | .bool t => @Bool.rec (fun _ => Outc) (b fr A) (a fr A) t
      | _ => none)
    (fun id _ c fr A => match c fr A with
      | some (.exit id', fr', A') => if id' = id then some (.norm, fr', A') else some (.exit id', fr', A')
      | r => r)
    (fun _ c fr A => loopX c n fr A)
    (fun id fr A => some (.exit id, fr, A))
    (fun fr A => some (.ret, fr, A)) m

theorem evCX_some (call : CallF) {n : Nat} {m : MC} : ∀ {fr : Fr} {A : Heap} {r : Ex × Fr × Heap}, evCX call n m fr A = some r → evC call n m fr A = some r := by
  induction m with
  | skip => intro fr A r h; exact h
  | reg ops live =>
    intro fr A r h
    have e : evCX call n (.reg ops live) fr A = match evOpsX call ops fr A with
      | some (fr', A') => some (.norm, pruneX live fr', A')
      | none => none := rfl
    rw [e] at h
    simp only [evC]
    split at h
    · rename_i fr' A' h1
      rw [pruneX_eq] at h
      rw [evOpsX_some call h1]
      exact h
    · cases h
  | seq a b iha ihb =>
    intro fr A r h
    have e : evCX call n (.seq a b) fr A = match evCX call n a fr A with
      | some (.norm, fr', A') => evCX call n b fr' A'
      | r => r := rfl
    rw [e] at h
    simp only [evC]
    split at h
    · rename_i h1; rw [iha h1]; exact ihb h
    · rename_i hne
      rw [iha h]
      obtain ⟨ex, fr1, A1⟩ := r
      cases ex with
      | norm => exact absurd h (hne _ _)
      | _ => rfl
  | cond c a b iha ihb =>
    intro fr A r h
    have e : evCX call n (.cond c a b) fr A = match c.ev (getX fr) with
      | .bool t => @Bool.rec (fun _ => Outc) (evCX call n b fr A) (evCX call n a fr A) t
      | _ => none := rfl
    rw [e, getX_eq] at h
    simp only [evC]
    split at h
    · rename_i t ht
      rw [ht]
      cases t with
      | true => exact iha h
      | false => exact ihb h
    · cases h
  | block id c ih =>
    intro fr A r h
    have e : evCX call n (.block id c) fr A = match evCX call n c fr A with
      | some (.exit id', fr', A') => if id' = id then some (.norm, fr', A') else some (.exit id', fr', A')
      | r => r := rfl
    rw [e] at h
    simp only [evC]
    split at h
    · rename_i h1; rw [ih h1]; exact h
    · rename_i hne
      rw [ih h]
      obtain ⟨ex, fr1, A1⟩ := r
      cases ex with
      | exit id => exact absurd h (hne _ _ _)
      | _ => rfl
  | loop c ih =>
    intro fr A r h
    have e : evCX call n (.loop c) fr A = loopX (evCX call n c) n fr A := rfl
    rw [e] at h
    simp only [evC]
    have key : ∀ (k : Nat) {fr : Fr} {A : Heap} {r : Ex × Fr × Heap}, loopX (evCX call n c) k fr A = some r → loopN (evC call n c) k fr A = some r := by
      intro k
      induction k with
      | zero => intro fr A r h; cases h
      | succ k ihk =>
        intro fr A r h
        have e : loopX (evCX call n c) (k + 1) fr A = match evCX call n c fr A with
          | some (.norm, fr', A') => loopX (evCX call n c) k fr' A'
          | r => r := rfl
        rw [e] at h
        simp only [loopN]
        split at h
        · rename_i h1; rw [ih h1]; exact ihk h
        · rename_i hne
          rw [ih h]
          obtain ⟨ex, fr1, A1⟩ := r
          cases ex with
          | norm => exact absurd h (hne _ _)
          | _ => rfl
    exact key n h
  | exit id => intro fr A r h; exact h
  | ret => intro fr A r h; exact h

theorem evRes_congr {fr fr2 : Fr} (h : fr.get = fr2.get) (A : Heap) : evRes fr A = evRes fr2 A := by
  funext r
  cases r <;> simp only [evRes, h]

def runX (call : CallF) (n : Nat) (f : MFunc) (args : List AV) (A : Heap) : Option (AV × Heap) :=
  match evCX call n f.body (params 0 args) A with
  | some (.norm, fr, A') => match mapX (evRes fr A') f.res with
    | some vs => some (one vs, A')
    | none => none
  | some (.ret, fr, A') => match mapX (evRes fr A') f.res with
    | some vs => some (one vs, A')
    | none => none
  | _ => none

theorem runX_some (call : CallF) {n : Nat} {f : MFunc} {args : List AV} {A : Heap} {r : AV × Heap} (h : runX call n f args A = some r) : runBody call n f args A = some r := by
  unfold runX at h
  unfold runBody
  split at h
  · rename_i h1; rw [mapX_eq] at h; rw [evCX_some call h1]; exact h
  · rename_i h1; rw [mapX_eq] at h; rw [evCX_some call h1]; exact h
  · cases h

def evFX (T : Tab) (n : Nat) (k : Nat) : CallF := @Nat.rec (fun _ => CallF) (fun _ _ _ => none) (fun _ ih f args A => match T f with
  | some (.code m) => runX ih n m args A
  | some (.ext spec) => match mapO (borrow A depth) args with
    | some args' => match spec args' with
      | some r => if permT r then some (r, A) else none
      | none => none
    | none => none
  | none => none) k

theorem evFX_le (T : Tab) (n : Nat) : ∀ k, CLe (evFX T n k) (evF T (n + k)) := by
  intro k
  induction k with
  | zero => intro a b c r h; cases h
  | succ k ih =>
    intro f args A r h
    have e : evFX T n (k + 1) f args A = match T f with
      | some (.code m) => runX (evFX T n k) n m args A
      | some (.ext spec) => match mapO (borrow A depth) args with
        | some args' => match spec args' with
          | some r => if permT r then some (r, A) else none
          | none => none
        | none => none
      | none => none := rfl
    rw [e] at h
    rw [show n + (k + 1) = (n + k) + 1 from rfl, evF_succ]
    cases hT : T f with
    | none => rw [hT] at h; cases h
    | some en =>
      rw [hT] at h
      cases en with
      | code m => exact runBody_mono ih (Nat.le_add_right _ _) (runX_some _ h)
      | ext spec => exact h

theorem Runs.ofX {T : Tab} {n k : Nat} {f : FuncId} {args : List AV} {A A' : Heap} {r : AV} (h : evFX T n k f args A = some (r, A')) : Runs T f args A r A' :=
  ⟨n + k, evFX_le T n k _ _ _ _ h⟩

end
end Go.Ev
end

section
/- Rules for rewriting a run step by step. -/
set_option linter.unusedVariables false
namespace Go.Ev

section
variable {A : Heap} {d : Nat}
theorem bo_int {k : IntKind} {n : Int} : borrow A (d + 1) (.int k n) = some (.int k n) := rfl
theorem bo_bool {b : Bool} : borrow A (d + 1) (.bool b) = some (.bool b) := rfl
theorem bo_str {s : List UInt8} : borrow A (d + 1) (.str s) = some (.str s) := rfl
theorem bo_nilp : borrow A (d + 1) .nilp = some .nilp := rfl
theorem bo_nilf : borrow A (d + 1) .nilf = some .nilf := rfl
theorem bo_nili : borrow A (d + 1) .nili = some .nili := rfl
theorem bo_lst {sz : Nat} {nil : Bool} {xs : List AV} : borrow A (d + 1) (.lst true sz nil xs) = some (.lst true sz nil xs) := rfl
theorem bo_lstF {sz : Nat} {nil : Bool} {xs ys : List AV} (h : mapO (borrow A d) xs = some ys) : borrow A (d + 1) (.lst false sz nil xs) = some (.lst false sz nil ys) := by simp [borrow, h]
theorem bo_agg {xs : List AV} : borrow A (d + 1) (.agg xs) = match mapO (borrow A d) xs with
  | some ys => some (.agg ys)
  | none => none := rfl
theorem bo_iface {t : TypeId} {x : AV} : borrow A (d + 1) (.iface t x) = match borrow A d x with
  | some y => some (.iface t y)
  | none => none := rfl
theorem bo_rp {cs : List AV} {off : Nat} : borrow A (d + 1) (.rp cs off) = match mapO (borrow A d) cs with
  | some ys => some (.rp ys off)
  | none => none := rfl
theorem bo_fn {f : FuncId} {a b : List AV} : borrow A (d + 1) (.fn f a b) = match mapO (borrow A d) a, mapO (borrow A d) b with
  | some a', some b' => some (.fn f a' b')
  | _, _ => none := rfl

theorem gb_int {k : IntKind} {n : Int} : giveBack A (d + 1) (.int k n) = some (.int k n) := rfl
theorem gb_bool {b : Bool} : giveBack A (d + 1) (.bool b) = some (.bool b) := rfl
theorem gb_str {s : List UInt8} : giveBack A (d + 1) (.str s) = some (.str s) := rfl
theorem gb_nilp : giveBack A (d + 1) .nilp = some .nilp := rfl
theorem gb_nilf : giveBack A (d + 1) .nilf = some .nilf := rfl
theorem gb_nili : giveBack A (d + 1) .nili = some .nili := rfl
theorem gb_lst {sz : Nat} {nil : Bool} {xs : List AV} : giveBack A (d + 1) (.lst true sz nil xs) = some (.lst true sz nil xs) := rfl
theorem gb_agg {xs : List AV} : giveBack A (d + 1) (.agg xs) = match mapO (giveBack A d) xs with
  | some ys => some (.agg ys)
  | none => none := rfl
theorem gt_int {k : IntKind} {n : Int} : giveBackT A (d + 1) (.int k n) = some (.int k n) := rfl
theorem gt_bool {b : Bool} : giveBackT A (d + 1) (.bool b) = some (.bool b) := rfl
theorem gt_str {s : List UInt8} : giveBackT A (d + 1) (.str s) = some (.str s) := rfl
theorem gt_nilp : giveBackT A (d + 1) .nilp = some .nilp := rfl
theorem gt_lst {sz : Nat} {nil : Bool} {xs : List AV} : giveBackT A (d + 1) (.lst true sz nil xs) = some (.lst true sz nil xs) := rfl
theorem gt_sl {id sz ver off len : Nat} : giveBackT A d (.sl id sz ver off len) = giveBack A d (.sl id sz ver off len) := rfl
theorem gt_agg {xs : List AV} : giveBackT A d (.agg xs) = giveBack A d (.agg xs) := rfl
theorem gt_tup {xs : List AV} : giveBackT A d (.tup xs) = match mapO (giveBack A d) xs with
  | some ys => some (.tup ys)
  | none => none := rfl

variable {n : Nat}
theorem em_int {k : IntKind} {m : Int} : embed n (d + 1) (.int k m) = some (.int k m) := rfl
theorem em_bool {b : Bool} : embed n (d + 1) (.bool b) = some (.bool b) := rfl
theorem em_str {s : List UInt8} : embed n (d + 1) (.str s) = some (.str s) := rfl
theorem em_nilp : embed n (d + 1) .nilp = some .nilp := rfl
theorem em_nili : embed n (d + 1) .nili = some .nili := rfl
theorem em_lst {sz : Nat} {nil : Bool} {xs : List AV} : embed n (d + 1) (.lst true sz nil xs) = some (.lst true sz nil xs) := rfl
theorem em_lstF {sz : Nat} {nil : Bool} {xs : List AV} : embed n (d + 1) (.lst false sz nil xs) = some .junk := rfl
theorem em_sl {id sz ver off len : Nat} : embed n (d + 1) (.sl id sz ver off len) = some (.sl (id + n) sz ver off len) := rfl
theorem em_ptr {id ver ix off : Nat} : embed n (d + 1) (.ptr id ver ix off) = some (.ptr (id + n) ver ix off) := rfl
theorem em_rp {cs : List AV} {off : Nat} : embed n (d + 1) (.rp cs off) = some .junk := rfl
theorem em_fn {f : FuncId} {a b : List AV} : embed n (d + 1) (.fn f a b) = some .junk := rfl
theorem em_agg {xs : List AV} : embed n (d + 1) (.agg xs) = match mapO (embed n d) xs with
  | some ys => some (.agg ys)
  | none => none := rfl
theorem em_tup {xs : List AV} : embed n (d + 1) (.tup xs) = match mapO (embed n d) xs with
  | some ys => some (.tup ys)
  | none => none := rfl
theorem gb_sl {id sz ver off len : Nat} {b : Blk} (hb : A[id]? = some b) (hv : ver = b.els.length) (hl : off + len ≤ ver) {ys : List AV} (hy : mapO (giveBack A d) ((b.els.drop off).take len) = some ys) :
    giveBack A (d + 1) (.sl id sz ver off len) = some (.lst true sz false ys) := by
  simp [giveBack, hb, hv, hy]
  omega
theorem bo_sl {id sz ver off len : Nat} {b : Blk} (hb : A[id]? = some b) (hv : ver = b.els.length) (hl : off + len ≤ ver) {ys : List AV} (hy : mapO (borrow A d) ((b.els.drop off).take len) = some ys) :
    borrow A (d + 1) (.sl id sz ver off len) = some (.lst false sz false ys) := by
  simp [borrow, hb, hv, hy]
  omega

theorem mapO_nil {α β : Type} {f : α → Option β} : mapO f [] = some [] := rfl
theorem mapO_cons {α β : Type} {f : α → Option β} {x : α} {r : List α} {y : β} {ys : List β} (h : f x = some y) (hr : mapO f r = some ys) : mapO f (x :: r) = some (y :: ys) := by simp [mapO, h, hr]
theorem mapO_id {α : Type} {f : α → Option α} {xs : List α} (h : ∀ x ∈ xs, f x = some x) : mapO f xs = some xs := by
  induction xs with
  | nil => rfl
  | cons x r ih => exact mapO_cons (h x (by simp)) (ih fun y hy => h y (by simp [hy]))

theorem depth_is : depth = 7 + 1 := rfl
theorem toNat_cast (n : Nat) : (n : Int).toNat = n := rfl
theorem cast_nonneg (n : Nat) : (0 ≤ (n : Int)) = True := eq_true (Int.natCast_nonneg n)
end
end Go.Ev
end
