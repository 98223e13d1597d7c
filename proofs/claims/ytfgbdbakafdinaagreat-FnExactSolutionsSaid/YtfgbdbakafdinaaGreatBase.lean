import Derived.Test.YtfgbdbakafdinaaGreatDeepThird
import Derived.Test.YtfgbdbakafdinaaGreatDeepSecond
import Derived.KernelRfl

section
/- Squares, cuts and clues as plain data, and what stands for them. -/
namespace Go.Ev.Z
open Go Go.Ev

structure Sq where
  x : Int
  y : Int
  d : Int
  deriving DecidableEq, Inhabited
structure Ct where
  w : Int
  h : Int
  sq : List Sq
  deriving DecidableEq, Inhabited

abbrev avI (n : Int) : AV := .int .i64 n
def avS (s : Sq) : AV := .agg [.int .i64 s.x, .int .i64 s.y, .int .i64 s.d]
def avT (p nil : Bool) (c : Ct) : AV := .agg [.int .i64 c.w, .int .i64 c.h, .lst p 3 nil (c.sq.map avS)]
theorem bo_avS (A : Heap) (d : Nat) (xs : List Sq) : mapO (borrow A (d + 2)) (xs.map avS) = some (xs.map avS) := bo_map (fun _ => rfl) xs
theorem gb_avS (A : Heap) (d : Nat) (xs : List Sq) : mapO (giveBack A (d + 2)) (xs.map avS) = some (xs.map avS) := gb_map (fun _ => rfl) xs
theorem em_avS (n d : Nat) (xs : List Sq) : mapO (embed n (d + 2)) (xs.map avS) = some (xs.map avS) := em_map (fun _ => rfl) xs
theorem bo_lS (A : Heap) (d : Nat) (p nil : Bool) (sz : Nat) (xs : List Sq) : borrow A (d + 3) (.lst p sz nil (xs.map avS)) = some (.lst p sz nil (xs.map avS)) := bo_lst_id (bo_avS A d xs)
theorem avS_def (s : Sq) : avS s = .agg [.int .i64 s.x, .int .i64 s.y, .int .i64 s.d] := rfl

/-- Two squares have a common cell. -/
def lapP (a b : Sq) : Bool := decide (a.x < b.x + b.d) && decide (b.x < a.x + a.d) && decide (a.y < b.y + b.d) && decide (b.y < a.y + a.d)
/-- the same in Go's numbers -/
def lapW (a b : Sq) : Bool := decide (a.x < IntKind.i64.wrap (b.x + b.d)) && decide (b.x < IntKind.i64.wrap (a.x + a.d)) && decide (a.y < IntKind.i64.wrap (b.y + b.d)) && decide (b.y < IntKind.i64.wrap (a.y + a.d))
def lessP (a b : Sq) : Bool := decide (a.y < b.y) || decide (a.y = b.y) && decide (a.x < b.x)
def inP (n lo hi : Int) : Bool := decide (lo ≤ n) && decide (n ≤ hi)

/-- how many there are, as a number -/
def cnt {α : Type} (f : α → Bool) : List α → Int
  | [] => 0
  | s :: r => (if f s = true then 1 else 0) + cnt f r
theorem cnt_nn {α : Type} (f : α → Bool) (l : List α) : 0 ≤ cnt f l ∧ cnt f l ≤ l.length := by
  induction l with
  | nil => simp [cnt]
  | cons s r ih => simp only [cnt, List.length_cons]; split <;> omega
theorem cnt_drop {α : Type} (f : α → Bool) (l : List α) (i : Nat) (h : i < l.length) : cnt f (l.drop i) = (if f l[i] = true then 1 else 0) + cnt f (l.drop (i + 1)) := by
  rw [List.drop_eq_getElem_cons h]; rfl
theorem cnt_end {α : Type} (f : α → Bool) (l : List α) (i : Nat) (h : ¬ i < l.length) : cnt f (l.drop i) = 0 := by
  rw [List.drop_eq_nil_of_le (by omega)]; rfl

/-- A square whose numbers are small. -/
def Bd (s : Sq) : Prop := (0 ≤ s.x ∧ s.x ≤ 1000) ∧ (0 ≤ s.y ∧ s.y ≤ 1000) ∧ (0 ≤ s.d ∧ s.d ≤ 1000)
def Bds (l : List Sq) : Prop := l.length ≤ 1000 ∧ ∀ s ∈ l, Bd s
theorem Bds.at {l : List Sq} (h : Bds l) (i : Nat) (hi : i < l.length) : (0 ≤ l[i].x ∧ l[i].x ≤ 1000) ∧ (0 ≤ l[i].y ∧ l[i].y ≤ 1000) ∧ (0 ≤ l[i].d ∧ l[i].d ≤ 1000) := h.2 _ (List.getElem_mem hi)
/-- a corner at a place -/
def cornP (x y : Int) (s : Sq) : Bool := (decide (x = s.x) || decide (x = s.x + s.d)) && (decide (y = s.y) || decide (y = s.y + s.d))

def areaP : List Sq → Int
  | [] => 0
  | s :: r => s.d * s.d + areaP r
def okP (w h : Int) (s : Sq) : Bool := inP s.d 1 500 && inP s.x 0 (w - s.d) && inP s.y 0 (h - s.d)
/-- a square stands well behind those before it -/
def preP (pre : List Sq) (s : Sq) : Bool := pre.all (fun q => !lapP s q) && (match pre.getLast? with
  | some q => lessP q s
  | none => true)
def okAt (w h : Int) (sq : List Sq) (i : Nat) : Bool := match sq[i]? with
  | some s => okP w h s && preP (sq.take i) s
  | none => true
def goodP (w h : Int) (sq : List Sq) : Bool := inP w 1 500 && inP h 1 500 && inP sq.length 1 30 && (List.range sq.length).all (okAt w h sq) && decide (areaP sq = w * h)

theorem areaP_drop (l : List Sq) (i : Nat) (h : i < l.length) : areaP (l.drop i) = l[i].d * l[i].d + areaP (l.drop (i + 1)) := by
  rw [List.drop_eq_getElem_cons h]; rfl
theorem areaP_end (l : List Sq) (i : Nat) (h : ¬ i < l.length) : areaP (l.drop i) = 0 := by
  rw [List.drop_eq_nil_of_le (by omega)]; rfl
theorem okAt_eq {w h : Int} {sq : List Sq} {i : Nat} (hi : i < sq.length) : okAt w h sq i = (okP w h sq[i] && preP (sq.take i) sq[i]) := by
  simp [okAt, hi]
theorem good_false {w h : Int} {sq : List Sq} (i : Nat) (hi : i < sq.length) (ho : okAt w h sq i = false) : goodP w h sq = false := by
  have : (List.range sq.length).all (okAt w h sq) = false := by
    rw [List.all_eq_false]
    exact ⟨i, List.mem_range.2 hi, by simp [ho]⟩
  simp [goodP, this]
theorem good_end {w h : Int} {sq : List Sq} (h1 : (inP w 1 500 && inP h 1 500 && inP sq.length 1 30) = true) (ho : ∀ j, j < sq.length → okAt w h sq j = true) : goodP w h sq = decide (areaP sq = w * h) := by
  have : (List.range sq.length).all (okAt w h sq) = true := by
    rw [List.all_eq_true]
    intro i hi
    exact ho i (List.mem_range.1 hi)
  simp only [Bool.and_eq_true] at h1
  simp [goodP, this, h1]
theorem preP_lap {pre : List Sq} {s : Sq} (j : Nat) (hj : j < pre.length) (hl : lapP s pre[j] = true) : preP pre s = false := by
  have : pre.all (fun q => !lapP s q) = false := by
    rw [List.all_eq_false]
    exact ⟨pre[j], List.getElem_mem hj, by simp [hl]⟩
  simp [preP, this]
theorem preP_less {pre : List Sq} {s : Sq} (j : Nat) (hj : j < pre.length) (hl : j + 1 = pre.length) (h : lessP pre[j] s = false) : preP pre s = false := by
  have : pre.getLast? = some pre[j] := by
    rw [List.getLast?_eq_getElem?, List.getElem?_eq_getElem (by omega)]
    congr 2; omega
  simp [preP, this, h]
theorem preP_end {pre : List Sq} {s : Sq} (h : ∀ j, (hj : j < pre.length) → lapP s pre[j] = false ∧ (j + 1 = pre.length → lessP pre[j] s = true)) : preP pre s = true := by
  have h1 : pre.all (fun q => !lapP s q) = true := by
    rw [List.all_eq_true]
    intro q hq
    obtain ⟨j, hj, rfl⟩ := List.getElem_of_mem hq
    simp [(h j hj).1]
  simp only [preP, h1, Bool.true_and]
  cases hg : pre.getLast? with
  | none => rfl
  | some q =>
    rw [List.getLast?_eq_getElem?] at hg
    obtain ⟨hlt, rfl⟩ := List.getElem?_eq_some_iff.1 hg
    exact (h _ hlt).2 (by omega)

def idxP (f : Sq → Bool) : List Sq → Nat → Option Nat
  | [], _ => none
  | s :: r, k => if f s = true then some k else idxP f r (k + 1)
theorem idxP_drop (f : Sq → Bool) (l : List Sq) (i k : Nat) (h : i < l.length) : idxP f (l.drop i) k = if f l[i] = true then some k else idxP f (l.drop (i + 1)) (k + 1) := by
  rw [List.drop_eq_getElem_cons h]; rfl
theorem idxP_end (f : Sq → Bool) (l : List Sq) (i k : Nat) (h : ¬ i < l.length) : idxP f (l.drop i) k = none := by
  rw [List.drop_eq_nil_of_le (by omega)]; rfl
/-- a cell lies in a square -/
def cellP (x y : Int) (s : Sq) : Bool := inP x s.x (s.x + s.d - 1) && inP y s.y (s.y + s.d - 1)
def numO : Option Nat → Int
  | some k => k
  | none => 0
theorem good_Bds {w h : Int} {sq : List Sq} (hg : goodP w h sq = true) : Bds sq ∧ (1 ≤ w ∧ w ≤ 500) ∧ (1 ≤ h ∧ h ≤ 500) ∧ (1 ≤ sq.length ∧ sq.length ≤ 30) := by
  simp only [goodP, Bool.and_eq_true] at hg
  obtain ⟨⟨⟨⟨g1, g2⟩, g3⟩, g4⟩, g5⟩ := hg
  simp only [inP, Bool.and_eq_true, decide_eq_true_eq] at g1 g2 g3
  refine ⟨⟨by omega, fun s hs => ?_⟩, g1, g2, by omega⟩
  obtain ⟨i, hi, rfl⟩ := List.getElem_of_mem hs
  rw [List.all_eq_true] at g4
  have := g4 i (List.mem_range.2 hi)
  rw [okAt_eq hi, Bool.and_eq_true] at this
  have := this.1
  simp only [okP, inP, Bool.and_eq_true, decide_eq_true_eq] at this
  unfold Bd; omega
/-- a square goes through a height at a cell -/
def strP (y x : Int) (s : Sq) : Bool := decide (s.y < y) && decide (y < s.y + s.d) && inP x s.x (s.x + s.d - 1)
def rowP (sq : List Sq) (y : Int) : Nat → Int → Int → Int → Int
  | 0, _, _, most => most
  | k + 1, x, run, most => rowP sq y k (x + 1) (if sq.any (strP y x) = true then 0 else run + 1) (max most (if sq.any (strP y x) = true then 0 else run + 1))
def lineP (w : Int) (sq : List Sq) : Nat → Int → Int → Int
  | 0, _, most => most
  | k + 1, y, most => lineP w sq k (y + 1) (rowP sq y w.toNat 0 0 most)
def cuLineP (w h : Int) (sq : List Sq) : Int := lineP w sq (h - 1).toNat 1 0
theorem any_drop {α : Type} (f : α → Bool) (l : List α) (i : Nat) (h : i < l.length) : (l.drop i).any f = (f l[i] || (l.drop (i + 1)).any f) := by
  rw [List.drop_eq_getElem_cons h]; rfl
theorem any_end {α : Type} (f : α → Bool) (l : List α) (i : Nat) (h : ¬ i < l.length) : (l.drop i).any f = false := by
  rw [List.drop_eq_nil_of_le (by omega)]; rfl

/-- the place of a square in a list, looked for from its end -/
def posP (s : Sq) (out : List Sq) : Nat → Nat
  | 0 => 0
  | k + 1 => match out[k]? with
    | some q => if lessP s q = true then posP s out k else k + 1
    | none => k + 1
def insP (out : List Sq) (s : Sq) : List Sq := out.take (posP s out out.length) ++ [s] ++ out.drop (posP s out out.length)
def sortP (sq : List Sq) : List Sq := sq.foldl insP []
theorem posP_le (s : Sq) (out : List Sq) (k : Nat) : posP s out k ≤ k := by
  induction k with
  | zero => exact Nat.le_refl _
  | succ k ih =>
    simp only [posP]
    split
    · split <;> omega
    · omega
theorem insP_len (out : List Sq) (s : Sq) : (insP out s).length = out.length + 1 := by
  have := posP_le s out out.length
  simp [insP]; omega
theorem fold_insP_len (sq : List Sq) : ∀ out, (sq.foldl insP out).length = out.length + sq.length := by
  induction sq with
  | nil => intro out; rfl
  | cons s r ih => intro out; rw [List.foldl_cons, ih, insP_len, List.length_cons]; omega
theorem sortP_len (sq : List Sq) : (sortP sq).length = sq.length := by unfold sortP; rw [fold_insP_len]; simp
theorem fold_take {α β : Type} (f : β → α → β) (l : List α) (b : β) (i : Nat) (h : i < l.length) : (l.take (i + 1)).foldl f b = f ((l.take i).foldl f b) l[i] := by
  rw [List.take_succ_eq_append_getElem h, List.foldl_append]; rfl
/-- a square of a cut turned by a quarter -/
def turnS (h : Int) (s : Sq) : Sq := ⟨h - s.y - s.d, s.x, s.d⟩
end Go.Ev.Z
end

section
/- More plain words: the other way to tell of cuts. -/
namespace Go.Ev.Z
open Go Go.Ev
def numM : Option Nat → Int
  | some k => k
  | none => -1
/-- a cross at the corner above at the left of a square -/
def crossP (sq : List Sq) (s : Sq) : Bool := !(decide (s.x = 0) || decide (s.y = 0)) && decide (cnt (cornP s.x s.y) sq = 4)
def avXY (s : Sq) : AV := .lst true 1 false [.int .i64 s.x, .int .i64 s.y]
theorem lapW_eq {a b : Sq} (ha : Bd a) (hb : Bd b) : lapW a b = lapP a b := by
  unfold Bd at ha hb
  simp only [lapW, lapP]
  rw [wrap_in _ (by omega) (by omega), wrap_in _ (by omega) (by omega), wrap_in _ (by omega) (by omega), wrap_in _ (by omega) (by omega)]
theorem filter_drop {α : Type} (f : α → Bool) (l : List α) (i : Nat) (h : i < l.length) : (l.take (i + 1)).filter f = (l.take i).filter f ++ (if f l[i] = true then [l[i]] else []) := by
  rw [List.take_succ_eq_append_getElem h, List.filter_append, List.filter_cons, List.filter_nil]
end Go.Ev.Z
namespace Go.Ev.Z
def cornQ (s t : Sq) : Bool := (decide (t.x = s.x) || decide (t.x + t.d = s.x)) && (decide (t.y = s.y) || decide (t.y + t.d = s.y))
theorem cornQ_eq (s : Sq) : cornQ s = cornP s.x s.y := by
  funext t
  simp only [cornQ, cornP, eq_comm]
/-- A list with a square at a place of it. -/
def atL (out rest : List Sq) (s : Sq) (j : Nat) : List Sq := out.take j ++ s :: (out.drop j ++ rest)
theorem atL_len {out rest : List Sq} {s : Sq} {j : Nat} (h : j ≤ out.length) : (atL out rest s j).length = out.length + 1 + rest.length := by
  simp [atL]; omega
theorem atL_at {out rest : List Sq} {s : Sq} {j : Nat} (h : j ≤ out.length) : (atL out rest s j)[j]? = some s := by
  unfold atL
  rw [List.getElem?_append_right (by simp; omega)]
  have : j - (out.take j).length = 0 := by simp; omega
  rw [this]; rfl
theorem atL_prev {out rest : List Sq} {s : Sq} {m : Nat} (h : m < out.length) : (atL out rest s (m + 1))[m]? = some out[m] := by
  unfold atL
  rw [List.getElem?_append_left (by simp; omega), List.getElem?_take_of_lt (by omega), List.getElem?_eq_getElem h]
theorem atL_swap {out rest : List Sq} {s : Sq} {m : Nat} (h : m < out.length) : ((atL out rest s (m + 1)).set (m + 1) out[m]).set m s = atL out rest s m := by
  unfold atL
  have e1 : out.take (m + 1) = out.take m ++ [out[m]] := List.take_succ_eq_append_getElem h
  have l1 : (out.take m).length = m := by simp; omega
  have e2 : out.drop m = out[m] :: out.drop (m + 1) := List.drop_eq_getElem_cons h
  rw [e1, e2, List.append_assoc, List.set_append_right _ _ (by omega), List.set_append_right _ _ (by omega), l1, Nat.sub_self, Nat.add_sub_cancel_left]
  rfl
theorem atL_end {out rest : List Sq} {s : Sq} {k : Nat} (h : k = posP s out out.length) : atL out rest s k = insP out s ++ rest := by
  subst h; simp [atL, insP]
theorem atL_start (out rest : List Sq) (s : Sq) : atL out rest s out.length = out ++ s :: rest := by simp [atL]
end Go.Ev.Z
namespace Go.Ev.Z
theorem mem_insP {out : List Sq} {s q : Sq} : q ∈ insP out s ↔ q ∈ out ∨ q = s := by
  simp only [insP, List.mem_append, List.mem_singleton]
  constructor
  · rintro ((h | h) | h)
    · exact .inl (List.mem_of_mem_take h)
    · exact .inr h
    · exact .inl (List.mem_of_mem_drop h)
  · rintro (h | h)
    · rw [← List.take_append_drop (posP s out out.length) out] at h
      rcases List.mem_append.1 h with h | h
      · exact .inl (.inl h)
      · exact .inr h
    · exact .inl (.inr h)
theorem mem_fold_insP {q : Sq} (l : List Sq) : ∀ out, q ∈ l.foldl insP out ↔ q ∈ out ∨ q ∈ l := by
  induction l with
  | nil => intro out; simp
  | cons s r ih => intro out; rw [List.foldl_cons, ih, mem_insP, List.mem_cons, or_assoc]
theorem mem_sortP {q : Sq} {l : List Sq} : q ∈ sortP l ↔ q ∈ l := by unfold sortP; rw [mem_fold_insP]; simp
theorem cmp_less {s q : Sq} (hs : Bd s) (hq : Bd q) : ((if s.y = q.y then IntKind.i64.wrap (s.x - q.x) else IntKind.i64.wrap (s.y - q.y)) < 0) = (lessP s q = true) := by
  unfold Bd at hs hq
  rw [wrap_in _ (by omega) (by omega), wrap_in _ (by omega) (by omega)]
  apply propext
  simp only [lessP, Bool.or_eq_true, Bool.and_eq_true, decide_eq_true_eq]
  split <;> omega
end Go.Ev.Z
end

section
/- Straight lines of cuts: plain words, and the memory that holds them. -/
set_option linter.unusedVariables false
namespace Go.Ev.Z
open Go Go.Ev
abbrev Row := Int × Int × Int
def edgeP (y : Int) (s : Sq) : Bool := decide (s.y = y) || decide (s.y + s.d = y)
def covP (x : Int) (s : Sq) : Bool := decide (s.x ≤ x) && decide (x < s.x + s.d)
def markP (sq : List Sq) (y x : Int) : Bool := sq.any fun s => edgeP y s && covP x s
def setLast (l : List Row) (e : Int) : List Row := match l.getLast? with
  | some r => l.dropLast ++ [(r.1, r.2.1, e)]
  | none => []
def stepR (sq : List Sq) (y : Int) (rows : List Row) (x : Nat) : List Row :=
  if markP sq y x = true then (if (decide (0 < x) && markP sq y ((x : Int) - 1)) = true then setLast rows (x + 1) else rows ++ [(y, (x : Int), (x : Int) + 1)]) else rows
def rowsY (W : Nat) (sq : List Sq) (rows : List Row) (y : Nat) : List Row := (List.range W).foldl (stepR sq y) rows
def rowsP (W H : Nat) (sq : List Sq) : List Row := (List.range (H + 1)).foldl (rowsY W sq) []
theorem range_fold {β : Type} (f : β → Nat → β) (b : β) (n : Nat) : (List.range (n + 1)).foldl f b = f ((List.range n).foldl f b) n := by
  rw [List.range_succ, List.foldl_append]; rfl
theorem setLast_app (l : List Row) (r : Row) (e : Int) : setLast (l ++ [r]) e = l ++ [(r.1, r.2.1, e)] := by simp [setLast]

def rowSl (r : Nat × Row) : AV := .sl r.1 1 3 0 3
def rowB (r : Row) : Blk := ⟨3, 1, [.int .i64 r.1, .int .i64 r.2.1, .int .i64 r.2.2]⟩
def avR (r : Row) : AV := .lst true 1 false [.int .i64 r.1, .int .i64 r.2.1, .int .i64 r.2.2]
structure RowsOK (H : Heap) (v : AV) (rs : List (Nat × Row)) : Prop where
  out : BldS H 83 1 v (rs.map rowSl)
  blk : ∀ r, r ∈ rs → H[r.1]? = some (rowB r.2)
  off : ∀ r, r ∈ rs → Off v r.1
  nd : (rs.map Prod.fst).Nodup
theorem RowsOK.keep {H H' : Heap} {v : AV} {rs : List (Nat × Row)} (h : RowsOK H v rs) (hk : ∀ id b, H[id]? = some b → (¬ Off v id ∨ ∃ r, r ∈ rs ∧ r.1 = id) → H'[id]? = some b) : RowsOK H' v rs := by
  obtain ⟨⟨id, hv, hid⟩, h2, h3, h4⟩ := h
  refine ⟨⟨id, hv, hk id _ hid (.inl fun ho => ho _ _ _ _ _ hv rfl)⟩, fun r hr => hk _ _ (h2 r hr) (.inr ⟨r, hr, rfl⟩), h3, h4⟩
theorem RowsOK.more {H B : Heap} {v : AV} {rs : List (Nat × Row)} (h : RowsOK H v rs) : RowsOK (H ++ B) v rs := h.keep fun _ _ e _ => h_get_of e
theorem RowsOK.set {H : Heap} {v : AV} {rs : List (Nat × Row)} {k : Nat} {b : Blk} (h : RowsOK H v rs) (ho : Off v k) (hr : ∀ r, r ∈ rs → r.1 ≠ k) : RowsOK (H.set k b) v rs := h.keep fun id b' e hor => by
  rw [List.getElem?_set_ne, e]
  rintro rfl
  rcases hor with h1 | ⟨r, h1, h2⟩
  · exact h1 ho
  · exact hr r h1 h2
theorem RowsOK.app {H A' : Heap} {v v' : AV} {rs : List (Nat × Row)} {row : Row} (h : RowsOK H v rs) (hB : BldS A' 83 1 v' (rs.map rowSl ++ [rowSl (H.length, row)])) (hF : ∀ k, Off v k → Off v' k ∧ A'[k]? = (H ++ [rowB row])[k]?) :
    RowsOK A' v' (rs ++ [(H.length, row)]) := by
  have hn : Off v H.length := by
    obtain ⟨id, hv, hid⟩ := h.out
    have := lt_of_get hid
    subst hv
    exact Off.sl (by omega)
  refine ⟨by rw [List.map_append]; exact hB, fun r hr => ?_, fun r hr => ?_, ?_⟩
  · rcases List.mem_append.1 hr with hr | hr
    · rw [(hF _ (h.off r hr)).2]; exact h_get_of (h.blk r hr)
    · obtain rfl := List.mem_singleton.1 hr
      rw [(hF _ hn).2, h_get0]; rfl
  · rcases List.mem_append.1 hr with hr | hr
    · exact (hF _ (h.off r hr)).1
    · obtain rfl := List.mem_singleton.1 hr
      exact (hF _ hn).1
  · rw [List.map_append, List.nodup_append]
    refine ⟨h.nd, by simp, fun a ha b hb => ?_⟩
    obtain ⟨r, hr, rfl⟩ := List.mem_map.1 ha
    obtain rfl : b = H.length := by simpa using hb
    have := lt_of_get (h.blk r hr)
    omega
theorem RowsOK.last {H : Heap} {v : AV} {pre : List (Nat × Row)} {r : Nat × Row} {row : Row} (h : RowsOK H v (pre ++ [r])) : RowsOK (H.set r.1 (rowB row)) v (pre ++ [(r.1, row)]) := by
  have hr := h.blk r (by simp)
  have hnd := h.nd
  rw [List.map_append, List.nodup_append] at hnd
  have ho : Off v r.1 := h.off r (by simp)
  refine ⟨?_, fun q hq => ?_, fun q hq => ?_, ?_⟩
  · obtain ⟨id, hv, hid⟩ := h.out
    refine ⟨id, ?_, ?_⟩
    · rw [hv]; simp
    · rw [List.getElem?_set_ne (fun e => ho _ _ _ _ _ hv e.symm), hid]; simp [rowSl]
  · rcases List.mem_append.1 hq with hq | hq
    · have : q.1 ≠ r.1 := hnd.2.2 _ (List.mem_map.2 ⟨q, hq, rfl⟩) _ (by simp)
      rw [List.getElem?_set_ne (Ne.symm this)]
      exact h.blk q (by simp [hq])
    · obtain rfl := List.mem_singleton.1 hq
      exact h_set_get (lt_of_get hr)
  · rcases List.mem_append.1 hq with hq | hq
    · exact h.off q (by simp [hq])
    · obtain rfl := List.mem_singleton.1 hq
      exact ho
  · have := h.nd
    rw [List.map_append] at this ⊢
    exact this
theorem RowsOK.gb {H : Heap} {v : AV} {rs : List (Nat × Row)} (h : RowsOK H v rs) : giveBackT H 8 v = some (.lst true 1 false ((rs.map Prod.snd).map avR)) := by
  refine h.out.gbT (d := 7) ?_
  have hb := h.blk
  clear h
  induction rs with
  | nil => rfl
  | cons r l ih =>
    refine mapO_cons ?_ (ih fun q hq => hb q (by simp [hq]))
    exact gb_sl (hb r (by simp)) rfl (by simp [rowB]) rfl

/-- A row of yes and no. -/
def mkB (W : Nat) (m : Nat → Bool) : List AV := (List.range W).map fun x => .bool (m x)
theorem mkB_len (W : Nat) (m : Nat → Bool) : (mkB W m).length = W := by simp [mkB]
theorem mkB_get {W : Nat} {m : Nat → Bool} {j : Nat} (h : j < W) : (mkB W m)[j]? = some (.bool (m j)) := by simp [mkB, h]
theorem mkB_set {W : Nat} {m : Nat → Bool} {j : Nat} (h : j < W) : (mkB W m).set j (.bool true) = mkB W fun x => m x || decide (x = j) := by
  apply List.ext_getElem?
  intro i
  by_cases hi : i < W
  · by_cases e : i = j
    · subst e
      rw [List.getElem?_set_self (by rw [mkB_len]; exact hi), mkB_get hi]; simp
    · rw [List.getElem?_set_ne (Ne.symm e), mkB_get hi, mkB_get hi]; simp [e]
  · rw [List.getElem?_eq_none (by rw [List.length_set, mkB_len]; omega), List.getElem?_eq_none (by rw [mkB_len]; omega)]
theorem mkB_rep (W : Nat) : List.replicate W (AV.bool false) = mkB W fun _ => false := by
  simp [mkB, List.map_const']
theorem mkB_congr {W : Nat} {m m' : Nat → Bool} (h : ∀ x, x < W → m x = m' x) : mkB W m = mkB W m' := by
  simp only [mkB]
  exact List.map_congr_left fun x hx => by rw [h x (List.mem_range.1 hx)]
end Go.Ev.Z
end

section
/- What clues tell: plain words. -/
set_option linter.unusedVariables false
namespace Go.Ev.Z
open Go Go.Ev
/-- A small cut: what is leant on of its numbers. -/
structure Fit (W Hh : Nat) (sq : List Sq) : Prop where
  w : 1 ≤ W ∧ W ≤ 500
  h : 1 ≤ Hh ∧ Hh ≤ 500
  n : 1 ≤ sq.length ∧ sq.length ≤ 12
  b : Bds sq
  i : ∀ s, s ∈ sq → (0 ≤ s.x ∧ s.x + s.d ≤ W) ∧ (0 ≤ s.y ∧ s.y + s.d ≤ Hh) ∧ 1 ≤ s.d
theorem Fit.turnB {W Hh : Nat} {sq : List Sq} (h : Fit W Hh sq) : Bds (sq.map (turnS Hh)) := by
  refine ⟨by simpa using h.b.1, fun s hs => ?_⟩
  obtain ⟨t, ht, rfl⟩ := List.mem_map.1 hs
  have := h.i t ht
  have := h.w
  have := h.h
  unfold Bd turnS; simp only; omega
theorem Fit.turn {W Hh : Nat} {sq : List Sq} (h : Fit W Hh sq) : Fit Hh W (sortP (sq.map (turnS Hh))) := by
  have hb := h.turnB
  refine ⟨h.h, h.w, by rw [sortP_len]; simpa using h.n, ⟨by rw [sortP_len]; exact hb.1, fun s hs => hb.2 s (mem_sortP.1 hs)⟩, fun s hs => ?_⟩
  obtain ⟨t, ht, rfl⟩ := List.mem_map.1 (mem_sortP.1 hs)
  have := h.i t ht
  unfold turnS; simp only; omega
def lineMost (H : Int) (rows : List Row) (most : Int) : Int := rows.foldl (fun m r => if inP r.1 1 (H - 1) = true then max m (r.2.2 - r.2.1) else m) most
def longP (W Hh : Nat) (sq : List Sq) : Int := lineMost W (rowsP Hh W (sortP (sq.map (turnS Hh)))) (lineMost Hh (rowsP W Hh sq) 0)
def RowB (W Hh : Nat) (r : Row) : Prop := (0 ≤ r.1 ∧ r.1 ≤ Hh) ∧ (0 ≤ r.2.1 ∧ r.2.1 ≤ W) ∧ (0 ≤ r.2.2 ∧ r.2.2 ≤ W)
theorem fold_inv {α β : Type} (P : β → Prop) (f : β → α → β) (l : List α) (b : β) (hb : P b) (hs : ∀ b a, a ∈ l → P b → P (f b a)) : P (l.foldl f b) := by
  induction l generalizing b with
  | nil => exact hb
  | cons a r ih => exact ih (f b a) (hs b a (by simp) hb) fun b a ha => hs b a (by simp [ha])
theorem rowsP_bd (W Hh : Nat) (sq : List Sq) : ∀ r, r ∈ rowsP W Hh sq → RowB W Hh r := by
  refine fold_inv (P := fun rows => ∀ r, r ∈ rows → RowB W Hh r) _ _ [] (by simp) fun rows y hy hr => ?_
  refine fold_inv (P := fun rows => ∀ r, r ∈ rows → RowB W Hh r) _ _ rows hr fun rows x hx hr => ?_
  have hy := List.mem_range.1 hy
  have hx := List.mem_range.1 hx
  unfold stepR
  split
  · split
    · intro r h
      unfold setLast at h
      split at h
      · rename_i q hq
        rcases List.mem_append.1 h with h | h
        · exact hr r (List.dropLast_subset _ h)
        · obtain rfl := List.mem_singleton.1 h
          have := hr q (List.mem_of_getLast? hq)
          unfold RowB at this ⊢; simp only; omega
      · cases h
    · intro r h
      rcases List.mem_append.1 h with h | h
      · exact hr r h
      · obtain rfl := List.mem_singleton.1 h
        unfold RowB; simp only; omega
  · exact hr
theorem stepR_len (sq : List Sq) (y : Int) (rows : List Row) (x : Nat) : (stepR sq y rows x).length ≤ rows.length + 1 := by
  unfold stepR
  split
  · split
    · unfold setLast
      split
      · rename_i q hq
        rw [List.length_append, List.length_dropLast, List.length_cons, List.length_nil]; omega
      · simp
    · simp
  · omega
theorem rowsY_len (W : Nat) (sq : List Sq) (rows : List Row) (y : Nat) : (rowsY W sq rows y).length ≤ rows.length + W := by
  unfold rowsY
  induction W with
  | zero => simp
  | succ W ih => rw [range_fold]; have := stepR_len sq y ((List.range W).foldl (stepR sq y) rows) W; omega
theorem rowsP_len (W Hh : Nat) (sq : List Sq) : (rowsP W Hh sq).length ≤ (Hh + 1) * W := by
  unfold rowsP
  generalize Hh + 1 = n
  induction n with
  | zero => simp
  | succ n ih => rw [range_fold, Nat.succ_mul]; have := rowsY_len W sq ((List.range n).foldl (rowsY W sq) []) n; omega
/-- What the program tells; none where it would stop. -/
def toldO (kind a : Int) (W Hh : Nat) (sq : List Sq) : Option Int :=
  if kind = 0 then some sq.length
  else if kind = 1 then some (cnt (fun s => decide (s.d = a)) sq)
  else if kind = 2 then (match idxP (fun s => lapW s ⟨a.tmod W, a.tdiv W, 1⟩) sq 0 with
    | some k => (sq[k]?).map (·.d)
    | none => none)
  else if kind = 3 then (if 0 ≤ a then [cnt (fun s => decide (s.y = 0)) sq, cnt (fun s => decide (s.x + s.d = (W : Int))) sq, cnt (fun s => decide (s.y + s.d = (Hh : Int))) sq, cnt (fun s => decide (s.x = 0)) sq][a.toNat]? else none)
  else if kind = 4 then some (sq.filter (crossP sq)).length
  else some (longP W Hh sq)
/-- What the reference tells. -/
def pzO (kind a : Int) (W Hh : Nat) (sq : List Sq) : Option Int :=
  if kind = 0 then some sq.length
  else if kind = 2 then (if (inP (a.tmod W) 0 (W - 1) && inP (a.tdiv W) 0 (Hh - 1)) = true then (match idxP (cellP (a.tmod W) (a.tdiv W)) sq 0 with
      | some k => (sq[k]?).map (·.d)
      | none => (sq[0]?).map (·.d)) else none)
  else if kind = 3 then (if 0 ≤ a then [cnt (fun s => decide (s.y = 0)) sq, cnt (fun s => decide (s.x + s.d = (W : Int))) sq, cnt (fun s => decide (s.y + s.d = (Hh : Int))) sq, cnt (fun s => decide (s.x = 0)) sq][a.toNat]? else none)
  else if kind = 5 then some (max (cuLineP W Hh sq) (cuLineP Hh W (sortP (sq.map (turnS Hh)))))
  else some (cnt (fun s => (decide (kind = 1) && decide (s.d = a)) || (decide (kind = 4) && decide (cnt (cornP s.x s.y) sq = 4))) sq)
end Go.Ev.Z
end

section
/- Clues and puzzles: plain words. -/
set_option linter.unusedVariables false
namespace Go.Ev.Z
open Go Go.Ev
structure Cu where
  k : Int
  a : Int
  b : Int
  deriving DecidableEq, Inhabited
def avU (c : Cu) : AV := .agg [.int .i64 c.k, .int .i64 c.a, .int .i64 c.b]
theorem bo_avU (A : Heap) (d : Nat) (xs : List Cu) : mapO (borrow A (d + 2)) (xs.map avU) = some (xs.map avU) := bo_map (fun _ => rfl) xs
theorem gb_avU (A : Heap) (d : Nat) (xs : List Cu) : mapO (giveBack A (d + 2)) (xs.map avU) = some (xs.map avU) := gb_map (fun _ => rfl) xs
theorem em_avU (n d : Nat) (xs : List Cu) : mapO (embed n (d + 2)) (xs.map avU) = some (xs.map avU) := em_map (fun _ => rfl) xs
theorem bo_lU (A : Heap) (d : Nat) (p nil : Bool) (sz : Nat) (xs : List Cu) : borrow A (d + 3) (.lst p sz nil (xs.map avU)) = some (.lst p sz nil (xs.map avU)) := bo_lst_id (bo_avU A d xs)
def hidP (w h : Int) : Bool := inP w 1 6 && inP h 1 6 && decide (w * h ≤ 12)
def clueP (w h : Int) (c : Cu) : Bool :=
  (decide (c.k = 0) && (inP c.a 1 12 && decide (c.b = 0))) || (decide (c.k = 1) && (inP c.a 1 6 && inP c.b 0 12)) || (decide (c.k = 2) && (inP c.a 0 (w * h - 1) && inP c.b 1 6))
  || (decide (c.k = 3) && (inP c.a 0 3 && inP c.b 0 12)) || (decide (c.k = 4) && (inP c.a 0 12 && decide (c.b = 0))) || (decide (c.k = 5) && (inP c.a 0 6 && decide (c.b = 0)))
def goodZ (w h : Int) (cs : List Cu) : Bool := hidP w h && decide (cs.length ≤ 6) && cs.all (clueP w h)
theorem hidP_bd {w h : Int} (hh : hidP w h = true) : (1 ≤ w ∧ w ≤ 6) ∧ (1 ≤ h ∧ h ≤ 6) ∧ (1 ≤ w * h ∧ w * h ≤ 12) := by
  simp only [hidP, inP, Bool.and_eq_true, decide_eq_true_eq] at hh
  obtain ⟨⟨h1, h2⟩, h3⟩ := hh
  have := Int.mul_le_mul h1.1 h2.1 (by omega) (by omega)
  exact ⟨h1, h2, by omega, h3⟩
def idxU (f : Cu → Bool) : List Cu → Nat → Option Nat
  | [], _ => none
  | s :: r, k => if f s = true then some k else idxU f r (k + 1)
theorem idxU_drop (f : Cu → Bool) (l : List Cu) (i k : Nat) (h : i < l.length) : idxU f (l.drop i) k = if f l[i] = true then some k else idxU f (l.drop (i + 1)) (k + 1) := by
  rw [List.drop_eq_getElem_cons h]; rfl
theorem idxU_end (f : Cu → Bool) (l : List Cu) (i k : Nat) (h : ¬ i < l.length) : idxU f (l.drop i) k = none := by
  rw [List.drop_eq_nil_of_le (by omega)]; rfl
theorem idxU_any (f : Cu → Bool) (l : List Cu) : ∀ k, decide (0 ≤ numM (idxU f l k)) = l.any f := by
  induction l with
  | nil => intro k; rfl
  | cons s r ih =>
    intro k
    simp only [idxU, List.any_cons]
    by_cases h : f s = true
    · simp only [h, if_true]; simp [numM]
    · have h' : f s = false := by simpa using h
      simp only [h', Bool.false_eq_true, if_false, Bool.false_or]
      exact ih (k + 1)
theorem all_drop {α : Type} (f : α → Bool) (l : List α) (i : Nat) (h : i < l.length) : (l.drop i).all f = (f l[i] && (l.drop (i + 1)).all f) := by
  rw [List.drop_eq_getElem_cons h]; rfl
theorem all_end {α : Type} (f : α → Bool) (l : List α) (i : Nat) (h : ¬ i < l.length) : (l.drop i).all f = true := by
  rw [List.drop_eq_nil_of_le (by omega)]; rfl
/-- Does a cut fit a clue? As the program sees it; as the reference. -/
def fitO (c : Cu) (W Hh : Nat) (sq : List Sq) : Option Bool :=
  if inP c.k 1 3 = true then (toldO c.k c.a W Hh sq).map (fun n => decide (n = c.b)) else (toldO c.k 0 W Hh sq).map (fun n => decide (n = c.a))
def fitR (c : Cu) (W Hh : Nat) (sq : List Sq) : Option Bool :=
  if (decide (c.k = 0) || decide (3 < c.k)) = true then (pzO c.k 0 W Hh sq).map (fun n => decide (n = c.a)) else (pzO c.k c.a W Hh sq).map (fun n => decide (n = c.b))
end Go.Ev.Z
end

section
/- What running the two lists of all cuts is asked to come to. -/
namespace Go.Ev.Z
open Go Go.Ev
noncomputable section
def avTs (w h : Nat) (l : List (List Sq)) : List AV := l.map fun sq => avT true false ⟨w, h, sq⟩
/-- The reference's list, its result read. -/
def CtRun (T : Tab) (f : FuncId) (w h : Nat) (l : List (List Sq)) : Prop :=
  (match evFX T 60 40 f [.int .i64 (Int.ofNat w), .int .i64 (Int.ofNat h)] [] with
    | some (v, A1) => giveBackT A1 depth v
    | none => none) = some (.lst true 3 false (avTs w h l))
/-- The program's list, its result the caller's own. -/
def ownR (v : AV) (A1 : Heap) : Option (Nat × Nat × Nat × Nat × Blk) :=
  match embed 0 depth v with
  | some (.sl id sz ver off len) => match mapO (embedB 0 depth) A1 with
    | some A2 => match A2[id]? with
      | some b => some (sz, ver, off, len, b)
      | none => none
    | none => none
  | _ => none
def AllRun (T : Tab) (f : FuncId) (w h : Nat) (l : List (List Sq)) : Prop :=
  (match evFX T 60 40 f [.int .i64 (Int.ofNat w), .int .i64 (Int.ofNat h)] [] with
    | some (v, A1) => ownR v A1
    | none => none) = some (3, l.length, 0, l.length, ⟨37, 3, avTs w h l⟩)
end
end Go.Ev.Z
end

section
/- Lists of cuts that fit clues: plain words. -/
set_option linter.unusedVariables false
namespace Go.Ev.Z
open Go Go.Ev
def encT (W Hh : Nat) (sq : List Sq) : AV := .agg [.int .i64 (W : Int), .int .i64 (Hh : Int), .lst true 3 false (sq.map avS)]
theorem avTs_eq (W Hh : Nat) (l : List (List Sq)) : avTs W Hh l = l.map (encT W Hh) := rfl
theorem bo_encT (A : Heap) (d : Nat) (W Hh : Nat) (l : List (List Sq)) : mapO (borrow A (d + 3)) (l.map (encT W Hh)) = some (l.map (encT W Hh)) := bo_map (fun _ => rfl) l
theorem gb_encT (A : Heap) (d : Nat) (W Hh : Nat) (l : List (List Sq)) : mapO (giveBack A (d + 3)) (l.map (encT W Hh)) = some (l.map (encT W Hh)) := gb_map (fun _ => rfl) l
def idxT (f : List Sq → Bool) : List (List Sq) → Nat → Option Nat
  | [], _ => none
  | s :: r, k => if f s = true then some k else idxT f r (k + 1)
theorem idxT_drop (f : List Sq → Bool) (l : List (List Sq)) (i k : Nat) (h : i < l.length) : idxT f (l.drop i) k = if f l[i] = true then some k else idxT f (l.drop (i + 1)) (k + 1) := by
  rw [List.drop_eq_getElem_cons h]; rfl
theorem idxT_end (f : List Sq → Bool) (l : List (List Sq)) (i k : Nat) (h : ¬ i < l.length) : idxT f (l.drop i) k = none := by
  rw [List.drop_eq_nil_of_le (by omega)]; rfl
/-- Nothing found: nothing goes. -/
theorem idxT_none (f : List Sq → Bool) (l : List (List Sq)) : ∀ k, idxT f l k = none → l.filter (fun s => !f s) = l := by
  induction l with
  | nil => intro k _; rfl
  | cons s r ih =>
    intro k h
    simp only [idxT] at h
    by_cases hs : f s = true
    · rw [if_pos hs] at h; cases h
    · rw [if_neg hs] at h
      have hs' : f s = false := by simpa using hs
      rw [List.filter_cons, if_pos (by simp [hs']), ih _ h]
theorem idxT_some (f : List Sq → Bool) (l : List (List Sq)) : ∀ k m, idxT f l k = some m → ∃ i, m = k + i ∧ ∃ h : i < l.length, f l[i] = true ∧ (l.take i).filter (fun s => !f s) = l.take i := by
  induction l with
  | nil => intro k m h; cases h
  | cons s r ih =>
    intro k m h
    simp only [idxT] at h
    by_cases hs : f s = true
    · rw [if_pos hs] at h
      cases h
      exact ⟨0, by simp, by simp, hs, rfl⟩
    · rw [if_neg hs] at h
      have hs' : f s = false := by simpa using hs
      obtain ⟨i, hm, hi, h1, h2⟩ := ih _ _ h
      refine ⟨i + 1, by omega, by simp; omega, by simpa using h1, ?_⟩
      rw [List.take_succ_cons, List.filter_cons, if_pos (by simp [hs']), h2]
theorem filterT_step (g : List Sq → Bool) (l : List (List Sq)) (i : Nat) (h : i < l.length) : (l.take (i + 1)).filter g = (l.take i).filter g ++ (if g l[i] = true then [l[i]] else []) := by
  rw [List.take_succ_eq_append_getElem h, List.filter_append, List.filter_cons, List.filter_nil]
end Go.Ev.Z
end

section
/- Puzzles made harder: plain words. -/
set_option linter.unusedVariables false
namespace Go.Ev.Z
open Go Go.Ev
def fbP (W Hh : Nat) (c : Cu) (sq : List Sq) : Bool := (fitO c W Hh sq).getD false
def solP (W Hh : Nat) (l : List (List Sq)) (cs : List Cu) : List (List Sq) := l.filter fun sq => cs.all fun c => fbP W Hh c sq
theorem mis_all (fb : Cu → List Sq → Bool) (cs : List Cu) (sq : List Sq) : (!(cs.any fun c => !fb c sq)) = cs.all fun c => fb c sq := by
  rw [List.not_any_eq_all_not]; simp
/-- Clues are taken out, each if one solution is left still. -/
def hardF (one : List Cu → Bool) : Nat → List Cu → Nat → List Cu
  | 0, cs, _ => cs
  | f + 1, cs, k => if one (cs.eraseIdx k) = true then hardF one f (cs.eraseIdx k) k else hardF one f cs (k + 1)
theorem hardF_step (one : List Cu → Bool) (cs : List Cu) (k : Nat) (h : k < cs.length) : hardF one (cs.length - k) cs k =
    if one (cs.eraseIdx k) = true then hardF one ((cs.eraseIdx k).length - k) (cs.eraseIdx k) k else hardF one (cs.length - (k + 1)) cs (k + 1) := by
  have h1 : cs.length - k = (cs.length - (k + 1)) + 1 := by omega
  have h2 : (cs.eraseIdx k).length - k = cs.length - (k + 1) := by rw [List.length_eraseIdx_of_lt h]; omega
  rw [h2, h1, hardF]
theorem clueP_a {w h : Int} {c : Cu} (hh : hidP w h = true) (hc : clueP w h c = true) : 0 ≤ c.a ∧ c.a ≤ 1000 := by
  have := hidP_bd hh
  simp only [clueP, inP, Bool.or_eq_true, Bool.and_eq_true, decide_eq_true_eq] at hc
  omega
end Go.Ev.Z
end

section
/- All cuts of the sizes of puzzles. -/
namespace Go.Ev.Z
open Go Go.Ev
def cuts1_1 : List (List Sq) := [[⟨0, 0, 1⟩]]
def cuts1_2 : List (List Sq) := [[⟨0, 0, 1⟩, ⟨0, 1, 1⟩]]
def cuts1_3 : List (List Sq) := [[⟨0, 0, 1⟩, ⟨0, 1, 1⟩, ⟨0, 2, 1⟩]]
def cuts1_4 : List (List Sq) := [[⟨0, 0, 1⟩, ⟨0, 1, 1⟩, ⟨0, 2, 1⟩, ⟨0, 3, 1⟩]]
def cuts1_5 : List (List Sq) := [[⟨0, 0, 1⟩, ⟨0, 1, 1⟩, ⟨0, 2, 1⟩, ⟨0, 3, 1⟩, ⟨0, 4, 1⟩]]
def cuts1_6 : List (List Sq) := [[⟨0, 0, 1⟩, ⟨0, 1, 1⟩, ⟨0, 2, 1⟩, ⟨0, 3, 1⟩, ⟨0, 4, 1⟩, ⟨0, 5, 1⟩]]
def cuts2_1 : List (List Sq) := [[⟨0, 0, 1⟩, ⟨1, 0, 1⟩]]
def cuts2_2 : List (List Sq) := [[⟨0, 0, 1⟩, ⟨1, 0, 1⟩, ⟨0, 1, 1⟩, ⟨1, 1, 1⟩], [⟨0, 0, 2⟩]]
def cuts2_3 : List (List Sq) := [[⟨0, 0, 1⟩, ⟨1, 0, 1⟩, ⟨0, 1, 1⟩, ⟨1, 1, 1⟩, ⟨0, 2, 1⟩, ⟨1, 2, 1⟩], [⟨0, 0, 1⟩, ⟨1, 0, 1⟩, ⟨0, 1, 2⟩], [⟨0, 0, 2⟩, ⟨0, 2, 1⟩, ⟨1, 2, 1⟩]]
def cuts2_4 : List (List Sq) := [[⟨0, 0, 1⟩, ⟨1, 0, 1⟩, ⟨0, 1, 1⟩, ⟨1, 1, 1⟩, ⟨0, 2, 1⟩, ⟨1, 2, 1⟩, ⟨0, 3, 1⟩, ⟨1, 3, 1⟩], [⟨0, 0, 1⟩, ⟨1, 0, 1⟩, ⟨0, 1, 1⟩, ⟨1, 1, 1⟩, ⟨0, 2, 2⟩], [⟨0, 0, 1⟩, ⟨1, 0, 1⟩, ⟨0, 1, 2⟩, ⟨0, 3, 1⟩, ⟨1, 3, 1⟩], [⟨0, 0, 2⟩, ⟨0, 2, 1⟩, ⟨1, 2, 1⟩, ⟨0, 3, 1⟩, ⟨1, 3, 1⟩], [⟨0, 0, 2⟩, ⟨0, 2, 2⟩]]
def cuts2_5 : List (List Sq) := [[⟨0, 0, 1⟩, ⟨1, 0, 1⟩, ⟨0, 1, 1⟩, ⟨1, 1, 1⟩, ⟨0, 2, 1⟩, ⟨1, 2, 1⟩, ⟨0, 3, 1⟩, ⟨1, 3, 1⟩, ⟨0, 4, 1⟩, ⟨1, 4, 1⟩], [⟨0, 0, 1⟩, ⟨1, 0, 1⟩, ⟨0, 1, 1⟩, ⟨1, 1, 1⟩, ⟨0, 2, 1⟩, ⟨1, 2, 1⟩, ⟨0, 3, 2⟩], [⟨0, 0, 1⟩, ⟨1, 0, 1⟩, ⟨0, 1, 1⟩, ⟨1, 1, 1⟩, ⟨0, 2, 2⟩, ⟨0, 4, 1⟩, ⟨1, 4, 1⟩], [⟨0, 0, 1⟩, ⟨1, 0, 1⟩, ⟨0, 1, 2⟩, ⟨0, 3, 1⟩, ⟨1, 3, 1⟩, ⟨0, 4, 1⟩, ⟨1, 4, 1⟩], [⟨0, 0, 1⟩, ⟨1, 0, 1⟩, ⟨0, 1, 2⟩, ⟨0, 3, 2⟩], [⟨0, 0, 2⟩, ⟨0, 2, 1⟩, ⟨1, 2, 1⟩, ⟨0, 3, 1⟩, ⟨1, 3, 1⟩, ⟨0, 4, 1⟩, ⟨1, 4, 1⟩], [⟨0, 0, 2⟩, ⟨0, 2, 1⟩, ⟨1, 2, 1⟩, ⟨0, 3, 2⟩], [⟨0, 0, 2⟩, ⟨0, 2, 2⟩, ⟨0, 4, 1⟩, ⟨1, 4, 1⟩]]
def cuts2_6 : List (List Sq) := [[⟨0, 0, 1⟩, ⟨1, 0, 1⟩, ⟨0, 1, 1⟩, ⟨1, 1, 1⟩, ⟨0, 2, 1⟩, ⟨1, 2, 1⟩, ⟨0, 3, 1⟩, ⟨1, 3, 1⟩, ⟨0, 4, 1⟩, ⟨1, 4, 1⟩, ⟨0, 5, 1⟩, ⟨1, 5, 1⟩], [⟨0, 0, 1⟩, ⟨1, 0, 1⟩, ⟨0, 1, 1⟩, ⟨1, 1, 1⟩, ⟨0, 2, 1⟩, ⟨1, 2, 1⟩, ⟨0, 3, 1⟩, ⟨1, 3, 1⟩, ⟨0, 4, 2⟩], [⟨0, 0, 1⟩, ⟨1, 0, 1⟩, ⟨0, 1, 1⟩, ⟨1, 1, 1⟩, ⟨0, 2, 1⟩, ⟨1, 2, 1⟩, ⟨0, 3, 2⟩, ⟨0, 5, 1⟩, ⟨1, 5, 1⟩], [⟨0, 0, 1⟩, ⟨1, 0, 1⟩, ⟨0, 1, 1⟩, ⟨1, 1, 1⟩, ⟨0, 2, 2⟩, ⟨0, 4, 1⟩, ⟨1, 4, 1⟩, ⟨0, 5, 1⟩, ⟨1, 5, 1⟩], [⟨0, 0, 1⟩, ⟨1, 0, 1⟩, ⟨0, 1, 1⟩, ⟨1, 1, 1⟩, ⟨0, 2, 2⟩, ⟨0, 4, 2⟩], [⟨0, 0, 1⟩, ⟨1, 0, 1⟩, ⟨0, 1, 2⟩, ⟨0, 3, 1⟩, ⟨1, 3, 1⟩, ⟨0, 4, 1⟩, ⟨1, 4, 1⟩, ⟨0, 5, 1⟩, ⟨1, 5, 1⟩], [⟨0, 0, 1⟩, ⟨1, 0, 1⟩, ⟨0, 1, 2⟩, ⟨0, 3, 1⟩, ⟨1, 3, 1⟩, ⟨0, 4, 2⟩], [⟨0, 0, 1⟩, ⟨1, 0, 1⟩, ⟨0, 1, 2⟩, ⟨0, 3, 2⟩, ⟨0, 5, 1⟩, ⟨1, 5, 1⟩], [⟨0, 0, 2⟩, ⟨0, 2, 1⟩, ⟨1, 2, 1⟩, ⟨0, 3, 1⟩, ⟨1, 3, 1⟩, ⟨0, 4, 1⟩, ⟨1, 4, 1⟩, ⟨0, 5, 1⟩, ⟨1, 5, 1⟩], [⟨0, 0, 2⟩, ⟨0, 2, 1⟩, ⟨1, 2, 1⟩, ⟨0, 3, 1⟩, ⟨1, 3, 1⟩, ⟨0, 4, 2⟩], [⟨0, 0, 2⟩, ⟨0, 2, 1⟩, ⟨1, 2, 1⟩, ⟨0, 3, 2⟩, ⟨0, 5, 1⟩, ⟨1, 5, 1⟩], [⟨0, 0, 2⟩, ⟨0, 2, 2⟩, ⟨0, 4, 1⟩, ⟨1, 4, 1⟩, ⟨0, 5, 1⟩, ⟨1, 5, 1⟩], [⟨0, 0, 2⟩, ⟨0, 2, 2⟩, ⟨0, 4, 2⟩]]
def cuts3_1 : List (List Sq) := [[⟨0, 0, 1⟩, ⟨1, 0, 1⟩, ⟨2, 0, 1⟩]]
def cuts3_2 : List (List Sq) := [[⟨0, 0, 1⟩, ⟨1, 0, 1⟩, ⟨2, 0, 1⟩, ⟨0, 1, 1⟩, ⟨1, 1, 1⟩, ⟨2, 1, 1⟩], [⟨0, 0, 1⟩, ⟨1, 0, 2⟩, ⟨0, 1, 1⟩], [⟨0, 0, 2⟩, ⟨2, 0, 1⟩, ⟨2, 1, 1⟩]]
def cuts3_3 : List (List Sq) := [[⟨0, 0, 1⟩, ⟨1, 0, 1⟩, ⟨2, 0, 1⟩, ⟨0, 1, 1⟩, ⟨1, 1, 1⟩, ⟨2, 1, 1⟩, ⟨0, 2, 1⟩, ⟨1, 2, 1⟩, ⟨2, 2, 1⟩], [⟨0, 0, 1⟩, ⟨1, 0, 1⟩, ⟨2, 0, 1⟩, ⟨0, 1, 1⟩, ⟨1, 1, 2⟩, ⟨0, 2, 1⟩], [⟨0, 0, 1⟩, ⟨1, 0, 1⟩, ⟨2, 0, 1⟩, ⟨0, 1, 2⟩, ⟨2, 1, 1⟩, ⟨2, 2, 1⟩], [⟨0, 0, 1⟩, ⟨1, 0, 2⟩, ⟨0, 1, 1⟩, ⟨0, 2, 1⟩, ⟨1, 2, 1⟩, ⟨2, 2, 1⟩], [⟨0, 0, 2⟩, ⟨2, 0, 1⟩, ⟨2, 1, 1⟩, ⟨0, 2, 1⟩, ⟨1, 2, 1⟩, ⟨2, 2, 1⟩], [⟨0, 0, 3⟩]]
def cuts3_4 : List (List Sq) := [[⟨0, 0, 1⟩, ⟨1, 0, 1⟩, ⟨2, 0, 1⟩, ⟨0, 1, 1⟩, ⟨1, 1, 1⟩, ⟨2, 1, 1⟩, ⟨0, 2, 1⟩, ⟨1, 2, 1⟩, ⟨2, 2, 1⟩, ⟨0, 3, 1⟩, ⟨1, 3, 1⟩, ⟨2, 3, 1⟩], [⟨0, 0, 1⟩, ⟨1, 0, 1⟩, ⟨2, 0, 1⟩, ⟨0, 1, 1⟩, ⟨1, 1, 1⟩, ⟨2, 1, 1⟩, ⟨0, 2, 1⟩, ⟨1, 2, 2⟩, ⟨0, 3, 1⟩], [⟨0, 0, 1⟩, ⟨1, 0, 1⟩, ⟨2, 0, 1⟩, ⟨0, 1, 1⟩, ⟨1, 1, 1⟩, ⟨2, 1, 1⟩, ⟨0, 2, 2⟩, ⟨2, 2, 1⟩, ⟨2, 3, 1⟩], [⟨0, 0, 1⟩, ⟨1, 0, 1⟩, ⟨2, 0, 1⟩, ⟨0, 1, 1⟩, ⟨1, 1, 2⟩, ⟨0, 2, 1⟩, ⟨0, 3, 1⟩, ⟨1, 3, 1⟩, ⟨2, 3, 1⟩], [⟨0, 0, 1⟩, ⟨1, 0, 1⟩, ⟨2, 0, 1⟩, ⟨0, 1, 2⟩, ⟨2, 1, 1⟩, ⟨2, 2, 1⟩, ⟨0, 3, 1⟩, ⟨1, 3, 1⟩, ⟨2, 3, 1⟩], [⟨0, 0, 1⟩, ⟨1, 0, 1⟩, ⟨2, 0, 1⟩, ⟨0, 1, 3⟩], [⟨0, 0, 1⟩, ⟨1, 0, 2⟩, ⟨0, 1, 1⟩, ⟨0, 2, 1⟩, ⟨1, 2, 1⟩, ⟨2, 2, 1⟩, ⟨0, 3, 1⟩, ⟨1, 3, 1⟩, ⟨2, 3, 1⟩], [⟨0, 0, 1⟩, ⟨1, 0, 2⟩, ⟨0, 1, 1⟩, ⟨0, 2, 1⟩, ⟨1, 2, 2⟩, ⟨0, 3, 1⟩], [⟨0, 0, 1⟩, ⟨1, 0, 2⟩, ⟨0, 1, 1⟩, ⟨0, 2, 2⟩, ⟨2, 2, 1⟩, ⟨2, 3, 1⟩], [⟨0, 0, 2⟩, ⟨2, 0, 1⟩, ⟨2, 1, 1⟩, ⟨0, 2, 1⟩, ⟨1, 2, 1⟩, ⟨2, 2, 1⟩, ⟨0, 3, 1⟩, ⟨1, 3, 1⟩, ⟨2, 3, 1⟩], [⟨0, 0, 2⟩, ⟨2, 0, 1⟩, ⟨2, 1, 1⟩, ⟨0, 2, 1⟩, ⟨1, 2, 2⟩, ⟨0, 3, 1⟩], [⟨0, 0, 2⟩, ⟨2, 0, 1⟩, ⟨2, 1, 1⟩, ⟨0, 2, 2⟩, ⟨2, 2, 1⟩, ⟨2, 3, 1⟩], [⟨0, 0, 3⟩, ⟨0, 3, 1⟩, ⟨1, 3, 1⟩, ⟨2, 3, 1⟩]]
def cuts4_1 : List (List Sq) := [[⟨0, 0, 1⟩, ⟨1, 0, 1⟩, ⟨2, 0, 1⟩, ⟨3, 0, 1⟩]]
def cuts4_2 : List (List Sq) := [[⟨0, 0, 1⟩, ⟨1, 0, 1⟩, ⟨2, 0, 1⟩, ⟨3, 0, 1⟩, ⟨0, 1, 1⟩, ⟨1, 1, 1⟩, ⟨2, 1, 1⟩, ⟨3, 1, 1⟩], [⟨0, 0, 1⟩, ⟨1, 0, 1⟩, ⟨2, 0, 2⟩, ⟨0, 1, 1⟩, ⟨1, 1, 1⟩], [⟨0, 0, 1⟩, ⟨1, 0, 2⟩, ⟨3, 0, 1⟩, ⟨0, 1, 1⟩, ⟨3, 1, 1⟩], [⟨0, 0, 2⟩, ⟨2, 0, 1⟩, ⟨3, 0, 1⟩, ⟨2, 1, 1⟩, ⟨3, 1, 1⟩], [⟨0, 0, 2⟩, ⟨2, 0, 2⟩]]
def cuts4_3 : List (List Sq) := [[⟨0, 0, 1⟩, ⟨1, 0, 1⟩, ⟨2, 0, 1⟩, ⟨3, 0, 1⟩, ⟨0, 1, 1⟩, ⟨1, 1, 1⟩, ⟨2, 1, 1⟩, ⟨3, 1, 1⟩, ⟨0, 2, 1⟩, ⟨1, 2, 1⟩, ⟨2, 2, 1⟩, ⟨3, 2, 1⟩], [⟨0, 0, 1⟩, ⟨1, 0, 1⟩, ⟨2, 0, 1⟩, ⟨3, 0, 1⟩, ⟨0, 1, 1⟩, ⟨1, 1, 1⟩, ⟨2, 1, 2⟩, ⟨0, 2, 1⟩, ⟨1, 2, 1⟩], [⟨0, 0, 1⟩, ⟨1, 0, 1⟩, ⟨2, 0, 1⟩, ⟨3, 0, 1⟩, ⟨0, 1, 1⟩, ⟨1, 1, 2⟩, ⟨3, 1, 1⟩, ⟨0, 2, 1⟩, ⟨3, 2, 1⟩], [⟨0, 0, 1⟩, ⟨1, 0, 1⟩, ⟨2, 0, 1⟩, ⟨3, 0, 1⟩, ⟨0, 1, 2⟩, ⟨2, 1, 1⟩, ⟨3, 1, 1⟩, ⟨2, 2, 1⟩, ⟨3, 2, 1⟩], [⟨0, 0, 1⟩, ⟨1, 0, 1⟩, ⟨2, 0, 1⟩, ⟨3, 0, 1⟩, ⟨0, 1, 2⟩, ⟨2, 1, 2⟩], [⟨0, 0, 1⟩, ⟨1, 0, 1⟩, ⟨2, 0, 2⟩, ⟨0, 1, 1⟩, ⟨1, 1, 1⟩, ⟨0, 2, 1⟩, ⟨1, 2, 1⟩, ⟨2, 2, 1⟩, ⟨3, 2, 1⟩], [⟨0, 0, 1⟩, ⟨1, 0, 1⟩, ⟨2, 0, 2⟩, ⟨0, 1, 2⟩, ⟨2, 2, 1⟩, ⟨3, 2, 1⟩], [⟨0, 0, 1⟩, ⟨1, 0, 2⟩, ⟨3, 0, 1⟩, ⟨0, 1, 1⟩, ⟨3, 1, 1⟩, ⟨0, 2, 1⟩, ⟨1, 2, 1⟩, ⟨2, 2, 1⟩, ⟨3, 2, 1⟩], [⟨0, 0, 1⟩, ⟨1, 0, 3⟩, ⟨0, 1, 1⟩, ⟨0, 2, 1⟩], [⟨0, 0, 2⟩, ⟨2, 0, 1⟩, ⟨3, 0, 1⟩, ⟨2, 1, 1⟩, ⟨3, 1, 1⟩, ⟨0, 2, 1⟩, ⟨1, 2, 1⟩, ⟨2, 2, 1⟩, ⟨3, 2, 1⟩], [⟨0, 0, 2⟩, ⟨2, 0, 1⟩, ⟨3, 0, 1⟩, ⟨2, 1, 2⟩, ⟨0, 2, 1⟩, ⟨1, 2, 1⟩], [⟨0, 0, 2⟩, ⟨2, 0, 2⟩, ⟨0, 2, 1⟩, ⟨1, 2, 1⟩, ⟨2, 2, 1⟩, ⟨3, 2, 1⟩], [⟨0, 0, 3⟩, ⟨3, 0, 1⟩, ⟨3, 1, 1⟩, ⟨3, 2, 1⟩]]
def cuts5_1 : List (List Sq) := [[⟨0, 0, 1⟩, ⟨1, 0, 1⟩, ⟨2, 0, 1⟩, ⟨3, 0, 1⟩, ⟨4, 0, 1⟩]]
def cuts5_2 : List (List Sq) := [[⟨0, 0, 1⟩, ⟨1, 0, 1⟩, ⟨2, 0, 1⟩, ⟨3, 0, 1⟩, ⟨4, 0, 1⟩, ⟨0, 1, 1⟩, ⟨1, 1, 1⟩, ⟨2, 1, 1⟩, ⟨3, 1, 1⟩, ⟨4, 1, 1⟩], [⟨0, 0, 1⟩, ⟨1, 0, 1⟩, ⟨2, 0, 1⟩, ⟨3, 0, 2⟩, ⟨0, 1, 1⟩, ⟨1, 1, 1⟩, ⟨2, 1, 1⟩], [⟨0, 0, 1⟩, ⟨1, 0, 1⟩, ⟨2, 0, 2⟩, ⟨4, 0, 1⟩, ⟨0, 1, 1⟩, ⟨1, 1, 1⟩, ⟨4, 1, 1⟩], [⟨0, 0, 1⟩, ⟨1, 0, 2⟩, ⟨3, 0, 1⟩, ⟨4, 0, 1⟩, ⟨0, 1, 1⟩, ⟨3, 1, 1⟩, ⟨4, 1, 1⟩], [⟨0, 0, 1⟩, ⟨1, 0, 2⟩, ⟨3, 0, 2⟩, ⟨0, 1, 1⟩], [⟨0, 0, 2⟩, ⟨2, 0, 1⟩, ⟨3, 0, 1⟩, ⟨4, 0, 1⟩, ⟨2, 1, 1⟩, ⟨3, 1, 1⟩, ⟨4, 1, 1⟩], [⟨0, 0, 2⟩, ⟨2, 0, 1⟩, ⟨3, 0, 2⟩, ⟨2, 1, 1⟩], [⟨0, 0, 2⟩, ⟨2, 0, 2⟩, ⟨4, 0, 1⟩, ⟨4, 1, 1⟩]]
def cuts6_1 : List (List Sq) := [[⟨0, 0, 1⟩, ⟨1, 0, 1⟩, ⟨2, 0, 1⟩, ⟨3, 0, 1⟩, ⟨4, 0, 1⟩, ⟨5, 0, 1⟩]]
def cuts6_2 : List (List Sq) := [[⟨0, 0, 1⟩, ⟨1, 0, 1⟩, ⟨2, 0, 1⟩, ⟨3, 0, 1⟩, ⟨4, 0, 1⟩, ⟨5, 0, 1⟩, ⟨0, 1, 1⟩, ⟨1, 1, 1⟩, ⟨2, 1, 1⟩, ⟨3, 1, 1⟩, ⟨4, 1, 1⟩, ⟨5, 1, 1⟩], [⟨0, 0, 1⟩, ⟨1, 0, 1⟩, ⟨2, 0, 1⟩, ⟨3, 0, 1⟩, ⟨4, 0, 2⟩, ⟨0, 1, 1⟩, ⟨1, 1, 1⟩, ⟨2, 1, 1⟩, ⟨3, 1, 1⟩], [⟨0, 0, 1⟩, ⟨1, 0, 1⟩, ⟨2, 0, 1⟩, ⟨3, 0, 2⟩, ⟨5, 0, 1⟩, ⟨0, 1, 1⟩, ⟨1, 1, 1⟩, ⟨2, 1, 1⟩, ⟨5, 1, 1⟩], [⟨0, 0, 1⟩, ⟨1, 0, 1⟩, ⟨2, 0, 2⟩, ⟨4, 0, 1⟩, ⟨5, 0, 1⟩, ⟨0, 1, 1⟩, ⟨1, 1, 1⟩, ⟨4, 1, 1⟩, ⟨5, 1, 1⟩], [⟨0, 0, 1⟩, ⟨1, 0, 1⟩, ⟨2, 0, 2⟩, ⟨4, 0, 2⟩, ⟨0, 1, 1⟩, ⟨1, 1, 1⟩], [⟨0, 0, 1⟩, ⟨1, 0, 2⟩, ⟨3, 0, 1⟩, ⟨4, 0, 1⟩, ⟨5, 0, 1⟩, ⟨0, 1, 1⟩, ⟨3, 1, 1⟩, ⟨4, 1, 1⟩, ⟨5, 1, 1⟩], [⟨0, 0, 1⟩, ⟨1, 0, 2⟩, ⟨3, 0, 1⟩, ⟨4, 0, 2⟩, ⟨0, 1, 1⟩, ⟨3, 1, 1⟩], [⟨0, 0, 1⟩, ⟨1, 0, 2⟩, ⟨3, 0, 2⟩, ⟨5, 0, 1⟩, ⟨0, 1, 1⟩, ⟨5, 1, 1⟩], [⟨0, 0, 2⟩, ⟨2, 0, 1⟩, ⟨3, 0, 1⟩, ⟨4, 0, 1⟩, ⟨5, 0, 1⟩, ⟨2, 1, 1⟩, ⟨3, 1, 1⟩, ⟨4, 1, 1⟩, ⟨5, 1, 1⟩], [⟨0, 0, 2⟩, ⟨2, 0, 1⟩, ⟨3, 0, 1⟩, ⟨4, 0, 2⟩, ⟨2, 1, 1⟩, ⟨3, 1, 1⟩], [⟨0, 0, 2⟩, ⟨2, 0, 1⟩, ⟨3, 0, 2⟩, ⟨5, 0, 1⟩, ⟨2, 1, 1⟩, ⟨5, 1, 1⟩], [⟨0, 0, 2⟩, ⟨2, 0, 2⟩, ⟨4, 0, 1⟩, ⟨5, 0, 1⟩, ⟨4, 1, 1⟩, ⟨5, 1, 1⟩], [⟨0, 0, 2⟩, ⟨2, 0, 2⟩, ⟨4, 0, 2⟩]]
def cutsP (w h : Nat) : List (List Sq) := match w, h with
  | 1, 1 => cuts1_1
  | 1, 2 => cuts1_2
  | 1, 3 => cuts1_3
  | 1, 4 => cuts1_4
  | 1, 5 => cuts1_5
  | 1, 6 => cuts1_6
  | 2, 1 => cuts2_1
  | 2, 2 => cuts2_2
  | 2, 3 => cuts2_3
  | 2, 4 => cuts2_4
  | 2, 5 => cuts2_5
  | 2, 6 => cuts2_6
  | 3, 1 => cuts3_1
  | 3, 2 => cuts3_2
  | 3, 3 => cuts3_3
  | 3, 4 => cuts3_4
  | 4, 1 => cuts4_1
  | 4, 2 => cuts4_2
  | 4, 3 => cuts4_3
  | 5, 1 => cuts5_1
  | 5, 2 => cuts5_2
  | 6, 1 => cuts6_1
  | 6, 2 => cuts6_2
  | _, _ => []
theorem hidden_cases (P : Nat → Nat → Prop) (h1_1 : P 1 1) (h1_2 : P 1 2) (h1_3 : P 1 3) (h1_4 : P 1 4) (h1_5 : P 1 5) (h1_6 : P 1 6) (h2_1 : P 2 1) (h2_2 : P 2 2) (h2_3 : P 2 3) (h2_4 : P 2 4) (h2_5 : P 2 5) (h2_6 : P 2 6) (h3_1 : P 3 1) (h3_2 : P 3 2) (h3_3 : P 3 3) (h3_4 : P 3 4) (h4_1 : P 4 1) (h4_2 : P 4 2) (h4_3 : P 4 3) (h5_1 : P 5 1) (h5_2 : P 5 2) (h6_1 : P 6 1) (h6_2 : P 6 2) : ∀ w h : Nat, 1 ≤ w → w ≤ 6 → 1 ≤ h → h ≤ 6 → w * h ≤ 12 → P w h := by
  intro w h a b c d e
  match w, h, a, b, c, d, e with
  | 1, 1, _, _, _, _, _ => exact h1_1
  | 1, 2, _, _, _, _, _ => exact h1_2
  | 1, 3, _, _, _, _, _ => exact h1_3
  | 1, 4, _, _, _, _, _ => exact h1_4
  | 1, 5, _, _, _, _, _ => exact h1_5
  | 1, 6, _, _, _, _, _ => exact h1_6
  | 2, 1, _, _, _, _, _ => exact h2_1
  | 2, 2, _, _, _, _, _ => exact h2_2
  | 2, 3, _, _, _, _, _ => exact h2_3
  | 2, 4, _, _, _, _, _ => exact h2_4
  | 2, 5, _, _, _, _, _ => exact h2_5
  | 2, 6, _, _, _, _, _ => exact h2_6
  | 3, 1, _, _, _, _, _ => exact h3_1
  | 3, 2, _, _, _, _, _ => exact h3_2
  | 3, 3, _, _, _, _, _ => exact h3_3
  | 3, 4, _, _, _, _, _ => exact h3_4
  | 4, 1, _, _, _, _, _ => exact h4_1
  | 4, 2, _, _, _, _, _ => exact h4_2
  | 4, 3, _, _, _, _, _ => exact h4_3
  | 5, 1, _, _, _, _, _ => exact h5_1
  | 5, 2, _, _, _, _, _ => exact h5_2
  | 6, 1, _, _, _, _, _ => exact h6_1
  | 6, 2, _, _, _, _, _ => exact h6_2
  | 3, 5, _, _, _, _, e => exact absurd e (by decide)
  | 3, 6, _, _, _, _, e => exact absurd e (by decide)
  | 4, 4, _, _, _, _, e => exact absurd e (by decide)
  | 4, 5, _, _, _, _, e => exact absurd e (by decide)
  | 4, 6, _, _, _, _, e => exact absurd e (by decide)
  | 5, 3, _, _, _, _, e => exact absurd e (by decide)
  | 5, 4, _, _, _, _, e => exact absurd e (by decide)
  | 5, 5, _, _, _, _, e => exact absurd e (by decide)
  | 5, 6, _, _, _, _, e => exact absurd e (by decide)
  | 6, 3, _, _, _, _, e => exact absurd e (by decide)
  | 6, 4, _, _, _, _, e => exact absurd e (by decide)
  | 6, 5, _, _, _, _, e => exact absurd e (by decide)
  | 6, 6, _, _, _, _, e => exact absurd e (by decide)
  | 0, _, a, _, _, _, _ => exact absurd a (by decide)
  | w + 7, _, _, b, _, _, _ => omega
  | _, 0, _, _, c, _, _ => exact absurd c (by decide)
  | _, h + 7, _, _, _, d, _ => omega
end Go.Ev.Z
end

section
/- On all cuts of the sizes of puzzles the two ways to tell of clues come to the same. -/
set_option maxRecDepth 1000000
namespace Go.Ev.Z
open Go Go.Ev
def eqO (a b : Option Int) : Bool := match a, b with
  | some x, some y => decide (x = y)
  | _, _ => false
def pairsP (W Hh : Nat) : List (Int × Int) := [(0, 0), (4, 0), (5, 0), (1, 1), (1, 2), (1, 3), (1, 4), (1, 5), (1, 6), (3, 0), (3, 1), (3, 2), (3, 3)] ++ (List.range (W * Hh)).map fun (n : Nat) => ((2 : Int), (n : Int))
def agB (W Hh : Nat) (sq : List Sq) : Bool := (pairsP W Hh).all fun q => eqO (toldO q.1 q.2 W Hh sq) (pzO q.1 q.2 W Hh sq)
def fitB (W Hh : Nat) (sq : List Sq) : Bool := decide (1 ≤ sq.length) && decide (sq.length ≤ 12) && sq.all fun s => decide (0 ≤ s.x) && decide (s.x + s.d ≤ (W : Int)) && decide (0 ≤ s.y) && decide (s.y + s.d ≤ (Hh : Int)) && decide (1 ≤ s.d)
def okB (W Hh : Nat) (l : List (List Sq)) : Bool := decide (1 ≤ W) && decide (W ≤ 6) && decide (1 ≤ Hh) && decide (Hh ≤ 6) && decide (l.length ≤ 1000) && l.all fun sq => fitB W Hh sq && goodP W Hh sq && agB W Hh sq
theorem ok_all : ∀ W Hh : Nat, 1 ≤ W → W ≤ 6 → 1 ≤ Hh → Hh ≤ 6 → W * Hh ≤ 12 → okB W Hh (cutsP W Hh) = true :=
  hidden_cases (fun W Hh => okB W Hh (cutsP W Hh) = true) (by kernel_rfl) (by kernel_rfl) (by kernel_rfl) (by kernel_rfl) (by kernel_rfl) (by kernel_rfl) (by kernel_rfl) (by kernel_rfl) (by kernel_rfl) (by kernel_rfl) (by kernel_rfl) (by kernel_rfl)
    (by kernel_rfl) (by kernel_rfl) (by kernel_rfl) (by kernel_rfl) (by kernel_rfl) (by kernel_rfl) (by kernel_rfl) (by kernel_rfl) (by kernel_rfl) (by kernel_rfl) (by kernel_rfl)
end Go.Ev.Z
end

section
/- Cuts whose squares lie in blocks of their own. -/
set_option linter.unusedVariables false
namespace Go.Ev.Z
open Go Go.Ev
def encP (p : Bool) (W Hh : Nat) (sq : List Sq) : AV := .agg [.int .i64 (W : Int), .int .i64 (Hh : Int), .lst p 3 false (sq.map avS)]
theorem bo_encP (A : Heap) (d : Nat) (p : Bool) (W Hh : Nat) (l : List (List Sq)) : mapO (borrow A (d + 4)) (l.map (encP p W Hh)) = some (l.map (encP p W Hh)) := bo_map (fun sq => by
  simp only [encP, bo_agg, mapO, bo_int, bo_lS]) l
/-- How deep a value goes. -/
def dOK : Nat → AV → Bool
  | 0, _ => false
  | d + 1, v => match v with
    | .iface _ x => dOK d x
    | .agg xs => xs.all (dOK d)
    | .tup xs => xs.all (dOK d)
    | _ => true
theorem mapO_all {d : Nat} {n : Nat} (ih : ∀ v, dOK d v = true → ∃ r, embed n d v = some r ∧ dOK d r = true) : ∀ xs : List AV, xs.all (dOK d) = true → ∃ ys, mapO (embed n d) xs = some ys ∧ ys.all (dOK d) = true
  | [], _ => ⟨[], rfl, rfl⟩
  | x :: r, h => by
    simp only [List.all_cons, Bool.and_eq_true] at h
    obtain ⟨y, h1, h2⟩ := ih x h.1
    obtain ⟨ys, h3, h4⟩ := mapO_all ih r h.2
    exact ⟨y :: ys, mapO_cons h1 h3, by simp only [List.all_cons, h2, h4, Bool.true_and]⟩
theorem dOK_emb (n : Nat) : ∀ d v, dOK d v = true → ∃ r, embed n d v = some r ∧ dOK d r = true := by
  intro d
  induction d with
  | zero => intro v h; cases h
  | succ d ih =>
    intro v h
    cases v with
    | lst p sz nil xs => cases p <;> exact ⟨_, rfl, rfl⟩
    | agg xs =>
      obtain ⟨ys, h1, h2⟩ := mapO_all ih xs h
      exact ⟨.agg ys, by simp [embed, h1], h2⟩
    | tup xs =>
      obtain ⟨ys, h1, h2⟩ := mapO_all ih xs h
      exact ⟨.tup ys, by simp [embed, h1], h2⟩
    | iface t x =>
      obtain ⟨y, h1, h2⟩ := ih x h
      exact ⟨.iface t y, by simp [embed, h1], h2⟩
    | _ => exact ⟨_, rfl, rfl⟩
def BlkD (b : Blk) : Prop := b.els.all (dOK depth) = true
def HpD (H : Heap) : Prop := ∀ b, b ∈ H → BlkD b
theorem HpD.emb {H : Heap} (h : HpD H) (n : Nat) : ∃ H2, mapO (embedB n depth) H = some H2 ∧ HpD H2 := by
  induction H with
  | nil => exact ⟨[], rfl, fun b hb => by cases hb⟩
  | cons b r ih =>
    obtain ⟨H2, h1, h2⟩ := ih fun c hc => h c (by simp [hc])
    obtain ⟨ys, h3, h4⟩ := mapO_all (dOK_emb n depth) b.els (h b (by simp))
    refine ⟨⟨b.ty, b.sz, ys⟩ :: H2, mapO_cons (by simp only [embedB, h3]) h1, fun c hc => ?_⟩
    rcases List.mem_cons.1 hc with rfl | hc
    · exact h4
    · exact h2 c hc
theorem HpD.app {H B : Heap} (h : HpD H) (hb : HpD B) : HpD (H ++ B) := fun c hc => by
  rcases List.mem_append.1 hc with hc | hc
  · exact h c hc
  · exact hb c hc
theorem HpD.one {b : Blk} (h : BlkD b) : HpD [b] := fun c hc => by
  obtain rfl := List.mem_singleton.1 hc; exact h
theorem HpD.set {H : Heap} {b : Blk} {k : Nat} (h : HpD H) (hb : BlkD b) : HpD (H.set k b) := fun c hc => by
  rcases List.mem_or_eq_of_mem_set hc with hc | rfl
  · exact h c hc
  · exact hb
theorem mapO_getD {α β : Type} {f : α → Option β} {xs : List α} {ys : List β} (h : mapO f xs = some ys) {i : Nat} {x : α} (hx : xs[i]? = some x) : ∃ y, f x = some y ∧ ys[i]? = some y := by
  induction xs generalizing ys i with
  | nil => cases hx
  | cons a r ih =>
    simp only [mapO] at h
    cases ha : f a with
    | none => rw [ha] at h; cases h
    | some y =>
      rw [ha] at h
      cases hr : mapO f r with
      | none => rw [hr] at h; cases h
      | some l =>
        rw [hr] at h
        cases h
        cases i with
        | zero => simp at hx; subst hx; exact ⟨y, ha, rfl⟩
        | succ i => simp at hx; obtain ⟨z, h1, h2⟩ := ih hr hx; exact ⟨z, h1, by simpa using h2⟩
abbrev Ent := Nat × List Sq
/-- A cut with its squares in a block. -/
def avB (W Hh : Nat) (e : Ent) : AV := .agg [.int .i64 (W : Int), .int .i64 (Hh : Int), .sl e.1 3 e.2.length 0 e.2.length]
def Hold (A : Heap) (e : Ent) : Prop := A[e.1]? = some ⟨80, 3, e.2.map avS⟩
theorem avB_dOK (W Hh : Nat) (e : Ent) (d : Nat) : dOK (d + 2) (avB W Hh e) = true := rfl
theorem avB_bo {A : Heap} {W Hh : Nat} {e : Ent} (h : Hold A e) (d : Nat) : borrow A (d + 4) (avB W Hh e) = some (encP false W Hh e.2) := by
  have hm := bo_avS A d e.2
  simp only [avB, encP, bo_agg, mapO, bo_int]
  rw [bo_sl h (by simp) (by simp) (ys := e.2.map avS) (by rw [List.drop_zero, List.take_of_length_le (by simp)]; exact hm)]
theorem avBs_bo {A : Heap} {W Hh : Nat} (d : Nat) : ∀ es : List Ent, (∀ e, e ∈ es → Hold A e) → mapO (borrow A (d + 4)) (es.map (avB W Hh)) = some ((es.map Prod.snd).map (encP false W Hh))
  | [], _ => rfl
  | e :: r, h => mapO_cons (avB_bo (h e (by simp)) d) (avBs_bo d r fun e he => h e (by simp [he]))
theorem avB_emb (n d W Hh : Nat) (e : Ent) : embed n (d + 2) (avB W Hh e) = some (avB W Hh (e.1 + n, e.2)) := rfl
theorem avBs_emb (n d W Hh : Nat) (es : List Ent) : mapO (embed n (d + 2)) (es.map (avB W Hh)) = some ((es.map fun e => (e.1 + n, e.2)).map (avB W Hh)) := by
  induction es with
  | nil => rfl
  | cons e r ih => exact mapO_cons (avB_emb n d W Hh e) ih
/-- A list of cuts, each with its squares in a block of its own, at the head of a block. -/
structure CutsAt (A : Heap) (W Hh : Nat) (v : AV) (es : List Ent) : Prop where
  sl : ∃ id rest, v = .sl id 3 (es.map (avB W Hh) ++ rest).length 0 es.length ∧ A[id]? = some ⟨37, 3, es.map (avB W Hh) ++ rest⟩
  hold : ∀ e, e ∈ es → Hold A e
  nd : (es.map Prod.fst).Nodup
end Go.Ev.Z
end

section
/- What running the program's list of all cuts is asked to come to, its squares in blocks of their own. -/
set_option linter.unusedVariables false
namespace Go.Ev.Z
open Go Go.Ev
def ents : Nat → List (List Sq) → List Ent
  | _, [] => []
  | n, s :: r => (n, s) :: ents (n + 1) r
theorem ents_snd : ∀ (l : List (List Sq)) (n : Nat), (ents n l).map Prod.snd = l
  | [], _ => rfl
  | s :: r, n => by simp only [ents, List.map_cons, ents_snd r (n + 1)]
theorem ents_len : ∀ (l : List (List Sq)) (n : Nat), (ents n l).length = l.length
  | [], _ => rfl
  | s :: r, n => by simp only [ents, List.length_cons, ents_len r (n + 1)]
theorem ents_ge : ∀ (l : List (List Sq)) (n : Nat) (e : Ent), e ∈ ents n l → n ≤ e.1
  | [], _, _, h => by cases h
  | s :: r, n, e, h => by
    rcases List.mem_cons.1 h with rfl | h
    · exact Nat.le_refl _
    · have := ents_ge r (n + 1) e h; omega
theorem ents_nd : ∀ (l : List (List Sq)) (n : Nat), ((ents n l).map Prod.fst).Nodup
  | [], _ => by simp [ents]
  | s :: r, n => by
    simp only [ents, List.map_cons, List.nodup_cons]
    refine ⟨fun h => ?_, ents_nd r (n + 1)⟩
    obtain ⟨e, he, h1⟩ := List.mem_map.1 h
    have := ents_ge r (n + 1) e he
    omega
noncomputable section
def ownD (l : List (List Sq)) (v : AV) (A1 : Heap) : Option (Nat × Nat × Nat × Nat × Blk × List (Option Blk) × Bool) :=
  match embed 0 depth v with
  | some (.sl id sz ver off len) => match mapO (embedB 0 depth) A1 with
    | some A2 => match A2[id]? with
      | some b => some (sz, ver, off, len, b, (ents 5 l).map (fun e => A2[e.1]?), A2.all fun b => b.els.all (dOK depth))
      | none => none
    | none => none
  | _ => none
def AllRunB (T : Tab) (f : FuncId) (w h : Nat) (l : List (List Sq)) : Prop :=
  (match evFX T 60 40 f [.int .i64 (Int.ofNat w), .int .i64 (Int.ofNat h)] [] with
    | some (v, A1) => ownD l v A1
    | none => none) = some (3, l.length, 0, l.length, ⟨37, 3, (ents 5 l).map (avB w h)⟩, l.map (fun sq => some ⟨80, 3, sq.map avS⟩), true)
end
end Go.Ev.Z
end
