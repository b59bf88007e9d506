/- Systems of equations in plain Lean; rows that lie in memory and are changed in place. -/
import Derived.Test.YtfijcieponfcpaaGreatDoorRowsW
import Derived.Test.YtfijcieponfcpaaGreatDoorNum
import Derived.Test.YtfijcieponfcpaaGreatDoorLast
namespace Go.Proofs.YtfijcieponfcpaaGreatDoor
open Go.RowKit
set_option linter.unusedSimpArgs false
set_option linter.unusedVariables false
set_option maxRecDepth 20000

/-- element j of row i -/
def atM (M : List (List Int)) (i j : Nat) : Int := (M.getD i []).getD j 0
/-- the first row from 'a' on, within fuel rows, whose element in column c is not zero; else the end -/
def pivF (M : List (List Int)) (c : Nat) : Nat → Nat → Nat
  | 0, a => a
  | f + 1, a => if atM M a c = 0 then pivF M c f (a + 1) else a
def swapF (M : List (List Int)) (i j : Nat) : List (List Int) := (M.set i (M.getD j [])).set j (M.getD i [])
/-- the first k elements of a row times x -/
def scalRowF (x : Int) (r : List Int) : List Int := r.map (fun y => timesF y x)
def elimF (m : Int) (r top : List Int) : List Int := r.zipWith (fun y t => minusF y (m * t)) top
/-- rows i, .. i + f - 1 with the row 'top' taken off -/
def elimsF (c top : Nat) : Nat → Nat → List (List Int) → List (List Int)
  | 0, _, M => M
  | f + 1, i, M => elimsF c top f (i + 1) (if i = top ∨ atM M i c = 0 then M else M.set i (elimF (atM M i c) (M.getD i []) (M.getD top [])))
def stepF (c : Nat) (M : List (List Int)) (piv : List Int) : List (List Int) × List Int :=
  let a := pivF M c (M.length - piv.length) piv.length
  if a = M.length then (M, piv)
  else
    let M1 := swapF M a piv.length
    let M2 := M1.set piv.length (scalRowF (invF (atM M1 piv.length c)) (M1.getD piv.length []))
    (elimsF c piv.length M.length 0 M2, piv ++ [(c : Int)])
def redF : Nat → Nat → List (List Int) → List Int → List (List Int) × List Int
  | 0, _, M, piv => (M, piv)
  | f + 1, c, M, piv => redF f (c + 1) (stepF c M piv).1 (stepF c M piv).2

/-- rows of width k with numbers -/
def NumM (k : Nat) (M : List (List Int)) : Prop := ∀ r ∈ M, r.length = k ∧ ∀ x ∈ r, 0 ≤ x ∧ x < 1000000271

theorem NumM.row {k : Nat} {M : List (List Int)} (h : NumM k M) {i : Nat} (hi : i < M.length) : (M.getD i []).length = k ∧ ∀ x ∈ M.getD i [], 0 ≤ x ∧ x < 1000000271 := by
  have e : M.getD i [] = M[i] := by simp [hi]
  rw [e]
  exact h _ (List.getElem_mem hi)
theorem getM? {M : List (List Int)} {i : Nat} (hi : i < M.length) : M[i]? = some (M.getD i []) := by simp [hi]
theorem NumM.set {k : Nat} {M : List (List Int)} (h : NumM k M) {r : List Int} (hr : r.length = k ∧ ∀ x ∈ r, 0 ≤ x ∧ x < 1000000271) (i : Nat) : NumM k (M.set i r) := by
  intro s hs
  rcases List.mem_or_eq_of_mem_set hs with hs | rfl
  · exact h s hs
  · exact hr
theorem NumM.swap {k : Nat} {M : List (List Int)} (h : NumM k M) {i j : Nat} (hi : i < M.length) (hj : j < M.length) : NumM k (swapF M i j) := (h.set (h.row hj) i).set (h.row hi) j
theorem at_num {k : Nat} {M : List (List Int)} (h : NumM k M) {i j : Nat} (hi : i < M.length) (hj : j < k) : (M.getD i [])[j]? = some (atM M i j) ∧ 0 ≤ atM M i j ∧ atM M i j < 1000000271 := by
  obtain ⟨h1, h2⟩ := h.row hi
  have e : (M.getD i [])[j]? = some (atM M i j) := by
    unfold atM
    rw [List.getD_eq_getElem?_getD (l := M.getD i []), List.getElem?_eq_getElem (by omega)]
    rfl
  exact ⟨e, h2 _ (List.mem_of_getElem? e)⟩
theorem num_scale (x : Int) {k : Nat} {r : List Int} (h : r.length = k) : (scalRowF x r).length = k ∧ ∀ y ∈ scalRowF x r, 0 ≤ y ∧ y < 1000000271 := by
  refine ⟨by simpa [scalRowF] using h, fun y hy => ?_⟩
  obtain ⟨z, _, rfl⟩ := List.mem_map.1 hy
  unfold timesF
  exact ⟨Int.emod_nonneg _ (by omega), Int.emod_lt_of_pos _ (by omega)⟩
theorem num_elim (m : Int) {k : Nat} {r t : List Int} (h : r.length = k) (ht : t.length = k) : (elimF m r t).length = k ∧ ∀ y ∈ elimF m r t, 0 ≤ y ∧ y < 1000000271 := by
  refine ⟨by simp [elimF, h, ht], fun y hy => ?_⟩
  unfold elimF at hy
  obtain ⟨j, hj, e⟩ := List.getElem_of_mem hy
  rw [List.getElem_zipWith] at e
  rw [← e]
  unfold minusF
  exact ⟨Int.emod_nonneg _ (by omega), Int.emod_lt_of_pos _ (by omega)⟩

section
variable {w w' : World} {lo : Nat} {A : Option Addr} {n c : Nat} {vs : List Value} {xss : List (List Int)}
/-- a row and where it lies, if it is not empty -/
theorem RowsO.rowAt (h : RowsO w lo A n c vs xss) {k : Nat} {xs : List Int} (hk : xss[k]? = some xs) (hx : 0 < xs.length) : ∃ b d, vs[k]? = some (.slice (some ⟨b, 0, none⟩) xs.length d) ∧ w.ownsRow lo 3 1 (.slice (some ⟨b, 0, none⟩) xs.length d) xs.length (xs.map (Value.int .i64)) ∧ (∀ x ∈ xs, R64 x) ∧ xs.length ≤ d ∧ d ≤ 9223372036854775807 ∧ lo ≤ b ∧ b < w.heap.size ∧ (∀ g, A = some ⟨g, 0, none⟩ → b ≠ g) := by
  obtain ⟨B, m, d, e1, e2, e3⟩ := h.row k xs hk
  obtain rfl : xs.length = m := by have := own_len e2; simpa using this
  have hs := h.sep k _ e1
  rcases e2.2 with ⟨_, e⟩ | ⟨b, cap, cur, e, h1, h2, h3, h4, _⟩
  · omega
  · injection e with e4 e5 e6
    subst e4 e6
    refine ⟨b, d, e1, e2, e3, h3, by unfold maxLen at h4; omega, h1, (Array.getElem?_eq_some_iff.1 h2).1, fun g hg => ?_⟩
    subst hg
    rcases hs with hs | hs
    · simp [Value.ownBlock] at hs
    · simpa [Value.ownBlock] using hs

/-- a store into a row -/
theorem RowsO.setIn {g : Nat} (h : RowsO w lo (some ⟨g, 0, none⟩) n c vs xss) {k : Nat} {xs : List Int} (hk : xss[k]? = some xs) {b m d : Nat} (hv : vs[k]? = some (.slice (some ⟨b, 0, none⟩) m d)) (j : Nat) {x : Int} (hr : R64 x) :
    RowsO (w.setCell ⟨b, j, none⟩ (.int .i64 x)) lo (some ⟨g, 0, none⟩) n c vs (xss.set k (xs.set j x)) := by
  have hvl := h.vlen
  have hxl := h.len
  have hkn := (List.getElem?_eq_some_iff.1 hv).1
  have hne : ∀ b', b' ≠ b → (w.setCell ⟨b, j, none⟩ (.int .i64 x)).heap[b']? = w.heap[b']? := fun b' hb => Below.heap_setCell _ _ _ _ hb
  have hbg : g ≠ b := by
    rcases h.sep k _ hv with e | e
    · simp [Value.ownBlock] at e
    · intro e2; subst e2; exact e rfl
  refine ⟨owns_same h.own (fun ad e => by injection e with e; subst e; exact hne g hbg), by simpa using hxl, fun i ys hi => ?_, h.sep, h.sep2⟩
  by_cases e : i = k
  · subst e
    rw [List.getElem?_set_self (by omega)] at hi
    injection hi with hi
    subst hi
    obtain ⟨B, m', d', e1, e2, e3⟩ := h.row i xs hk
    rw [hv] at e1
    injection e1 with e1
    injection e1 with e4 e5 e6
    subst e4 e5 e6
    refine ⟨_, _, _, hv, ?_, fun y hy => ?_⟩
    · rw [List.map_set]
      exact (e2.stored j (.int .i64 x)).1
    · rcases List.mem_or_eq_of_mem_set hy with hy | rfl
      · exact e3 y hy
      · exact hr
  · rw [List.getElem?_set_ne (by omega)] at hi
    obtain ⟨B, m', d', e1, e2, e3⟩ := h.row i ys hi
    refine ⟨B, m', d', e1, owns_same e2 (fun ad e4 => hne ad.block ?_), e3⟩
    subst e4
    rcases h.sep2 i k _ _ e e1 hv with e5 | e5
    · simp [Value.ownBlock] at e5
    · intro e6
      exact e5 (by simp [Value.ownBlock, e6])

/-- two rows exchanged -/
theorem RowsO.swap {g : Nat} (h : RowsO w lo (some ⟨g, 0, none⟩) n c vs xss) {i j : Nat} {u v : Value} (hi : vs[i]? = some u) (hj : vs[j]? = some v) :
    RowsO ((w.setCell ⟨g, i, none⟩ v).setCell ⟨g, j, none⟩ u) lo (some ⟨g, 0, none⟩) n c ((vs.set i v).set j u) (swapF xss i j) := by
  have hvl := h.vlen
  have hxl := h.len
  have hin := (List.getElem?_eq_some_iff.1 hi).1
  have hjn := (List.getElem?_eq_some_iff.1 hj).1
  have st1 := h.own.stored i v
  have st2 := st1.1.stored j u
  have hne : ∀ b', b' ≠ g → ((w.setCell ⟨g, i, none⟩ v).setCell ⟨g, j, none⟩ u).heap[b']? = w.heap[b']? := fun b' hb => (Below.heap_setCell _ _ _ _ hb).trans (Below.heap_setCell _ _ _ _ hb)
  -- which row now lies at k
  let s : Nat → Nat := fun k => if k = j then i else if k = i then j else k
  have hvs : ∀ k, ((vs.set i v).set j u)[k]? = vs[s k]? := by
    intro k
    show _ = vs[if k = j then i else if k = i then j else k]?
    by_cases e1 : k = j
    · subst e1
      rw [if_pos rfl, List.getElem?_set_self (by simpa using hjn), hi]
    · rw [if_neg e1, List.getElem?_set_ne (by omega)]
      by_cases e2 : k = i
      · subst e2
        rw [if_pos rfl, List.getElem?_set_self hin, hj]
      · rw [if_neg e2, List.getElem?_set_ne (by omega)]
  have hxs : ∀ k, (swapF xss i j)[k]? = xss[s k]? := by
    intro k
    show ((xss.set i (xss.getD j [])).set j (xss.getD i []))[k]? = xss[if k = j then i else if k = i then j else k]?
    by_cases e1 : k = j
    · subst e1
      rw [if_pos rfl, List.getElem?_set_self (by simp; omega), List.getElem?_eq_getElem (by omega)]
      simp [show i < xss.length by omega]
    · rw [if_neg e1, List.getElem?_set_ne (by omega)]
      by_cases e2 : k = i
      · subst e2
        rw [if_pos rfl, List.getElem?_set_self (by omega), List.getElem?_eq_getElem (by omega)]
        simp [show j < xss.length by omega]
      · rw [if_neg e2, List.getElem?_set_ne (by omega)]
  have hinj : ∀ a b, a ≠ b → s a ≠ s b := by
    intro a b hab
    show (if a = j then i else if a = i then j else a) ≠ (if b = j then i else if b = i then j else b)
    split <;> split <;> (try split) <;> (try split) <;> omega
  refine ⟨st2.1, by simpa [swapF] using hxl, fun k ys hk => ?_, fun k z hk => ?_, fun a b y z hab ha hb => ?_⟩
  · rw [hxs] at hk
    obtain ⟨B, m', d', e1, e2, e3⟩ := h.row _ ys hk
    refine ⟨B, m', d', (hvs k).trans e1, owns_same e2 (fun ad e4 => hne ad.block ?_), e3⟩
    subst e4
    rcases h.sep _ _ e1 with e5 | e5
    · simp [Value.ownBlock] at e5
    · intro e6
      exact e5 (by simp [Value.ownBlock, e6])
  · rw [hvs] at hk
    exact h.sep _ z hk
  · rw [hvs] at ha hb
    exact h.sep2 _ _ y z (hinj a b hab) ha hb
end
end Go.Proofs.YtfijcieponfcpaaGreatDoor
/- A matrix of numbers in memory, changed in place: what a walk needs of it. -/
namespace Go.Proofs.YtfijcieponfcpaaGreatDoor
open Go.RowKit
set_option linter.unusedSimpArgs false
set_option linter.unusedVariables false
set_option maxRecDepth 20000

/-- A matrix of n rows of k numbers: its blocks lie from lo up to hi; the world has changed from lo on only. -/
structure MatB (w0 w : World) (lo hi g n c k : Nat) (vs : List Value) (M : List (List Int)) : Prop where
  rows : RowsO w lo (some ⟨g, 0, none⟩) n c vs M
  lt : ∀ (j : Nat) (v : Value), vs[j]? = some v → ∀ b, v.ownBlock = some b → b < hi
  glt : g < hi
  num : NumM k M
  low : Below lo w0 w

def mixL (new old : List Int) (j : Nat) : List Int := new.take j ++ old.drop j
theorem mixL_zero (new old : List Int) : mixL new old 0 = old := by simp [mixL]
theorem mixL_all {new old : List Int} {k : Nat} (h1 : new.length = k) (h2 : old.length = k) : mixL new old k = new := by simp [mixL, List.take_of_length_le (Nat.le_of_eq h1), List.drop_eq_nil_of_le (Nat.le_of_eq h2)]
theorem mixL_len {new old : List Int} {k j : Nat} (h1 : new.length = k) (h2 : old.length = k) (hj : j ≤ k) : (mixL new old j).length = k := by simp [mixL, h1, h2]; omega
theorem mixL_at {new old : List Int} {k j : Nat} (h1 : new.length = k) (hj : j < k) : (mixL new old j)[j]? = old[j]? := by
  unfold mixL
  rw [List.getElem?_append_right (by simp; omega)]
  simp [h1, Nat.min_eq_left (Nat.le_of_lt hj)]
theorem mixL_set {new old : List Int} {k j : Nat} {x : Int} (h1 : new.length = k) (h2 : old.length = k) (hj : j < k) (hx : new[j]? = some x) : (mixL new old j).set j x = mixL new old (j + 1) := by
  unfold mixL
  apply List.ext_getElem?
  intro i
  by_cases e : i = j
  · subst e
    rw [List.getElem?_set_self (by simp [h1, h2]; omega), List.getElem?_append_left (by simp; omega), List.getElem?_take_of_lt (by omega), hx]
  · rw [List.getElem?_set_ne (by omega)]
    by_cases e2 : i < j
    · rw [List.getElem?_append_left (by simp; omega), List.getElem?_append_left (by simp; omega), List.getElem?_take_of_lt e2, List.getElem?_take_of_lt (by omega)]
    · rw [List.getElem?_append_right (by simp; omega), List.getElem?_append_right (by simp; omega)]
      simp [h1]
      congr 1
      omega
theorem mixL_num {new old : List Int} {k j : Nat} (h1 : new.length = k ∧ ∀ x ∈ new, 0 ≤ x ∧ x < 1000000271) (h2 : old.length = k ∧ ∀ x ∈ old, 0 ≤ x ∧ x < 1000000271) (hj : j ≤ k) : (mixL new old j).length = k ∧ ∀ x ∈ mixL new old j, 0 ≤ x ∧ x < 1000000271 := by
  refine ⟨mixL_len h1.1 h2.1 hj, fun x hx => ?_⟩
  rcases List.mem_append.1 hx with hx | hx
  · exact h1.2 x (List.mem_of_mem_take hx)
  · exact h2.2 x (List.mem_of_mem_drop hx)

section
variable {w0 w w' : World} {lo hi g n c k : Nat} {vs : List Value} {M : List (List Int)}
theorem MatB.len (h : MatB w0 w lo hi g n c k vs M) : M.length = n := h.rows.len
theorem MatB.drew (h : MatB w0 w lo hi g n c k vs M) : MatB w0 w.drew lo hi g n c k vs M := ⟨h.rows.drew, h.lt, h.glt, h.num, h.low.drew⟩
theorem MatB.keep (h : MatB w0 w lo hi g n c k vs M) (hs : ∀ b, b < hi → w'.heap[b]? = w.heap[b]?) (hb : Below lo w w') : MatB w0 w' lo hi g n c k vs M := by
  refine ⟨⟨owns_same h.rows.own (fun ad e => by injection e with e; subst e; exact hs g h.glt), h.rows.len, fun j xs hj => ?_, h.rows.sep, h.rows.sep2⟩, h.lt, h.glt, h.num, h.low.trans hb⟩
  obtain ⟨B, m, d, e1, e2, e3⟩ := h.rows.row j xs hj
  refine ⟨B, m, d, e1, owns_same e2 (fun ad e => hs ad.block (h.lt j _ e1 ad.block ?_)), e3⟩
  subst e
  rfl
theorem MatB.row (h : MatB w0 w lo hi g n c k vs M) {i : Nat} (hi' : i < n) (hk : 0 < k) : ∃ b d, w.cell? ⟨g, i, none⟩ = some (.slice (some ⟨b, 0, none⟩) k d) ∧ vs[i]? = some (.slice (some ⟨b, 0, none⟩) k d) ∧ k ≤ d ∧ d ≤ 9223372036854775807 ∧ b < hi ∧ lo ≤ b ∧ b ≠ g := by
  have hl := h.len
  have hr := h.num.row (i := i) (by omega)
  obtain ⟨b, d, e1, e2, e3, e4, e5, e6, e7, e8⟩ := h.rows.rowAt (getM? (M := M) (i := i) (by omega)) (by rw [hr.1]; exact hk)
  rw [hr.1] at e1 e4
  exact ⟨b, d, h.rows.cell e1, e1, e4, e5, h.lt i _ e1 b rfl, e6, e8 g rfl⟩
theorem MatB.cell (h : MatB w0 w lo hi g n c k vs M) {i j b d : Nat} (hv : vs[i]? = some (.slice (some ⟨b, 0, none⟩) k d)) (hi' : i < n) (hj : j < k) : w.cell? ⟨b, j, none⟩ = some (.int .i64 (atM M i j)) ∧ w.frozen? ⟨b, j, none⟩ = false ∧ 0 ≤ atM M i j ∧ atM M i j < 1000000271 := by
  have hl := h.len
  have hr := h.num.row (i := i) (by omega)
  have ha := at_num h.num (i := i) (by omega) hj
  obtain ⟨B, m, d', e1, e2, _⟩ := h.rows.row i _ (getM? (M := M) (i := i) (by omega))
  rw [hv] at e1
  injection e1 with e1
  injection e1 with e4 e5 e6
  subst e4 e5 e6
  refine ⟨?_, e2.frozenAt j, ha.2⟩
  rw [e2.cellAt j (by omega), List.getElem?_map, ha.1]
  rfl
theorem MatB.setIn (h : MatB w0 w lo hi g n c k vs M) {i j b d : Nat} (hv : vs[i]? = some (.slice (some ⟨b, 0, none⟩) k d)) (hi' : i < n) (hlo : lo ≤ b) {x : Int} (hx : 0 ≤ x ∧ x < 1000000271) :
    MatB w0 (w.setCell ⟨b, j, none⟩ (.int .i64 x)) lo hi g n c k vs (M.set i ((M.getD i []).set j x)) := by
  have hl := h.len
  have hr := h.num.row (i := i) (by omega)
  refine ⟨h.rows.setIn (getM? (by omega)) hv j (by constructor <;> omega), h.lt, h.glt, h.num.set ⟨by simpa using hr.1, fun y hy => ?_⟩ i, h.low.setCell hlo _⟩
  rcases List.mem_or_eq_of_mem_set hy with hy | rfl
  · exact hr.2 y hy
  · exact hx
theorem MatB.swap (h : MatB w0 w lo hi g n c k vs M) {i j : Nat} {u v : Value} (hu : vs[i]? = some u) (hv : vs[j]? = some v) (hi' : i < n) (hj : j < n) (hlo : lo ≤ g) :
    MatB w0 ((w.setCell ⟨g, i, none⟩ v).setCell ⟨g, j, none⟩ u) lo hi g n c k ((vs.set i v).set j u) (swapF M i j) := by
  have hl := h.len
  refine ⟨h.rows.swap hu hv, fun a y ha b hb => ?_, h.glt, h.num.swap (by omega) (by omega), (h.low.setCell hlo _).setCell hlo _⟩
  rcases List.mem_or_eq_of_mem_set (List.mem_of_getElem? ha) with hy | rfl
  · rcases List.mem_or_eq_of_mem_set hy with hy | rfl
    · obtain ⟨p, hp, e⟩ := List.getElem_of_mem hy
      exact h.lt p y (by rw [← e]; exact List.getElem?_eq_getElem hp) b hb
    · exact h.lt j _ hv b hb
  · exact h.lt i _ hu b hb
end
theorem swap_len (M : List (List Int)) (i j : Nat) : (swapF M i j).length = M.length := by simp [swapF]
theorem MatB.fro {w0 w : World} {lo hi g n c k : Nat} {vs : List Value} {M : List (List Int)} (h : MatB w0 w lo hi g n c k vs M) (i : Nat) : w.frozen? ⟨g, i, none⟩ = false := h.rows.own.frozenAt i
theorem piv_step {M : List (List Int)} {c n a : Nat} (ha : a < n) (h : atM M a c = 0) : pivF M c (n - a) a = pivF M c (n - (a + 1)) (a + 1) := by
  obtain ⟨f, hf⟩ : ∃ f, n - a = f + 1 := ⟨n - a - 1, by omega⟩
  rw [hf, pivF, if_pos h, show n - (a + 1) = f by omega]
theorem piv_hit {M : List (List Int)} {c n a : Nat} (ha : a < n) (h : ¬ atM M a c = 0) : pivF M c (n - a) a = a := by
  obtain ⟨f, hf⟩ : ∃ f, n - a = f + 1 := ⟨n - a - 1, by omega⟩
  rw [hf, pivF, if_neg h]
theorem piv_end {M : List (List Int)} {c n : Nat} : pivF M c (n - n) n = n := by rw [Nat.sub_self, pivF]
theorem red_step {cols c : Nat} {M : List (List Int)} {p : List Int} (h : c < cols) : redF (cols - c) c M p = redF (cols - (c + 1)) (c + 1) (stepF c M p).1 (stepF c M p).2 := by
  obtain ⟨f, hf⟩ : ∃ f, cols - c = f + 1 := ⟨cols - c - 1, by omega⟩
  rw [hf, redF, show cols - (c + 1) = f by omega]
theorem red_end {cols : Nat} {M : List (List Int)} {p : List Int} : redF (cols - cols) cols M p = (M, p) := by rw [Nat.sub_self, redF]
theorem step_none {c n m : Nat} {M : List (List Int)} {p : List Int} (hl : M.length = n) (hm : p.length = m) (h : pivF M c (n - m) m = n) : stepF c M p = (M, p) := by
  unfold stepF
  rw [hl, hm, h]
  simp
theorem step_some {c n m a : Nat} {M : List (List Int)} {p : List Int} (hl : M.length = n) (hm : p.length = m) (h : pivF M c (n - m) m = a) (ha : a < n) :
    stepF c M p = (elimsF c m n 0 ((swapF M a m).set m (scalRowF (invF (atM (swapF M a m) m c)) ((swapF M a m).getD m []))), p ++ [(c : Int)]) := by
  unfold stepF
  rw [hl, hm, h]
  simp only []
  rw [if_neg (by omega)]
theorem elims_skip {c top n i : Nat} {M : List (List Int)} (hi : i < n) (h : i = top ∨ atM M i c = 0) : elimsF c top (n - i) i M = elimsF c top (n - (i + 1)) (i + 1) M := by
  obtain ⟨f, hf⟩ : ∃ f, n - i = f + 1 := ⟨n - i - 1, by omega⟩
  rw [hf, elimsF, if_pos h, show n - (i + 1) = f by omega]
theorem elims_row {c top n i : Nat} {M : List (List Int)} (hi : i < n) (h1 : i ≠ top) (h2 : ¬ atM M i c = 0) : elimsF c top (n - i) i M = elimsF c top (n - (i + 1)) (i + 1) (M.set i (elimF (atM M i c) (M.getD i []) (M.getD top []))) := by
  obtain ⟨f, hf⟩ : ∃ f, n - i = f + 1 := ⟨n - i - 1, by omega⟩
  rw [hf, elimsF, if_neg (by rintro (h | h); exact h1 h; exact h2 h), show n - (i + 1) = f by omega]
theorem elims_end {c top n : Nat} {M : List (List Int)} : elimsF c top (n - n) n M = M := by rw [Nat.sub_self, elimsF]
/-- one element of row i set -/
theorem mat_step {M : List (List Int)} {i j k : Nat} {new old : List Int} {x : Int} (hi : i < M.length) (h1 : new.length = k) (h2 : old.length = k) (hj : j < k) (hx : new[j]? = some x) :
    (M.set i (mixL new old j)).set i (((M.set i (mixL new old j)).getD i []).set j x) = M.set i (mixL new old (j + 1)) := by
  have e : (M.set i (mixL new old j)).getD i [] = mixL new old j := by simp [hi]
  rw [e, mixL_set h1 h2 hj hx, List.set_set]
theorem mat_at {M : List (List Int)} {i j k : Nat} {new old : List Int} (hi : i < M.length) (h1 : new.length = k) (hj : j < k) : atM (M.set i (mixL new old j)) i j = old.getD j 0 := by
  have e : (M.set i (mixL new old j)).getD i [] = mixL new old j := by simp [hi]
  unfold atM
  rw [e, List.getD_eq_getElem?_getD, mixL_at h1 hj, List.getD_eq_getElem?_getD]
theorem mat_other {M : List (List Int)} {i i' j : Nat} {r : List Int} (h : i' ≠ i) : atM (M.set i r) i' j = atM M i' j := by
  unfold atM
  rw [List.getD_eq_getElem?_getD (l := M.set i r), List.getElem?_set_ne (Ne.symm h), ← List.getD_eq_getElem?_getD]
theorem mat_self {M : List (List Int)} {i : Nat} (h : i < M.length) : M.set i (M.getD i []) = M := by
  apply List.ext_getElem?
  intro j
  by_cases e : j = i
  · subst e
    rw [List.getElem?_set_self h, getM? h]
  · rw [List.getElem?_set_ne (Ne.symm e)]
theorem scale_at {x : Int} {r : List Int} {j k : Nat} (h : r.length = k) (hj : j < k) : (scalRowF x r)[j]? = some (timesF (r.getD j 0) x) := by
  unfold scalRowF
  rw [List.getElem?_map, List.getElem?_eq_getElem (by omega)]
  simp [show j < r.length by omega]
theorem elim_at {m : Int} {r t : List Int} {j k : Nat} (h : r.length = k) (ht : t.length = k) (hj : j < k) : (elimF m r t)[j]? = some (minusF (r.getD j 0) (m * t.getD j 0)) := by
  unfold elimF
  rw [List.getElem?_eq_getElem (by simp; omega)]
  simp [show j < r.length by omega, show j < t.length by omega]
end Go.Proofs.YtfijcieponfcpaaGreatDoor
/- Rows pushed whole onto an outer slice; the plain solution of a system. -/
namespace Go.Proofs.YtfijcieponfcpaaGreatDoor
open Go.RowKit
set_option linter.unusedSimpArgs false
set_option linter.unusedVariables false
set_option maxRecDepth 20000

section
variable {w w' : World} {lo : Nat} {A : Option Addr} {n c : Nat} {vs : List Value} {xss : List (List Int)}
theorem RowsO.olt (h : RowsO w lo A n c vs xss) (j : Nat) (v : Value) (hv : vs[j]? = some v) (k : Nat) (hk : v.ownBlock = some k) : lo ≤ k ∧ k < w.heap.size := by
  have hj := (List.getElem?_eq_some_iff.1 hv).1
  have hvl := h.vlen
  have hl := h.len
  obtain ⟨B, m, d, e1, e2, _⟩ := h.row j _ (List.getElem?_eq_getElem (by omega))
  rw [hv] at e1
  injection e1 with e1
  subst e1
  exact e2.lt k hk
theorem RowsO.pushRow (h : RowsO w lo A n c vs xss) {B : Option Addr} {m d : Nat} {xs : List Int}
    (hr : w.ownsRow lo 3 1 (.slice B m d) m (xs.map (Value.int .i64))) (hR : ∀ x ∈ xs, R64 x) {hb : Nat}
    (hB : ∀ ad, B = some ad → hb ≤ ad.block) (hA : ∀ ad, A = some ad → ad.block < hb) (hvb : ∀ (j : Nat) (v : Value), vs[j]? = some v → ∀ b, v.ownBlock = some b → b < hb)
    {A' : Option Addr} {c' : Nat} (hap : Appended w lo 22 1 A n c A' (n + 1) c' (vs ++ [.slice B m d]) w') :
    RowsO w' lo A' (n + 1) c' (vs ++ [.slice B m d]) (xss ++ [xs]) := by
  obtain ⟨h1, h2, h3⟩ := hap
  have hvl := h.vlen
  have hvx : vs.length = xss.length := by rw [hvl, h.len]
  have hbw : ∀ k, (Value.slice B m d).ownBlock = some k → hb ≤ k ∧ k < w.heap.size := fun k hk => by
    obtain ⟨ad, rfl, rfl⟩ := ownBlock_eq.1 hk
    exact ⟨hB ad rfl, (owns_lt hr ad rfl).2⟩
  have hAb : ∀ k, oBlk A n c = some k → k < hb := fun k hk => by
    obtain ⟨ad, rfl, rfl⟩ := ownBlock_eq.1 hk
    exact hA ad rfl
  have nA : ∀ k, oBlk A' (n+1) c' = some k → oBlk A n c = some k ∨ w.heap.size ≤ k := by
    intro k hk
    obtain ⟨ad, rfl, had⟩ := ownBlock_eq.1 hk
    rcases h3 with h3 | h3
    · have := h3 ad rfl
      subst this
      exact .inl (by simp [Value.ownBlock, had])
    · exact .inr (by have := h3 ad rfl; omega)
  have sepA : ∀ v : Value, (v.ownBlock = none ∨ v.ownBlock ≠ oBlk A n c) → (∀ k, v.ownBlock = some k → k < w.heap.size) → v.ownBlock = none ∨ v.ownBlock ≠ oBlk A' (n+1) c' := by
    intro v hv hk
    cases hb2 : v.ownBlock with
    | none => exact .inl rfl
    | some k =>
      refine .inr fun e => ?_
      rcases nA k e.symm with e2 | e2
      · rcases hv with h5 | h5
        · rw [h5] at hb2; exact absurd hb2 (by simp)
        · exact h5 (hb2.trans e2.symm)
      · have := hk k hb2; omega
  have newA : (Value.slice B m d).ownBlock = none ∨ (Value.slice B m d).ownBlock ≠ oBlk A n c := by
    cases hb2 : (Value.slice B m d).ownBlock with
    | none => exact .inl rfl
    | some k => exact .inr fun e => by have := hAb k e.symm; have := (hbw k hb2).1; omega
  have hc : ∀ (j : Nat) (v : Value), (vs ++ [Value.slice B m d])[j]? = some v → (j < n ∧ vs[j]? = some v) ∨ (j = n ∧ v = .slice B m d) := by
    intro j v hj
    by_cases hl : j < n
    · rw [List.getElem?_append_left (by omega)] at hj
      exact .inl ⟨hl, hj⟩
    · have hlt := (List.getElem?_eq_some_iff.1 hj).1
      simp at hlt
      obtain rfl : j = n := by omega
      refine .inr ⟨rfl, ?_⟩
      rw [← hvl] at hj
      simpa using hj.symm
  refine ⟨h1, by simp [h.len], fun j ys hj => ?_, fun j v hj => ?_, fun i j u v hij hi hj => ?_⟩
  · by_cases hl : j < n
    · rw [List.getElem?_append_left (by have := h.len; omega)] at hj
      obtain ⟨B1, m1, d1, e1, e2, e3⟩ := h.row j ys hj
      exact ⟨B1, m1, d1, by rw [List.getElem?_append_left (by omega)]; exact e1, e2.kept h2 (h.sep j _ e1), e3⟩
    · have hlt := (List.getElem?_eq_some_iff.1 hj).1
      have hln := h.len
      simp at hlt
      obtain rfl : j = n := by omega
      obtain rfl : xs = ys := by rw [← hln] at hj; simpa using hj
      refine ⟨_, _, _, ?_, hr.kept h2 newA, hR⟩
      rw [← hvl]; simp
  · rcases hc j v hj with ⟨_, hv⟩ | ⟨_, rfl⟩
    · exact sepA v (h.sep j v hv) fun k hk => (h.olt j v hv k hk).2
    · exact sepA _ newA fun k hk => (hbw k hk).2
  · rcases hc i u hi with ⟨_, hu⟩ | ⟨hi1, rfl⟩
    · rcases hc j v hj with ⟨_, hv⟩ | ⟨_, rfl⟩
      · exact h.sep2 i j u v hij hu hv
      · cases hb2 : u.ownBlock with
        | none => exact .inl rfl
        | some k => exact .inr fun e => by have := (hbw k e.symm).1; have := hvb i u hu k hb2; omega
    · rcases hc j v hj with ⟨_, hv⟩ | ⟨hj1, rfl⟩
      · cases hb2 : (Value.slice B m d).ownBlock with
        | none => exact .inl rfl
        | some k => exact .inr fun e => by have := (hbw k hb2).1; have := hvb j v hv k e.symm; omega
      · omega
end

/-- each row with its right side behind it -/
def augF (M : List (List Int)) (r : List Int) : List (List Int) := M.zipWith (fun x y => x ++ [y]) r
/-- the last elements of the reduced rows: the solution, where each column has its pivot -/
def solF (k : Nat) (M : List (List Int)) (r : List Int) : List Int := (redF k 0 (augF M r) []).1.map fun x => x.getD k 0
/-- every column has its pivot -/
def FullF (k : Nat) (M : List (List Int)) (r : List Int) : Prop := (redF k 0 (augF M r) []).2 = (List.range k).map fun i : Nat => (i : Int)

/-- a power by squares, for the kernel -/
def fpowGo : Nat → Int → Int → Int → Int
  | 0, o, _, _ => o
  | f + 1, o, x, k => if k ≤ 0 then o else if k % 2 = 1 then fpowGo f (o * x % 1000000271) (x * x % 1000000271) (k / 2) else fpowGo f o (x * x % 1000000271) (k / 2)
theorem fpow_go : ∀ (f : Nat) (o x k : Int), 0 ≤ o → o < 1000000271 → 0 ≤ k → k < 2 ^ f → fpowGo f o x k = (o * x ^ k.toNat) % 1000000271
  | 0, o, x, k, h0, h1, h2, h3 => by
    obtain rfl : k = 0 := by simp at h3; omega
    exact (pow_stop h0 h1).symm
  | f + 1, o, x, k, h0, h1, h2, h3 => by
    rw [fpowGo]
    split
    · obtain rfl : k = 0 := by omega
      exact (pow_stop h0 h1).symm
    · rw [Int.pow_succ] at h3
      split
      · rw [fpow_go f _ _ _ (Int.emod_nonneg _ (by omega)) (Int.emod_lt_of_pos _ (by omega)) (by omega) (by omega), ← pow_odd h2 (by assumption)]
      · rw [fpow_go f _ _ _ h0 h1 (by omega) (by omega), ← pow_even h2 (by omega)]
theorem powF_fast {a k : Int} (h : 0 ≤ k) (h2 : k < 2 ^ 40) : powF a k = fpowGo 40 1 (resF a) k := by
  rw [powF_start h, fpow_go 40 1 _ _ (by omega) (by omega) h h2]
theorem inv_fast (a : Int) : invF a = fpowGo 40 1 (resF a) 1000000269 := powF_fast (by omega) (by omega)
end Go.Proofs.YtfijcieponfcpaaGreatDoor
/- Systems of equations: the program's walks. -/
namespace Go.Proofs.YtfijcieponfcpaaGreatDoor
open Go.RowKit
set_option linter.unusedSimpArgs false
set_option linter.unusedVariables false
set_option maxRecDepth 20000

theorem RowsO.ints2 {w : World} {lo g n c : Nat} {vs : List Value} {xss : List (List Int)} (h : RowsO w lo (some ⟨g, 0, none⟩) n c vs xss) : Ints2 w lo w.heap.size (some ⟨g, 0, none⟩) n c xss := by
  have hc := h.capb
  have gl := h.own.lt g rfl
  refine ⟨h.len, hc.1, hc.2, fun _ => ⟨_, rfl, gl.1, gl.2, fun j xs hj => ?_⟩⟩
  obtain ⟨B, m, d, e1, e2, e3⟩ := h.row j xs hj
  refine ⟨B, m, d, ?_, ?_⟩
  · simpa [Addr.add_lit] using h.cell e1
  · exact (OwnI.mk e2 (fun ad e => (owns_lt e2 ad e).2) e3 : OwnI w lo w.heap.size B m d xs).ints

theorem numF_row {k : Nat} {M : List (List Int)} (h : NumM k M) {i : Nat} {xs : List Int} (hx : M[i]? = some xs) : xs.length = k ∧ allNumF xs = true := by
  have := h xs (List.mem_of_getElem? hx)
  exact ⟨this.1, allNumF_of this.2⟩

set_option maxHeartbeats 1000000 in
theorem impl_systemOk (A : Option Addr) (n c : Nat) (xss : List (List Int)) (lo hi k : Nat) (w : World) (h : Ints2 w lo hi A n c xss) (hN : NumM k xss) (hn : 0 < n) (hn2 : n ≤ 8) (hk : 0 < k) (hk2 : k ≤ 8) :
    Calls Tryz.prog 98 #[.slice A n c] w fun e w' => e = .returned (.bool true) ∧ w = w' := by
  have hcp := h.cap
  have hm := h.max
  have HN := hide hN
  clear hN
  have hz1 : ((n : Int) == 0) = false := by simp; omega
  have hz2 : ¬ (40 : Int) < n := by omega
  go_enter Tryz.func98, Tryz.ntmps98
  go_wp2_with fail
  go_loop [4, 15] (fun _ i => ∃ (j : Nat), j ≤ n ∧ i = .int .i64 j) (fun _ i => n - (intOf i).toNat)
  case atStart => exact ⟨0, by omega, rfl⟩
  case round =>
    obtain ⟨j, hj, rfl⟩ := hrel
    obtain ⟨ad, B0, m0, d0, xs0, hA0, hc0, hi0, _, hx0⟩ := h.at_ hn
    subst hA0
    have hc00 : w.cell? ad = some (.slice B0 m0 d0) := by cases ad; exact hc0
    clear hc0
    have hm0 := hi0.max
    have hl0 : m0 = k := by rw [← hi0.len]; exact (numF_row HN.out hx0.out).1
    have hcm0 := hi0.cap
    by_cases hlt : j < n
    · obtain ⟨ad', B, m, d, xs, hA, hc, hi, _, hx⟩ := h.at_ hlt
      injection hA with hA
      subst hA
      have hmm := hi.max
      have hcm := hi.cap
      have hl : m = k := by rw [← hi.len]; exact (numF_row HN.out hx.out).1
      have hr := hide (numF_row HN.out hx.out).2
      have HI := hide hi
      clear hi hi0 hx hx0
      subst hl
      subst hl0
      have hq1 : ((m0 : Int) == 0) = false := by simp; omega
      have hq2 : ¬ (40 : Int) < m0 := by omega
      go_wp2_with (go_at_call 60; refine (impl_allNumbers B _ d xs lo hi _ HI.out).mono ?_; rintro e w' ⟨rfl, rfl⟩; rw [hr.out])
      go_round
      case rel => exact ⟨j + 1, by omega, by go_num⟩
      case measure => simp [intOf]; omega
    · obtain rfl : j = n := by omega
      clear hi0 hx0
      go_wp2_with fail
      go_ret
      exact ⟨rfl, rfl⟩
end Go.Proofs.YtfijcieponfcpaaGreatDoor
