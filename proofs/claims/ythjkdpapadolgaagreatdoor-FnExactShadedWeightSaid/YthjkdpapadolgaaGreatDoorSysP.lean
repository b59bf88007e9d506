/- Systems of equations in plain Lean; rows that lie in memory and are changed in place. -/
import Derived.Test.YthjkdpapadolgaaGreatDoorRowsW
namespace Go.Proofs.YthjkdpapadolgaaGreatDoor
open Go.RowKit
set_option linter.unusedSimpArgs false
set_option linter.unusedVariables false
set_option maxRecDepth 20000

/-- element j of row i -/
def atM (M : List (List Int)) (i j : Nat) : Int := (M.getD i []).getD j 0
/-- the first row from 'a' on, within fuel rows, whose element in column c is not zero; else the end -/
def pivF (M : List (List Int)) (c : Nat) : Nat → Nat → Nat
  | 0, a => a
  | f + 1, a => if atM M a c = 0 then pivF M c f (a + 1) else a
def swapF (M : List (List Int)) (i j : Nat) : List (List Int) := (M.set i (M.getD j [])).set j (M.getD i [])
/-- the first k elements of a row times x -/
def scalRowF (x : Int) (r : List Int) : List Int := r.map (fun y => timesF y x)
def elimF (m : Int) (r top : List Int) : List Int := r.zipWith (fun y t => minusF y (m * t)) top
/-- rows i, .. i + f - 1 with the row 'top' taken off -/
def elimsF (c top : Nat) : Nat → Nat → List (List Int) → List (List Int)
  | 0, _, M => M
  | f + 1, i, M => elimsF c top f (i + 1) (if i = top ∨ atM M i c = 0 then M else M.set i (elimF (atM M i c) (M.getD i []) (M.getD top [])))
def stepF (c : Nat) (M : List (List Int)) (piv : List Int) : List (List Int) × List Int :=
  let a := pivF M c (M.length - piv.length) piv.length
  if a = M.length then (M, piv)
  else
    let M1 := swapF M a piv.length
    let M2 := M1.set piv.length (scalRowF (invF (atM M1 piv.length c)) (M1.getD piv.length []))
    (elimsF c piv.length M.length 0 M2, piv ++ [(c : Int)])
def redF : Nat → Nat → List (List Int) → List Int → List (List Int) × List Int
  | 0, _, M, piv => (M, piv)
  | f + 1, c, M, piv => redF f (c + 1) (stepF c M piv).1 (stepF c M piv).2

/-- rows of width k with numbers -/
def NumM (k : Nat) (M : List (List Int)) : Prop := ∀ r ∈ M, r.length = k ∧ ∀ x ∈ r, 0 ≤ x ∧ x < 1000000271

theorem NumM.row {k : Nat} {M : List (List Int)} (h : NumM k M) {i : Nat} (hi : i < M.length) : (M.getD i []).length = k ∧ ∀ x ∈ M.getD i [], 0 ≤ x ∧ x < 1000000271 := by
  have e : M.getD i [] = M[i] := by simp [hi]
  rw [e]
  exact h _ (List.getElem_mem hi)
theorem getM? {M : List (List Int)} {i : Nat} (hi : i < M.length) : M[i]? = some (M.getD i []) := by simp [hi]
theorem NumM.set {k : Nat} {M : List (List Int)} (h : NumM k M) {r : List Int} (hr : r.length = k ∧ ∀ x ∈ r, 0 ≤ x ∧ x < 1000000271) (i : Nat) : NumM k (M.set i r) := by
  intro s hs
  rcases List.mem_or_eq_of_mem_set hs with hs | rfl
  · exact h s hs
  · exact hr
theorem NumM.swap {k : Nat} {M : List (List Int)} (h : NumM k M) {i j : Nat} (hi : i < M.length) (hj : j < M.length) : NumM k (swapF M i j) := (h.set (h.row hj) i).set (h.row hi) j
theorem at_num {k : Nat} {M : List (List Int)} (h : NumM k M) {i j : Nat} (hi : i < M.length) (hj : j < k) : (M.getD i [])[j]? = some (atM M i j) ∧ 0 ≤ atM M i j ∧ atM M i j < 1000000271 := by
  obtain ⟨h1, h2⟩ := h.row hi
  have e : (M.getD i [])[j]? = some (atM M i j) := by
    unfold atM
    rw [List.getD_eq_getElem?_getD (l := M.getD i []), List.getElem?_eq_getElem (by omega)]
    rfl
  exact ⟨e, h2 _ (List.mem_of_getElem? e)⟩
theorem num_scale (x : Int) {k : Nat} {r : List Int} (h : r.length = k) : (scalRowF x r).length = k ∧ ∀ y ∈ scalRowF x r, 0 ≤ y ∧ y < 1000000271 := by
  refine ⟨by simpa [scalRowF] using h, fun y hy => ?_⟩
  obtain ⟨z, _, rfl⟩ := List.mem_map.1 hy
  unfold timesF
  exact ⟨Int.emod_nonneg _ (by omega), Int.emod_lt_of_pos _ (by omega)⟩
theorem num_elim (m : Int) {k : Nat} {r t : List Int} (h : r.length = k) (ht : t.length = k) : (elimF m r t).length = k ∧ ∀ y ∈ elimF m r t, 0 ≤ y ∧ y < 1000000271 := by
  refine ⟨by simp [elimF, h, ht], fun y hy => ?_⟩
  unfold elimF at hy
  obtain ⟨j, hj, e⟩ := List.getElem_of_mem hy
  rw [List.getElem_zipWith] at e
  rw [← e]
  unfold minusF
  exact ⟨Int.emod_nonneg _ (by omega), Int.emod_lt_of_pos _ (by omega)⟩

section
variable {w w' : World} {lo : Nat} {A : Option Addr} {n c : Nat} {vs : List Value} {xss : List (List Int)}
/-- a row and where it lies, if it is not empty -/
theorem RowsO.rowAt (h : RowsO w lo A n c vs xss) {k : Nat} {xs : List Int} (hk : xss[k]? = some xs) (hx : 0 < xs.length) : ∃ b d, vs[k]? = some (.slice (some ⟨b, 0, none⟩) xs.length d) ∧ w.ownsRow lo 3 1 (.slice (some ⟨b, 0, none⟩) xs.length d) xs.length (xs.map (Value.int .i64)) ∧ (∀ x ∈ xs, R64 x) ∧ xs.length ≤ d ∧ d ≤ 9223372036854775807 ∧ lo ≤ b ∧ b < w.heap.size ∧ (∀ g, A = some ⟨g, 0, none⟩ → b ≠ g) := by
  obtain ⟨B, m, d, e1, e2, e3⟩ := h.row k xs hk
  obtain rfl : xs.length = m := by have := own_len e2; simpa using this
  have hs := h.sep k _ e1
  rcases e2.2 with ⟨_, e⟩ | ⟨b, cap, cur, e, h1, h2, h3, h4, _⟩
  · omega
  · injection e with e4 e5 e6
    subst e4 e6
    refine ⟨b, d, e1, e2, e3, h3, by unfold maxLen at h4; omega, h1, (Array.getElem?_eq_some_iff.1 h2).1, fun g hg => ?_⟩
    subst hg
    rcases hs with hs | hs
    · simp [Value.ownBlock] at hs
    · simpa [Value.ownBlock] using hs

/-- a store into a row -/
theorem RowsO.setIn {g : Nat} (h : RowsO w lo (some ⟨g, 0, none⟩) n c vs xss) {k : Nat} {xs : List Int} (hk : xss[k]? = some xs) {b m d : Nat} (hv : vs[k]? = some (.slice (some ⟨b, 0, none⟩) m d)) (j : Nat) {x : Int} (hr : R64 x) :
    RowsO (w.setCell ⟨b, j, none⟩ (.int .i64 x)) lo (some ⟨g, 0, none⟩) n c vs (xss.set k (xs.set j x)) := by
  have hvl := h.vlen
  have hxl := h.len
  have hkn := (List.getElem?_eq_some_iff.1 hv).1
  have hne : ∀ b', b' ≠ b → (w.setCell ⟨b, j, none⟩ (.int .i64 x)).heap[b']? = w.heap[b']? := fun b' hb => Below.heap_setCell _ _ _ _ hb
  have hbg : g ≠ b := by
    rcases h.sep k _ hv with e | e
    · simp [Value.ownBlock] at e
    · intro e2; subst e2; exact e rfl
  refine ⟨owns_same h.own (fun ad e => by injection e with e; subst e; exact hne g hbg), by simpa using hxl, fun i ys hi => ?_, h.sep, h.sep2⟩
  by_cases e : i = k
  · subst e
    rw [List.getElem?_set_self (by omega)] at hi
    injection hi with hi
    subst hi
    obtain ⟨B, m', d', e1, e2, e3⟩ := h.row i xs hk
    rw [hv] at e1
    injection e1 with e1
    injection e1 with e4 e5 e6
    subst e4 e5 e6
    refine ⟨_, _, _, hv, ?_, fun y hy => ?_⟩
    · rw [List.map_set]
      exact (e2.stored j (.int .i64 x)).1
    · rcases List.mem_or_eq_of_mem_set hy with hy | rfl
      · exact e3 y hy
      · exact hr
  · rw [List.getElem?_set_ne (by omega)] at hi
    obtain ⟨B, m', d', e1, e2, e3⟩ := h.row i ys hi
    refine ⟨B, m', d', e1, owns_same e2 (fun ad e4 => hne ad.block ?_), e3⟩
    subst e4
    rcases h.sep2 i k _ _ e e1 hv with e5 | e5
    · simp [Value.ownBlock] at e5
    · intro e6
      exact e5 (by simp [Value.ownBlock, e6])

/-- two rows exchanged -/
theorem RowsO.swap {g : Nat} (h : RowsO w lo (some ⟨g, 0, none⟩) n c vs xss) {i j : Nat} {u v : Value} (hi : vs[i]? = some u) (hj : vs[j]? = some v) :
    RowsO ((w.setCell ⟨g, i, none⟩ v).setCell ⟨g, j, none⟩ u) lo (some ⟨g, 0, none⟩) n c ((vs.set i v).set j u) (swapF xss i j) := by
  have hvl := h.vlen
  have hxl := h.len
  have hin := (List.getElem?_eq_some_iff.1 hi).1
  have hjn := (List.getElem?_eq_some_iff.1 hj).1
  have st1 := h.own.stored i v
  have st2 := st1.1.stored j u
  have hne : ∀ b', b' ≠ g → ((w.setCell ⟨g, i, none⟩ v).setCell ⟨g, j, none⟩ u).heap[b']? = w.heap[b']? := fun b' hb => (Below.heap_setCell _ _ _ _ hb).trans (Below.heap_setCell _ _ _ _ hb)
  -- which row now lies at k
  let s : Nat → Nat := fun k => if k = j then i else if k = i then j else k
  have hvs : ∀ k, ((vs.set i v).set j u)[k]? = vs[s k]? := by
    intro k
    show _ = vs[if k = j then i else if k = i then j else k]?
    by_cases e1 : k = j
    · subst e1
      rw [if_pos rfl, List.getElem?_set_self (by simpa using hjn), hi]
    · rw [if_neg e1, List.getElem?_set_ne (by omega)]
      by_cases e2 : k = i
      · subst e2
        rw [if_pos rfl, List.getElem?_set_self hin, hj]
      · rw [if_neg e2, List.getElem?_set_ne (by omega)]
  have hxs : ∀ k, (swapF xss i j)[k]? = xss[s k]? := by
    intro k
    show ((xss.set i (xss.getD j [])).set j (xss.getD i []))[k]? = xss[if k = j then i else if k = i then j else k]?
    by_cases e1 : k = j
    · subst e1
      rw [if_pos rfl, List.getElem?_set_self (by simp; omega), List.getElem?_eq_getElem (by omega)]
      simp [show i < xss.length by omega]
    · rw [if_neg e1, List.getElem?_set_ne (by omega)]
      by_cases e2 : k = i
      · subst e2
        rw [if_pos rfl, List.getElem?_set_self (by omega), List.getElem?_eq_getElem (by omega)]
        simp [show j < xss.length by omega]
      · rw [if_neg e2, List.getElem?_set_ne (by omega)]
  have hinj : ∀ a b, a ≠ b → s a ≠ s b := by
    intro a b hab
    show (if a = j then i else if a = i then j else a) ≠ (if b = j then i else if b = i then j else b)
    split <;> split <;> (try split) <;> (try split) <;> omega
  refine ⟨st2.1, by simpa [swapF] using hxl, fun k ys hk => ?_, fun k z hk => ?_, fun a b y z hab ha hb => ?_⟩
  · rw [hxs] at hk
    obtain ⟨B, m', d', e1, e2, e3⟩ := h.row _ ys hk
    refine ⟨B, m', d', (hvs k).trans e1, owns_same e2 (fun ad e4 => hne ad.block ?_), e3⟩
    subst e4
    rcases h.sep _ _ e1 with e5 | e5
    · simp [Value.ownBlock] at e5
    · intro e6
      exact e5 (by simp [Value.ownBlock, e6])
  · rw [hvs] at hk
    exact h.sep _ z hk
  · rw [hvs] at ha hb
    exact h.sep2 _ _ y z (hinj a b hab) ha hb
end
end Go.Proofs.YthjkdpapadolgaaGreatDoor
