/- A matrix of numbers in memory, changed in place: what a walk needs of it. -/
import Derived.Test.YthjkdpapadolgaaGreatDoorSysP
namespace Go.Proofs.YthjkdpapadolgaaGreatDoor
open Go.RowKit
set_option linter.unusedSimpArgs false
set_option linter.unusedVariables false
set_option maxRecDepth 20000

/-- A matrix of n rows of k numbers: its blocks lie from lo up to hi; the world has changed from lo on only. -/
structure MatB (w0 w : World) (lo hi g n c k : Nat) (vs : List Value) (M : List (List Int)) : Prop where
  rows : RowsO w lo (some ⟨g, 0, none⟩) n c vs M
  lt : ∀ (j : Nat) (v : Value), vs[j]? = some v → ∀ b, v.ownBlock = some b → b < hi
  glt : g < hi
  num : NumM k M
  low : Below lo w0 w

def mixL (new old : List Int) (j : Nat) : List Int := new.take j ++ old.drop j
theorem mixL_zero (new old : List Int) : mixL new old 0 = old := by simp [mixL]
theorem mixL_all {new old : List Int} {k : Nat} (h1 : new.length = k) (h2 : old.length = k) : mixL new old k = new := by simp [mixL, List.take_of_length_le (Nat.le_of_eq h1), List.drop_eq_nil_of_le (Nat.le_of_eq h2)]
theorem mixL_len {new old : List Int} {k j : Nat} (h1 : new.length = k) (h2 : old.length = k) (hj : j ≤ k) : (mixL new old j).length = k := by simp [mixL, h1, h2]; omega
theorem mixL_at {new old : List Int} {k j : Nat} (h1 : new.length = k) (hj : j < k) : (mixL new old j)[j]? = old[j]? := by
  unfold mixL
  rw [List.getElem?_append_right (by simp; omega)]
  simp [h1, Nat.min_eq_left (Nat.le_of_lt hj)]
theorem mixL_set {new old : List Int} {k j : Nat} {x : Int} (h1 : new.length = k) (h2 : old.length = k) (hj : j < k) (hx : new[j]? = some x) : (mixL new old j).set j x = mixL new old (j + 1) := by
  unfold mixL
  apply List.ext_getElem?
  intro i
  by_cases e : i = j
  · subst e
    rw [List.getElem?_set_self (by simp [h1, h2]; omega), List.getElem?_append_left (by simp; omega), List.getElem?_take_of_lt (by omega), hx]
  · rw [List.getElem?_set_ne (by omega)]
    by_cases e2 : i < j
    · rw [List.getElem?_append_left (by simp; omega), List.getElem?_append_left (by simp; omega), List.getElem?_take_of_lt e2, List.getElem?_take_of_lt (by omega)]
    · rw [List.getElem?_append_right (by simp; omega), List.getElem?_append_right (by simp; omega)]
      simp [h1]
      congr 1
      omega
theorem mixL_num {new old : List Int} {k j : Nat} (h1 : new.length = k ∧ ∀ x ∈ new, 0 ≤ x ∧ x < 1000000271) (h2 : old.length = k ∧ ∀ x ∈ old, 0 ≤ x ∧ x < 1000000271) (hj : j ≤ k) : (mixL new old j).length = k ∧ ∀ x ∈ mixL new old j, 0 ≤ x ∧ x < 1000000271 := by
  refine ⟨mixL_len h1.1 h2.1 hj, fun x hx => ?_⟩
  rcases List.mem_append.1 hx with hx | hx
  · exact h1.2 x (List.mem_of_mem_take hx)
  · exact h2.2 x (List.mem_of_mem_drop hx)

section
variable {w0 w w' : World} {lo hi g n c k : Nat} {vs : List Value} {M : List (List Int)}
theorem MatB.len (h : MatB w0 w lo hi g n c k vs M) : M.length = n := h.rows.len
theorem MatB.drew (h : MatB w0 w lo hi g n c k vs M) : MatB w0 w.drew lo hi g n c k vs M := ⟨h.rows.drew, h.lt, h.glt, h.num, h.low.drew⟩
theorem MatB.keep (h : MatB w0 w lo hi g n c k vs M) (hs : ∀ b, b < hi → w'.heap[b]? = w.heap[b]?) (hb : Below lo w w') : MatB w0 w' lo hi g n c k vs M := by
  refine ⟨⟨owns_same h.rows.own (fun ad e => by injection e with e; subst e; exact hs g h.glt), h.rows.len, fun j xs hj => ?_, h.rows.sep, h.rows.sep2⟩, h.lt, h.glt, h.num, h.low.trans hb⟩
  obtain ⟨B, m, d, e1, e2, e3⟩ := h.rows.row j xs hj
  refine ⟨B, m, d, e1, owns_same e2 (fun ad e => hs ad.block (h.lt j _ e1 ad.block ?_)), e3⟩
  subst e
  rfl
theorem MatB.row (h : MatB w0 w lo hi g n c k vs M) {i : Nat} (hi' : i < n) (hk : 0 < k) : ∃ b d, w.cell? ⟨g, i, none⟩ = some (.slice (some ⟨b, 0, none⟩) k d) ∧ vs[i]? = some (.slice (some ⟨b, 0, none⟩) k d) ∧ k ≤ d ∧ d ≤ 9223372036854775807 ∧ b < hi ∧ lo ≤ b ∧ b ≠ g := by
  have hl := h.len
  have hr := h.num.row (i := i) (by omega)
  obtain ⟨b, d, e1, e2, e3, e4, e5, e6, e7, e8⟩ := h.rows.rowAt (getM? (M := M) (i := i) (by omega)) (by rw [hr.1]; exact hk)
  rw [hr.1] at e1 e4
  exact ⟨b, d, h.rows.cell e1, e1, e4, e5, h.lt i _ e1 b rfl, e6, e8 g rfl⟩
theorem MatB.cell (h : MatB w0 w lo hi g n c k vs M) {i j b d : Nat} (hv : vs[i]? = some (.slice (some ⟨b, 0, none⟩) k d)) (hi' : i < n) (hj : j < k) : w.cell? ⟨b, j, none⟩ = some (.int .i64 (atM M i j)) ∧ w.frozen? ⟨b, j, none⟩ = false ∧ 0 ≤ atM M i j ∧ atM M i j < 1000000271 := by
  have hl := h.len
  have hr := h.num.row (i := i) (by omega)
  have ha := at_num h.num (i := i) (by omega) hj
  obtain ⟨B, m, d', e1, e2, _⟩ := h.rows.row i _ (getM? (M := M) (i := i) (by omega))
  rw [hv] at e1
  injection e1 with e1
  injection e1 with e4 e5 e6
  subst e4 e5 e6
  refine ⟨?_, e2.frozenAt j, ha.2⟩
  rw [e2.cellAt j (by omega), List.getElem?_map, ha.1]
  rfl
theorem MatB.setIn (h : MatB w0 w lo hi g n c k vs M) {i j b d : Nat} (hv : vs[i]? = some (.slice (some ⟨b, 0, none⟩) k d)) (hi' : i < n) (hlo : lo ≤ b) {x : Int} (hx : 0 ≤ x ∧ x < 1000000271) :
    MatB w0 (w.setCell ⟨b, j, none⟩ (.int .i64 x)) lo hi g n c k vs (M.set i ((M.getD i []).set j x)) := by
  have hl := h.len
  have hr := h.num.row (i := i) (by omega)
  refine ⟨h.rows.setIn (getM? (by omega)) hv j (by constructor <;> omega), h.lt, h.glt, h.num.set ⟨by simpa using hr.1, fun y hy => ?_⟩ i, h.low.setCell hlo _⟩
  rcases List.mem_or_eq_of_mem_set hy with hy | rfl
  · exact hr.2 y hy
  · exact hx
theorem MatB.swap (h : MatB w0 w lo hi g n c k vs M) {i j : Nat} {u v : Value} (hu : vs[i]? = some u) (hv : vs[j]? = some v) (hi' : i < n) (hj : j < n) (hlo : lo ≤ g) :
    MatB w0 ((w.setCell ⟨g, i, none⟩ v).setCell ⟨g, j, none⟩ u) lo hi g n c k ((vs.set i v).set j u) (swapF M i j) := by
  have hl := h.len
  refine ⟨h.rows.swap hu hv, fun a y ha b hb => ?_, h.glt, h.num.swap (by omega) (by omega), (h.low.setCell hlo _).setCell hlo _⟩
  rcases List.mem_or_eq_of_mem_set (List.mem_of_getElem? ha) with hy | rfl
  · rcases List.mem_or_eq_of_mem_set hy with hy | rfl
    · obtain ⟨p, hp, e⟩ := List.getElem_of_mem hy
      exact h.lt p y (by rw [← e]; exact List.getElem?_eq_getElem hp) b hb
    · exact h.lt j _ hv b hb
  · exact h.lt i _ hu b hb
end
theorem swap_len (M : List (List Int)) (i j : Nat) : (swapF M i j).length = M.length := by simp [swapF]
theorem MatB.fro {w0 w : World} {lo hi g n c k : Nat} {vs : List Value} {M : List (List Int)} (h : MatB w0 w lo hi g n c k vs M) (i : Nat) : w.frozen? ⟨g, i, none⟩ = false := h.rows.own.frozenAt i
theorem piv_step {M : List (List Int)} {c n a : Nat} (ha : a < n) (h : atM M a c = 0) : pivF M c (n - a) a = pivF M c (n - (a + 1)) (a + 1) := by
  obtain ⟨f, hf⟩ : ∃ f, n - a = f + 1 := ⟨n - a - 1, by omega⟩
  rw [hf, pivF, if_pos h, show n - (a + 1) = f by omega]
theorem piv_hit {M : List (List Int)} {c n a : Nat} (ha : a < n) (h : ¬ atM M a c = 0) : pivF M c (n - a) a = a := by
  obtain ⟨f, hf⟩ : ∃ f, n - a = f + 1 := ⟨n - a - 1, by omega⟩
  rw [hf, pivF, if_neg h]
theorem piv_end {M : List (List Int)} {c n : Nat} : pivF M c (n - n) n = n := by rw [Nat.sub_self, pivF]
theorem red_step {cols c : Nat} {M : List (List Int)} {p : List Int} (h : c < cols) : redF (cols - c) c M p = redF (cols - (c + 1)) (c + 1) (stepF c M p).1 (stepF c M p).2 := by
  obtain ⟨f, hf⟩ : ∃ f, cols - c = f + 1 := ⟨cols - c - 1, by omega⟩
  rw [hf, redF, show cols - (c + 1) = f by omega]
theorem red_end {cols : Nat} {M : List (List Int)} {p : List Int} : redF (cols - cols) cols M p = (M, p) := by rw [Nat.sub_self, redF]
theorem step_none {c n m : Nat} {M : List (List Int)} {p : List Int} (hl : M.length = n) (hm : p.length = m) (h : pivF M c (n - m) m = n) : stepF c M p = (M, p) := by
  unfold stepF
  rw [hl, hm, h]
  simp
theorem step_some {c n m a : Nat} {M : List (List Int)} {p : List Int} (hl : M.length = n) (hm : p.length = m) (h : pivF M c (n - m) m = a) (ha : a < n) :
    stepF c M p = (elimsF c m n 0 ((swapF M a m).set m (scalRowF (invF (atM (swapF M a m) m c)) ((swapF M a m).getD m []))), p ++ [(c : Int)]) := by
  unfold stepF
  rw [hl, hm, h]
  simp only []
  rw [if_neg (by omega)]
theorem elims_skip {c top n i : Nat} {M : List (List Int)} (hi : i < n) (h : i = top ∨ atM M i c = 0) : elimsF c top (n - i) i M = elimsF c top (n - (i + 1)) (i + 1) M := by
  obtain ⟨f, hf⟩ : ∃ f, n - i = f + 1 := ⟨n - i - 1, by omega⟩
  rw [hf, elimsF, if_pos h, show n - (i + 1) = f by omega]
theorem elims_row {c top n i : Nat} {M : List (List Int)} (hi : i < n) (h1 : i ≠ top) (h2 : ¬ atM M i c = 0) : elimsF c top (n - i) i M = elimsF c top (n - (i + 1)) (i + 1) (M.set i (elimF (atM M i c) (M.getD i []) (M.getD top []))) := by
  obtain ⟨f, hf⟩ : ∃ f, n - i = f + 1 := ⟨n - i - 1, by omega⟩
  rw [hf, elimsF, if_neg (by rintro (h | h); exact h1 h; exact h2 h), show n - (i + 1) = f by omega]
theorem elims_end {c top n : Nat} {M : List (List Int)} : elimsF c top (n - n) n M = M := by rw [Nat.sub_self, elimsF]
/-- one element of row i set -/
theorem mat_step {M : List (List Int)} {i j k : Nat} {new old : List Int} {x : Int} (hi : i < M.length) (h1 : new.length = k) (h2 : old.length = k) (hj : j < k) (hx : new[j]? = some x) :
    (M.set i (mixL new old j)).set i (((M.set i (mixL new old j)).getD i []).set j x) = M.set i (mixL new old (j + 1)) := by
  have e : (M.set i (mixL new old j)).getD i [] = mixL new old j := by simp [hi]
  rw [e, mixL_set h1 h2 hj hx, List.set_set]
theorem mat_at {M : List (List Int)} {i j k : Nat} {new old : List Int} (hi : i < M.length) (h1 : new.length = k) (hj : j < k) : atM (M.set i (mixL new old j)) i j = old.getD j 0 := by
  have e : (M.set i (mixL new old j)).getD i [] = mixL new old j := by simp [hi]
  unfold atM
  rw [e, List.getD_eq_getElem?_getD, mixL_at h1 hj, List.getD_eq_getElem?_getD]
theorem mat_other {M : List (List Int)} {i i' j : Nat} {r : List Int} (h : i' ≠ i) : atM (M.set i r) i' j = atM M i' j := by
  unfold atM
  rw [List.getD_eq_getElem?_getD (l := M.set i r), List.getElem?_set_ne (Ne.symm h), ← List.getD_eq_getElem?_getD]
theorem mat_self {M : List (List Int)} {i : Nat} (h : i < M.length) : M.set i (M.getD i []) = M := by
  apply List.ext_getElem?
  intro j
  by_cases e : j = i
  · subst e
    rw [List.getElem?_set_self h, getM? h]
  · rw [List.getElem?_set_ne (Ne.symm e)]
theorem scale_at {x : Int} {r : List Int} {j k : Nat} (h : r.length = k) (hj : j < k) : (scalRowF x r)[j]? = some (timesF (r.getD j 0) x) := by
  unfold scalRowF
  rw [List.getElem?_map, List.getElem?_eq_getElem (by omega)]
  simp [show j < r.length by omega]
theorem elim_at {m : Int} {r t : List Int} {j k : Nat} (h : r.length = k) (ht : t.length = k) (hj : j < k) : (elimF m r t)[j]? = some (minusF (r.getD j 0) (m * t.getD j 0)) := by
  unfold elimF
  rw [List.getElem?_eq_getElem (by simp; omega)]
  simp [show j < r.length by omega, show j < t.length by omega]
end Go.Proofs.YthjkdpapadolgaaGreatDoor
