/- Polynomials in h: the program's plus, times, later. -/
import Derived.Test.YtjamdnbabfodkaaJetP
import Derived.Test.YtjamdnbabfodkaaJetM
import Derived.Test.YtjamdnbabfodkaaMgA
import Derived.Test.YtjamdnbabfodkaaLast
namespace Go.Proofs.Ytjamdnbabfodkaa
open Go.RowKit
set_option linter.unusedSimpArgs false
set_option linter.unusedVariables false
set_option maxRecDepth 20000

/-- A row of the call's own that is being filled; nothing else has changed. -/
structure FillS (w wr : World) (g n : Nat) (zs : List Int) : Prop where
  own : OwnI wr g (g + 1) (some ⟨g, 0, none⟩) n n zs
  low : Below w.heap.size w wr
  glo : w.heap.size ≤ g
section
variable {w wr : World} {g n : Nat} {zs : List Int}
theorem FillS.drew (h : FillS w wr g n zs) : FillS w wr.drew g n zs := ⟨h.own.same (fun _ _ _ => rfl), h.low.drew, h.glo⟩
theorem FillS.set (h : FillS w wr g n zs) (i : Nat) {x : Int} (hx : R64 x) : FillS w (wr.setCell ⟨g, i, none⟩ (.int .i64 x)) g n (zs.set i x) :=
  ⟨⟨by rw [List.map_set]; exact (h.own.own.stored i (.int .i64 x)).1, h.own.lt, fun y hy => by
    rcases List.mem_or_eq_of_mem_set hy with hy | rfl
    · exact h.own.rng y hy
    · exact hx⟩, h.low.setCell (p := ⟨g, i, none⟩) h.glo _, h.glo⟩
theorem FillS.cell (h : FillS w wr g n zs) {i : Nat} (hi : i < n) : ∃ v, wr.cell? ⟨g, i, none⟩ = some (.int .i64 v) ∧ zs[i]? = some v ∧ R64 v ∧ wr.frozen? ⟨g, i, none⟩ = false := by
  have hl := h.own.len
  refine ⟨zs[i], ?_, List.getElem?_eq_getElem (by omega), h.own.rng _ (List.getElem_mem _), h.own.own.frozenAt i⟩
  rw [h.own.own.cellAt i (by omega), List.getElem?_map, List.getElem?_eq_getElem (by omega)]
  rfl
theorem FillS.done (h : FillS w wr g n zs) : OwnI wr w.heap.size wr.heap.size (some ⟨g, 0, none⟩) n n zs ∧ Below w.heap.size w wr :=
  ⟨h.own.wide h.glo (by have := (h.own.lt_size _ rfl).2; exact this), h.low⟩
end
theorem FillS.start (w : World) (n : Nat) (hn : n ≤ 1000) : FillS w (w.alloc (.cells (zeros n) 3)) w.heap.size n (zeroJ n) :=
  ⟨⟨owns_zeros w n (by omega) (Nat.le_refl _), fun ad e => by injection e with e; subst e; exact Nat.lt_succ_self _, fun x hx => by have := (List.mem_replicate.1 hx).2; subst this; constructor <;> omega⟩, below_alloc _ _, Nat.le_refl _⟩
def mixJ (new old : List Int) (j : Nat) : List Int := new.take j ++ old.drop j
theorem mixJ_zero (new old : List Int) : mixJ new old 0 = old := by simp [mixJ]
theorem mixJ_all {new old : List Int} {k : Nat} (h1 : new.length = k) (h2 : old.length = k) : mixJ new old k = new := by simp [mixJ, List.take_of_length_le (Nat.le_of_eq h1), List.drop_eq_nil_of_le (Nat.le_of_eq h2)]
theorem mixJ_at {new old : List Int} {k j : Nat} (h1 : new.length = k) (hj : j < k) : (mixJ new old j)[j]? = old[j]? := by
  unfold mixJ
  rw [List.getElem?_append_right (by simp; omega)]
  simp [h1, Nat.min_eq_left (Nat.le_of_lt hj)]
theorem mixJ_set {new old : List Int} {k j : Nat} {x : Int} (h1 : new.length = k) (h2 : old.length = k) (hj : j < k) (hx : new[j]? = some x) : (mixJ new old j).set j x = mixJ new old (j + 1) := by
  unfold mixJ
  apply List.ext_getElem?
  intro i
  by_cases e : i = j
  · subst e
    rw [List.getElem?_set_self (by simp [h1, h2]; omega), List.getElem?_append_left (by simp; omega), List.getElem?_take_of_lt (by omega), hx]
  · rw [List.getElem?_set_ne (by omega)]
    by_cases e2 : i < j
    · rw [List.getElem?_append_left (by simp; omega), List.getElem?_append_left (by simp; omega), List.getElem?_take_of_lt e2, List.getElem?_take_of_lt (by omega)]
    · rw [List.getElem?_append_right (by simp; omega), List.getElem?_append_right (by simp; omega)]
      simp [h1]
      congr 1
      omega
theorem jplus_at {xs ys : List Int} {k : Int} {j : Nat} {x y : Int} (hx : xs[j]? = some x) (hy : ys[j]? = some y) : (jplus xs ys k)[j]? = some (plusF x (timesF y k)) := by
  have h1 := (List.getElem?_eq_some_iff.1 hx).1
  rw [jplus, tabJ_at _ h1]
  simp [List.getD, hx, hy]

end Go.Proofs.Ytjamdnbabfodkaa
