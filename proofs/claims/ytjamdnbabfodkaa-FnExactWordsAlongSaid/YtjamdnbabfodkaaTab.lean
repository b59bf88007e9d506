/- Tableaus and pairs of them: the statements' helpers, TableauOk and PairOk of both texts. -/
import Derived.Test.YtjamdnbabfodkaaMgA
namespace Go.Proofs.Ytjamdnbabfodkaa
open Go.RowKit
set_option linter.unusedSimpArgs false
set_option linter.unusedVariables false
set_option maxRecDepth 20000

/-- A block of cells, whole. -/
structure BlkN (w : World) (g : Nat) (vs : Array Value) : Prop where
  h : ∃ T, w.heap[g]? = some (.cells vs T (0, 0))
section
variable {w w' : World} {g lo hi : Nat} {vs : Array Value}
theorem BlkN.lt (h : BlkN w g vs) : g < w.heap.size := by
  obtain ⟨T, h⟩ := h.h
  exact (Array.getElem?_eq_some_iff.1 h).1
theorem BlkN.c (h : BlkN w g vs) (i : Nat) {v : Value} (hv : vs[i]? = some v) : w.cell? ⟨g, i, none⟩ = some v := by
  obtain ⟨T, h⟩ := h.h
  rw [cell_of_row w g i vs T (0, 0) h]; exact hv
theorem BlkN.f (h : BlkN w g vs) (i : Nat) : w.frozen? ⟨g, i, none⟩ = false := by
  obtain ⟨T, h⟩ := h.h
  exact frozen_of_row w g i vs T h
theorem BlkN.new (w : World) (vs : Array Value) (T : TypeId) : BlkN (w.alloc (.cells vs T)) w.heap.size vs := ⟨T, heap_alloc_new w _⟩
theorem BlkN.same (h : BlkN w g vs) (hs : w'.heap[g]? = w.heap[g]?) : BlkN w' g vs := by
  obtain ⟨T, h⟩ := h.h
  exact ⟨T, hs.trans h⟩
theorem BlkN.below (h : BlkN w g vs) (hb : Below w.heap.size w w') : BlkN w' g vs := h.same (hb.block g h.lt)
theorem BlkN.drew (h : BlkN w g vs) : BlkN w.drew g vs := h.same rfl
theorem BlkN.touch (h : BlkN w g vs) (ht : Touch lo hi w w') (hd : g < lo ∨ hi ≤ g) : BlkN w' g vs := h.same (ht.block g h.lt hd)
theorem BlkN.alloc (h : BlkN w g vs) (o : Obj) : BlkN (w.alloc o) g vs := h.same (Below.heap_alloc _ _ _ h.lt)
theorem BlkN.set (h : BlkN w g vs) (i : Nat) (x : Value) : BlkN (w.setCell ⟨g, i, none⟩ x) g (vs.setIfInBounds i x) := by
  obtain ⟨T, hh⟩ := h.h
  exact ⟨T, by simp [World.setCell, Array.getElem?_modify, hh]⟩
theorem BlkN.far (h : BlkN w g vs) {b i : Nat} (hne : g ≠ b) (x : Value) : BlkN (w.setCell ⟨b, i, none⟩ x) g vs := h.same (Below.heap_setCell _ ⟨b, i, none⟩ _ g hne)
end

abbrev tabV (s : Int) (A : Option Addr) (n c : Nat) (B : Option Addr) (m d : Nat) : Array Value := #[.int .i64 s, .slice A n c, .slice B m d]

def sz2F (n m : Nat) (left : Int) : Int := if left - n < 0 then -1 else if left - n - m < 0 then -1 else left - n - m
theorem sz2F_ok {n m : Nat} {left : Int} (h : (n : Int) + m ≤ left) : sz2F n m left = left - n - m := by
  unfold sz2F
  rw [if_neg (by omega), if_neg (by omega)]
theorem sz2F_big {n m : Nat} {left : Int} (h : left < (n : Int) + m) : sz2F n m left = -1 := by
  unfold sz2F
  split
  · rfl
  · rw [if_pos (by omega)]

def tabEqF (s : Int) (xs ys : List Int) (s' : Int) (xs' ys' : List Int) : Bool := decide (s = s') && (decide (xs = xs') && decide (ys = ys'))
def tabOkF (s : Int) (xs ys : List Int) : Bool := (decide (0 ≤ s) && decide (s ≤ 8)) && (decide ((xs.length : Int) = s * s) && (decide ((ys.length : Int) = s) && (allNumF xs && allNumF ys)))
end Go.Proofs.Ytjamdnbabfodkaa
