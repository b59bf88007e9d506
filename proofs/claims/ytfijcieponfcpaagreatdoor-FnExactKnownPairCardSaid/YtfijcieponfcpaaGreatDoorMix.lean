/- Words times a number, sums of words: the walks of both texts. -/
import Derived.Test.YtfijcieponfcpaaGreatDoorWordsOk
namespace Go.Proofs.YtfijcieponfcpaaGreatDoor
open Go.RowKit
set_option linter.unusedSimpArgs false
set_option linter.unusedVariables false
set_option maxRecDepth 20000

/-- A block of two cells, whole. -/
structure Blk2 (w : World) (g : Nat) (a b : Value) : Prop where
  h : ∃ T, w.heap[g]? = some (.cells #[a, b] T (0, 0))
section
variable {w w' : World} {g lo hi : Nat} {a b : Value}
theorem Blk2.lt (h : Blk2 w g a b) : g < w.heap.size := by
  obtain ⟨T, h⟩ := h.h
  exact (Array.getElem?_eq_some_iff.1 h).1
theorem Blk2.c0 (h : Blk2 w g a b) : w.cell? ⟨g, 0, none⟩ = some a := by
  obtain ⟨T, h⟩ := h.h
  rw [cell_of_row w g 0 #[a, b] T (0, 0) h]; rfl
theorem Blk2.c1 (h : Blk2 w g a b) : w.cell? ⟨g, 1, none⟩ = some b := by
  obtain ⟨T, h⟩ := h.h
  rw [cell_of_row w g 1 #[a, b] T (0, 0) h]; rfl
theorem Blk2.f0 (h : Blk2 w g a b) : w.frozen? ⟨g, 0, none⟩ = false := by
  obtain ⟨T, h⟩ := h.h
  exact frozen_of_row w g 0 #[a, b] T h
theorem Blk2.f1 (h : Blk2 w g a b) : w.frozen? ⟨g, 1, none⟩ = false := by
  obtain ⟨T, h⟩ := h.h
  exact frozen_of_row w g 1 #[a, b] T h
theorem Blk2.new (w : World) (a b : Value) (T : TypeId) : Blk2 (w.alloc (.cells #[a, b] T)) w.heap.size a b := ⟨T, heap_alloc_new w _⟩
theorem Blk2.same (h : Blk2 w g a b) (hs : w'.heap[g]? = w.heap[g]?) : Blk2 w' g a b := by
  obtain ⟨T, h⟩ := h.h
  exact ⟨T, hs.trans h⟩
theorem Blk2.below (h : Blk2 w g a b) (hb : Below w.heap.size w w') : Blk2 w' g a b := h.same (hb.block g h.lt)
theorem Blk2.drew (h : Blk2 w g a b) : Blk2 w.drew g a b := h.same rfl
theorem Blk2.touch (h : Blk2 w g a b) (ht : Touch lo hi w w') (hd : g < lo ∨ hi ≤ g) : Blk2 w' g a b := h.same (ht.block g h.lt hd)
end

/-- A row of integers filled cell by cell: one step. -/
theorem fill_step {w3 wr : World} {g lo n c2 j : Nat} {ys zs : List Int} {v : Int} (hown : wr.ownsRow lo 3 1 (.slice (some ⟨g, 0, none⟩) n c2) n (ys.map (Value.int .i64))) (ht : Touch g (g + 1) w3 wr) (hs : Hid (wr.heap.size = w3.heap.size))
    (hys : Hid (ys.length = n ∧ ys.take j = zs.take j)) (hz : zs[j]? = some v) (hj : j < n) :
    wr.cell? ⟨g, j, none⟩ = some (.int .i64 (ys.getD j 0)) ∧ wr.frozen? ⟨g, j, none⟩ = false ∧
    Hid ((wr.setCell ⟨g, j, none⟩ (.int .i64 v)).ownsRow lo 3 1 (.slice (some ⟨g, 0, none⟩) n c2) n ((ys.set j v).map (Value.int .i64)) ∧ Touch g (g + 1) w3 (wr.setCell ⟨g, j, none⟩ (.int .i64 v)) ∧
      Hid ((wr.setCell ⟨g, j, none⟩ (.int .i64 v)).heap.size = w3.heap.size) ∧ Hid ((ys.set j v).length = n ∧ (ys.set j v).take (j + 1) = zs.take (j + 1))) := by
  have hst := hown.stored j (.int .i64 v)
  refine ⟨?_, hown.frozenAt j, by simpa [List.map_set] using hst.1, ht.setCell (.inl ⟨Nat.le_refl _, by simp⟩) _, ?_, by simpa using hys.out.1, take_set_step hys.out.2 (by have := hys.out.1; omega) hz⟩
  · rw [hown.cellAt j (by omega)]
    have := hys.out.1
    simp [List.getD, show j < ys.length by omega]
  · show _ = _
    rw [← hs.out]
    simp [World.setCell]
theorem fill_end {n j : Nat} {ys zs : List Int} (hys : Hid (ys.length = n ∧ ys.take j = zs.take j)) (hz : zs.length = n) (hj : n ≤ j) : ys = zs := by
  have h1 := hys.out
  rw [List.take_of_length_le (by omega), List.take_of_length_le (by omega)] at h1
  exact h1.2

theorem Blk2.store {w : World} {g : Nat} {a b : Value} (h : Blk2 w g a b) (x y : Value) : Cell2 ((w.setCell ⟨g, 0, none⟩ x).setCell ⟨g, 1, none⟩ y) g x y := by
  obtain ⟨T, hh⟩ := h.h
  have h1 : (w.setCell ⟨g, 0, none⟩ x).heap[g]? = some (.cells #[x, b] T (0, 0)) := by simp [World.setCell, Array.getElem?_modify, hh]
  have h2 : ((w.setCell ⟨g, 0, none⟩ x).setCell ⟨g, 1, none⟩ y).heap[g]? = some (.cells #[x, y] T (0, 0)) := by
    generalize w.setCell ⟨g, 0, none⟩ x = v at h1 ⊢
    simp [World.setCell, Array.getElem?_modify, h1]
  exact ⟨by rw [cell_of_row _ g 0 #[x, y] T (0, 0) h2]; rfl, by rw [cell_of_row _ g 1 #[x, y] T (0, 0) h2]; rfl, (Array.getElem?_eq_some_iff.1 h2).1⟩

theorem cell_far {w : World} {g h o : Nat} {x y v : Value} (hc : w.cell? ⟨h, o, none⟩ = some v) (hne : ¬ h = g) : ((w.setCell ⟨g, 0, none⟩ x).setCell ⟨g, 1, none⟩ y).cell? ⟨h, o, none⟩ = some v :=
  (World.cell?_of_block (w := w) (a := ⟨h, o, none⟩) ((Below.heap_setCell _ ⟨g, 1, none⟩ _ h hne).trans (Below.heap_setCell _ ⟨g, 0, none⟩ _ h hne))).trans hc
theorem cell_alloc_far {w : World} {h o : Nat} {v : Value} {ob : Obj} (hc : w.cell? ⟨h, o, none⟩ = some v) : (w.alloc ob).cell? ⟨h, o, none⟩ = some v :=
  (World.cell?_of_block (w := w) (a := ⟨h, o, none⟩) (Below.heap_alloc _ _ _ (World.block_lt_of_cell? w _ hc))).trans hc

def scaleF (o : Int) (xs : List Int) (k : Int) : Int × List Int := if wordsOkF o xs then (o, xs.map (fun x => timesF x k)) else (0, [])
theorem wordsOk_facts {o : Int} {xs : List Int} (h : wordsOkF o xs = true) : (0 ≤ o ∧ o ≤ 5) ∧ xs.length = cntN o ∧ ∀ x ∈ xs, 0 ≤ x ∧ x < 1000000271 := by
  unfold wordsOkF at h
  simp only [Bool.and_eq_true, decide_eq_true_eq] at h
  exact ⟨h.1, h.2.1, allNumF_mem h.2.2⟩
theorem r64_of_num {x : Int} (h : 0 ≤ x ∧ x < 1000000271) : R64 x := by constructor <;> omega

def fitF (o : Int) (xs : List Int) (o' : Int) (ys : List Int) : Bool := (wordsOkF o xs && wordsOkF o' ys) && (o == o')


end Go.Proofs.YtfijcieponfcpaaGreatDoor
