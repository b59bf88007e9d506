/- What every outer proof needs: a parameter's reading as my walks take it. -/
import Derived.Test.YtcjppomkonbbcaaRows
import Derived.Test.YtcjppomkonbbcaaBase
import Derived.ProofKit
import Derived.OpenShut
import Derived.ShutString
import Derived.ChangeOld
import Derived.Below
namespace Go.Proofs.Ytcjppomkonbbcaa
open Go.ChangeShapes Go.WideShapes Go.ChangeAt Go.RowKit

theorem r64_of_wf {n : Int} (h : (Lit.int .i64 n).wf = true) : R64 n := by
  simp [Lit.wf, IntKind.min, IntKind.max, IntKind.signed, IntKind.bits] at h
  exact h

section
variable {H : Type} {enc : TypeId × Value → H} {W : World} {sp : Nat → Bool} {held : Bool} {fuel : Nat} {cs : List Value} {x : DataW H × List MemPlace}

theorem cells_ints (h : DataW.trod enc Try.prog W 0 sp held fuel 24 cs = some x) : ∃ A n c xs, cs = [.slice A n c] ∧ Ints W 0 W.heap.size A n c xs := by
  rcases open_ints Try.underlying24 Try.underlying3 (by kernel_rfl) h with ⟨rfl, _⟩ | ⟨a, len, cap, zs, rfl, _, hl, hm, hz, _, hcell, hwz⟩
  · exact ⟨none, 0, 0, [], rfl, Ints.nil_ _ _ _⟩
  · have hle : len ≤ zs.length := by rw [hz]; split <;> omega
    refine ⟨some a, len, cap, zs.take len, rfl, by simp; omega, hl, by unfold maxLen at hm; omega, fun hn => ?_, fun y hy => r64_of_wf (hwz y (List.mem_of_mem_take hy))⟩
    have hat : ∀ j y, (zs.take len)[j]? = some y → W.cell? (a.add j) = some (.int .i64 y) := by
      intro j y hy
      rw [List.getElem?_take] at hy
      split at hy
      · rename_i hj
        rw [hcell j (by omega)]
        simp [List.getD, hy]
      · cases hy
    refine ⟨a, rfl, Nat.zero_le _, ?_, hat⟩
    have h0 := hat 0 (zs[0]'(by omega)) (by simp [hn])
    have := World.block_lt_of_cell? W _ h0
    rwa [block_of_add] at this

theorem open_pint {v : Value} {d : DataW H} {p : List MemPlace} (h : DataW.Trod enc Try.prog W 0 sp held 3 v d p) (hv : ∃ k n, v = .int k n) : ∃ a, v = .int .i64 a ∧ R64 a := by
  obtain ⟨m, hm⟩ := h
  obtain ⟨n, hn, _, wf⟩ := DataW.trod_int Try.underlying3 hm
  obtain ⟨k, n', rfl⟩ := hv
  simp [Value.cells] at hn
  obtain ⟨rfl, rfl⟩ := hn
  exact ⟨_, rfl, r64_of_wf wf⟩
theorem open_pints {A : Option Addr} {n c : Nat} {d : DataW H} {p : List MemPlace} (h : DataW.Trod enc Try.prog W 0 sp held 24 (.slice A n c) d p) : ∃ xs, Ints W 0 W.heap.size A n c xs := by
  obtain ⟨m, hm⟩ := h
  obtain ⟨A', n', c', xs, he, hi⟩ := cells_ints hm
  simp [Value.cells] at he
  obtain ⟨rfl, rfl, rfl⟩ := he
  exact ⟨xs, hi⟩
end
end Go.Proofs.Ytcjppomkonbbcaa
