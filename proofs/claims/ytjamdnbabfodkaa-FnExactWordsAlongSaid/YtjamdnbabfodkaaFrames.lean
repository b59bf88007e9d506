/- What every outer proof needs: a parameter's reading as my walks take it. -/
import Derived.Test.YtjamdnbabfodkaaRows
import Derived.Test.YtjamdnbabfodkaaBase
import Derived.ProofKit
import Derived.OpenShut
import Derived.ShutString
import Derived.ChangeOld
import Derived.Below
namespace Go.Proofs.Ytjamdnbabfodkaa
open Go.ChangeShapes Go.WideShapes Go.ChangeAt Go.RowKit
set_option linter.unusedSimpArgs false
set_option linter.unusedVariables false
set_option maxRecDepth 20000

theorem r64_of_wf {n : Int} (h : (Lit.int .i64 n).wf = true) : R64 n := by
  simp [Lit.wf, IntKind.min, IntKind.max, IntKind.signed, IntKind.bits] at h
  exact h

section
variable {H : Type} {enc : TypeId × Value → H} {W : World} {sp : Nat → Bool} {held : Bool} {fuel : Nat} {cs : List Value} {x : DataW H × List MemPlace}

theorem cells_ints (h : DataW.trod enc Try.prog W 0 sp held fuel 22 cs = some x) : ∃ A n c xs, cs = [.slice A n c] ∧ Ints W 0 W.heap.size A n c xs := by
  rcases open_ints Try.underlying22 Try.underlying3 (by kernel_rfl) h with ⟨rfl, _⟩ | ⟨a, len, cap, zs, rfl, _, hl, hm, hz, _, hcell, hwz⟩
  · exact ⟨none, 0, 0, [], rfl, Ints.nil_ _ _ _⟩
  · have hle : len ≤ zs.length := by rw [hz]; split <;> omega
    refine ⟨some a, len, cap, zs.take len, rfl, by simp; omega, hl, by unfold maxLen at hm; omega, fun hn => ?_, fun y hy => r64_of_wf (hwz y (List.mem_of_mem_take hy))⟩
    have hat : ∀ j y, (zs.take len)[j]? = some y → W.cell? (a.add j) = some (.int .i64 y) := by
      intro j y hy
      rw [List.getElem?_take] at hy
      split at hy
      · rename_i hj
        rw [hcell j (by omega)]
        simp [List.getD, hy]
      · cases hy
    refine ⟨a, rfl, Nat.zero_le _, ?_, hat⟩
    have h0 := hat 0 (zs[0]'(by omega)) (by simp [hn])
    have := World.block_lt_of_cell? W _ h0
    rwa [block_of_add] at this

theorem open_pint {v : Value} {d : DataW H} {p : List MemPlace} (h : DataW.Trod enc Try.prog W 0 sp held 3 v d p) (hv : ∃ k n, v = .int k n) : ∃ a, v = .int .i64 a ∧ R64 a := by
  obtain ⟨m, hm⟩ := h
  obtain ⟨n, hn, _, wf⟩ := DataW.trod_int Try.underlying3 hm
  obtain ⟨k, n', rfl⟩ := hv
  simp [Value.cells] at hn
  obtain ⟨rfl, rfl⟩ := hn
  exact ⟨_, rfl, r64_of_wf wf⟩
theorem open_pints {A : Option Addr} {n c : Nat} {d : DataW H} {p : List MemPlace} (h : DataW.Trod enc Try.prog W 0 sp held 22 (.slice A n c) d p) : ∃ xs, Ints W 0 W.heap.size A n c xs := by
  obtain ⟨m, hm⟩ := h
  obtain ⟨A', n', c', xs, he, hi⟩ := cells_ints hm
  simp [Value.cells] at he
  obtain ⟨rfl, rfl, rfl⟩ := he
  exact ⟨xs, hi⟩


theorem cells_two {t t0 t1 : TypeId} {f0 f1 : Field} (ht : Try.prog.underlying t = some (.struct #[f0, f1])) (hc : Try.prog.cellsOf t = 2) (h0 : f0.type = t0 ∧ f0.offset = 0 ∧ Try.prog.cellsOf f0.type = 1) (h1 : f1.type = t1 ∧ f1.offset = 1 ∧ Try.prog.cellsOf f1.type = 1)
    (h : DataW.trod enc Try.prog W 0 sp held fuel t cs = some x) : ∃ c0 c1 n y0 y1, cs = [c0, c1] ∧ DataW.trod enc Try.prog W 0 sp held n t0 [c0] = some y0 ∧ DataW.trod enc Try.prog W 0 sp held n t1 [c1] = some y1 := by
  obtain ⟨ys, n, _, _, hl, hn, hf⟩ := DataW.trod_struct ht h
  have hl2 : cs.length = 2 := hl.trans hc
  match cs, hl2 with
  | [c0, c1], _ =>
    have hn2 : ys.length = 2 := hn
    have g0 := hf 0 f0 rfl
    have g1 := hf 1 f1 rfl
    rw [h0.2.1, h0.2.2, h0.1] at g0
    rw [h1.2.1, h1.2.2, h1.1] at g1
    rw [List.getElem?_eq_getElem (by omega)] at g0 g1
    exact ⟨c0, c1, n, _, _, rfl, g0, g1⟩
theorem cells_words (h : DataW.trod enc Try.prog W 0 sp held fuel 24 cs = some x) : ∃ o A n c xs, cs = [.int .i64 o, .slice A n c] ∧ R64 o ∧ Ints W 0 W.heap.size A n c xs := by
  obtain ⟨c0, c1, n, y0, y1, rfl, h0, h1⟩ := cells_two (t0 := 3) (t1 := 22) Try.underlying24 (by kernel_rfl) ⟨rfl, rfl, by kernel_rfl⟩ ⟨rfl, rfl, by kernel_rfl⟩ h
  obtain ⟨a, ha, _, wa⟩ := DataW.trod_int Try.underlying3 h0
  obtain ⟨A, n, c, xs, hb, hi⟩ := cells_ints h1
  simp at ha hb
  subst ha hb
  exact ⟨a, A, n, c, xs, rfl, r64_of_wf wa, hi⟩
theorem open_pwords {v : Value} {d : DataW H} {p : List MemPlace} (h : DataW.Trod enc Try.prog W 0 sp held 24 v d p) (hv : ∃ cs, v = .agg cs) : ∃ o A n c xs, v = .agg #[.int .i64 o, .slice A n c] ∧ R64 o ∧ Ints W 0 W.heap.size A n c xs := by
  obtain ⟨m, hm⟩ := h
  obtain ⟨cs, rfl⟩ := hv
  obtain ⟨o, A, n, c, xs, he, ho, hi⟩ := cells_words hm
  refine ⟨o, A, n, c, xs, ?_, ho, hi⟩
  simp [Value.cells] at he
  exact congrArg Value.agg (Array.ext' (by simpa using he))

theorem open_pstr {v : Value} {d : DataW H} {p : List MemPlace} (h : DataW.Trod enc Try.prog W 0 sp held 9 v d p) {r : Reach} {b0 : Nat} (hval : Value.okWide Try.prog W r b0 9 v) : ∃ s : ByteArray, v = .string s ∧ s.size ≤ maxLen := by
  obtain ⟨s, rfl, hs⟩ := Go.ChangeMaps.open_string Try.underlying9 hval h
  exact ⟨s, rfl, by first | exact hs.2 | exact hs.1 | exact hs | exact hs.2.1 | exact hs.2.2⟩


/-- A slice's elements, each read by E. -/
theorem open_elems {t e : TypeId} {C : Nat} (ht : Try.prog.underlying t = some (.slice e)) (hC : Try.prog.cellsOf e = C) (h0 : 0 < C) {α : Type} (E : α → List Value → Prop)
    (hE : ∀ (fuel : Nat) (cs : List Value) (x : DataW H × List MemPlace), DataW.trod enc Try.prog W 0 sp held fuel e cs = some x → ∃ a, E a cs) (h : DataW.trod enc Try.prog W 0 sp held fuel t cs = some x) :
    ∃ (A : Option Addr) (n c : Nat) (ms : List α), cs = [.slice A n c] ∧ ms.length = n ∧ n ≤ c ∧ c ≤ 9223372036854775807 ∧
      (0 < n → ∃ ad, A = some ad ∧ ad.block < W.heap.size ∧ ∀ j m, ms[j]? = some m → ∃ cs', E m cs' ∧ cs'.length = C ∧ ∀ i, i < C → W.cell? ((ad.add (j * C)).add i) = cs'[i]?) := by
  rcases DataW.trod_slice ht h with ⟨rfl, _⟩ | ⟨a, len, cap, elems, rest, n, _, rfl, _, _, hl, hm, hlen, hel, _, _⟩
  · exact ⟨none, 0, 0, [], rfl, rfl, Nat.le_refl _, by omega, fun h => absurd h (by omega)⟩
  · have hone : ∀ i : Fin len, ∃ m : α, ∃ cs', E m cs' ∧ cs'.length = C ∧ ∀ k, k < C → W.cell? ((a.add (i.1 * C)).add k) = cs'[k]? := by
      intro i
      have h1 := hel i.1 i.2
      rw [List.getElem?_eq_getElem (by omega), hC] at h1
      obtain ⟨cs', h2, h3⟩ := Option.bind_eq_some_iff.1 h1
      obtain ⟨_, hcl, hat⟩ := World.cells?_some h2
      obtain ⟨m, hm⟩ := hE _ _ _ h3
      exact ⟨m, cs', hm, hcl, hat⟩
    refine ⟨some a, len, cap, List.ofFn (fun i => Classical.choose (hone i)), rfl, by simp, hl, by unfold maxLen at hm; omega, fun hn => ?_⟩
    refine ⟨a, rfl, ?_, fun j m hj => ?_⟩
    · obtain ⟨cs', _, hcl, hat⟩ := Classical.choose_spec (hone ⟨0, hn⟩)
      have h2 := hat 0 h0
      rw [List.getElem?_eq_getElem (by omega)] at h2
      have := World.block_lt_of_cell? W _ h2
      rwa [block_of_add, block_of_add] at this
    · have hj' : j < len := by
        have := (List.getElem?_eq_some_iff.1 hj).1
        simpa using this
      rw [List.getElem?_ofFn] at hj
      simp only [hj', dif_pos] at hj
      injection hj with hj
      subst hj
      exact Classical.choose_spec (hone ⟨j, hj'⟩)

end
end Go.Proofs.Ytjamdnbabfodkaa
