/- What every outer proof needs: a parameter's reading as my walks take it. -/
import Derived.Test.YtkaepjigmcielaaGreatDoorRows
import Derived.Test.YtkaepjigmcielaaGreatDoorMzA
import Derived.Test.YtkaepjigmcielaaGreatDoorMzC
import Derived.ProofKit
import Derived.OpenShut
import Derived.ShutString
import Derived.ChangeOld
import Derived.Below
import Derived.Test.YtkaepjigmcielaaGreatDoorMzQ
import Derived.OpenVars
import Derived.ChangeVars
namespace Go.Proofs.YtkaepjigmcielaaGreatDoor
open Go.ChangeShapes Go.WideShapes Go.ChangeAt Go.RowKit
set_option linter.unusedSimpArgs false
set_option linter.unusedVariables false
set_option maxRecDepth 20000

theorem r64_of_wf {n : Int} (h : (Lit.int .i64 n).wf = true) : R64 n := by
  simp [Lit.wf, IntKind.min, IntKind.max, IntKind.signed, IntKind.bits] at h
  exact h

section
variable {H : Type} {enc : TypeId × Value → H} {W : World} {sp : Nat → Bool} {held : Bool} {fuel : Nat} {cs : List Value} {x : DataW H × List MemPlace}

theorem cells_ints (h : DataW.trod enc Tryz.prog W 0 sp held fuel 22 cs = some x) : ∃ A n c xs, cs = [.slice A n c] ∧ Ints W 0 W.heap.size A n c xs := by
  rcases open_ints Tryz.underlying22 Tryz.underlying3 (by kernel_rfl) h with ⟨rfl, _⟩ | ⟨a, len, cap, zs, rfl, _, hl, hm, hz, _, hcell, hwz⟩
  · exact ⟨none, 0, 0, [], rfl, Ints.nil_ _ _ _⟩
  · have hle : len ≤ zs.length := by rw [hz]; split <;> omega
    refine ⟨some a, len, cap, zs.take len, rfl, by simp; omega, hl, by unfold maxLen at hm; omega, fun hn => ?_, fun y hy => r64_of_wf (hwz y (List.mem_of_mem_take hy))⟩
    have hat : ∀ j y, (zs.take len)[j]? = some y → W.cell? (a.add j) = some (.int .i64 y) := by
      intro j y hy
      rw [List.getElem?_take] at hy
      split at hy
      · rename_i hj
        rw [hcell j (by omega)]
        simp [List.getD, hy]
      · cases hy
    refine ⟨a, rfl, Nat.zero_le _, ?_, hat⟩
    have h0 := hat 0 (zs[0]'(by omega)) (by simp [hn])
    have := World.block_lt_of_cell? W _ h0
    rwa [block_of_add] at this

theorem open_pints {A : Option Addr} {n c : Nat} {d : DataW H} {p : List MemPlace} (h : DataW.Trod enc Tryz.prog W 0 sp held 22 (.slice A n c) d p) : ∃ xs, Ints W 0 W.heap.size A n c xs := by
  obtain ⟨m, hm⟩ := h
  obtain ⟨A', n', c', xs, he, hi⟩ := cells_ints hm
  simp [Value.cells] at he
  obtain ⟨rfl, rfl, rfl⟩ := he
  exact ⟨xs, hi⟩



/-- A slice's elements, each read by E. -/
theorem open_elems {t e : TypeId} {C : Nat} (ht : Tryz.prog.underlying t = some (.slice e)) (hC : Tryz.prog.cellsOf e = C) (h0 : 0 < C) {α : Type} (E : α → List Value → Prop)
    (hE : ∀ (fuel : Nat) (cs : List Value) (x : DataW H × List MemPlace), DataW.trod enc Tryz.prog W 0 sp held fuel e cs = some x → ∃ a, E a cs) (h : DataW.trod enc Tryz.prog W 0 sp held fuel t cs = some x) :
    ∃ (A : Option Addr) (n c : Nat) (ms : List α), cs = [.slice A n c] ∧ ms.length = n ∧ n ≤ c ∧ c ≤ 9223372036854775807 ∧
      (0 < n → ∃ ad, A = some ad ∧ ad.block < W.heap.size ∧ ∀ j m, ms[j]? = some m → ∃ cs', E m cs' ∧ cs'.length = C ∧ ∀ i, i < C → W.cell? ((ad.add (j * C)).add i) = cs'[i]?) := by
  rcases DataW.trod_slice ht h with ⟨rfl, _⟩ | ⟨a, len, cap, elems, rest, n, _, rfl, _, _, hl, hm, hlen, hel, _, _⟩
  · exact ⟨none, 0, 0, [], rfl, rfl, Nat.le_refl _, by omega, fun h => absurd h (by omega)⟩
  · have hone : ∀ i : Fin len, ∃ m : α, ∃ cs', E m cs' ∧ cs'.length = C ∧ ∀ k, k < C → W.cell? ((a.add (i.1 * C)).add k) = cs'[k]? := by
      intro i
      have h1 := hel i.1 i.2
      rw [List.getElem?_eq_getElem (by omega), hC] at h1
      obtain ⟨cs', h2, h3⟩ := Option.bind_eq_some_iff.1 h1
      obtain ⟨_, hcl, hat⟩ := World.cells?_some h2
      obtain ⟨m, hm⟩ := hE _ _ _ h3
      exact ⟨m, cs', hm, hcl, hat⟩
    refine ⟨some a, len, cap, List.ofFn (fun i => Classical.choose (hone i)), rfl, by simp, hl, by unfold maxLen at hm; omega, fun hn => ?_⟩
    refine ⟨a, rfl, ?_, fun j m hj => ?_⟩
    · obtain ⟨cs', _, hcl, hat⟩ := Classical.choose_spec (hone ⟨0, hn⟩)
      have h2 := hat 0 h0
      rw [List.getElem?_eq_getElem (by omega)] at h2
      have := World.block_lt_of_cell? W _ h2
      rwa [block_of_add, block_of_add] at this
    · have hj' : j < len := by
        have := (List.getElem?_eq_some_iff.1 hj).1
        simpa using this
      rw [List.getElem?_ofFn] at hj
      simp only [hj', dif_pos] at hj
      injection hj with hj
      subst hj
      exact Classical.choose_spec (hone ⟨j, hj'⟩)

theorem cells_intss (h : DataW.trod enc Tryz.prog W 0 sp held fuel 26 cs = some x) : ∃ A n c xss, cs = [.slice A n c] ∧ Ints2 W 0 W.heap.size A n c xss := by
  obtain ⟨A, n, c, ms, rfl, h1, h2, h3, h4⟩ := open_elems (C := 1) Tryz.underlying26 (by kernel_rfl) (by omega) (fun (m : List Int) (cs : List Value) => ∃ B k d, cs = [.slice B k d] ∧ Ints W 0 W.heap.size B k d m)
    (fun fuel cs x hx => by
      obtain ⟨B, k, d, xs, e, hi⟩ := cells_ints hx
      exact ⟨xs, B, k, d, e, hi⟩) h
  refine ⟨A, n, c, ms, rfl, h1, h2, h3, fun hn => ?_⟩
  obtain ⟨ad, rfl, hb, hat⟩ := h4 hn
  refine ⟨ad, rfl, Nat.zero_le _, hb, fun j m hj => ?_⟩
  obtain ⟨cs', ⟨B, k, d, rfl, hi⟩, _, hc⟩ := hat j m hj
  have h0 := hc 0 (by omega)
  rw [Nat.mul_one, Addr.add_zero'] at h0
  exact ⟨B, k, d, h0, hi⟩
theorem open_pintss {A : Option Addr} {n c : Nat} {d : DataW H} {p : List MemPlace} (h : DataW.Trod enc Tryz.prog W 0 sp held 26 (.slice A n c) d p) : ∃ xs, Ints2 W 0 W.heap.size A n c xs := by
  obtain ⟨m, hm⟩ := h
  obtain ⟨A', n', c', xs, he, hi⟩ := cells_intss hm
  simp [Value.cells] at he
  obtain ⟨rfl, rfl, rfl⟩ := he
  exact ⟨xs, hi⟩
end
end Go.Proofs.YtkaepjigmcielaaGreatDoor
/- What a statement knows of the variable treeRows, which it leaves open. -/
namespace Go.Proofs.YtkaepjigmcielaaGreatDoor
open Go.ChangeShapes Go.WideShapes Go.ChangeAt Go.RowKit
set_option linter.unusedSimpArgs false
set_option linter.unusedVariables false
set_option maxRecDepth 20000

theorem tree_named : Tryz.prog.globalNamed "loop.example/g03110/impl.treeRows" = some 0 := by kernel_rfl
theorem tree_type : (Tryz.prog.globals[0]?).map (·.type) = some 26 := by kernel_rfl
theorem var_tree {H : Type} {enc : TypeId × Value → H} {W : World} {gs : List (DataW H)} {q : List MemPlace} (hV : DataW.TrodVars enc Tryz.prog W (fun _ => true) ["loop.example/g03110/impl.treeRows"] gs q) :
    ∃ dv, gs = [dv] ∧ TreeV W.heap.size W := by
  obtain ⟨g, t, cs, fuel, d, p, rfl, h1, h2, h3, h4, _⟩ := trodVars_one hV
  rw [tree_named] at h1
  injection h1 with h1
  subst h1
  rw [tree_type] at h2
  injection h2 with h2
  subst h2
  obtain ⟨A, n, c, xs, he, hi⟩ := cells_intss h4
  refine ⟨d, rfl, ?_⟩
  have hc : W.cell? ⟨0, 0, none⟩ = some (.slice A n c) := by
    unfold World.var? at h3
    rw [tree_named] at h3
    simp only [Option.bind_some] at h3
    split at h3
    · rename_i c' t' fr hb
      injection h3 with h3
      subst h3
      have : c'[0]? = some (.slice A n c) := by rw [← Array.getElem?_toList, he]; rfl
      simp only [World.cell?, hb]
      simpa using this
    · cases h3
  exact ⟨World.block_lt_of_cell? _ _ hc, A, n, c, xs, hc, hi⟩
end Go.Proofs.YtkaepjigmcielaaGreatDoor
