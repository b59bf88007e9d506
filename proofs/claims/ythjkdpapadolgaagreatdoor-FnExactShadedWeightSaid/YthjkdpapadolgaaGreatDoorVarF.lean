/- What a statement knows of the variable treeRows, which it leaves open. -/
import Derived.Test.YthjkdpapadolgaaGreatDoorFrames
import Derived.Test.YthjkdpapadolgaaGreatDoorRankW
import Derived.OpenVars
import Derived.ChangeVars
namespace Go.Proofs.YthjkdpapadolgaaGreatDoor
open Go.ChangeShapes Go.WideShapes Go.ChangeAt Go.RowKit
set_option linter.unusedSimpArgs false
set_option linter.unusedVariables false
set_option maxRecDepth 20000

theorem tree_named : Tryz.prog.globalNamed "loop.example/g03110/impl.treeRows" = some 0 := by kernel_rfl
theorem tree_type : (Tryz.prog.globals[0]?).map (·.type) = some 50 := by kernel_rfl
theorem var_tree {H : Type} {enc : TypeId × Value → H} {W : World} {gs : List (DataW H)} {q : List MemPlace} (hV : DataW.TrodVars enc Tryz.prog W (fun _ => true) ["loop.example/g03110/impl.treeRows"] gs q) :
    ∃ dv, gs = [dv] ∧ TreeV W.heap.size W := by
  obtain ⟨g, t, cs, fuel, d, p, rfl, h1, h2, h3, h4, _⟩ := trodVars_one hV
  rw [tree_named] at h1
  injection h1 with h1
  subst h1
  rw [tree_type] at h2
  injection h2 with h2
  subst h2
  obtain ⟨A, n, c, xs, he, hi⟩ := cells_intss h4
  refine ⟨d, rfl, ?_⟩
  have hc : W.cell? ⟨0, 0, none⟩ = some (.slice A n c) := by
    unfold World.var? at h3
    rw [tree_named] at h3
    simp only [Option.bind_some] at h3
    split at h3
    · rename_i c' t' fr hb
      injection h3 with h3
      subst h3
      have : c'[0]? = some (.slice A n c) := by rw [← Array.getElem?_toList, he]; rfl
      simp only [World.cell?, hb]
      simpa using this
    · cases h3
  exact ⟨World.block_lt_of_cell? _ _ hc, A, n, c, xs, hc, hi⟩
end Go.Proofs.YthjkdpapadolgaaGreatDoor
