/- The known tableau of a new session: the program's walk. -/
import Derived.Test.YtlfgbellhiifmaaGreatDoorPnI
namespace Go.Proofs.YtlfgbellhiifmaaGreatDoor
open Go.RowKit
set_option linter.unusedSimpArgs false
set_option linter.unusedVariables false
set_option maxRecDepth 20000

theorem tab_up {w W w3 : World} {A : Option Addr} {c : Nat} {B : Option Addr} {d : Nat} {x y : Int} (h : Tab1 W w3 A c B d x y) (b : Below w.heap.size w W) (hz : w.heap.size < W.heap.size) (v1 v2 v3 : Value) :
    Tab1 w (((w3.setCell ⟨w.heap.size, 0, none⟩ v1).setCell ⟨w.heap.size, 1, none⟩ v2).setCell ⟨w.heap.size, 2, none⟩ v3) A c B d x y := by
  obtain ⟨mid, oA, oB, h1, h2, hb⟩ := h
  exact tab_done oA oB (b.trans (hb.mono (by omega))) hz (Nat.le_refl _) (Nat.le_refl _) (by omega) v1 v2 v3

set_option maxRecDepth 100000 in
set_option maxHeartbeats 4000000 in
theorem impl_Known_euler (mx : Int) (w : World) (hm : w.cell? ⟨0, 0, none⟩ = some (.int .i64 mx)) :
    Calls Tryz.prog 11 #[.string ⟨#[101, 117, 108, 101, 114]⟩] w fun e w' => ∃ A c B d, e = .returned (.tuple #[.agg #[.int .i64 1, .slice A 1 c, .slice B 1 d], .bool true]) ∧ Tab1 w w' A c B d 0 1 := by
  have hm0 := World.block_lt_of_cell? w _ hm
  have b0 := below_alloc w (.cells #[.int .i64 0, .slice none 0 0, .slice none 0 0] 24)
  have k0 := BlkN.new w #[.int .i64 0, .slice none 0 0, .slice none 0 0] 24
  have HK := hide (impl_ParseTableau1 48 0 (.inl ⟨rfl, rfl⟩) mx _ ((b0.cell hm0).trans hm))
  clear hm
  go_enter Tryz.func11, Tryz.ntmps11
  go_wp2_with fail
  refine HK.out.mono ?_
  rintro e w3 ⟨A, c, B, d, rfl, hT⟩
  have HT := hide (tab_up hT b0 k0.lt (.int .i64 1) (.slice A 1 c) (.slice B 1 d))
  obtain ⟨_, _, _, _, _, hb⟩ := hT
  have k3 := k0.below hb
  have U1 := k3.c 0 rfl
  have U2 := k3.c 1 rfl
  have U3 := k3.c 2 rfl
  have V1 := k3.f 0
  have V2 := k3.f 1
  have V3 := k3.f 2
  have zk := k3.lt
  clear HK hb k3 k0 b0
  go_wp2_with fail
  refine bodyPost_ret (v := .tuple #[.agg #[.int .i64 1, .slice A 1 c, .slice B 1 d], .bool true]) (by simp [results, Tryz.results11, go_sem, U1, U2, U3, V1, V2, V3, zk]) rfl ⟨A, c, B, d, rfl, ?_⟩
  exact HT.out
end Go.Proofs.YtlfgbellhiifmaaGreatDoor
