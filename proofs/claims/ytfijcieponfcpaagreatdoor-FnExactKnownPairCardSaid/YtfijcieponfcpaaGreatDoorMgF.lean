/- Known tableaus: "backward", "lobatto2", "lobatto3": the program's walk. -/
import Derived.Test.YtfijcieponfcpaaGreatDoorSysF
import Derived.Test.YtfijcieponfcpaaGreatDoorMgE
import Derived.Test.YtfijcieponfcpaaGreatDoorMgJ
import Derived.Test.YtfijcieponfcpaaGreatDoorSysG
import Derived.Test.YtfijcieponfcpaaGreatDoorMgI
namespace Go.Proofs.YtfijcieponfcpaaGreatDoor
open Go.RowKit
set_option linter.unusedSimpArgs false
set_option linter.unusedVariables false
set_option maxRecDepth 20000

theorem lits_own {w : World} {xs : List Int} {n : Nat} (hl : xs.length = n) (hn : n ≤ 1000) (hr : ∀ x ∈ xs, R64 x) : OwnI (w.alloc (.cells (iCells xs) 3)) w.heap.size (w.alloc (.cells (iCells xs) 3)).heap.size (some ⟨w.heap.size, 0, none⟩) n n xs :=
  block_own (heap_alloc_new w _) hl (Nat.le_refl _) (by omega) hr

theorem lob_done {w w1 w2 : World} {A : Option Addr} {m cA : Nat} {za : List Int} {B : Option Addr} {n cB : Nat} {zb : List Int} (hA : OwnI w2 w1.heap.size w2.heap.size A m cA za) (hB : OwnI w2 w1.heap.size w2.heap.size B n cB zb) (b : Below w.heap.size w w2) (hz : w.heap.size < w1.heap.size) (v1 v2 v3 : Value) :
    OwnI (((w2.setCell ⟨w.heap.size, 0, none⟩ v1).setCell ⟨w.heap.size, 1, none⟩ v2).setCell ⟨w.heap.size, 2, none⟩ v3) w.heap.size (((w2.setCell ⟨w.heap.size, 0, none⟩ v1).setCell ⟨w.heap.size, 1, none⟩ v2).setCell ⟨w.heap.size, 2, none⟩ v3).heap.size A m cA za ∧
    OwnI (((w2.setCell ⟨w.heap.size, 0, none⟩ v1).setCell ⟨w.heap.size, 1, none⟩ v2).setCell ⟨w.heap.size, 2, none⟩ v3) w.heap.size (((w2.setCell ⟨w.heap.size, 0, none⟩ v1).setCell ⟨w.heap.size, 1, none⟩ v2).setCell ⟨w.heap.size, 2, none⟩ v3).heap.size B n cB zb ∧
    Below w.heap.size w (((w2.setCell ⟨w.heap.size, 0, none⟩ v1).setCell ⟨w.heap.size, 1, none⟩ v2).setCell ⟨w.heap.size, 2, none⟩ v3) := by
  have hs : (((w2.setCell ⟨w.heap.size, 0, none⟩ v1).setCell ⟨w.heap.size, 1, none⟩ v2).setCell ⟨w.heap.size, 2, none⟩ v3).heap.size = w2.heap.size := by simp [World.setCell]
  have S3 : Same w1.heap.size w2.heap.size w2 (((w2.setCell ⟨w.heap.size, 0, none⟩ v1).setCell ⟨w.heap.size, 1, none⟩ v2).setCell ⟨w.heap.size, 2, none⟩ v3) :=
    Same.setCell (p := ⟨w.heap.size, 2, none⟩) (Same.setCell (p := ⟨w.heap.size, 1, none⟩) (Same.setCell (p := ⟨w.heap.size, 0, none⟩) (Same.refl _ _ _) (.inl hz) _) (.inl hz) _) (.inl hz) _
  rw [hs]
  exact ⟨(hA.same S3).wide (by omega) (Nat.le_refl _), (hB.same S3).wide (by omega) (Nat.le_refl _), ((b.setCell (p := ⟨w.heap.size, 0, none⟩) (Nat.le_refl _) v1).setCell (p := ⟨w.heap.size, 1, none⟩) (Nat.le_refl _) v2).setCell (p := ⟨w.heap.size, 2, none⟩) (Nat.le_refl _) v3⟩
theorem cut_no (s p : ByteArray) (h : Lib.hasPrefix s.data.toList p.data.toList = false) (W : World) : Calls Tryz.prog 29 #[.string s, .string p] W fun e w' => ∃ t, e = .returned (.tuple #[.string t, .bool false]) ∧ W = w' :=
  (sh_strings_CutPrefix s p W).mono fun e w' hh => ⟨⟨(Lib.trimPrefix s.data.toList p.data.toList).toArray⟩, by rw [hh.1, h], hh.2.symm⟩
theorem cut_yes (s p t : ByteArray) (h : Lib.hasPrefix s.data.toList p.data.toList = true) (ht : (⟨(Lib.trimPrefix s.data.toList p.data.toList).toArray⟩ : ByteArray) = t) (W : World) : Calls Tryz.prog 29 #[.string s, .string p] W fun e w' => e = .returned (.tuple #[.string t, .bool true]) ∧ W = w' :=
  (sh_strings_CutPrefix s p W).mono fun e w' hh => ⟨by rw [hh.1, h, ht], hh.2.symm⟩

set_option maxHeartbeats 1000000 in
theorem impl_Lobatto2 (w : World) : Calls Tryz.prog 33 #[.int .i64 2] w fun e w' => e = .returned (.slice (some ⟨w.heap.size, 0, none⟩) 2 2) ∧ OwnI w' w.heap.size w'.heap.size (some ⟨w.heap.size, 0, none⟩) 2 2 nod2 ∧ Below w.heap.size w w' := by
  have HF := hide fun W => impl_Fraction 1 2 W (by constructor <;> omega) (by constructor <;> omega)
  have HO := hide (lits_own (w := w) (xs := nod2) (n := 2) rfl (by omega) (fun x hx => by have := nod2_num x hx; constructor <;> omega))
  have HB := hide (below_alloc w (.cells (iCells nod2) 3))
  go_enter Tryz.func33, Tryz.ntmps33
  go_wp2_with (go_at_call 38; refine (HF.out _).mono ?_; rintro e w' ⟨rfl, rfl⟩)
  go_ret
  exact ⟨rfl, HO.out, HB.out⟩
set_option maxHeartbeats 1000000 in
theorem impl_Lobatto3 (w : World) : Calls Tryz.prog 33 #[.int .i64 3] w fun e w' => e = .returned (.slice (some ⟨w.heap.size, 0, none⟩) 3 3) ∧ OwnI w' w.heap.size w'.heap.size (some ⟨w.heap.size, 0, none⟩) 3 3 nod3 ∧ Below w.heap.size w w' := by
  have HF := hide fun W => impl_Fraction 1 2 W (by constructor <;> omega) (by constructor <;> omega)
  rw [half_eq] at HF
  have HO := hide (lits_own (w := w) (xs := nod3) (n := 3) rfl (by omega) (fun x hx => by have := nod3_num x hx; constructor <;> omega))
  have HB := hide (below_alloc w (.cells (iCells nod3) 3))
  go_enter Tryz.func33, Tryz.ntmps33
  go_wp2_with (go_at_call 38; refine (HF.out _).mono ?_; rintro e w' ⟨rfl, rfl⟩)
  go_ret
  exact ⟨rfl, HO.out, HB.out⟩

set_option maxRecDepth 100000 in
set_option maxHeartbeats 4000000 in
theorem impl_Known_back (mx : Int) (w : World) (hm : w.cell? ⟨0, 0, none⟩ = some (.int .i64 mx)) :
    Calls Tryz.prog 11 #[.string ⟨#[98, 97, 99, 107, 119, 97, 114, 100]⟩] w fun e w' => ∃ A c B d, e = .returned (.tuple #[.agg #[.int .i64 1, .slice A 1 c, .slice B 1 d], .bool true]) ∧ Tab1 w w' A c B d 1 1 := by
  have hm0 := World.block_lt_of_cell? w _ hm
  have b0 := below_alloc w (.cells #[.int .i64 0, .slice none 0 0, .slice none 0 0] 24)
  have k0 := BlkN.new w #[.int .i64 0, .slice none 0 0, .slice none 0 0] 24
  have HK := hide (impl_ParseTableau1 49 1 (.inr ⟨rfl, rfl⟩) mx _ ((b0.cell hm0).trans hm))
  clear hm
  go_enter Tryz.func11, Tryz.ntmps11
  go_wp2_with fail
  refine HK.out.mono ?_
  rintro e w3 ⟨A, c, B, d, rfl, hT⟩
  have HT := hide (tab_up hT b0 k0.lt (.int .i64 1) (.slice A 1 c) (.slice B 1 d))
  obtain ⟨_, _, _, _, _, hb⟩ := hT
  have k3 := k0.below hb
  have U1 := k3.c 0 rfl
  have U2 := k3.c 1 rfl
  have U3 := k3.c 2 rfl
  have V1 := k3.f 0
  have V2 := k3.f 1
  have V3 := k3.f 2
  have zk := k3.lt
  clear HK hb k3 k0 b0
  go_wp2_with fail
  refine bodyPost_ret (v := .tuple #[.agg #[.int .i64 1, .slice A 1 c, .slice B 1 d], .bool true]) (by simp [results, Tryz.results11, go_sem, U1, U2, U3, V1, V2, V3, zk]) rfl ⟨A, c, B, d, rfl, ?_⟩
  exact HT.out

set_option maxRecDepth 100000 in
set_option maxHeartbeats 8000000 in
theorem impl_Known_lob2 (w : World) :
    Calls Tryz.prog 11 #[.string ⟨#[108, 111, 98, 97, 116, 116, 111, 50]⟩] w fun e w' => ∃ A cA B cB, e = .returned (.tuple #[.agg #[.int .i64 2, .slice A 4 cA, .slice B 2 cB], .bool true]) ∧ OwnI w' w.heap.size w'.heap.size A 4 cA lobA2 ∧ OwnI w' w.heap.size w'.heap.size B 2 cB lobB2 ∧ Below w.heap.size w w' := by
  have b0 := below_alloc w (.cells #[.int .i64 0, .slice none 0 0, .slice none 0 0] 24)
  have k0 := BlkN.new w #[.int .i64 0, .slice none 0 0, .slice none 0 0] 24
  have z0 : (w.alloc (.cells #[.int .i64 0, .slice none 0 0, .slice none 0 0] 24)).heap.size = w.heap.size + 1 := by simp
  have HG : Hid (∀ W, Calls Tryz.prog 29 #[.string ⟨#[108, 111, 98, 97, 116, 116, 111, 50]⟩, .string ⟨#[103, 97, 117, 115, 115]⟩] W fun e w' => ∃ s, e = .returned (.tuple #[.string s, .bool false]) ∧ W = w') := fun W => cut_no _ _ (by decide +kernel) W
  have HR : Hid (∀ W, Calls Tryz.prog 29 #[.string ⟨#[108, 111, 98, 97, 116, 116, 111, 50]⟩, .string ⟨#[114, 97, 100, 97, 117]⟩] W fun e w' => ∃ s, e = .returned (.tuple #[.string s, .bool false]) ∧ W = w') := fun W => cut_no _ _ (by decide +kernel) W
  have HL : Hid (∀ W, Calls Tryz.prog 29 #[.string ⟨#[108, 111, 98, 97, 116, 116, 111, 50]⟩, .string ⟨#[108, 111, 98, 97, 116, 116, 111]⟩] W fun e w' => e = .returned (.tuple #[.string ⟨#[50]⟩, .bool true]) ∧ W = w') := fun W => cut_yes _ _ _ (by decide +kernel) (by rfl) W
  have hb50 : ∀ h, (⟨#[50]⟩ : ByteArray)[0]'h = (50 : UInt8) := fun _ => rfl
  go_enter Tryz.func11, Tryz.ntmps11
  go_wp2_with (first
    | (go_at_call 29; refine (HG.out _).mono ?_; rintro e w' ⟨sG, rfl, rfl⟩; have HR2 := HR; clear HG HR)
    | (go_at_call 29; refine (HR2.out _).mono ?_; rintro e w' ⟨sR, rfl, rfl⟩; have HL2 := HL; clear HR2 HL)
    | (go_at_call 29; refine (HL2.out _).mono ?_; rintro e w' ⟨rfl, rfl⟩; clear HL2)
    | (go_at_call 33; refine (impl_Lobatto2 _).mono ?_; rintro e w1 ⟨rfl, hO1, hb1⟩; have k1 := hide (k0.below hb1); have b1 := hide (b0.trans (hb1.mono b0.size)); have hI1 := hide hO1.ints; rw [z0] at hI1; have z1s : w.heap.size < w1.heap.size := (by have := hb1.size; omega); clear hO1 hb1 k0 b0)
    | (go_at_call 30; refine (impl_Collocation _ 2 2 nod2 _ _ _ hI1.out (Nat.le_refl _) (by omega) (by omega) nod2_num nod2_nd full2 (by rw [goal_one]; exact full2 1 (by decide))).mono ?_; rintro e w2 ⟨A, cA, B, cB, rfl, hA, hB, hb2⟩; have k2 := k1.out.below hb2; have b2 := b1.out.trans (hb2.mono b1.out.size); rw [goal_one] at hB; have hA2 := hide hA; have hB2 := hide hB; have U1 := k2.c 0 rfl; have U2 := k2.c 1 rfl; have U3 := k2.c 2 rfl; have V1 := k2.f 0; have V2 := k2.f 1; have V3 := k2.f 2; have zk := k2.lt; have HD := hide (lob_done hA hB b2 z1s (.int .i64 2) (.slice A 4 cA) (.slice B 2 cB)); clear hA hB hb2 k2 b2 hA2 hB2))
  refine bodyPost_ret (v := .tuple #[.agg #[.int .i64 2, .slice A 4 cA, .slice B 2 cB], .bool true]) (by simp [results, Tryz.results11, go_sem, U1, U2, U3, V1, V2, V3, zk]) rfl ⟨_, _, _, _, rfl, HD.out⟩

set_option maxRecDepth 100000 in
set_option maxHeartbeats 8000000 in
theorem impl_Known_lob3 (w : World) :
    Calls Tryz.prog 11 #[.string ⟨#[108, 111, 98, 97, 116, 116, 111, 51]⟩] w fun e w' => ∃ A cA B cB, e = .returned (.tuple #[.agg #[.int .i64 3, .slice A 9 cA, .slice B 3 cB], .bool true]) ∧ OwnI w' w.heap.size w'.heap.size A 9 cA lobA3 ∧ OwnI w' w.heap.size w'.heap.size B 3 cB lobB3 ∧ Below w.heap.size w w' := by
  have b0 := below_alloc w (.cells #[.int .i64 0, .slice none 0 0, .slice none 0 0] 24)
  have k0 := BlkN.new w #[.int .i64 0, .slice none 0 0, .slice none 0 0] 24
  have z0 : (w.alloc (.cells #[.int .i64 0, .slice none 0 0, .slice none 0 0] 24)).heap.size = w.heap.size + 1 := by simp
  have HG : Hid (∀ W, Calls Tryz.prog 29 #[.string ⟨#[108, 111, 98, 97, 116, 116, 111, 51]⟩, .string ⟨#[103, 97, 117, 115, 115]⟩] W fun e w' => ∃ s, e = .returned (.tuple #[.string s, .bool false]) ∧ W = w') := fun W => cut_no _ _ (by decide +kernel) W
  have HR : Hid (∀ W, Calls Tryz.prog 29 #[.string ⟨#[108, 111, 98, 97, 116, 116, 111, 51]⟩, .string ⟨#[114, 97, 100, 97, 117]⟩] W fun e w' => ∃ s, e = .returned (.tuple #[.string s, .bool false]) ∧ W = w') := fun W => cut_no _ _ (by decide +kernel) W
  have HL : Hid (∀ W, Calls Tryz.prog 29 #[.string ⟨#[108, 111, 98, 97, 116, 116, 111, 51]⟩, .string ⟨#[108, 111, 98, 97, 116, 116, 111]⟩] W fun e w' => e = .returned (.tuple #[.string ⟨#[51]⟩, .bool true]) ∧ W = w') := fun W => cut_yes _ _ _ (by decide +kernel) (by rfl) W
  have hb51 : ∀ h, (⟨#[51]⟩ : ByteArray)[0]'h = (51 : UInt8) := fun _ => rfl
  go_enter Tryz.func11, Tryz.ntmps11
  go_wp2_with (first
    | (go_at_call 29; refine (HG.out _).mono ?_; rintro e w' ⟨sG, rfl, rfl⟩; have HR2 := HR; clear HG HR)
    | (go_at_call 29; refine (HR2.out _).mono ?_; rintro e w' ⟨sR, rfl, rfl⟩; have HL2 := HL; clear HR2 HL)
    | (go_at_call 29; refine (HL2.out _).mono ?_; rintro e w' ⟨rfl, rfl⟩; clear HL2)
    | (go_at_call 33; refine (impl_Lobatto3 _).mono ?_; rintro e w1 ⟨rfl, hO1, hb1⟩; have k1 := hide (k0.below hb1); have b1 := hide (b0.trans (hb1.mono b0.size)); have hI1 := hide hO1.ints; rw [z0] at hI1; have z1s : w.heap.size < w1.heap.size := (by have := hb1.size; omega); clear hO1 hb1 k0 b0)
    | (go_at_call 30; refine (impl_Collocation _ 3 3 nod3 _ _ _ hI1.out (Nat.le_refl _) (by omega) (by omega) nod3_num nod3_nd full3 (by rw [goal_one]; exact full3 1 (by decide))).mono ?_; rintro e w2 ⟨A, cA, B, cB, rfl, hA, hB, hb2⟩; have k2 := k1.out.below hb2; have b2 := b1.out.trans (hb2.mono b1.out.size); rw [goal_one] at hB; have hA2 := hide hA; have hB2 := hide hB; have U1 := k2.c 0 rfl; have U2 := k2.c 1 rfl; have U3 := k2.c 2 rfl; have V1 := k2.f 0; have V2 := k2.f 1; have V3 := k2.f 2; have zk := k2.lt; have HD := hide (lob_done hA hB b2 z1s (.int .i64 3) (.slice A 9 cA) (.slice B 3 cB)); clear hA hB hb2 k2 b2 hA2 hB2))
  refine bodyPost_ret (v := .tuple #[.agg #[.int .i64 3, .slice A 9 cA, .slice B 3 cB], .bool true]) (by simp [results, Tryz.results11, go_sem, U1, U2, U3, V1, V2, V3, zk]) rfl ⟨_, _, _, _, rfl, HD.out⟩

end Go.Proofs.YtfijcieponfcpaaGreatDoor
/- Known tableaus: "backward", "lobatto2", "lobatto3": the reference's walk. -/
namespace Go.Proofs.YtfijcieponfcpaaGreatDoor
open Go.RowKit
set_option linter.unusedSimpArgs false
set_option linter.unusedVariables false
set_option maxRecDepth 20000

set_option maxHeartbeats 1000000 in
theorem spec_Lobatto2 (w : World) : Calls Tryz.prog 22 #[.int .i64 2] w fun e w' => e = .returned (.slice (some ⟨w.heap.size, 0, none⟩) 2 2) ∧ OwnI w' w.heap.size w'.heap.size (some ⟨w.heap.size, 0, none⟩) 2 2 nod2 ∧ Below w.heap.size w w' := by
  have HF := hide fun W => spec_Fraction 1 2 W (by constructor <;> omega) (by constructor <;> omega)
  have HO := hide (lits_own (w := w) (xs := nod2) (n := 2) rfl (by omega) (fun x hx => by have := nod2_num x hx; constructor <;> omega))
  have HB := hide (below_alloc w (.cells (iCells nod2) 3))
  go_enter Tryz.func22, Tryz.ntmps22
  go_wp2_with (go_at_call 26; refine (HF.out _).mono ?_; rintro e w' ⟨rfl, rfl⟩)
  go_ret
  exact ⟨rfl, HO.out, HB.out⟩
set_option maxHeartbeats 1000000 in
theorem spec_Lobatto3 (w : World) : Calls Tryz.prog 22 #[.int .i64 3] w fun e w' => e = .returned (.slice (some ⟨w.heap.size, 0, none⟩) 3 3) ∧ OwnI w' w.heap.size w'.heap.size (some ⟨w.heap.size, 0, none⟩) 3 3 nod3 ∧ Below w.heap.size w w' := by
  have HF := hide fun W => spec_Fraction 1 2 W (by constructor <;> omega) (by constructor <;> omega)
  rw [half_eq] at HF
  have HO := hide (lits_own (w := w) (xs := nod3) (n := 3) rfl (by omega) (fun x hx => by have := nod3_num x hx; constructor <;> omega))
  have HB := hide (below_alloc w (.cells (iCells nod3) 3))
  go_enter Tryz.func22, Tryz.ntmps22
  go_wp2_with (go_at_call 26; refine (HF.out _).mono ?_; rintro e w' ⟨rfl, rfl⟩)
  go_ret
  exact ⟨rfl, HO.out, HB.out⟩


set_option maxRecDepth 100000 in
theorem spec_l7Text_back (w : World) : Calls Tryz.prog 16 #[.string ⟨#[98, 97, 99, 107, 119, 97, 114, 100]⟩] w fun e w' => e = .returned (.string ⟨#[49, 32, 124, 32, 49]⟩) ∧ w = w' := by
  go_enter Tryz.func16, Tryz.ntmps16
  go_wp2_with fail
  go_ret
  exact ⟨rfl, rfl⟩
set_option maxRecDepth 100000 in
theorem spec_l7Text_lob2 (w : World) : Calls Tryz.prog 16 #[.string ⟨#[108, 111, 98, 97, 116, 116, 111, 50]⟩] w fun e w' => e = .returned (.string ⟨#[]⟩) ∧ w = w' := by
  go_enter Tryz.func16, Tryz.ntmps16
  go_wp2_with fail
  go_ret
  exact ⟨rfl, rfl⟩
set_option maxRecDepth 100000 in
theorem spec_l7Text_lob3 (w : World) : Calls Tryz.prog 16 #[.string ⟨#[108, 111, 98, 97, 116, 116, 111, 51]⟩] w fun e w' => e = .returned (.string ⟨#[]⟩) ∧ w = w' := by
  go_enter Tryz.func16, Tryz.ntmps16
  go_wp2_with fail
  go_ret
  exact ⟨rfl, rfl⟩
set_option maxRecDepth 100000 in
set_option maxHeartbeats 4000000 in
theorem spec_Known_back (w : World) :
    Calls Tryz.prog 9 #[.string ⟨#[98, 97, 99, 107, 119, 97, 114, 100]⟩] w fun e w' => ∃ A c B d, e = .returned (.tuple #[.agg #[.int .i64 1, .slice A 1 c, .slice B 1 d], .bool true]) ∧ Tab1 w w' A c B d 1 1 := by
  have b0 := below_alloc w (.cells #[.int .i64 0, .slice none 0 0, .slice none 0 0] 24)
  have k0 := BlkN.new w #[.int .i64 0, .slice none 0 0, .slice none 0 0] 24
  have HK := hide (spec_ParseTableau1 49 1 (.inr ⟨rfl, rfl⟩) (w.alloc (.cells #[.int .i64 0, .slice none 0 0, .slice none 0 0] 24)))
  go_enter Tryz.func9, Tryz.ntmps9
  go_wp2_with (go_at_call 16; refine (spec_l7Text_back _).mono ?_; rintro e w1 ⟨rfl, rfl⟩)
  refine HK.out.mono ?_
  rintro e w3 ⟨A, c, B, d, rfl, hT⟩
  have HT := hide (tab_up hT b0 k0.lt (.int .i64 1) (.slice A 1 c) (.slice B 1 d))
  obtain ⟨_, _, _, _, _, hb⟩ := hT
  have k3 := k0.below hb
  have U1 := k3.c 0 rfl
  have U2 := k3.c 1 rfl
  have U3 := k3.c 2 rfl
  have V1 := k3.f 0
  have V2 := k3.f 1
  have V3 := k3.f 2
  have zk := k3.lt
  clear HK hb k3 k0 b0
  go_wp2_with fail
  refine bodyPost_ret (v := .tuple #[.agg #[.int .i64 1, .slice A 1 c, .slice B 1 d], .bool true]) (by simp [results, Tryz.results9, go_sem, U1, U2, U3, V1, V2, V3, zk]) rfl ⟨A, c, B, d, rfl, ?_⟩
  exact HT.out

theorem dec_dig : decI 1 = ⟨#[49]⟩ ∧ decI 2 = ⟨#[50]⟩ ∧ decI 3 = ⟨#[51]⟩ := by decide +kernel
set_option maxRecDepth 100000 in
set_option maxHeartbeats 8000000 in
theorem spec_Known_lob2 (w : World) :
    Calls Tryz.prog 9 #[.string ⟨#[108, 111, 98, 97, 116, 116, 111, 50]⟩] w fun e w' => ∃ A cA B cB, e = .returned (.tuple #[.agg #[.int .i64 2, .slice A 4 cA, .slice B 2 cB], .bool true]) ∧ OwnI w' w.heap.size w'.heap.size A 4 cA lobA2 ∧ OwnI w' w.heap.size w'.heap.size B 2 cB lobB2 ∧ Below w.heap.size w w' := by
  have b0 := below_alloc w (.cells #[.int .i64 0, .slice none 0 0, .slice none 0 0] 24)
  have k0 := BlkN.new w #[.int .i64 0, .slice none 0 0, .slice none 0 0] 24
  have D1 : Hid (∀ W, Calls Tryz.prog 18 #[.int .i64 1] W fun e w' => e = .returned (.string ⟨#[49]⟩) ∧ Below W.heap.size W w') := fun W => by have := spec_l1Decimal 1 W (by omega) (by omega); rwa [dec_dig.1] at this
  have D2 : Hid (∀ W, Calls Tryz.prog 18 #[.int .i64 2] W fun e w' => e = .returned (.string ⟨#[50]⟩) ∧ Below W.heap.size W w') := fun W => by have := spec_l1Decimal 2 W (by omega) (by omega); rwa [dec_dig.2.1] at this
  have cg49 : ((⟨#[103, 97, 117, 115, 115]⟩ : ByteArray) ++ (⟨#[49]⟩ : ByteArray)) = ⟨#[103, 97, 117, 115, 115, 49]⟩ := by rfl
  have cg50 : ((⟨#[103, 97, 117, 115, 115]⟩ : ByteArray) ++ (⟨#[50]⟩ : ByteArray)) = ⟨#[103, 97, 117, 115, 115, 50]⟩ := by rfl
  have cr49 : ((⟨#[114, 97, 100, 97, 117]⟩ : ByteArray) ++ (⟨#[49]⟩ : ByteArray)) = ⟨#[114, 97, 100, 97, 117, 49]⟩ := by rfl
  have cr50 : ((⟨#[114, 97, 100, 97, 117]⟩ : ByteArray) ++ (⟨#[50]⟩ : ByteArray)) = ⟨#[114, 97, 100, 97, 117, 50]⟩ := by rfl
  have cl49 : ((⟨#[108, 111, 98, 97, 116, 116, 111]⟩ : ByteArray) ++ (⟨#[49]⟩ : ByteArray)) = ⟨#[108, 111, 98, 97, 116, 116, 111, 49]⟩ := by rfl
  have cl50 : ((⟨#[108, 111, 98, 97, 116, 116, 111]⟩ : ByteArray) ++ (⟨#[50]⟩ : ByteArray)) = ⟨#[108, 111, 98, 97, 116, 116, 111, 50]⟩ := by rfl
  go_enter Tryz.func9, Tryz.ntmps9
  go_wp2_with (go_at_call 16; refine (spec_l7Text_lob2 _).mono ?_; rintro e w' ⟨rfl, rfl⟩)
  refine wp_loop_rounds 2 ?_
  rw [rounds_succ]
  go_wp2_with (first
    | (go_at_call 18; refine (D1.out _).mono ?_; rintro e w1 ⟨rfl, hb⟩; have k1 := k0.below hb; have b1 := b0.trans (hb.mono b0.size); clear hb k0 b0 D1))
  rw [rounds_succ]
  go_wp2_with (first
    | (go_at_call 18; refine (D2.out _).mono ?_; rintro e w2 ⟨rfl, hb⟩; have k2 := k1.below hb; have b2 := b1.trans (hb.mono b1.size); clear hb k1 b1 D2)
    | (go_at_call 22; refine (spec_Lobatto2 _).mono ?_; rintro e wl ⟨rfl, hO1, hb1⟩; have kl := k2.below hb1; have bl := b2.trans (hb1.mono b2.size); have zl := kl.lt; have hIl := hide hO1.ints; clear hO1 hb1 k2 b2)
    | (go_at_call 19; refine (spec_Collocation _ 2 2 nod2 _ _ _ hIl.out (Nat.le_refl _) (by omega) (by omega) nod2_num nod2_nd full2 (full2 1 (by decide))).mono ?_; rintro e wm ⟨A, cA, B, cB, rfl, hA, hB, hb2⟩; have k9 := kl.below hb2; have b9 := bl.trans (hb2.mono bl.size); have U1 := k9.c 0 rfl; have U2 := k9.c 1 rfl; have U3 := k9.c 2 rfl; have V1 := k9.f 0; have V2 := k9.f 1; have V3 := k9.f 2; have zk := k9.lt; have HD := hide (lob_done hA hB b9 zl (.int .i64 2) (.slice A 4 cA) (.slice B 2 cB)); clear hA hB hb2 k9 b9 kl bl))
  refine bodyPost_ret (v := .tuple #[.agg #[.int .i64 2, .slice A 4 cA, .slice B 2 cB], .bool true]) (by simp [results, Tryz.results9, go_sem, U1, U2, U3, V1, V2, V3, zk]) rfl ⟨_, _, _, _, rfl, HD.out⟩

set_option maxRecDepth 100000 in
set_option maxHeartbeats 8000000 in
theorem spec_Known_lob3 (w : World) :
    Calls Tryz.prog 9 #[.string ⟨#[108, 111, 98, 97, 116, 116, 111, 51]⟩] w fun e w' => ∃ A cA B cB, e = .returned (.tuple #[.agg #[.int .i64 3, .slice A 9 cA, .slice B 3 cB], .bool true]) ∧ OwnI w' w.heap.size w'.heap.size A 9 cA lobA3 ∧ OwnI w' w.heap.size w'.heap.size B 3 cB lobB3 ∧ Below w.heap.size w w' := by
  have b0 := below_alloc w (.cells #[.int .i64 0, .slice none 0 0, .slice none 0 0] 24)
  have k0 := BlkN.new w #[.int .i64 0, .slice none 0 0, .slice none 0 0] 24
  have D1 : Hid (∀ W, Calls Tryz.prog 18 #[.int .i64 1] W fun e w' => e = .returned (.string ⟨#[49]⟩) ∧ Below W.heap.size W w') := fun W => by have := spec_l1Decimal 1 W (by omega) (by omega); rwa [dec_dig.1] at this
  have D2 : Hid (∀ W, Calls Tryz.prog 18 #[.int .i64 2] W fun e w' => e = .returned (.string ⟨#[50]⟩) ∧ Below W.heap.size W w') := fun W => by have := spec_l1Decimal 2 W (by omega) (by omega); rwa [dec_dig.2.1] at this
  have D3 : Hid (∀ W, Calls Tryz.prog 18 #[.int .i64 3] W fun e w' => e = .returned (.string ⟨#[51]⟩) ∧ Below W.heap.size W w') := fun W => by have := spec_l1Decimal 3 W (by omega) (by omega); rwa [dec_dig.2.2] at this
  have cg49 : ((⟨#[103, 97, 117, 115, 115]⟩ : ByteArray) ++ (⟨#[49]⟩ : ByteArray)) = ⟨#[103, 97, 117, 115, 115, 49]⟩ := by rfl
  have cg50 : ((⟨#[103, 97, 117, 115, 115]⟩ : ByteArray) ++ (⟨#[50]⟩ : ByteArray)) = ⟨#[103, 97, 117, 115, 115, 50]⟩ := by rfl
  have cg51 : ((⟨#[103, 97, 117, 115, 115]⟩ : ByteArray) ++ (⟨#[51]⟩ : ByteArray)) = ⟨#[103, 97, 117, 115, 115, 51]⟩ := by rfl
  have cr49 : ((⟨#[114, 97, 100, 97, 117]⟩ : ByteArray) ++ (⟨#[49]⟩ : ByteArray)) = ⟨#[114, 97, 100, 97, 117, 49]⟩ := by rfl
  have cr50 : ((⟨#[114, 97, 100, 97, 117]⟩ : ByteArray) ++ (⟨#[50]⟩ : ByteArray)) = ⟨#[114, 97, 100, 97, 117, 50]⟩ := by rfl
  have cr51 : ((⟨#[114, 97, 100, 97, 117]⟩ : ByteArray) ++ (⟨#[51]⟩ : ByteArray)) = ⟨#[114, 97, 100, 97, 117, 51]⟩ := by rfl
  have cl49 : ((⟨#[108, 111, 98, 97, 116, 116, 111]⟩ : ByteArray) ++ (⟨#[49]⟩ : ByteArray)) = ⟨#[108, 111, 98, 97, 116, 116, 111, 49]⟩ := by rfl
  have cl50 : ((⟨#[108, 111, 98, 97, 116, 116, 111]⟩ : ByteArray) ++ (⟨#[50]⟩ : ByteArray)) = ⟨#[108, 111, 98, 97, 116, 116, 111, 50]⟩ := by rfl
  have cl51 : ((⟨#[108, 111, 98, 97, 116, 116, 111]⟩ : ByteArray) ++ (⟨#[51]⟩ : ByteArray)) = ⟨#[108, 111, 98, 97, 116, 116, 111, 51]⟩ := by rfl
  go_enter Tryz.func9, Tryz.ntmps9
  go_wp2_with (go_at_call 16; refine (spec_l7Text_lob3 _).mono ?_; rintro e w' ⟨rfl, rfl⟩)
  refine wp_loop_rounds 3 ?_
  rw [rounds_succ]
  go_wp2_with (first
    | (go_at_call 18; refine (D1.out _).mono ?_; rintro e w1 ⟨rfl, hb⟩; have k1 := k0.below hb; have b1 := b0.trans (hb.mono b0.size); clear hb k0 b0 D1))
  rw [rounds_succ]
  go_wp2_with (first
    | (go_at_call 18; refine (D2.out _).mono ?_; rintro e w2 ⟨rfl, hb⟩; have k2 := k1.below hb; have b2 := b1.trans (hb.mono b1.size); clear hb k1 b1 D2))
  rw [rounds_succ]
  go_wp2_with (first
    | (go_at_call 18; refine (D3.out _).mono ?_; rintro e w3 ⟨rfl, hb⟩; have k3 := k2.below hb; have b3 := b2.trans (hb.mono b2.size); clear hb k2 b2 D3)
    | (go_at_call 22; refine (spec_Lobatto3 _).mono ?_; rintro e wl ⟨rfl, hO1, hb1⟩; have kl := k3.below hb1; have bl := b3.trans (hb1.mono b3.size); have zl := kl.lt; have hIl := hide hO1.ints; clear hO1 hb1 k3 b3)
    | (go_at_call 19; refine (spec_Collocation _ 3 3 nod3 _ _ _ hIl.out (Nat.le_refl _) (by omega) (by omega) nod3_num nod3_nd full3 (full3 1 (by decide))).mono ?_; rintro e wm ⟨A, cA, B, cB, rfl, hA, hB, hb2⟩; have k9 := kl.below hb2; have b9 := bl.trans (hb2.mono bl.size); have U1 := k9.c 0 rfl; have U2 := k9.c 1 rfl; have U3 := k9.c 2 rfl; have V1 := k9.f 0; have V2 := k9.f 1; have V3 := k9.f 2; have zk := k9.lt; have HD := hide (lob_done hA hB b9 zl (.int .i64 3) (.slice A 9 cA) (.slice B 3 cB)); clear hA hB hb2 k9 b9 kl bl))
  refine bodyPost_ret (v := .tuple #[.agg #[.int .i64 3, .slice A 9 cA, .slice B 3 cB], .bool true]) (by simp [results, Tryz.results9, go_sem, U1, U2, U3, V1, V2, V3, zk]) rfl ⟨_, _, _, _, rfl, HD.out⟩

end Go.Proofs.YtfijcieponfcpaaGreatDoor
