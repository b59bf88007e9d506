/- The program's reader of a field at the fixed text of a new session: a monomial. -/
import Derived.Test.YtlfgbellhiifmaaGreatDoorKnI
import Derived.Test.YtlfgbellhiifmaaGreatDoorPoly4
namespace Go.Proofs.YtlfgbellhiifmaaGreatDoor
open Go.RowKit
set_option linter.unusedSimpArgs false
set_option linter.unusedVariables false
set_option maxRecDepth 20000

theorem split_mono : Lib.splitB ⟨#[42]⟩ 0 (Lib.countB ⟨#[49, 42, 97]⟩ ⟨#[42]⟩) ⟨#[49, 42, 97]⟩ = [⟨#[49]⟩, ⟨#[97]⟩] ∧ Lib.countB ⟨#[49, 42, 97]⟩ ⟨#[42]⟩ = 1 := by decide +kernel
theorem split_semi : Lib.splitB ⟨#[59, 32]⟩ 0 (Lib.countB ⟨#[49, 42, 97]⟩ ⟨#[59, 32]⟩) ⟨#[49, 42, 97]⟩ = [⟨#[49, 42, 97]⟩] ∧ Lib.countB ⟨#[49, 42, 97]⟩ ⟨#[59, 32]⟩ = 0 := by decide +kernel
theorem split_plus : Lib.splitB ⟨#[32, 43, 32]⟩ 0 (Lib.countB ⟨#[49, 42, 97]⟩ ⟨#[32, 43, 32]⟩) ⟨#[49, 42, 97]⟩ = [⟨#[49, 42, 97]⟩] ∧ Lib.countB ⟨#[49, 42, 97]⟩ ⟨#[32, 43, 32]⟩ = 0 := by decide +kernel

theorem own_at {w w' : World} {lo hi g n c : Nat} {xs : List Int} (h : OwnI w lo hi (some ⟨g, 0, none⟩) n c xs) (_h : lo < g) (hs : Same g hi w w') (_h2 : hi ≤ hi) : OwnI w' lo hi (some ⟨g, 0, none⟩) n c xs :=
  ⟨owns_same h.own (fun ad e => by
    injection e with e
    subst e
    exact hs g (Nat.le_refl _) (h.lt _ rfl)), h.lt, h.rng⟩
set_option maxRecDepth 100000 in
set_option maxHeartbeats 4000000 in
theorem impl_readMono (mx : Int) (w : World) (hm : w.cell? ⟨0, 0, none⟩ = some (.int .i64 mx)) :
    Calls Tryz.prog 40 #[.string ⟨#[49, 42, 97]⟩, .int .i64 1] w fun e w' => ∃ gR, e = .returned (.tuple #[.agg #[.int .i64 1, .slice (some ⟨gR, 0, none⟩) 1 1], .bool true]) ∧ OwnI w' w.heap.size w'.heap.size (some ⟨gR, 0, none⟩) 1 1 [1] ∧ Below w.heap.size w w' := by
  have hm0 := World.block_lt_of_cell? w _ hm
  have HM : Hid (∀ v : World, Below w.heap.size w v → v.cell? ⟨0, 0, none⟩ = some (.int .i64 mx)) := fun v hv => (hv.cell hm0).trans hm
  have hsz : (⟨#[49, 42, 97]⟩ : ByteArray).size = 3 := rfl
  have hsz1 : (⟨#[49]⟩ : ByteArray).size = 1 := rfl
  have HS := hide (fun W hb => sh_strings_Split ⟨#[49, 42, 97]⟩ ⟨#[42]⟩ mx W (by rw [hsz]; omega) (HM.out W hb) (by decide))
  rw [split_mono.1, split_mono.2] at HS
  have HN := hide (fun W hb => impl_ParseNumber ⟨#[49]⟩ mx W (by rw [hsz1]; omega) (HM.out W hb))
  rw [par_one] at HN
  have b0 := below_alloc w (.cells #[.int .i64 0, .slice none 0 0] 52)
  have hmk := make_ints 1 (by omega)
  have HMK := hide hmk
  clear hm hmk
  go_enter Tryz.func40, Tryz.ntmps40
  go_wp2_with fail
  refine (HS.out _ b0).mono ?_
  rintro e w1 ⟨rfl, rfl⟩
  have k0 := (BlkN.new w #[.int .i64 0, .slice none 0 0] 52).alloc (.cells #[.string ⟨#[49]⟩, .string ⟨#[97]⟩] 9)
  have ks := BlkN.new (w.alloc (.cells #[.int .i64 0, .slice none 0 0] 52)) #[.string ⟨#[49]⟩, .string ⟨#[97]⟩] 9
  rw [show (w.alloc (.cells #[.int .i64 0, .slice none 0 0] 52)).heap.size = w.heap.size + 1 from by simp] at ks
  have b1 : Below w.heap.size w ((w.alloc (.cells #[.int .i64 0, .slice none 0 0] 52)).alloc (.cells #[.string ⟨#[49]⟩, .string ⟨#[97]⟩] 9)) := by (repeat (first | with_reducible exact Below.refl _ _ | with_reducible exact Below.refl _ _ | with_reducible refine Below.drew ?_ | ((with_reducible refine Below.alloc ?_ ?_ _); rotate_left; · first | omega | (simp [World.setCell]; done) | (simp [World.setCell]; omega)) | ((with_reducible refine Below.setCell ?_ ?_ _); rotate_left; · first | exact Nat.le_refl _ | omega | (simp; done) | (simp; omega))))
  have hc0 := ks.c 0 rfl
  clear HS
  go_wp2_with fail
  refine (HN.out _ b1).mono ?_
  rintro e w2 ⟨rfl, q, rfl⟩
  have k02 : BlkN (((w.alloc (.cells #[.int .i64 0, .slice none 0 0] 52)).alloc (.cells #[.string ⟨#[49]⟩, .string ⟨#[97]⟩] 9)).drewN q) w.heap.size #[.int .i64 0, .slice none 0 0] := k0.same rfl
  have ks2 : BlkN (((w.alloc (.cells #[.int .i64 0, .slice none 0 0] 52)).alloc (.cells #[.string ⟨#[49]⟩, .string ⟨#[97]⟩] 9)).drewN q) (w.heap.size + 1) #[.string ⟨#[49]⟩, .string ⟨#[97]⟩] := ks.same rfl
  have b2 := below_drewN b1 q
  clear k0 ks b1 b0 hc0 HN
  generalize ((w.alloc (.cells #[.int .i64 0, .slice none 0 0] 52)).alloc (.cells #[.string ⟨#[49]⟩, .string ⟨#[97]⟩] 9)).drewN q = W at k02 ks2 b2 ⊢
  have hz1 : zeros 1 = #[.int .i64 0] := by rw [← Array.toList_inj, zeros_list]; rfl
  have hmk : (Instr.makeSlice 22 (.int .i64 1) (.int .i64 1)).run Tryz.prog W = .ok (.slice (some ⟨W.heap.size, 0, none⟩) 1 1) (W.alloc (.cells #[.int .i64 0] 3)) := by
    have := HMK.out W
    rw [hz1] at this
    exact this
  have hzs := ks2.lt
  have b4 : Below w.heap.size w ((W.alloc (.cells #[.int .i64 0] 3)).alloc (.cells #[.int .i64 1, .slice (some ⟨W.heap.size, 0, none⟩) 1 1] 52)) := (b2.alloc b2.size _).alloc (by simp; omega) _
  have k04 := (k02.alloc (.cells #[.int .i64 0] 3)).alloc (.cells #[.int .i64 1, .slice (some ⟨W.heap.size, 0, none⟩) 1 1] 52)
  have ks4 := (ks2.alloc (.cells #[.int .i64 0] 3)).alloc (.cells #[.int .i64 1, .slice (some ⟨W.heap.size, 0, none⟩) 1 1] 52)
  have kr4 := (BlkN.new W #[.int .i64 0] 3).alloc (.cells #[.int .i64 1, .slice (some ⟨W.heap.size, 0, none⟩) 1 1] 52)
  have km4 := BlkN.new (W.alloc (.cells #[.int .i64 0] 3)) #[.int .i64 1, .slice (some ⟨W.heap.size, 0, none⟩) 1 1] 52
  rw [show (W.alloc (.cells #[.int .i64 0] 3)).heap.size = W.heap.size + 1 from by simp] at km4
  have ow4 := (World.ownsRow_lit (size := 1) (e := 3) W #[.int .i64 0] 1 b2.size (by unfold maxLen; omega) rfl).alloc (.cells #[.int .i64 1, .slice (some ⟨W.heap.size, 0, none⟩) 1 1] 52)
  have hcs0 := ks2.c 0 rfl
  clear HMK
  go_wp2_with fail
  generalize (W.alloc (.cells #[.int .i64 0] 3)).alloc (.cells #[.int .i64 1, .slice (some ⟨W.heap.size, 0, none⟩) 1 1] 52) = W4 at b4 k04 ks4 kr4 km4 ow4 ⊢
  obtain ⟨g, hg⟩ : ∃ g, g = W.heap.size := ⟨_, rfl⟩
  rw [← hg] at kr4 km4 ow4 hzs ⊢
  clear hg hmk hcs0 k02 ks2 b2
  have hcs1 := ks4.c 1 rfl
  have hr0 := kr4.c 0 rfl
  have hrf := kr4.f 0
  have hm0 := km4.c 0 rfl
  have hm1 := km4.c 1 rfl
  have h97 : ((⟨#[97]⟩ : ByteArray)[0]'(by decide)).toNat = 97 := rfl
  have hw0 : IntKind.u8.wrap 0 = 0 := rfl
  refine wp_loop_rounds 2 ?_
  rw [rounds_succ]
  go_wp2_with fail
  refine still_tail 7 (by kernel_rfl) (by kernel_rfl) ?_
  simp only [List.take_succ_cons, List.take_zero, List.drop_succ_cons, List.drop_zero]
  repeat still_step
  refine wpStill_nil ?_
  have ow5 := (ow4.stored 0 (.int .i64 1)).1
  have b5 : Below w.heap.size w (W4.setCell ⟨g, 0, none⟩ (.int .i64 1)).drew := (b4.setCell (by show w.heap.size ≤ g; omega) _).drew
  have hgw : w.heap.size ≠ g := by omega
  have hgm : g + 1 ≠ g := by omega
  have k05 : BlkN (W4.setCell ⟨g, 0, none⟩ (.int .i64 1)).drew w.heap.size #[.int .i64 0, .slice none 0 0] := (k04.far (b := g) (i := 0) hgw (.int .i64 1)).drew
  have km5 : BlkN (W4.setCell ⟨g, 0, none⟩ (.int .i64 1)).drew (g + 1) #[.int .i64 1, .slice (some ⟨g, 0, none⟩) 1 1] := (km4.far (b := g) (i := 0) hgm (.int .i64 1)).drew
  have O5 : OwnI (W4.setCell ⟨g, 0, none⟩ (.int .i64 1)).drew w.heap.size (W4.setCell ⟨g, 0, none⟩ (.int .i64 1)).drew.heap.size (some ⟨g, 0, none⟩) 1 1 [1] := ⟨ow5, fun ad e => by
    have := km5.lt
    injection e with e
    subst e
    show g < _
    omega, by intro y hy; obtain rfl : y = 1 := by simpa using hy
              constructor <;> omega⟩
  have HO5 := hide O5
  clear ow5 ow4 k04 ks4 kr4 km4 O5 hcs1
  go_wp2_with fail
  generalize (W4.setCell ⟨g, 0, none⟩ (.int .i64 1)).drew = W5 at b5 k05 km5 HO5 ⊢
  clear hr0 hrf hm0 hm1
  have e0 := km5.c 0 rfl
  have e1 := km5.c 1 rfl
  have U1 := k05.c 0 rfl
  have U2 := k05.c 1 rfl
  have V1 := k05.f 0
  have V2 := k05.f 1
  have zk := k05.lt
  rw [rounds_succ]
  go_wp2_with fail
  have hsame : ∀ l h, w.heap.size < l → Same l h W5 ((W5.setCell ⟨w.heap.size, 0, none⟩ (.int .i64 1)).setCell ⟨w.heap.size, 1, none⟩ (.slice (some ⟨g, 0, none⟩) 1 1)) := fun l h hl => ((Same.refl l h W5).setCell (.inl hl) _).setCell (.inl hl) _
  have hsz5 : ((W5.setCell ⟨w.heap.size, 0, none⟩ (.int .i64 1)).setCell ⟨w.heap.size, 1, none⟩ (.slice (some ⟨g, 0, none⟩) 1 1)).heap.size = W5.heap.size := by simp [World.setCell]
  have HB6 := hide ((b5.setCell (p := ⟨w.heap.size, 0, none⟩) (Nat.le_refl _) (.int .i64 1)).setCell (p := ⟨w.heap.size, 1, none⟩) (Nat.le_refl _) (.slice (some ⟨g, 0, none⟩) 1 1))
  have HO6 := hide (own_at HO5.out (show w.heap.size < g by omega) (hsame g _ (by omega)) (Nat.le_refl _))
  rw [← hsz5] at HO6
  clear HO5 hsame hsz5
  refine bodyPost_ret (v := .tuple #[.agg #[.int .i64 1, .slice (some ⟨g, 0, none⟩) 1 1], .bool true]) (by simp [results, Tryz.results40, go_sem, U1, U2, V1, V2, zk]) rfl ⟨g, rfl, ?_⟩
  exact ⟨HO6.out, HB6.out⟩
end Go.Proofs.YtlfgbellhiifmaaGreatDoor
