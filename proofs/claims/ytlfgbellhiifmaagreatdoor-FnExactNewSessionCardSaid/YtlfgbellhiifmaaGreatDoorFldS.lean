/- The reference's reader of a field at the fixed text of a new session. -/
import Derived.Test.YtlfgbellhiifmaaGreatDoorFldF
namespace Go.Proofs.YtlfgbellhiifmaaGreatDoor
open Go.RowKit
set_option linter.unusedSimpArgs false
set_option linter.unusedVariables false
set_option maxRecDepth 20000

theorem ext_all : (⟨#[49, 42, 97]⟩ : ByteArray).extract 0 3 = ⟨#[49, 42, 97]⟩ := bytes_ext (by rw [Lib.extract_data]; rfl)
theorem ext_02 : (⟨#[49, 42, 97]⟩ : ByteArray).extract 0 2 = ⟨#[49, 42]⟩ := bytes_ext (by rw [Lib.extract_data]; rfl)
theorem ext_13 : (⟨#[49, 42, 97]⟩ : ByteArray).extract 1 3 = ⟨#[42, 97]⟩ := bytes_ext (by rw [Lib.extract_data]; rfl)

set_option maxRecDepth 100000 in
set_option maxHeartbeats 4000000 in
theorem spec_l8Words_semi (w : World) :
    Calls Tryz.prog 29 #[.string ⟨#[49, 42, 97]⟩, .string ⟨#[59, 32]⟩] w fun e w' => ∃ g c, e = .returned (.slice (some ⟨g, 0, none⟩) 1 c) ∧ w'.ownsRow w.heap.size 9 1 (.slice (some ⟨g, 0, none⟩) 1 c) 1 [.string ⟨#[49, 42, 97]⟩] ∧ Below w.heap.size w w' := by
  obtain ⟨i0, hi0, hz0, hz1, hz2⟩ := info_parts info_str
  have q0 : (w.alloc (.cells #[] 9)).ownsRow w.heap.size 9 1 (.slice (some ⟨w.heap.size, 0, none⟩) 0 0) 0 [] := by
    simpa using World.ownsRow_lit (size := 1) (e := 9) (base := w.heap.size) w #[] 0 (Nat.le_refl _) (by unfold maxLen; omega) rfl
  have b0 := below_alloc w (.cells #[] 9)
  have Q0 := hide q0
  have e1 : (((⟨#[49, 42, 97]⟩ : ByteArray).extract 0 2).toList == [59, 32]) = false := by rw [ext_02, ByteArray.toList_eq]; rfl
  have e2 : (((⟨#[49, 42, 97]⟩ : ByteArray).extract 1 3).toList == [59, 32]) = false := by rw [ext_13, ByteArray.toList_eq]; rfl
  clear q0
  go_enter Tryz.func29, Tryz.ntmps29
  go_wp2_with fail
  generalize w.alloc (.cells #[] 9) = W at Q0 b0 ⊢
  have z0 := b0.size
  refine wp_loop_rounds 3 ?_
  rw [rounds_succ]
  go_wp2_with fail
  rw [rounds_succ]
  go_wp2_with fail
  rw [rounds_succ]
  go_wp2_with (at_builtin; refine wpl_app1b rfl (.tmp 43) (.tmp 47) 48 rfl w.heap.size 9 i0 (.string ByteArray.empty) 1 16 Tryz.underlying48 hi0 hz0 hz1 hz2 rfl (by omega) W _ _ rfl (some ⟨w.heap.size, 0, none⟩) 0 0 1 _ rfl rfl Q0.out rfl (by simp [Value.oneCell']) (by omega) (by omega) z0 ?_; intro A2 c2 w4 happ hlt2; have B4 := hide (happ.low b0 z0 (Nat.le_refl _) Q0.out); have O4 := hide happ.1; clear happ)
  go_ret
  have o4 := O4.out
  obtain ⟨g, rfl, _⟩ := own_form o4 (by omega)
  exact ⟨g, c2, rfl, by simpa [ext_all] using o4, B4.out⟩

set_option maxRecDepth 100000 in
set_option maxHeartbeats 4000000 in
theorem spec_l8Words_plus (w : World) :
    Calls Tryz.prog 29 #[.string ⟨#[49, 42, 97]⟩, .string ⟨#[32, 43, 32]⟩] w fun e w' => ∃ g c, e = .returned (.slice (some ⟨g, 0, none⟩) 1 c) ∧ w'.ownsRow w.heap.size 9 1 (.slice (some ⟨g, 0, none⟩) 1 c) 1 [.string ⟨#[49, 42, 97]⟩] ∧ Below w.heap.size w w' := by
  obtain ⟨i0, hi0, hz0, hz1, hz2⟩ := info_parts info_str
  have q0 : (w.alloc (.cells #[] 9)).ownsRow w.heap.size 9 1 (.slice (some ⟨w.heap.size, 0, none⟩) 0 0) 0 [] := by
    simpa using World.ownsRow_lit (size := 1) (e := 9) (base := w.heap.size) w #[] 0 (Nat.le_refl _) (by unfold maxLen; omega) rfl
  have b0 := below_alloc w (.cells #[] 9)
  have Q0 := hide q0
  have e1 : (((⟨#[49, 42, 97]⟩ : ByteArray).extract 0 3).toList == [32, 43, 32]) = false := by rw [ext_all, ByteArray.toList_eq]; rfl
  have e2 : ((⟨#[49, 42, 97]⟩ : ByteArray).toList == [32, 43, 32]) = false := by rw [ByteArray.toList_eq]; rfl
  clear q0
  go_enter Tryz.func29, Tryz.ntmps29
  go_wp2_with fail
  generalize w.alloc (.cells #[] 9) = W at Q0 b0 ⊢
  have z0 := b0.size
  refine wp_loop_rounds 2 ?_
  rw [rounds_succ]
  go_wp2_with fail
  rw [rounds_succ]
  go_wp2_with (at_builtin; refine wpl_app1b rfl (.tmp 43) (.tmp 47) 48 rfl w.heap.size 9 i0 (.string ByteArray.empty) 1 16 Tryz.underlying48 hi0 hz0 hz1 hz2 rfl (by omega) W _ _ rfl (some ⟨w.heap.size, 0, none⟩) 0 0 1 _ rfl rfl Q0.out rfl (by simp [Value.oneCell']) (by omega) (by omega) z0 ?_; intro A2 c2 w4 happ hlt2; have B4 := hide (happ.low b0 z0 (Nat.le_refl _) Q0.out); have O4 := hide happ.1; clear happ)
  go_ret
  have o4 := O4.out
  obtain ⟨g, rfl, _⟩ := own_form o4 (by omega)
  exact ⟨g, c2, rfl, by simpa [ext_all] using o4, B4.out⟩

theorem pieces_star : piecesF 42 [49, 42, 97] = [[49], [97]] := by decide +kernel
theorem two_of {ps : List ByteArray} {a b : List UInt8} (h : ps.map (·.data.toList) = [a, b]) : ps = [⟨a.toArray⟩, ⟨b.toArray⟩] := by
  cases ps with
  | nil => simp at h
  | cons p r =>
    cases r with
    | nil => simp at h
    | cons q r =>
      cases r with
      | nil =>
        simp only [List.map_cons, List.map_nil, List.cons.injEq, and_true] at h
        rw [bytes_of h.1, bytes_of h.2]
      | cons _ _ => simp at h

set_option maxRecDepth 100000 in
set_option maxHeartbeats 8000000 in
theorem spec_l8Mono (w : World) :
    Calls Tryz.prog 30 #[.string ⟨#[49, 42, 97]⟩, .int .i64 1] w fun e w' => ∃ gR, e = .returned (.agg #[.int .i64 1, .slice (some ⟨gR, 0, none⟩) 1 1]) ∧ OwnI w' w.heap.size w'.heap.size (some ⟨gR, 0, none⟩) 1 1 [1] ∧ Below w.heap.size w w' := by
  have hsz : (⟨#[49, 42, 97]⟩ : ByteArray).size = 3 := rfl
  have hsz1 : (⟨#[49]⟩ : ByteArray).size = 1 := rfl
  have HN := hide (fun W => spec_ParseNumber ⟨#[49]⟩ W (by rw [hsz1]; omega))
  rw [par_one] at HN
  have b0 := below_alloc w (.cells #[.int .i64 0, .slice none 0 0] 52)
  have k0 := BlkN.new w #[.int .i64 0, .slice none 0 0] 52
  have hmk := make_ints 1 (by omega)
  have HMK := hide hmk
  clear hmk
  go_enter Tryz.func30, Tryz.ntmps30
  go_wp2_with fail
  generalize w.alloc (.cells #[.int .i64 0, .slice none 0 0] 52) = W0 at b0 k0 ⊢
  have z0 := b0.size
  have zk0 := k0.lt
  refine (spec_l1Cut ⟨#[49, 42, 97]⟩ 42 42 rfl W0 (by rw [hsz]; omega)).mono ?_
  rintro e W ⟨A1, n1, c1, ps, rfl, hown, hps, b1⟩
  obtain rfl := two_of (hps.out.trans pieces_star)
  have hn1 : n1 = 2 := by have := own_len hown.out; simpa using this.symm
  subst hn1
  obtain ⟨g1, rfl, hg1, hg1'⟩ := own_form hown.out (by omega)
  have k02 := k0.below b1
  have b2 := b0.trans (b1.mono z0)
  have z1 := b1.size
  have hz1 : zeros 1 = #[.int .i64 0] := by rw [← Array.toList_inj, zeros_list]; rfl
  have hmk : (Instr.makeSlice 22 (.int .i64 1) (.int .i64 1)).run Tryz.prog W = .ok (.slice (some ⟨W.heap.size, 0, none⟩) 1 1) (W.alloc (.cells #[.int .i64 0] 3)) := by
    have := HMK.out W
    rw [hz1] at this
    exact this
  have b4 : Below w.heap.size w ((W.alloc (.cells #[.int .i64 0] 3)).alloc (.cells #[.int .i64 0, .slice (some ⟨W.heap.size, 0, none⟩) 1 1] 52)) := (b2.alloc b2.size _).alloc (by simp; omega) _
  have bW4 : Below W.heap.size W ((W.alloc (.cells #[.int .i64 0] 3)).alloc (.cells #[.int .i64 0, .slice (some ⟨W.heap.size, 0, none⟩) 1 1] 52)) := ((Below.refl _ _).alloc (Nat.le_refl _) _).alloc (by simp) _
  have k04 := k02.below bW4
  have km4 := BlkN.new (W.alloc (.cells #[.int .i64 0] 3)) #[.int .i64 0, .slice (some ⟨W.heap.size, 0, none⟩) 1 1] 52
  rw [show (W.alloc (.cells #[.int .i64 0] 3)).heap.size = W.heap.size + 1 from by simp] at km4
  have ow4 := (World.ownsRow_lit (size := 1) (e := 3) W #[.int .i64 0] 1 b2.size (by unfold maxLen; omega) rfl).alloc (.cells #[.int .i64 0, .slice (some ⟨W.heap.size, 0, none⟩) 1 1] 52)
  have hs40 := row_at (owns_below hown.out bW4 (fun ad e => by injection e with e; subst e; exact hg1')) (j := 0) rfl
  have hs41 := row_at (owns_below hown.out bW4 (fun ad e => by injection e with e; subst e; exact hg1')) (j := 1) rfl
  clear HMK hown hps
  go_wp2_with fail
  obtain ⟨g, hg⟩ : ∃ g, g = W.heap.size := ⟨_, rfl⟩
  have hzW : w.heap.size < g := by rw [hg]; omega
  have hg1g : g1 < g := by omega
  rw [← hg] at b4 k04 km4 ow4 hs40 hs41 ⊢
  generalize (W.alloc (.cells #[.int .i64 0] 3)).alloc (.cells #[.int .i64 0, .slice (some ⟨g, 0, none⟩) 1 1] 52) = W4 at b4 k04 km4 ow4 hs40 hs41 ⊢
  clear hg hmk bW4 k02 b2 b1 k0 b0
  refine (HN.out W4).mono ?_
  rintro e w5 ⟨rfl, b5⟩
  have k05 := k04.below b5
  have km5 := km4.below b5
  have bw5 := b4.trans (b5.mono b4.size)
  have zm := km4.lt
  have ow5 := owns_below ow4 b5 (fun ad e => by injection e with e; subst e; show g < W4.heap.size; omega)
  have hs51 : w5.cell? ⟨g1, 1, none⟩ = some (.string ⟨#[97]⟩) := (b5.cell (p := ⟨g1, 1, none⟩) (by show g1 < W4.heap.size; omega)).trans hs41
  have e0 := km5.c 0 rfl
  have ef := km5.f 0
  have k06 := k05.far (b := g + 1) (i := 0) (by omega) (.int .i64 1)
  have km6 := km5.set 0 (.int .i64 1)
  simp only [List.setIfInBounds_toArray, List.set_cons_zero, List.set_cons_succ] at km6
  have ow6 := owns_setCell ow5 (p := ⟨g + 1, 0, none⟩) (fun ad e => by injection e with e; subst e; show g ≠ g + 1; omega) (.int .i64 1)
  have bw6 : Below w.heap.size w (w5.setCell ⟨g + 1, 0, none⟩ (.int .i64 1)) := bw5.setCell (by show w.heap.size ≤ g + 1; omega) _
  have hs61 : (w5.setCell ⟨g + 1, 0, none⟩ (.int .i64 1)).cell? ⟨g1, 1, none⟩ = some (.string ⟨#[97]⟩) := (World.cell?_of_block (w := w5) (a := ⟨g1, 1, none⟩) (Below.heap_setCell _ _ _ _ (by show g1 ≠ g + 1; omega))).trans hs51
  clear k04 km4 ow4 hs40 hs41 k05 km5 ow5 hs51 HN
  go_wp2_with fail
  generalize w5.setCell ⟨g + 1, 0, none⟩ (.int .i64 1) = W6 at k06 km6 ow6 bw6 hs61 ⊢
  clear e0 ef
  have hr0 : W6.cell? ⟨g, 0, none⟩ = some (.int .i64 0) := ow6.cellAt 0 (by omega)
  have hrf := ow6.frozenAt 0
  have hm0 := km6.c 0 rfl
  have hm1 := km6.c 1 rfl
  have h97 : ((⟨#[97]⟩ : ByteArray)[0]'(by decide)).toNat = 97 := rfl
  have hw0 : IntKind.u8.wrap 0 = 0 := rfl
  refine wp_loop_rounds 2 ?_
  rw [rounds_succ]
  go_wp2_with (go_at_call 48; refine (spec_l1In _ _ _ _).mono ?_; rintro e w' ⟨rfl, rfl⟩)
  refine still_tail 7 (by kernel_rfl) (by kernel_rfl) ?_
  simp only [List.take_succ_cons, List.take_zero, List.drop_succ_cons, List.drop_zero]
  repeat still_step
  refine wpStill_nil ?_
  have ow7 := (ow6.stored 0 (.int .i64 1)).1
  have b7 : Below w.heap.size w (W6.setCell ⟨g, 0, none⟩ (.int .i64 1)).drew := (bw6.setCell (by show w.heap.size ≤ g; omega) _).drew
  have hgw : w.heap.size ≠ g := by omega
  have hgm : g + 1 ≠ g := by omega
  have k07 : BlkN (W6.setCell ⟨g, 0, none⟩ (.int .i64 1)).drew w.heap.size #[.int .i64 0, .slice none 0 0] := (k06.far (b := g) (i := 0) hgw (.int .i64 1)).drew
  have km7 : BlkN (W6.setCell ⟨g, 0, none⟩ (.int .i64 1)).drew (g + 1) #[.int .i64 1, .slice (some ⟨g, 0, none⟩) 1 1] := (km6.far (b := g) (i := 0) hgm (.int .i64 1)).drew
  have O7 : OwnI (W6.setCell ⟨g, 0, none⟩ (.int .i64 1)).drew w.heap.size (W6.setCell ⟨g, 0, none⟩ (.int .i64 1)).drew.heap.size (some ⟨g, 0, none⟩) 1 1 [1] := ⟨ow7, fun ad e => by
    have := km7.lt
    injection e with e
    subst e
    show g < _
    omega, one_rng (by constructor <;> omega)⟩
  have HO7 := hide O7
  clear ow7 ow6 k06 km6 O7 hs61
  go_wp2_with fail
  generalize (W6.setCell ⟨g, 0, none⟩ (.int .i64 1)).drew = W7 at b7 k07 km7 HO7 ⊢
  clear hr0 hrf hm0 hm1
  have e0 := km7.c 0 rfl
  have e1 := km7.c 1 rfl
  have U1 := k07.c 0 rfl
  have U2 := k07.c 1 rfl
  have V1 := k07.f 0
  have V2 := k07.f 1
  have zk := k07.lt
  rw [rounds_succ]
  go_wp2_with fail
  have hsame : ∀ l h, w.heap.size < l → Same l h W7 ((W7.setCell ⟨w.heap.size, 0, none⟩ (.int .i64 1)).setCell ⟨w.heap.size, 1, none⟩ (.slice (some ⟨g, 0, none⟩) 1 1)) := fun l h hl => ((Same.refl l h W7).setCell (.inl hl) _).setCell (.inl hl) _
  have hsz5 : ((W7.setCell ⟨w.heap.size, 0, none⟩ (.int .i64 1)).setCell ⟨w.heap.size, 1, none⟩ (.slice (some ⟨g, 0, none⟩) 1 1)).heap.size = W7.heap.size := by simp [World.setCell]
  have HB8 := hide ((b7.setCell (p := ⟨w.heap.size, 0, none⟩) (Nat.le_refl _) (.int .i64 1)).setCell (p := ⟨w.heap.size, 1, none⟩) (Nat.le_refl _) (.slice (some ⟨g, 0, none⟩) 1 1))
  have HO8 := hide (own_at HO7.out hzW (hsame g _ hzW) (Nat.le_refl _))
  rw [← hsz5] at HO8
  clear HO7 hsame hsz5
  refine bodyPost_ret (v := .agg #[.int .i64 1, .slice (some ⟨g, 0, none⟩) 1 1]) (by simp [results, Tryz.results30, go_sem, U1, U2, V1, V2, zk]) rfl ⟨g, rfl, ?_⟩
  exact ⟨HO8.out, HB8.out⟩

theorem ext_abc : (⟨#[97, 98, 99, 100, 101, 102]⟩ : ByteArray).extract 0 1 = ⟨#[97]⟩ := bytes_ext (by rw [Lib.extract_data]; rfl)

theorem text_1b : (⟨#[]⟩ : ByteArray) ++ ⟨#[49]⟩ ++ ⟨#[42]⟩ ++ (⟨#[97, 98, 99, 100, 101, 102]⟩ : ByteArray).extract 0 1 = ⟨#[49, 42, 97]⟩ := by
  rw [ext_abc]
  decide +kernel

set_option maxRecDepth 100000 in
set_option maxHeartbeats 4000000 in
theorem spec_l8Text1 (lo hi gP e gQ q gR r : Nat) (w : World) (h : Fld1 w lo hi gP e gQ q gR r 1 1) (hh : hi ≤ w.heap.size) :
    Calls Tryz.prog 58 #[.slice (some ⟨gQ, 0, none⟩) 1 q] w fun e w' => ∃ s, e = .returned (.string s) ∧ s = ⟨#[49, 42, 97]⟩ ∧ Below w.heap.size w w' := by
  have hcq := own_cap h.q
  have hcr := own_cap h.r
  have hq0 := h.cq0
  have H0 := hide h
  have hFN := spec_FormatNumber 1 w
  rw [fmt_one] at hFN
  have HFN := hide hFN
  clear h hFN
  go_enter Tryz.func58, Tryz.ntmps58
  go_wp2_with fail
  refine wp_loop_rounds 2 ?_
  rw [rounds_succ]
  go_wp2_with fail
  refine HFN.out.mono ?_
  rintro e w1 ⟨rfl, b1⟩
  have F1 := H0.out.below b1 hh
  have hq0 := F1.cq0
  have hq1 := F1.cq1
  have hr0 := F1.cr
  clear F1
  go_wp2_with fail
  refine wp_loop_rounds 2 ?_
  rw [rounds_succ]
  go_wp2_with fail
  rw [rounds_succ]
  go_wp2_with fail
  have hne : (((⟨#[]⟩ : ByteArray) ++ ⟨#[49]⟩ ++ ⟨#[42]⟩ ++ (⟨#[97, 98, 99, 100, 101, 102]⟩ : ByteArray).extract 0 1).toList == []) = false := by rw [text_1b, ByteArray.toList_eq]; rfl
  rw [rounds_succ]
  go_wp2_with fail
  go_ret
  exact ⟨_, rfl, text_1b, b1⟩

set_option maxRecDepth 100000 in
set_option maxHeartbeats 4000000 in
theorem spec_FormatField1 (lo hi gP e gQ q gR r : Nat) (w : World) (h : Fld1 w lo hi gP e gQ q gR r 1 1) (hh : hi ≤ w.heap.size) :
    Calls Tryz.prog 31 #[.agg #[.int .i64 1, .slice (some ⟨gP, 0, none⟩) 1 e]] w fun e w' => ∃ s, e = .returned (.string s) ∧ s = ⟨#[49, 42, 97]⟩ ∧ Below w.heap.size w w' := by
  have b0 := below_alloc w (.cells #[.int .i64 1, .slice (some ⟨gP, 0, none⟩) 1 e] 27)
  have k0 := BlkN.new w #[.int .i64 1, .slice (some ⟨gP, 0, none⟩) 1 e] 27
  have hcp := own_cap h.p
  have H0 := hide h
  clear h
  go_enter Tryz.func31, Tryz.ntmps31
  go_wp2_with fail
  generalize w.alloc (.cells #[.int .i64 1, .slice (some ⟨gP, 0, none⟩) 1 e] 27) = W at b0 k0 ⊢
  have z0 := b0.size
  have hK := spec_FieldOk 1 (some ⟨gP, 0, none⟩) 1 e [[(1, [1])]] 0 W.heap.size W (((H0.out.below b0 hh).mons2).wide (Nat.zero_le _) (by omega)) (Nat.le_refl _) (by simp)
  rw [field_ok1] at hK
  refine hK.mono ?_
  rintro e w1 ⟨rfl, b1⟩
  have k1 := k0.below b1
  have bw1 := b0.trans (b1.mono z0)
  have r1 := k1.c 0 rfl
  have r2 := k1.c 1 rfl
  have F1 := H0.out.below bw1 hh
  have c1 := F1.cp
  have zk1 := bw1.size
  have HT := hide (spec_l8Text1 lo hi gP e gQ q gR r w1 F1 (by omega))
  clear k0 hK F1
  go_wp2_with fail
  refine wp_loop_rounds 2 ?_
  rw [rounds_succ]
  go_wp2_with fail
  refine HT.out.mono ?_
  rintro e w2 ⟨s, rfl, rfl, b2⟩
  have k2 := k1.below b2
  have bw2 := bw1.trans (b2.mono bw1.size)
  have r1 := k2.c 0 rfl
  have r2 := k2.c 1 rfl
  clear k1 HT
  go_wp2_with fail
  rw [rounds_succ]
  go_wp2_with fail
  go_ret
  exact ⟨_, rfl, nil_app _, bw2⟩
end Go.Proofs.YtlfgbellhiifmaaGreatDoor
