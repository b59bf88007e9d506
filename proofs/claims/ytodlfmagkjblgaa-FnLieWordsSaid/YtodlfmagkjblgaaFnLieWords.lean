/- Proved here: for every input the statement FnLieWords returns true, and its argument reads as before. No conditions. -/
import Derived.Test.YtodlfmagkjblgaaRing2
import Derived.Test.YtodlfmagkjblgaaFrames
namespace Go.Proofs.Ytodlfmagkjblgaa.fnLieWords
open Go.ChangeShapes Go.WideShapes Go.ChangeAt Go.RowKit
set_option linter.unusedSimpArgs false
set_option linter.unusedVariables false
set_option maxRecDepth 20000
open Ser (rep ser expS logS sch SpE)

set_option maxRecDepth 100000 in
set_option maxHeartbeats 8000000 in
theorem walk (A : Option Addr) (n c : Nat) (w : World) (h : Bytes w 0 w.heap.size A n c) :
    Calls Try.prog 8 #[.slice A n c] w fun e w' => e = .returned (.bool true) ∧ Below w.heap.size w w' := by
  have hcp := h.cap
  have hmx := h.max
  obtain ⟨i0, hi0, hz0, hz1, hz2⟩ := info_parts info_move
  by_cases hbig : 1048576 < n
  · go_enter Try.func8, Try.ntmps8
    go_wp2_with fail
    refine (laws_big A n c w (by omega)).mono ?_
    rintro e w1 ⟨rfl, rfl⟩
    rw [decide_eq_true hbig]
    go_wp2_with fail
    go_ret
    exact ⟨rfl, Below.refl _ _⟩
  · go_enter Try.func8, Try.ntmps8
    go_wp2_with fail
    refine (laws_big A n c w (by omega)).mono ?_
    rintro e w1 ⟨rfl, rfl⟩
    rw [decide_eq_false hbig]
    go_wp2_with fail
    refine (spec_DrawSchemes w.heap.size A n c w h (Nat.le_refl _)).mono ?_
    rintro e wd ⟨Am, m, dm, ms, Ak, k, dk, ks, l0, rfl, hm4, hk4, om, ok, hl0, gm, gk, BB⟩
    have h' := h.below BB (Nat.le_refl _)
    go_wp2_with fail
    refine (laws_at0 w.heap.size A n c 0 wd h' (by omega) (by omega)).mono ?_
    rintro e w1 ⟨x, rfl, hx0, hx1, rfl⟩
    have hm := Int.tmod_eq_emod_of_nonneg (b := 4) hx0
    have ho2 : 2 ≤ 2 + x % 4 := by omega
    have ho5 : 2 + x % 4 ≤ 5 := by omega
    go_wp2_with fail
    generalize 2 + x % 4 = o at ho2 ho5 ⊢
    have h0 : 0 ≤ o := by omega
    have h1o : 1 ≤ o := by omega
    have h5 : o ≤ 5 := by omega
    clear hm hx0 hx1 hbig h'
    have hcb := cntN_bd h5
    obtain ⟨l1, hl1⟩ : ∃ l1, l1 = wd.heap.size := ⟨_, rfl⟩
    have zl : l1 ≤ wd.heap.size := by omega
    have om' := om.wide_ hl0
    rw [← hl1] at om' ok
    have hgm : goodM ms := gm
    have hgk : goodM ks := gk
    clear hl1 om gm gk
    refine (impl_Sch_rep o h1o h5 Am m dm ms _ _ wd om'.moves zl hgm (by omega)).mono ?_
    rintro e w1 ⟨A1, c1, rfl, o1, b1⟩
    have B1 := b1.trans ((below_alloc w1 (.cells #[.int .i64 o, .slice A1 (cntN o) c1] 38)).mono b1.size)
    have zz1 := b1.size
    have v_a := WV.new (lo := l1) (o := o) o1 zl (by omega) 38
    replace om' := om'.below B1 zl
    replace ok := ok.below B1 zl
    replace zl := Nat.le_trans zl B1.size
    replace BB := BB.trans (B1.mono BB.size)
    clear o1 b1 B1 zz1
    go_wp2_with fail
    generalize (w1.alloc (.cells #[.int .i64 o, .slice A1 (cntN o) c1] 38)) = u1 at BB zl v_a om' ok ⊢
    refine (impl_Sch_rep o h1o h5 Ak k dk ks _ _ u1 ok.moves zl hgk (by omega)).mono ?_
    rintro e w2 ⟨A2, c2, rfl, o2, b2⟩
    have B2 := b2.trans ((below_alloc w2 (.cells #[.int .i64 o, .slice A2 (cntN o) c2] 38)).mono b2.size)
    have zz2 := b2.size
    have v_b := WV.new (lo := l1) (o := o) o2 zl (by omega) 38
    replace v_a := v_a.below B2
    replace om' := om'.below B2 zl
    replace ok := ok.below B2 zl
    replace zl := Nat.le_trans zl B2.size
    replace BB := BB.trans (B2.mono BB.size)
    clear o2 b2 B2 zz2
    have y_3 := v_a
    obtain ⟨A_a3, c_a3, hB_a3, hI_a3, hg_a3⟩ := y_3
    have p_a3 := hB_a3.c 0 rfl
    have q_a3 := hB_a3.c 1 rfl
    go_wp2_with fail
    generalize (w2.alloc (.cells #[.int .i64 o, .slice A2 (cntN o) c2] 38)) = u2 at BB zl v_a v_b om' ok p_a3 q_a3 hB_a3 hI_a3 ⊢
    clear p_a3 q_a3 hB_a3
    refine (impl_Log_rep o h0 h5 ((sch (serM ms))) (Ser.sch_nil _) A_a3 c_a3 _ _ u2 hI_a3 (Nat.le_refl _)).mono ?_
    rintro e w4 ⟨A4, c4, rfl, o4, b4⟩
    clear hI_a3
    have B4 := b4.trans ((below_alloc w4 (.cells #[.int .i64 o, .slice A4 (cntN o) c4] 38)).mono b4.size)
    have zz4 := b4.size
    have v_x := WV.new (lo := l1) (o := o) o4 zl (by omega) 38
    replace v_a := v_a.below B4
    replace v_b := v_b.below B4
    replace om' := om'.below B4 zl
    replace ok := ok.below B4 zl
    replace zl := Nat.le_trans zl B4.size
    replace BB := BB.trans (B4.mono BB.size)
    clear o4 b4 B4 zz4
    have y_5 := v_b
    obtain ⟨A_b5, c_b5, hB_b5, hI_b5, hg_b5⟩ := y_5
    have p_b5 := hB_b5.c 0 rfl
    have q_b5 := hB_b5.c 1 rfl
    go_wp2_with fail
    generalize (w4.alloc (.cells #[.int .i64 o, .slice A4 (cntN o) c4] 38)) = u4 at BB zl v_a v_b v_x om' ok p_b5 q_b5 hB_b5 hI_b5 ⊢
    clear p_b5 q_b5 hB_b5
    refine (impl_Log_rep o h0 h5 ((sch (serM ks))) (Ser.sch_nil _) A_b5 c_b5 _ _ u4 hI_b5 (Nat.le_refl _)).mono ?_
    rintro e w6 ⟨A6, c6, rfl, o6, b6⟩
    clear hI_b5
    have B6 := b6.trans ((below_alloc w6 (.cells #[.int .i64 o, .slice A6 (cntN o) c6] 38)).mono b6.size)
    have zz6 := b6.size
    have v_y := WV.new (lo := l1) (o := o) o6 zl (by omega) 38
    replace v_a := v_a.below B6
    replace v_b := v_b.below B6
    replace v_x := v_x.below B6
    replace om' := om'.below B6 zl
    replace ok := ok.below B6 zl
    replace zl := Nat.le_trans zl B6.size
    replace BB := BB.trans (B6.mono BB.size)
    clear o6 b6 B6 zz6
    have y_7 := v_a
    obtain ⟨A_a7, c_a7, hB_a7, hI_a7, hg_a7⟩ := y_7
    have p_a7 := hB_a7.c 0 rfl
    have q_a7 := hB_a7.c 1 rfl
    have y_8 := v_b
    obtain ⟨A_b8, c_b8, hB_b8, hI_b8, hg_b8⟩ := y_8
    have p_b8 := hB_b8.c 0 rfl
    have q_b8 := hB_b8.c 1 rfl
    go_wp2_with fail
    generalize (w6.alloc (.cells #[.int .i64 o, .slice A6 (cntN o) c6] 38)) = u6 at BB zl v_a v_b v_x v_y om' ok p_a7 q_a7 p_b8 q_b8 hB_a7 hI_a7 hB_b8 hI_b8 ⊢
    clear p_a7 q_a7 p_b8 q_b8 hB_a7 hB_b8
    refine (impl_Mul_rep o h0 h5 ((sch (serM ms))) ((sch (serM ks))) A_a7 c_a7 _ _ A_b8 c_b8 _ _ u6 hI_a7 hI_b8 (Nat.le_refl _) (Nat.le_refl _)).mono ?_
    rintro e w9 ⟨A9, c9, rfl, o9, b9⟩
    clear hI_a7
    clear hI_b8
    clear v_a
    clear v_b
    have B9 := b9.trans ((below_alloc w9 (.cells #[.int .i64 o, .slice A9 (cntN o) c9] 38)).mono b9.size)
    have zz9 := b9.size
    have v_ab := WV.new (lo := l1) (o := o) o9 zl (by omega) 38
    replace v_x := v_x.below B9
    replace v_y := v_y.below B9
    replace om' := om'.below B9 zl
    replace ok := ok.below B9 zl
    replace zl := Nat.le_trans zl B9.size
    replace BB := BB.trans (B9.mono BB.size)
    clear o9 b9 B9 zz9
    have y_10 := v_ab
    obtain ⟨A_ab10, c_ab10, hB_ab10, hI_ab10, hg_ab10⟩ := y_10
    have p_ab10 := hB_ab10.c 0 rfl
    have q_ab10 := hB_ab10.c 1 rfl
    go_wp2_with fail
    generalize (w9.alloc (.cells #[.int .i64 o, .slice A9 (cntN o) c9] 38)) = u9 at BB zl v_x v_y v_ab om' ok p_ab10 q_ab10 hB_ab10 hI_ab10 ⊢
    clear p_ab10 q_ab10 hB_ab10
    refine (impl_Log_rep o h0 h5 ((sch (serM ms) * sch (serM ks))) (sch_mul_one _ _) A_ab10 c_ab10 _ _ u9 hI_ab10 (Nat.le_refl _)).mono ?_
    rintro e w11 ⟨A11, c11, rfl, o11, b11⟩
    clear hI_ab10
    have B11 := b11.trans ((below_alloc w11 (.cells #[.int .i64 o, .slice A11 (cntN o) c11] 38)).mono b11.size)
    have zz11 := b11.size
    have v_z := WV.new (lo := l1) (o := o) o11 zl (by omega) 38
    replace v_x := v_x.below B11
    replace v_y := v_y.below B11
    replace v_ab := v_ab.below B11
    replace om' := om'.below B11 zl
    replace ok := ok.below B11 zl
    replace zl := Nat.le_trans zl B11.size
    replace BB := BB.trans (B11.mono BB.size)
    clear o11 b11 B11 zz11
    have y_12 := v_x
    obtain ⟨A_x12, c_x12, hB_x12, hI_x12, hg_x12⟩ := y_12
    have p_x12 := hB_x12.c 0 rfl
    have q_x12 := hB_x12.c 1 rfl
    have y_13 := v_y
    obtain ⟨A_y13, c_y13, hB_y13, hI_y13, hg_y13⟩ := y_13
    have p_y13 := hB_y13.c 0 rfl
    have q_y13 := hB_y13.c 1 rfl
    go_wp2_with fail
    generalize (w11.alloc (.cells #[.int .i64 o, .slice A11 (cntN o) c11] 38)) = u11 at BB zl v_x v_y v_ab v_z om' ok p_x12 q_x12 p_y13 q_y13 hB_x12 hI_x12 hB_y13 hI_y13 ⊢
    clear p_x12 q_x12 p_y13 q_y13 hB_x12 hB_y13
    refine (impl_Mul_rep o h0 h5 ((logS (sch (serM ms)))) ((logS (sch (serM ks)))) A_x12 c_x12 _ _ A_y13 c_y13 _ _ u11 hI_x12 hI_y13 (Nat.le_refl _) (Nat.le_refl _)).mono ?_
    rintro e w14 ⟨A14, c14, rfl, o14, b14⟩
    clear hI_x12
    clear hI_y13
    have B14 := b14.trans ((below_alloc w14 (.cells #[.int .i64 o, .slice A14 (cntN o) c14] 38)).mono b14.size)
    have zz14 := b14.size
    have v_xy := WV.new (lo := l1) (o := o) o14 zl (by omega) 38
    replace v_x := v_x.below B14
    replace v_y := v_y.below B14
    replace v_ab := v_ab.below B14
    replace v_z := v_z.below B14
    replace om' := om'.below B14 zl
    replace ok := ok.below B14 zl
    replace zl := Nat.le_trans zl B14.size
    replace BB := BB.trans (B14.mono BB.size)
    clear o14 b14 B14 zz14
    have y_15 := v_y
    obtain ⟨A_y15, c_y15, hB_y15, hI_y15, hg_y15⟩ := y_15
    have p_y15 := hB_y15.c 0 rfl
    have q_y15 := hB_y15.c 1 rfl
    have y_16 := v_x
    obtain ⟨A_x16, c_x16, hB_x16, hI_x16, hg_x16⟩ := y_16
    have p_x16 := hB_x16.c 0 rfl
    have q_x16 := hB_x16.c 1 rfl
    go_wp2_with fail
    generalize (w14.alloc (.cells #[.int .i64 o, .slice A14 (cntN o) c14] 38)) = u14 at BB zl v_x v_y v_ab v_z v_xy om' ok p_y15 q_y15 p_x16 q_x16 hB_y15 hI_y15 hB_x16 hI_x16 ⊢
    clear p_y15 q_y15 p_x16 q_x16 hB_y15 hB_x16
    refine (impl_Mul_rep o h0 h5 ((logS (sch (serM ks)))) ((logS (sch (serM ms)))) A_y15 c_y15 _ _ A_x16 c_x16 _ _ u14 hI_y15 hI_x16 (Nat.le_refl _) (Nat.le_refl _)).mono ?_
    rintro e w17 ⟨A17, c17, rfl, o17, b17⟩
    clear hI_y15
    clear hI_x16
    have B17 := b17.trans ((below_alloc w17 (.cells #[.int .i64 o, .slice A17 (cntN o) c17] 38)).mono b17.size)
    have zz17 := b17.size
    have v_yx := WV.new (lo := l1) (o := o) o17 zl (by omega) 38
    replace v_x := v_x.below B17
    replace v_y := v_y.below B17
    replace v_ab := v_ab.below B17
    replace v_z := v_z.below B17
    replace v_xy := v_xy.below B17
    replace om' := om'.below B17 zl
    replace ok := ok.below B17 zl
    replace zl := Nat.le_trans zl B17.size
    replace BB := BB.trans (B17.mono BB.size)
    clear o17 b17 B17 zz17
    go_upto_region 13 with fail
    generalize (w17.alloc (.cells #[.int .i64 o, .slice A17 (cntN o) c17] 38)) = V at BB zl v_x v_y v_ab v_z v_xy v_yx om' ok ⊢
    have y_xy := v_xy
    obtain ⟨A_xy, c_xy, hB_xy, hI_xy, hg_xy⟩ := y_xy
    have y_yx := v_yx
    obtain ⟨A_yx, c_yx, hB_yx, hI_yx, hg_yx⟩ := y_yx
    obtain ⟨fb, hfb⟩ : ∃ fb : Ser, fb = (logS (sch (serM ms)) * logS (sch (serM ks)) + Ser.sm (Ser.toF (-1)) (logS (sch (serM ks)) * logS (sch (serM ms)))) := ⟨_, rfl⟩
    have hfbL : SpE fb := by rw [hfb]; exact lie_bracket (Ser.sch_lie _) (Ser.sch_lie _)
    go_cut [22, 23] (fun s1_ s2_ wx => ∃ (b : Nat), s1_ = .pointer (some ⟨b, 0, none⟩) ∧ s2_ = .bool true ∧ Below V.heap.size V wx ∧ WV wx l1 b o fb)
    case first =>
      have hS0 : Below V.heap.size V V.drew := (Below.refl _ _).drew
      refine wp_region_Z (fun w' => Below V.heap.size V w') 8 (by kernel_rfl) ?_
      refine wpAnyZ_take 0 (.agg #[.int .i64 o, .slice A_xy (cntN o) c_xy]) rfl (by kernel_rfl) (by kernel_rfl) (fun _ _ _ h => h) (by rfl) (fun _ hS => by have q0 := (hB_xy.below hS).c 0 rfl; have q1 := (hB_xy.below hS).c 1 rfl; clear hS; go_simp) hS0 ?_
      try simp only [Act.put, List.setIfInBounds_toArray, List.set_cons_zero, List.set_cons_succ]
      refine wpAnyZ_take 1 (.agg #[.int .i64 o, .slice A_yx (cntN o) c_yx]) rfl (by kernel_rfl) (by kernel_rfl) (fun _ _ _ h => h) (by rfl) (fun _ hS => by have q0 := (hB_yx.below hS).c 0 rfl; have q1 := (hB_yx.below hS).c 1 rfl; clear hS; go_simp) hS0 ?_
      try simp only [Act.put, List.setIfInBounds_toArray, List.set_cons_zero, List.set_cons_succ]
      refine wpAnyZ_two 2 7 (by kernel_rfl) rfl rfl (by rfl) (by rfl) (fun K hK => ?_) (fun K hK => ?_)
      ·
        go_simp
        refine (impl_Scale_rep o h0 h5 (logS (sch (serM ks)) * logS (sch (serM ms))) (-1) A_yx c_yx _ _ V.drew (hI_yx.below hS0 (Nat.le_refl _)) hS0.size (by constructor <;> omega)).mono ?_
        rintro e x1 ⟨Au, cu, rfl, ou, bx1⟩
        have hS1 := hS0.trans (bx1.mono hS0.size)
        have hz1 := hS1.size
        have ou0 := ou.wide (lo' := 0) (hi' := x1.heap.size) (Nat.zero_le _) (Nat.le_refl _)
        go_wp2_with fail
        refine hK.out _ _ hS1 ?_
        clear hK K
        try simp only [Act.put, List.setIfInBounds_toArray, List.set_cons_zero, List.set_cons_succ]
        refine wpAnyZ_two 3 7 (by kernel_rfl) rfl rfl (by rfl) (by rfl) (fun K hK => ?_) (fun K hK => ?_)
        ·
          go_simp
          refine (impl_Add_rep o h0 h5 (logS (sch (serM ms)) * logS (sch (serM ks))) (Ser.sm (Ser.toF (-1)) (logS (sch (serM ks)) * logS (sch (serM ms)))) A_xy c_xy _ _ Au cu _ _ x1 (hI_xy.below hS1 (Nat.le_refl _)) ou0.ints hS1.size (Nat.le_refl _)).mono ?_
          rintro e x2 ⟨As, cs, rfl, os, bx2⟩
          have hS2 := hS1.trans (bx2.mono hS1.size)
          have hz2 := hS2.size
          rw [← hfb] at os; have os0 := os.wide (lo' := V.heap.size) (hi' := x2.heap.size) hS1.size (Nat.le_refl _)
          go_wp2_with fail
          refine hK.out _ _ hS2 ?_
          clear hK K
          try simp only [Act.put, List.setIfInBounds_toArray, List.set_cons_zero, List.set_cons_succ]
          refine wpAnyZ_takeW 4 (.tuple #[.agg #[.int .i64 o, .slice As (cntN o) cs], .bool true]) rfl (by kernel_rfl) (by kernel_rfl) (fun _ _ _ h => h) (by rfl) (fun _ => by go_simp) hS2 ?_
          try simp only [Act.put, List.setIfInBounds_toArray, List.set_cons_zero, List.set_cons_succ]
          refine wpAnyZ_takeW 5 (.agg #[.int .i64 o, .slice As (cntN o) cs]) rfl (by kernel_rfl) (by kernel_rfl) (fun _ _ _ h => h) (by rfl) (fun _ => by go_simp) hS2 ?_
          try simp only [Act.put, List.setIfInBounds_toArray, List.set_cons_zero, List.set_cons_succ]
          refine wpAnyZ_takeW 6 (.bool true) rfl (by kernel_rfl) (by kernel_rfl) (fun _ _ _ h => h) (by rfl) (fun _ => by go_simp) hS2 ?_
          try simp only [Act.put, List.setIfInBounds_toArray, List.set_cons_zero, List.set_cons_succ]
          refine wpAnyZ_one 7 (by kernel_rfl) rfl (by rfl) (fun K hK => ?_)
          go_simp
          have ax3 := below_alloc x2 (.cells #[.int .i64 0, .slice none 0 0] 38)
          have kz3 := BlkN.new x2 #[.int .i64 0, .slice none 0 0] 38
          have hS3 := hS2.trans (ax3.mono hS2.size)
          have hgb : V.heap.size ≤ x2.heap.size := hS2.size
          have on3 := os0.below ax3 (Nat.le_refl _)
          obtain ⟨gb, hgb2⟩ : ∃ gb, gb = x2.heap.size := ⟨_, rfl⟩
          have hne : ∀ ad, As = some ad → ad.block ≠ gb := fun ad e => by have h1 := (owns_lt os0.own ad e).2; omega
          rw [← hgb2] at kz3 hgb
          try rw [← hgb2]
          clear hgb2
          generalize (x2.alloc (.cells #[.int .i64 0, .slice none 0 0] 38)) = x3 at kz3 hS3 ax3 on3 ⊢
          have oz3 := on3.wide (lo' := V.heap.size) (hi' := x3.heap.size) (Nat.le_refl _) ax3.size
          refine hK.out _ _ hS3 ?_
          clear hK K
          try simp only [Act.put, List.setIfInBounds_toArray, List.set_cons_zero, List.set_cons_succ]
          have f0 := kz3.f 0
          have f1_ := kz3.f 1
          have c0 := kz3.c 0 rfl
          have c1_ := kz3.c 1 rfl
          have hlt := kz3.lt
          have kf := (kz3.set 0 (.int .i64 o)).set 1 (.slice As (cntN o) cs)
          simp only [List.setIfInBounds_toArray, List.set_cons_zero, List.set_cons_succ] at kf
          have hBf := store2_below hS3 hgb (.int .i64 o) (.slice As (cntN o) cs)
          have omf := owns_setCell (owns_setCell oz3.own (p := ⟨gb, 0, none⟩) hne (.int .i64 o)) (p := ⟨gb, 1, none⟩) hne (.slice As (cntN o) cs)
          have hFin : WV ((x3.setCell ⟨gb, 0, none⟩ (.int .i64 o)).setCell ⟨gb, 1, none⟩ (.slice As (cntN o) cs)) l1 gb o fb := ⟨As, cs, kf, (OwnI.mk omf (fun ad e => by have := (owns_lt oz3.own ad e).2; simpa [World.setCell] using this) oz3.rng).ints.wide (by omega) (Nat.le_refl _), by omega⟩
          have HF := hide (And.intro hBf hFin)
          clear kf hBf omf hFin
          refine wpAnyZ_last2 9 (by kernel_rfl) rfl (by kernel_rfl) rfl (by kernel_rfl) (by decide) (by rfl) (fun _ => rfl) (fun K hK => ?_)
          go_simp
          refine hK _ _ ?_
          clear hK K
          go_simp
          go_wp2_with fail
          go_meet
          exact ⟨gb, rfl, rfl, HF.out.1, HF.out.2⟩
        ·
          go_simp
          have ax2 := below_alloc x1 (.cells #[.int .i64 0, .slice none 0 0] 38)
          have kz2 := BlkN.new x1 #[.int .i64 0, .slice none 0 0] 38
          have hS2 := hS1.trans (ax2.mono hS1.size)
          have hgb : V.heap.size ≤ x1.heap.size := hS1.size
          have on2 := ou0.below ax2 (Nat.le_refl _)
          obtain ⟨gb, hgb2⟩ : ∃ gb, gb = x1.heap.size := ⟨_, rfl⟩
          rw [← hgb2] at kz2 hgb
          try rw [← hgb2]
          clear hgb2
          generalize (x1.alloc (.cells #[.int .i64 0, .slice none 0 0] 38)) = x2 at kz2 hS2 ax2 on2 ⊢
          have oz2 := on2.wide (lo' := 0) (hi' := x2.heap.size) (Nat.zero_le _) ax2.size
          refine hK.out _ _ hS2 ?_
          clear hK K
          try simp only [Act.put, List.setIfInBounds_toArray, List.set_cons_zero, List.set_cons_succ]
          refine wpAnyZ_one 3 (by kernel_rfl) rfl (by rfl) (fun K hK => ?_)
          go_simp
          refine (impl_Add_rep o h0 h5 (logS (sch (serM ms)) * logS (sch (serM ks))) (Ser.sm (Ser.toF (-1)) (logS (sch (serM ks)) * logS (sch (serM ms)))) A_xy c_xy _ _ Au cu _ _ x2 (hI_xy.below hS2 (Nat.le_refl _)) oz2.ints hS2.size (Nat.le_refl _)).mono ?_
          rintro e x3 ⟨As, cs, rfl, os, bx3⟩
          have hS3 := hS2.trans (bx3.mono hS2.size)
          have hz3 := hS3.size
          have kz3 := kz2.below bx3
          rw [← hfb] at os; have os0 := os.wide (lo' := V.heap.size) (hi' := x3.heap.size) hS2.size (Nat.le_refl _)
          have hne : ∀ ad, As = some ad → ad.block ≠ gb := fun ad e => by have h1 := (owns_lt os.own ad e).1; have h2 := kz2.lt; omega
          go_wp2_with fail
          refine hK.out _ _ hS3 ?_
          clear hK K
          try simp only [Act.put, List.setIfInBounds_toArray, List.set_cons_zero, List.set_cons_succ]
          refine wpAnyZ_takeW 4 (.tuple #[.agg #[.int .i64 o, .slice As (cntN o) cs], .bool true]) rfl (by kernel_rfl) (by kernel_rfl) (fun _ _ _ h => h) (by rfl) (fun _ => by go_simp) hS3 ?_
          try simp only [Act.put, List.setIfInBounds_toArray, List.set_cons_zero, List.set_cons_succ]
          refine wpAnyZ_takeW 5 (.agg #[.int .i64 o, .slice As (cntN o) cs]) rfl (by kernel_rfl) (by kernel_rfl) (fun _ _ _ h => h) (by rfl) (fun _ => by go_simp) hS3 ?_
          try simp only [Act.put, List.setIfInBounds_toArray, List.set_cons_zero, List.set_cons_succ]
          refine wpAnyZ_takeW 6 (.bool true) rfl (by kernel_rfl) (by kernel_rfl) (fun _ _ _ h => h) (by rfl) (fun _ => by go_simp) hS3 ?_
          try simp only [Act.put, List.setIfInBounds_toArray, List.set_cons_zero, List.set_cons_succ]
          have f0 := kz3.f 0
          have f1_ := kz3.f 1
          have c0 := kz3.c 0 rfl
          have c1_ := kz3.c 1 rfl
          have hlt := kz3.lt
          have kf := (kz3.set 0 (.int .i64 o)).set 1 (.slice As (cntN o) cs)
          simp only [List.setIfInBounds_toArray, List.set_cons_zero, List.set_cons_succ] at kf
          have hBf := store2_below hS3 hgb (.int .i64 o) (.slice As (cntN o) cs)
          have omf := owns_setCell (owns_setCell os0.own (p := ⟨gb, 0, none⟩) hne (.int .i64 o)) (p := ⟨gb, 1, none⟩) hne (.slice As (cntN o) cs)
          have hFin : WV ((x3.setCell ⟨gb, 0, none⟩ (.int .i64 o)).setCell ⟨gb, 1, none⟩ (.slice As (cntN o) cs)) l1 gb o fb := ⟨As, cs, kf, (OwnI.mk omf (fun ad e => by have := (owns_lt os0.own ad e).2; simpa [World.setCell] using this) os0.rng).ints.wide (by omega) (Nat.le_refl _), by omega⟩
          have HF := hide (And.intro hBf hFin)
          clear kf hBf omf hFin
          refine wpAnyZ_last2 9 (by kernel_rfl) rfl (by kernel_rfl) rfl (by kernel_rfl) (by decide) (by rfl) (fun _ => rfl) (fun K hK => ?_)
          go_simp
          refine hK _ _ ?_
          clear hK K
          go_simp
          go_wp2_with fail
          go_meet
          exact ⟨gb, rfl, rfl, HF.out.1, HF.out.2⟩
      ·
        go_simp
        have hS1 := (below_alloc V (.cells #[.int .i64 0, .slice none 0 0] 38)).drew
        have kz1 := (BlkN.new V #[.int .i64 0, .slice none 0 0] 38).drew
        obtain ⟨gb, hgb2⟩ : ∃ gb, gb = V.heap.size := ⟨_, rfl⟩
        have kz1x : BlkN ((V.alloc (.cells #[.int .i64 0, .slice none 0 0] 38)).drew) gb #[.int .i64 0, .slice none 0 0] := by rw [hgb2]; exact kz1
        have hgb : V.heap.size ≤ gb := by omega
        clear kz1
        have kz1 := kz1x
        clear kz1x
        try rw [← hgb2]
        clear hgb2
        generalize ((V.alloc (.cells #[.int .i64 0, .slice none 0 0] 38)).drew) = x1 at kz1 hS1 ⊢
        refine hK.out _ _ hS1 ?_
        clear hK K
        try simp only [Act.put, List.setIfInBounds_toArray, List.set_cons_zero, List.set_cons_succ]
        refine wpAnyZ_one 2 (by kernel_rfl) rfl (by rfl) (fun K hK => ?_)
        go_simp
        refine (impl_Scale_rep o h0 h5 (logS (sch (serM ks)) * logS (sch (serM ms))) (-1) A_yx c_yx _ _ x1 (hI_yx.below hS1 (Nat.le_refl _)) hS1.size (by constructor <;> omega)).mono ?_
        rintro e x2 ⟨Au, cu, rfl, ou, bx2⟩
        have hS2 := hS1.trans (bx2.mono hS1.size)
        have hz2 := hS2.size
        have kz2 := kz1.below bx2
        have ou0 := ou.wide (lo' := 0) (hi' := x2.heap.size) (Nat.zero_le _) (Nat.le_refl _)
        go_wp2_with fail
        refine hK.out _ _ hS2 ?_
        clear hK K
        try simp only [Act.put, List.setIfInBounds_toArray, List.set_cons_zero, List.set_cons_succ]
        refine wpAnyZ_one 3 (by kernel_rfl) rfl (by rfl) (fun K hK => ?_)
        go_simp
        refine (impl_Add_rep o h0 h5 (logS (sch (serM ms)) * logS (sch (serM ks))) (Ser.sm (Ser.toF (-1)) (logS (sch (serM ks)) * logS (sch (serM ms)))) A_xy c_xy _ _ Au cu _ _ x2 (hI_xy.below hS2 (Nat.le_refl _)) ou0.ints hS2.size (Nat.le_refl _)).mono ?_
        rintro e x3 ⟨As, cs, rfl, os, bx3⟩
        have hS3 := hS2.trans (bx3.mono hS2.size)
        have hz3 := hS3.size
        have kz3 := kz2.below bx3
        rw [← hfb] at os; have os0 := os.wide (lo' := V.heap.size) (hi' := x3.heap.size) hS2.size (Nat.le_refl _)
        have hne : ∀ ad, As = some ad → ad.block ≠ gb := fun ad e => by have h1 := (owns_lt os.own ad e).1; have h2 := kz2.lt; omega
        go_wp2_with fail
        refine hK.out _ _ hS3 ?_
        clear hK K
        try simp only [Act.put, List.setIfInBounds_toArray, List.set_cons_zero, List.set_cons_succ]
        refine wpAnyZ_takeW 4 (.tuple #[.agg #[.int .i64 o, .slice As (cntN o) cs], .bool true]) rfl (by kernel_rfl) (by kernel_rfl) (fun _ _ _ h => h) (by rfl) (fun _ => by go_simp) hS3 ?_
        try simp only [Act.put, List.setIfInBounds_toArray, List.set_cons_zero, List.set_cons_succ]
        refine wpAnyZ_takeW 5 (.agg #[.int .i64 o, .slice As (cntN o) cs]) rfl (by kernel_rfl) (by kernel_rfl) (fun _ _ _ h => h) (by rfl) (fun _ => by go_simp) hS3 ?_
        try simp only [Act.put, List.setIfInBounds_toArray, List.set_cons_zero, List.set_cons_succ]
        refine wpAnyZ_takeW 6 (.bool true) rfl (by kernel_rfl) (by kernel_rfl) (fun _ _ _ h => h) (by rfl) (fun _ => by go_simp) hS3 ?_
        try simp only [Act.put, List.setIfInBounds_toArray, List.set_cons_zero, List.set_cons_succ]
        have f0 := kz3.f 0
        have f1_ := kz3.f 1
        have c0 := kz3.c 0 rfl
        have c1_ := kz3.c 1 rfl
        have hlt := kz3.lt
        have kf := (kz3.set 0 (.int .i64 o)).set 1 (.slice As (cntN o) cs)
        simp only [List.setIfInBounds_toArray, List.set_cons_zero, List.set_cons_succ] at kf
        have hBf := store2_below hS3 hgb (.int .i64 o) (.slice As (cntN o) cs)
        have omf := owns_setCell (owns_setCell os0.own (p := ⟨gb, 0, none⟩) hne (.int .i64 o)) (p := ⟨gb, 1, none⟩) hne (.slice As (cntN o) cs)
        have hFin : WV ((x3.setCell ⟨gb, 0, none⟩ (.int .i64 o)).setCell ⟨gb, 1, none⟩ (.slice As (cntN o) cs)) l1 gb o fb := ⟨As, cs, kf, (OwnI.mk omf (fun ad e => by have := (owns_lt os0.own ad e).2; simpa [World.setCell] using this) os0.rng).ints.wide (by omega) (Nat.le_refl _), by omega⟩
        have HF := hide (And.intro hBf hFin)
        clear kf hBf omf hFin
        refine wpAnyZ_last2 9 (by kernel_rfl) rfl (by kernel_rfl) rfl (by kernel_rfl) (by decide) (by rfl) (fun _ => rfl) (fun K hK => ?_)
        go_simp
        refine hK _ _ ?_
        clear hK K
        go_simp
        go_wp2_with fail
        go_meet
        exact ⟨gb, rfl, rfl, HF.out.1, HF.out.2⟩
    case rest =>
      obtain ⟨g_br, rfl, rfl, bV, v_br⟩ := hcut
      obtain ⟨V2, rfl⟩ : ∃ W : World, W = wc := ⟨_, rfl⟩
      replace v_x := v_x.below bV
      replace v_y := v_y.below bV
      replace v_ab := v_ab.below bV
      replace v_z := v_z.below bV
      replace v_xy := v_xy.below bV
      replace v_yx := v_yx.below bV
      replace om' := om'.below bV zl
      replace ok := ok.below bV zl
      replace zl := Nat.le_trans zl bV.size
      replace BB := BB.trans (bV.mono BB.size)
      clear bV
      clear hB_xy hB_yx hI_xy hI_yx hg_xy hg_yx
      clear v_xy
      clear v_yx
      go_wp2_with fail
      refine (impl_Letter_rep o h1o h5 V2).mono ?_
      rintro e w18 ⟨A18, c18, rfl, o18, b18⟩
      have B18 := b18.trans ((below_alloc w18 (.cells #[.int .i64 o, .slice A18 (cntN o) c18] 38)).mono b18.size)
      have zz18 := b18.size
      have v_letter := WV.new (lo := l1) (o := o) o18 zl (by omega) 38
      replace v_x := v_x.below B18
      replace v_y := v_y.below B18
      replace v_ab := v_ab.below B18
      replace v_z := v_z.below B18
      replace v_br := v_br.below B18
      replace om' := om'.below B18 zl
      replace ok := ok.below B18 zl
      replace zl := Nat.le_trans zl B18.size
      replace BB := BB.trans (B18.mono BB.size)
      clear o18 b18 B18 zz18
      have y_19 := v_letter
      obtain ⟨A_letter19, c_letter19, hB_letter19, hI_letter19, hg_letter19⟩ := y_19
      have p_letter19 := hB_letter19.c 0 rfl
      have q_letter19 := hB_letter19.c 1 rfl
      go_wp2_with fail
      generalize (w18.alloc (.cells #[.int .i64 o, .slice A18 (cntN o) c18] 38)) = u18 at BB zl v_x v_y v_ab v_z v_br v_letter om' ok p_letter19 q_letter19 hB_letter19 hI_letter19 ⊢
      clear p_letter19 q_letter19 hB_letter19
      refine (impl_Mul_rep o h0 h5 ((Ser.ltr false)) ((Ser.ltr false)) A_letter19 c_letter19 _ _ A_letter19 c_letter19 _ _ u18 hI_letter19 hI_letter19 (Nat.le_refl _) (Nat.le_refl _)).mono ?_
      rintro e w20 ⟨A20, c20, rfl, o20, b20⟩
      clear hI_letter19
      have B20 := b20.trans ((below_alloc w20 (.cells #[.int .i64 o, .slice A20 (cntN o) c20] 38)).mono b20.size)
      have zz20 := b20.size
      have v_sq := WV.new (lo := l1) (o := o) o20 zl (by omega) 38
      replace v_x := v_x.below B20
      replace v_y := v_y.below B20
      replace v_ab := v_ab.below B20
      replace v_z := v_z.below B20
      replace v_br := v_br.below B20
      replace v_letter := v_letter.below B20
      replace om' := om'.below B20 zl
      replace ok := ok.below B20 zl
      replace zl := Nat.le_trans zl B20.size
      replace BB := BB.trans (B20.mono BB.size)
      clear o20 b20 B20 zz20
      skip
      obtain ⟨Y, hY⟩ : ∃ Y, Y = (w20.alloc (.cells #[.int .i64 o, .slice A20 (cntN o) c20] 38)) := ⟨_, rfl⟩
      rw [← hY] at BB zl v_x v_y v_ab v_z v_br v_letter v_sq om' ok
      have aE := below_alloc Y (.cells #[] 70)
      have hownE : (Y.alloc (.cells #[] 70)).ownsRow Y.heap.size 70 2 (.slice (some ⟨Y.heap.size, 0, none⟩) 0 0) 0 [] := by simpa using World.ownsRow_lit (size := 2) (e := 70) Y #[] 0 (Nat.le_refl _) (by unfold maxLen; omega) rfl
      have s1 := hide ((om'.below aE zl).moves.src)
      have s2 := ok.below aE zl
      have lm := hide (OwnM.len om'); have lk := hide (OwnM.len ok)
      have nm := hide om'.none_; have nk := hide ok.none_
      rw [hY] at hownE aE s1 s2
      simp only [World.size_alloc] at hownE
      have zE : w20.heap.size + 1 ≤ ((w20.alloc (.cells #[.int .i64 o, .slice A20 (cntN o) c20] 38)).alloc (.cells #[] 70)).heap.size := by simp
      have zlY : l1 ≤ w20.heap.size + 1 := by have := zl; rw [hY] at this; simpa using this
      go_wp2_with (first | (at_builtin; refine wpl_app rfl (.tmp 104) (.tmp 105) 63 rfl _ _ 70 i0 (.agg #[.int .i64 0, .int .i64 0]) 2 16 Try.underlying63 hi0 hz0 hz1 hz2 rfl (by omega) Ap1 m cp1 _ rfl hap1.1 Ak k dk (ks.flatMap mcells) rfl (by rw [mcells_len, lk.out]) s3.out nk.out (mcells_one ks) (by omega) (by omega) zE1 ?_; intro Ap2 cp2 wp2 hap2) | (at_builtin; refine wpl_app rfl (.tmp 102) (.tmp 103) 63 rfl _ _ 70 i0 (.agg #[.int .i64 0, .int .i64 0]) 2 16 Try.underlying63 hi0 hz0 hz1 hz2 rfl (by omega) _ 0 0 [] rfl hownE Am m dm (ms.flatMap mcells) rfl (by rw [mcells_len, lm.out]) s1.out nm.out (mcells_one ms) (by omega) (by omega) zE ?_; intro Ap1 cp1 wp1 hap1; rw [Nat.zero_add, List.nil_append] at hap1; have hb1 := hap1.below (Below.refl _ _) zE (by intro ad e; cases e; exact Nat.le_refl _); have s3 := hide ((s2.below hb1 zlY).moves.src); have zE1 := Nat.le_trans zE hb1.size; have hbA1 := fun ad e => (owns_lt hap1.1 ad e).1))
      have hb2 := hap2.below hb1 zE1 hbA1
      have bY : Below ((w20.alloc (.cells #[.int .i64 o, .slice A20 (cntN o) c20] 38))).heap.size (w20.alloc (.cells #[.int .i64 o, .slice A20 (cntN o) c20] 38)) wp2 := aE.trans (hb2.mono (by simp))
      have ob2 : OwnM wp2 _ wp2.heap.size Ap2 (m + k) cp2 (ms ++ ks) := ⟨by rw [List.flatMap_append]; exact hap2.1, fun ad e => (owns_lt hap2.1 ad e).2, fun q hq => by have := good_app hgm hgk q hq; exact ⟨by constructor <;> omega, by constructor <;> omega⟩⟩
      rw [← hY] at bY
      clear hb1 hb2 hap1 hap2 s1 s2 s3 hownE aE zE zE1 zlY hbA1 lm lk nm nk
      replace v_x := v_x.below bY
      replace v_y := v_y.below bY
      replace v_ab := v_ab.below bY
      replace v_z := v_z.below bY
      replace v_br := v_br.below bY
      replace v_letter := v_letter.below bY
      replace v_sq := v_sq.below bY
      replace om' := om'.below bY zl
      replace ok := ok.below bY zl
      replace zl := Nat.le_trans zl bY.size
      replace BB := BB.trans (bY.mono BB.size)
      clear bY hY
      clear om' ok
      refine (impl_Sch_rep o h1o h5 Ap2 (m + k) cp2 (ms ++ ks) _ _ wp2 ob2.moves (Nat.le_refl _) (good_app hgm hgk) (by omega)).mono ?_
      rintro e w21 ⟨A21, c21, rfl, o21, b21⟩
      clear ob2
      have B21 := b21.trans ((below_alloc w21 (.cells #[.int .i64 o, .slice A21 (cntN o) c21] 38)).mono b21.size)
      have zz21 := b21.size
      have v_both := WV.new (lo := l1) (o := o) o21 zl (by omega) 38
      replace v_x := v_x.below B21
      replace v_y := v_y.below B21
      replace v_ab := v_ab.below B21
      replace v_z := v_z.below B21
      replace v_br := v_br.below B21
      replace v_letter := v_letter.below B21
      replace v_sq := v_sq.below B21
      replace zl := Nat.le_trans zl B21.size
      replace BB := BB.trans (B21.mono BB.size)
      clear o21 b21 B21 zz21
      have y_22 := v_x
      obtain ⟨A_x22, c_x22, hB_x22, hI_x22, hg_x22⟩ := y_22
      have p_x22 := hB_x22.c 0 rfl
      have q_x22 := hB_x22.c 1 rfl
      go_wp2_with fail
      generalize (w21.alloc (.cells #[.int .i64 o, .slice A21 (cntN o) c21] 38)) = u21 at BB zl v_x v_y v_ab v_z v_br v_letter v_sq v_both p_x22 q_x22 hB_x22 hI_x22 ⊢
      clear p_x22 q_x22 hB_x22
      refine (impl_Lie_rep o h1o h5 ((logS (sch (serM ms)))) (Ser.sch_lie _) A_x22 c_x22 _ _ u21 hI_x22 (Nat.le_refl _)).mono ?_
      rintro e w23 ⟨rfl, b23⟩
      clear hI_x22
      clear v_x
      replace v_y := v_y.below b23
      replace v_ab := v_ab.below b23
      replace v_z := v_z.below b23
      replace v_br := v_br.below b23
      replace v_letter := v_letter.below b23
      replace v_sq := v_sq.below b23
      replace v_both := v_both.below b23
      replace zl := Nat.le_trans zl b23.size
      replace BB := BB.trans (b23.mono BB.size)
      clear b23
      have y_24 := v_y
      obtain ⟨A_y24, c_y24, hB_y24, hI_y24, hg_y24⟩ := y_24
      have p_y24 := hB_y24.c 0 rfl
      have q_y24 := hB_y24.c 1 rfl
      go_wp2_with fail
      clear p_y24 q_y24 hB_y24
      refine (impl_Lie_rep o h1o h5 ((logS (sch (serM ks)))) (Ser.sch_lie _) A_y24 c_y24 _ _ w23 hI_y24 (Nat.le_refl _)).mono ?_
      rintro e w25 ⟨rfl, b25⟩
      clear hI_y24
      clear v_y
      replace v_ab := v_ab.below b25
      replace v_z := v_z.below b25
      replace v_br := v_br.below b25
      replace v_letter := v_letter.below b25
      replace v_sq := v_sq.below b25
      replace v_both := v_both.below b25
      replace zl := Nat.le_trans zl b25.size
      replace BB := BB.trans (b25.mono BB.size)
      clear b25
      have y_26 := v_z
      obtain ⟨A_z26, c_z26, hB_z26, hI_z26, hg_z26⟩ := y_26
      have p_z26 := hB_z26.c 0 rfl
      have q_z26 := hB_z26.c 1 rfl
      go_wp2_with fail
      clear p_z26 q_z26 hB_z26
      refine (impl_Lie_rep o h1o h5 ((logS (sch (serM ms) * sch (serM ks)))) (lie_prod _ _) A_z26 c_z26 _ _ w25 hI_z26 (Nat.le_refl _)).mono ?_
      rintro e w27 ⟨rfl, b27⟩
      clear hI_z26
      clear v_z
      replace v_ab := v_ab.below b27
      replace v_br := v_br.below b27
      replace v_letter := v_letter.below b27
      replace v_sq := v_sq.below b27
      replace v_both := v_both.below b27
      replace zl := Nat.le_trans zl b27.size
      replace BB := BB.trans (b27.mono BB.size)
      clear b27
      have y_28 := v_br
      obtain ⟨A_br28, c_br28, hB_br28, hI_br28, hg_br28⟩ := y_28
      have p_br28 := hB_br28.c 0 rfl
      have q_br28 := hB_br28.c 1 rfl
      go_wp2_with fail
      clear p_br28 q_br28 hB_br28
      refine (impl_Lie_rep o h1o h5 (fb) hfbL A_br28 c_br28 _ _ w27 hI_br28 (Nat.le_refl _)).mono ?_
      rintro e w29 ⟨rfl, b29⟩
      clear hI_br28
      clear v_br
      replace v_ab := v_ab.below b29
      replace v_letter := v_letter.below b29
      replace v_sq := v_sq.below b29
      replace v_both := v_both.below b29
      replace zl := Nat.le_trans zl b29.size
      replace BB := BB.trans (b29.mono BB.size)
      clear b29
      have y_30 := v_letter
      obtain ⟨A_letter30, c_letter30, hB_letter30, hI_letter30, hg_letter30⟩ := y_30
      have p_letter30 := hB_letter30.c 0 rfl
      have q_letter30 := hB_letter30.c 1 rfl
      go_wp2_with fail
      clear p_letter30 q_letter30 hB_letter30
      refine (impl_Lie_rep o h1o h5 ((Ser.ltr false)) lie_letter A_letter30 c_letter30 _ _ w29 hI_letter30 (Nat.le_refl _)).mono ?_
      rintro e w31 ⟨rfl, b31⟩
      clear hI_letter30
      clear v_letter
      replace v_ab := v_ab.below b31
      replace v_sq := v_sq.below b31
      replace v_both := v_both.below b31
      replace zl := Nat.le_trans zl b31.size
      replace BB := BB.trans (b31.mono BB.size)
      clear b31
      have y_32 := v_sq
      obtain ⟨A_sq32, c_sq32, hB_sq32, hI_sq32, hg_sq32⟩ := y_32
      have p_sq32 := hB_sq32.c 0 rfl
      have q_sq32 := hB_sq32.c 1 rfl
      go_wp2_with fail
      clear p_sq32 q_sq32 hB_sq32
      refine (impl_Lie_not o ho2 h5 A_sq32 c_sq32 _ _ w31 hI_sq32 (Nat.le_refl _)).mono ?_
      rintro e w33 ⟨rfl, b33⟩
      clear hI_sq32
      clear v_sq
      replace v_ab := v_ab.below b33
      replace v_both := v_both.below b33
      replace zl := Nat.le_trans zl b33.size
      replace BB := BB.trans (b33.mono BB.size)
      clear b33
      have y_34 := v_both
      obtain ⟨A_both34, c_both34, hB_both34, hI_both34, hg_both34⟩ := y_34
      have p_both34 := hB_both34.c 0 rfl
      have q_both34 := hB_both34.c 1 rfl
      have y_35 := v_ab
      obtain ⟨A_ab35, c_ab35, hB_ab35, hI_ab35, hg_ab35⟩ := y_35
      have p_ab35 := hB_ab35.c 0 rfl
      have q_ab35 := hB_ab35.c 1 rfl
      go_wp2_with fail
      clear p_both34 q_both34 p_ab35 q_ab35 hB_both34 hB_ab35
      refine (laws_equal_rep o ((sch (serM (ms ++ ks)))) ((sch (serM ms) * sch (serM ks))) A_both34 c_both34 _ _ A_ab35 c_ab35 _ _ w33 hI_both34 hI_ab35 (Nat.le_refl _) (Nat.le_refl _) (Ser.Eq.of (by rw [serM_app, Ser.sch_app]))).mono ?_
      rintro e w36 ⟨rfl, b36⟩
      have BF := hide (BB.trans (b36.mono BB.size))
      clear b36
      go_wp2_with fail
      go_ret
      exact ⟨rfl, BF.out⟩
theorem own : ownKnob Try.prog.godebug = none := by kernel_rfl
theorem laidOut : laidOutB Try.prog = true := by kernel_rfl
set_option maxRecDepth 100000 in
theorem lifted (os : Os) (started : os.Started) (H : Type) (enc : TypeId × Value → H) :
    ReturnsInHanded {} Try.checked os 8 .any (Rows.fnLieWordsSpec.pre6 enc Try.prog Try.f8 Rows.fnLieWordsRow.domain false) (Rows.fnLieWordsSpec.post enc Try.prog Try.f8 false true false false) := by
  refine returnsInHanded_of_change (C := Try.checked) own started (by kernel_rfl) Try.func8
    (ChangeSpec.witness6 (enc := enc) (C := Try.checked) false ⟨#[], #[.slice none 0 0], []⟩ 8 (by kernel_rfl) (by kernel_rfl) (by kernel_rfl) (by kernel_rfl)) ?_
  intro W base args ds gs before hval0 hW hcnd _
  have hval : ∀ (j : Nat) t v, Try.f8.params[j]? = some t → args[j]? = some v → Value.okWide Try.prog W .any base t v := hval0
  have hW' := hW
  obtain ⟨p, q, hA0, hV, rfl, hfz, hnd⟩ := hW
  have hA : DataW.TrodAll enc Try.prog W 0 (fun _ => true) true Try.f8.params.toList args.toList ds p := hA0
  rw [Try.params8] at hA hval
  obtain ⟨v0, vs0, d0, ds0, p0, q0, hargs, rfl, rfl, h0, t0⟩ := trodAll_cons hA
  obtain ⟨rfl, rfl, rfl⟩ := trodAll_nil t0
  obtain rfl : args = #[v0] := by cases args; simp_all
  obtain ⟨rfl, rfl⟩ := trodVars_none hV
  have k0 := h0
  have lt0 : ∀ x ∈ p0, x.block < W.heap.size := by obtain ⟨m, hm⟩ := k0; exact DataW.trod_lt m _ _ _ hm
  obtain ⟨a0, n0, c0, rfl⟩ := okWide_slice Try.underlying47 (hval 0 47 v0 rfl rfl)
  have r0 := open_pbytes h0
  clear hA0 hval0
  refine (walk a0 n0 c0 W r0).mono fun e W' ⟨he, bel⟩ => ?_
  subst he
  exact ⟨_, rfl, _, _, _, [], _, [], hW', trodAll_mk1 (shut_bool Try.underlying4 _), (trodAll_cons_mk (Below.trod laidOut (by kernel_rfl) (of_decide_eq_true (by kernel_rfl)) k0 bel lt0) trodAll_mk0), rfl, bel.frame _, fun h => by cases h⟩
theorem over : Rows.fnLieWordsRow.holds Try.pinned (OpenSpec.ofChange Rows.fnLieWordsSpec) :=
  OpenClaim.holds_of_wide 8 Try.f8 rfl rfl rfl rfl rfl rfl rfl ⟨rfl, rfl, rfl, rfl, rfl⟩ rfl rfl rfl rfl rfl (by kernel_rfl) Try.func8 (by kernel_rfl)
    (of_decide_eq_true (by kernel_rfl)) (by unfold Func.isWrapper; first | (rw [if_pos (by decide +kernel)]; kernel_rfl) | (rw [if_neg (by decide +kernel)]; exact ⟨rfl, rfl⟩))
    (fun os started H enc _ => lifted os started H enc)
theorem proved : Rows.FnLieWordsSaid := over
#print axioms proved

end Go.Proofs.Ytodlfmagkjblgaa.fnLieWords
