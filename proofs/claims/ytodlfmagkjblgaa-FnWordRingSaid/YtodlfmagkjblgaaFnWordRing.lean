/- Proved here: for every input the statement FnWordRing returns true, and its argument reads as before. No conditions. -/
import Derived.Test.YtodlfmagkjblgaaRing
import Derived.Test.YtodlfmagkjblgaaLast
import Derived.Test.YtodlfmagkjblgaaFrames
namespace Go.Proofs.Ytodlfmagkjblgaa.fnWordRing
open Go.ChangeShapes Go.WideShapes Go.ChangeAt Go.RowKit
set_option linter.unusedSimpArgs false
set_option linter.unusedVariables false
set_option maxRecDepth 20000
open Ser (rep ser expS logS sch SpE)

def cutS (f : Ser) : Ser := fun w => if w = [] then 0 else f w
theorem cutS_nil (f : Ser) : cutS f [] = 0 := rfl
theorem exp_back {o : Int} (h5 : o ≤ 5) {f : Ser} (hf : f [] = 0) : Ser.Eq o.toNat (logS (expS f)) f := (Ser.log_exp hf).le (by omega)
theorem exp_undo {o : Int} (h5 : o ≤ 5) {f : Ser} (hf : f [] = 0) : Ser.Eq o.toNat (expS f * expS (Ser.sm (Ser.toF (-1)) f)) Ser.one := by
  rw [Ser.toF_neg1]
  exact (Ser.exp_inv hf).le (by omega)
theorem sm_nil {f : Ser} (hf : f [] = 0) (k : Fp) : Ser.sm k f [] = 0 := by rw [Ser.sm_at, hf]; grind

set_option maxRecDepth 100000 in
set_option maxHeartbeats 8000000 in
theorem walk (A : Option Addr) (n c : Nat) (w : World) (h : Bytes w 0 w.heap.size A n c) :
    Calls Try.prog 6 #[.slice A n c] w fun e w' => e = .returned (.bool true) ∧ Below w.heap.size w w' := by
  have hcp := h.cap
  have hmx := h.max
  by_cases hbig : 1048576 < n
  · go_enter Try.func6, Try.ntmps6
    go_wp2_with fail
    refine (laws_big A n c w (by omega)).mono ?_
    rintro e w1 ⟨rfl, rfl⟩
    rw [decide_eq_true hbig]
    go_wp2_with fail
    go_ret
    exact ⟨rfl, Below.refl _ _⟩
  · go_enter Try.func6, Try.ntmps6
    go_wp2_with fail
    refine (laws_big A n c w (by omega)).mono ?_
    rintro e w1 ⟨rfl, rfl⟩
    rw [decide_eq_false hbig]
    go_wp2_with fail
    refine (laws_at0 w.heap.size A n c 0 w h (by omega) (by omega)).mono ?_
    rintro e w1 ⟨x, rfl, hx0, hx1, rfl⟩
    have hm := Int.tmod_eq_emod_of_nonneg (b := 4) hx0
    have ho1 : 1 ≤ 1 + x % 4 := by omega
    have ho4 : 1 + x % 4 ≤ 4 := by omega
    go_wp2_with fail
    generalize 1 + x % 4 = o at ho1 ho4 ⊢
    have h0 : 0 ≤ o := by omega
    have h5 : o ≤ 5 := by omega
    clear hm hx0 hx1 hbig
    refine (spec_DrawThreeWords w.heap.size A n c o w h (Nat.le_refl _) h0 h5).mono ?_
    rintro e wd ⟨Aa, cca, xs, Ab, ccb, ys, Ac, ccc, zs, l1, l2, rfl, o1, o2, o3, hl0, hl1, hl2, n1, n2, n3, BB⟩
    have hcb := cntN_bd h5
    obtain ⟨ga1, hA1, hga0, hga1, hga2⟩ := o1.form (by omega)
    subst hA1
    have e1 := Ser.rep_ser (OwnI.len o1) n1
    have e2 := Ser.rep_ser (OwnI.len o2) n2
    have e3 := Ser.rep_ser (OwnI.len o3) n3
    generalize ser xs = f1 at e1
    generalize ser ys = f2 at e2
    generalize ser zs = f3 at e3
    subst e1 e2 e3
    clear n1 n2 n3 hga0
    have aa := below_alloc wd (.cells #[.int .i64 o, .slice (some ⟨ga1, 0, none⟩) (cntN o) cca] 38)
    have ka := BlkN.new wd #[.int .i64 o, .slice (some ⟨ga1, 0, none⟩) (cntN o) cca] 38
    have oa := o1.below aa (by omega)
    have o2' := o2.below aa (by omega)
    have o3' := o3.below aa (Nat.le_refl _)
    have hz1 : l1 ≤ (wd.alloc (.cells #[.int .i64 o, .slice (some ⟨ga1, 0, none⟩) (cntN o) cca] 38)).heap.size := by simp; omega
    have hga3 : ga1 < wd.heap.size := hga2
    have hzz : wd.heap.size < (wd.alloc (.cells #[.int .i64 o, .slice (some ⟨ga1, 0, none⟩) (cntN o) cca] 38)).heap.size := by simp
    have hsA : (wd.alloc (.cells #[.int .i64 o, .slice (some ⟨ga1, 0, none⟩) (cntN o) cca] 38)).heap.size = wd.heap.size + 1 := by simp
    obtain ⟨va, hva⟩ : ∃ v, v = wd.alloc (.cells #[.int .i64 o, .slice (some ⟨ga1, 0, none⟩) (cntN o) cca] 38) := ⟨_, rfl⟩
    rw [← hva] at aa ka oa o2' o3' hz1 hzz hsA
    have ab := below_alloc va (.cells #[.int .i64 o, .slice Ab (cntN o) ccb] 38)
    have v_b := WV.new (lo := l1) (o := o) (o2'.wide (lo' := l1) (hi' := va.heap.size) (Nat.le_refl _) (by omega)) (Nat.le_refl _) hz1 38
    have o3'' := (o3'.wide (lo' := l2) (hi' := va.heap.size) (Nat.le_refl _) (by omega)).below ab (Nat.le_refl _)
    have hsB : (va.alloc (.cells #[.int .i64 o, .slice Ab (cntN o) ccb] 38)).heap.size = wd.heap.size + 1 + 1 := by simp; omega
    obtain ⟨vb, hvb⟩ : ∃ v, v = va.alloc (.cells #[.int .i64 o, .slice Ab (cntN o) ccb] 38) := ⟨_, rfl⟩
    rw [← hvb] at ab v_b o3'' hsB
    rw [hsA] at v_b
    have ac := below_alloc vb (.cells #[.int .i64 o, .slice Ac (cntN o) ccc] 38)
    have v_c := WV.new (lo := l1) (o := o) (o3''.wide (lo' := l2) (hi' := vb.heap.size) (Nat.le_refl _) (by have := ab.size; omega)) hl1 (by have := ab.size; omega) 38
    rw [hsB] at v_c
    have babc := (aa.trans (ab.mono aa.size)).trans (ac.mono (aa.trans (ab.mono aa.size)).size)
    replace ka := ka.below (ab.trans (ac.mono ab.size))
    replace oa := oa.below (ab.trans (ac.mono ab.size)) (by omega)
    replace v_b := v_b.below ac
    replace BB := BB.trans (babc.mono BB.size)
    rw [hvb, hva] at ka oa v_b v_c BB babc
    have hge : l1 ≤ wd.heap.size := by omega
    clear hva hvb aa ab ac o1 o2 o3 o2' o3' o3'' hz1 hzz hsA hsB
    have zl : l1 ≤ (((wd.alloc (.cells #[.int .i64 o, .slice (some ⟨ga1, 0, none⟩) (cntN o) cca] 38)).alloc (.cells #[.int .i64 o, .slice Ab (cntN o) ccb] 38)).alloc (.cells #[.int .i64 o, .slice Ac (cntN o) ccc] 38)).heap.size := by have := babc.size; omega
    clear babc
    have pa0 := ka.c 0 rfl
    have pa1 := ka.c 1 rfl
    have y_1 := v_b
    obtain ⟨A_b1, c_b1, hB_b1, hI_b1, hg_b1⟩ := y_1
    have p_b1 := hB_b1.c 0 rfl
    have q_b1 := hB_b1.c 1 rfl
    go_wp2_with fail
    generalize (((wd.alloc (.cells #[.int .i64 o, .slice (some ⟨ga1, 0, none⟩) (cntN o) cca] 38)).alloc (.cells #[.int .i64 o, .slice Ab (cntN o) ccb] 38)).alloc (.cells #[.int .i64 o, .slice Ac (cntN o) ccc] 38)) = u0 at ka oa v_b v_c BB zl pa0 pa1 p_b1 q_b1 hB_b1 hI_b1 ⊢
    clear pa0 pa1 p_b1 q_b1
    clear hB_b1
    refine (impl_Mul_rep o h0 h5 (f1) (f2) (some ⟨ga1, 0, none⟩) cca _ _ A_b1 c_b1 _ _ u0 oa.ints hI_b1 (zl) (Nat.le_refl _)).mono ?_
    rintro e w2 ⟨A2, c2, rfl, o2, b2⟩
    clear hI_b1
    have B2 := b2.trans ((below_alloc w2 (.cells #[.int .i64 o, .slice A2 (cntN o) c2] 38)).mono b2.size)
    have zz2 := b2.size
    have v_ab := WV.new (lo := l1) (o := o) o2 zl (by omega) 38
    replace v_b := v_b.below B2
    replace v_c := v_c.below B2
    replace ka := ka.below B2
    replace oa := oa.below B2 zl
    replace zl := Nat.le_trans zl B2.size
    replace BB := BB.trans (B2.mono BB.size)
    clear o2 b2 B2 zz2
    have y_3 := v_b
    obtain ⟨A_b3, c_b3, hB_b3, hI_b3, hg_b3⟩ := y_3
    have p_b3 := hB_b3.c 0 rfl
    have q_b3 := hB_b3.c 1 rfl
    have y_4 := v_c
    obtain ⟨A_c4, c_c4, hB_c4, hI_c4, hg_c4⟩ := y_4
    have p_c4 := hB_c4.c 0 rfl
    have q_c4 := hB_c4.c 1 rfl
    go_wp2_with fail
    generalize (w2.alloc (.cells #[.int .i64 o, .slice A2 (cntN o) c2] 38)) = u2 at ka oa BB zl v_b v_c v_ab p_b3 q_b3 p_c4 q_c4 hB_b3 hI_b3 hB_c4 hI_c4 ⊢
    clear p_b3 q_b3 p_c4 q_c4
    clear hB_b3
    clear hB_c4
    refine (impl_Mul_rep o h0 h5 (f2) (f3) A_b3 c_b3 _ _ A_c4 c_c4 _ _ u2 hI_b3 hI_c4 (Nat.le_refl _) (Nat.le_refl _)).mono ?_
    rintro e w5 ⟨A5, c5, rfl, o5, b5⟩
    clear hI_b3
    clear hI_c4
    have B5 := b5.trans ((below_alloc w5 (.cells #[.int .i64 o, .slice A5 (cntN o) c5] 38)).mono b5.size)
    have zz5 := b5.size
    have v_bc := WV.new (lo := l1) (o := o) o5 zl (by omega) 38
    replace v_b := v_b.below B5
    replace v_c := v_c.below B5
    replace v_ab := v_ab.below B5
    replace ka := ka.below B5
    replace oa := oa.below B5 zl
    replace zl := Nat.le_trans zl B5.size
    replace BB := BB.trans (B5.mono BB.size)
    clear o5 b5 B5 zz5
    have y_6 := v_ab
    obtain ⟨A_ab6, c_ab6, hB_ab6, hI_ab6, hg_ab6⟩ := y_6
    have p_ab6 := hB_ab6.c 0 rfl
    have q_ab6 := hB_ab6.c 1 rfl
    have y_7 := v_c
    obtain ⟨A_c7, c_c7, hB_c7, hI_c7, hg_c7⟩ := y_7
    have p_c7 := hB_c7.c 0 rfl
    have q_c7 := hB_c7.c 1 rfl
    go_wp2_with fail
    generalize (w5.alloc (.cells #[.int .i64 o, .slice A5 (cntN o) c5] 38)) = u5 at ka oa BB zl v_b v_c v_ab v_bc p_ab6 q_ab6 p_c7 q_c7 hB_ab6 hI_ab6 hB_c7 hI_c7 ⊢
    clear p_ab6 q_ab6 p_c7 q_c7
    clear hB_ab6
    clear hB_c7
    refine (impl_Mul_rep o h0 h5 ((f1 * f2)) (f3) A_ab6 c_ab6 _ _ A_c7 c_c7 _ _ u5 hI_ab6 hI_c7 (Nat.le_refl _) (Nat.le_refl _)).mono ?_
    rintro e w8 ⟨A8, c8, rfl, o8, b8⟩
    clear hI_ab6
    clear hI_c7
    have B8 := b8.trans ((below_alloc w8 (.cells #[.int .i64 o, .slice A8 (cntN o) c8] 38)).mono b8.size)
    have zz8 := b8.size
    have v_x := WV.new (lo := l1) (o := o) o8 zl (by omega) 38
    replace v_b := v_b.below B8
    replace v_c := v_c.below B8
    replace v_ab := v_ab.below B8
    replace v_bc := v_bc.below B8
    replace ka := ka.below B8
    replace oa := oa.below B8 zl
    replace zl := Nat.le_trans zl B8.size
    replace BB := BB.trans (B8.mono BB.size)
    clear o8 b8 B8 zz8
    have pa0 := ka.c 0 rfl
    have pa1 := ka.c 1 rfl
    have y_9 := v_bc
    obtain ⟨A_bc9, c_bc9, hB_bc9, hI_bc9, hg_bc9⟩ := y_9
    have p_bc9 := hB_bc9.c 0 rfl
    have q_bc9 := hB_bc9.c 1 rfl
    go_wp2_with fail
    generalize (w8.alloc (.cells #[.int .i64 o, .slice A8 (cntN o) c8] 38)) = u8 at ka oa BB zl v_b v_c v_ab v_bc v_x pa0 pa1 p_bc9 q_bc9 hB_bc9 hI_bc9 ⊢
    clear v_ab
    clear pa0 pa1 p_bc9 q_bc9
    clear hB_bc9
    refine (impl_Mul_rep o h0 h5 (f1) ((f2 * f3)) (some ⟨ga1, 0, none⟩) cca _ _ A_bc9 c_bc9 _ _ u8 oa.ints hI_bc9 (zl) (Nat.le_refl _)).mono ?_
    rintro e w10 ⟨A10, c10, rfl, o10, b10⟩
    clear hI_bc9
    have B10 := b10.trans ((below_alloc w10 (.cells #[.int .i64 o, .slice A10 (cntN o) c10] 38)).mono b10.size)
    have zz10 := b10.size
    have v_y := WV.new (lo := l1) (o := o) o10 zl (by omega) 38
    replace v_b := v_b.below B10
    replace v_c := v_c.below B10
    replace v_bc := v_bc.below B10
    replace v_x := v_x.below B10
    replace ka := ka.below B10
    replace oa := oa.below B10 zl
    replace zl := Nat.le_trans zl B10.size
    replace BB := BB.trans (B10.mono BB.size)
    clear o10 b10 B10 zz10
    have pa0 := ka.c 0 rfl
    have pa1 := ka.c 1 rfl
    have y_11 := v_b
    obtain ⟨A_b11, c_b11, hB_b11, hI_b11, hg_b11⟩ := y_11
    have p_b11 := hB_b11.c 0 rfl
    have q_b11 := hB_b11.c 1 rfl
    go_wp2_with fail
    generalize (w10.alloc (.cells #[.int .i64 o, .slice A10 (cntN o) c10] 38)) = u10 at ka oa BB zl v_b v_c v_bc v_x v_y pa0 pa1 p_b11 q_b11 hB_b11 hI_b11 ⊢
    clear pa0 pa1 p_b11 q_b11
    clear hB_b11
    refine (impl_Add_rep o h0 h5 (f1) (f2) (some ⟨ga1, 0, none⟩) cca _ _ A_b11 c_b11 _ _ u10 oa.ints hI_b11 (zl) (Nat.le_refl _)).mono ?_
    rintro e w12 ⟨A12, c12, rfl, o12, b12⟩
    clear hI_b11
    have B12 := b12.trans ((below_alloc w12 (.cells #[.int .i64 o, .slice A12 (cntN o) c12] 38)).mono b12.size)
    have zz12 := b12.size
    have v_s := WV.new (lo := l1) (o := o) o12 zl (by omega) 38
    replace v_b := v_b.below B12
    replace v_c := v_c.below B12
    replace v_bc := v_bc.below B12
    replace v_x := v_x.below B12
    replace v_y := v_y.below B12
    replace ka := ka.below B12
    replace oa := oa.below B12 zl
    replace zl := Nat.le_trans zl B12.size
    replace BB := BB.trans (B12.mono BB.size)
    clear o12 b12 B12 zz12
    have y_13 := v_s
    obtain ⟨A_s13, c_s13, hB_s13, hI_s13, hg_s13⟩ := y_13
    have p_s13 := hB_s13.c 0 rfl
    have q_s13 := hB_s13.c 1 rfl
    have y_14 := v_c
    obtain ⟨A_c14, c_c14, hB_c14, hI_c14, hg_c14⟩ := y_14
    have p_c14 := hB_c14.c 0 rfl
    have q_c14 := hB_c14.c 1 rfl
    go_wp2_with fail
    generalize (w12.alloc (.cells #[.int .i64 o, .slice A12 (cntN o) c12] 38)) = u12 at ka oa BB zl v_b v_c v_bc v_x v_y v_s p_s13 q_s13 p_c14 q_c14 hB_s13 hI_s13 hB_c14 hI_c14 ⊢
    clear v_b
    clear p_s13 q_s13 p_c14 q_c14
    clear hB_s13
    clear hB_c14
    refine (impl_Mul_rep o h0 h5 ((f1 + f2)) (f3) A_s13 c_s13 _ _ A_c14 c_c14 _ _ u12 hI_s13 hI_c14 (Nat.le_refl _) (Nat.le_refl _)).mono ?_
    rintro e w15 ⟨A15, c15, rfl, o15, b15⟩
    clear hI_s13
    clear hI_c14
    have B15 := b15.trans ((below_alloc w15 (.cells #[.int .i64 o, .slice A15 (cntN o) c15] 38)).mono b15.size)
    have zz15 := b15.size
    have v_sc := WV.new (lo := l1) (o := o) o15 zl (by omega) 38
    replace v_c := v_c.below B15
    replace v_bc := v_bc.below B15
    replace v_x := v_x.below B15
    replace v_y := v_y.below B15
    replace v_s := v_s.below B15
    replace ka := ka.below B15
    replace oa := oa.below B15 zl
    replace zl := Nat.le_trans zl B15.size
    replace BB := BB.trans (B15.mono BB.size)
    clear o15 b15 B15 zz15
    have pa0 := ka.c 0 rfl
    have pa1 := ka.c 1 rfl
    have y_16 := v_c
    obtain ⟨A_c16, c_c16, hB_c16, hI_c16, hg_c16⟩ := y_16
    have p_c16 := hB_c16.c 0 rfl
    have q_c16 := hB_c16.c 1 rfl
    go_wp2_with fail
    generalize (w15.alloc (.cells #[.int .i64 o, .slice A15 (cntN o) c15] 38)) = u15 at ka oa BB zl v_c v_bc v_x v_y v_s v_sc pa0 pa1 p_c16 q_c16 hB_c16 hI_c16 ⊢
    clear v_s
    clear pa0 pa1 p_c16 q_c16
    clear hB_c16
    refine (impl_Mul_rep o h0 h5 (f1) (f3) (some ⟨ga1, 0, none⟩) cca _ _ A_c16 c_c16 _ _ u15 oa.ints hI_c16 (zl) (Nat.le_refl _)).mono ?_
    rintro e w17 ⟨A17, c17, rfl, o17, b17⟩
    clear hI_c16
    have B17 := b17.trans ((below_alloc w17 (.cells #[.int .i64 o, .slice A17 (cntN o) c17] 38)).mono b17.size)
    have zz17 := b17.size
    have v_ac := WV.new (lo := l1) (o := o) o17 zl (by omega) 38
    replace v_c := v_c.below B17
    replace v_bc := v_bc.below B17
    replace v_x := v_x.below B17
    replace v_y := v_y.below B17
    replace v_sc := v_sc.below B17
    replace ka := ka.below B17
    replace oa := oa.below B17 zl
    replace zl := Nat.le_trans zl B17.size
    replace BB := BB.trans (B17.mono BB.size)
    clear o17 b17 B17 zz17
    have y_18 := v_ac
    obtain ⟨A_ac18, c_ac18, hB_ac18, hI_ac18, hg_ac18⟩ := y_18
    have p_ac18 := hB_ac18.c 0 rfl
    have q_ac18 := hB_ac18.c 1 rfl
    have y_19 := v_bc
    obtain ⟨A_bc19, c_bc19, hB_bc19, hI_bc19, hg_bc19⟩ := y_19
    have p_bc19 := hB_bc19.c 0 rfl
    have q_bc19 := hB_bc19.c 1 rfl
    go_wp2_with fail
    generalize (w17.alloc (.cells #[.int .i64 o, .slice A17 (cntN o) c17] 38)) = u17 at ka oa BB zl v_c v_bc v_x v_y v_sc v_ac p_ac18 q_ac18 p_bc19 q_bc19 hB_ac18 hI_ac18 hB_bc19 hI_bc19 ⊢
    clear v_c
    clear p_ac18 q_ac18 p_bc19 q_bc19
    clear hB_ac18
    clear hB_bc19
    refine (impl_Add_rep o h0 h5 ((f1 * f3)) ((f2 * f3)) A_ac18 c_ac18 _ _ A_bc19 c_bc19 _ _ u17 hI_ac18 hI_bc19 (Nat.le_refl _) (Nat.le_refl _)).mono ?_
    rintro e w20 ⟨A20, c20, rfl, o20, b20⟩
    clear hI_ac18 hI_bc19 v_ac v_bc
    have B20 := b20.trans ((below_alloc w20 (.cells #[.int .i64 o, .slice A20 (cntN o) c20] 38)).mono b20.size)
    have zz20 := b20.size
    have v_t := WV.new (lo := l1) (o := o) o20 zl (by omega) 38
    replace v_x := v_x.below B20
    replace v_y := v_y.below B20
    replace v_sc := v_sc.below B20
    replace ka := ka.below B20
    replace oa := oa.below B20 zl
    replace zl := Nat.le_trans zl B20.size
    replace BB := BB.trans (B20.mono BB.size)
    clear o20 b20 B20 zz20
    have hT : Touch ga1 (ga1 + 1) (w20.alloc (.cells #[.int .i64 o, .slice A20 (cntN o) c20] 38)) ((w20.alloc (.cells #[.int .i64 o, .slice A20 (cntN o) c20] 38)).setCell ⟨ga1, 0, none⟩ (.int .i64 0)) := (Touch.refl _ _ _).setCell (p := ⟨ga1, 0, none⟩) (.inl ⟨Nat.le_refl _, Nat.lt_succ_self _⟩) _
    have hBT : Below w.heap.size (w20.alloc (.cells #[.int .i64 o, .slice A20 (cntN o) c20] 38)) ((w20.alloc (.cells #[.int .i64 o, .slice A20 (cntN o) c20] 38)).setCell ⟨ga1, 0, none⟩ (.int .i64 0)) := hT.below (by have := (owns_lt oa.own _ rfl).1; exact this) BB.size
    have fa0 := oa.own.frozenAt 0
    obtain ⟨za, hza⟩ : ∃ v, (rep (cntN o) f1)[0]? = some v := ⟨_, Ser.rep_at f1 (by omega)⟩
    have ca0 : (w20.alloc (.cells #[.int .i64 o, .slice A20 (cntN o) c20] 38)).cell? ⟨ga1, 0, none⟩ = some (.int .i64 za) := by rw [oa.own.cellAt 0 (by omega), List.getElem?_map, hza]; rfl
    clear hza
    have pa0 := ka.c 0 rfl
    have pa1 := ka.c 1 rfl
    have oa2 := oa.put 0 (x := 0) (by constructor <;> omega)
    rw [set_rep] at oa2
    have ka2 := ka.touch hT (.inr (by omega))
    have pb0 := ka2.c 0 rfl
    have pb1 := ka2.c 1 rfl
    replace v_x := v_x.touch hT (by omega)
    replace v_y := v_y.touch hT (by omega)
    replace v_sc := v_sc.touch hT (by omega)
    replace v_t := v_t.touch hT (by omega)
    replace zl := Nat.le_trans zl hT.size
    replace BB := BB.trans hBT
    clear oa ka hT hBT
    go_wp2_with fail
    generalize ((w20.alloc (.cells #[.int .i64 o, .slice A20 (cntN o) c20] 38)).setCell ⟨ga1, 0, none⟩ (.int .i64 0)) = u20 at ka2 oa2 BB zl v_x v_y v_sc v_t pb0 pb1 ⊢
    clear fa0 ca0 pa0 pa1 pb0 pb1
    have oa := oa2
    have ka := ka2
    clear oa2 ka2
    have hf0 := cutS_nil f1
    change OwnI _ _ _ _ _ _ (rep (cntN o) (cutS f1)) at oa
    generalize cutS f1 = f4 at oa hf0
    refine (impl_Exp_rep o h0 h5 (f4) hf0 (some ⟨ga1, 0, none⟩) cca _ _ u20 oa.ints (zl)).mono ?_
    rintro e w21 ⟨A21, c21, rfl, o21, b21⟩
    have B21 := b21.trans ((below_alloc w21 (.cells #[.int .i64 o, .slice A21 (cntN o) c21] 38)).mono b21.size)
    have zz21 := b21.size
    have v_e := WV.new (lo := l1) (o := o) o21 zl (by omega) 38
    replace v_x := v_x.below B21
    replace v_y := v_y.below B21
    replace v_sc := v_sc.below B21
    replace v_t := v_t.below B21
    replace ka := ka.below B21
    replace oa := oa.below B21 zl
    replace zl := Nat.le_trans zl B21.size
    replace BB := BB.trans (B21.mono BB.size)
    clear o21 b21 B21 zz21
    have y_22 := v_e
    obtain ⟨A_e22, c_e22, hB_e22, hI_e22, hg_e22⟩ := y_22
    have p_e22 := hB_e22.c 0 rfl
    have q_e22 := hB_e22.c 1 rfl
    go_wp2_with fail
    generalize (w21.alloc (.cells #[.int .i64 o, .slice A21 (cntN o) c21] 38)) = u21 at ka oa BB zl v_x v_y v_sc v_t v_e p_e22 q_e22 hB_e22 hI_e22 ⊢
    clear p_e22 q_e22
    clear hB_e22
    refine (impl_Log_rep o h0 h5 ((expS f4)) (Ser.expS_nil hf0) A_e22 c_e22 _ _ u21 hI_e22 (Nat.le_refl _)).mono ?_
    rintro e w23 ⟨A23, c23, rfl, o23, b23⟩
    clear hI_e22
    have B23 := b23.trans ((below_alloc w23 (.cells #[.int .i64 o, .slice A23 (cntN o) c23] 38)).mono b23.size)
    have zz23 := b23.size
    have v_l := WV.new (lo := l1) (o := o) o23 zl (by omega) 38
    replace v_x := v_x.below B23
    replace v_y := v_y.below B23
    replace v_sc := v_sc.below B23
    replace v_t := v_t.below B23
    replace v_e := v_e.below B23
    replace ka := ka.below B23
    replace oa := oa.below B23 zl
    replace zl := Nat.le_trans zl B23.size
    replace BB := BB.trans (B23.mono BB.size)
    clear o23 b23 B23 zz23
    go_upto_region 16 with fail
    generalize (w23.alloc (.cells #[.int .i64 o, .slice A23 (cntN o) c23] 38)) = V at ka oa BB zl v_x v_y v_sc v_t v_e v_l ⊢
    go_cut [27, 28] (fun s27 s28 wx => ∃ (b : Nat), s27 = .pointer (some ⟨b, 0, none⟩) ∧ s28 = .bool true ∧ Below V.heap.size V wx ∧ WV wx l1 b o f4)
    case first =>
      have hS0 : Below V.heap.size V V.drew := (Below.refl _ _).drew
      refine wp_region_Z (fun w' => Below V.heap.size V w') 8 (by kernel_rfl) ?_
      refine wpAnyZ_takeW 0 (.int .i64 o) rfl (by kernel_rfl) (by kernel_rfl) (fun _ _ _ h => h) (by rfl) (fun _ => by go_simp) hS0 ?_
      try simp only [Act.put, List.setIfInBounds_toArray, List.set_cons_zero, List.set_cons_succ]
      refine wpAnyZ_take 2 (.agg #[.int .i64 o, .slice (some ⟨ga1, 0, none⟩) (cntN o) cca]) rfl (by kernel_rfl) (by kernel_rfl) (fun _ _ _ h => h) (by rfl) (fun _ hS => by have q0 := (ka.below hS).c 0 rfl; have q1 := (ka.below hS).c 1 rfl; clear hS; go_simp) hS0 ?_
      try simp only [Act.put, List.setIfInBounds_toArray, List.set_cons_zero, List.set_cons_succ]
      refine wpAnyZ_two 1 7 (by kernel_rfl) rfl rfl (by rfl) (by rfl) (fun K hK => ?_) (fun K hK => ?_)
      ·
        go_simp
        refine (impl_Unit_rep o h0 h5 V.drew).mono ?_
        rintro e x1 ⟨Au, cu, rfl, ou, bx1⟩
        have hS1 := hS0.trans (bx1.mono hS0.size)
        have hz1 := hS1.size
        go_wp2_with fail
        refine hK.out _ _ hS1 ?_
        clear hK K
        try simp only [Act.put, List.setIfInBounds_toArray, List.set_cons_zero, List.set_cons_succ]
        refine wpAnyZ_two 3 7 (by kernel_rfl) rfl rfl (by rfl) (by rfl) (fun K hK => ?_) (fun K hK => ?_)
        ·
          go_simp
          refine (impl_Mul_rep o h0 h5 Ser.one f4 Au cu _ _ (some ⟨ga1, 0, none⟩) cca _ _ x1 ou.ints (oa.ints.below hS1 zl) (Nat.le_refl _) (Nat.le_trans zl hS1.size)).mono ?_
          rintro e x2 ⟨Am, cm, rfl, om, bx2⟩
          rw [Ser.one_mul] at om
          have hS2 := hS1.trans (bx2.mono hS1.size)
          have hz2 := hS2.size
          have om0 := om.wide (lo' := V.heap.size) (hi' := x2.heap.size) hS1.size (Nat.le_refl _)
          go_wp2_with fail
          refine hK.out _ _ hS2 ?_
          clear hK K
          try simp only [Act.put, List.setIfInBounds_toArray, List.set_cons_zero, List.set_cons_succ]
          refine wpAnyZ_takeW 4 (.tuple #[.agg #[.int .i64 o, .slice Am (cntN o) cm], .bool true]) rfl (by kernel_rfl) (by kernel_rfl) (fun _ _ _ h => h) (by rfl) (fun _ => by go_simp) hS2 ?_
          try simp only [Act.put, List.setIfInBounds_toArray, List.set_cons_zero, List.set_cons_succ]
          refine wpAnyZ_takeW 5 (.agg #[.int .i64 o, .slice Am (cntN o) cm]) rfl (by kernel_rfl) (by kernel_rfl) (fun _ _ _ h => h) (by rfl) (fun _ => by go_simp) hS2 ?_
          try simp only [Act.put, List.setIfInBounds_toArray, List.set_cons_zero, List.set_cons_succ]
          refine wpAnyZ_takeW 6 (.bool true) rfl (by kernel_rfl) (by kernel_rfl) (fun _ _ _ h => h) (by rfl) (fun _ => by go_simp) hS2 ?_
          try simp only [Act.put, List.setIfInBounds_toArray, List.set_cons_zero, List.set_cons_succ]
          refine wpAnyZ_one 7 (by kernel_rfl) rfl (by rfl) (fun K hK => ?_)
          go_simp
          have ax3 := below_alloc x2 (.cells #[.int .i64 0, .slice none 0 0] 38)
          have kz3 := BlkN.new x2 #[.int .i64 0, .slice none 0 0] 38
          have hS3 := hS2.trans (ax3.mono hS2.size)
          have hgb : V.heap.size ≤ x2.heap.size := hS2.size
          have om3 := om0.below ax3 (Nat.le_refl _)
          obtain ⟨gb, hgb2⟩ : ∃ gb, gb = x2.heap.size := ⟨_, rfl⟩
          rw [← hgb2] at kz3 hgb
          try rw [← hgb2]
          have hne : ∀ ad, Am = some ad → ad.block ≠ gb := fun ad e => by have h1 := (owns_lt om0.own ad e).2; omega
          clear hgb2
          generalize (x2.alloc (.cells #[.int .i64 0, .slice none 0 0] 38)) = x3 at kz3 hS3 ax3 om3 ⊢
          have omz3 := om3.wide (lo' := V.heap.size) (hi' := x3.heap.size) (Nat.le_refl _) ax3.size
          refine hK.out _ _ hS3 ?_
          clear hK K
          try simp only [Act.put, List.setIfInBounds_toArray, List.set_cons_zero, List.set_cons_succ]
          have f0 := kz3.f 0
          have f1_ := kz3.f 1
          have c0 := kz3.c 0 rfl
          have c1_ := kz3.c 1 rfl
          have hlt := kz3.lt
          have kf := (kz3.set 0 (.int .i64 o)).set 1 (.slice Am (cntN o) cm)
          simp only [List.setIfInBounds_toArray, List.set_cons_zero, List.set_cons_succ] at kf
          have hBf := store2_below hS3 hgb (.int .i64 o) (.slice Am (cntN o) cm)
          have omf := owns_setCell (owns_setCell omz3.own (p := ⟨gb, 0, none⟩) hne (.int .i64 o)) (p := ⟨gb, 1, none⟩) hne (.slice Am (cntN o) cm)
          have hFin : WV ((x3.setCell ⟨gb, 0, none⟩ (.int .i64 o)).setCell ⟨gb, 1, none⟩ (.slice Am (cntN o) cm)) l1 gb o f4 := ⟨Am, cm, kf, (OwnI.mk omf (fun ad e => by have := (owns_lt omz3.own ad e).2; simpa [World.setCell] using this) omz3.rng).ints.wide (by omega) (Nat.le_refl _), by omega⟩
          have HF := hide (And.intro hBf hFin)
          clear kf hBf omf hFin
          refine wpAnyZ_last2 9 (by kernel_rfl) rfl (by kernel_rfl) rfl (by kernel_rfl) (by decide) (by rfl) (fun _ => rfl) (fun K hK => ?_)
          go_simp
          refine hK _ _ ?_
          clear hK K
          go_simp
          go_wp2_with fail
          go_meet
          exact ⟨gb, rfl, rfl, HF.out.1, HF.out.2⟩
        ·
          go_simp
          have ax2 := below_alloc x1 (.cells #[.int .i64 0, .slice none 0 0] 38)
          have kz2 := BlkN.new x1 #[.int .i64 0, .slice none 0 0] 38
          have hS2 := hS1.trans (ax2.mono hS1.size)
          have hgb : V.heap.size ≤ x1.heap.size := hS1.size
          have ou2 := ou.below ax2 (Nat.le_refl _)
          obtain ⟨gb, hgb2⟩ : ∃ gb, gb = x1.heap.size := ⟨_, rfl⟩
          rw [← hgb2] at kz2 hgb
          try rw [← hgb2]
          clear hgb2
          generalize (x1.alloc (.cells #[.int .i64 0, .slice none 0 0] 38)) = x2 at kz2 hS2 ax2 ou2 ⊢
          have ouz2 := ou2.wide (lo' := 0) (hi' := x2.heap.size) (Nat.zero_le _) ax2.size
          refine hK.out _ _ hS2 ?_
          clear hK K
          try simp only [Act.put, List.setIfInBounds_toArray, List.set_cons_zero, List.set_cons_succ]
          refine wpAnyZ_one 3 (by kernel_rfl) rfl (by rfl) (fun K hK => ?_)
          go_simp
          refine (impl_Mul_rep o h0 h5 Ser.one f4 Au cu _ _ (some ⟨ga1, 0, none⟩) cca _ _ x2 ouz2.ints (oa.ints.below hS2 zl) (Nat.le_refl _) (Nat.le_trans zl hS2.size)).mono ?_
          rintro e x3 ⟨Am, cm, rfl, om, bx3⟩
          rw [Ser.one_mul] at om
          have hS3 := hS2.trans (bx3.mono hS2.size)
          have hz3 := hS3.size
          have om0 := om.wide (lo' := V.heap.size) (hi' := x3.heap.size) hS2.size (Nat.le_refl _)
          have kz3 := kz2.below bx3
          have hne : ∀ ad, Am = some ad → ad.block ≠ gb := fun ad e => by have h1 := (owns_lt om.own ad e).1; have h2 := kz2.lt; omega
          go_wp2_with fail
          refine hK.out _ _ hS3 ?_
          clear hK K
          try simp only [Act.put, List.setIfInBounds_toArray, List.set_cons_zero, List.set_cons_succ]
          refine wpAnyZ_takeW 4 (.tuple #[.agg #[.int .i64 o, .slice Am (cntN o) cm], .bool true]) rfl (by kernel_rfl) (by kernel_rfl) (fun _ _ _ h => h) (by rfl) (fun _ => by go_simp) hS3 ?_
          try simp only [Act.put, List.setIfInBounds_toArray, List.set_cons_zero, List.set_cons_succ]
          refine wpAnyZ_takeW 5 (.agg #[.int .i64 o, .slice Am (cntN o) cm]) rfl (by kernel_rfl) (by kernel_rfl) (fun _ _ _ h => h) (by rfl) (fun _ => by go_simp) hS3 ?_
          try simp only [Act.put, List.setIfInBounds_toArray, List.set_cons_zero, List.set_cons_succ]
          refine wpAnyZ_takeW 6 (.bool true) rfl (by kernel_rfl) (by kernel_rfl) (fun _ _ _ h => h) (by rfl) (fun _ => by go_simp) hS3 ?_
          try simp only [Act.put, List.setIfInBounds_toArray, List.set_cons_zero, List.set_cons_succ]
          have f0 := kz3.f 0
          have f1_ := kz3.f 1
          have c0 := kz3.c 0 rfl
          have c1_ := kz3.c 1 rfl
          have hlt := kz3.lt
          have kf := (kz3.set 0 (.int .i64 o)).set 1 (.slice Am (cntN o) cm)
          simp only [List.setIfInBounds_toArray, List.set_cons_zero, List.set_cons_succ] at kf
          have hBf := store2_below hS3 hgb (.int .i64 o) (.slice Am (cntN o) cm)
          have omf := owns_setCell (owns_setCell om0.own (p := ⟨gb, 0, none⟩) hne (.int .i64 o)) (p := ⟨gb, 1, none⟩) hne (.slice Am (cntN o) cm)
          have hFin : WV ((x3.setCell ⟨gb, 0, none⟩ (.int .i64 o)).setCell ⟨gb, 1, none⟩ (.slice Am (cntN o) cm)) l1 gb o f4 := ⟨Am, cm, kf, (OwnI.mk omf (fun ad e => by have := (owns_lt om0.own ad e).2; simpa [World.setCell] using this) om0.rng).ints.wide (by omega) (Nat.le_refl _), by omega⟩
          have HF := hide (And.intro hBf hFin)
          clear kf hBf omf hFin
          refine wpAnyZ_last2 9 (by kernel_rfl) rfl (by kernel_rfl) rfl (by kernel_rfl) (by decide) (by rfl) (fun _ => rfl) (fun K hK => ?_)
          go_simp
          refine hK _ _ ?_
          clear hK K
          go_simp
          go_wp2_with fail
          go_meet
          exact ⟨gb, rfl, rfl, HF.out.1, HF.out.2⟩
      ·
        go_simp
        have hS1 := (below_alloc V (.cells #[.int .i64 0, .slice none 0 0] 38)).drew
        have kz1 := (BlkN.new V #[.int .i64 0, .slice none 0 0] 38).drew
        have hgb : V.heap.size ≤ V.heap.size := Nat.le_refl _
        obtain ⟨gb, hgb2⟩ : ∃ gb, gb = V.heap.size := ⟨_, rfl⟩
        have kz1x : BlkN ((V.alloc (.cells #[.int .i64 0, .slice none 0 0] 38)).drew) gb #[.int .i64 0, .slice none 0 0] := by rw [hgb2]; exact kz1
        have hgbx : V.heap.size ≤ gb := by omega
        clear kz1 hgb
        have hgb := hgbx
        have kz1 := kz1x
        clear hgbx kz1x
        try rw [← hgb2]
        clear hgb2
        generalize ((V.alloc (.cells #[.int .i64 0, .slice none 0 0] 38)).drew) = x1 at kz1 hS1 ⊢
        refine hK.out _ _ hS1 ?_
        clear hK K
        try simp only [Act.put, List.setIfInBounds_toArray, List.set_cons_zero, List.set_cons_succ]
        refine wpAnyZ_one 1 (by kernel_rfl) rfl (by rfl) (fun K hK => ?_)
        go_simp
        refine (impl_Unit_rep o h0 h5 x1).mono ?_
        rintro e x2 ⟨Au, cu, rfl, ou, bx2⟩
        have hS2 := hS1.trans (bx2.mono hS1.size)
        have hz2 := hS2.size
        have kz2 := kz1.below bx2
        go_wp2_with fail
        refine hK.out _ _ hS2 ?_
        clear hK K
        try simp only [Act.put, List.setIfInBounds_toArray, List.set_cons_zero, List.set_cons_succ]
        refine wpAnyZ_one 3 (by kernel_rfl) rfl (by rfl) (fun K hK => ?_)
        go_simp
        refine (impl_Mul_rep o h0 h5 Ser.one f4 Au cu _ _ (some ⟨ga1, 0, none⟩) cca _ _ x2 ou.ints (oa.ints.below hS2 zl) (Nat.le_refl _) (Nat.le_trans zl hS2.size)).mono ?_
        rintro e x3 ⟨Am, cm, rfl, om, bx3⟩
        rw [Ser.one_mul] at om
        have hS3 := hS2.trans (bx3.mono hS2.size)
        have hz3 := hS3.size
        have om0 := om.wide (lo' := V.heap.size) (hi' := x3.heap.size) hS2.size (Nat.le_refl _)
        have kz3 := kz2.below bx3
        have hne : ∀ ad, Am = some ad → ad.block ≠ gb := fun ad e => by have h1 := (owns_lt om.own ad e).1; have h2 := kz2.lt; omega
        go_wp2_with fail
        refine hK.out _ _ hS3 ?_
        clear hK K
        try simp only [Act.put, List.setIfInBounds_toArray, List.set_cons_zero, List.set_cons_succ]
        refine wpAnyZ_takeW 4 (.tuple #[.agg #[.int .i64 o, .slice Am (cntN o) cm], .bool true]) rfl (by kernel_rfl) (by kernel_rfl) (fun _ _ _ h => h) (by rfl) (fun _ => by go_simp) hS3 ?_
        try simp only [Act.put, List.setIfInBounds_toArray, List.set_cons_zero, List.set_cons_succ]
        refine wpAnyZ_takeW 5 (.agg #[.int .i64 o, .slice Am (cntN o) cm]) rfl (by kernel_rfl) (by kernel_rfl) (fun _ _ _ h => h) (by rfl) (fun _ => by go_simp) hS3 ?_
        try simp only [Act.put, List.setIfInBounds_toArray, List.set_cons_zero, List.set_cons_succ]
        refine wpAnyZ_takeW 6 (.bool true) rfl (by kernel_rfl) (by kernel_rfl) (fun _ _ _ h => h) (by rfl) (fun _ => by go_simp) hS3 ?_
        try simp only [Act.put, List.setIfInBounds_toArray, List.set_cons_zero, List.set_cons_succ]
        have f0 := kz3.f 0
        have f1_ := kz3.f 1
        have c0 := kz3.c 0 rfl
        have c1_ := kz3.c 1 rfl
        have hlt := kz3.lt
        have kf := (kz3.set 0 (.int .i64 o)).set 1 (.slice Am (cntN o) cm)
        simp only [List.setIfInBounds_toArray, List.set_cons_zero, List.set_cons_succ] at kf
        have hBf := store2_below hS3 hgb (.int .i64 o) (.slice Am (cntN o) cm)
        have omf := owns_setCell (owns_setCell om0.own (p := ⟨gb, 0, none⟩) hne (.int .i64 o)) (p := ⟨gb, 1, none⟩) hne (.slice Am (cntN o) cm)
        have hFin : WV ((x3.setCell ⟨gb, 0, none⟩ (.int .i64 o)).setCell ⟨gb, 1, none⟩ (.slice Am (cntN o) cm)) l1 gb o f4 := ⟨Am, cm, kf, (OwnI.mk omf (fun ad e => by have := (owns_lt om0.own ad e).2; simpa [World.setCell] using this) om0.rng).ints.wide (by omega) (Nat.le_refl _), by omega⟩
        have HF := hide (And.intro hBf hFin)
        clear kf hBf omf hFin
        refine wpAnyZ_last2 9 (by kernel_rfl) rfl (by kernel_rfl) rfl (by kernel_rfl) (by decide) (by rfl) (fun _ => rfl) (fun K hK => ?_)
        go_simp
        refine hK _ _ ?_
        clear hK K
        go_simp
        go_wp2_with fail
        go_meet
        exact ⟨gb, rfl, rfl, HF.out.1, HF.out.2⟩
    case rest =>
      obtain ⟨gu, rfl, rfl, bV, v_u⟩ := hcut
      obtain ⟨V2, rfl⟩ : ∃ W : World, W = wc := ⟨_, rfl⟩
      replace v_x := v_x.below bV
      replace v_y := v_y.below bV
      replace v_sc := v_sc.below bV
      replace v_t := v_t.below bV
      replace v_e := v_e.below bV
      replace v_l := v_l.below bV
      replace ka := ka.below bV
      replace oa := oa.below bV zl
      replace zl := Nat.le_trans zl bV.size
      replace BB := BB.trans (bV.mono BB.size)
      clear bV
      have pa0 := ka.c 0 rfl
      have pa1 := ka.c 1 rfl
      go_wp2_with fail
      clear pa0 pa1
      refine (impl_Scale_rep o h0 h5 f4 (-1) (some ⟨ga1, 0, none⟩) cca _ _ V2 oa.ints zl (by constructor <;> omega)).mono ?_
      rintro e w24 ⟨A24, c24, rfl, o24, b24⟩
      replace v_x := v_x.below b24
      replace v_y := v_y.below b24
      replace v_sc := v_sc.below b24
      replace v_t := v_t.below b24
      replace v_e := v_e.below b24
      replace v_l := v_l.below b24
      replace v_u := v_u.below b24
      replace ka := ka.below b24
      replace oa := oa.below b24 zl
      replace zl := Nat.le_trans zl b24.size
      replace BB := BB.trans (b24.mono BB.size)
      clear b24
      go_wp2_with fail
      refine (impl_Exp_rep o h0 h5 (Ser.sm (Ser.toF (-1)) f4) (sm_nil hf0 _) A24 c24 _ _ w24 o24.ints (Nat.le_refl _)).mono ?_
      rintro e w25 ⟨A25, c25, rfl, o25, b25⟩
      clear o24
      have B25 := b25.trans ((below_alloc w25 (.cells #[.int .i64 o, .slice A25 (cntN o) c25] 38)).mono b25.size)
      have zz25 := b25.size
      have v_minus := WV.new (lo := l1) (o := o) o25 zl (by omega) 38
      replace v_x := v_x.below B25
      replace v_y := v_y.below B25
      replace v_sc := v_sc.below B25
      replace v_t := v_t.below B25
      replace v_e := v_e.below B25
      replace v_l := v_l.below B25
      replace v_u := v_u.below B25
      replace ka := ka.below B25
      replace oa := oa.below B25 zl
      replace zl := Nat.le_trans zl B25.size
      replace BB := BB.trans (B25.mono BB.size)
      clear o25 b25 B25 zz25
      have y_26 := v_e
      obtain ⟨A_e26, c_e26, hB_e26, hI_e26, hg_e26⟩ := y_26
      have p_e26 := hB_e26.c 0 rfl
      have q_e26 := hB_e26.c 1 rfl
      have y_27 := v_minus
      obtain ⟨A_minus27, c_minus27, hB_minus27, hI_minus27, hg_minus27⟩ := y_27
      have p_minus27 := hB_minus27.c 0 rfl
      have q_minus27 := hB_minus27.c 1 rfl
      go_wp2_with fail
      generalize (w25.alloc (.cells #[.int .i64 o, .slice A25 (cntN o) c25] 38)) = u25 at ka oa BB zl v_x v_y v_sc v_t v_e v_l v_u v_minus p_e26 q_e26 p_minus27 q_minus27 hB_e26 hI_e26 hB_minus27 hI_minus27 ⊢
      clear p_e26 q_e26 p_minus27 q_minus27
      clear hB_e26
      clear hB_minus27
      refine (impl_Mul_rep o h0 h5 ((expS f4)) ((expS (Ser.sm (Ser.toF (-1)) f4))) A_e26 c_e26 _ _ A_minus27 c_minus27 _ _ u25 hI_e26 hI_minus27 (Nat.le_refl _) (Nat.le_refl _)).mono ?_
      rintro e w28 ⟨A28, c28, rfl, o28, b28⟩
      clear hI_e26 hI_minus27
      have B28 := b28.trans ((below_alloc w28 (.cells #[.int .i64 o, .slice A28 (cntN o) c28] 38)).mono b28.size)
      have zz28 := b28.size
      have v_m := WV.new (lo := l1) (o := o) o28 zl (by omega) 38
      replace v_x := v_x.below B28
      replace v_y := v_y.below B28
      replace v_sc := v_sc.below B28
      replace v_t := v_t.below B28
      replace v_e := v_e.below B28
      replace v_l := v_l.below B28
      replace v_u := v_u.below B28
      replace v_minus := v_minus.below B28
      replace ka := ka.below B28
      replace oa := oa.below B28 zl
      replace zl := Nat.le_trans zl B28.size
      replace BB := BB.trans (B28.mono BB.size)
      clear o28 b28 B28 zz28
      clear v_e v_minus
      go_wp2_with fail
      generalize (w28.alloc (.cells #[.int .i64 o, .slice A28 (cntN o) c28] 38)) = X at ka oa BB zl v_x v_y v_sc v_t v_l v_u v_m ⊢
      obtain ⟨A_x, c_x, hB_x, hI_x, hg_x⟩ := v_x
      obtain ⟨A_y, c_y, hB_y, hI_y, hg_y⟩ := v_y
      obtain ⟨A_sc, c_sc, hB_sc, hI_sc, hg_sc⟩ := v_sc
      obtain ⟨A_t, c_t, hB_t, hI_t, hg_t⟩ := v_t
      obtain ⟨A_l, c_l, hB_l, hI_l, hg_l⟩ := v_l
      obtain ⟨A_u, c_u, hB_u, hI_u, hg_u⟩ := v_u
      obtain ⟨A_m, c_m, hB_m, hI_m, hg_m⟩ := v_m
      have hS0 : Below X.heap.size X X.drew := (Below.refl _ _).drew
      refine wp_region_Z (fun w' => Below X.heap.size X w') 36 (by kernel_rfl) ?_
      refine wpAnyZ_takeW 0 (.bool true) rfl (by kernel_rfl) (by kernel_rfl) (fun _ _ _ h => h) (by rfl) (fun _ => by go_simp) hS0 ?_
      try simp only [Act.put, List.setIfInBounds_toArray, List.set_cons_zero, List.set_cons_succ]
      refine wpAnyZ_takeW 1 (.bool true) rfl (by kernel_rfl) (by kernel_rfl) (fun _ _ _ h => h) (by rfl) (fun _ => by go_simp) hS0 ?_
      try simp only [Act.put, List.setIfInBounds_toArray, List.set_cons_zero, List.set_cons_succ]
      refine wpAnyZ_takeW 2 (.bool true) rfl (by kernel_rfl) (by kernel_rfl) (fun _ _ _ h => h) (by kernel_rfl) (fun _ => by go_simp) hS0 ?_
      try simp only [Act.put, List.setIfInBounds_toArray, List.set_cons_zero, List.set_cons_succ]
      refine wpAnyZ_takeW 3 (.bool true) rfl (by kernel_rfl) (by kernel_rfl) (fun _ _ _ h => h) (by rfl) (fun _ => by go_simp) hS0 ?_
      try simp only [Act.put, List.setIfInBounds_toArray, List.set_cons_zero, List.set_cons_succ]
      refine wpAnyZ_takeW 4 (.bool true) rfl (by kernel_rfl) (by kernel_rfl) (fun _ _ _ h => h) (by rfl) (fun _ => by go_simp) hS0 ?_
      try simp only [Act.put, List.setIfInBounds_toArray, List.set_cons_zero, List.set_cons_succ]
      refine wpAnyZ_takeW 5 (.bool true) rfl (by kernel_rfl) (by kernel_rfl) (fun _ _ _ h => h) (by kernel_rfl) (fun _ => by go_simp) hS0 ?_
      try simp only [Act.put, List.setIfInBounds_toArray, List.set_cons_zero, List.set_cons_succ]
      refine wpAnyZ_takeW 6 (.bool true) rfl (by kernel_rfl) (by kernel_rfl) (fun _ _ _ h => h) (by rfl) (fun _ => by go_simp) hS0 ?_
      try simp only [Act.put, List.setIfInBounds_toArray, List.set_cons_zero, List.set_cons_succ]
      refine wpAnyZ_takeW 7 (.bool true) rfl (by kernel_rfl) (by kernel_rfl) (fun _ _ _ h => h) (by rfl) (fun _ => by go_simp) hS0 ?_
      try simp only [Act.put, List.setIfInBounds_toArray, List.set_cons_zero, List.set_cons_succ]
      refine wpAnyZ_takeW 8 (.bool true) rfl (by kernel_rfl) (by kernel_rfl) (fun _ _ _ h => h) (by kernel_rfl) (fun _ => by go_simp) hS0 ?_
      try simp only [Act.put, List.setIfInBounds_toArray, List.set_cons_zero, List.set_cons_succ]
      refine wpAnyZ_takeW 9 (.bool true) rfl (by kernel_rfl) (by kernel_rfl) (fun _ _ _ h => h) (by rfl) (fun _ => by go_simp) hS0 ?_
      try simp only [Act.put, List.setIfInBounds_toArray, List.set_cons_zero, List.set_cons_succ]
      refine wpAnyZ_takeW 10 (.bool true) rfl (by kernel_rfl) (by kernel_rfl) (fun _ _ _ h => h) (by rfl) (fun _ => by go_simp) hS0 ?_
      try simp only [Act.put, List.setIfInBounds_toArray, List.set_cons_zero, List.set_cons_succ]
      refine wpAnyZ_take 11 (.agg #[.int .i64 o, .slice A_x (cntN o) c_x]) rfl (by kernel_rfl) (by kernel_rfl) (fun _ _ _ h => h) (by kernel_rfl) (fun _ hS => by have q0 := (hB_x.below hS).c 0 rfl; have q1 := (hB_x.below hS).c 1 rfl; clear hS; go_simp) hS0 ?_
      try simp only [Act.put, List.setIfInBounds_toArray, List.set_cons_zero, List.set_cons_succ]
      refine wpAnyZ_take 12 (.agg #[.int .i64 o, .slice A_y (cntN o) c_y]) rfl (by kernel_rfl) (by kernel_rfl) (fun _ _ _ h => h) (by kernel_rfl) (fun _ hS => by have q0 := (hB_y.below hS).c 0 rfl; have q1 := (hB_y.below hS).c 1 rfl; clear hS; go_simp) hS0 ?_
      try simp only [Act.put, List.setIfInBounds_toArray, List.set_cons_zero, List.set_cons_succ]
      refine wpAnyZ_one 13 (by kernel_rfl) rfl (by kernel_rfl) (fun K hK => ?_)
      go_simp
      refine (laws_equal_rep o ((f1 * f2) * f3) (f1 * (f2 * f3)) A_x c_x _ _ A_y c_y _ _ X.drew (hI_x.below hS0 (Nat.le_refl _)) (hI_y.below hS0 (Nat.le_refl _)) hS0.size hS0.size (Ser.Eq.of (Ser.mul_assoc _ _ _))).mono ?_
      rintro e x1 ⟨rfl, bx1⟩
      have hS1 := hS0.trans (bx1.mono hS0.size)
      go_wp2_with fail
      refine hK.out _ _ hS1 ?_
      clear hK K
      try simp only [Act.put, List.setIfInBounds_toArray, List.set_cons_zero, List.set_cons_succ]
      refine wpAnyZ_takeW 14 (.bool true) rfl (by kernel_rfl) (by kernel_rfl) (fun _ _ _ h => h) (by rfl) (fun _ => by go_simp) hS1 ?_
      try simp only [Act.put, List.setIfInBounds_toArray, List.set_cons_zero, List.set_cons_succ]
      refine wpAnyZ_takeW 15 (.bool true) rfl (by kernel_rfl) (by kernel_rfl) (fun _ _ _ h => h) (by rfl) (fun _ => by go_simp) hS1 ?_
      try simp only [Act.put, List.setIfInBounds_toArray, List.set_cons_zero, List.set_cons_succ]
      refine wpAnyZ_take 16 (.agg #[.int .i64 o, .slice A_sc (cntN o) c_sc]) rfl (by kernel_rfl) (by kernel_rfl) (fun _ _ _ h => h) (by kernel_rfl) (fun _ hS => by have q0 := (hB_sc.below hS).c 0 rfl; have q1 := (hB_sc.below hS).c 1 rfl; clear hS; go_simp) hS1 ?_
      try simp only [Act.put, List.setIfInBounds_toArray, List.set_cons_zero, List.set_cons_succ]
      refine wpAnyZ_take 17 (.agg #[.int .i64 o, .slice A_t (cntN o) c_t]) rfl (by kernel_rfl) (by kernel_rfl) (fun _ _ _ h => h) (by kernel_rfl) (fun _ hS => by have q0 := (hB_t.below hS).c 0 rfl; have q1 := (hB_t.below hS).c 1 rfl; clear hS; go_simp) hS1 ?_
      try simp only [Act.put, List.setIfInBounds_toArray, List.set_cons_zero, List.set_cons_succ]
      refine wpAnyZ_one 18 (by kernel_rfl) rfl (by kernel_rfl) (fun K hK => ?_)
      go_simp
      refine (laws_equal_rep o ((f1 + f2) * f3) ((f1 * f3) + (f2 * f3)) A_sc c_sc _ _ A_t c_t _ _ x1 (hI_sc.below hS1 (Nat.le_refl _)) (hI_t.below hS1 (Nat.le_refl _)) hS1.size hS1.size (Ser.Eq.of (Ser.add_mul _ _ _))).mono ?_
      rintro e x2 ⟨rfl, bx2⟩
      have hS2 := hS1.trans (bx2.mono hS1.size)
      go_wp2_with fail
      refine hK.out _ _ hS2 ?_
      clear hK K
      try simp only [Act.put, List.setIfInBounds_toArray, List.set_cons_zero, List.set_cons_succ]
      refine wpAnyZ_takeW 19 (.bool true) rfl (by kernel_rfl) (by kernel_rfl) (fun _ _ _ h => h) (by rfl) (fun _ => by go_simp) hS2 ?_
      try simp only [Act.put, List.setIfInBounds_toArray, List.set_cons_zero, List.set_cons_succ]
      refine wpAnyZ_takeW 20 (.bool true) rfl (by kernel_rfl) (by kernel_rfl) (fun _ _ _ h => h) (by rfl) (fun _ => by go_simp) hS2 ?_
      try simp only [Act.put, List.setIfInBounds_toArray, List.set_cons_zero, List.set_cons_succ]
      refine wpAnyZ_take 21 (.agg #[.int .i64 o, .slice A_l (cntN o) c_l]) rfl (by kernel_rfl) (by kernel_rfl) (fun _ _ _ h => h) (by kernel_rfl) (fun _ hS => by have q0 := (hB_l.below hS).c 0 rfl; have q1 := (hB_l.below hS).c 1 rfl; clear hS; go_simp) hS2 ?_
      try simp only [Act.put, List.setIfInBounds_toArray, List.set_cons_zero, List.set_cons_succ]
      refine wpAnyZ_take 22 (.agg #[.int .i64 o, .slice (some ⟨ga1, 0, none⟩) (cntN o) cca]) rfl (by kernel_rfl) (by kernel_rfl) (fun _ _ _ h => h) (by kernel_rfl) (fun _ hS => by have q0 := (ka.below hS).c 0 rfl; have q1 := (ka.below hS).c 1 rfl; clear hS; go_simp) hS2 ?_
      try simp only [Act.put, List.setIfInBounds_toArray, List.set_cons_zero, List.set_cons_succ]
      refine wpAnyZ_one 23 (by kernel_rfl) rfl (by kernel_rfl) (fun K hK => ?_)
      go_simp
      refine (laws_equal_rep o (logS (expS f4)) f4 A_l c_l _ _ (some ⟨ga1, 0, none⟩) cca _ _ x2 (hI_l.below hS2 (Nat.le_refl _)) (oa.ints.below hS2 zl) hS2.size (Nat.le_trans zl hS2.size) (exp_back h5 hf0)).mono ?_
      rintro e x3 ⟨rfl, bx3⟩
      have hS3 := hS2.trans (bx3.mono hS2.size)
      go_wp2_with fail
      refine hK.out _ _ hS3 ?_
      clear hK K
      try simp only [Act.put, List.setIfInBounds_toArray, List.set_cons_zero, List.set_cons_succ]
      refine wpAnyZ_takeW 24 (.bool true) rfl (by kernel_rfl) (by kernel_rfl) (fun _ _ _ h => h) (by rfl) (fun _ => by go_simp) hS3 ?_
      try simp only [Act.put, List.setIfInBounds_toArray, List.set_cons_zero, List.set_cons_succ]
      refine wpAnyZ_takeW 25 (.bool true) rfl (by kernel_rfl) (by kernel_rfl) (fun _ _ _ h => h) (by rfl) (fun _ => by go_simp) hS3 ?_
      try simp only [Act.put, List.setIfInBounds_toArray, List.set_cons_zero, List.set_cons_succ]
      refine wpAnyZ_take 26 (.agg #[.int .i64 o, .slice A_u (cntN o) c_u]) rfl (by kernel_rfl) (by kernel_rfl) (fun _ _ _ h => h) (by kernel_rfl) (fun _ hS => by have q0 := (hB_u.below hS).c 0 rfl; have q1 := (hB_u.below hS).c 1 rfl; clear hS; go_simp) hS3 ?_
      try simp only [Act.put, List.setIfInBounds_toArray, List.set_cons_zero, List.set_cons_succ]
      refine wpAnyZ_take 27 (.agg #[.int .i64 o, .slice (some ⟨ga1, 0, none⟩) (cntN o) cca]) rfl (by kernel_rfl) (by kernel_rfl) (fun _ _ _ h => h) (by kernel_rfl) (fun _ hS => by have q0 := (ka.below hS).c 0 rfl; have q1 := (ka.below hS).c 1 rfl; clear hS; go_simp) hS3 ?_
      try simp only [Act.put, List.setIfInBounds_toArray, List.set_cons_zero, List.set_cons_succ]
      refine wpAnyZ_one 28 (by kernel_rfl) rfl (by kernel_rfl) (fun K hK => ?_)
      go_simp
      refine (laws_equal_rep o f4 f4 A_u c_u _ _ (some ⟨ga1, 0, none⟩) cca _ _ x3 (hI_u.below hS3 (Nat.le_refl _)) (oa.ints.below hS3 zl) hS3.size (Nat.le_trans zl hS3.size) (Ser.Eq.refl _ _)).mono ?_
      rintro e x4 ⟨rfl, bx4⟩
      have hS4 := hS3.trans (bx4.mono hS3.size)
      go_wp2_with fail
      refine hK.out _ _ hS4 ?_
      clear hK K
      try simp only [Act.put, List.setIfInBounds_toArray, List.set_cons_zero, List.set_cons_succ]
      refine wpAnyZ_takeW 29 (.bool true) rfl (by kernel_rfl) (by kernel_rfl) (fun _ _ _ h => h) (by rfl) (fun _ => by go_simp) hS4 ?_
      try simp only [Act.put, List.setIfInBounds_toArray, List.set_cons_zero, List.set_cons_succ]
      refine wpAnyZ_takeW 30 (.bool true) rfl (by kernel_rfl) (by kernel_rfl) (fun _ _ _ h => h) (by rfl) (fun _ => by go_simp) hS4 ?_
      try simp only [Act.put, List.setIfInBounds_toArray, List.set_cons_zero, List.set_cons_succ]
      refine wpAnyZ_take 31 (.agg #[.int .i64 o, .slice A_m (cntN o) c_m]) rfl (by kernel_rfl) (by kernel_rfl) (fun _ _ _ h => h) (by kernel_rfl) (fun _ hS => by have q0 := (hB_m.below hS).c 0 rfl; have q1 := (hB_m.below hS).c 1 rfl; clear hS; go_simp) hS4 ?_
      try simp only [Act.put, List.setIfInBounds_toArray, List.set_cons_zero, List.set_cons_succ]
      refine wpAnyZ_takeW 32 (.int .i64 o) rfl (by kernel_rfl) (by kernel_rfl) (fun _ _ _ h => h) (by kernel_rfl) (fun _ => by go_simp) hS4 ?_
      try simp only [Act.put, List.setIfInBounds_toArray, List.set_cons_zero, List.set_cons_succ]
      refine wpAnyZ_one 33 (by kernel_rfl) rfl (by kernel_rfl) (fun K hK => ?_)
      go_simp
      refine (impl_Unit_rep o h0 h5 x4).mono ?_
      rintro e x5 ⟨Au, cu, rfl, ou, bx5⟩
      have hS5 := hS4.trans (bx5.mono hS4.size)
      go_wp2_with fail
      refine hK.out _ _ hS5 ?_
      clear hK K
      try simp only [Act.put, List.setIfInBounds_toArray, List.set_cons_zero, List.set_cons_succ]
      refine wpAnyZ_one 34 (by kernel_rfl) rfl (by kernel_rfl) (fun K hK => ?_)
      go_simp
      refine (laws_equal_rep o (expS f4 * expS (Ser.sm (Ser.toF (-1)) f4)) Ser.one A_m c_m _ _ Au cu _ _ x5 (hI_m.below hS5 (Nat.le_refl _)) ou.ints hS5.size (Nat.le_refl _) (exp_undo h5 hf0)).mono ?_
      rintro e x6 ⟨rfl, bx6⟩
      have hS6 := hS5.trans (bx6.mono hS5.size)
      go_wp2_with fail
      refine hK.out _ _ hS6 ?_
      clear hK K
      try simp only [Act.put, List.setIfInBounds_toArray, List.set_cons_zero, List.set_cons_succ]
      refine wpAnyZ_takeW 35 (.bool true) rfl (by kernel_rfl) (by kernel_rfl) (fun _ _ _ h => h) (by rfl) (fun _ => by go_simp) hS6 ?_
      try simp only [Act.put, List.setIfInBounds_toArray, List.set_cons_zero, List.set_cons_succ]
      have HF := hide (BB.trans (hS6.mono BB.size))
      refine wpAnyZ_last (by kernel_rfl) rfl (by kernel_rfl) (by rfl) (fun K hK => ?_)
      go_simp
      refine hK _ _ ?_
      clear hK K
      go_wp2_with fail
      go_ret
      exact ⟨rfl, HF.out⟩
theorem own : ownKnob Try.prog.godebug = none := by kernel_rfl
theorem laidOut : laidOutB Try.prog = true := by kernel_rfl
set_option maxRecDepth 100000 in
theorem lifted (os : Os) (started : os.Started) (H : Type) (enc : TypeId × Value → H) :
    ReturnsInHanded {} Try.checked os 6 .any (Rows.fnWordRingSpec.pre6 enc Try.prog Try.f6 Rows.fnWordRingRow.domain false) (Rows.fnWordRingSpec.post enc Try.prog Try.f6 false true false false) := by
  refine returnsInHanded_of_change (C := Try.checked) own started (by kernel_rfl) Try.func6
    (ChangeSpec.witness6 (enc := enc) (C := Try.checked) false ⟨#[], #[.slice none 0 0], []⟩ 8 (by kernel_rfl) (by kernel_rfl) (by kernel_rfl) (by kernel_rfl)) ?_
  intro W base args ds gs before hval0 hW hcnd _
  have hval : ∀ (j : Nat) t v, Try.f6.params[j]? = some t → args[j]? = some v → Value.okWide Try.prog W .any base t v := hval0
  have hW' := hW
  obtain ⟨p, q, hA0, hV, rfl, hfz, hnd⟩ := hW
  have hA : DataW.TrodAll enc Try.prog W 0 (fun _ => true) true Try.f6.params.toList args.toList ds p := hA0
  rw [Try.params6] at hA hval
  obtain ⟨v0, vs0, d0, ds0, p0, q0, hargs, rfl, rfl, h0, t0⟩ := trodAll_cons hA
  obtain ⟨rfl, rfl, rfl⟩ := trodAll_nil t0
  obtain rfl : args = #[v0] := by cases args; simp_all
  obtain ⟨rfl, rfl⟩ := trodVars_none hV
  have k0 := h0
  have lt0 : ∀ x ∈ p0, x.block < W.heap.size := by obtain ⟨m, hm⟩ := k0; exact DataW.trod_lt m _ _ _ hm
  obtain ⟨a0, n0, c0, rfl⟩ := okWide_slice Try.underlying47 (hval 0 47 v0 rfl rfl)
  have r0 := open_pbytes h0
  clear hA0 hval0
  refine (walk a0 n0 c0 W r0).mono fun e W' ⟨he, bel⟩ => ?_
  subst he
  exact ⟨_, rfl, _, _, _, [], _, [], hW', trodAll_mk1 (shut_bool Try.underlying4 _), (trodAll_cons_mk (Below.trod laidOut (by kernel_rfl) (of_decide_eq_true (by kernel_rfl)) k0 bel lt0) trodAll_mk0), rfl, bel.frame _, fun h => by cases h⟩
theorem over : Rows.fnWordRingRow.holds Try.pinned (OpenSpec.ofChange Rows.fnWordRingSpec) :=
  OpenClaim.holds_of_wide 6 Try.f6 rfl rfl rfl rfl rfl rfl rfl ⟨rfl, rfl, rfl, rfl, rfl⟩ rfl rfl rfl rfl rfl (by kernel_rfl) Try.func6 (by kernel_rfl)
    (of_decide_eq_true (by kernel_rfl)) (by unfold Func.isWrapper; first | (rw [if_pos (by decide +kernel)]; kernel_rfl) | (rw [if_neg (by decide +kernel)]; exact ⟨rfl, rfl⟩))
    (fun os started H enc _ => lifted os started H enc)
theorem proved : Rows.FnWordRingSaid := over
#print axioms proved

end Go.Proofs.Ytodlfmagkjblgaa.fnWordRing
