/- Proved here: for every input the statement FnExactShadedWeight returns true, and its arguments and the variable treeRows read as before. No conditions. -/
import Derived.Test.YthjkdpapadolgaaGreatDoorWtU
import Derived.Test.YthjkdpapadolgaaGreatDoorVarF
namespace Go.Proofs.YthjkdpapadolgaaGreatDoor.fnExactShadedWeight
open Go.ChangeShapes Go.WideShapes Go.ChangeAt Go.RowKit
set_option linter.unusedSimpArgs false
set_option linter.unusedVariables false
set_option maxRecDepth 20000

set_option maxRecDepth 100000 in
set_option maxHeartbeats 4000000 in
theorem walk (s : Int) (A : Option Addr) (n c : Nat) (xs : List Int) (B : Option Addr) (m d : Nat) (ys : List Int) (s' : Int) (A' : Option Addr) (n' c' : Nat) (xs' : List Int) (B' : Option Addr) (m' d' : Nat) (ys' : List Int) (K : Int) (w : World)
    (h : Ints w 0 w.heap.size A n c xs) (g : Ints w 0 w.heap.size B m d ys) (h' : Ints w 0 w.heap.size A' n' c' xs') (g' : Ints w 0 w.heap.size B' m' d' ys') (rK : R64 K) (hT : TreeV w.heap.size w) :
    Calls Tryz.prog 3 #[.agg #[.int .i64 s, .slice A n c, .slice B m d, .int .i64 s', .slice A' n' c', .slice B' m' d'], .int .i64 K] w fun e w' => e = .returned (.bool true) ∧ Below w.heap.size w w' := by
  have hcp1 := h.cap
  have hmx1 := h.max
  have hcp2 := g.cap
  have hmx2 := g.max
  have hcp3 := h'.cap
  have hmx3 := h'.max
  have hcp4 := g'.cap
  have hmx4 := g'.max
  have a1 := below_alloc w (.cells #[.int .i64 s, .slice A n c, .slice B m d, .int .i64 s', .slice A' n' c', .slice B' m' d'] 26)
  have j1 := BlkN.new w #[.int .i64 s, .slice A n c, .slice B m d, .int .i64 s', .slice A' n' c', .slice B' m' d'] 26
  have z0 := a1.size
  by_cases hbig : (1048576 : Int) < (n : Int) + m + n' + m'
  · have hsz := sz4F_big hbig
    go_enter Tryz.func3, Tryz.ntmps3
    go_wp2_with fail
    generalize World.alloc w (.cells #[.int .i64 s, .slice A n c, .slice B m d, .int .i64 s', .slice A' n' c', .slice B' m' d'] 26) = W at a1 j1 z0 ⊢
    refine (laws_szPair s A n c B m d s' A' n' c' B' m' d' 1048576 W (by omega) (by omega) (by omega) (by omega) (by omega) (by omega)).mono ?_
    rintro e w1 ⟨rfl, b1⟩
    rw [hsz]
    have B1 := a1.trans (b1.mono z0)
    clear hsz
    go_wp2_with fail
    go_ret
    exact ⟨rfl, B1⟩
  · have hsz : sz4F n m n' m' 1048576 = 1048576 - n - m - n' - m' := sz4F_ok (by omega)
    have hs1 : n ≤ 1048576 := by omega
    have hs2 : m ≤ 1048576 := by omega
    have hs3 : n' ≤ 1048576 := by omega
    have hs4 : m' ≤ 1048576 := by omega
    go_enter Tryz.func3, Tryz.ntmps3
    go_wp2_with fail
    generalize World.alloc w (.cells #[.int .i64 s, .slice A n c, .slice B m d, .int .i64 s', .slice A' n' c', .slice B' m' d'] 26) = W at a1 j1 z0 ⊢
    refine (laws_szPair s A n c B m d s' A' n' c' B' m' d' 1048576 W (by omega) (by omega) (by omega) (by omega) (by omega) (by omega)).mono ?_
    rintro e w1 ⟨rfl, b1⟩
    rw [hsz]
    clear hsz
    have k1 := j1.below b1
    have B1 := a1.trans (b1.mono z0)
    have z1 := B1.size
    have q1 := k1.lt
    clear j1 b1 a1
    have p0 := k1.c 0 rfl
    have p1 := k1.c 1 rfl
    have p2 := k1.c 2 rfl
    have p3 := k1.c 3 rfl
    have p4 := k1.c 4 rfl
    have p5 := k1.c 5 rfl
    go_wp2_with fail
    clear p0 p1 p2 p3 p4 p5
    refine (laws_toPair s A n c xs B m d ys s' A' n' c' xs' B' m' d' ys' 0 w.heap.size w1 (h.below B1 (Nat.le_refl _)) (g.below B1 (Nat.le_refl _)) (h'.below B1 (Nat.le_refl _)) (g'.below B1 (Nat.le_refl _)) z1 hs1 hs2 hs3 hs4).mono ?_
    rintro e w2 ⟨TA1, tc1, TB1, td1, TC1, te1, TD1, tf1, mA1, mB1, mC1, rfl, oA1, oB1, oC1, oD1, hm1, b2⟩
    have y2 := b2.size
    have k2 := k1.below b2
    have B2 := B1.trans (b2.mono z1)
    have z2 := B2.size
    clear k1
    go_wp2_with fail
    refine (spec_SW s TA1 n tc1 xs TB1 m td1 ys s' TC1 n' te1 xs' TD1 m' tf1 ys' w1.heap.size w2.heap.size K w2 (oA1.ints.wide (by omega) (by omega)) (oB1.ints.wide (by omega) (by omega)) (oC1.ints.wide (by omega) (by omega)) (oD1.ints.wide (by omega) (by omega)) oA1.flat oC1.flat (Nat.le_refl _)).mono ?_
    rintro e w3 ⟨rfl, b3⟩
    have k3 := k2.below b3
    have B3 := B2.trans (b3.mono z2)
    have z3 := B3.size
    clear k2 oA1 oB1 oC1 oD1
    have p0 := k3.c 0 rfl
    have p1 := k3.c 1 rfl
    have p2 := k3.c 2 rfl
    have p3 := k3.c 3 rfl
    have p4 := k3.c 4 rfl
    have p5 := k3.c 5 rfl
    go_wp2_with fail
    clear p0 p1 p2 p3 p4 p5
    refine (laws_toPair s A n c xs B m d ys s' A' n' c' xs' B' m' d' ys' 0 w.heap.size w3 (h.below B3 (Nat.le_refl _)) (g.below B3 (Nat.le_refl _)) (h'.below B3 (Nat.le_refl _)) (g'.below B3 (Nat.le_refl _)) z3 hs1 hs2 hs3 hs4).mono ?_
    rintro e w4 ⟨TA2, tc2, TB2, td2, TC2, te2, TD2, tf2, mA2, mB2, mC2, rfl, oA2, oB2, oC2, oD2, hm2, b4⟩
    have y4 := b4.size
    have a5 := below_alloc w4 (.cells #[.int .i64 s, .slice TA2 n tc2, .slice TB2 m td2, .int .i64 s', .slice TC2 n' te2, .slice TD2 m' tf2] 31)
    have x5 := BlkN.new w4 #[.int .i64 s, .slice TA2 n tc2, .slice TB2 m td2, .int .i64 s', .slice TC2 n' te2, .slice TD2 m' tf2] 31
    have k5 := (k3.below b4).below a5
    have B5 := (B3.trans (b4.mono z3)).trans (a5.mono (by omega))
    have uA := oA2.below a5 (by omega)
    have uB := oB2.below a5 (by omega)
    have uC := oC2.below a5 (by omega)
    have uD := oD2.below a5 (by omega)
    clear k3 oA2 oB2 oC2 oD2
    go_wp2_with fail
    generalize World.alloc w4 (.cells #[.int .i64 s, .slice TA2 n tc2, .slice TB2 m td2, .int .i64 s', .slice TC2 n' te2, .slice TD2 m' tf2] 31) = w5 at a5 x5 k5 B5 uA uB uC uD ⊢
    have z5 := B5.size
    have y5 := a5.size
    have q5 := x5.lt
    clear a5
    have p0 := x5.c 0 rfl
    have p1 := x5.c 1 rfl
    have p2 := x5.c 2 rfl
    have p3 := x5.c 3 rfl
    have p4 := x5.c 4 rfl
    have p5 := x5.c 5 rfl
    go_wp2_with fail
    clear p0 p1 p2 p3 p4 p5
    refine (impl_SW s TA2 n tc2 xs TB2 m td2 ys s' TC2 n' te2 xs' TD2 m' tf2 ys' w3.heap.size w4.heap.size K w5 (uA.ints.wide (by omega) (by omega)) (uB.ints.wide (by omega) (by omega)) (uC.ints.wide (by omega) (by omega)) (uD.ints.wide (by omega) (by omega)) uA.flat uC.flat (by omega) w.heap.size (hT.below B5 (Nat.le_refl _)) (by omega)).mono ?_
    rintro e w6 ⟨rfl, b6⟩
    have x6 := x5.below b6
    have k6 := k5.below b6
    have B6 := B5.trans (b6.mono z5)
    have y6 := b6.size
    have z6 := B6.size
    have vA := uA.below b6 (by omega)
    have vB := uB.below b6 (by omega)
    have vC := uC.below b6 (by omega)
    have vD := uD.below b6 (by omega)
    clear x5 k5 uA uB uC uD
    generalize swF s xs ys s' xs' ys' K = bb
    have d7 : Below w6.heap.size w6 w6.drew := (Below.refl _ _).drew
    have dz := d7.size
    have x7 := x6.below d7
    have k7 := k6.below d7
    have B7 := B6.trans (d7.mono z6)
    have tA := vA.below d7 (by omega)
    have tB := vB.below d7 (by omega)
    have tC := vC.below d7 (by omega)
    have tD := vD.below d7 (by omega)
    have p0 := x6.c 0 rfl
    have r0 := k6.c 0 rfl
    have p1 := x6.c 1 rfl
    have r1 := k6.c 1 rfl
    have p2 := x6.c 2 rfl
    have r2 := k6.c 2 rfl
    have p3 := x6.c 3 rfl
    have r3 := k6.c 3 rfl
    have p4 := x6.c 4 rfl
    have r4 := k6.c 4 rfl
    have p5 := x6.c 5 rfl
    have r5 := k6.c 5 rfl
    go_wp2_with fail
    go_region_held3 (fun w' => w'.cell? ⟨w4.heap.size, 0, none⟩ = some (.int .i64 s) ∧ w'.cell? ⟨w4.heap.size, 1, none⟩ = some (.slice TA2 n tc2) ∧ w'.cell? ⟨w4.heap.size, 2, none⟩ = some (.slice TB2 m td2) ∧ w'.cell? ⟨w4.heap.size, 3, none⟩ = some (.int .i64 s') ∧ w'.cell? ⟨w4.heap.size, 4, none⟩ = some (.slice TC2 n' te2) ∧ w'.cell? ⟨w4.heap.size, 5, none⟩ = some (.slice TD2 m' tf2) ∧ w'.cell? ⟨w.heap.size, 0, none⟩ = some (.int .i64 s) ∧ w'.cell? ⟨w.heap.size, 1, none⟩ = some (.slice A n c) ∧ w'.cell? ⟨w.heap.size, 2, none⟩ = some (.slice B m d) ∧ w'.cell? ⟨w.heap.size, 3, none⟩ = some (.int .i64 s') ∧ w'.cell? ⟨w.heap.size, 4, none⟩ = some (.slice A' n' c') ∧ w'.cell? ⟨w.heap.size, 5, none⟩ = some (.slice B' m' d')) (first | exact ⟨p0, p1, p2, p3, p4, p5, r0, r1, r2, r3, r4, r5⟩ | exact ⟨x8.c 0 rfl, x8.c 1 rfl, x8.c 2 rfl, x8.c 3 rfl, x8.c 4 rfl, x8.c 5 rfl, k8.c 0 rfl, k8.c 1 rfl, k8.c 2 rfl, k8.c 3 rfl, k8.c 4 rfl, k8.c 5 rfl⟩ | exact ⟨x9.c 0 rfl, x9.c 1 rfl, x9.c 2 rfl, x9.c 3 rfl, x9.c 4 rfl, x9.c 5 rfl, k9.c 0 rfl, k9.c 1 rfl, k9.c 2 rfl, k9.c 3 rfl, k9.c 4 rfl, k9.c 5 rfl⟩ | go_keep)
      (first
        | (go_at_call 6; refine (laws_toPair s A n c xs B m d ys s' A' n' c' xs' B' m' d' ys' 0 w.heap.size w6.drew (h.below B7 (Nat.le_refl _)) (g.below B7 (Nat.le_refl _)) (h'.below B7 (Nat.le_refl _)) (g'.below B7 (Nat.le_refl _)) (by omega) hs1 hs2 hs3 hs4).mono ?_; rintro e w8 ⟨TA3, tc3, TB3, td3, TC3, te3, TD3, tf3, mA3, mB3, mC3, rfl, oA3, oB3, oC3, oD3, hm3, b8⟩; have x8 := x7.below b8; have k8 := k7.below b8; have y8 := b8.size)
        | (go_at_call 8; refine (laws_eqPair s TA2 n tc2 xs TB2 m td2 ys s' TC2 n' te2 xs' TD2 m' tf2 ys' w3.heap.size w4.heap.size s TA3 n tc3 xs TB3 m td3 ys s' TC3 n' te3 xs' TD3 m' tf3 ys' w6.drew.heap.size w8.heap.size w8 ((tA.below b8 (by omega)).ints.wide (by omega) (by omega)) ((tB.below b8 (by omega)).ints.wide (by omega) (by omega)) ((tC.below b8 (by omega)).ints.wide (by omega) (by omega)) ((tD.below b8 (by omega)).ints.wide (by omega) (by omega)) (oA3.ints.wide (by omega) (by omega)) (oB3.ints.wide (by omega) (by omega)) (oC3.ints.wide (by omega) (by omega)) (oD3.ints.wide (by omega) (by omega)) (by omega) (Nat.le_refl _)).mono ?_; rintro e w9 ⟨rfl, b9⟩; rw [pairEq_refl]; have x9 := x8.below b9; have k9 := k8.below b9))
    have HB := B7.trans ((b8.trans (b9.mono y8)).mono (by omega))
    go_wp2_with fail
    go_ret
    exact ⟨rfl, HB⟩

theorem own : ownKnob Tryz.prog.godebug = none := by kernel_rfl
theorem laidOut : laidOutB Tryz.prog = true := by kernel_rfl
set_option maxRecDepth 100000 in
theorem lifted (os : Os) (started : os.Started) (H : Type) (enc : TypeId × Value → H) :
    ReturnsInHanded {} Tryz.checked os 3 .any (Rows.fnExactShadedWeightSpec.pre6 enc Tryz.prog Tryz.f3 Rows.fnExactShadedWeightRow.domain false) (Rows.fnExactShadedWeightSpec.post enc Tryz.prog Tryz.f3 false true false false) := by
  refine returnsInHanded_of_change (C := Tryz.checked) own started (by kernel_rfl) Tryz.func3
    (ChangeSpec.witness6 (enc := enc) (C := Tryz.checked) false ⟨#[], #[.agg #[.int .i64 0, .slice none 0 0, .slice none 0 0, .int .i64 0, .slice none 0 0, .slice none 0 0], .int .i64 0], []⟩ 8 (by kernel_rfl) (by kernel_rfl) (by kernel_rfl) (by kernel_rfl)) ?_
  intro W base args ds gs before hval0 hW hcnd _
  have hval : ∀ (j : Nat) t v, Tryz.f3.params[j]? = some t → args[j]? = some v → Value.okWide Tryz.prog W .any base t v := hval0
  have hW' := hW
  obtain ⟨p, q, hA0, hV, rfl, hfz, hnd⟩ := hW
  have hA : DataW.TrodAll enc Tryz.prog W 0 (fun _ => true) true Tryz.f3.params.toList args.toList ds p := hA0
  rw [Tryz.params3] at hA hval
  obtain ⟨v0, vs0, d0, ds0, p0, q0, hargs, rfl, rfl, h0, t0⟩ := trodAll_cons hA
  obtain ⟨v1, vs1, d1, ds1, p1, q1, rfl, rfl, rfl, h1, t1⟩ := trodAll_cons t0
  obtain ⟨rfl, rfl, rfl⟩ := trodAll_nil t1
  obtain rfl : args = #[v0, v1] := by cases args; simp_all
  obtain ⟨dv, rfl, hTv⟩ := var_tree hV
  have k0 := h0
  have lt0 : ∀ x ∈ p0, x.block < W.heap.size := by obtain ⟨m, hm⟩ := k0; exact DataW.trod_lt m _ _ _ hm
  have k1 := h1
  have lt1 : ∀ x ∈ p1, x.block < W.heap.size := by obtain ⟨m, hm⟩ := k1; exact DataW.trod_lt m _ _ _ hm
  obtain ⟨s_0, A_0, n_0, c_0, xs_0, B_0, m_0, d_0, ys_0, t_0, C_0, k_0, e_0, us_0, D_0, l_0, f_0, zs_0, rfl, iA0, iB0, iC0, iD0⟩ := open_ppair h0 (by obtain ⟨cs, hcs, _⟩ := okWide_struct Tryz.underlying26 (hval 0 26 v0 rfl rfl); exact ⟨cs, hcs⟩)
  obtain ⟨a1, rfl, r1⟩ := open_pint h1 (by obtain ⟨k, hk⟩ := okWide_int Tryz.underlying3 (hval 1 3 v1 rfl rfl); exact ⟨_, k, hk⟩)
  clear hA0 hval0
  refine (walk s_0 A_0 n_0 c_0 xs_0 B_0 m_0 d_0 ys_0 t_0 C_0 k_0 e_0 us_0 D_0 l_0 f_0 zs_0 a1 W iA0 iB0 iC0 iD0 r1 hTv).mono fun e W' ⟨he, bel⟩ => ?_
  subst he
  exact ⟨_, rfl, _, _, _, [], _, q, hW', trodAll_mk1 (shut_bool Tryz.underlying4 _), (trodAll_cons_mk (Below.trod laidOut (by kernel_rfl) (of_decide_eq_true (by kernel_rfl)) k0 bel lt0) (trodAll_cons_mk (Below.trod laidOut (by kernel_rfl) (of_decide_eq_true (by kernel_rfl)) k1 bel lt1) trodAll_mk0)), bel.trodVars laidOut (by kernel_rfl) hV, bel.frame _, fun h => by cases h⟩
theorem over : Rows.fnExactShadedWeightRow.holds Tryz.pinned (OpenSpec.ofChange Rows.fnExactShadedWeightSpec) :=
  OpenClaim.holds_of_wide 3 Tryz.f3 rfl rfl rfl rfl rfl rfl rfl ⟨rfl, rfl, rfl, rfl, rfl⟩ rfl rfl rfl rfl rfl (by kernel_rfl) Tryz.func3 (by kernel_rfl)
    (of_decide_eq_true (by kernel_rfl)) (by unfold Func.isWrapper; first | (rw [if_pos (by decide +kernel)]; kernel_rfl) | (rw [if_neg (by decide +kernel)]; exact ⟨rfl, rfl⟩))
    (fun os started H enc _ => lifted os started H enc)
theorem proved : Rows.FnExactShadedWeightSaid := over
#print axioms proved

end Go.Proofs.YthjkdpapadolgaaGreatDoor.fnExactShadedWeight
