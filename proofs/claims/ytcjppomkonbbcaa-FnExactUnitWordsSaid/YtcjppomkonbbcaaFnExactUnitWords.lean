/- Proved here: for every input the statement FnExactUnitWords returns true, and its arguments read as before. No conditions. -/
import Derived.Test.YtcjppomkonbbcaaWordsL
import Derived.Test.YtcjppomkonbbcaaFrames
namespace Go.Proofs.Ytcjppomkonbbcaa.fnExactUnitWords
open Go.ChangeShapes Go.WideShapes Go.ChangeAt Go.RowKit
set_option linter.unusedSimpArgs false
set_option linter.unusedVariables false

theorem len_ok (o : Int) : (unitF o).2.length ≤ 63 := by
  unfold unitF
  split
  · have := cntN_bd (o := o) (by omega)
    simp
    omega
  · simp

set_option maxHeartbeats 1000000 in
theorem walk (y0 : Int) (w : World) (h0 : R64 y0) :
    Calls Try.prog 7 #[.int .i64 y0] w fun e w' => e = .returned (.bool true) ∧ Below w.heap.size w w' := by
  have B0 := Below.refl w.heap.size w
  go_enter Try.func7, Try.ntmps7
  go_wp2_with fail
  refine (spec_UnitWords y0 w).mono ?_
  rintro e w1 ⟨A1, n1, c1, rfl, o1, b1⟩
  have B2 : Below w.heap.size w w1 := B0.trans (b1.mono B0.size)
  have s3 := b1.size
  go_wp2_with fail
  have a4 := below_alloc w1 (.cells #[(.int .i64 (unitF y0).1), (.slice A1 n1 c1)] 37)
  have k4 := Cell2.new w1 (.int .i64 (unitF y0).1) (.slice A1 n1 c1) 37
  generalize World.alloc w1 (.cells #[(.int .i64 (unitF y0).1), (.slice A1 n1 c1)] 37) = w4 at a4 k4 ⊢
  have o5 := o1.below a4 (by omega)
  clear o1
  have B6 : Below w.heap.size w w4 := B2.trans (a4.mono B2.size)
  have s7 := a4.size
  have q8 := k4.lt
  go_wp2_with fail
  refine (impl_UnitWords y0 w4).mono ?_
  rintro e w9 ⟨A9, n9, c9, rfl, o9, b9⟩
  have o10 := o5.below b9 (by omega)
  clear o5
  have k11 := k4.below b9
  clear k4
  have q12 := k11.lt
  have B13 : Below w.heap.size w w9 := B6.trans (b9.mono B6.size)
  have s14 := b9.size
  have hln : n9 ≤ 1048576 := by have := o9.len; have := len_ok y0; omega
  have p16 := k11.c0
  have p17 := k11.c1
  go_wp2_with fail
  clear p16 p17
  have a15 := below_alloc w9 (.cells #[(.int .i64 (unitF y0).1), (.slice A9 n9 c9)] 37)
  have k15 := Cell2.new w9 (.int .i64 (unitF y0).1) (.slice A9 n9 c9) 37
  generalize World.alloc w9 (.cells #[(.int .i64 (unitF y0).1), (.slice A9 n9 c9)] 37) = w15 at a15 k15 ⊢
  have o18 := o10.below a15 (by omega)
  clear o10
  have o19 := o9.below a15 (by omega)
  clear o9
  have k20 := k11.below a15
  clear k11
  have q21 := k20.lt
  have B22 : Below w.heap.size w w15 := B13.trans (a15.mono B13.size)
  have s23 := a15.size
  have q24 := k15.lt
  have p25 := k15.c0
  have p26 := k15.c1
  have p27 := k20.c0
  have p28 := k20.c1
  go_wp2_with fail
  clear p25 p26 p27 p28
  refine (laws_eqWords (unitF y0).1 A9 n9 c9 (unitF y0).2 w4.heap.size w9.heap.size (unitF y0).1 A1 n1 c1 (unitF y0).2 w.heap.size w1.heap.size w15 o19.ints o18.ints (by omega) (by omega)).mono ?_
  rintro e w29 ⟨rfl, b29⟩
  have o30 := o18.below b29 (by omega)
  clear o18
  have o31 := o19.below b29 (by omega)
  clear o19
  have k32 := k20.below b29
  clear k20
  have q33 := k32.lt
  have k34 := k15.below b29
  clear k15
  have q35 := k34.lt
  have B36 : Below w.heap.size w w29 := B22.trans (b29.mono B22.size)
  have s37 := b29.size
  have p38 := k34.c0
  have p39 := k34.c1
  go_wp2_with fail
  clear p38 p39
  refine (laws_markWords (unitF y0).1 A9 n9 c9 (unitF y0).2 w4.heap.size w9.heap.size (1) w29 o31 (by omega) (by omega) (by omega)).mono ?_
  rintro e w40 ⟨rfl, o40, t40⟩
  have o41 := o30.same (t40.same (by omega) (by omega))
  clear o30
  have k42 := k32.touch t40 (by omega)
  clear k32
  have q43 := k42.lt
  have k44 := k34.touch t40 (by omega)
  clear k34
  have q45 := k44.lt
  have B46 : Below w.heap.size w w40 := B36.trans (t40.below (by omega) (by omega))
  have s47 := t40.size
  clear o31
  have p48 := k44.c0
  have p49 := k44.c1
  go_wp2_with fail
  clear p48 p49
  refine (laws_heldWords (unitF y0).1 A9 n9 c9 w4.heap.size w9.heap.size 1 w40 o40.ints (by omega) (by omega) (by omega)).mono ?_
  rintro e w50 ⟨rfl, b50⟩
  have o51 := o41.below b50 (by omega)
  clear o41
  have o52 := o40.below b50 (by omega)
  clear o40
  have k53 := k42.below b50
  clear k42
  have q54 := k53.lt
  have k55 := k44.below b50
  clear k44
  have q56 := k55.lt
  have B57 : Below w.heap.size w w50 := B46.trans (b50.mono B46.size)
  have s58 := b50.size
  go_wp2_with fail
  refine (impl_UnitWords y0 w50).mono ?_
  rintro e w59 ⟨A59, n59, c59, rfl, o59, b59⟩
  have o60 := o51.below b59 (by omega)
  clear o51
  have o61 := o52.below b59 (by omega)
  clear o52
  have k62 := k53.below b59
  clear k53
  have q63 := k62.lt
  have k64 := k55.below b59
  clear k55
  have q65 := k64.lt
  have B66 : Below w.heap.size w w59 := B57.trans (b59.mono B57.size)
  have s67 := b59.size
  have p69 := k62.c0
  have p70 := k62.c1
  have p71 := k64.c0
  have p72 := k64.c1
  go_wp2_with fail
  clear p69 p70 p71 p72
  have a68 := below_alloc w59 (.cells #[(.int .i64 (unitF y0).1), (.slice A59 n59 c59)] 37)
  have k68 := Cell2.new w59 (.int .i64 (unitF y0).1) (.slice A59 n59 c59) 37
  generalize World.alloc w59 (.cells #[(.int .i64 (unitF y0).1), (.slice A59 n59 c59)] 37) = w68 at a68 k68 ⊢
  have o73 := o60.below a68 (by omega)
  clear o60
  have o74 := o61.below a68 (by omega)
  clear o61
  have o75 := o59.below a68 (by omega)
  clear o59
  have k76 := k62.below a68
  clear k62
  have q77 := k76.lt
  have k78 := k64.below a68
  clear k64
  have q79 := k78.lt
  have B80 : Below w.heap.size w w68 := B66.trans (a68.mono B66.size)
  have s81 := a68.size
  have q82 := k68.lt
  have p83 := k68.c0
  have p84 := k68.c1
  have p85 := k76.c0
  have p86 := k76.c1
  go_wp2_with fail
  clear p83 p84 p85 p86
  refine (laws_eqWords (unitF y0).1 A59 n59 c59 (unitF y0).2 w50.heap.size w59.heap.size (unitF y0).1 A1 n1 c1 (unitF y0).2 w.heap.size w1.heap.size w68 o75.ints o73.ints (by omega) (by omega)).mono ?_
  rintro e w87 ⟨rfl, b87⟩
  have o88 := o73.below b87 (by omega)
  clear o73
  have o89 := o74.below b87 (by omega)
  clear o74
  have o90 := o75.below b87 (by omega)
  clear o75
  have k91 := k76.below b87
  clear k76
  have q92 := k91.lt
  have k93 := k78.below b87
  clear k78
  have q94 := k93.lt
  have k95 := k68.below b87
  clear k68
  have q96 := k95.lt
  have B97 : Below w.heap.size w w87 := B80.trans (b87.mono B80.size)
  have s98 := b87.size
  have p99 := k93.c0
  have p100 := k93.c1
  go_wp2_with fail
  clear p99 p100
  refine (laws_heldWords (unitF y0).1 A9 n9 c9 w4.heap.size w9.heap.size 1 w87 o89.ints (by omega) (by omega) (by omega)).mono ?_
  rintro e w101 ⟨rfl, b101⟩
  have o102 := o88.below b101 (by omega)
  clear o88
  have o103 := o89.below b101 (by omega)
  clear o89
  have o104 := o90.below b101 (by omega)
  clear o90
  have k105 := k91.below b101
  clear k91
  have q106 := k105.lt
  have k107 := k93.below b101
  clear k93
  have q108 := k107.lt
  have k109 := k95.below b101
  clear k95
  have q110 := k109.lt
  have B111 : Below w.heap.size w w101 := B97.trans (b101.mono B97.size)
  have s112 := b101.size
  go_wp2_with fail
  go_ret
  exact ⟨rfl, B111⟩
theorem own : ownKnob Try.prog.godebug = none := by kernel_rfl
theorem laidOut : laidOutB Try.prog = true := by kernel_rfl
set_option maxRecDepth 100000 in
theorem lifted (os : Os) (started : os.Started) (H : Type) (enc : TypeId × Value → H) :
    ReturnsInHanded {} Try.checked os 7 .any (Rows.fnExactUnitWordsSpec.pre6 enc Try.prog Try.f7 Rows.fnExactUnitWordsRow.domain false) (Rows.fnExactUnitWordsSpec.post enc Try.prog Try.f7 false true false false) := by
  refine returnsInHanded_of_change (C := Try.checked) own started (by kernel_rfl) Try.func7
    (ChangeSpec.witness6 (enc := enc) (C := Try.checked) false ⟨#[], #[.int .i64 0], []⟩ 8 (by kernel_rfl) (by kernel_rfl) (by kernel_rfl) (by kernel_rfl)) ?_
  intro W base args ds gs before hval0 hW hcnd _
  have hval : ∀ (j : Nat) t v, Try.f7.params[j]? = some t → args[j]? = some v → Value.okWide Try.prog W .any base t v := hval0
  have hW' := hW
  obtain ⟨p, q, hA0, hV, rfl, hfz, hnd⟩ := hW
  have hA : DataW.TrodAll enc Try.prog W 0 (fun _ => true) true Try.f7.params.toList args.toList ds p := hA0
  rw [Try.params7] at hA hval
  obtain ⟨v0, vs0, d0, ds0, p0, q0, hargs, rfl, rfl, h0, t0⟩ := trodAll_cons hA
  obtain ⟨rfl, rfl, rfl⟩ := trodAll_nil t0
  obtain rfl : args = #[v0] := by cases args; simp_all
  obtain ⟨rfl, rfl⟩ := trodVars_none hV
  have k0 := h0
  have lt0 : ∀ x ∈ p0, x.block < W.heap.size := by obtain ⟨m, hm⟩ := k0; exact DataW.trod_lt m _ _ _ hm
  obtain ⟨a0, rfl, r0⟩ := open_pint h0 (by obtain ⟨k, hk⟩ := okWide_int Try.underlying3 (hval 0 3 v0 rfl rfl); exact ⟨_, k, hk⟩)
  clear hA0 hval0
  refine (walk a0 W r0).mono fun e W' ⟨he, bel⟩ => ?_
  subst he
  exact ⟨_, rfl, _, _, _, [], _, [], hW', trodAll_mk1 (shut_bool Try.underlying4 _), (trodAll_cons_mk (Below.trod laidOut (by kernel_rfl) (of_decide_eq_true (by kernel_rfl)) k0 bel lt0) trodAll_mk0), rfl, bel.frame _, fun h => by cases h⟩
theorem over : Rows.fnExactUnitWordsRow.holds Try.pinned (OpenSpec.ofChange Rows.fnExactUnitWordsSpec) :=
  OpenClaim.holds_of_wide 7 Try.f7 rfl rfl rfl rfl rfl rfl rfl ⟨rfl, rfl, rfl, rfl, rfl⟩ rfl rfl rfl rfl rfl (by kernel_rfl) Try.func7 (by kernel_rfl)
    (of_decide_eq_true (by kernel_rfl)) (by unfold Func.isWrapper; first | (rw [if_pos (by decide +kernel)]; kernel_rfl) | (rw [if_neg (by decide +kernel)]; exact ⟨rfl, rfl⟩))
    (fun os started H enc _ => lifted os started H enc)
theorem proved : Rows.FnExactUnitWordsSaid := over
#print axioms proved

end Go.Proofs.Ytcjppomkonbbcaa.fnExactUnitWords
