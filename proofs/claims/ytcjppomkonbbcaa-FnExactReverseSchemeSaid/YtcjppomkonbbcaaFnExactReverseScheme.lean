/- Proved here: for every input the statement FnExactReverseScheme returns true, and its arguments read as before. No conditions. -/
import Derived.Test.YtcjppomkonbbcaaReverse
import Derived.Test.YtcjppomkonbbcaaFrames
namespace Go.Proofs.Ytcjppomkonbbcaa.fnExactReverseScheme
open Go.ChangeShapes Go.WideShapes Go.ChangeAt Go.RowKit
set_option linter.unusedSimpArgs false
set_option linter.unusedVariables false

theorem rev_len (ms : List (Int × Int)) : (revF ms).length ≤ 12 := by
  unfold revF
  split
  · rename_i h
    have := scheme_len h
    simpa using this
  · simp

set_option maxHeartbeats 2000000 in
theorem walk (A0 : Option Addr) (n0 c0 : Nat) (xs0 : List (Int × Int)) (w : World) (h0 : Moves w 0 w.heap.size A0 n0 c0 xs0) :
    Calls Try.prog 11 #[.slice A0 n0 c0] w fun e w' => e = .returned (.bool true) ∧ Below w.heap.size w w' := by
  have B0 := Below.refl w.heap.size w
  have hcp0 := h0.cap
  have hmx0 := h0.max
  by_cases hbig0 : (1048576 : Int) < n0
  · have hF0 : szF n0 1048576 = -1 := if_pos (by omega)
    go_enter Try.func11, Try.ntmps11
    go_wp2_with fail
    refine (laws_szMoveS A0 n0 c0 1048576 w (by omega) (by omega) (by omega)).mono ?_
    rintro e w' ⟨rfl, rfl⟩
    rw [hF0]
    go_wp2_with fail
    go_ret
    exact ⟨rfl, B0⟩
  · have hok : True := trivial
    have hs0 : n0 ≤ 1048576 := by omega
    have hF0 : szF n0 1048576 = 1048576 - n0 := if_neg (by omega)
    go_enter Try.func11, Try.ntmps11
    go_wp2_with fail
    refine (laws_szMoveS A0 n0 c0 1048576 w (by omega) (by omega) (by omega)).mono ?_
    rintro e w' ⟨rfl, rfl⟩
    rw [hF0]
    clear hF0
    go_wp2_with fail
    refine (laws_toMoveS A0 n0 c0 (xs0) 0 w.heap.size w h0 (by omega) (by omega)).mono ?_
    rintro e w1 ⟨A1, c1, rfl, o1, b1⟩
    have o2 := h0.below b1 (by omega)
    have B3 : Below w.heap.size w w1 := B0.trans (b1.mono B0.size)
    have s4 := b1.size
    go_wp2_with fail
    refine (spec_ReverseScheme A1 n0 c1 (xs0) w.heap.size w1.heap.size w1 o1.moves (by omega) (by omega)).mono ?_
    rintro e w5 ⟨A5, n5, c5, rfl, o5, b5⟩
    have o6 := o2.below b5 (by omega)
    have o7 := o1.below b5 (by omega)
    clear o1
    have B8 : Below w.heap.size w w5 := B3.trans (b5.mono B3.size)
    have s9 := b5.size
    clear o7
    go_wp2_with fail
    refine (laws_toMoveS A0 n0 c0 (xs0) 0 w.heap.size w5 o6 (by omega) (by omega)).mono ?_
    rintro e w10 ⟨A10, c10, rfl, o10, b10⟩
    have o11 := o6.below b10 (by omega)
    have o12 := o5.below b10 (by omega)
    clear o5
    have B13 : Below w.heap.size w w10 := B8.trans (b10.mono B8.size)
    have s14 := b10.size
    go_wp2_with fail
    refine (impl_ReverseScheme A10 n0 c10 (xs0) w5.heap.size w10.heap.size w10 o10.moves (by omega)).mono ?_
    rintro e w15 ⟨A15, n15, c15, rfl, o15, b15⟩
    have o16 := o11.below b15 (by omega)
    have o17 := o12.below b15 (by omega)
    clear o12
    have o18 := o10.below b15 (by omega)
    clear o10
    have B19 : Below w.heap.size w w15 := B13.trans (b15.mono B13.size)
    have s20 := b15.size
    have hln : n15 ≤ 1048576 := by have hl1 := o15.len; have hl2 := rev_len xs0; omega
    go_wp2_with fail
    refine (laws_eqMoveS A15 n15 c15 (revF xs0) w10.heap.size w15.heap.size A5 n5 c5 (revF xs0) w1.heap.size w5.heap.size w15 o15.moves o17.moves (by omega) (by omega)).mono ?_
    rintro e w21 ⟨rfl, b21⟩
    have o22 := o16.below b21 (by omega)
    have o23 := o17.below b21 (by omega)
    clear o17
    have o24 := o18.below b21 (by omega)
    clear o18
    have o25 := o15.below b21 (by omega)
    clear o15
    have B26 : Below w.heap.size w w21 := B19.trans (b21.mono B19.size)
    have s27 := b21.size
    go_wp2_with fail
    refine (laws_toMoveS A0 n0 c0 (xs0) 0 w.heap.size w21 o22 (by omega) (by omega)).mono ?_
    rintro e w28 ⟨A28, c28, rfl, o28, b28⟩
    have o29 := o22.below b28 (by omega)
    have o30 := o23.below b28 (by omega)
    clear o23
    have o31 := o24.below b28 (by omega)
    clear o24
    have o32 := o25.below b28 (by omega)
    clear o25
    have B33 : Below w.heap.size w w28 := B26.trans (b28.mono B26.size)
    have s34 := b28.size
    go_wp2_with fail
    refine (laws_eqMoveS A10 n0 c10 (xs0) w5.heap.size w10.heap.size A28 n0 c28 (xs0) w21.heap.size w28.heap.size w28 o31.moves o28.moves (by omega) (by omega)).mono ?_
    rintro e w35 ⟨rfl, b35⟩
    have o36 := o29.below b35 (by omega)
    have o37 := o30.below b35 (by omega)
    clear o30
    have o38 := o31.below b35 (by omega)
    clear o31
    have o39 := o32.below b35 (by omega)
    clear o32
    have o40 := o28.below b35 (by omega)
    clear o28
    have B41 : Below w.heap.size w w35 := B33.trans (b35.mono B33.size)
    have s42 := b35.size
    clear o40
    go_wp2_with fail
    refine (laws_markMoveS A10 n0 c10 (xs0) w5.heap.size w10.heap.size (1) w35 o38 (by omega) (by omega)).mono ?_
    rintro e w43 ⟨rfl, o43, t43, _⟩
    have o44 := o36.same (t43.same (by omega) (by omega))
    have o45 := o37.same (t43.same (by omega) (by omega))
    clear o37
    have o46 := o39.same (t43.same (by omega) (by omega))
    clear o39
    have B47 : Below w.heap.size w w43 := B41.trans (t43.below (by omega) (by omega))
    have s48 := t43.size
    clear o38
    go_wp2_with fail
    refine (laws_eqMoveS A15 n15 c15 (revF xs0) w10.heap.size w15.heap.size A5 n5 c5 (revF xs0) w1.heap.size w5.heap.size w43 o46.moves o45.moves (by omega) (by omega)).mono ?_
    rintro e w49 ⟨rfl, b49⟩
    have o50 := o44.below b49 (by omega)
    have o51 := o45.below b49 (by omega)
    clear o45
    have o52 := o43.below b49 (by omega)
    clear o43
    have o53 := o46.below b49 (by omega)
    clear o46
    have B54 : Below w.heap.size w w49 := B47.trans (b49.mono B47.size)
    have s55 := b49.size
    go_wp2_with fail
    refine (laws_markMoveS A15 n15 c15 (revF xs0) w10.heap.size w15.heap.size (1) w49 o53 (by omega) (by omega)).mono ?_
    rintro e w56 ⟨rfl, o56, t56, _⟩
    have o57 := o50.same (t56.same (by omega) (by omega))
    have o58 := o51.same (t56.same (by omega) (by omega))
    clear o51
    have o59 := o52.same (t56.same (by omega) (by omega))
    clear o52
    have B60 : Below w.heap.size w w56 := B54.trans (t56.below (by omega) (by omega))
    have s61 := t56.size
    clear o53
    go_wp2_with fail
    refine (laws_heldMoveS A15 n15 c15 w10.heap.size w15.heap.size 1 w56 o56.moves (by omega) (by omega)).mono ?_
    rintro e w62 ⟨rfl, rfl⟩
    go_wp2_with fail
    refine (laws_toMoveS A0 n0 c0 (xs0) 0 w.heap.size w56 o57 (by omega) (by omega)).mono ?_
    rintro e w63 ⟨A63, c63, rfl, o63, b63⟩
    have o64 := o57.below b63 (by omega)
    have o65 := o58.below b63 (by omega)
    clear o58
    have o66 := o59.below b63 (by omega)
    clear o59
    have o67 := o56.below b63 (by omega)
    clear o56
    have B68 : Below w.heap.size w w63 := B60.trans (b63.mono B60.size)
    have s69 := b63.size
    go_wp2_with fail
    refine (impl_ReverseScheme A63 n0 c63 (xs0) w56.heap.size w63.heap.size w63 o63.moves (by omega)).mono ?_
    rintro e w70 ⟨A70, n70, c70, rfl, o70, b70⟩
    have o71 := o64.below b70 (by omega)
    have o72 := o65.below b70 (by omega)
    clear o65
    have o73 := o66.below b70 (by omega)
    clear o66
    have o74 := o67.below b70 (by omega)
    clear o67
    have o75 := o63.below b70 (by omega)
    clear o63
    have B76 : Below w.heap.size w w70 := B68.trans (b70.mono B68.size)
    have s77 := b70.size
    clear o75
    go_wp2_with fail
    refine (laws_eqMoveS A70 n70 c70 (revF xs0) w63.heap.size w70.heap.size A5 n5 c5 (revF xs0) w1.heap.size w5.heap.size w70 o70.moves o72.moves (by omega) (by omega)).mono ?_
    rintro e w78 ⟨rfl, b78⟩
    have o79 := o71.below b78 (by omega)
    have o80 := o72.below b78 (by omega)
    clear o72
    have o81 := o73.below b78 (by omega)
    clear o73
    have o82 := o74.below b78 (by omega)
    clear o74
    have o83 := o70.below b78 (by omega)
    clear o70
    have B84 : Below w.heap.size w w78 := B76.trans (b78.mono B76.size)
    have s85 := b78.size
    go_wp2_with fail
    refine (laws_heldMoveS A15 n15 c15 w10.heap.size w15.heap.size 1 w78 o82.moves (by omega) (by omega)).mono ?_
    rintro e w86 ⟨rfl, rfl⟩
    go_wp2_with fail
    go_ret
    exact ⟨rfl, B84⟩
theorem own : ownKnob Try.prog.godebug = none := by kernel_rfl
theorem laidOut : laidOutB Try.prog = true := by kernel_rfl
set_option maxRecDepth 100000 in
theorem lifted (os : Os) (started : os.Started) (H : Type) (enc : TypeId × Value → H) :
    ReturnsInHanded {} Try.checked os 11 .any (Rows.fnExactReverseSchemeSpec.pre6 enc Try.prog Try.f11 Rows.fnExactReverseSchemeRow.domain false) (Rows.fnExactReverseSchemeSpec.post enc Try.prog Try.f11 false true false false) := by
  refine returnsInHanded_of_change (C := Try.checked) own started (by kernel_rfl) Try.func11
    (ChangeSpec.witness6 (enc := enc) (C := Try.checked) false ⟨#[], #[.slice none 0 0], []⟩ 8 (by kernel_rfl) (by kernel_rfl) (by kernel_rfl) (by kernel_rfl)) ?_
  intro W base args ds gs before hval0 hW hcnd _
  have hval : ∀ (j : Nat) t v, Try.f11.params[j]? = some t → args[j]? = some v → Value.okWide Try.prog W .any base t v := hval0
  have hW' := hW
  obtain ⟨p, q, hA0, hV, rfl, hfz, hnd⟩ := hW
  have hA : DataW.TrodAll enc Try.prog W 0 (fun _ => true) true Try.f11.params.toList args.toList ds p := hA0
  rw [Try.params11] at hA hval
  obtain ⟨v0, vs0, d0, ds0, p0, q0, hargs, rfl, rfl, h0, t0⟩ := trodAll_cons hA
  obtain ⟨rfl, rfl, rfl⟩ := trodAll_nil t0
  obtain rfl : args = #[v0] := by cases args; simp_all
  obtain ⟨rfl, rfl⟩ := trodVars_none hV
  have k0 := h0
  have lt0 : ∀ x ∈ p0, x.block < W.heap.size := by obtain ⟨m, hm⟩ := k0; exact DataW.trod_lt m _ _ _ hm
  obtain ⟨a0, n0, c0, rfl⟩ := okWide_slice Try.underlying29 (hval 0 29 v0 rfl rfl)
  obtain ⟨xs0, r0⟩ := open_pmoves h0
  clear hA0 hval0
  refine (walk a0 n0 c0 xs0 W r0).mono fun e W' ⟨he, bel⟩ => ?_
  subst he
  exact ⟨_, rfl, _, _, _, [], _, [], hW', trodAll_mk1 (shut_bool Try.underlying4 _), (trodAll_cons_mk (Below.trod laidOut (by kernel_rfl) (of_decide_eq_true (by kernel_rfl)) k0 bel lt0) trodAll_mk0), rfl, bel.frame _, fun h => by cases h⟩
theorem over : Rows.fnExactReverseSchemeRow.holds Try.pinned (OpenSpec.ofChange Rows.fnExactReverseSchemeSpec) :=
  OpenClaim.holds_of_wide 11 Try.f11 rfl rfl rfl rfl rfl rfl rfl ⟨rfl, rfl, rfl, rfl, rfl⟩ rfl rfl rfl rfl rfl (by kernel_rfl) Try.func11 (by kernel_rfl)
    (of_decide_eq_true (by kernel_rfl)) (by unfold Func.isWrapper; first | (rw [if_pos (by decide +kernel)]; kernel_rfl) | (rw [if_neg (by decide +kernel)]; exact ⟨rfl, rfl⟩))
    (fun os started H enc _ => lifted os started H enc)
theorem proved : Rows.FnExactReverseSchemeSaid := over
#print axioms proved

end Go.Proofs.Ytcjppomkonbbcaa.fnExactReverseScheme
