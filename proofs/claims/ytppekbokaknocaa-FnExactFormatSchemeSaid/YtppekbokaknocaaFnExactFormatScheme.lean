/- Proved here: for every input the statement FnExactFormatScheme returns true, and its arguments read as before. No conditions. -/
import Derived.Test.YtppekbokaknocaaFmtS
import Derived.Test.YtppekbokaknocaaFrames
namespace Go.Proofs.Ytppekbokaknocaa.fnExactFormatScheme
open Go.ChangeShapes Go.WideShapes Go.ChangeAt Go.RowKit
set_option linter.unusedSimpArgs false
set_option linter.unusedVariables false
set_option maxRecDepth 20000

set_option maxRecDepth 100000 in
set_option maxHeartbeats 4000000 in
theorem walk (A0 : Option Addr) (n0 c0 : Nat) (xs0 : List (Int × Int)) (w : World) (h0 : Moves w 0 w.heap.size A0 n0 c0 xs0) :
    Calls Try.prog 3 #[.slice A0 n0 c0] w fun e w' => e = .returned (.bool true) ∧ Below w.heap.size w w' := by
  have B0 := Below.refl w.heap.size w
  have hcp0 := h0.cap
  have hmx0 := h0.max
  by_cases hbig0 : (1048576 : Int) < n0
  · have hF0 : szF n0 1048576 = -1 := if_pos (by omega)
    go_enter Try.func3, Try.ntmps3
    go_wp2_with fail
    refine (laws_szMoveS A0 n0 c0 1048576 w (by omega) (by omega) (by omega)).mono ?_
    rintro e w' ⟨rfl, rfl⟩
    rw [hF0]
    go_wp2_with fail
    go_ret
    exact ⟨rfl, B0⟩
  · have hok : True := trivial
    have hs0 : n0 ≤ 1048576 := by omega
    have hF0 : szF n0 1048576 = 1048576 - n0 := if_neg (by omega)
    go_enter Try.func3, Try.ntmps3
    go_wp2_with fail
    refine (laws_szMoveS A0 n0 c0 1048576 w (by omega) (by omega) (by omega)).mono ?_
    rintro e w' ⟨rfl, rfl⟩
    rw [hF0]
    clear hF0
    go_wp2_with fail
    refine (laws_toMoveS A0 n0 c0 (xs0) 0 w.heap.size w h0 (by omega) (by omega)).mono ?_
    rintro e w11 ⟨A11, c11, rfl, o11, b11⟩
    have o12 := h0.below b11 (by omega)
    have B13 : Below w.heap.size w w11 := B0.trans (b11.mono B0.size)
    have s14 := b11.size
    go_wp2_with fail
    refine (spec_FormatScheme A11 n0 c11 (xs0) w.heap.size w11.heap.size w11 o11.moves (by omega)).mono ?_
    rintro e w15 ⟨rfl, b15⟩
    have o16 := o12.below b15 (by omega)
    have o17 := o11.below b15 (by omega)
    clear o11
    have B18 : Below w.heap.size w w15 := B13.trans (b15.mono B13.size)
    have s19 := b15.size
    clear o17
    go_wp2_with fail
    refine (laws_toMoveS A0 n0 c0 (xs0) 0 w.heap.size w15 o16 (by omega) (by omega)).mono ?_
    rintro e w20 ⟨A20, c20, rfl, o20, b20⟩
    have o21 := o16.below b20 (by omega)
    have B22 : Below w.heap.size w w20 := B18.trans (b20.mono B18.size)
    have s23 := b20.size
    go_wp2_with fail
    refine (impl_FormatScheme A20 n0 c20 (xs0) w15.heap.size w20.heap.size w20 o20.moves (by omega)).mono ?_
    rintro e w24 ⟨rfl, b24⟩
    have o25 := o21.below b24 (by omega)
    have o26 := o20.below b24 (by omega)
    clear o20
    have B27 : Below w.heap.size w w24 := B22.trans (b24.mono B22.size)
    have s28 := b24.size
    go_wp2_with fail
    refine (laws_toMoveS A0 n0 c0 (xs0) 0 w.heap.size w24 o25 (by omega) (by omega)).mono ?_
    rintro e w29 ⟨A29, c29, rfl, o29, b29⟩
    have o30 := o25.below b29 (by omega)
    have o31 := o26.below b29 (by omega)
    clear o26
    have B32 : Below w.heap.size w w29 := B27.trans (b29.mono B27.size)
    have s33 := b29.size
    go_wp2_with fail
    refine (laws_eqMoveS A20 n0 c20 (xs0) w15.heap.size w20.heap.size A29 n0 c29 (xs0) w24.heap.size w29.heap.size w29 o31.moves o29.moves (by omega) (by omega)).mono ?_
    rintro e w34 ⟨rfl, b34⟩
    have o35 := o30.below b34 (by omega)
    have o36 := o31.below b34 (by omega)
    clear o31
    have o37 := o29.below b34 (by omega)
    clear o29
    have B38 : Below w.heap.size w w34 := B32.trans (b34.mono B32.size)
    have s39 := b34.size
    clear o37
    go_wp2_with fail
    go_ret
    exact ⟨rfl, B38⟩
theorem own : ownKnob Try.prog.godebug = none := by kernel_rfl
theorem laidOut : laidOutB Try.prog = true := by kernel_rfl
set_option maxRecDepth 100000 in
theorem lifted (os : Os) (started : os.Started) (H : Type) (enc : TypeId × Value → H) :
    ReturnsInHanded {} Try.checked os 3 .any (Rows.fnExactFormatSchemeSpec.pre6 enc Try.prog Try.f3 Rows.fnExactFormatSchemeRow.domain false) (Rows.fnExactFormatSchemeSpec.post enc Try.prog Try.f3 false true false false) := by
  refine returnsInHanded_of_change (C := Try.checked) own started (by kernel_rfl) Try.func3
    (ChangeSpec.witness6 (enc := enc) (C := Try.checked) false ⟨#[], #[.slice none 0 0], []⟩ 8 (by kernel_rfl) (by kernel_rfl) (by kernel_rfl) (by kernel_rfl)) ?_
  intro W base args ds gs before hval0 hW hcnd _
  have hval : ∀ (j : Nat) t v, Try.f3.params[j]? = some t → args[j]? = some v → Value.okWide Try.prog W .any base t v := hval0
  have hW' := hW
  obtain ⟨p, q, hA0, hV, rfl, hfz, hnd⟩ := hW
  have hA : DataW.TrodAll enc Try.prog W 0 (fun _ => true) true Try.f3.params.toList args.toList ds p := hA0
  rw [Try.params3] at hA hval
  obtain ⟨v0, vs0, d0, ds0, p0, q0, hargs, rfl, rfl, h0, t0⟩ := trodAll_cons hA
  obtain ⟨rfl, rfl, rfl⟩ := trodAll_nil t0
  obtain rfl : args = #[v0] := by cases args; simp_all
  obtain ⟨rfl, rfl⟩ := trodVars_none hV
  have k0 := h0
  have lt0 : ∀ x ∈ p0, x.block < W.heap.size := by obtain ⟨m, hm⟩ := k0; exact DataW.trod_lt m _ _ _ hm
  obtain ⟨a0, n0, c0, rfl⟩ := okWide_slice Try.underlying22 (hval 0 22 v0 rfl rfl)
  obtain ⟨xs0, r0⟩ := open_pmoves h0
  clear hA0 hval0
  refine (walk a0 n0 c0 xs0 W r0).mono fun e W' ⟨he, bel⟩ => ?_
  subst he
  exact ⟨_, rfl, _, _, _, [], _, [], hW', trodAll_mk1 (shut_bool Try.underlying4 _), (trodAll_cons_mk (Below.trod laidOut (by kernel_rfl) (of_decide_eq_true (by kernel_rfl)) k0 bel lt0) trodAll_mk0), rfl, bel.frame _, fun h => by cases h⟩
theorem over : Rows.fnExactFormatSchemeRow.holds Try.pinned (OpenSpec.ofChange Rows.fnExactFormatSchemeSpec) :=
  OpenClaim.holds_of_wide 3 Try.f3 rfl rfl rfl rfl rfl rfl rfl ⟨rfl, rfl, rfl, rfl, rfl⟩ rfl rfl rfl rfl rfl (by kernel_rfl) Try.func3 (by kernel_rfl)
    (of_decide_eq_true (by kernel_rfl)) (by unfold Func.isWrapper; first | (rw [if_pos (by decide +kernel)]; kernel_rfl) | (rw [if_neg (by decide +kernel)]; exact ⟨rfl, rfl⟩))
    (fun os started H enc _ => lifted os started H enc)
theorem proved : Rows.FnExactFormatSchemeSaid := over
#print axioms proved

end Go.Proofs.Ytppekbokaknocaa.fnExactFormatScheme
