/- Proved here: for every input the statement FnExactFormatPath returns true, and its arguments read as before. No conditions. -/
import Derived.Test.YtppekbokaknocaaFmtQ
import Derived.Test.YtppekbokaknocaaFrames
namespace Go.Proofs.Ytppekbokaknocaa.fnExactFormatPath
open Go.ChangeShapes Go.WideShapes Go.ChangeAt Go.RowKit
set_option linter.unusedSimpArgs false
set_option linter.unusedVariables false
set_option maxRecDepth 20000

set_option maxRecDepth 100000 in
set_option maxHeartbeats 4000000 in
theorem walk (A0 : Option Addr) (n0 c0 : Nat) (xs0 : List (List Int)) (w : World) (h0 : Ints2 w 0 w.heap.size A0 n0 c0 xs0) :
    Calls Try.prog 4 #[.slice A0 n0 c0] w fun e w' => e = .returned (.bool true) ∧ Below w.heap.size w w' := by
  have B0 := Below.refl w.heap.size w
  have hcp0 := h0.cap
  have hmx0 := h0.max
  rcases sz2_ok xs0 with hlt | ⟨hge, hn, hr⟩
  · go_enter Try.func4, Try.ntmps4
    go_wp2_with fail
    refine (laws_szIntSS A0 n0 c0 xs0 0 w.heap.size 1048576 w h0 (by omega) (by omega)).mono ?_
    rintro e w' ⟨rfl, rfl⟩
    go_wp2_with fail
    go_ret
    exact ⟨rfl, B0⟩
  · have hs0 : n0 ≤ 1048576 := by rw [← h0.len]; exact hn
    have HR := hide hr
    clear hr hn
    go_enter Try.func4, Try.ntmps4
    go_wp2_with fail
    refine (laws_szIntSS A0 n0 c0 xs0 0 w.heap.size 1048576 w h0 (by omega) (by omega)).mono ?_
    rintro e w' ⟨rfl, rfl⟩
    go_wp2_with fail
    refine (laws_toIntSS A0 n0 c0 xs0 0 w.heap.size w h0 (by omega) (by omega) HR.out).mono ?_
    rintro e w11 ⟨A11, c11, rfl, o11, b11⟩
    have o12 := h0.below b11 (by omega)
    have B13 : Below w.heap.size w w11 := B0.trans (b11.mono B0.size)
    have s14 := b11.size
    go_wp2_with fail
    refine (spec_FormatPath A11 n0 c11 (xs0) w.heap.size w11.heap.size w11 o11 (by omega) HR.out).mono ?_
    rintro e w15 ⟨rfl, b15⟩
    have o16 := o12.below b15 (by omega)
    have o17 := o11.below b15 (by omega)
    clear o11
    have B18 : Below w.heap.size w w15 := B13.trans (b15.mono B13.size)
    have s19 := b15.size
    clear o17
    go_wp2_with fail
    refine (laws_toIntSS A0 n0 c0 (xs0) 0 w.heap.size w15 o16 (by omega) (by omega) HR.out).mono ?_
    rintro e w20 ⟨A20, c20, rfl, o20, b20⟩
    have o21 := o16.below b20 (by omega)
    have B22 : Below w.heap.size w w20 := B18.trans (b20.mono B18.size)
    have s23 := b20.size
    go_wp2_with fail
    refine (impl_FormatPath A20 n0 c20 (xs0) w15.heap.size w20.heap.size w20 o20 (by omega) HR.out).mono ?_
    rintro e w24 ⟨rfl, b24⟩
    have o25 := o21.below b24 (by omega)
    have o26 := o20.below b24 (by omega)
    clear o20
    have B27 : Below w.heap.size w w24 := B22.trans (b24.mono B22.size)
    have s28 := b24.size
    go_wp2_with fail
    refine (laws_toIntSS A0 n0 c0 (xs0) 0 w.heap.size w24 o25 (by omega) (by omega) HR.out).mono ?_
    rintro e w29 ⟨A29, c29, rfl, o29, b29⟩
    have o30 := o25.below b29 (by omega)
    have o31 := o26.below b29 (by omega)
    clear o26
    have B32 : Below w.heap.size w w29 := B27.trans (b29.mono B27.size)
    have s33 := b29.size
    go_wp2_with fail
    refine (laws_eqIntSS A20 n0 c20 (xs0) w15.heap.size w20.heap.size A29 n0 c29 (xs0) w24.heap.size w29.heap.size w29 o31 o29).mono ?_
    rintro e w34 ⟨rfl, q, rfl⟩
    rw [decide_eq_true rfl]
    have B38 : Below w.heap.size w (w29.drewN q) := below_drewN B32 q
    go_wp2_with fail
    go_ret
    exact ⟨rfl, B38⟩
theorem own : ownKnob Try.prog.godebug = none := by kernel_rfl
theorem laidOut : laidOutB Try.prog = true := by kernel_rfl
set_option maxRecDepth 100000 in
theorem lifted (os : Os) (started : os.Started) (H : Type) (enc : TypeId × Value → H) :
    ReturnsInHanded {} Try.checked os 4 .any (Rows.fnExactFormatPathSpec.pre6 enc Try.prog Try.f4 Rows.fnExactFormatPathRow.domain false) (Rows.fnExactFormatPathSpec.post enc Try.prog Try.f4 false true false false) := by
  refine returnsInHanded_of_change (C := Try.checked) own started (by kernel_rfl) Try.func4
    (ChangeSpec.witness6 (enc := enc) (C := Try.checked) false ⟨#[], #[.slice none 0 0], []⟩ 8 (by kernel_rfl) (by kernel_rfl) (by kernel_rfl) (by kernel_rfl)) ?_
  intro W base args ds gs before hval0 hW hcnd _
  have hval : ∀ (j : Nat) t v, Try.f4.params[j]? = some t → args[j]? = some v → Value.okWide Try.prog W .any base t v := hval0
  have hW' := hW
  obtain ⟨p, q, hA0, hV, rfl, hfz, hnd⟩ := hW
  have hA : DataW.TrodAll enc Try.prog W 0 (fun _ => true) true Try.f4.params.toList args.toList ds p := hA0
  rw [Try.params4] at hA hval
  obtain ⟨v0, vs0, d0, ds0, p0, q0, hargs, rfl, rfl, h0, t0⟩ := trodAll_cons hA
  obtain ⟨rfl, rfl, rfl⟩ := trodAll_nil t0
  obtain rfl : args = #[v0] := by cases args; simp_all
  obtain ⟨rfl, rfl⟩ := trodVars_none hV
  have k0 := h0
  have lt0 : ∀ x ∈ p0, x.block < W.heap.size := by obtain ⟨m, hm⟩ := k0; exact DataW.trod_lt m _ _ _ hm
  obtain ⟨a0, n0, c0, rfl⟩ := okWide_slice Try.underlying29 (hval 0 29 v0 rfl rfl)
  obtain ⟨xs0, r0⟩ := open_pintss h0
  clear hA0 hval0
  refine (walk a0 n0 c0 xs0 W r0).mono fun e W' ⟨he, bel⟩ => ?_
  subst he
  exact ⟨_, rfl, _, _, _, [], _, [], hW', trodAll_mk1 (shut_bool Try.underlying4 _), (trodAll_cons_mk (Below.trod laidOut (by kernel_rfl) (of_decide_eq_true (by kernel_rfl)) k0 bel lt0) trodAll_mk0), rfl, bel.frame _, fun h => by cases h⟩
theorem over : Rows.fnExactFormatPathRow.holds Try.pinned (OpenSpec.ofChange Rows.fnExactFormatPathSpec) :=
  OpenClaim.holds_of_wide 4 Try.f4 rfl rfl rfl rfl rfl rfl rfl ⟨rfl, rfl, rfl, rfl, rfl⟩ rfl rfl rfl rfl rfl (by kernel_rfl) Try.func4 (by kernel_rfl)
    (of_decide_eq_true (by kernel_rfl)) (by unfold Func.isWrapper; first | (rw [if_pos (by decide +kernel)]; kernel_rfl) | (rw [if_neg (by decide +kernel)]; exact ⟨rfl, rfl⟩))
    (fun os started H enc _ => lifted os started H enc)
theorem proved : Rows.FnExactFormatPathSaid := over
#print axioms proved

end Go.Proofs.Ytppekbokaknocaa.fnExactFormatPath
