/- Proved here: for every slice of moves the statement FnExactSchemeOk returns true, and its argument reads as before. No conditions. -/
import Derived.Test.YtcjppomkonbbcaaMoves
import Derived.Test.YtcjppomkonbbcaaFrames
namespace Go.Proofs.Ytcjppomkonbbcaa.fnExactSchemeOk
open Go.ChangeShapes Go.WideShapes Go.ChangeAt Go.RowKit
set_option linter.unusedVariables false

set_option maxHeartbeats 400000 in
theorem walk (A : Option Addr) (n c : Nat) (xs : List (Int × Int)) (w : World) (h : Moves w 0 w.heap.size A n c xs) :
    Calls Try.prog 6 #[.slice A n c] w fun e w' => e = .returned (.bool true) ∧ Below w.heap.size w w' := by
  have hcp := h.cap
  have hm := h.max
  by_cases hbig : 1048576 < n
  · have hF : szF n 1048576 = -1 := if_pos (by omega)
    go_enter Try.func6, Try.ntmps6
    go_wp2_with fail
    refine (laws_szMoveS A n c _ w (by omega) (by omega) (by omega)).mono ?_
    rintro e w1 ⟨rfl, rfl⟩
    rw [hF]
    clear hF
    go_wp2_with fail
    go_ret
    exact ⟨rfl, Below.refl _ _⟩
  · have hF : szF n 1048576 = 1048576 - n := if_neg (by omega)
    go_enter Try.func6, Try.ntmps6
    go_wp2_with fail
    refine (laws_szMoveS A n c _ w (by omega) (by omega) (by omega)).mono ?_
    rintro e w1 ⟨rfl, rfl⟩
    rw [hF]
    clear hF
    go_wp2_with fail
    refine (laws_toMoveS A n c xs _ _ w h (Nat.le_refl _) (by omega)).mono ?_
    rintro e w1 ⟨A1, c1, rfl, o1, b1⟩
    go_wp2_with fail
    refine (spec_SchemeOk A1 n c1 xs _ _ w1 o1.moves).mono ?_
    rintro e w' ⟨rfl, rfl⟩
    go_wp2_with fail
    refine (laws_toMoveS A n c xs _ _ w1 (h.below b1 (Nat.le_refl _)) b1.size (by omega)).mono ?_
    rintro e w2 ⟨A2, c2, rfl, o2, b2⟩
    have b12 : Below w.heap.size w w2 := b1.trans (b2.mono b1.size)
    go_wp2_with fail
    refine (impl_SchemeOk A2 n c2 xs _ _ w2 o2.moves (Nat.le_refl _)).mono ?_
    rintro e w3 ⟨rfl, b3⟩
    have b13 : Below w.heap.size w w3 := b12.trans (b3.mono b12.size)
    have o23 := o2.below b3 (Nat.le_refl _)
    go_wp2_with fail
    refine (laws_toMoveS A n c xs _ _ w3 (h.below b13 (Nat.le_refl _)) b13.size (by omega)).mono ?_
    rintro e w4 ⟨A4, c4, rfl, o4, b4⟩
    have b14 : Below w.heap.size w w4 := b13.trans (b4.mono b13.size)
    go_wp2_with fail
    refine (laws_eqMoveS A2 n c2 xs _ _ A4 n c4 xs _ _ w4 (o23.below b4 b3.size).moves o4.moves (Nat.le_trans b3.size b4.size) (Nat.le_refl _)).mono ?_
    rintro e w5 ⟨rfl, b5⟩
    have hT : decide (xs = xs) = true := by simp
    go_wp2_with fail
    go_ret
    exact ⟨rfl, b14.trans (b5.mono b14.size)⟩
theorem own : ownKnob Try.prog.godebug = none := by kernel_rfl
theorem laidOut : laidOutB Try.prog = true := by kernel_rfl
set_option maxRecDepth 100000 in
theorem lifted (os : Os) (started : os.Started) (H : Type) (enc : TypeId × Value → H) :
    ReturnsInHanded {} Try.checked os 6 .any (Rows.fnExactSchemeOkSpec.pre6 enc Try.prog Try.f6 Rows.fnExactSchemeOkRow.domain false) (Rows.fnExactSchemeOkSpec.post enc Try.prog Try.f6 false true false false) := by
  refine returnsInHanded_of_change (C := Try.checked) own started (by kernel_rfl) Try.func6
    (ChangeSpec.witness6 (enc := enc) (C := Try.checked) false ⟨#[], #[.slice none 0 0], []⟩ 8 (by kernel_rfl) (by kernel_rfl) (by kernel_rfl) (by kernel_rfl)) ?_
  intro W base args ds gs before hval0 hW hcnd _
  have hval : ∀ (j : Nat) t v, Try.f6.params[j]? = some t → args[j]? = some v → Value.okWide Try.prog W .any base t v := hval0
  have hW' := hW
  obtain ⟨p, q, hA0, hV, rfl, hfz, hnd⟩ := hW
  have hA : DataW.TrodAll enc Try.prog W 0 (fun _ => true) true Try.f6.params.toList args.toList ds p := hA0
  rw [Try.params6] at hA hval
  obtain ⟨v0, vs0, d0, ds0, p0, q0, hargs, rfl, rfl, h0, t0⟩ := trodAll_cons hA
  obtain ⟨rfl, rfl, rfl⟩ := trodAll_nil t0
  obtain rfl : args = #[v0] := by cases args; simp_all
  obtain ⟨rfl, rfl⟩ := trodVars_none hV
  have k0 := h0
  have lt0 : ∀ x ∈ p0, x.block < W.heap.size := by obtain ⟨m, hm⟩ := k0; exact DataW.trod_lt m _ _ _ hm
  obtain ⟨a0, n0, c0, rfl⟩ := okWide_slice Try.underlying29 (hval 0 29 v0 rfl rfl)
  obtain ⟨xs0, r0⟩ := open_pmoves h0
  clear hA0 hval0
  refine (walk a0 n0 c0 xs0 W r0).mono fun e W' ⟨he, bel⟩ => ?_
  subst he
  exact ⟨_, rfl, _, _, _, [], _, [], hW', trodAll_mk1 (shut_bool Try.underlying4 _), (trodAll_cons_mk (Below.trod laidOut (by kernel_rfl) (of_decide_eq_true (by kernel_rfl)) k0 bel lt0) trodAll_mk0), rfl, bel.frame _, fun h => by cases h⟩
theorem over : Rows.fnExactSchemeOkRow.holds Try.pinned (OpenSpec.ofChange Rows.fnExactSchemeOkSpec) :=
  OpenClaim.holds_of_wide 6 Try.f6 rfl rfl rfl rfl rfl rfl rfl ⟨rfl, rfl, rfl, rfl, rfl⟩ rfl rfl rfl rfl rfl (by kernel_rfl) Try.func6 (by kernel_rfl)
    (of_decide_eq_true (by kernel_rfl)) (by unfold Func.isWrapper; first | (rw [if_pos (by decide +kernel)]; kernel_rfl) | (rw [if_neg (by decide +kernel)]; exact ⟨rfl, rfl⟩))
    (fun os started H enc _ => lifted os started H enc)
theorem proved : Rows.FnExactSchemeOkSaid := over
#print axioms proved

end Go.Proofs.Ytcjppomkonbbcaa.fnExactSchemeOk
