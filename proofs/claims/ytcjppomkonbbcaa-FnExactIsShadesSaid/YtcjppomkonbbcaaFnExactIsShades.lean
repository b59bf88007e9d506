/- Proved here: for every slice of integers the statement FnExactIsShades returns true, and its argument reads as before. No conditions. -/
import Derived.Test.YtcjppomkonbbcaaShades
import Derived.Test.YtcjppomkonbbcaaFrames
namespace Go.Proofs.Ytcjppomkonbbcaa.fnExactIsShades
open Go.ChangeShapes Go.WideShapes Go.ChangeAt Go.RowKit
set_option linter.unusedVariables false

set_option maxHeartbeats 400000 in
theorem walk (A : Option Addr) (n c : Nat) (xs : List Int) (w : World) (h : Ints w 0 w.heap.size A n c xs) :
    Calls Try.prog 5 #[.slice A n c] w fun e w' => e = .returned (.bool true) ∧ Below w.heap.size w w' := by
  have hcp := h.cap
  have hm := h.max
  by_cases hbig : 1048576 < n
  · go_enter Try.func5, Try.ntmps5
    go_wp2
    go_ret
    exact ⟨rfl, Below.refl _ _⟩
  · go_enter Try.func5, Try.ntmps5
    go_wp2_with fail
    refine (laws_toIntS A n c xs _ _ w h (Nat.le_refl _) (by omega)).mono ?_
    rintro e w1 ⟨A1, c1, rfl, o1, b1⟩
    go_wp2_with fail
    refine (spec_IsShades A1 n c1 xs _ _ w1 o1.ints (Nat.le_refl _) (by omega)).mono ?_
    rintro e w1' ⟨rfl, b1'⟩
    have b11 : Below w.heap.size w w1' := b1.trans (b1'.mono b1.size)
    go_wp2_with fail
    refine (laws_toIntS A n c xs _ _ w1' (h.below b11 (Nat.le_refl _)) b11.size (by omega)).mono ?_
    rintro e w2 ⟨A2, c2, rfl, o2, b2⟩
    have b12 : Below w.heap.size w w2 := b11.trans (b2.mono b11.size)
    go_wp2_with fail
    refine (impl_IsShades A2 n c2 xs _ _ w2 o2.ints).mono ?_
    rintro e w2' ⟨rfl, q, rfl⟩
    rw [shades_eq xs]
    have b12' : Below w.heap.size w (w2.drewN q) := below_drewN b12 q
    have o2' : Ints (w2.drewN q) w1'.heap.size w2.heap.size A2 n c2 xs := o2.ints.same fun _ _ _ => rfl
    go_wp2_with fail
    refine (laws_toIntS A n c xs _ _ (w2.drewN q) (h.below b12' (Nat.le_refl _)) b12'.size (by omega)).mono ?_
    rintro e w3 ⟨A3, c3, rfl, o3, b3⟩
    go_wp2_with fail
    refine (laws_eqIntS A2 n c2 xs _ _ A3 n c3 xs _ _ w3 (o2'.below b3 (Nat.le_refl _)) o3.ints).mono ?_
    rintro e w4 ⟨rfl, q, rfl⟩
    have hT : decide (xs = xs) = true := by simp
    go_wp2_with fail
    go_ret
    exact ⟨rfl, below_drewN (b12'.trans (b3.mono b12'.size)) q⟩
theorem own : ownKnob Try.prog.godebug = none := by kernel_rfl
theorem laidOut : laidOutB Try.prog = true := by kernel_rfl
set_option maxRecDepth 100000 in
theorem lifted (os : Os) (started : os.Started) (H : Type) (enc : TypeId × Value → H) :
    ReturnsInHanded {} Try.checked os 5 .any (Rows.fnExactIsShadesSpec.pre6 enc Try.prog Try.f5 Rows.fnExactIsShadesRow.domain false) (Rows.fnExactIsShadesSpec.post enc Try.prog Try.f5 false true false false) := by
  refine returnsInHanded_of_change (C := Try.checked) own started (by kernel_rfl) Try.func5
    (ChangeSpec.witness6 (enc := enc) (C := Try.checked) false ⟨#[], #[.slice none 0 0], []⟩ 8 (by kernel_rfl) (by kernel_rfl) (by kernel_rfl) (by kernel_rfl)) ?_
  intro W base args ds gs before hval0 hW hcnd _
  have hval : ∀ (j : Nat) t v, Try.f5.params[j]? = some t → args[j]? = some v → Value.okWide Try.prog W .any base t v := hval0
  have hW' := hW
  obtain ⟨p, q, hA0, hV, rfl, hfz, hnd⟩ := hW
  have hA : DataW.TrodAll enc Try.prog W 0 (fun _ => true) true Try.f5.params.toList args.toList ds p := hA0
  rw [Try.params5] at hA hval
  obtain ⟨v0, vs0, d0, ds0, p0, q0, hargs, rfl, rfl, h0, t0⟩ := trodAll_cons hA
  obtain ⟨rfl, rfl, rfl⟩ := trodAll_nil t0
  obtain rfl : args = #[v0] := by cases args; simp_all
  obtain ⟨rfl, rfl⟩ := trodVars_none hV
  have k0 := h0
  have lt0 : ∀ x ∈ p0, x.block < W.heap.size := by obtain ⟨m, hm⟩ := k0; exact DataW.trod_lt m _ _ _ hm
  obtain ⟨a0, n0, c0, rfl⟩ := okWide_slice Try.underlying24 (hval 0 24 v0 rfl rfl)
  obtain ⟨xs0, r0⟩ := open_pints h0
  clear hA0 hval0
  refine (walk a0 n0 c0 xs0 W r0).mono fun e W' ⟨he, bel⟩ => ?_
  subst he
  exact ⟨_, rfl, _, _, _, [], _, [], hW', trodAll_mk1 (shut_bool Try.underlying4 _), (trodAll_cons_mk (Below.trod laidOut (by kernel_rfl) (of_decide_eq_true (by kernel_rfl)) k0 bel lt0) trodAll_mk0), rfl, bel.frame _, fun h => by cases h⟩
theorem over : Rows.fnExactIsShadesRow.holds Try.pinned (OpenSpec.ofChange Rows.fnExactIsShadesSpec) :=
  OpenClaim.holds_of_wide 5 Try.f5 rfl rfl rfl rfl rfl rfl rfl ⟨rfl, rfl, rfl, rfl, rfl⟩ rfl rfl rfl rfl rfl (by kernel_rfl) Try.func5 (by kernel_rfl)
    (of_decide_eq_true (by kernel_rfl)) (by unfold Func.isWrapper; first | (rw [if_pos (by decide +kernel)]; kernel_rfl) | (rw [if_neg (by decide +kernel)]; exact ⟨rfl, rfl⟩))
    (fun os started H enc _ => lifted os started H enc)
theorem proved : Rows.FnExactIsShadesSaid := over
#print axioms proved

end Go.Proofs.Ytcjppomkonbbcaa.fnExactIsShades
