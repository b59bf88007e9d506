/- Proved here: for every slice of integers the statement FnExactCanonicalShades returns true, and its argument reads as before. No conditions. -/
import Derived.Test.YtkbnmlfoegpflaaCanW
import Derived.Test.YtkbnmlfoegpflaaFrames
namespace Go.Proofs.Ytkbnmlfoegpflaa.fnExactCanonicalShades
open Go.ChangeShapes Go.WideShapes Go.ChangeAt Go.RowKit
set_option linter.unusedSimpArgs false
set_option linter.unusedVariables false
set_option maxRecDepth 20000

set_option maxHeartbeats 1000000 in
theorem walk (A : Option Addr) (n c : Nat) (xs : List Int) (w : World) (h : Ints w 0 w.heap.size A n c xs) :
    Calls Try.prog 3 #[.slice A n c] w fun e w' => e = .returned (.bool true) ∧ Below w.heap.size w w' := by
  have hcp := h.cap
  have hm := h.max
  by_cases hbig : 1048576 < n
  · go_enter Try.func3, Try.ntmps3
    go_wp2
    go_ret
    exact ⟨rfl, Below.refl _ _⟩
  · have hcl := can_len xs
    obtain ⟨ys, hys⟩ : ∃ ys, ys = canF xs := ⟨_, rfl⟩
    have hT : decide (ys = ys) = true := by simp
    have hT2 : decide (xs = xs) = true := by simp
    have HI := hide h
    clear h
    go_enter Try.func3, Try.ntmps3
    go_wp2_with fail
    refine (laws_toIntS A n c xs _ _ w HI.out (Nat.le_refl _) (by omega)).mono ?_
    rintro e w1 ⟨A1, c1, rfl, o1, b1⟩
    go_wp2_with fail
    refine (spec_Can A1 n c1 xs _ _ w1 o1 (Nat.le_refl _) (by omega)).mono ?_
    rintro e w2 ⟨A2, n2, c2, rfl, o2, b2⟩
    rw [← hys] at o2
    have B2 := b1.trans (b2.mono b1.size)
    go_wp2_with fail
    refine (laws_toIntS A n c xs _ _ w2 (HI.out.below B2 (Nat.le_refl _)) B2.size (by omega)).mono ?_
    rintro e w3 ⟨A3, c3, rfl, o3, b3⟩
    have B3 := B2.trans (b3.mono B2.size)
    have o2 := o2.below b3 (Nat.le_refl _)
    clear o1 b1 b2
    go_wp2_with fail
    refine (impl_Can A3 n c3 xs _ _ w3 o3 (Nat.le_refl _)).mono ?_
    rintro e w4 ⟨A4, n4, c4, rfl, o4, b4⟩
    rw [← hys] at o4
    have B4 := B3.trans (b4.mono B3.size)
    have z3 := b3.size
    have z4 := b4.size
    have zw := B2.size
    have o2 := o2.below b4 (by omega)
    have o3 := o3.below b4 (Nat.le_refl _)
    have hl4 := o4.len
    have hln4 : n4 ≤ 4 := by rw [← hl4, hys]; exact hcl
    clear hl4 b3 b4
    go_wp2_with fail
    refine (laws_eqIntS A4 n4 c4 ys _ _ A2 n2 c2 ys _ _ w4 o4.ints o2.ints).mono ?_
    rintro e w5 ⟨rfl, q5, rfl⟩
    have o2 : OwnI (w4.drewN q5) w1.heap.size w2.heap.size A2 n2 c2 ys := o2.same (fun _ _ _ => rfl)
    have o3 : OwnI (w4.drewN q5) w2.heap.size w3.heap.size A3 n c3 xs := o3.same (fun _ _ _ => rfl)
    have o4 : OwnI (w4.drewN q5) w3.heap.size w4.heap.size A4 n4 c4 ys := o4.same (fun _ _ _ => rfl)
    have B5 := below_drewN B4 q5
    have z5 : w4.heap.size ≤ (w4.drewN q5).heap.size := Nat.le_refl _
    generalize w4.drewN q5 = w5 at o2 o3 o4 B5 z5 ⊢
    go_wp2_with fail
    refine (laws_toIntS A n c xs _ _ w5 (HI.out.below B5 (Nat.le_refl _)) B5.size (by omega)).mono ?_
    rintro e w6 ⟨A6, c6, rfl, o6, b6⟩
    have B6 := B5.trans (b6.mono B5.size)
    have o2 := o2.below b6 (by omega)
    have o3 := o3.below b6 (by omega)
    have o4 := o4.below b6 (by omega)
    have z6 := b6.size
    go_wp2_with fail
    refine (laws_eqIntS A3 n c3 xs _ _ A6 n c6 xs _ _ w6 o3.ints o6.ints).mono ?_
    rintro e w7 ⟨rfl, q7, rfl⟩
    have o2 : OwnI (w6.drewN q7) w1.heap.size w2.heap.size A2 n2 c2 ys := o2.same (fun _ _ _ => rfl)
    have o3 : OwnI (w6.drewN q7) w2.heap.size w3.heap.size A3 n c3 xs := o3.same (fun _ _ _ => rfl)
    have o4 : OwnI (w6.drewN q7) w3.heap.size w4.heap.size A4 n4 c4 ys := o4.same (fun _ _ _ => rfl)
    have B7 := below_drewN B6 q7
    have z7 : w6.heap.size ≤ (w6.drewN q7).heap.size := Nat.le_refl _
    generalize w6.drewN q7 = w7 at o2 o3 o4 B7 z7 ⊢
    clear o6 b6
    go_wp2_with fail
    refine (laws_markIntS A3 n c3 xs w2.heap.size w3.heap.size 1 w7 o3 (by omega) (by omega)).mono ?_
    rintro e w8 ⟨rfl, o8, t8, z8⟩
    have B8 := B7.trans (t8.below zw (by omega))
    have o2 := o2.same (t8.same (.inl (Nat.le_refl _)) (by omega))
    have o4 := o4.same (t8.same (.inr (Nat.le_refl _)) (by omega))
    clear o8 t8 o3
    go_wp2_with fail
    refine (laws_eqIntS A4 n4 c4 ys _ _ A2 n2 c2 ys _ _ w8 o4.ints o2.ints).mono ?_
    rintro e w9 ⟨rfl, q9, rfl⟩
    have o2 : OwnI (w8.drewN q9) w1.heap.size w2.heap.size A2 n2 c2 ys := o2.same (fun _ _ _ => rfl)
    have o4 : OwnI (w8.drewN q9) w3.heap.size w4.heap.size A4 n4 c4 ys := o4.same (fun _ _ _ => rfl)
    have B9 := below_drewN B8 q9
    have z9 : w8.heap.size ≤ (w8.drewN q9).heap.size := Nat.le_refl _
    generalize w8.drewN q9 = w9 at o2 o4 B9 z9 ⊢
    go_wp2_with fail
    refine (laws_markIntS A4 n4 c4 ys w3.heap.size w4.heap.size 1 w9 o4 (by omega) (by omega)).mono ?_
    rintro e w10 ⟨rfl, o10, t10, z10⟩
    have B10 := B9.trans (t10.below (by omega) (by omega))
    have o2 := o2.same (t10.same (.inl (by omega)) (by omega))
    clear o4 t10
    go_wp2_with fail
    refine (laws_heldIntS A4 n4 c4 w3.heap.size w4.heap.size 1 w10 o10.ints (by omega) (by omega)).mono ?_
    rintro e w11 ⟨rfl, rfl⟩
    go_wp2_with fail
    refine (laws_toIntS A n c xs _ _ w10 (HI.out.below B10 (Nat.le_refl _)) B10.size (by omega)).mono ?_
    rintro e w12 ⟨A12, c12, rfl, o12, b12⟩
    have B12 := B10.trans (b12.mono B10.size)
    have o2 := o2.below b12 (by omega)
    have o10 := o10.below b12 (by omega)
    have z12 := b12.size
    go_wp2_with fail
    refine (impl_Can A12 n c12 xs _ _ w12 o12 (Nat.le_refl _)).mono ?_
    rintro e w13 ⟨A13, n13, c13, rfl, o13, b13⟩
    rw [← hys] at o13
    have B13 := B12.trans (b13.mono B12.size)
    have z13 := b13.size
    have o2 := o2.below b13 (by omega)
    have o10 := o10.below b13 (by omega)
    clear o12 b12 b13
    go_wp2_with fail
    refine (laws_eqIntS A13 n13 c13 ys _ _ A2 n2 c2 ys _ _ w13 o13.ints o2.ints).mono ?_
    rintro e w14 ⟨rfl, q14, rfl⟩
    have o10 : OwnI (w13.drewN q14) w3.heap.size w4.heap.size A4 n4 c4 (marks 1 n4) := o10.same (fun _ _ _ => rfl)
    have B14 := below_drewN B13 q14
    generalize w13.drewN q14 = w14 at o10 B14 ⊢
    clear o13 o2
    go_wp2_with fail
    refine (laws_heldIntS A4 n4 c4 w3.heap.size w4.heap.size 1 w14 o10.ints (by omega) (by omega)).mono ?_
    rintro e w15 ⟨rfl, rfl⟩
    go_wp2_with fail
    go_ret
    exact ⟨rfl, B14⟩
theorem own : ownKnob Try.prog.godebug = none := by kernel_rfl
theorem laidOut : laidOutB Try.prog = true := by kernel_rfl
set_option maxRecDepth 100000 in
theorem lifted (os : Os) (started : os.Started) (H : Type) (enc : TypeId × Value → H) :
    ReturnsInHanded {} Try.checked os 3 .any (Rows.fnExactCanonicalShadesSpec.pre6 enc Try.prog Try.f3 Rows.fnExactCanonicalShadesRow.domain false) (Rows.fnExactCanonicalShadesSpec.post enc Try.prog Try.f3 false true false false) := by
  refine returnsInHanded_of_change (C := Try.checked) own started (by kernel_rfl) Try.func3
    (ChangeSpec.witness6 (enc := enc) (C := Try.checked) false ⟨#[], #[.slice none 0 0], []⟩ 8 (by kernel_rfl) (by kernel_rfl) (by kernel_rfl) (by kernel_rfl)) ?_
  intro W base args ds gs before hval0 hW hcnd _
  have hval : ∀ (j : Nat) t v, Try.f3.params[j]? = some t → args[j]? = some v → Value.okWide Try.prog W .any base t v := hval0
  have hW' := hW
  obtain ⟨p, q, hA0, hV, rfl, hfz, hnd⟩ := hW
  have hA : DataW.TrodAll enc Try.prog W 0 (fun _ => true) true Try.f3.params.toList args.toList ds p := hA0
  rw [Try.params3] at hA hval
  obtain ⟨v0, vs0, d0, ds0, p0, q0, hargs, rfl, rfl, h0, t0⟩ := trodAll_cons hA
  obtain ⟨rfl, rfl, rfl⟩ := trodAll_nil t0
  obtain rfl : args = #[v0] := by cases args; simp_all
  obtain ⟨rfl, rfl⟩ := trodVars_none hV
  have k0 := h0
  have lt0 : ∀ x ∈ p0, x.block < W.heap.size := by obtain ⟨m, hm⟩ := k0; exact DataW.trod_lt m _ _ _ hm
  obtain ⟨a0, n0, c0, rfl⟩ := okWide_slice Try.underlying22 (hval 0 22 v0 rfl rfl)
  obtain ⟨xs0, r0⟩ := open_pints h0
  clear hA0 hval0
  refine (walk a0 n0 c0 xs0 W r0).mono fun e W' ⟨he, bel⟩ => ?_
  subst he
  exact ⟨_, rfl, _, _, _, [], _, [], hW', trodAll_mk1 (shut_bool Try.underlying4 _), (trodAll_cons_mk (Below.trod laidOut (by kernel_rfl) (of_decide_eq_true (by kernel_rfl)) k0 bel lt0) trodAll_mk0), rfl, bel.frame _, fun h => by cases h⟩
theorem over : Rows.fnExactCanonicalShadesRow.holds Try.pinned (OpenSpec.ofChange Rows.fnExactCanonicalShadesSpec) :=
  OpenClaim.holds_of_wide 3 Try.f3 rfl rfl rfl rfl rfl rfl rfl ⟨rfl, rfl, rfl, rfl, rfl⟩ rfl rfl rfl rfl rfl (by kernel_rfl) Try.func3 (by kernel_rfl)
    (of_decide_eq_true (by kernel_rfl)) (by unfold Func.isWrapper; first | (rw [if_pos (by decide +kernel)]; kernel_rfl) | (rw [if_neg (by decide +kernel)]; exact ⟨rfl, rfl⟩))
    (fun os started H enc _ => lifted os started H enc)
theorem proved : Rows.FnExactCanonicalShadesSaid := over
#print axioms proved

end Go.Proofs.Ytkbnmlfoegpflaa.fnExactCanonicalShades
