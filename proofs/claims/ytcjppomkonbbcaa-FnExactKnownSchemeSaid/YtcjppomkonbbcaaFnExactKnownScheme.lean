/- Proved here: for every input the statement FnExactKnownScheme returns true, and its arguments read as before. No conditions. -/
import Derived.Test.YtcjppomkonbbcaaKnownS
import Derived.Test.YtcjppomkonbbcaaFrames
namespace Go.Proofs.Ytcjppomkonbbcaa.fnExactKnownScheme
open Go.ChangeShapes Go.WideShapes Go.ChangeAt Go.RowKit
set_option linter.unusedSimpArgs false
set_option linter.unusedVariables false
set_option maxRecDepth 20000

theorem known_len (nm : ByteArray) : (knownF nm).1.length ≤ 9 := by
  unfold knownF
  split
  · simp
  · split
    · simp [strangL]
    · split
      · simp [jumpL, ksL, timesM, strangL]
      · simp

set_option maxRecDepth 100000 in
set_option maxHeartbeats 2000000 in
theorem walk (nm : ByteArray) (w : World) (hz : nm.size ≤ maxLen) :
    Calls Try.prog 12 #[.string nm] w fun e w' => e = .returned (.bool true) ∧ Below w.heap.size w w' := by
  have hz2 : nm.size ≤ 9223372036854775807 := by unfold maxLen at hz; omega
  by_cases hbig : (1048576 : Int) < (nm.size : Int)
  · go_enter Try.func12, Try.ntmps12
    go_wp2_with fail
    go_ret
    exact ⟨rfl, Below.refl _ _⟩
  · have hl := known_len nm
    go_enter Try.func12, Try.ntmps12
    go_wp2_with fail
    refine (spec_KnownScheme nm w).mono ?_
    rintro e w1 ⟨A1, n1, c1, rfl, o1, b1⟩
    have z1 := b1.size
    go_wp2_with fail
    refine (impl_KnownScheme nm w1).mono ?_
    rintro e w2 ⟨A2, n2, c2, rfl, o2, b2⟩
    have z2 := b2.size
    have B2 := b1.trans (b2.mono z1)
    have p1 := o1.below b2 (Nat.le_refl _)
    have hn2 : n2 ≤ 9 := by rw [← o2.len]; exact hl
    clear o1 b1 b2
    go_wp2_with fail
    refine (laws_eqMoveS A2 n2 c2 _ _ _ A1 n1 c1 _ _ _ w2 o2.moves p1.moves (Nat.le_refl _) (by omega)).mono ?_
    rintro e w3 ⟨rfl, b3⟩
    rw [decide_eq_true rfl]
    have z3 := b3.size
    have B3 := B2.trans (b3.mono B2.size)
    have q1 := p1.below b3 (by omega)
    have q2 := o2.below b3 (Nat.le_refl _)
    clear p1 o2 b3 B2
    generalize hflag : (knownF nm).2 = fl
    cases fl
    all_goals
      go_wp2_with fail
      refine (laws_markMoveS A2 n2 c2 _ w1.heap.size w2.heap.size 1 w3 q2 (by omega) (by omega)).mono ?_
      rintro e w4 ⟨rfl, q4, t4, e4⟩
      have r1 := q1.same (t4.same (.inl (by omega)) (by omega))
      have B4 := B3.trans (t4.below (B := w.heap.size) (by omega) B3.size)
      go_wp2_with fail
      refine (laws_heldMoveS A2 n2 c2 w1.heap.size w2.heap.size 1 w4 q4.moves (by omega) (by omega)).mono ?_
      rintro e w5 ⟨rfl, rfl⟩
      go_wp2_with fail
      refine (impl_KnownScheme nm w4).mono ?_
      rintro e w6 ⟨A3, n3, c3, rfl, o3, b6⟩
      rw [hflag]
      have z6 := b6.size
      have z4 := B4.size
      have s1 := r1.below b6 (by omega)
      have s4 := q4.below b6 (by omega)
      have B6 := B4.trans (b6.mono z4)
      go_wp2_with fail
      refine (laws_eqMoveS A3 n3 c3 _ _ _ A1 n1 c1 _ _ _ w6 o3.moves s1.moves (Nat.le_refl _) (by omega)).mono ?_
      rintro e w7 ⟨rfl, b7⟩
      rw [decide_eq_true rfl]
      have z7 := b7.size
      have u4 := s4.below b7 (by omega)
      have B7 := B6.trans (b7.mono B6.size)
      go_wp2_with fail
      refine (laws_heldMoveS A2 n2 c2 w1.heap.size w2.heap.size 1 w7 u4.moves (by omega) (by omega)).mono ?_
      rintro e w8 ⟨rfl, rfl⟩
      go_wp2_with fail
      go_ret
      exact ⟨rfl, B7⟩

theorem own : ownKnob Try.prog.godebug = none := by kernel_rfl
theorem laidOut : laidOutB Try.prog = true := by kernel_rfl
set_option maxRecDepth 100000 in
theorem lifted (os : Os) (started : os.Started) (H : Type) (enc : TypeId × Value → H) :
    ReturnsInHanded {} Try.checked os 12 .any (Rows.fnExactKnownSchemeSpec.pre6 enc Try.prog Try.f12 Rows.fnExactKnownSchemeRow.domain false) (Rows.fnExactKnownSchemeSpec.post enc Try.prog Try.f12 false true false false) := by
  refine returnsInHanded_of_change (C := Try.checked) own started (by kernel_rfl) Try.func12
    (ChangeSpec.witness6 (enc := enc) (C := Try.checked) false ⟨#[], #[.string ⟨#[]⟩], []⟩ 8 (by kernel_rfl) (by kernel_rfl) (by kernel_rfl) (by kernel_rfl)) ?_
  intro W base args ds gs before hval0 hW hcnd _
  have hval : ∀ (j : Nat) t v, Try.f12.params[j]? = some t → args[j]? = some v → Value.okWide Try.prog W .any base t v := hval0
  have hW' := hW
  obtain ⟨p, q, hA0, hV, rfl, hfz, hnd⟩ := hW
  have hA : DataW.TrodAll enc Try.prog W 0 (fun _ => true) true Try.f12.params.toList args.toList ds p := hA0
  rw [Try.params12] at hA hval
  obtain ⟨v0, vs0, d0, ds0, p0, q0, hargs, rfl, rfl, h0, t0⟩ := trodAll_cons hA
  obtain ⟨rfl, rfl, rfl⟩ := trodAll_nil t0
  obtain rfl : args = #[v0] := by cases args; simp_all
  obtain ⟨rfl, rfl⟩ := trodVars_none hV
  have k0 := h0
  have lt0 : ∀ x ∈ p0, x.block < W.heap.size := by obtain ⟨m, hm⟩ := k0; exact DataW.trod_lt m _ _ _ hm
  obtain ⟨s_0, rfl, z_0⟩ := open_pstr h0 (hval 0 9 v0 rfl rfl)
  clear hA0 hval0
  refine (walk s_0 W z_0).mono fun e W' ⟨he, bel⟩ => ?_
  subst he
  exact ⟨_, rfl, _, _, _, [], _, [], hW', trodAll_mk1 (shut_bool Try.underlying4 _), (trodAll_cons_mk (Below.trod laidOut (by kernel_rfl) (of_decide_eq_true (by kernel_rfl)) k0 bel lt0) trodAll_mk0), rfl, bel.frame _, fun h => by cases h⟩
theorem over : Rows.fnExactKnownSchemeRow.holds Try.pinned (OpenSpec.ofChange Rows.fnExactKnownSchemeSpec) :=
  OpenClaim.holds_of_wide 12 Try.f12 rfl rfl rfl rfl rfl rfl rfl ⟨rfl, rfl, rfl, rfl, rfl⟩ rfl rfl rfl rfl rfl (by kernel_rfl) Try.func12 (by kernel_rfl)
    (of_decide_eq_true (by kernel_rfl)) (by unfold Func.isWrapper; first | (rw [if_pos (by decide +kernel)]; kernel_rfl) | (rw [if_neg (by decide +kernel)]; exact ⟨rfl, rfl⟩))
    (fun os started H enc _ => lifted os started H enc)
theorem proved : Rows.FnExactKnownSchemeSaid := over
#print axioms proved

end Go.Proofs.Ytcjppomkonbbcaa.fnExactKnownScheme
