/- Proved here: for every input the statement FnExactParseScheme returns true, and its arguments read as before. No conditions. -/
import Derived.Test.YtppekbokaknocaaDoorParM2
import Derived.Test.YtppekbokaknocaaDoorCardF
namespace Go.Proofs.YtppekbokaknocaaDoor.fnExactParseScheme
open Go.ChangeShapes Go.WideShapes Go.ChangeAt Go.RowKit
set_option linter.unusedSimpArgs false
set_option linter.unusedVariables false
set_option maxRecDepth 20000

theorem known_len (nm : ByteArray) : (parSchF nm).1.length ≤ 12 := by
  have h := parSch_ok nm
  unfold schemeOkF at h
  simp only [Bool.and_eq_true, decide_eq_true_eq] at h
  exact h.1

set_option maxRecDepth 100000 in
set_option maxHeartbeats 2000000 in
theorem walk (nm : ByteArray) (mx : Int) (w : World) (hz : nm.size ≤ maxLen) (hm : w.cell? ⟨0, 0, none⟩ = some (.int .i64 mx)) :
    Calls Tryd.prog 3 #[.string nm] w fun e w' => e = .returned (.bool true) ∧ Below w.heap.size w w' := by
  have hz2 : nm.size ≤ 9223372036854775807 := by unfold maxLen at hz; omega
  by_cases hbig : (1048576 : Int) < (nm.size : Int)
  · go_enter Tryd.func3, Tryd.ntmps3
    go_wp2_with fail
    go_ret
    exact ⟨rfl, Below.refl _ _⟩
  · have hl := known_len nm
    have hz3 : nm.size ≤ 1048576 := by omega
    have hm0 := World.block_lt_of_cell? w _ hm
    have HM : Hid (∀ v : World, Below w.heap.size w v → v.cell? ⟨0, 0, none⟩ = some (.int .i64 mx)) := fun v hv => (hv.cell hm0).trans hm
    clear hm
    go_enter Tryd.func3, Tryd.ntmps3
    go_wp2_with fail
    refine (spec_ParseScheme nm w hz3).mono ?_
    rintro e w1 ⟨A1, n1, c1, rfl, o1, b1⟩
    have z1 := b1.size
    go_wp2_with fail
    refine (impl_ParseScheme nm mx w1 hz3 (HM.out w1 b1)).mono ?_
    rintro e w2 ⟨A2, n2, c2, rfl, o2, b2⟩
    have z2 := b2.size
    have B2 := b1.trans (b2.mono z1)
    have p1 := o1.below b2 (Nat.le_refl _)
    have hn2 : n2 ≤ 12 := by rw [← o2.len]; exact hl
    clear o1 b1 b2
    go_wp2_with fail
    refine (laws_eqMoveS A2 n2 c2 _ _ _ A1 n1 c1 _ _ _ w2 o2.moves p1.moves (Nat.le_refl _) (by omega)).mono ?_
    rintro e w3 ⟨rfl, b3⟩
    rw [decide_eq_true rfl]
    have z3 := b3.size
    have B3 := B2.trans (b3.mono B2.size)
    have q1 := p1.below b3 (by omega)
    have q2 := o2.below b3 (Nat.le_refl _)
    clear p1 o2 b3 B2
    generalize hflag : (parSchF nm).2 = fl
    cases fl
    all_goals
      go_wp2_with fail
      refine (laws_markMoveS A2 n2 c2 _ w1.heap.size w2.heap.size 1 w3 q2 (by omega) (by omega)).mono ?_
      rintro e w4 ⟨rfl, q4, t4, e4⟩
      have r1 := q1.same (t4.same (.inl (by omega)) (by omega))
      have B4 := B3.trans (t4.below (B := w.heap.size) (by omega) B3.size)
      go_wp2_with fail
      refine (laws_heldMoveS A2 n2 c2 w1.heap.size w2.heap.size 1 w4 q4.moves (by omega) (by omega)).mono ?_
      rintro e w5 ⟨rfl, rfl⟩
      go_wp2_with fail
      refine (impl_ParseScheme nm mx w4 hz3 (HM.out w4 B4)).mono ?_
      rintro e w6 ⟨A3, n3, c3, rfl, o3, b6⟩
      rw [hflag]
      have z6 := b6.size
      have z4 := B4.size
      have s1 := r1.below b6 (by omega)
      have s4 := q4.below b6 (by omega)
      have B6 := B4.trans (b6.mono z4)
      go_wp2_with fail
      refine (laws_eqMoveS A3 n3 c3 _ _ _ A1 n1 c1 _ _ _ w6 o3.moves s1.moves (Nat.le_refl _) (by omega)).mono ?_
      rintro e w7 ⟨rfl, b7⟩
      rw [decide_eq_true rfl]
      have z7 := b7.size
      have u4 := s4.below b7 (by omega)
      have B7 := B6.trans (b7.mono B6.size)
      go_wp2_with fail
      refine (laws_heldMoveS A2 n2 c2 w1.heap.size w2.heap.size 1 w7 u4.moves (by omega) (by omega)).mono ?_
      rintro e w8 ⟨rfl, rfl⟩
      go_wp2_with fail
      go_ret
      exact ⟨rfl, B7⟩

theorem own : ownKnob Tryd.prog.godebug = none := by kernel_rfl
theorem laidOut : laidOutB Tryd.prog = true := by kernel_rfl
set_option maxRecDepth 100000 in
theorem lifted (os : Os) (started : os.Started) (H : Type) (enc : TypeId × Value → H) :
    ReturnsInHanded {} Tryd.checked os 3 .any (fun w args => (Rows.fnExactParseSchemeSpec.pre enc Tryd.prog Tryd.f3 [] false w args ∧ laidMetH Tryd.prog [("unicode/utf8.acceptRanges", Rows.laid_unicode_utf8_acceptRanges), ("unicode/utf8.first", Rows.laid_unicode_utf8_first)] w) ∧ sizedMet enc Tryd.prog Tryd.f3 (OpenSpec.ofChange Rows.fnExactParseSchemeSpec) false w args) (Rows.fnExactParseSchemeSpec.post enc Tryd.prog Tryd.f3 false true false false) := by
  refine returnsInHanded_of_calls own started (by kernel_rfl)
    (ChangeSpec.witness_shaped (enc := enc) (C := Tryd.checked) (os := os) (fn := Tryd.f3) (X := fun w _ => laidMetH Tryd.prog [("unicode/utf8.acceptRanges", Rows.laid_unicode_utf8_acceptRanges), ("unicode/utf8.first", Rows.laid_unicode_utf8_first)] w) false (laidWorld os) #[.string ⟨#[]⟩] 8 rfl (World.shaped_of_RefB (by kernel_rfl) (by kernel_rfl)) (by kernel_rfl) (by kernel_rfl) (by kernel_rfl) (laidWorld_met os _)) ?_
  intro w0 tape inp _ hsh _ hok hpre _
  obtain ⟨_, _, _, fn', hfn', _, _, _, _, hval0⟩ := hok
  obtain rfl : fn' = Tryd.f3 := Option.some.inj (hfn'.symm.trans Tryd.func3)
  obtain ⟨⟨⟨ds, gs, before, hW0, _⟩, _⟩, _⟩ := hpre
  have hW := DataW.Whole.of_heap (w' := w0.forCall tape inp) (by rfl) hW0
  obtain ⟨mx, hmx⟩ := max_cell hsh
  generalize w0.forCall tape inp = W at hW hval0 hmx ⊢
  generalize inp.args = args at hW hval0 ⊢
  refine (show Calls Tryd.prog 3 args W (fun e W' => ∃ v, e = .returned v ∧ Rows.fnExactParseSchemeSpec.post enc Tryd.prog Tryd.f3 false true false false W args v W') from ?_).mono fun e W' ⟨v, he, hp⟩ => by subst he; exact ChangeSpec.post_blind hp
  have hval : ∀ (j : Nat) t v, Tryd.f3.params[j]? = some t → args[j]? = some v → Value.okWide Tryd.prog W .any _ t v := hval0
  clear hW0
  have hW' := hW
  obtain ⟨p, q, hA0, hV, rfl, hfz, hnd⟩ := hW
  have hA : DataW.TrodAll enc Tryd.prog W 0 (fun _ => true) true Tryd.f3.params.toList args.toList ds p := hA0
  rw [Tryd.params3] at hA hval
  obtain ⟨v0, vs0, d0, ds0, p0, q0, hargs, rfl, rfl, h0, t0⟩ := trodAll_cons hA
  obtain ⟨rfl, rfl, rfl⟩ := trodAll_nil t0
  obtain rfl : args = #[v0] := by cases args; simp_all
  obtain ⟨rfl, rfl⟩ := trodVars_none hV
  have k0 := h0
  have lt0 : ∀ x ∈ p0, x.block < W.heap.size := by obtain ⟨m, hm⟩ := k0; exact DataW.trod_lt m _ _ _ hm
  obtain ⟨s_0, rfl, z_0⟩ := open_pstr h0 (hval 0 9 v0 rfl rfl)
  clear hA0 hval0
  refine (walk s_0 mx W z_0 hmx).mono fun e W' ⟨he, bel⟩ => ?_
  subst he
  exact ⟨_, rfl, _, _, _, [], _, [], hW', trodAll_mk1 (shut_bool Tryd.underlying4 _), (trodAll_cons_mk (Below.trod laidOut (by kernel_rfl) (of_decide_eq_true (by kernel_rfl)) k0 bel lt0) trodAll_mk0), rfl, bel.frame _, fun h => by cases h⟩
theorem over : Rows.fnExactParseSchemeRow.holds Tryd.pinned (OpenSpec.ofChange Rows.fnExactParseSchemeSpec) :=
  OpenClaim.holds_of_wide 3 Tryd.f3 rfl rfl rfl rfl rfl rfl rfl ⟨rfl, rfl, rfl, rfl, rfl⟩ rfl rfl rfl rfl rfl (by kernel_rfl) Tryd.func3 (by kernel_rfl)
    (of_decide_eq_true (by kernel_rfl)) (by unfold Func.isWrapper; first | (rw [if_pos (by decide +kernel)]; kernel_rfl) | (rw [if_neg (by decide +kernel)]; exact ⟨rfl, rfl⟩))
    (fun os started H enc _ => lifted os started H enc)
theorem proved : Rows.FnExactParseSchemeCardSaid :=
  Claim7.holds_tied_plain_at .later [] [.data, .pinned] true (true, "73a24c3f95b5679b91fab7cb08920b5c64418f95723d55d11a433ea54c464d59") false
    over (fun _ h => by cases h) (by kernel_rfl) (fun _ h => by cases h) fnExactParseScheme_row_tie rfl ⟨rfl, rfl⟩ (by kernel_rfl) rfl
    (fun f fn hf hfn => by
      obtain rfl : f = 3 := Option.some.inj ((show Tryd.prog.funcNamed Rows.fnExactParseSchemeRow.func = some 3 by kernel_rfl).symm.trans hf) |>.symm
      obtain rfl : fn = Tryd.f3 := (Option.some.inj (Tryd.func3.symm.trans hfn)).symm
      exact ⟨by kernel_rfl, fun j t ht => by
        have hm : t ∈ Tryd.f3.params.toList := by simpa using Array.mem_of_getElem? ht
        have hall : (Tryd.f3.params.toList.all fun u => !Tryd.prog.wantsStandIn u) = true := by kernel_rfl
        exact (show Tryd.prog.wantsStandIn t = false by simpa using List.all_eq_true.1 hall t hm)⟩)
    (by kernel_rfl)
#print axioms proved

end Go.Proofs.YtppekbokaknocaaDoor.fnExactParseScheme
