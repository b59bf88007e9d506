/- Proved here: for all words the statement FnExactWordsOk returns true, and its argument reads as before. No conditions. -/
import Derived.Test.YtcjppomkonbbcaaWordsL
import Derived.Test.YtcjppomkonbbcaaWordsOk
import Derived.Test.YtcjppomkonbbcaaFrames
namespace Go.Proofs.Ytcjppomkonbbcaa.fnExactWordsOk
open Go.ChangeShapes Go.WideShapes Go.ChangeAt Go.RowKit
set_option linter.unusedSimpArgs false
set_option linter.unusedVariables false

set_option maxHeartbeats 1000000 in
theorem walk (y : Int) (A : Option Addr) (n c : Nat) (xs : List Int) (w : World) (h : Ints w 0 w.heap.size A n c xs) (_ : R64 y) :
    Calls Try.prog 9 #[.agg #[.int .i64 y, .slice A n c]] w fun e w' => e = .returned (.bool true) ∧ Below w.heap.size w w' := by
  have hcp := h.cap
  have hm := h.max
  have a0 := below_alloc w (.cells #[.int .i64 y, .slice A n c] 43)
  have k0 := Cell2.new w (.int .i64 y) (.slice A n c) 43
  by_cases hbig : 1048576 < n
  · have hF : szF n 1048576 = -1 := if_pos (by omega)
    go_enter Try.func9, Try.ntmps9
    go_wp2_with fail
    refine (laws_szWords y A n c _ _ (by omega) (by omega) (by omega)).mono ?_
    rintro e w1 ⟨rfl, b1⟩
    rw [hF]
    clear hF
    go_wp2_with fail
    go_ret
    exact ⟨rfl, a0.trans (b1.mono (by simp))⟩
  · have hF : szF n 1048576 = 1048576 - n := if_neg (by omega)
    go_enter Try.func9, Try.ntmps9
    go_wp2_with fail
    generalize World.alloc w (.cells #[.int .i64 y, .slice A n c] 43) = w0 at a0 k0 ⊢
    have h0 := h.below a0 (by omega)
    refine (laws_szWords y A n c _ w0 (by omega) (by omega) (by omega)).mono ?_
    rintro e w1 ⟨rfl, b1⟩
    rw [hF]
    clear hF
    have B1 := a0.trans (b1.mono a0.size)
    have h1 := h0.below b1 a0.size
    have k1 := k0.below b1
    have p1 := k1.c0
    have p2 := k1.c1
    go_wp2_with fail
    refine (laws_toWords y A n c xs 0 w.heap.size w1 h1 B1.size (by omega)).mono ?_
    rintro e w2 ⟨A2, c2, rfl, o2, b2⟩
    have B2 := B1.trans (b2.mono B1.size)
    have h2 := h1.below b2 B1.size
    have k2 := k1.below b2
    clear p1 p2
    go_wp2_with fail
    refine (spec_WordsOk y A2 n c2 xs _ _ w2 o2.ints (by omega)).mono ?_
    rintro e w3 ⟨rfl, b3⟩
    have B3 := B2.trans (b3.mono B2.size)
    have h3 := h2.below b3 B2.size
    have k3 := k2.below b3
    have p1 := k3.c0
    have p2 := k3.c1
    go_wp2_with fail
    refine (laws_toWords y A n c xs 0 w.heap.size w3 h3 B3.size (by omega)).mono ?_
    rintro e w4 ⟨A4, c4, rfl, o4, b4⟩
    have B4 := B3.trans (b4.mono B3.size)
    have h4 := h3.below b4 B3.size
    have k4 := k3.below b4
    clear p1 p2
    go_wp2_with fail
    have a5 := below_alloc w4 (.cells #[.int .i64 y, .slice A4 n c4] 37)
    have j5 := Cell2.new w4 (.int .i64 y) (.slice A4 n c4) 37
    generalize World.alloc w4 (.cells #[.int .i64 y, .slice A4 n c4] 37) = w5 at a5 j5 ⊢
    have B5 := B4.trans (a5.mono B4.size)
    have h5 := h4.below a5 B4.size
    have k5 := k4.below a5
    have o5 := o4.below a5 (by omega)
    refine (impl_WordsOk y A4 n c4 xs _ _ w5 o5.ints (by have := a5.size; omega)).mono ?_
    rintro e w6 ⟨rfl, b6⟩
    have B6 := B5.trans (b6.mono B5.size)
    have h6 := h5.below b6 B5.size
    have k6 := k5.below b6
    have j6 := j5.below b6
    have o6 := o5.below b6 a5.size
    have p1 := k6.c0
    have p2 := k6.c1
    have p3 := j6.c0
    have p4 := j6.c1
    have z1 := a5.size
    have z2 := b6.size
    go_wp2_with fail
    have d6 : Below w6.heap.size w6 w6.drew := (Below.refl _ _).drew
    have h7 := h6.below d6 B6.size
    have k7 := k6.below d6
    have j7 := j6.below d6
    have o7 := o6.below d6 (by omega)
    have B7 := B6.trans (d6.mono B6.size)
    have z3 := d6.size
    go_region_held3 (fun w' => w'.cell? ⟨w.heap.size, 0, none⟩ = some (.int .i64 y) ∧ w'.cell? ⟨w.heap.size, 1, none⟩ = some (.slice A n c) ∧ w'.cell? ⟨w4.heap.size, 0, none⟩ = some (.int .i64 y) ∧ w'.cell? ⟨w4.heap.size, 1, none⟩ = some (.slice A4 n c4)) (first | exact ⟨p1, p2, p3, p4⟩ | exact ⟨P1, P2, P3, P4⟩ | exact ⟨Q1, Q2, Q3, Q4⟩ | go_keep)
      (first
        | (go_at_call 37; refine (laws_toWords y A n c xs 0 w.heap.size w6.drew h7 B7.size (by omega)).mono ?_; rintro e w8 ⟨A8, c8, rfl, o8, b8⟩; have P1 := (k7.below b8).c0; have P2 := (k7.below b8).c1; have P3 := (j7.below b8).c0; have P4 := (j7.below b8).c1)
        | (go_at_call 30; refine (laws_eqWords y A4 n c4 xs _ _ y A8 n c8 xs _ _ w8 (o7.below b8 (by omega)).ints o8.ints (by have := b8.size; omega) (by omega)).mono ?_; rintro e w9 ⟨rfl, b9⟩; have Q1 := ((k7.below b8).below b9).c0; have Q2 := ((k7.below b8).below b9).c1; have Q3 := ((j7.below b8).below b9).c0; have Q4 := ((j7.below b8).below b9).c1))
    go_wp2_with fail
    go_ret
    exact ⟨rfl, B7.trans ((b8.trans (b9.mono b8.size)).mono B7.size)⟩
theorem own : ownKnob Try.prog.godebug = none := by kernel_rfl
theorem laidOut : laidOutB Try.prog = true := by kernel_rfl
set_option maxRecDepth 100000 in
theorem lifted (os : Os) (started : os.Started) (H : Type) (enc : TypeId × Value → H) :
    ReturnsInHanded {} Try.checked os 9 .any (Rows.fnExactWordsOkSpec.pre6 enc Try.prog Try.f9 Rows.fnExactWordsOkRow.domain false) (Rows.fnExactWordsOkSpec.post enc Try.prog Try.f9 false true false false) := by
  refine returnsInHanded_of_change (C := Try.checked) own started (by kernel_rfl) Try.func9
    (ChangeSpec.witness6 (enc := enc) (C := Try.checked) false ⟨#[], #[.agg #[.int .i64 0, .slice none 0 0]], []⟩ 8 (by kernel_rfl) (by kernel_rfl) (by kernel_rfl) (by kernel_rfl)) ?_
  intro W base args ds gs before hval0 hW hcnd _
  have hval : ∀ (j : Nat) t v, Try.f9.params[j]? = some t → args[j]? = some v → Value.okWide Try.prog W .any base t v := hval0
  have hW' := hW
  obtain ⟨p, q, hA0, hV, rfl, hfz, hnd⟩ := hW
  have hA : DataW.TrodAll enc Try.prog W 0 (fun _ => true) true Try.f9.params.toList args.toList ds p := hA0
  rw [Try.params9] at hA hval
  obtain ⟨v0, vs0, d0, ds0, p0, q0, hargs, rfl, rfl, h0, t0⟩ := trodAll_cons hA
  obtain ⟨rfl, rfl, rfl⟩ := trodAll_nil t0
  obtain rfl : args = #[v0] := by cases args; simp_all
  obtain ⟨rfl, rfl⟩ := trodVars_none hV
  have k0 := h0
  have lt0 : ∀ x ∈ p0, x.block < W.heap.size := by obtain ⟨m, hm⟩ := k0; exact DataW.trod_lt m _ _ _ hm
  obtain ⟨y0, a0, n0, c0, xs0, rfl, s0, r0⟩ := open_pwords h0 (by obtain ⟨cs, hcs, _⟩ := okWide_struct Try.underlying43 (hval 0 43 v0 rfl rfl); exact ⟨cs, hcs⟩)
  clear hA0 hval0
  refine (walk y0 a0 n0 c0 xs0 W r0 s0).mono fun e W' ⟨he, bel⟩ => ?_
  subst he
  exact ⟨_, rfl, _, _, _, [], _, [], hW', trodAll_mk1 (shut_bool Try.underlying4 _), (trodAll_cons_mk (Below.trod laidOut (by kernel_rfl) (of_decide_eq_true (by kernel_rfl)) k0 bel lt0) trodAll_mk0), rfl, bel.frame _, fun h => by cases h⟩
theorem over : Rows.fnExactWordsOkRow.holds Try.pinned (OpenSpec.ofChange Rows.fnExactWordsOkSpec) :=
  OpenClaim.holds_of_wide 9 Try.f9 rfl rfl rfl rfl rfl rfl rfl ⟨rfl, rfl, rfl, rfl, rfl⟩ rfl rfl rfl rfl rfl (by kernel_rfl) Try.func9 (by kernel_rfl)
    (of_decide_eq_true (by kernel_rfl)) (by unfold Func.isWrapper; first | (rw [if_pos (by decide +kernel)]; kernel_rfl) | (rw [if_neg (by decide +kernel)]; exact ⟨rfl, rfl⟩))
    (fun os started H enc _ => lifted os started H enc)
theorem proved : Rows.FnExactWordsOkSaid := over
#print axioms proved

end Go.Proofs.Ytcjppomkonbbcaa.fnExactWordsOk
