/- Proved here: for every input the statement FnExactIsLieWords returns true, and its arguments read as before. No conditions. -/
import Derived.Test.YtodlfmagkjblgaaWordsL
import Derived.Test.YtodlfmagkjblgaaLieT
import Derived.Test.YtodlfmagkjblgaaFrames
namespace Go.Proofs.Ytodlfmagkjblgaa.fnExactIsLieWords
open Go.ChangeShapes Go.WideShapes Go.ChangeAt Go.RowKit
set_option linter.unusedSimpArgs false
set_option linter.unusedVariables false
set_option maxRecDepth 20000

set_option maxRecDepth 100000 in
set_option maxHeartbeats 4000000 in
theorem walk (y0 : Int) (A0 : Option Addr) (n0 c0 : Nat) (xs0 : List Int) (w : World) (h0 : Ints w 0 w.heap.size A0 n0 c0 xs0) (r0 : R64 y0) :
    Calls Try.prog 5 #[.agg #[.int .i64 y0, .slice A0 n0 c0]] w fun e w' => e = .returned (.bool true) ∧ Below w.heap.size w w' := by
  have B0 := Below.refl w.heap.size w
  have hcp0 := h0.cap
  have hmx0 := h0.max
  by_cases hbig0 : (1048576 : Int) < n0
  · have hF0 : szF n0 1048576 = -1 := if_pos (by omega)
    go_enter Try.func5, Try.ntmps5
    go_wp2_with fail
    have a11 := below_alloc w (.cells #[(.int .i64 y0), (.slice A0 n0 c0)] 36)
    have k12 := Cell2.new w (.int .i64 y0) (.slice A0 n0 c0) 36
    have b13 := a11
    have zb := b13.size
    generalize (World.alloc w (.cells #[(.int .i64 y0), (.slice A0 n0 c0)] 36)) = w14 at b13 k12 zb ⊢
    have o15 := h0.below b13 (by omega)
    have B16 : Below w.heap.size w w14 := B0.trans (b13.mono B0.size)
    have s17 := b13.size
    have q18 := k12.lt
    have p19 := k12.c0
    have p20 := k12.c1
    go_wp2_with fail
    clear p19 p20
    refine (laws_szWords y0 A0 n0 c0 1048576 w14 (by omega) (by omega) (by omega)).mono ?_
    rintro e w21 ⟨rfl, b21⟩
    rw [hF0]
    have o22 := o15.below b21 (by omega)
    have k23 := k12.below b21
    clear k12
    have q24 := k23.lt
    have B25 : Below w.heap.size w w21 := B16.trans (b21.mono B16.size)
    have s26 := b21.size
    go_wp2_with fail
    go_ret
    exact ⟨rfl, B25⟩
  · have hok : True := trivial
    have hs0 : n0 ≤ 1048576 := by omega
    have hF0 : szF n0 1048576 = 1048576 - n0 := if_neg (by omega)
    go_enter Try.func5, Try.ntmps5
    go_wp2_with fail
    have a27 := below_alloc w (.cells #[(.int .i64 y0), (.slice A0 n0 c0)] 36)
    have k28 := Cell2.new w (.int .i64 y0) (.slice A0 n0 c0) 36
    have b29 := a27
    have zb := b29.size
    generalize (World.alloc w (.cells #[(.int .i64 y0), (.slice A0 n0 c0)] 36)) = w30 at b29 k28 zb ⊢
    have o31 := h0.below b29 (by omega)
    have B32 : Below w.heap.size w w30 := B0.trans (b29.mono B0.size)
    have s33 := b29.size
    have q34 := k28.lt
    have p35 := k28.c0
    have p36 := k28.c1
    go_wp2_with fail
    clear p35 p36
    refine (laws_szWords y0 A0 n0 c0 1048576 w30 (by omega) (by omega) (by omega)).mono ?_
    rintro e w37 ⟨rfl, b37⟩
    rw [hF0]
    have o38 := o31.below b37 (by omega)
    have k39 := k28.below b37
    clear k28
    have q40 := k39.lt
    have B41 : Below w.heap.size w w37 := B32.trans (b37.mono B32.size)
    have s42 := b37.size
    clear hF0
    have p43 := k39.c0
    have p44 := k39.c1
    go_wp2_with fail
    clear p43 p44
    refine (laws_toWords y0 A0 n0 c0 xs0 0 w.heap.size w37 o38 (by omega) (by omega)).mono ?_
    rintro e w45 ⟨A45, c45, rfl, o45, b45⟩
    have o46 := o38.below b45 (by omega)
    have k47 := k39.below b45
    clear k39
    have q48 := k47.lt
    have B49 : Below w.heap.size w w45 := B41.trans (b45.mono B41.size)
    have s50 := b45.size
    go_wp2_with fail
    refine (spec_IsLieWords y0 A45 n0 c45 xs0 w37.heap.size w45.heap.size w45 o45.ints (by omega)).mono ?_
    rintro e w51 ⟨rfl, b51⟩
    have o52 := o46.below b51 (by omega)
    have o53 := o45.below b51 (by omega)
    clear o45
    have k54 := k47.below b51
    clear k47
    have q55 := k54.lt
    have B56 : Below w.heap.size w w51 := B49.trans (b51.mono B49.size)
    have s57 := b51.size
    clear o53
    have p58 := k54.c0
    have p59 := k54.c1
    go_wp2_with fail
    clear p58 p59
    refine (laws_toWords y0 A0 n0 c0 xs0 0 w.heap.size w51 o52 (by omega) (by omega)).mono ?_
    rintro e w60 ⟨A60, c60, rfl, o60, b60⟩
    have o61 := o52.below b60 (by omega)
    have k62 := k54.below b60
    clear k54
    have q63 := k62.lt
    have B64 : Below w.heap.size w w60 := B56.trans (b60.mono B56.size)
    have s65 := b60.size
    have p67 := k62.c0
    have p68 := k62.c1
    go_wp2_with fail
    clear p67 p68
    have a66 := below_alloc w60 (.cells #[(.int .i64 y0), (.slice A60 n0 c60)] 38)
    have k66 := Cell2.new w60 (.int .i64 y0) (.slice A60 n0 c60) 38
    generalize World.alloc w60 (.cells #[(.int .i64 y0), (.slice A60 n0 c60)] 38) = w66 at a66 k66 ⊢
    have o69 := o61.below a66 (by omega)
    have o70 := o60.below a66 (by omega)
    clear o60
    have k71 := k62.below a66
    clear k62
    have q72 := k71.lt
    have B73 : Below w.heap.size w w66 := B64.trans (a66.mono B64.size)
    have s74 := a66.size
    have q75 := k66.lt
    have p76 := k66.c0
    have p77 := k66.c1
    go_wp2_with fail
    refine (impl_IsLieWords y0 A60 n0 c60 xs0 w51.heap.size w60.heap.size w66 o70.ints (by omega)).mono ?_
    rintro e w78 ⟨rfl, b78⟩
    have o79 := o69.below b78 (by omega)
    have o80 := o70.below b78 (by omega)
    clear o70
    have k81 := k71.below b78
    clear k71
    have q82 := k81.lt
    have k83 := k66.below b78
    clear k66
    have q84 := k83.lt
    have B85 : Below w.heap.size w w78 := B73.trans (b78.mono B73.size)
    have s86 := b78.size
    clear p76 p77
    have p87 := k81.c0
    have p88 := k81.c1
    have p89 := k83.c0
    have p90 := k83.c1
    go_wp2_with fail
    have d91 : Below w78.heap.size w78 w78.drew := (Below.refl _ _).drew
    have la91 := k81.below d91
    have lx91 := k83.below d91
    have ha91 := o79.below d91 (by omega)
    have hx91 := o80.below d91 (by omega)
    have zd91 := d91.size
    go_region_held3 (fun w' => w'.cell? ⟨w.heap.size, 0, none⟩ = some (.int .i64 y0) ∧ w'.cell? ⟨w.heap.size, 1, none⟩ = some (.slice A0 n0 c0) ∧ w'.cell? ⟨w60.heap.size, 0, none⟩ = some (.int .i64 y0) ∧ w'.cell? ⟨w60.heap.size, 1, none⟩ = some (.slice A60 n0 c60)) (first | exact ⟨p87, p88, p89, p90⟩ | exact ⟨P1, P2, P3, P4⟩ | exact ⟨Q1, Q2, Q3, Q4⟩ | go_keep)
      (first
        | (go_at_call 21; refine (laws_toWords y0 A0 n0 c0 xs0 0 w.heap.size w78.drew ha91 (by omega) (by omega)).mono ?_; rintro e u91 ⟨AA91, cc91, rfl, ou91, bu91⟩; have P1 := (la91.below bu91).c0; have P2 := (la91.below bu91).c1; have P3 := (lx91.below bu91).c0; have P4 := (lx91.below bu91).c1)
        | (go_at_call 23; refine (laws_eqWords y0 A60 n0 c60 xs0 w51.heap.size w60.heap.size y0 AA91 n0 cc91 xs0 _ _ u91 (hx91.below bu91 (by omega)).ints ou91.ints (by have := bu91.size; omega) (by omega)).mono ?_; rintro e v91 ⟨rfl, bv91⟩; have Q1 := ((la91.below bu91).below bv91).c0; have Q2 := ((la91.below bu91).below bv91).c1; have Q3 := ((lx91.below bu91).below bv91).c0; have Q4 := ((lx91.below bu91).below bv91).c1))
    have be91 : Below w78.heap.size w78 v91 := d91.trans ((bu91.trans (bv91.mono bu91.size)).mono d91.size)
    clear p87 p88 p89 p90 la91 lx91 ha91 hx91 P1 P2 P3 P4 Q1 Q2 Q3 Q4
    have o92 := o79.below be91 (by omega)
    have o93 := o80.below be91 (by omega)
    clear o80
    have k94 := k81.below be91
    clear k81
    have q95 := k94.lt
    have k96 := k83.below be91
    clear k83
    have q97 := k96.lt
    have B98 : Below w.heap.size w v91 := B85.trans (be91.mono B85.size)
    have s99 := be91.size
    go_wp2_with fail
    go_ret
    exact ⟨rfl, B98⟩
theorem own : ownKnob Try.prog.godebug = none := by kernel_rfl
theorem laidOut : laidOutB Try.prog = true := by kernel_rfl
set_option maxRecDepth 100000 in
theorem lifted (os : Os) (started : os.Started) (H : Type) (enc : TypeId × Value → H) :
    ReturnsInHanded {} Try.checked os 5 .any (Rows.fnExactIsLieWordsSpec.pre6 enc Try.prog Try.f5 Rows.fnExactIsLieWordsRow.domain false) (Rows.fnExactIsLieWordsSpec.post enc Try.prog Try.f5 false true false false) := by
  refine returnsInHanded_of_change (C := Try.checked) own started (by kernel_rfl) Try.func5
    (ChangeSpec.witness6 (enc := enc) (C := Try.checked) false ⟨#[], #[.agg #[.int .i64 0, .slice none 0 0]], []⟩ 8 (by kernel_rfl) (by kernel_rfl) (by kernel_rfl) (by kernel_rfl)) ?_
  intro W base args ds gs before hval0 hW hcnd _
  have hval : ∀ (j : Nat) t v, Try.f5.params[j]? = some t → args[j]? = some v → Value.okWide Try.prog W .any base t v := hval0
  have hW' := hW
  obtain ⟨p, q, hA0, hV, rfl, hfz, hnd⟩ := hW
  have hA : DataW.TrodAll enc Try.prog W 0 (fun _ => true) true Try.f5.params.toList args.toList ds p := hA0
  rw [Try.params5] at hA hval
  obtain ⟨v0, vs0, d0, ds0, p0, q0, hargs, rfl, rfl, h0, t0⟩ := trodAll_cons hA
  obtain ⟨rfl, rfl, rfl⟩ := trodAll_nil t0
  obtain rfl : args = #[v0] := by cases args; simp_all
  obtain ⟨rfl, rfl⟩ := trodVars_none hV
  have k0 := h0
  have lt0 : ∀ x ∈ p0, x.block < W.heap.size := by obtain ⟨m, hm⟩ := k0; exact DataW.trod_lt m _ _ _ hm
  obtain ⟨y0, a0, n0, c0, xs0, rfl, s0, r0⟩ := open_pwords h0 (by obtain ⟨cs, hcs, _⟩ := okWide_struct Try.underlying36 (hval 0 36 v0 rfl rfl); exact ⟨cs, hcs⟩)
  clear hA0 hval0
  refine (walk y0 a0 n0 c0 xs0 W r0 s0).mono fun e W' ⟨he, bel⟩ => ?_
  subst he
  exact ⟨_, rfl, _, _, _, [], _, [], hW', trodAll_mk1 (shut_bool Try.underlying4 _), (trodAll_cons_mk (Below.trod laidOut (by kernel_rfl) (of_decide_eq_true (by kernel_rfl)) k0 bel lt0) trodAll_mk0), rfl, bel.frame _, fun h => by cases h⟩
theorem over : Rows.fnExactIsLieWordsRow.holds Try.pinned (OpenSpec.ofChange Rows.fnExactIsLieWordsSpec) :=
  OpenClaim.holds_of_wide 5 Try.f5 rfl rfl rfl rfl rfl rfl rfl ⟨rfl, rfl, rfl, rfl, rfl⟩ rfl rfl rfl rfl rfl (by kernel_rfl) Try.func5 (by kernel_rfl)
    (of_decide_eq_true (by kernel_rfl)) (by unfold Func.isWrapper; first | (rw [if_pos (by decide +kernel)]; kernel_rfl) | (rw [if_neg (by decide +kernel)]; exact ⟨rfl, rfl⟩))
    (fun os started H enc _ => lifted os started H enc)
theorem proved : Rows.FnExactIsLieWordsSaid := over
#print axioms proved

end Go.Proofs.Ytodlfmagkjblgaa.fnExactIsLieWords
