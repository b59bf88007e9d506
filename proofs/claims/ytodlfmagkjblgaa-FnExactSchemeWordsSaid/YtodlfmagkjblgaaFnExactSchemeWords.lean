/- Proved here: for every input the statement FnExactSchemeWords returns true, and its arguments read as before. No conditions. -/
import Derived.Test.YtodlfmagkjblgaaWordsL
import Derived.Test.YtodlfmagkjblgaaSch
import Derived.Test.YtodlfmagkjblgaaFrames
namespace Go.Proofs.Ytodlfmagkjblgaa.fnExactSchemeWords
open Go.ChangeShapes Go.WideShapes Go.ChangeAt Go.RowKit
set_option linter.unusedSimpArgs false
set_option linter.unusedVariables false
set_option maxRecDepth 20000

theorem sch_len (o : Int) (ms : List (Int × Int)) : (schF o ms).1.2.length ≤ 63 := schF_len o ms

set_option maxRecDepth 100000 in
set_option maxHeartbeats 4000000 in
theorem walk (y0 : Int) (A1 : Option Addr) (n1 c1 : Nat) (xs1 : List (Int × Int)) (w : World) (h0 : R64 y0) (h1 : Moves w 0 w.heap.size A1 n1 c1 xs1) :
    Calls Try.prog 13 #[.int .i64 y0, .slice A1 n1 c1] w fun e w' => e = .returned (.bool true) ∧ Below w.heap.size w w' := by
  have B0 := Below.refl w.heap.size w
  have hcp1 := h1.cap
  have hmx1 := h1.max
  by_cases hbig0 : (1048576 : Int) < n1
  · have hF0 : szF n1 1048576 = -1 := if_pos (by omega)
    go_enter Try.func13, Try.ntmps13
    go_wp2_with fail
    refine (laws_szMoveS A1 n1 c1 1048576 w (by omega) (by omega) (by omega)).mono ?_
    rintro e w' ⟨rfl, rfl⟩
    rw [hF0]
    go_wp2_with fail
    go_ret
    exact ⟨rfl, B0⟩
  · have hok : True := trivial
    have hs0 : n1 ≤ 1048576 := by omega
    have hF0 : szF n1 1048576 = 1048576 - n1 := if_neg (by omega)
    go_enter Try.func13, Try.ntmps13
    go_wp2_with fail
    refine (laws_szMoveS A1 n1 c1 1048576 w (by omega) (by omega) (by omega)).mono ?_
    rintro e w' ⟨rfl, rfl⟩
    rw [hF0]
    clear hF0
    go_wp2_with fail
    refine (laws_toMoveS A1 n1 c1 (xs1) 0 w.heap.size w h1 (by omega) (by omega)).mono ?_
    rintro e w11 ⟨A11, c11, rfl, o11, b11⟩
    have o12 := h1.below b11 (by omega)
    have B13 : Below w.heap.size w w11 := B0.trans (b11.mono B0.size)
    have s14 := b11.size
    go_wp2_with fail
    refine (spec_SchemeWords y0 A11 n1 c11 (xs1) w.heap.size w11.heap.size w11 o11.moves (by omega)).mono ?_
    rintro e w15 ⟨A15, n15, c15, rfl, o15, b15⟩
    have o16 := o12.below b15 (by omega)
    have o17 := o11.below b15 (by omega)
    clear o11
    have B18 : Below w.heap.size w w15 := B13.trans (b15.mono B13.size)
    have s19 := b15.size
    clear o17
    go_wp2_with fail
    have a20 := below_alloc w15 (.cells #[(.int .i64 ((schF y0 xs1).1).1), (.slice A15 n15 c15)] 38)
    have k20 := Cell2.new w15 (.int .i64 ((schF y0 xs1).1).1) (.slice A15 n15 c15) 38
    generalize World.alloc w15 (.cells #[(.int .i64 ((schF y0 xs1).1).1), (.slice A15 n15 c15)] 38) = w20 at a20 k20 ⊢
    have o21 := o16.below a20 (by omega)
    have o22 := o15.below a20 (by omega)
    clear o15
    have B23 : Below w.heap.size w w20 := B18.trans (a20.mono B18.size)
    have s24 := a20.size
    have q25 := k20.lt
    go_wp2_with fail
    refine (laws_toMoveS A1 n1 c1 (xs1) 0 w.heap.size w20 o21 (by omega) (by omega)).mono ?_
    rintro e w26 ⟨A26, c26, rfl, o26, b26⟩
    have o27 := o21.below b26 (by omega)
    have o28 := o22.below b26 (by omega)
    clear o22
    have k29 := k20.below b26
    clear k20
    have q30 := k29.lt
    have B31 : Below w.heap.size w w26 := B23.trans (b26.mono B23.size)
    have s32 := b26.size
    go_wp2_with fail
    refine (impl_SchemeWords y0 A26 n1 c26 (xs1) w20.heap.size w26.heap.size w26 o26.moves (by omega)).mono ?_
    rintro e w33 ⟨A33, n33, c33, rfl, o33, b33⟩
    have o34 := o27.below b33 (by omega)
    have o35 := o28.below b33 (by omega)
    clear o28
    have o36 := o26.below b33 (by omega)
    clear o26
    have k37 := k29.below b33
    clear k29
    have q38 := k37.lt
    have B39 : Below w.heap.size w w33 := B31.trans (b33.mono B31.size)
    have s40 := b33.size
    have hln : n33 ≤ 1048576 := by have hl1 := o33.len; have hl2 := sch_len y0 xs1; omega
    have p42 := k37.c0
    have p43 := k37.c1
    go_wp2_with fail
    clear p42 p43
    have a41 := below_alloc w33 (.cells #[(.int .i64 ((schF y0 xs1).1).1), (.slice A33 n33 c33)] 38)
    have k41 := Cell2.new w33 (.int .i64 ((schF y0 xs1).1).1) (.slice A33 n33 c33) 38
    generalize World.alloc w33 (.cells #[(.int .i64 ((schF y0 xs1).1).1), (.slice A33 n33 c33)] 38) = w41 at a41 k41 ⊢
    have o44 := o34.below a41 (by omega)
    have o45 := o35.below a41 (by omega)
    clear o35
    have o46 := o36.below a41 (by omega)
    clear o36
    have o47 := o33.below a41 (by omega)
    clear o33
    have k48 := k37.below a41
    clear k37
    have q49 := k48.lt
    have B50 : Below w.heap.size w w41 := B39.trans (a41.mono B39.size)
    have s51 := a41.size
    have q52 := k41.lt
    have p53 := k41.c0
    have p54 := k41.c1
    have p55 := k48.c0
    have p56 := k48.c1
    go_wp2_with fail
    clear p53 p54 p55 p56
    refine (laws_eqWords ((schF y0 xs1).1).1 A33 n33 c33 ((schF y0 xs1).1).2 w26.heap.size w33.heap.size ((schF y0 xs1).1).1 A15 n15 c15 ((schF y0 xs1).1).2 w11.heap.size w15.heap.size w41 o47.ints o45.ints (by omega) (by omega)).mono ?_
    rintro e w57 ⟨rfl, b57⟩
    have o58 := o44.below b57 (by omega)
    have o59 := o45.below b57 (by omega)
    clear o45
    have o60 := o46.below b57 (by omega)
    clear o46
    have o61 := o47.below b57 (by omega)
    clear o47
    have k62 := k48.below b57
    clear k48
    have q63 := k62.lt
    have k64 := k41.below b57
    clear k41
    have q65 := k64.lt
    have B66 : Below w.heap.size w w57 := B50.trans (b57.mono B50.size)
    have s67 := b57.size
    go_wp2_with fail
    refine (laws_toMoveS A1 n1 c1 (xs1) 0 w.heap.size w57 o58 (by omega) (by omega)).mono ?_
    rintro e w68 ⟨A68, c68, rfl, o68, b68⟩
    have o69 := o58.below b68 (by omega)
    have o70 := o59.below b68 (by omega)
    clear o59
    have o71 := o60.below b68 (by omega)
    clear o60
    have o72 := o61.below b68 (by omega)
    clear o61
    have k73 := k62.below b68
    clear k62
    have q74 := k73.lt
    have k75 := k64.below b68
    clear k64
    have q76 := k75.lt
    have B77 : Below w.heap.size w w68 := B66.trans (b68.mono B66.size)
    have s78 := b68.size
    go_wp2_with fail
    refine (laws_eqMoveS A26 n1 c26 (xs1) w20.heap.size w26.heap.size A68 n1 c68 (xs1) w57.heap.size w68.heap.size w68 o71.moves o68.moves (by omega) (by omega)).mono ?_
    rintro e w79 ⟨rfl, b79⟩
    have o80 := o69.below b79 (by omega)
    have o81 := o70.below b79 (by omega)
    clear o70
    have o82 := o71.below b79 (by omega)
    clear o71
    have o83 := o72.below b79 (by omega)
    clear o72
    have o84 := o68.below b79 (by omega)
    clear o68
    have k85 := k73.below b79
    clear k73
    have q86 := k85.lt
    have k87 := k75.below b79
    clear k75
    have q88 := k87.lt
    have B89 : Below w.heap.size w w79 := B77.trans (b79.mono B77.size)
    have s90 := b79.size
    clear o84
    go_wp2_with fail
    refine (laws_markMoveS A26 n1 c26 (xs1) w20.heap.size w26.heap.size (1) w79 o82 (by omega) (by omega)).mono ?_
    rintro e w91 ⟨rfl, o91, t91, _⟩
    have o92 := o80.same (t91.same (by omega) (by omega))
    have o93 := o81.same (t91.same (by omega) (by omega))
    clear o81
    have o94 := o83.same (t91.same (by omega) (by omega))
    clear o83
    have k95 := k85.touch t91 (by omega)
    clear k85
    have q96 := k95.lt
    have k97 := k87.touch t91 (by omega)
    clear k87
    have q98 := k97.lt
    have B99 : Below w.heap.size w w91 := B89.trans (t91.below (by omega) (by omega))
    have s100 := t91.size
    clear o82
    have p101 := k97.c0
    have p102 := k97.c1
    have p103 := k95.c0
    have p104 := k95.c1
    go_wp2_with fail
    clear p101 p102 p103 p104
    refine (laws_eqWords ((schF y0 xs1).1).1 A33 n33 c33 ((schF y0 xs1).1).2 w26.heap.size w33.heap.size ((schF y0 xs1).1).1 A15 n15 c15 ((schF y0 xs1).1).2 w11.heap.size w15.heap.size w91 o94.ints o93.ints (by omega) (by omega)).mono ?_
    rintro e w105 ⟨rfl, b105⟩
    have o106 := o92.below b105 (by omega)
    have o107 := o93.below b105 (by omega)
    clear o93
    have o108 := o91.below b105 (by omega)
    clear o91
    have o109 := o94.below b105 (by omega)
    clear o94
    have k110 := k95.below b105
    clear k95
    have q111 := k110.lt
    have k112 := k97.below b105
    clear k97
    have q113 := k112.lt
    have B114 : Below w.heap.size w w105 := B99.trans (b105.mono B99.size)
    have s115 := b105.size
    have p116 := k112.c0
    have p117 := k112.c1
    go_wp2_with fail
    clear p116 p117
    refine (laws_markWords ((schF y0 xs1).1).1 A33 n33 c33 ((schF y0 xs1).1).2 w26.heap.size w33.heap.size (1) w105 o109 (by omega) (by omega) (by omega)).mono ?_
    rintro e w118 ⟨rfl, o118, t118⟩
    have o119 := o106.same (t118.same (by omega) (by omega))
    have o120 := o107.same (t118.same (by omega) (by omega))
    clear o107
    have o121 := o108.same (t118.same (by omega) (by omega))
    clear o108
    have k122 := k110.touch t118 (by omega)
    clear k110
    have q123 := k122.lt
    have k124 := k112.touch t118 (by omega)
    clear k112
    have q125 := k124.lt
    have B126 : Below w.heap.size w w118 := B114.trans (t118.below (by omega) (by omega))
    have s127 := t118.size
    clear o109
    have p128 := k124.c0
    have p129 := k124.c1
    go_wp2_with fail
    clear p128 p129
    refine (laws_heldWords ((schF y0 xs1).1).1 A33 n33 c33 w26.heap.size w33.heap.size 1 w118 o118.ints (by omega) (by omega) (by omega)).mono ?_
    rintro e w130 ⟨rfl, b130⟩
    have o131 := o119.below b130 (by omega)
    have o132 := o120.below b130 (by omega)
    clear o120
    have o133 := o121.below b130 (by omega)
    clear o121
    have o134 := o118.below b130 (by omega)
    clear o118
    have k135 := k122.below b130
    clear k122
    have q136 := k135.lt
    have k137 := k124.below b130
    clear k124
    have q138 := k137.lt
    have B139 : Below w.heap.size w w130 := B126.trans (b130.mono B126.size)
    have s140 := b130.size
    go_wp2_with fail
    refine (laws_toMoveS A1 n1 c1 (xs1) 0 w.heap.size w130 o131 (by omega) (by omega)).mono ?_
    rintro e w141 ⟨A141, c141, rfl, o141, b141⟩
    have o142 := o131.below b141 (by omega)
    have o143 := o132.below b141 (by omega)
    clear o132
    have o144 := o133.below b141 (by omega)
    clear o133
    have o145 := o134.below b141 (by omega)
    clear o134
    have k146 := k135.below b141
    clear k135
    have q147 := k146.lt
    have k148 := k137.below b141
    clear k137
    have q149 := k148.lt
    have B150 : Below w.heap.size w w141 := B139.trans (b141.mono B139.size)
    have s151 := b141.size
    go_wp2_with fail
    refine (impl_SchemeWords y0 A141 n1 c141 (xs1) w130.heap.size w141.heap.size w141 o141.moves (by omega)).mono ?_
    rintro e w152 ⟨A152, n152, c152, rfl, o152, b152⟩
    have o153 := o142.below b152 (by omega)
    have o154 := o143.below b152 (by omega)
    clear o143
    have o155 := o144.below b152 (by omega)
    clear o144
    have o156 := o145.below b152 (by omega)
    clear o145
    have o157 := o141.below b152 (by omega)
    clear o141
    have k158 := k146.below b152
    clear k146
    have q159 := k158.lt
    have k160 := k148.below b152
    clear k148
    have q161 := k160.lt
    have B162 : Below w.heap.size w w152 := B150.trans (b152.mono B150.size)
    have s163 := b152.size
    clear o157
    have p165 := k158.c0
    have p166 := k158.c1
    have p167 := k160.c0
    have p168 := k160.c1
    go_wp2_with fail
    clear p165 p166 p167 p168
    have a164 := below_alloc w152 (.cells #[(.int .i64 ((schF y0 xs1).1).1), (.slice A152 n152 c152)] 38)
    have k164 := Cell2.new w152 (.int .i64 ((schF y0 xs1).1).1) (.slice A152 n152 c152) 38
    generalize World.alloc w152 (.cells #[(.int .i64 ((schF y0 xs1).1).1), (.slice A152 n152 c152)] 38) = w164 at a164 k164 ⊢
    have o169 := o153.below a164 (by omega)
    have o170 := o154.below a164 (by omega)
    clear o154
    have o171 := o155.below a164 (by omega)
    clear o155
    have o172 := o156.below a164 (by omega)
    clear o156
    have o173 := o152.below a164 (by omega)
    clear o152
    have k174 := k158.below a164
    clear k158
    have q175 := k174.lt
    have k176 := k160.below a164
    clear k160
    have q177 := k176.lt
    have B178 : Below w.heap.size w w164 := B162.trans (a164.mono B162.size)
    have s179 := a164.size
    have q180 := k164.lt
    have p181 := k164.c0
    have p182 := k164.c1
    have p183 := k174.c0
    have p184 := k174.c1
    go_wp2_with fail
    clear p181 p182 p183 p184
    refine (laws_eqWords ((schF y0 xs1).1).1 A152 n152 c152 ((schF y0 xs1).1).2 w141.heap.size w152.heap.size ((schF y0 xs1).1).1 A15 n15 c15 ((schF y0 xs1).1).2 w11.heap.size w15.heap.size w164 o173.ints o170.ints (by omega) (by omega)).mono ?_
    rintro e w185 ⟨rfl, b185⟩
    have o186 := o169.below b185 (by omega)
    have o187 := o170.below b185 (by omega)
    clear o170
    have o188 := o171.below b185 (by omega)
    clear o171
    have o189 := o172.below b185 (by omega)
    clear o172
    have o190 := o173.below b185 (by omega)
    clear o173
    have k191 := k174.below b185
    clear k174
    have q192 := k191.lt
    have k193 := k176.below b185
    clear k176
    have q194 := k193.lt
    have k195 := k164.below b185
    clear k164
    have q196 := k195.lt
    have B197 : Below w.heap.size w w185 := B178.trans (b185.mono B178.size)
    have s198 := b185.size
    have p199 := k193.c0
    have p200 := k193.c1
    go_wp2_with fail
    clear p199 p200
    refine (laws_heldWords ((schF y0 xs1).1).1 A33 n33 c33 w26.heap.size w33.heap.size 1 w185 o189.ints (by omega) (by omega) (by omega)).mono ?_
    rintro e w201 ⟨rfl, b201⟩
    have o202 := o186.below b201 (by omega)
    have o203 := o187.below b201 (by omega)
    clear o187
    have o204 := o188.below b201 (by omega)
    clear o188
    have o205 := o189.below b201 (by omega)
    clear o189
    have o206 := o190.below b201 (by omega)
    clear o190
    have k207 := k191.below b201
    clear k191
    have q208 := k207.lt
    have k209 := k193.below b201
    clear k193
    have q210 := k209.lt
    have k211 := k195.below b201
    clear k195
    have q212 := k211.lt
    have B213 : Below w.heap.size w w201 := B197.trans (b201.mono B197.size)
    have s214 := b201.size
    go_wp2_with fail
    go_ret
    exact ⟨rfl, B213⟩
theorem own : ownKnob Try.prog.godebug = none := by kernel_rfl
theorem laidOut : laidOutB Try.prog = true := by kernel_rfl
set_option maxRecDepth 100000 in
theorem lifted (os : Os) (started : os.Started) (H : Type) (enc : TypeId × Value → H) :
    ReturnsInHanded {} Try.checked os 13 .any (Rows.fnExactSchemeWordsSpec.pre6 enc Try.prog Try.f13 Rows.fnExactSchemeWordsRow.domain false) (Rows.fnExactSchemeWordsSpec.post enc Try.prog Try.f13 false true false false) := by
  refine returnsInHanded_of_change (C := Try.checked) own started (by kernel_rfl) Try.func13
    (ChangeSpec.witness6 (enc := enc) (C := Try.checked) false ⟨#[], #[.int .i64 0, .slice none 0 0], []⟩ 8 (by kernel_rfl) (by kernel_rfl) (by kernel_rfl) (by kernel_rfl)) ?_
  intro W base args ds gs before hval0 hW hcnd _
  have hval : ∀ (j : Nat) t v, Try.f13.params[j]? = some t → args[j]? = some v → Value.okWide Try.prog W .any base t v := hval0
  have hW' := hW
  obtain ⟨p, q, hA0, hV, rfl, hfz, hnd⟩ := hW
  have hA : DataW.TrodAll enc Try.prog W 0 (fun _ => true) true Try.f13.params.toList args.toList ds p := hA0
  rw [Try.params13] at hA hval
  obtain ⟨v0, vs0, d0, ds0, p0, q0, hargs, rfl, rfl, h0, t0⟩ := trodAll_cons hA
  obtain ⟨v1, vs1, d1, ds1, p1, q1, rfl, rfl, rfl, h1, t1⟩ := trodAll_cons t0
  obtain ⟨rfl, rfl, rfl⟩ := trodAll_nil t1
  obtain rfl : args = #[v0, v1] := by cases args; simp_all
  obtain ⟨rfl, rfl⟩ := trodVars_none hV
  have k0 := h0
  have lt0 : ∀ x ∈ p0, x.block < W.heap.size := by obtain ⟨m, hm⟩ := k0; exact DataW.trod_lt m _ _ _ hm
  have k1 := h1
  have lt1 : ∀ x ∈ p1, x.block < W.heap.size := by obtain ⟨m, hm⟩ := k1; exact DataW.trod_lt m _ _ _ hm
  obtain ⟨a0, rfl, r0⟩ := open_pint h0 (by obtain ⟨k, hk⟩ := okWide_int Try.underlying3 (hval 0 3 v0 rfl rfl); exact ⟨_, k, hk⟩)
  obtain ⟨a1, n1, c1, rfl⟩ := okWide_slice Try.underlying75 (hval 1 75 v1 rfl rfl)
  obtain ⟨xs1, r1⟩ := open_pmoves h1
  clear hA0 hval0
  refine (walk a0 a1 n1 c1 xs1 W r0 r1).mono fun e W' ⟨he, bel⟩ => ?_
  subst he
  exact ⟨_, rfl, _, _, _, [], _, [], hW', trodAll_mk1 (shut_bool Try.underlying4 _), (trodAll_cons_mk (Below.trod laidOut (by kernel_rfl) (of_decide_eq_true (by kernel_rfl)) k0 bel lt0) (trodAll_cons_mk (Below.trod laidOut (by kernel_rfl) (of_decide_eq_true (by kernel_rfl)) k1 bel lt1) trodAll_mk0)), rfl, bel.frame _, fun h => by cases h⟩
theorem over : Rows.fnExactSchemeWordsRow.holds Try.pinned (OpenSpec.ofChange Rows.fnExactSchemeWordsSpec) :=
  OpenClaim.holds_of_wide 13 Try.f13 rfl rfl rfl rfl rfl rfl rfl ⟨rfl, rfl, rfl, rfl, rfl⟩ rfl rfl rfl rfl rfl (by kernel_rfl) Try.func13 (by kernel_rfl)
    (of_decide_eq_true (by kernel_rfl)) (by unfold Func.isWrapper; first | (rw [if_pos (by decide +kernel)]; kernel_rfl) | (rw [if_neg (by decide +kernel)]; exact ⟨rfl, rfl⟩))
    (fun os started H enc _ => lifted os started H enc)
theorem proved : Rows.FnExactSchemeWordsSaid := over
#print axioms proved

end Go.Proofs.Ytodlfmagkjblgaa.fnExactSchemeWords
