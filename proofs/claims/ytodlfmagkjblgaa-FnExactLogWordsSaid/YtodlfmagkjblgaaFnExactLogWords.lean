/- Proved here: for every input the statement FnExactLogWords returns true, and its arguments read as before. No conditions. -/
import Derived.Test.YtodlfmagkjblgaaWordsL
import Derived.Test.YtodlfmagkjblgaaLogS
import Derived.Test.YtodlfmagkjblgaaFrames
namespace Go.Proofs.Ytodlfmagkjblgaa.fnExactLogWords
open Go.ChangeShapes Go.WideShapes Go.ChangeAt Go.RowKit
set_option linter.unusedSimpArgs false
set_option linter.unusedVariables false
set_option maxRecDepth 20000

theorem log_len (o : Int) (xs : List Int) : (logF o xs).1.2.length ≤ 63 := logF_len o xs

set_option maxRecDepth 100000 in
set_option maxHeartbeats 4000000 in
theorem walk (y0 : Int) (A0 : Option Addr) (n0 c0 : Nat) (xs0 : List Int) (w : World) (h0 : Ints w 0 w.heap.size A0 n0 c0 xs0) (r0 : R64 y0) :
    Calls Try.prog 10 #[.agg #[.int .i64 y0, .slice A0 n0 c0]] w fun e w' => e = .returned (.bool true) ∧ Below w.heap.size w w' := by
  have B0 := Below.refl w.heap.size w
  have hcp0 := h0.cap
  have hmx0 := h0.max
  by_cases hbig0 : (1048576 : Int) < n0
  · have hF0 : szF n0 1048576 = -1 := if_pos (by omega)
    go_enter Try.func10, Try.ntmps10
    go_wp2_with fail
    have a1 := below_alloc w (.cells #[(.int .i64 y0), (.slice A0 n0 c0)] 36)
    have k2 := Cell2.new w (.int .i64 y0) (.slice A0 n0 c0) 36
    have b3 := a1
    have zb := b3.size
    generalize (World.alloc w (.cells #[(.int .i64 y0), (.slice A0 n0 c0)] 36)) = w4 at b3 k2 zb ⊢
    have o5 := h0.below b3 (by omega)
    have B6 : Below w.heap.size w w4 := B0.trans (b3.mono B0.size)
    have s7 := b3.size
    have q8 := k2.lt
    have p9 := k2.c0
    have p10 := k2.c1
    go_wp2_with fail
    clear p9 p10
    refine (laws_szWords y0 A0 n0 c0 1048576 w4 (by omega) (by omega) (by omega)).mono ?_
    rintro e w11 ⟨rfl, b11⟩
    rw [hF0]
    have o12 := o5.below b11 (by omega)
    have k13 := k2.below b11
    clear k2
    have q14 := k13.lt
    have B15 : Below w.heap.size w w11 := B6.trans (b11.mono B6.size)
    have s16 := b11.size
    go_wp2_with fail
    go_ret
    exact ⟨rfl, B15⟩
  · have hok : True := trivial
    have hs0 : n0 ≤ 1048576 := by omega
    have hF0 : szF n0 1048576 = 1048576 - n0 := if_neg (by omega)
    go_enter Try.func10, Try.ntmps10
    go_wp2_with fail
    have a17 := below_alloc w (.cells #[(.int .i64 y0), (.slice A0 n0 c0)] 36)
    have k18 := Cell2.new w (.int .i64 y0) (.slice A0 n0 c0) 36
    have b19 := a17
    have zb := b19.size
    generalize (World.alloc w (.cells #[(.int .i64 y0), (.slice A0 n0 c0)] 36)) = w20 at b19 k18 zb ⊢
    have o21 := h0.below b19 (by omega)
    have B22 : Below w.heap.size w w20 := B0.trans (b19.mono B0.size)
    have s23 := b19.size
    have q24 := k18.lt
    have p25 := k18.c0
    have p26 := k18.c1
    go_wp2_with fail
    clear p25 p26
    refine (laws_szWords y0 A0 n0 c0 1048576 w20 (by omega) (by omega) (by omega)).mono ?_
    rintro e w27 ⟨rfl, b27⟩
    rw [hF0]
    have o28 := o21.below b27 (by omega)
    have k29 := k18.below b27
    clear k18
    have q30 := k29.lt
    have B31 : Below w.heap.size w w27 := B22.trans (b27.mono B22.size)
    have s32 := b27.size
    clear hF0
    have p33 := k29.c0
    have p34 := k29.c1
    go_wp2_with fail
    clear p33 p34
    refine (laws_toWords y0 A0 n0 c0 xs0 0 w.heap.size w27 o28 (by omega) (by omega)).mono ?_
    rintro e w35 ⟨A35, c35, rfl, o35, b35⟩
    have o36 := o28.below b35 (by omega)
    have k37 := k29.below b35
    clear k29
    have q38 := k37.lt
    have B39 : Below w.heap.size w w35 := B31.trans (b35.mono B31.size)
    have s40 := b35.size
    go_wp2_with fail
    refine (spec_LogWords y0 A35 n0 c35 xs0 w27.heap.size w35.heap.size w35 o35.ints (by omega)).mono ?_
    rintro e w41 ⟨A41, n41, c41, rfl, o41, b41⟩
    have o42 := o36.below b41 (by omega)
    have o43 := o35.below b41 (by omega)
    clear o35
    have k44 := k37.below b41
    clear k37
    have q45 := k44.lt
    have B46 : Below w.heap.size w w41 := B39.trans (b41.mono B39.size)
    have s47 := b41.size
    clear o43
    have p49 := k44.c0
    have p50 := k44.c1
    go_wp2_with fail
    clear p49 p50
    have a48 := below_alloc w41 (.cells #[(.int .i64 ((logF y0 xs0).1).1), (.slice A41 n41 c41)] 38)
    have k48 := Cell2.new w41 (.int .i64 ((logF y0 xs0).1).1) (.slice A41 n41 c41) 38
    generalize World.alloc w41 (.cells #[(.int .i64 ((logF y0 xs0).1).1), (.slice A41 n41 c41)] 38) = w48 at a48 k48 ⊢
    have o51 := o42.below a48 (by omega)
    have o52 := o41.below a48 (by omega)
    clear o41
    have k53 := k44.below a48
    clear k44
    have q54 := k53.lt
    have B55 : Below w.heap.size w w48 := B46.trans (a48.mono B46.size)
    have s56 := a48.size
    have q57 := k48.lt
    have p58 := k53.c0
    have p59 := k53.c1
    go_wp2_with fail
    clear p58 p59
    refine (laws_toWords y0 A0 n0 c0 xs0 0 w.heap.size w48 o51 (by omega) (by omega)).mono ?_
    rintro e w60 ⟨A60, c60, rfl, o60, b60⟩
    have o61 := o51.below b60 (by omega)
    have o62 := o52.below b60 (by omega)
    clear o52
    have k63 := k53.below b60
    clear k53
    have q64 := k63.lt
    have k65 := k48.below b60
    clear k48
    have q66 := k65.lt
    have B67 : Below w.heap.size w w60 := B55.trans (b60.mono B55.size)
    have s68 := b60.size
    have p70 := k63.c0
    have p71 := k63.c1
    have p72 := k65.c0
    have p73 := k65.c1
    go_wp2_with fail
    clear p70 p71 p72 p73
    have a69 := below_alloc w60 (.cells #[(.int .i64 y0), (.slice A60 n0 c60)] 38)
    have k69 := Cell2.new w60 (.int .i64 y0) (.slice A60 n0 c60) 38
    generalize World.alloc w60 (.cells #[(.int .i64 y0), (.slice A60 n0 c60)] 38) = w69 at a69 k69 ⊢
    have o74 := o61.below a69 (by omega)
    have o75 := o62.below a69 (by omega)
    clear o62
    have o76 := o60.below a69 (by omega)
    clear o60
    have k77 := k63.below a69
    clear k63
    have q78 := k77.lt
    have k79 := k65.below a69
    clear k65
    have q80 := k79.lt
    have B81 : Below w.heap.size w w69 := B67.trans (a69.mono B67.size)
    have s82 := a69.size
    have q83 := k69.lt
    have p84 := k69.c0
    have p85 := k69.c1
    go_wp2_with fail
    refine (impl_LogWords y0 A60 n0 c60 xs0 w48.heap.size w60.heap.size w69 o76.ints (by omega)).mono ?_
    rintro e w86 ⟨A86, n86, c86, rfl, o86, b86⟩
    have o87 := o74.below b86 (by omega)
    have o88 := o75.below b86 (by omega)
    clear o75
    have o89 := o76.below b86 (by omega)
    clear o76
    have k90 := k77.below b86
    clear k77
    have q91 := k90.lt
    have k92 := k79.below b86
    clear k79
    have q93 := k92.lt
    have k94 := k69.below b86
    clear k69
    have q95 := k94.lt
    have B96 : Below w.heap.size w w86 := B81.trans (b86.mono B81.size)
    have s97 := b86.size
    clear p84 p85
    have hln : n86 ≤ 1048576 := by have hl1 := o86.len; have hl2 := log_len y0 xs0; omega
    have p99 := k90.c0
    have p100 := k90.c1
    have p101 := k92.c0
    have p102 := k92.c1
    have p103 := k94.c0
    have p104 := k94.c1
    go_wp2_with fail
    clear p99 p100 p101 p102 p103 p104
    have a98 := below_alloc w86 (.cells #[(.int .i64 ((logF y0 xs0).1).1), (.slice A86 n86 c86)] 38)
    have k98 := Cell2.new w86 (.int .i64 ((logF y0 xs0).1).1) (.slice A86 n86 c86) 38
    generalize World.alloc w86 (.cells #[(.int .i64 ((logF y0 xs0).1).1), (.slice A86 n86 c86)] 38) = w98 at a98 k98 ⊢
    have o105 := o87.below a98 (by omega)
    have o106 := o88.below a98 (by omega)
    clear o88
    have o107 := o89.below a98 (by omega)
    clear o89
    have o108 := o86.below a98 (by omega)
    clear o86
    have k109 := k90.below a98
    clear k90
    have q110 := k109.lt
    have k111 := k92.below a98
    clear k92
    have q112 := k111.lt
    have k113 := k94.below a98
    clear k94
    have q114 := k113.lt
    have B115 : Below w.heap.size w w98 := B96.trans (a98.mono B96.size)
    have s116 := a98.size
    have q117 := k98.lt
    have p118 := k98.c0
    have p119 := k98.c1
    have p120 := k111.c0
    have p121 := k111.c1
    go_wp2_with fail
    clear p118 p119 p120 p121
    refine (laws_eqWords ((logF y0 xs0).1).1 A86 n86 c86 ((logF y0 xs0).1).2 w69.heap.size w86.heap.size ((logF y0 xs0).1).1 A41 n41 c41 ((logF y0 xs0).1).2 w35.heap.size w41.heap.size w98 o108.ints o106.ints (by omega) (by omega)).mono ?_
    rintro e w122 ⟨rfl, b122⟩
    have o123 := o105.below b122 (by omega)
    have o124 := o106.below b122 (by omega)
    clear o106
    have o125 := o107.below b122 (by omega)
    clear o107
    have o126 := o108.below b122 (by omega)
    clear o108
    have k127 := k109.below b122
    clear k109
    have q128 := k127.lt
    have k129 := k111.below b122
    clear k111
    have q130 := k129.lt
    have k131 := k113.below b122
    clear k113
    have q132 := k131.lt
    have k133 := k98.below b122
    clear k98
    have q134 := k133.lt
    have B135 : Below w.heap.size w w122 := B115.trans (b122.mono B115.size)
    have s136 := b122.size
    have p137 := k127.c0
    have p138 := k127.c1
    have p139 := k131.c0
    have p140 := k131.c1
    go_wp2_with fail
    have d141 : Below w122.heap.size w122 w122.drew := (Below.refl _ _).drew
    have la141 := k127.below d141
    have lx141 := k131.below d141
    have ha141 := o123.below d141 (by omega)
    have hx141 := o125.below d141 (by omega)
    have zd141 := d141.size
    go_region_held3 (fun w' => w'.cell? ⟨w.heap.size, 0, none⟩ = some (.int .i64 y0) ∧ w'.cell? ⟨w.heap.size, 1, none⟩ = some (.slice A0 n0 c0) ∧ w'.cell? ⟨w60.heap.size, 0, none⟩ = some (.int .i64 y0) ∧ w'.cell? ⟨w60.heap.size, 1, none⟩ = some (.slice A60 n0 c60)) (first | exact ⟨p137, p138, p139, p140⟩ | exact ⟨P1, P2, P3, P4⟩ | exact ⟨Q1, Q2, Q3, Q4⟩ | go_keep)
      (first
        | (go_at_call 21; refine (laws_toWords y0 A0 n0 c0 xs0 0 w.heap.size w122.drew ha141 (by omega) (by omega)).mono ?_; rintro e u141 ⟨AA141, cc141, rfl, ou141, bu141⟩; have P1 := (la141.below bu141).c0; have P2 := (la141.below bu141).c1; have P3 := (lx141.below bu141).c0; have P4 := (lx141.below bu141).c1)
        | (go_at_call 23; refine (laws_eqWords y0 A60 n0 c60 xs0 w48.heap.size w60.heap.size y0 AA141 n0 cc141 xs0 _ _ u141 (hx141.below bu141 (by omega)).ints ou141.ints (by have := bu141.size; omega) (by omega)).mono ?_; rintro e v141 ⟨rfl, bv141⟩; have Q1 := ((la141.below bu141).below bv141).c0; have Q2 := ((la141.below bu141).below bv141).c1; have Q3 := ((lx141.below bu141).below bv141).c0; have Q4 := ((lx141.below bu141).below bv141).c1))
    have be141 : Below w122.heap.size w122 v141 := d141.trans ((bu141.trans (bv141.mono bu141.size)).mono d141.size)
    clear p137 p138 p139 p140 la141 lx141 ha141 hx141 P1 P2 P3 P4 Q1 Q2 Q3 Q4
    have o142 := o123.below be141 (by omega)
    have o143 := o124.below be141 (by omega)
    clear o124
    have o144 := o125.below be141 (by omega)
    clear o125
    have o145 := o126.below be141 (by omega)
    clear o126
    have k146 := k127.below be141
    clear k127
    have q147 := k146.lt
    have k148 := k129.below be141
    clear k129
    have q149 := k148.lt
    have k150 := k131.below be141
    clear k131
    have q151 := k150.lt
    have k152 := k133.below be141
    clear k133
    have q153 := k152.lt
    have B154 : Below w.heap.size w v141 := B135.trans (be141.mono B135.size)
    have s155 := be141.size
    have p156 := k150.c0
    have p157 := k150.c1
    go_wp2_with fail
    clear p156 p157
    refine (laws_markWords y0 A60 n0 c60 xs0 w48.heap.size w60.heap.size (1) v141 o144 (by omega) (by omega) (by omega)).mono ?_
    rintro e w158 ⟨rfl, o158, t158⟩
    have o159 := o142.same (t158.same (by omega) (by omega))
    have o160 := o143.same (t158.same (by omega) (by omega))
    clear o143
    have o161 := o145.same (t158.same (by omega) (by omega))
    clear o145
    have k162 := k146.touch t158 (by omega)
    clear k146
    have q163 := k162.lt
    have k164 := k148.touch t158 (by omega)
    clear k148
    have q165 := k164.lt
    have k166 := k150.touch t158 (by omega)
    clear k150
    have q167 := k166.lt
    have k168 := k152.touch t158 (by omega)
    clear k152
    have q169 := k168.lt
    have B170 : Below w.heap.size w w158 := B154.trans (t158.below (by omega) (by omega))
    have s171 := t158.size
    clear o144
    have p172 := k168.c0
    have p173 := k168.c1
    have p174 := k164.c0
    have p175 := k164.c1
    go_wp2_with fail
    clear p172 p173 p174 p175
    refine (laws_eqWords ((logF y0 xs0).1).1 A86 n86 c86 ((logF y0 xs0).1).2 w69.heap.size w86.heap.size ((logF y0 xs0).1).1 A41 n41 c41 ((logF y0 xs0).1).2 w35.heap.size w41.heap.size w158 o161.ints o160.ints (by omega) (by omega)).mono ?_
    rintro e w176 ⟨rfl, b176⟩
    have o177 := o159.below b176 (by omega)
    have o178 := o160.below b176 (by omega)
    clear o160
    have o179 := o158.below b176 (by omega)
    clear o158
    have o180 := o161.below b176 (by omega)
    clear o161
    have k181 := k162.below b176
    clear k162
    have q182 := k181.lt
    have k183 := k164.below b176
    clear k164
    have q184 := k183.lt
    have k185 := k166.below b176
    clear k166
    have q186 := k185.lt
    have k187 := k168.below b176
    clear k168
    have q188 := k187.lt
    have B189 : Below w.heap.size w w176 := B170.trans (b176.mono B170.size)
    have s190 := b176.size
    have p191 := k187.c0
    have p192 := k187.c1
    go_wp2_with fail
    clear p191 p192
    refine (laws_markWords ((logF y0 xs0).1).1 A86 n86 c86 ((logF y0 xs0).1).2 w69.heap.size w86.heap.size (1) w176 o180 (by omega) (by omega) (by omega)).mono ?_
    rintro e w193 ⟨rfl, o193, t193⟩
    have o194 := o177.same (t193.same (by omega) (by omega))
    have o195 := o178.same (t193.same (by omega) (by omega))
    clear o178
    have o196 := o179.same (t193.same (by omega) (by omega))
    clear o179
    have k197 := k181.touch t193 (by omega)
    clear k181
    have q198 := k197.lt
    have k199 := k183.touch t193 (by omega)
    clear k183
    have q200 := k199.lt
    have k201 := k185.touch t193 (by omega)
    clear k185
    have q202 := k201.lt
    have k203 := k187.touch t193 (by omega)
    clear k187
    have q204 := k203.lt
    have B205 : Below w.heap.size w w193 := B189.trans (t193.below (by omega) (by omega))
    have s206 := t193.size
    clear o180
    have p207 := k203.c0
    have p208 := k203.c1
    go_wp2_with fail
    clear p207 p208
    refine (laws_heldWords ((logF y0 xs0).1).1 A86 n86 c86 w69.heap.size w86.heap.size 1 w193 o193.ints (by omega) (by omega) (by omega)).mono ?_
    rintro e w209 ⟨rfl, b209⟩
    have o210 := o194.below b209 (by omega)
    have o211 := o195.below b209 (by omega)
    clear o195
    have o212 := o196.below b209 (by omega)
    clear o196
    have o213 := o193.below b209 (by omega)
    clear o193
    have k214 := k197.below b209
    clear k197
    have q215 := k214.lt
    have k216 := k199.below b209
    clear k199
    have q217 := k216.lt
    have k218 := k201.below b209
    clear k201
    have q219 := k218.lt
    have k220 := k203.below b209
    clear k203
    have q221 := k220.lt
    have B222 : Below w.heap.size w w209 := B205.trans (b209.mono B205.size)
    have s223 := b209.size
    have p224 := k214.c0
    have p225 := k214.c1
    go_wp2_with fail
    clear p224 p225
    refine (laws_toWords y0 A0 n0 c0 xs0 0 w.heap.size w209 o210 (by omega) (by omega)).mono ?_
    rintro e w226 ⟨A226, c226, rfl, o226, b226⟩
    have o227 := o210.below b226 (by omega)
    have o228 := o211.below b226 (by omega)
    clear o211
    have o229 := o212.below b226 (by omega)
    clear o212
    have o230 := o213.below b226 (by omega)
    clear o213
    have k231 := k214.below b226
    clear k214
    have q232 := k231.lt
    have k233 := k216.below b226
    clear k216
    have q234 := k233.lt
    have k235 := k218.below b226
    clear k218
    have q236 := k235.lt
    have k237 := k220.below b226
    clear k220
    have q238 := k237.lt
    have B239 : Below w.heap.size w w226 := B222.trans (b226.mono B222.size)
    have s240 := b226.size
    go_wp2_with fail
    refine (impl_LogWords y0 A226 n0 c226 xs0 w209.heap.size w226.heap.size w226 o226.ints (by omega)).mono ?_
    rintro e w241 ⟨A241, n241, c241, rfl, o241, b241⟩
    have o242 := o227.below b241 (by omega)
    have o243 := o228.below b241 (by omega)
    clear o228
    have o244 := o229.below b241 (by omega)
    clear o229
    have o245 := o230.below b241 (by omega)
    clear o230
    have o246 := o226.below b241 (by omega)
    clear o226
    have k247 := k231.below b241
    clear k231
    have q248 := k247.lt
    have k249 := k233.below b241
    clear k233
    have q250 := k249.lt
    have k251 := k235.below b241
    clear k235
    have q252 := k251.lt
    have k253 := k237.below b241
    clear k237
    have q254 := k253.lt
    have B255 : Below w.heap.size w w241 := B239.trans (b241.mono B239.size)
    have s256 := b241.size
    clear o246
    have p258 := k247.c0
    have p259 := k247.c1
    have p260 := k249.c0
    have p261 := k249.c1
    have p262 := k251.c0
    have p263 := k251.c1
    have p264 := k253.c0
    have p265 := k253.c1
    go_wp2_with fail
    clear p258 p259 p260 p261 p262 p263 p264 p265
    have a257 := below_alloc w241 (.cells #[(.int .i64 ((logF y0 xs0).1).1), (.slice A241 n241 c241)] 38)
    have k257 := Cell2.new w241 (.int .i64 ((logF y0 xs0).1).1) (.slice A241 n241 c241) 38
    generalize World.alloc w241 (.cells #[(.int .i64 ((logF y0 xs0).1).1), (.slice A241 n241 c241)] 38) = w257 at a257 k257 ⊢
    have o266 := o242.below a257 (by omega)
    have o267 := o243.below a257 (by omega)
    clear o243
    have o268 := o244.below a257 (by omega)
    clear o244
    have o269 := o245.below a257 (by omega)
    clear o245
    have o270 := o241.below a257 (by omega)
    clear o241
    have k271 := k247.below a257
    clear k247
    have q272 := k271.lt
    have k273 := k249.below a257
    clear k249
    have q274 := k273.lt
    have k275 := k251.below a257
    clear k251
    have q276 := k275.lt
    have k277 := k253.below a257
    clear k253
    have q278 := k277.lt
    have B279 : Below w.heap.size w w257 := B255.trans (a257.mono B255.size)
    have s280 := a257.size
    have q281 := k257.lt
    have p282 := k257.c0
    have p283 := k257.c1
    have p284 := k273.c0
    have p285 := k273.c1
    go_wp2_with fail
    clear p282 p283 p284 p285
    refine (laws_eqWords ((logF y0 xs0).1).1 A241 n241 c241 ((logF y0 xs0).1).2 w226.heap.size w241.heap.size ((logF y0 xs0).1).1 A41 n41 c41 ((logF y0 xs0).1).2 w35.heap.size w41.heap.size w257 o270.ints o267.ints (by omega) (by omega)).mono ?_
    rintro e w286 ⟨rfl, b286⟩
    have o287 := o266.below b286 (by omega)
    have o288 := o267.below b286 (by omega)
    clear o267
    have o289 := o268.below b286 (by omega)
    clear o268
    have o290 := o269.below b286 (by omega)
    clear o269
    have o291 := o270.below b286 (by omega)
    clear o270
    have k292 := k271.below b286
    clear k271
    have q293 := k292.lt
    have k294 := k273.below b286
    clear k273
    have q295 := k294.lt
    have k296 := k275.below b286
    clear k275
    have q297 := k296.lt
    have k298 := k277.below b286
    clear k277
    have q299 := k298.lt
    have k300 := k257.below b286
    clear k257
    have q301 := k300.lt
    have B302 : Below w.heap.size w w286 := B279.trans (b286.mono B279.size)
    have s303 := b286.size
    have p304 := k298.c0
    have p305 := k298.c1
    go_wp2_with fail
    clear p304 p305
    refine (laws_heldWords ((logF y0 xs0).1).1 A86 n86 c86 w69.heap.size w86.heap.size 1 w286 o290.ints (by omega) (by omega) (by omega)).mono ?_
    rintro e w306 ⟨rfl, b306⟩
    have o307 := o287.below b306 (by omega)
    have o308 := o288.below b306 (by omega)
    clear o288
    have o309 := o289.below b306 (by omega)
    clear o289
    have o310 := o290.below b306 (by omega)
    clear o290
    have o311 := o291.below b306 (by omega)
    clear o291
    have k312 := k292.below b306
    clear k292
    have q313 := k312.lt
    have k314 := k294.below b306
    clear k294
    have q315 := k314.lt
    have k316 := k296.below b306
    clear k296
    have q317 := k316.lt
    have k318 := k298.below b306
    clear k298
    have q319 := k318.lt
    have k320 := k300.below b306
    clear k300
    have q321 := k320.lt
    have B322 : Below w.heap.size w w306 := B302.trans (b306.mono B302.size)
    have s323 := b306.size
    go_wp2_with fail
    go_ret
    exact ⟨rfl, B322⟩
theorem own : ownKnob Try.prog.godebug = none := by kernel_rfl
theorem laidOut : laidOutB Try.prog = true := by kernel_rfl
set_option maxRecDepth 100000 in
theorem lifted (os : Os) (started : os.Started) (H : Type) (enc : TypeId × Value → H) :
    ReturnsInHanded {} Try.checked os 10 .any (Rows.fnExactLogWordsSpec.pre6 enc Try.prog Try.f10 Rows.fnExactLogWordsRow.domain false) (Rows.fnExactLogWordsSpec.post enc Try.prog Try.f10 false true false false) := by
  refine returnsInHanded_of_change (C := Try.checked) own started (by kernel_rfl) Try.func10
    (ChangeSpec.witness6 (enc := enc) (C := Try.checked) false ⟨#[], #[.agg #[.int .i64 0, .slice none 0 0]], []⟩ 8 (by kernel_rfl) (by kernel_rfl) (by kernel_rfl) (by kernel_rfl)) ?_
  intro W base args ds gs before hval0 hW hcnd _
  have hval : ∀ (j : Nat) t v, Try.f10.params[j]? = some t → args[j]? = some v → Value.okWide Try.prog W .any base t v := hval0
  have hW' := hW
  obtain ⟨p, q, hA0, hV, rfl, hfz, hnd⟩ := hW
  have hA : DataW.TrodAll enc Try.prog W 0 (fun _ => true) true Try.f10.params.toList args.toList ds p := hA0
  rw [Try.params10] at hA hval
  obtain ⟨v0, vs0, d0, ds0, p0, q0, hargs, rfl, rfl, h0, t0⟩ := trodAll_cons hA
  obtain ⟨rfl, rfl, rfl⟩ := trodAll_nil t0
  obtain rfl : args = #[v0] := by cases args; simp_all
  obtain ⟨rfl, rfl⟩ := trodVars_none hV
  have k0 := h0
  have lt0 : ∀ x ∈ p0, x.block < W.heap.size := by obtain ⟨m, hm⟩ := k0; exact DataW.trod_lt m _ _ _ hm
  obtain ⟨y0, a0, n0, c0, xs0, rfl, s0, r0⟩ := open_pwords h0 (by obtain ⟨cs, hcs, _⟩ := okWide_struct Try.underlying36 (hval 0 36 v0 rfl rfl); exact ⟨cs, hcs⟩)
  clear hA0 hval0
  refine (walk y0 a0 n0 c0 xs0 W r0 s0).mono fun e W' ⟨he, bel⟩ => ?_
  subst he
  exact ⟨_, rfl, _, _, _, [], _, [], hW', trodAll_mk1 (shut_bool Try.underlying4 _), (trodAll_cons_mk (Below.trod laidOut (by kernel_rfl) (of_decide_eq_true (by kernel_rfl)) k0 bel lt0) trodAll_mk0), rfl, bel.frame _, fun h => by cases h⟩
theorem over : Rows.fnExactLogWordsRow.holds Try.pinned (OpenSpec.ofChange Rows.fnExactLogWordsSpec) :=
  OpenClaim.holds_of_wide 10 Try.f10 rfl rfl rfl rfl rfl rfl rfl ⟨rfl, rfl, rfl, rfl, rfl⟩ rfl rfl rfl rfl rfl (by kernel_rfl) Try.func10 (by kernel_rfl)
    (of_decide_eq_true (by kernel_rfl)) (by unfold Func.isWrapper; first | (rw [if_pos (by decide +kernel)]; kernel_rfl) | (rw [if_neg (by decide +kernel)]; exact ⟨rfl, rfl⟩))
    (fun os started H enc _ => lifted os started H enc)
theorem proved : Rows.FnExactLogWordsSaid := over
#print axioms proved

end Go.Proofs.Ytodlfmagkjblgaa.fnExactLogWords
