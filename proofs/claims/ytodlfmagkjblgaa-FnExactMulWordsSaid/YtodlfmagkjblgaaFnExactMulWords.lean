/- Proved here: for every input the statement FnExactMulWords returns true, and its arguments read as before. No conditions. -/
import Derived.Test.YtodlfmagkjblgaaWordsL
import Derived.Test.YtodlfmagkjblgaaMul
import Derived.Test.YtodlfmagkjblgaaFrames
namespace Go.Proofs.Ytodlfmagkjblgaa.fnExactMulWords
open Go.ChangeShapes Go.WideShapes Go.ChangeAt Go.RowKit
set_option linter.unusedSimpArgs false
set_option linter.unusedVariables false
set_option maxRecDepth 20000

theorem mul_len (o : Int) (xs : List Int) (o' : Int) (ys : List Int) : (mulF o xs o' ys).1.2.length ≤ 63 := by
  unfold mulF
  split
  · rename_i h
    obtain ⟨h1, h2, rfl⟩ := fit_facts h
    obtain ⟨a1, a2, _⟩ := wordsOk_facts h1
    obtain ⟨_, b2, _⟩ := wordsOk_facts h2
    have := cntN_bd a1.2
    simp [mulL_len]
    omega
  · simp

set_option maxRecDepth 100000 in
set_option maxHeartbeats 4000000 in
theorem walk (y0 : Int) (A0 : Option Addr) (n0 c0 : Nat) (xs0 : List Int) (y1 : Int) (A1 : Option Addr) (n1 c1 : Nat) (xs1 : List Int) (w : World) (h0 : Ints w 0 w.heap.size A0 n0 c0 xs0) (r0 : R64 y0) (h1 : Ints w 0 w.heap.size A1 n1 c1 xs1) (r1 : R64 y1) :
    Calls Try.prog 4 #[.agg #[.int .i64 y0, .slice A0 n0 c0], .agg #[.int .i64 y1, .slice A1 n1 c1]] w fun e w' => e = .returned (.bool true) ∧ Below w.heap.size w w' := by
  have B0 := Below.refl w.heap.size w
  have hcp0 := h0.cap
  have hmx0 := h0.max
  have hcp1 := h1.cap
  have hmx1 := h1.max
  by_cases hbig0 : (1048576 : Int) < n0
  · have hF0 : szF n0 1048576 = -1 := if_pos (by omega)
    go_enter Try.func4, Try.ntmps4
    go_wp2_with fail
    have a1 := below_alloc w (.cells #[(.int .i64 y0), (.slice A0 n0 c0)] 36)
    have k2 := Cell2.new w (.int .i64 y0) (.slice A0 n0 c0) 36
    have a3 := below_alloc (World.alloc w (.cells #[(.int .i64 y0), (.slice A0 n0 c0)] 36)) (.cells #[(.int .i64 y1), (.slice A1 n1 c1)] 36)
    have k4 := Cell2.new (World.alloc w (.cells #[(.int .i64 y0), (.slice A0 n0 c0)] 36)) (.int .i64 y1) (.slice A1 n1 c1) 36
    have k5 := k2.below a3
    clear k2
    simp only [World.size_alloc] at k4
    have b6 := (a1.trans (a3.mono a1.size))
    clear a1 a3
    have zb := b6.size
    generalize (World.alloc (World.alloc w (.cells #[(.int .i64 y0), (.slice A0 n0 c0)] 36)) (.cells #[(.int .i64 y1), (.slice A1 n1 c1)] 36)) = w7 at b6 k5 k4 zb ⊢
    have o8 := h0.below b6 (by omega)
    have o9 := h1.below b6 (by omega)
    have B10 : Below w.heap.size w w7 := B0.trans (b6.mono B0.size)
    have s11 := b6.size
    have q12 := k5.lt
    have q13 := k4.lt
    have p14 := k5.c0
    have p15 := k5.c1
    go_wp2_with fail
    clear p14 p15
    refine (laws_szWords y0 A0 n0 c0 1048576 w7 (by omega) (by omega) (by omega)).mono ?_
    rintro e w16 ⟨rfl, b16⟩
    rw [hF0]
    have o17 := o8.below b16 (by omega)
    have o18 := o9.below b16 (by omega)
    have k19 := k5.below b16
    clear k5
    have q20 := k19.lt
    have k21 := k4.below b16
    clear k4
    have q22 := k21.lt
    have B23 : Below w.heap.size w w16 := B10.trans (b16.mono B10.size)
    have s24 := b16.size
    go_wp2_with fail
    go_ret
    exact ⟨rfl, B23⟩
  · have hok : True := trivial
    by_cases hbig1 : ((1048576 - n0) : Int) < n1
    · have hF0 : szF n0 1048576 = 1048576 - n0 := if_neg (by omega)
      have hF1 : szF n1 (1048576 - n0) = -1 := if_pos (by omega)
      go_enter Try.func4, Try.ntmps4
      go_wp2_with fail
      have a25 := below_alloc w (.cells #[(.int .i64 y0), (.slice A0 n0 c0)] 36)
      have k26 := Cell2.new w (.int .i64 y0) (.slice A0 n0 c0) 36
      have a27 := below_alloc (World.alloc w (.cells #[(.int .i64 y0), (.slice A0 n0 c0)] 36)) (.cells #[(.int .i64 y1), (.slice A1 n1 c1)] 36)
      have k28 := Cell2.new (World.alloc w (.cells #[(.int .i64 y0), (.slice A0 n0 c0)] 36)) (.int .i64 y1) (.slice A1 n1 c1) 36
      have k29 := k26.below a27
      clear k26
      simp only [World.size_alloc] at k28
      have b30 := (a25.trans (a27.mono a25.size))
      clear a25 a27
      have zb := b30.size
      generalize (World.alloc (World.alloc w (.cells #[(.int .i64 y0), (.slice A0 n0 c0)] 36)) (.cells #[(.int .i64 y1), (.slice A1 n1 c1)] 36)) = w31 at b30 k29 k28 zb ⊢
      have o32 := h0.below b30 (by omega)
      have o33 := h1.below b30 (by omega)
      have B34 : Below w.heap.size w w31 := B0.trans (b30.mono B0.size)
      have s35 := b30.size
      have q36 := k29.lt
      have q37 := k28.lt
      have p38 := k29.c0
      have p39 := k29.c1
      go_wp2_with fail
      clear p38 p39
      refine (laws_szWords y0 A0 n0 c0 1048576 w31 (by omega) (by omega) (by omega)).mono ?_
      rintro e w40 ⟨rfl, b40⟩
      rw [hF0]
      have o41 := o32.below b40 (by omega)
      have o42 := o33.below b40 (by omega)
      have k43 := k29.below b40
      clear k29
      have q44 := k43.lt
      have k45 := k28.below b40
      clear k28
      have q46 := k45.lt
      have B47 : Below w.heap.size w w40 := B34.trans (b40.mono B34.size)
      have s48 := b40.size
      have p49 := k45.c0
      have p50 := k45.c1
      go_wp2_with fail
      clear p49 p50
      refine (laws_szWords y1 A1 n1 c1 (1048576 - n0) w40 (by omega) (by omega) (by omega)).mono ?_
      rintro e w51 ⟨rfl, b51⟩
      rw [hF1]
      have o52 := o41.below b51 (by omega)
      have o53 := o42.below b51 (by omega)
      have k54 := k43.below b51
      clear k43
      have q55 := k54.lt
      have k56 := k45.below b51
      clear k45
      have q57 := k56.lt
      have B58 : Below w.heap.size w w51 := B47.trans (b51.mono B47.size)
      have s59 := b51.size
      go_wp2_with fail
      go_ret
      exact ⟨rfl, B58⟩
    · have hok : True := trivial
      have hs0 : n0 ≤ 1048576 := by omega
      have hs1 : n1 ≤ 1048576 := by omega
      have hF0 : szF n0 1048576 = 1048576 - n0 := if_neg (by omega)
      have hF1 : szF n1 (1048576 - n0) = (1048576 - n0) - n1 := if_neg (by omega)
      go_enter Try.func4, Try.ntmps4
      go_wp2_with fail
      have a60 := below_alloc w (.cells #[(.int .i64 y0), (.slice A0 n0 c0)] 36)
      have k61 := Cell2.new w (.int .i64 y0) (.slice A0 n0 c0) 36
      have a62 := below_alloc (World.alloc w (.cells #[(.int .i64 y0), (.slice A0 n0 c0)] 36)) (.cells #[(.int .i64 y1), (.slice A1 n1 c1)] 36)
      have k63 := Cell2.new (World.alloc w (.cells #[(.int .i64 y0), (.slice A0 n0 c0)] 36)) (.int .i64 y1) (.slice A1 n1 c1) 36
      have k64 := k61.below a62
      clear k61
      simp only [World.size_alloc] at k63
      have b65 := (a60.trans (a62.mono a60.size))
      clear a60 a62
      have zb := b65.size
      generalize (World.alloc (World.alloc w (.cells #[(.int .i64 y0), (.slice A0 n0 c0)] 36)) (.cells #[(.int .i64 y1), (.slice A1 n1 c1)] 36)) = w66 at b65 k64 k63 zb ⊢
      have o67 := h0.below b65 (by omega)
      have o68 := h1.below b65 (by omega)
      have B69 : Below w.heap.size w w66 := B0.trans (b65.mono B0.size)
      have s70 := b65.size
      have q71 := k64.lt
      have q72 := k63.lt
      have p73 := k64.c0
      have p74 := k64.c1
      go_wp2_with fail
      clear p73 p74
      refine (laws_szWords y0 A0 n0 c0 1048576 w66 (by omega) (by omega) (by omega)).mono ?_
      rintro e w75 ⟨rfl, b75⟩
      rw [hF0]
      have o76 := o67.below b75 (by omega)
      have o77 := o68.below b75 (by omega)
      have k78 := k64.below b75
      clear k64
      have q79 := k78.lt
      have k80 := k63.below b75
      clear k63
      have q81 := k80.lt
      have B82 : Below w.heap.size w w75 := B69.trans (b75.mono B69.size)
      have s83 := b75.size
      have p84 := k80.c0
      have p85 := k80.c1
      go_wp2_with fail
      clear p84 p85
      refine (laws_szWords y1 A1 n1 c1 (1048576 - n0) w75 (by omega) (by omega) (by omega)).mono ?_
      rintro e w86 ⟨rfl, b86⟩
      rw [hF1]
      have o87 := o76.below b86 (by omega)
      have o88 := o77.below b86 (by omega)
      have k89 := k78.below b86
      clear k78
      have q90 := k89.lt
      have k91 := k80.below b86
      clear k80
      have q92 := k91.lt
      have B93 : Below w.heap.size w w86 := B82.trans (b86.mono B82.size)
      have s94 := b86.size
      clear hF0 hF1
      have p96 := k89.c0
      have p97 := k89.c1
      have p98 := k91.c0
      have p99 := k91.c1
      go_upto_region 8 with fail
      go_cut [6, 7] (fun s6 s7 wx => ∃ (A : Option Addr) (n c b : Nat), s6 = .pointer (some ⟨b, 0, none⟩) ∧ s7 = .bool ((mulF y0 xs0 y1 xs1).2) ∧ Below w86.heap.size w86 wx ∧ w86.heap.size ≤ b ∧ Cell2 wx b (.int .i64 ((mulF y0 xs0 y1 xs1).1).1) (.slice A n c) ∧ OwnI wx w86.heap.size wx.heap.size A n c (((mulF y0 xs0 y1 xs1).1).2))
      case first =>
        have d95 : Below w86.heap.size w86 w86.drew := (Below.refl _ _).drew
        go_region_held3 (fun w' => w'.cell? ⟨w.heap.size, 0, none⟩ = some (.int .i64 y0) ∧ w'.cell? ⟨w.heap.size, 1, none⟩ = some (.slice A0 n0 c0) ∧ w'.cell? ⟨w.heap.size + 1, 0, none⟩ = some (.int .i64 y1) ∧ w'.cell? ⟨w.heap.size + 1, 1, none⟩ = some (.slice A1 n1 c1)) (first | exact ⟨p96, p97, p98, p99⟩ | exact ⟨P95_0_0_c0, P95_0_0_c1, P95_0_1_c0, P95_0_1_c1⟩ | exact ⟨P95_1_0_c0, P95_1_0_c1, P95_1_1_c0, P95_1_1_c1⟩ | exact ⟨Q95_0_c0, Q95_0_c1, Q95_1_c0, Q95_1_c1⟩ | exact ⟨cell_alloc_far p96, cell_alloc_far p97, cell_alloc_far p98, cell_alloc_far p99⟩ | exact ⟨cell_alloc_far P95_0_0_c0, cell_alloc_far P95_0_0_c1, cell_alloc_far P95_0_1_c0, cell_alloc_far P95_0_1_c1⟩ | exact ⟨cell_alloc_far P95_1_0_c0, cell_alloc_far P95_1_0_c1, cell_alloc_far P95_1_1_c0, cell_alloc_far P95_1_1_c1⟩ | exact ⟨cell_alloc_far Q95_0_c0, cell_alloc_far Q95_0_c1, cell_alloc_far Q95_1_c0, cell_alloc_far Q95_1_c1⟩ | exact ⟨cell_far Q95_0_c0 ne0_0, cell_far Q95_0_c1 ne0_0, cell_far Q95_1_c0 ne0_1, cell_far Q95_1_c1 ne0_1⟩ | exact ⟨cell_far Q95_0_c0 ne1_0, cell_far Q95_0_c1 ne1_0, cell_far Q95_1_c0 ne1_1, cell_far Q95_1_c1 ne1_1⟩ | exact ⟨cell_far Q95_0_c0 ne2_0, cell_far Q95_0_c1 ne2_0, cell_far Q95_1_c0 ne2_1, cell_far Q95_1_c1 ne2_1⟩ | go_keep)
          (first
            | (go_at_call_of 21 (Value.agg #[.int .i64 y0, .slice A0 n0 c0]); refine (laws_toWords y0 A0 n0 c0 xs0 0 w.heap.size _ (o87.below (B := w86.heap.size) (by (repeat (first | with_reducible exact d95 | with_reducible exact Below.refl _ _ | with_reducible refine Below.drew ?_ | ((with_reducible refine Below.alloc ?_ ?_ _); rotate_left; · first | omega | (simp [World.setCell]; done) | (simp [World.setCell]; omega)) | ((with_reducible refine Below.setCell ?_ ?_ _); rotate_left; · first | exact Nat.le_refl _ | omega | (simp; done) | (simp; omega))))) (by omega)) (by first | omega | (simp; omega)) (by omega)).mono ?_; rintro e u95_0 ⟨AA95_0, cc95_0, rfl, ou95_0, bu95_0⟩; have BU95_0 : Below w86.heap.size w86 u95_0 := (by refine Below.trans ?_ (Below.mono bu95_0 ?_); (· (repeat (first | with_reducible exact d95 | with_reducible exact Below.refl _ _ | with_reducible refine Below.drew ?_ | ((with_reducible refine Below.alloc ?_ ?_ _); rotate_left; · first | omega | (simp [World.setCell]; done) | (simp [World.setCell]; omega)) | ((with_reducible refine Below.setCell ?_ ?_ _); rotate_left; · first | exact Nat.le_refl _ | omega | (simp; done) | (simp; omega))))); (· first | omega | (simp; omega) | simp)); have sz95_0 := BU95_0.size; have P95_0_0_c0 := (k89.below BU95_0).c0; have P95_0_0_c1 := (k89.below BU95_0).c1; have P95_0_1_c0 := (k91.below BU95_0).c0; have P95_0_1_c1 := (k91.below BU95_0).c1; (first | (have kb0 : Blk2 u95_0 w86.heap.size (.int .i64 0) (.slice none 0 0) := (Blk2.new w86.drew (.int .i64 0) (.slice none 0 0) 38).below bu95_0) | (have kb0 : Blk2 u95_0 w86.heap.size (.int .i64 0) (.slice none 0 0) := (Blk2.new w86 (.int .i64 0) (.slice none 0 0) 38).drew.below bu95_0) | skip); (first | (have ltk0 := kb0.lt) | skip))
            | (go_at_call_of 21 (Value.agg #[.int .i64 y1, .slice A1 n1 c1]); refine (laws_toWords y1 A1 n1 c1 xs1 0 w.heap.size _ (o88.below (B := w86.heap.size) (by (repeat (first | with_reducible exact BU95_0 | with_reducible exact Below.refl _ _ | with_reducible refine Below.drew ?_ | ((with_reducible refine Below.alloc ?_ ?_ _); rotate_left; · first | omega | (simp [World.setCell]; done) | (simp [World.setCell]; omega)) | ((with_reducible refine Below.setCell ?_ ?_ _); rotate_left; · first | exact Nat.le_refl _ | omega | (simp; done) | (simp; omega))))) (by omega)) (by first | omega | (simp; omega)) (by omega)).mono ?_; rintro e u95_1 ⟨AA95_1, cc95_1, rfl, ou95_1, bu95_1⟩; have BU95_1 : Below w86.heap.size w86 u95_1 := (by refine Below.trans ?_ (Below.mono bu95_1 ?_); (· (repeat (first | with_reducible exact BU95_0 | with_reducible exact Below.refl _ _ | with_reducible refine Below.drew ?_ | ((with_reducible refine Below.alloc ?_ ?_ _); rotate_left; · first | omega | (simp [World.setCell]; done) | (simp [World.setCell]; omega)) | ((with_reducible refine Below.setCell ?_ ?_ _); rotate_left; · first | exact Nat.le_refl _ | omega | (simp; done) | (simp; omega))))); (· first | omega | (simp; omega) | simp)); have sz95_1 := BU95_1.size; have P95_1_0_c0 := (k89.below BU95_1).c0; have P95_1_0_c1 := (k89.below BU95_1).c1; have P95_1_1_c0 := (k91.below BU95_1).c0; have P95_1_1_c1 := (k91.below BU95_1).c1; (first | (have kb1 := kb0.below bu95_1) | (have kb1 := (Blk2.new u95_0 (.int .i64 0) (.slice none 0 0) 38).below bu95_1) | skip); (first | (have ltk1 := kb1.lt) | skip); have BV95_1 : Below u95_0.heap.size u95_0 u95_1 := (by refine Below.trans ?_ (Below.mono bu95_1 ?_); (· (repeat (first | with_reducible exact Below.refl _ _ | with_reducible exact Below.refl _ _ | with_reducible refine Below.drew ?_ | ((with_reducible refine Below.alloc ?_ ?_ _); rotate_left; · first | omega | (simp [World.setCell]; done) | (simp [World.setCell]; omega)) | ((with_reducible refine Below.setCell ?_ ?_ _); rotate_left; · first | exact Nat.le_refl _ | omega | (simp; done) | (simp; omega))))); (· simp)); have tz95_1 := BV95_1.size)
            | (go_at_call 20; refine (spec_MulWords y0 AA95_0 n0 cc95_0 xs0 _ _ y1 AA95_1 n1 cc95_1 xs1 _ _ _ (ou95_0.below (B := u95_0.heap.size) (by (repeat (first | with_reducible exact BV95_1 | with_reducible exact Below.refl _ _ | with_reducible refine Below.drew ?_ | ((with_reducible refine Below.alloc ?_ ?_ _); rotate_left; · first | omega | (simp [World.setCell]; done) | (simp [World.setCell]; omega)) | ((with_reducible refine Below.setCell ?_ ?_ _); rotate_left; · first | exact Nat.le_refl _ | omega | (simp; done) | (simp; omega))))) (Nat.le_refl _)).ints (ou95_1.below (B := u95_1.heap.size) (by (repeat (first | with_reducible exact Below.refl _ _ | with_reducible exact Below.refl _ _ | with_reducible refine Below.drew ?_ | ((with_reducible refine Below.alloc ?_ ?_ _); rotate_left; · first | omega | (simp [World.setCell]; done) | (simp [World.setCell]; omega)) | ((with_reducible refine Below.setCell ?_ ?_ _); rotate_left; · first | exact Nat.le_refl _ | omega | (simp; done) | (simp; omega))))) (Nat.le_refl _)).ints (by first | omega | (simp; omega) | simp) (by first | omega | (simp; omega) | simp)).mono ?_; rintro e w95 ⟨A95, n95, c95, rfl, o95, b95⟩; have BC95 : Below w86.heap.size w86 w95 := (by refine Below.trans ?_ (Below.mono b95 ?_); (· (repeat (first | with_reducible exact BU95_1 | with_reducible exact Below.refl _ _ | with_reducible refine Below.drew ?_ | ((with_reducible refine Below.alloc ?_ ?_ _); rotate_left; · first | omega | (simp [World.setCell]; done) | (simp [World.setCell]; omega)) | ((with_reducible refine Below.setCell ?_ ?_ _); rotate_left; · first | exact Nat.le_refl _ | omega | (simp; done) | (simp; omega))))); (· first | omega | (simp; omega) | simp)); have szc95 := BC95.size; have Q95_0_c0 := (k89.below BC95).c0; have Q95_0_c1 := (k89.below BC95).c1; have Q95_1_c0 := (k91.below BC95).c0; have Q95_1_c1 := (k91.below BC95).c1; have OC95 : OwnI w95 w86.heap.size w95.heap.size A95 n95 c95 (((mulF y0 xs0 y1 xs1).1).2) := o95.wide (by first | omega | (simp; omega)) (Nat.le_refl _); (first | (have kc := kb1.below b95) | (have kc := (Blk2.new u95_1 (.int .i64 0) (.slice none 0 0) 38).below b95) | skip); (first | (have z0 := kc.c0; have z1 := kc.c1; have z2 := kc.f0; have z3 := kc.f1; have z4 := kc.lt) | skip); have ne0_0 : ¬ w.heap.size = w86.heap.size := (by omega); have ne0_1 : ¬ w.heap.size + 1 = w86.heap.size := (by omega); have ne1_0 : ¬ w.heap.size = u95_0.heap.size := (by omega); have ne1_1 : ¬ w.heap.size + 1 = u95_0.heap.size := (by omega); have ne2_0 : ¬ w.heap.size = u95_1.heap.size := (by omega); have ne2_1 : ¬ w.heap.size + 1 = u95_1.heap.size := (by omega)))
        all_goals go_wp2_with fail
        all_goals go_meet
        all_goals first
          | exact ⟨A95, n95, c95, _, rfl, rfl, BC95.trans ((below_alloc w95 _).mono szc95), szc95, Cell2.new w95 _ _ _, (OC95.below (below_alloc w95 _) (Nat.le_refl _)).wide (Nat.le_refl _) (by simp)⟩
          | exact ⟨A95, n95, c95, w86.heap.size, rfl, rfl, (by (repeat (first | with_reducible exact BC95 | with_reducible exact Below.refl _ _ | with_reducible refine Below.drew ?_ | ((with_reducible refine Below.alloc ?_ ?_ _); rotate_left; · first | omega | (simp [World.setCell]; done) | (simp [World.setCell]; omega)) | ((with_reducible refine Below.setCell ?_ ?_ _); rotate_left; · first | exact Nat.le_refl _ | omega | (simp; done) | (simp; omega))))), (by omega), kc.store _ _, (OwnI.same o95 (by (repeat (first | with_reducible exact Same.refl _ _ _ | with_reducible refine Same.drew ?_ | ((with_reducible refine Same.alloc ?_ ?_ _); rotate_left; · first | omega | (simp [World.setCell]; done) | (simp [World.setCell]; omega)) | ((with_reducible refine Same.setCell ?_ ?_ _); rotate_left; · first | omega | (simp; done) | (simp; omega)))))).wide (by first | omega | (simp; omega) | simp) (by simp [World.setCell])⟩
          | exact ⟨A95, n95, c95, u95_0.heap.size, rfl, rfl, (by (repeat (first | with_reducible exact BC95 | with_reducible exact Below.refl _ _ | with_reducible refine Below.drew ?_ | ((with_reducible refine Below.alloc ?_ ?_ _); rotate_left; · first | omega | (simp [World.setCell]; done) | (simp [World.setCell]; omega)) | ((with_reducible refine Below.setCell ?_ ?_ _); rotate_left; · first | exact Nat.le_refl _ | omega | (simp; done) | (simp; omega))))), (by omega), kc.store _ _, (OwnI.same o95 (by (repeat (first | with_reducible exact Same.refl _ _ _ | with_reducible refine Same.drew ?_ | ((with_reducible refine Same.alloc ?_ ?_ _); rotate_left; · first | omega | (simp [World.setCell]; done) | (simp [World.setCell]; omega)) | ((with_reducible refine Same.setCell ?_ ?_ _); rotate_left; · first | omega | (simp; done) | (simp; omega)))))).wide (by first | omega | (simp; omega) | simp) (by simp [World.setCell])⟩
          | exact ⟨A95, n95, c95, u95_1.heap.size, rfl, rfl, (by (repeat (first | with_reducible exact BC95 | with_reducible exact Below.refl _ _ | with_reducible refine Below.drew ?_ | ((with_reducible refine Below.alloc ?_ ?_ _); rotate_left; · first | omega | (simp [World.setCell]; done) | (simp [World.setCell]; omega)) | ((with_reducible refine Below.setCell ?_ ?_ _); rotate_left; · first | exact Nat.le_refl _ | omega | (simp; done) | (simp; omega))))), (by omega), kc.store _ _, (OwnI.same o95 (by (repeat (first | with_reducible exact Same.refl _ _ _ | with_reducible refine Same.drew ?_ | ((with_reducible refine Same.alloc ?_ ?_ _); rotate_left; · first | omega | (simp [World.setCell]; done) | (simp [World.setCell]; omega)) | ((with_reducible refine Same.setCell ?_ ?_ _); rotate_left; · first | omega | (simp; done) | (simp; omega)))))).wide (by first | omega | (simp; omega) | simp) (by simp [World.setCell])⟩
      case rest =>
        obtain ⟨A95, n95, c95, blk95, rfl, rfl, b95, hblk95, kl95, o95⟩ := hcut
        obtain ⟨w95, rfl⟩ : ∃ W : World, W = wc := ⟨_, rfl⟩
        clear p96 p97 p98 p99
        have q100 := kl95.lt
        have o101 := o87.below b95 (by omega)
        have o102 := o88.below b95 (by omega)
        have k103 := k89.below b95
        clear k89
        have q104 := k103.lt
        have k105 := k91.below b95
        clear k91
        have q106 := k105.lt
        have B107 : Below w.heap.size w w95 := B93.trans (b95.mono B93.size)
        have s108 := b95.size
        have p109 := k103.c0
        have p110 := k103.c1
        go_wp2_with fail
        clear p109 p110
        refine (laws_toWords y0 A0 n0 c0 xs0 0 w.heap.size w95 o101 (by omega) (by omega)).mono ?_
        rintro e w111 ⟨A111, c111, rfl, o111, b111⟩
        have o112 := o101.below b111 (by omega)
        have o113 := o102.below b111 (by omega)
        have o114 := o95.below b111 (by omega)
        clear o95
        have k115 := k103.below b111
        clear k103
        have q116 := k115.lt
        have k117 := k105.below b111
        clear k105
        have q118 := k117.lt
        have k119 := kl95.below b111
        clear kl95
        have q120 := k119.lt
        have B121 : Below w.heap.size w w111 := B107.trans (b111.mono B107.size)
        have s122 := b111.size
        have p124 := k115.c0
        have p125 := k115.c1
        have p126 := k117.c0
        have p127 := k117.c1
        have p128 := k119.c0
        have p129 := k119.c1
        go_wp2_with fail
        clear p124 p125 p126 p127 p128 p129
        have a123 := below_alloc w111 (.cells #[(.int .i64 y0), (.slice A111 n0 c111)] 38)
        have k123 := Cell2.new w111 (.int .i64 y0) (.slice A111 n0 c111) 38
        generalize World.alloc w111 (.cells #[(.int .i64 y0), (.slice A111 n0 c111)] 38) = w123 at a123 k123 ⊢
        have o130 := o112.below a123 (by omega)
        have o131 := o113.below a123 (by omega)
        have o132 := o114.below a123 (by omega)
        clear o114
        have o133 := o111.below a123 (by omega)
        clear o111
        have k134 := k115.below a123
        clear k115
        have q135 := k134.lt
        have k136 := k117.below a123
        clear k117
        have q137 := k136.lt
        have k138 := k119.below a123
        clear k119
        have q139 := k138.lt
        have B140 : Below w.heap.size w w123 := B121.trans (a123.mono B121.size)
        have s141 := a123.size
        have q142 := k123.lt
        have p143 := k136.c0
        have p144 := k136.c1
        go_wp2_with fail
        clear p143 p144
        refine (laws_toWords y1 A1 n1 c1 xs1 0 w.heap.size w123 o131 (by omega) (by omega)).mono ?_
        rintro e w145 ⟨A145, c145, rfl, o145, b145⟩
        have o146 := o130.below b145 (by omega)
        have o147 := o131.below b145 (by omega)
        have o148 := o132.below b145 (by omega)
        clear o132
        have o149 := o133.below b145 (by omega)
        clear o133
        have k150 := k134.below b145
        clear k134
        have q151 := k150.lt
        have k152 := k136.below b145
        clear k136
        have q153 := k152.lt
        have k154 := k138.below b145
        clear k138
        have q155 := k154.lt
        have k156 := k123.below b145
        clear k123
        have q157 := k156.lt
        have B158 : Below w.heap.size w w145 := B140.trans (b145.mono B140.size)
        have s159 := b145.size
        have p161 := k150.c0
        have p162 := k150.c1
        have p163 := k152.c0
        have p164 := k152.c1
        have p165 := k154.c0
        have p166 := k154.c1
        have p167 := k156.c0
        have p168 := k156.c1
        go_wp2_with fail
        clear p161 p162 p163 p164 p165 p166 p167 p168
        have a160 := below_alloc w145 (.cells #[(.int .i64 y1), (.slice A145 n1 c145)] 38)
        have k160 := Cell2.new w145 (.int .i64 y1) (.slice A145 n1 c145) 38
        generalize World.alloc w145 (.cells #[(.int .i64 y1), (.slice A145 n1 c145)] 38) = w160 at a160 k160 ⊢
        have o169 := o146.below a160 (by omega)
        have o170 := o147.below a160 (by omega)
        have o171 := o148.below a160 (by omega)
        clear o148
        have o172 := o149.below a160 (by omega)
        clear o149
        have o173 := o145.below a160 (by omega)
        clear o145
        have k174 := k150.below a160
        clear k150
        have q175 := k174.lt
        have k176 := k152.below a160
        clear k152
        have q177 := k176.lt
        have k178 := k154.below a160
        clear k154
        have q179 := k178.lt
        have k180 := k156.below a160
        clear k156
        have q181 := k180.lt
        have B182 : Below w.heap.size w w160 := B158.trans (a160.mono B158.size)
        have s183 := a160.size
        have q184 := k160.lt
        have p185 := k180.c0
        have p186 := k180.c1
        have p187 := k160.c0
        have p188 := k160.c1
        go_wp2_with fail
        refine (impl_MulWords y0 A111 n0 c111 xs0 w95.heap.size w111.heap.size y1 A145 n1 c145 xs1 w123.heap.size w145.heap.size w160 o172.ints o173.ints (by omega) (by omega)).mono ?_
        rintro e w189 ⟨A189, n189, c189, rfl, o189, b189⟩
        have o190 := o169.below b189 (by omega)
        have o191 := o170.below b189 (by omega)
        have o192 := o171.below b189 (by omega)
        clear o171
        have o193 := o172.below b189 (by omega)
        clear o172
        have o194 := o173.below b189 (by omega)
        clear o173
        have k195 := k174.below b189
        clear k174
        have q196 := k195.lt
        have k197 := k176.below b189
        clear k176
        have q198 := k197.lt
        have k199 := k178.below b189
        clear k178
        have q200 := k199.lt
        have k201 := k180.below b189
        clear k180
        have q202 := k201.lt
        have k203 := k160.below b189
        clear k160
        have q204 := k203.lt
        have B205 : Below w.heap.size w w189 := B182.trans (b189.mono B182.size)
        have s206 := b189.size
        clear p185 p186 p187 p188
        have hln : n189 ≤ 1048576 := by have hl1 := o189.len; have hl2 := mul_len y0 xs0 y1 xs1; omega
        have p208 := k195.c0
        have p209 := k195.c1
        have p210 := k197.c0
        have p211 := k197.c1
        have p212 := k199.c0
        have p213 := k199.c1
        have p214 := k201.c0
        have p215 := k201.c1
        have p216 := k203.c0
        have p217 := k203.c1
        go_wp2_with fail
        clear p208 p209 p210 p211 p212 p213 p214 p215 p216 p217
        have a207 := below_alloc w189 (.cells #[(.int .i64 ((mulF y0 xs0 y1 xs1).1).1), (.slice A189 n189 c189)] 38)
        have k207 := Cell2.new w189 (.int .i64 ((mulF y0 xs0 y1 xs1).1).1) (.slice A189 n189 c189) 38
        generalize World.alloc w189 (.cells #[(.int .i64 ((mulF y0 xs0 y1 xs1).1).1), (.slice A189 n189 c189)] 38) = w207 at a207 k207 ⊢
        have o218 := o190.below a207 (by omega)
        have o219 := o191.below a207 (by omega)
        have o220 := o192.below a207 (by omega)
        clear o192
        have o221 := o193.below a207 (by omega)
        clear o193
        have o222 := o194.below a207 (by omega)
        clear o194
        have o223 := o189.below a207 (by omega)
        clear o189
        have k224 := k195.below a207
        clear k195
        have q225 := k224.lt
        have k226 := k197.below a207
        clear k197
        have q227 := k226.lt
        have k228 := k199.below a207
        clear k199
        have q229 := k228.lt
        have k230 := k201.below a207
        clear k201
        have q231 := k230.lt
        have k232 := k203.below a207
        clear k203
        have q233 := k232.lt
        have B234 : Below w.heap.size w w207 := B205.trans (a207.mono B205.size)
        have s235 := a207.size
        have q236 := k207.lt
        have p237 := k207.c0
        have p238 := k207.c1
        have p239 := k228.c0
        have p240 := k228.c1
        go_wp2_with fail
        clear p237 p238 p239 p240
        refine (laws_eqWords ((mulF y0 xs0 y1 xs1).1).1 A189 n189 c189 ((mulF y0 xs0 y1 xs1).1).2 w160.heap.size w189.heap.size ((mulF y0 xs0 y1 xs1).1).1 A95 n95 c95 ((mulF y0 xs0 y1 xs1).1).2 w86.heap.size w95.heap.size w207 o223.ints o220.ints (by omega) (by omega)).mono ?_
        rintro e w241 ⟨rfl, b241⟩
        have o242 := o218.below b241 (by omega)
        have o243 := o219.below b241 (by omega)
        have o244 := o220.below b241 (by omega)
        clear o220
        have o245 := o221.below b241 (by omega)
        clear o221
        have o246 := o222.below b241 (by omega)
        clear o222
        have o247 := o223.below b241 (by omega)
        clear o223
        have k248 := k224.below b241
        clear k224
        have q249 := k248.lt
        have k250 := k226.below b241
        clear k226
        have q251 := k250.lt
        have k252 := k228.below b241
        clear k228
        have q253 := k252.lt
        have k254 := k230.below b241
        clear k230
        have q255 := k254.lt
        have k256 := k232.below b241
        clear k232
        have q257 := k256.lt
        have k258 := k207.below b241
        clear k207
        have q259 := k258.lt
        have B260 : Below w.heap.size w w241 := B234.trans (b241.mono B234.size)
        have s261 := b241.size
        have p262 := k248.c0
        have p263 := k248.c1
        have p264 := k254.c0
        have p265 := k254.c1
        go_wp2_with fail
        have d266 : Below w241.heap.size w241 w241.drew := (Below.refl _ _).drew
        have la266 := k248.below d266
        have lx266 := k254.below d266
        have ha266 := o242.below d266 (by omega)
        have hx266 := o245.below d266 (by omega)
        have zd266 := d266.size
        go_region_held3 (fun w' => w'.cell? ⟨w.heap.size, 0, none⟩ = some (.int .i64 y0) ∧ w'.cell? ⟨w.heap.size, 1, none⟩ = some (.slice A0 n0 c0) ∧ w'.cell? ⟨w111.heap.size, 0, none⟩ = some (.int .i64 y0) ∧ w'.cell? ⟨w111.heap.size, 1, none⟩ = some (.slice A111 n0 c111)) (first | exact ⟨p262, p263, p264, p265⟩ | exact ⟨P1, P2, P3, P4⟩ | exact ⟨Q1, Q2, Q3, Q4⟩ | go_keep)
          (first
            | (go_at_call 21; refine (laws_toWords y0 A0 n0 c0 xs0 0 w.heap.size w241.drew ha266 (by omega) (by omega)).mono ?_; rintro e u266 ⟨AA266, cc266, rfl, ou266, bu266⟩; have P1 := (la266.below bu266).c0; have P2 := (la266.below bu266).c1; have P3 := (lx266.below bu266).c0; have P4 := (lx266.below bu266).c1)
            | (go_at_call 23; refine (laws_eqWords y0 A111 n0 c111 xs0 w95.heap.size w111.heap.size y0 AA266 n0 cc266 xs0 _ _ u266 (hx266.below bu266 (by omega)).ints ou266.ints (by have := bu266.size; omega) (by omega)).mono ?_; rintro e v266 ⟨rfl, bv266⟩; have Q1 := ((la266.below bu266).below bv266).c0; have Q2 := ((la266.below bu266).below bv266).c1; have Q3 := ((lx266.below bu266).below bv266).c0; have Q4 := ((lx266.below bu266).below bv266).c1))
        have be266 : Below w241.heap.size w241 v266 := d266.trans ((bu266.trans (bv266.mono bu266.size)).mono d266.size)
        clear p262 p263 p264 p265 la266 lx266 ha266 hx266 P1 P2 P3 P4 Q1 Q2 Q3 Q4
        have o267 := o242.below be266 (by omega)
        have o268 := o243.below be266 (by omega)
        have o269 := o244.below be266 (by omega)
        clear o244
        have o270 := o245.below be266 (by omega)
        clear o245
        have o271 := o246.below be266 (by omega)
        clear o246
        have o272 := o247.below be266 (by omega)
        clear o247
        have k273 := k248.below be266
        clear k248
        have q274 := k273.lt
        have k275 := k250.below be266
        clear k250
        have q276 := k275.lt
        have k277 := k252.below be266
        clear k252
        have q278 := k277.lt
        have k279 := k254.below be266
        clear k254
        have q280 := k279.lt
        have k281 := k256.below be266
        clear k256
        have q282 := k281.lt
        have k283 := k258.below be266
        clear k258
        have q284 := k283.lt
        have B285 : Below w.heap.size w v266 := B260.trans (be266.mono B260.size)
        have s286 := be266.size
        have p287 := k275.c0
        have p288 := k275.c1
        have p289 := k281.c0
        have p290 := k281.c1
        go_wp2_with fail
        have d291 : Below v266.heap.size v266 v266.drew := (Below.refl _ _).drew
        have la291 := k275.below d291
        have lx291 := k281.below d291
        have ha291 := o268.below d291 (by omega)
        have hx291 := o271.below d291 (by omega)
        have zd291 := d291.size
        go_region_held3 (fun w' => w'.cell? ⟨w.heap.size + 1, 0, none⟩ = some (.int .i64 y1) ∧ w'.cell? ⟨w.heap.size + 1, 1, none⟩ = some (.slice A1 n1 c1) ∧ w'.cell? ⟨w145.heap.size, 0, none⟩ = some (.int .i64 y1) ∧ w'.cell? ⟨w145.heap.size, 1, none⟩ = some (.slice A145 n1 c145)) (first | exact ⟨p287, p288, p289, p290⟩ | exact ⟨P1, P2, P3, P4⟩ | exact ⟨Q1, Q2, Q3, Q4⟩ | go_keep)
          (first
            | (go_at_call 21; refine (laws_toWords y1 A1 n1 c1 xs1 0 w.heap.size v266.drew ha291 (by omega) (by omega)).mono ?_; rintro e u291 ⟨AA291, cc291, rfl, ou291, bu291⟩; have P1 := (la291.below bu291).c0; have P2 := (la291.below bu291).c1; have P3 := (lx291.below bu291).c0; have P4 := (lx291.below bu291).c1)
            | (go_at_call 23; refine (laws_eqWords y1 A145 n1 c145 xs1 w123.heap.size w145.heap.size y1 AA291 n1 cc291 xs1 _ _ u291 (hx291.below bu291 (by omega)).ints ou291.ints (by have := bu291.size; omega) (by omega)).mono ?_; rintro e v291 ⟨rfl, bv291⟩; have Q1 := ((la291.below bu291).below bv291).c0; have Q2 := ((la291.below bu291).below bv291).c1; have Q3 := ((lx291.below bu291).below bv291).c0; have Q4 := ((lx291.below bu291).below bv291).c1))
        have be291 : Below v266.heap.size v266 v291 := d291.trans ((bu291.trans (bv291.mono bu291.size)).mono d291.size)
        clear p287 p288 p289 p290 la291 lx291 ha291 hx291 P1 P2 P3 P4 Q1 Q2 Q3 Q4
        have o292 := o267.below be291 (by omega)
        have o293 := o268.below be291 (by omega)
        have o294 := o269.below be291 (by omega)
        clear o269
        have o295 := o270.below be291 (by omega)
        clear o270
        have o296 := o271.below be291 (by omega)
        clear o271
        have o297 := o272.below be291 (by omega)
        clear o272
        have k298 := k273.below be291
        clear k273
        have q299 := k298.lt
        have k300 := k275.below be291
        clear k275
        have q301 := k300.lt
        have k302 := k277.below be291
        clear k277
        have q303 := k302.lt
        have k304 := k279.below be291
        clear k279
        have q305 := k304.lt
        have k306 := k281.below be291
        clear k281
        have q307 := k306.lt
        have k308 := k283.below be291
        clear k283
        have q309 := k308.lt
        have B310 : Below w.heap.size w v291 := B285.trans (be291.mono B285.size)
        have s311 := be291.size
        have p312 := k304.c0
        have p313 := k304.c1
        go_wp2_with fail
        clear p312 p313
        refine (laws_markWords y0 A111 n0 c111 xs0 w95.heap.size w111.heap.size (1) v291 o295 (by omega) (by omega) (by omega)).mono ?_
        rintro e w314 ⟨rfl, o314, t314⟩
        have o315 := o292.same (t314.same (by omega) (by omega))
        have o316 := o293.same (t314.same (by omega) (by omega))
        have o317 := o294.same (t314.same (by omega) (by omega))
        clear o294
        have o318 := o296.same (t314.same (by omega) (by omega))
        clear o296
        have o319 := o297.same (t314.same (by omega) (by omega))
        clear o297
        have k320 := k298.touch t314 (by omega)
        clear k298
        have q321 := k320.lt
        have k322 := k300.touch t314 (by omega)
        clear k300
        have q323 := k322.lt
        have k324 := k302.touch t314 (by omega)
        clear k302
        have q325 := k324.lt
        have k326 := k304.touch t314 (by omega)
        clear k304
        have q327 := k326.lt
        have k328 := k306.touch t314 (by omega)
        clear k306
        have q329 := k328.lt
        have k330 := k308.touch t314 (by omega)
        clear k308
        have q331 := k330.lt
        have B332 : Below w.heap.size w w314 := B310.trans (t314.below (by omega) (by omega))
        have s333 := t314.size
        clear o295
        have p334 := k328.c0
        have p335 := k328.c1
        go_wp2_with fail
        clear p334 p335
        refine (laws_markWords y1 A145 n1 c145 xs1 w123.heap.size w145.heap.size (1 + n0) w314 o318 (by omega) (by omega) (by omega)).mono ?_
        rintro e w336 ⟨rfl, o336, t336⟩
        have o337 := o315.same (t336.same (by omega) (by omega))
        have o338 := o316.same (t336.same (by omega) (by omega))
        have o339 := o317.same (t336.same (by omega) (by omega))
        clear o317
        have o340 := o314.same (t336.same (by omega) (by omega))
        clear o314
        have o341 := o319.same (t336.same (by omega) (by omega))
        clear o319
        have k342 := k320.touch t336 (by omega)
        clear k320
        have q343 := k342.lt
        have k344 := k322.touch t336 (by omega)
        clear k322
        have q345 := k344.lt
        have k346 := k324.touch t336 (by omega)
        clear k324
        have q347 := k346.lt
        have k348 := k326.touch t336 (by omega)
        clear k326
        have q349 := k348.lt
        have k350 := k328.touch t336 (by omega)
        clear k328
        have q351 := k350.lt
        have k352 := k330.touch t336 (by omega)
        clear k330
        have q353 := k352.lt
        have B354 : Below w.heap.size w w336 := B332.trans (t336.below (by omega) (by omega))
        have s355 := t336.size
        clear o318
        have p356 := k352.c0
        have p357 := k352.c1
        have p358 := k346.c0
        have p359 := k346.c1
        go_wp2_with fail
        clear p356 p357 p358 p359
        refine (laws_eqWords ((mulF y0 xs0 y1 xs1).1).1 A189 n189 c189 ((mulF y0 xs0 y1 xs1).1).2 w160.heap.size w189.heap.size ((mulF y0 xs0 y1 xs1).1).1 A95 n95 c95 ((mulF y0 xs0 y1 xs1).1).2 w86.heap.size w95.heap.size w336 o341.ints o339.ints (by omega) (by omega)).mono ?_
        rintro e w360 ⟨rfl, b360⟩
        have o361 := o337.below b360 (by omega)
        have o362 := o338.below b360 (by omega)
        have o363 := o339.below b360 (by omega)
        clear o339
        have o364 := o340.below b360 (by omega)
        clear o340
        have o365 := o336.below b360 (by omega)
        clear o336
        have o366 := o341.below b360 (by omega)
        clear o341
        have k367 := k342.below b360
        clear k342
        have q368 := k367.lt
        have k369 := k344.below b360
        clear k344
        have q370 := k369.lt
        have k371 := k346.below b360
        clear k346
        have q372 := k371.lt
        have k373 := k348.below b360
        clear k348
        have q374 := k373.lt
        have k375 := k350.below b360
        clear k350
        have q376 := k375.lt
        have k377 := k352.below b360
        clear k352
        have q378 := k377.lt
        have B379 : Below w.heap.size w w360 := B354.trans (b360.mono B354.size)
        have s380 := b360.size
        have p381 := k377.c0
        have p382 := k377.c1
        go_wp2_with fail
        clear p381 p382
        refine (laws_markWords ((mulF y0 xs0 y1 xs1).1).1 A189 n189 c189 ((mulF y0 xs0 y1 xs1).1).2 w160.heap.size w189.heap.size (1) w360 o366 (by omega) (by omega) (by omega)).mono ?_
        rintro e w383 ⟨rfl, o383, t383⟩
        have o384 := o361.same (t383.same (by omega) (by omega))
        have o385 := o362.same (t383.same (by omega) (by omega))
        have o386 := o363.same (t383.same (by omega) (by omega))
        clear o363
        have o387 := o364.same (t383.same (by omega) (by omega))
        clear o364
        have o388 := o365.same (t383.same (by omega) (by omega))
        clear o365
        have k389 := k367.touch t383 (by omega)
        clear k367
        have q390 := k389.lt
        have k391 := k369.touch t383 (by omega)
        clear k369
        have q392 := k391.lt
        have k393 := k371.touch t383 (by omega)
        clear k371
        have q394 := k393.lt
        have k395 := k373.touch t383 (by omega)
        clear k373
        have q396 := k395.lt
        have k397 := k375.touch t383 (by omega)
        clear k375
        have q398 := k397.lt
        have k399 := k377.touch t383 (by omega)
        clear k377
        have q400 := k399.lt
        have B401 : Below w.heap.size w w383 := B379.trans (t383.below (by omega) (by omega))
        have s402 := t383.size
        clear o366
        have p403 := k399.c0
        have p404 := k399.c1
        go_wp2_with fail
        clear p403 p404
        refine (laws_heldWords ((mulF y0 xs0 y1 xs1).1).1 A189 n189 c189 w160.heap.size w189.heap.size 1 w383 o383.ints (by omega) (by omega) (by omega)).mono ?_
        rintro e w405 ⟨rfl, b405⟩
        have o406 := o384.below b405 (by omega)
        have o407 := o385.below b405 (by omega)
        have o408 := o386.below b405 (by omega)
        clear o386
        have o409 := o387.below b405 (by omega)
        clear o387
        have o410 := o388.below b405 (by omega)
        clear o388
        have o411 := o383.below b405 (by omega)
        clear o383
        have k412 := k389.below b405
        clear k389
        have q413 := k412.lt
        have k414 := k391.below b405
        clear k391
        have q415 := k414.lt
        have k416 := k393.below b405
        clear k393
        have q417 := k416.lt
        have k418 := k395.below b405
        clear k395
        have q419 := k418.lt
        have k420 := k397.below b405
        clear k397
        have q421 := k420.lt
        have k422 := k399.below b405
        clear k399
        have q423 := k422.lt
        have B424 : Below w.heap.size w w405 := B401.trans (b405.mono B401.size)
        have s425 := b405.size
        have p427 := k412.c0
        have p428 := k412.c1
        have p429 := k414.c0
        have p430 := k414.c1
        go_upto_region 31 with fail
        go_cut [15, 16] (fun s6 s7 wx => ∃ (A : Option Addr) (n c b : Nat), s6 = .pointer (some ⟨b, 0, none⟩) ∧ s7 = .bool ((mulF y0 xs0 y1 xs1).2) ∧ Below w405.heap.size w405 wx ∧ w405.heap.size ≤ b ∧ Cell2 wx b (.int .i64 ((mulF y0 xs0 y1 xs1).1).1) (.slice A n c) ∧ OwnI wx w405.heap.size wx.heap.size A n c (((mulF y0 xs0 y1 xs1).1).2))
        case first =>
          have d426 : Below w405.heap.size w405 w405.drew := (Below.refl _ _).drew
          go_region_held3 (fun w' => w'.cell? ⟨w.heap.size, 0, none⟩ = some (.int .i64 y0) ∧ w'.cell? ⟨w.heap.size, 1, none⟩ = some (.slice A0 n0 c0) ∧ w'.cell? ⟨w.heap.size + 1, 0, none⟩ = some (.int .i64 y1) ∧ w'.cell? ⟨w.heap.size + 1, 1, none⟩ = some (.slice A1 n1 c1)) (first | exact ⟨p427, p428, p429, p430⟩ | exact ⟨P426_0_0_c0, P426_0_0_c1, P426_0_1_c0, P426_0_1_c1⟩ | exact ⟨P426_1_0_c0, P426_1_0_c1, P426_1_1_c0, P426_1_1_c1⟩ | exact ⟨Q426_0_c0, Q426_0_c1, Q426_1_c0, Q426_1_c1⟩ | exact ⟨cell_alloc_far p427, cell_alloc_far p428, cell_alloc_far p429, cell_alloc_far p430⟩ | exact ⟨cell_alloc_far P426_0_0_c0, cell_alloc_far P426_0_0_c1, cell_alloc_far P426_0_1_c0, cell_alloc_far P426_0_1_c1⟩ | exact ⟨cell_alloc_far P426_1_0_c0, cell_alloc_far P426_1_0_c1, cell_alloc_far P426_1_1_c0, cell_alloc_far P426_1_1_c1⟩ | exact ⟨cell_alloc_far Q426_0_c0, cell_alloc_far Q426_0_c1, cell_alloc_far Q426_1_c0, cell_alloc_far Q426_1_c1⟩ | exact ⟨cell_far Q426_0_c0 ne0_0, cell_far Q426_0_c1 ne0_0, cell_far Q426_1_c0 ne0_1, cell_far Q426_1_c1 ne0_1⟩ | exact ⟨cell_far Q426_0_c0 ne1_0, cell_far Q426_0_c1 ne1_0, cell_far Q426_1_c0 ne1_1, cell_far Q426_1_c1 ne1_1⟩ | exact ⟨cell_far Q426_0_c0 ne2_0, cell_far Q426_0_c1 ne2_0, cell_far Q426_1_c0 ne2_1, cell_far Q426_1_c1 ne2_1⟩ | go_keep)
            (first
              | (go_at_call_of 21 (Value.agg #[.int .i64 y0, .slice A0 n0 c0]); refine (laws_toWords y0 A0 n0 c0 xs0 0 w.heap.size _ (o406.below (B := w405.heap.size) (by (repeat (first | with_reducible exact d426 | with_reducible exact Below.refl _ _ | with_reducible refine Below.drew ?_ | ((with_reducible refine Below.alloc ?_ ?_ _); rotate_left; · first | omega | (simp [World.setCell]; done) | (simp [World.setCell]; omega)) | ((with_reducible refine Below.setCell ?_ ?_ _); rotate_left; · first | exact Nat.le_refl _ | omega | (simp; done) | (simp; omega))))) (by omega)) (by first | omega | (simp; omega)) (by omega)).mono ?_; rintro e u426_0 ⟨AA426_0, cc426_0, rfl, ou426_0, bu426_0⟩; have BU426_0 : Below w405.heap.size w405 u426_0 := (by refine Below.trans ?_ (Below.mono bu426_0 ?_); (· (repeat (first | with_reducible exact d426 | with_reducible exact Below.refl _ _ | with_reducible refine Below.drew ?_ | ((with_reducible refine Below.alloc ?_ ?_ _); rotate_left; · first | omega | (simp [World.setCell]; done) | (simp [World.setCell]; omega)) | ((with_reducible refine Below.setCell ?_ ?_ _); rotate_left; · first | exact Nat.le_refl _ | omega | (simp; done) | (simp; omega))))); (· first | omega | (simp; omega) | simp)); have sz426_0 := BU426_0.size; have P426_0_0_c0 := (k412.below BU426_0).c0; have P426_0_0_c1 := (k412.below BU426_0).c1; have P426_0_1_c0 := (k414.below BU426_0).c0; have P426_0_1_c1 := (k414.below BU426_0).c1; (first | (have kb0 : Blk2 u426_0 w405.heap.size (.int .i64 0) (.slice none 0 0) := (Blk2.new w405.drew (.int .i64 0) (.slice none 0 0) 38).below bu426_0) | (have kb0 : Blk2 u426_0 w405.heap.size (.int .i64 0) (.slice none 0 0) := (Blk2.new w405 (.int .i64 0) (.slice none 0 0) 38).drew.below bu426_0) | skip); (first | (have ltk0 := kb0.lt) | skip))
              | (go_at_call_of 21 (Value.agg #[.int .i64 y1, .slice A1 n1 c1]); refine (laws_toWords y1 A1 n1 c1 xs1 0 w.heap.size _ (o407.below (B := w405.heap.size) (by (repeat (first | with_reducible exact BU426_0 | with_reducible exact Below.refl _ _ | with_reducible refine Below.drew ?_ | ((with_reducible refine Below.alloc ?_ ?_ _); rotate_left; · first | omega | (simp [World.setCell]; done) | (simp [World.setCell]; omega)) | ((with_reducible refine Below.setCell ?_ ?_ _); rotate_left; · first | exact Nat.le_refl _ | omega | (simp; done) | (simp; omega))))) (by omega)) (by first | omega | (simp; omega)) (by omega)).mono ?_; rintro e u426_1 ⟨AA426_1, cc426_1, rfl, ou426_1, bu426_1⟩; have BU426_1 : Below w405.heap.size w405 u426_1 := (by refine Below.trans ?_ (Below.mono bu426_1 ?_); (· (repeat (first | with_reducible exact BU426_0 | with_reducible exact Below.refl _ _ | with_reducible refine Below.drew ?_ | ((with_reducible refine Below.alloc ?_ ?_ _); rotate_left; · first | omega | (simp [World.setCell]; done) | (simp [World.setCell]; omega)) | ((with_reducible refine Below.setCell ?_ ?_ _); rotate_left; · first | exact Nat.le_refl _ | omega | (simp; done) | (simp; omega))))); (· first | omega | (simp; omega) | simp)); have sz426_1 := BU426_1.size; have P426_1_0_c0 := (k412.below BU426_1).c0; have P426_1_0_c1 := (k412.below BU426_1).c1; have P426_1_1_c0 := (k414.below BU426_1).c0; have P426_1_1_c1 := (k414.below BU426_1).c1; (first | (have kb1 := kb0.below bu426_1) | (have kb1 := (Blk2.new u426_0 (.int .i64 0) (.slice none 0 0) 38).below bu426_1) | skip); (first | (have ltk1 := kb1.lt) | skip); have BV426_1 : Below u426_0.heap.size u426_0 u426_1 := (by refine Below.trans ?_ (Below.mono bu426_1 ?_); (· (repeat (first | with_reducible exact Below.refl _ _ | with_reducible exact Below.refl _ _ | with_reducible refine Below.drew ?_ | ((with_reducible refine Below.alloc ?_ ?_ _); rotate_left; · first | omega | (simp [World.setCell]; done) | (simp [World.setCell]; omega)) | ((with_reducible refine Below.setCell ?_ ?_ _); rotate_left; · first | exact Nat.le_refl _ | omega | (simp; done) | (simp; omega))))); (· simp)); have tz426_1 := BV426_1.size)
              | (go_at_call 22; refine (impl_MulWords y0 AA426_0 n0 cc426_0 xs0 _ _ y1 AA426_1 n1 cc426_1 xs1 _ _ _ (ou426_0.below (B := u426_0.heap.size) (by (repeat (first | with_reducible exact BV426_1 | with_reducible exact Below.refl _ _ | with_reducible refine Below.drew ?_ | ((with_reducible refine Below.alloc ?_ ?_ _); rotate_left; · first | omega | (simp [World.setCell]; done) | (simp [World.setCell]; omega)) | ((with_reducible refine Below.setCell ?_ ?_ _); rotate_left; · first | exact Nat.le_refl _ | omega | (simp; done) | (simp; omega))))) (Nat.le_refl _)).ints (ou426_1.below (B := u426_1.heap.size) (by (repeat (first | with_reducible exact Below.refl _ _ | with_reducible exact Below.refl _ _ | with_reducible refine Below.drew ?_ | ((with_reducible refine Below.alloc ?_ ?_ _); rotate_left; · first | omega | (simp [World.setCell]; done) | (simp [World.setCell]; omega)) | ((with_reducible refine Below.setCell ?_ ?_ _); rotate_left; · first | exact Nat.le_refl _ | omega | (simp; done) | (simp; omega))))) (Nat.le_refl _)).ints (by first | omega | (simp; omega) | simp) (by first | omega | (simp; omega) | simp)).mono ?_; rintro e w426 ⟨A426, n426, c426, rfl, o426, b426⟩; have BC426 : Below w405.heap.size w405 w426 := (by refine Below.trans ?_ (Below.mono b426 ?_); (· (repeat (first | with_reducible exact BU426_1 | with_reducible exact Below.refl _ _ | with_reducible refine Below.drew ?_ | ((with_reducible refine Below.alloc ?_ ?_ _); rotate_left; · first | omega | (simp [World.setCell]; done) | (simp [World.setCell]; omega)) | ((with_reducible refine Below.setCell ?_ ?_ _); rotate_left; · first | exact Nat.le_refl _ | omega | (simp; done) | (simp; omega))))); (· first | omega | (simp; omega) | simp)); have szc426 := BC426.size; have Q426_0_c0 := (k412.below BC426).c0; have Q426_0_c1 := (k412.below BC426).c1; have Q426_1_c0 := (k414.below BC426).c0; have Q426_1_c1 := (k414.below BC426).c1; have OC426 : OwnI w426 w405.heap.size w426.heap.size A426 n426 c426 (((mulF y0 xs0 y1 xs1).1).2) := o426.wide (by first | omega | (simp; omega)) (Nat.le_refl _); (first | (have kc := kb1.below b426) | (have kc := (Blk2.new u426_1 (.int .i64 0) (.slice none 0 0) 38).below b426) | skip); (first | (have z0 := kc.c0; have z1 := kc.c1; have z2 := kc.f0; have z3 := kc.f1; have z4 := kc.lt) | skip); have ne0_0 : ¬ w.heap.size = w405.heap.size := (by omega); have ne0_1 : ¬ w.heap.size + 1 = w405.heap.size := (by omega); have ne1_0 : ¬ w.heap.size = u426_0.heap.size := (by omega); have ne1_1 : ¬ w.heap.size + 1 = u426_0.heap.size := (by omega); have ne2_0 : ¬ w.heap.size = u426_1.heap.size := (by omega); have ne2_1 : ¬ w.heap.size + 1 = u426_1.heap.size := (by omega)))
          all_goals go_wp2_with fail
          all_goals go_meet
          all_goals first
            | exact ⟨A426, n426, c426, _, rfl, rfl, BC426.trans ((below_alloc w426 _).mono szc426), szc426, Cell2.new w426 _ _ _, (OC426.below (below_alloc w426 _) (Nat.le_refl _)).wide (Nat.le_refl _) (by simp)⟩
            | exact ⟨A426, n426, c426, w405.heap.size, rfl, rfl, (by (repeat (first | with_reducible exact BC426 | with_reducible exact Below.refl _ _ | with_reducible refine Below.drew ?_ | ((with_reducible refine Below.alloc ?_ ?_ _); rotate_left; · first | omega | (simp [World.setCell]; done) | (simp [World.setCell]; omega)) | ((with_reducible refine Below.setCell ?_ ?_ _); rotate_left; · first | exact Nat.le_refl _ | omega | (simp; done) | (simp; omega))))), (by omega), kc.store _ _, (OwnI.same o426 (by (repeat (first | with_reducible exact Same.refl _ _ _ | with_reducible refine Same.drew ?_ | ((with_reducible refine Same.alloc ?_ ?_ _); rotate_left; · first | omega | (simp [World.setCell]; done) | (simp [World.setCell]; omega)) | ((with_reducible refine Same.setCell ?_ ?_ _); rotate_left; · first | omega | (simp; done) | (simp; omega)))))).wide (by first | omega | (simp; omega) | simp) (by simp [World.setCell])⟩
            | exact ⟨A426, n426, c426, u426_0.heap.size, rfl, rfl, (by (repeat (first | with_reducible exact BC426 | with_reducible exact Below.refl _ _ | with_reducible refine Below.drew ?_ | ((with_reducible refine Below.alloc ?_ ?_ _); rotate_left; · first | omega | (simp [World.setCell]; done) | (simp [World.setCell]; omega)) | ((with_reducible refine Below.setCell ?_ ?_ _); rotate_left; · first | exact Nat.le_refl _ | omega | (simp; done) | (simp; omega))))), (by omega), kc.store _ _, (OwnI.same o426 (by (repeat (first | with_reducible exact Same.refl _ _ _ | with_reducible refine Same.drew ?_ | ((with_reducible refine Same.alloc ?_ ?_ _); rotate_left; · first | omega | (simp [World.setCell]; done) | (simp [World.setCell]; omega)) | ((with_reducible refine Same.setCell ?_ ?_ _); rotate_left; · first | omega | (simp; done) | (simp; omega)))))).wide (by first | omega | (simp; omega) | simp) (by simp [World.setCell])⟩
            | exact ⟨A426, n426, c426, u426_1.heap.size, rfl, rfl, (by (repeat (first | with_reducible exact BC426 | with_reducible exact Below.refl _ _ | with_reducible refine Below.drew ?_ | ((with_reducible refine Below.alloc ?_ ?_ _); rotate_left; · first | omega | (simp [World.setCell]; done) | (simp [World.setCell]; omega)) | ((with_reducible refine Below.setCell ?_ ?_ _); rotate_left; · first | exact Nat.le_refl _ | omega | (simp; done) | (simp; omega))))), (by omega), kc.store _ _, (OwnI.same o426 (by (repeat (first | with_reducible exact Same.refl _ _ _ | with_reducible refine Same.drew ?_ | ((with_reducible refine Same.alloc ?_ ?_ _); rotate_left; · first | omega | (simp [World.setCell]; done) | (simp [World.setCell]; omega)) | ((with_reducible refine Same.setCell ?_ ?_ _); rotate_left; · first | omega | (simp; done) | (simp; omega)))))).wide (by first | omega | (simp; omega) | simp) (by simp [World.setCell])⟩
        case rest =>
          obtain ⟨A426, n426, c426, blk426, rfl, rfl, b426, hblk426, kl426, o426⟩ := hcut
          obtain ⟨w426, rfl⟩ : ∃ W : World, W = wc := ⟨_, rfl⟩
          clear p427 p428 p429 p430
          have q431 := kl426.lt
          have o432 := o406.below b426 (by omega)
          have o433 := o407.below b426 (by omega)
          have o434 := o408.below b426 (by omega)
          clear o408
          have o435 := o409.below b426 (by omega)
          clear o409
          have o436 := o410.below b426 (by omega)
          clear o410
          have o437 := o411.below b426 (by omega)
          clear o411
          have k438 := k412.below b426
          clear k412
          have q439 := k438.lt
          have k440 := k414.below b426
          clear k414
          have q441 := k440.lt
          have k442 := k416.below b426
          clear k416
          have q443 := k442.lt
          have k444 := k418.below b426
          clear k418
          have q445 := k444.lt
          have k446 := k420.below b426
          clear k420
          have q447 := k446.lt
          have k448 := k422.below b426
          clear k422
          have q449 := k448.lt
          have B450 : Below w.heap.size w w426 := B424.trans (b426.mono B424.size)
          have s451 := b426.size
          have p452 := kl426.c0
          have p453 := kl426.c1
          have p454 := k442.c0
          have p455 := k442.c1
          go_wp2_with fail
          clear p452 p453 p454 p455
          refine (laws_eqWords ((mulF y0 xs0 y1 xs1).1).1 A426 n426 c426 ((mulF y0 xs0 y1 xs1).1).2 w405.heap.size w426.heap.size ((mulF y0 xs0 y1 xs1).1).1 A95 n95 c95 ((mulF y0 xs0 y1 xs1).1).2 w86.heap.size w95.heap.size w426 o426.ints o434.ints (by omega) (by omega)).mono ?_
          rintro e w456 ⟨rfl, b456⟩
          have o457 := o432.below b456 (by omega)
          have o458 := o433.below b456 (by omega)
          have o459 := o434.below b456 (by omega)
          clear o434
          have o460 := o435.below b456 (by omega)
          clear o435
          have o461 := o436.below b456 (by omega)
          clear o436
          have o462 := o437.below b456 (by omega)
          clear o437
          have o463 := o426.below b456 (by omega)
          clear o426
          have k464 := k438.below b456
          clear k438
          have q465 := k464.lt
          have k466 := k440.below b456
          clear k440
          have q467 := k466.lt
          have k468 := k442.below b456
          clear k442
          have q469 := k468.lt
          have k470 := k444.below b456
          clear k444
          have q471 := k470.lt
          have k472 := k446.below b456
          clear k446
          have q473 := k472.lt
          have k474 := k448.below b456
          clear k448
          have q475 := k474.lt
          have k476 := kl426.below b456
          clear kl426
          have q477 := k476.lt
          have B478 : Below w.heap.size w w456 := B450.trans (b456.mono B450.size)
          have s479 := b456.size
          have p480 := k474.c0
          have p481 := k474.c1
          go_wp2_with fail
          clear p480 p481
          refine (laws_heldWords ((mulF y0 xs0 y1 xs1).1).1 A189 n189 c189 w160.heap.size w189.heap.size 1 w456 o462.ints (by omega) (by omega) (by omega)).mono ?_
          rintro e w482 ⟨rfl, b482⟩
          have o483 := o457.below b482 (by omega)
          have o484 := o458.below b482 (by omega)
          have o485 := o459.below b482 (by omega)
          clear o459
          have o486 := o460.below b482 (by omega)
          clear o460
          have o487 := o461.below b482 (by omega)
          clear o461
          have o488 := o462.below b482 (by omega)
          clear o462
          have o489 := o463.below b482 (by omega)
          clear o463
          have k490 := k464.below b482
          clear k464
          have q491 := k490.lt
          have k492 := k466.below b482
          clear k466
          have q493 := k492.lt
          have k494 := k468.below b482
          clear k468
          have q495 := k494.lt
          have k496 := k470.below b482
          clear k470
          have q497 := k496.lt
          have k498 := k472.below b482
          clear k472
          have q499 := k498.lt
          have k500 := k474.below b482
          clear k474
          have q501 := k500.lt
          have k502 := k476.below b482
          clear k476
          have q503 := k502.lt
          have B504 : Below w.heap.size w w482 := B478.trans (b482.mono B478.size)
          have s505 := b482.size
          go_wp2_with fail
          go_ret
          exact ⟨rfl, B504⟩
theorem own : ownKnob Try.prog.godebug = none := by kernel_rfl
theorem laidOut : laidOutB Try.prog = true := by kernel_rfl
set_option maxRecDepth 100000 in
theorem lifted (os : Os) (started : os.Started) (H : Type) (enc : TypeId × Value → H) :
    ReturnsInHanded {} Try.checked os 4 .any (Rows.fnExactMulWordsSpec.pre6 enc Try.prog Try.f4 Rows.fnExactMulWordsRow.domain false) (Rows.fnExactMulWordsSpec.post enc Try.prog Try.f4 false true false false) := by
  refine returnsInHanded_of_change (C := Try.checked) own started (by kernel_rfl) Try.func4
    (ChangeSpec.witness6 (enc := enc) (C := Try.checked) false ⟨#[], #[.agg #[.int .i64 0, .slice none 0 0], .agg #[.int .i64 0, .slice none 0 0]], []⟩ 8 (by kernel_rfl) (by kernel_rfl) (by kernel_rfl) (by kernel_rfl)) ?_
  intro W base args ds gs before hval0 hW hcnd _
  have hval : ∀ (j : Nat) t v, Try.f4.params[j]? = some t → args[j]? = some v → Value.okWide Try.prog W .any base t v := hval0
  have hW' := hW
  obtain ⟨p, q, hA0, hV, rfl, hfz, hnd⟩ := hW
  have hA : DataW.TrodAll enc Try.prog W 0 (fun _ => true) true Try.f4.params.toList args.toList ds p := hA0
  rw [Try.params4] at hA hval
  obtain ⟨v0, vs0, d0, ds0, p0, q0, hargs, rfl, rfl, h0, t0⟩ := trodAll_cons hA
  obtain ⟨v1, vs1, d1, ds1, p1, q1, rfl, rfl, rfl, h1, t1⟩ := trodAll_cons t0
  obtain ⟨rfl, rfl, rfl⟩ := trodAll_nil t1
  obtain rfl : args = #[v0, v1] := by cases args; simp_all
  obtain ⟨rfl, rfl⟩ := trodVars_none hV
  have k0 := h0
  have lt0 : ∀ x ∈ p0, x.block < W.heap.size := by obtain ⟨m, hm⟩ := k0; exact DataW.trod_lt m _ _ _ hm
  have k1 := h1
  have lt1 : ∀ x ∈ p1, x.block < W.heap.size := by obtain ⟨m, hm⟩ := k1; exact DataW.trod_lt m _ _ _ hm
  obtain ⟨y0, a0, n0, c0, xs0, rfl, s0, r0⟩ := open_pwords h0 (by obtain ⟨cs, hcs, _⟩ := okWide_struct Try.underlying36 (hval 0 36 v0 rfl rfl); exact ⟨cs, hcs⟩)
  obtain ⟨y1, a1, n1, c1, xs1, rfl, s1, r1⟩ := open_pwords h1 (by obtain ⟨cs, hcs, _⟩ := okWide_struct Try.underlying36 (hval 1 36 v1 rfl rfl); exact ⟨cs, hcs⟩)
  clear hA0 hval0
  refine (walk y0 a0 n0 c0 xs0 y1 a1 n1 c1 xs1 W r0 s0 r1 s1).mono fun e W' ⟨he, bel⟩ => ?_
  subst he
  exact ⟨_, rfl, _, _, _, [], _, [], hW', trodAll_mk1 (shut_bool Try.underlying4 _), (trodAll_cons_mk (Below.trod laidOut (by kernel_rfl) (of_decide_eq_true (by kernel_rfl)) k0 bel lt0) (trodAll_cons_mk (Below.trod laidOut (by kernel_rfl) (of_decide_eq_true (by kernel_rfl)) k1 bel lt1) trodAll_mk0)), rfl, bel.frame _, fun h => by cases h⟩
theorem over : Rows.fnExactMulWordsRow.holds Try.pinned (OpenSpec.ofChange Rows.fnExactMulWordsSpec) :=
  OpenClaim.holds_of_wide 4 Try.f4 rfl rfl rfl rfl rfl rfl rfl ⟨rfl, rfl, rfl, rfl, rfl⟩ rfl rfl rfl rfl rfl (by kernel_rfl) Try.func4 (by kernel_rfl)
    (of_decide_eq_true (by kernel_rfl)) (by unfold Func.isWrapper; first | (rw [if_pos (by decide +kernel)]; kernel_rfl) | (rw [if_neg (by decide +kernel)]; exact ⟨rfl, rfl⟩))
    (fun os started H enc _ => lifted os started H enc)
theorem proved : Rows.FnExactMulWordsSaid := over
#print axioms proved

end Go.Proofs.Ytodlfmagkjblgaa.fnExactMulWords
