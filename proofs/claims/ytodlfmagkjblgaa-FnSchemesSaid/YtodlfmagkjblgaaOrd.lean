/- The order of a scheme: the walks of both texts. -/
import Derived.Test.YtodlfmagkjblgaaSch
namespace Go.Proofs.Ytodlfmagkjblgaa
open Go.RowKit
set_option linter.unusedSimpArgs false
set_option linter.unusedVariables false
set_option maxRecDepth 20000

def bothL : List Int := zipF (ltrL 5 (0, 1)) (ltrL 5 (1, 1)) 1
def ordGo (a e : List Int) : Nat → Nat → Int
  | 0, _ => 5
  | s + 1, i => if a.getD i 0 = e.getD i 0 then ordGo a e s (i + 1) else ((wordL i).length : Int) - 1
def schL (ms : List (Int × Int)) : List Int := schGo 5 ms (unitL (cntN 5))
def ordF (ms : List (Int × Int)) : Int := if schemeOkF ms = true then ordGo (schL ms) (expL 5 bothL) (cntN 5) 0 else -1
theorem schL_len (ms : List (Int × Int)) : (schL ms).length = cntN 5 := schGo_len _ _ _ (by simp [unitL])
theorem schL_num (ms : List (Int × Int)) : ∀ x ∈ schL ms, 0 ≤ x ∧ x < 1000000271 := schGo_num _ _ _ (unitL_num _)
theorem bothL_len : bothL.length = cntN 5 := zip_len (ltrL_len _ _) (ltrL_len _ _)
theorem bothL_num : ∀ x ∈ bothL, 0 ≤ x ∧ x < 1000000271 := zip_num _ _ _
theorem bothL_zero : bothL.getD 0 0 = 0 := by decide +kernel

theorem impl_Sch_ok (o : Int) (A : Option Addr) (n c : Nat) (ms : List (Int × Int)) (lo hi : Nat) (w : World) (h : Moves w lo hi A n c ms) (hh : hi ≤ w.heap.size) (h1 : 1 ≤ o) (h5 : o ≤ 5) (hok : schemeOkF ms = true) :
    Calls Try.prog 46 #[.int .i64 o, .slice A n c] w fun e w' => ∃ A' c', e = .returned (.tuple #[.agg #[.int .i64 o, .slice A' (cntN o) c'], .bool true]) ∧ OwnI w' w.heap.size w'.heap.size A' (cntN o) c' (schGo o ms (unitL (cntN o))) ∧ Below w.heap.size w w' := by
  refine (impl_SchemeWords o A n c ms lo hi w h hh).mono ?_
  rintro e w' ⟨A', n', c', rfl, q1, q2⟩
  have hF : schF o ms = ((o, schGo o ms (unitL (cntN o))), true) := if_pos ⟨hok, h1, h5⟩
  rw [hF] at q1 ⊢
  obtain rfl : n' = cntN o := by rw [← q1.len]; exact schGo_len _ _ _ (by simp [unitL])
  exact ⟨A', c', rfl, q1, q2⟩
theorem impl_Sch_bad (o : Int) (A : Option Addr) (n c : Nat) (ms : List (Int × Int)) (lo hi : Nat) (w : World) (h : Moves w lo hi A n c ms) (hh : hi ≤ w.heap.size) (hok : ¬ schemeOkF ms = true) :
    Calls Try.prog 46 #[.int .i64 o, .slice A n c] w fun e w' => ∃ A' n' c', e = .returned (.tuple #[.agg #[.int .i64 0, .slice A' n' c'], .bool false]) ∧ Below w.heap.size w w' := by
  refine (impl_SchemeWords o A n c ms lo hi w h hh).mono ?_
  rintro e w' ⟨A', n', c', rfl, q1, q2⟩
  have hF : schF o ms = ((0, []), false) := if_neg (fun h => hok h.1)
  rw [hF] at q1 ⊢
  exact ⟨A', n', c', rfl, q2⟩
theorem spec_Sch_ok (o : Int) (A : Option Addr) (n c : Nat) (ms : List (Int × Int)) (lo hi : Nat) (w : World) (h : Moves w lo hi A n c ms) (hh : hi ≤ w.heap.size) (h1 : 1 ≤ o) (h5 : o ≤ 5) (hok : schemeOkF ms = true) :
    Calls Try.prog 58 #[.int .i64 o, .slice A n c] w fun e w' => ∃ A' c', e = .returned (.tuple #[.agg #[.int .i64 o, .slice A' (cntN o) c'], .bool true]) ∧ OwnI w' w.heap.size w'.heap.size A' (cntN o) c' (schGo o ms (unitL (cntN o))) ∧ Below w.heap.size w w' := by
  refine (spec_SchemeWords o A n c ms lo hi w h hh).mono ?_
  rintro e w' ⟨A', n', c', rfl, q1, q2⟩
  have hF : schF o ms = ((o, schGo o ms (unitL (cntN o))), true) := if_pos ⟨hok, h1, h5⟩
  rw [hF] at q1 ⊢
  obtain rfl : n' = cntN o := by rw [← q1.len]; exact schGo_len _ _ _ (by simp [unitL])
  exact ⟨A', c', rfl, q1, q2⟩
theorem spec_Sch_bad (o : Int) (A : Option Addr) (n c : Nat) (ms : List (Int × Int)) (lo hi : Nat) (w : World) (h : Moves w lo hi A n c ms) (hh : hi ≤ w.heap.size) (hok : ¬ schemeOkF ms = true) :
    Calls Try.prog 58 #[.int .i64 o, .slice A n c] w fun e w' => ∃ A' n' c', e = .returned (.tuple #[.agg #[.int .i64 0, .slice A' n' c'], .bool false]) ∧ Below w.heap.size w w' := by
  refine (spec_SchemeWords o A n c ms lo hi w h hh).mono ?_
  rintro e w' ⟨A', n', c', rfl, q1, q2⟩
  have hF : schF o ms = ((0, []), false) := if_neg (fun h => hok h.1)
  rw [hF] at q1 ⊢
  exact ⟨A', n', c', rfl, q2⟩

set_option maxRecDepth 100000 in
set_option maxHeartbeats 2000000 in
theorem impl_OrderOfScheme (A : Option Addr) (n c : Nat) (ms : List (Int × Int)) (lo hi : Nat) (w : World) (h : Moves w lo hi A n c ms) (hh : hi ≤ w.heap.size) :
    Calls Try.prog 50 #[.slice A n c] w fun e w' => e = .returned (.int .i64 (ordF ms)) ∧ Below w.heap.size w w' := by
  have hm := h.max
  have hcp := h.cap
  have h1r : R64 (1 : Int) := by constructor <;> omega
  by_cases hok : schemeOkF ms = true
  · have hO : Hid (ordF ms = ordGo (schL ms) (expL 5 bothL) (cntN 5) 0) := if_pos hok
    have hcb := cntN_bd (show (5 : Int) ≤ 5 by omega)
    go_enter Try.func50, Try.ntmps50
    go_wp2_with fail
    refine (impl_Sch_ok 5 A n c ms lo hi w h hh (by omega) (by omega) hok).mono ?_
    rintro e w1 ⟨A1, c1, rfl, o1, b1⟩
    have a1 := below_alloc w1 (.cells #[.int .i64 5, .slice A1 (cntN 5) c1] 38)
    have k1 := Blk2.new w1 (.int .i64 5) (.slice A1 (cntN 5) c1) 38
    have o1' := o1.below a1 (Nat.le_refl _)
    have z1 := b1.size
    have B2 := b1.trans (a1.mono (by omega))
    clear o1 b1
    go_wp2_with fail
    generalize World.alloc w1 (.cells #[.int .i64 5, .slice A1 (cntN 5) c1] 38) = w2 at a1 k1 o1' B2 ⊢
    have z2 := a1.size
    have q2 := k1.lt
    clear a1
    refine (impl_Letter_ok 5 0 1 w2 (by omega) (by omega) (by omega) h1r).mono ?_
    rintro e w3 ⟨A3, c3, rfl, o3, b3⟩
    have z3 := b3.size
    have o1b := o1'.below b3 (by omega)
    have k1b := k1.below b3
    have B3 := B2.trans (b3.mono (by omega))
    clear o1' k1 B2
    go_wp2_with fail
    refine (impl_Letter_ok 5 1 1 w3 (by omega) (by omega) (by omega) h1r).mono ?_
    rintro e w4 ⟨A4, c4, rfl, o4, b4⟩
    have z4 := b4.size
    have o1c := o1b.below b4 (by omega)
    have k1c := k1b.below b4
    have o3b := o3.below b4 (by omega)
    have B4 := B3.trans (b4.mono (by omega))
    clear o1b k1b B3 o3
    go_wp2_with fail
    refine (impl_mixWords 5 A3 (cntN 5) c3 _ _ _ 5 A4 (cntN 5) c4 _ _ _ 1 w4 o3b.ints o4.ints (by omega) (Nat.le_refl _) (by omega) (by omega) rfl rfl (ltrL_num _ _) (ltrL_num _ _) h1r).mono ?_
    rintro e w5 ⟨A5, c5, rfl, o5, b5⟩
    have z5 := b5.size
    have o1d := o1c.below b5 (by omega)
    have k1d := k1c.below b5
    have B5 := B4.trans (b5.mono (by omega))
    clear o1c k1c B4 o3b o4
    go_wp2_with fail
    refine (impl_expWords 5 A5 (cntN 5) c5 bothL _ _ w5 o5.ints (Nat.le_refl _) (by omega) (by omega) rfl bothL_num).mono ?_
    rintro e w6 ⟨A6, c6, rfl, o6, b6⟩
    have z6 := b6.size
    have a6 := below_alloc w6 (.cells #[.int .i64 5, .slice A6 (cntN 5) c6] 38)
    have o1e := (o1d.below b6 (by omega)).below a6 (by omega)
    have k1e := (k1d.below b6).below a6
    have o6b := o6.below a6 (Nat.le_refl _)
    have k6 := Blk2.new w6 (.int .i64 5) (.slice A6 (cntN 5) c6) 38
    have B6 := (B5.trans (b6.mono (by omega))).trans (a6.mono (by omega))
    clear o1d k1d B5 o5 o6
    have p1 := k1e.c1
    go_wp2_with fail
    clear p1
    generalize World.alloc w6 (.cells #[.int .i64 5, .slice A6 (cntN 5) c6] 38) = w7 at a6 o1e k1e o6b k6 B6 ⊢
    have z7 := B6.size
    have q7 := k6.lt
    have q1 := k1e.lt
    clear a6
    go_loopw [6, 21] (fun _ i wr => ∃ k : Nat, k ≤ cntN 5 ∧ i = .int .i64 k ∧ Below w7.heap.size w7 wr ∧ Hid (ordF ms = ordGo (schL ms) (expL 5 bothL) (cntN 5 - k) k)) (fun _ i _ => cntN 5 - (intOf i).toNat)
    case atStart => exact ⟨0, by omega, rfl, Below.refl _ _, hO⟩
    case round =>
      clear hO
      obtain ⟨k, hk, rfl, hb, hE⟩ := hrel
      have hs := hb.size
      have m1 := k1e.below hb
      have m6 := k6.below hb
      have i1 := o1e.ints.below hb (by omega)
      have i6 := o6b.ints.below hb (by omega)
      have p1 := m1.c1
      have p6 := m6.c1
      by_cases hlt : k < cntN 5
      · obtain ⟨ad, x, rfl, hc1, hr1, _, hx⟩ := i1.at_ hlt
        obtain ⟨ae, y, rfl, hc6, hr6, _, hy⟩ := i6.at_ hlt
        have hcp1 := i1.cap
        have hcp6 := i6.cap
        have hmx1 := i1.max
        have hmx6 := i6.max
        have hgx : (schL ms).getD k 0 = x := by rw [List.getD]; exact congrArg (fun z => z.getD 0) hx.out
        have hgy : (expL 5 bothL).getD k 0 = y := by rw [List.getD]; exact congrArg (fun z => z.getD 0) hy.out
        have hE1 : Hid (ordF ms = if x = y then ordGo (schL ms) (expL 5 bothL) (cntN 5 - (k + 1)) (k + 1) else ((wordL k).length : Int) - 1) := by
          show _ = _
          rw [hE.out, show cntN 5 - k = (cntN 5 - (k + 1)) + 1 by omega, ordGo, hgx, hgy]
        clear hgx hgy hx hy hE hr1 hr6 m1 m6 i1 i6 k1e k6 o1e o6b
        by_cases hxy : x = y
        · have hE2 : Hid (ordF ms = ordGo (schL ms) (expL 5 bothL) (cntN 5 - (k + 1)) (k + 1)) := hE1.out.trans (if_pos hxy)
          clear hE1
          subst hxy
          go_wp2_with fail
          go_quiet (fail)
          go_wp2_with fail
          go_roundw
          case rel => exact ⟨k + 1, by omega, by go_num, below_drewN hb _, hE2⟩
          case measure => simp [intOf]; omega
        · have hE2 : Hid (ordF ms = ((wordL k).length : Int) - 1) := hE1.out.trans (if_neg hxy)
          clear hE1
          have hL := wordL_len5 (p := k) (by omega)
          have B7 := B6.trans (hb.mono (by omega))
          go_wp2_with fail
          go_quiet (fail)
          go_wp2_with fail
          refine (impl_wordAt k _ (by omega)).mono ?_
          rintro e w8 ⟨g8, c8, rfl, o8, b8⟩
          have B8 := (below_drewN B7 _).trans (b8.mono (show w.heap.size ≤ _ by show _ ≤ wr.heap.size; omega))
          have hc8 := o8.cap
          have hmx8 := o8.max
          have hsub := IntWalk.i64_in (((wordL k).length : Int) - 1) (by omega)
          clear o8 b8
          go_wp2_with fail
          go_ret
          exact ⟨ret_int hE2.out.symm, B8⟩
      · obtain rfl : k = cntN 5 := by omega
        have B7 := B6.trans (hb.mono (by omega))
        have hE1 : Hid (ordF ms = 5) := by
          show _ = _
          rw [hE.out, Nat.sub_self]
          rfl
        have hcp1 := i1.cap
        have hmx1 := i1.max
        clear hE
        go_wp2_with fail
        go_ret
        exact ⟨ret_int hE1.out.symm, B7⟩
  · have hO : Hid (ordF ms = -1) := if_neg hok
    go_enter Try.func50, Try.ntmps50
    go_wp2_with fail
    refine (impl_Sch_bad 5 A n c ms lo hi w h hh hok).mono ?_
    rintro e w1 ⟨A1, n1, c1, rfl, b1⟩
    have B2 := b1.trans ((below_alloc w1 (.cells #[.int .i64 0, .slice A1 n1 c1] 38)).mono b1.size)
    go_wp2_with fail
    go_ret
    exact ⟨ret_int hO.out.symm, B2⟩

set_option maxRecDepth 100000 in
set_option maxHeartbeats 2000000 in
theorem spec_OrderOfScheme (A : Option Addr) (n c : Nat) (ms : List (Int × Int)) (lo hi : Nat) (w : World) (h : Moves w lo hi A n c ms) (hh : hi ≤ w.heap.size) :
    Calls Try.prog 55 #[.slice A n c] w fun e w' => e = .returned (.int .i64 (ordF ms)) ∧ Below w.heap.size w w' := by
  have hm := h.max
  have hcp := h.cap
  have h1r : R64 (1 : Int) := by constructor <;> omega
  by_cases hok : schemeOkF ms = true
  · have hO : Hid (ordF ms = ordGo (schL ms) (expL 5 bothL) (cntN 5) 0) := if_pos hok
    have hcb := cntN_bd (show (5 : Int) ≤ 5 by omega)
    go_enter Try.func55, Try.ntmps55
    go_wp2_with fail
    refine (spec_Sch_ok 5 A n c ms lo hi w h hh (by omega) (by omega) hok).mono ?_
    rintro e w1 ⟨A1, c1, rfl, o1, b1⟩
    have a1 := below_alloc w1 (.cells #[.int .i64 5, .slice A1 (cntN 5) c1] 38)
    have k1 := Blk2.new w1 (.int .i64 5) (.slice A1 (cntN 5) c1) 38
    have o1' := o1.below a1 (Nat.le_refl _)
    have z1 := b1.size
    have B2 := b1.trans (a1.mono (by omega))
    clear o1 b1
    go_wp2_with fail
    generalize World.alloc w1 (.cells #[.int .i64 5, .slice A1 (cntN 5) c1] 38) = w2 at a1 k1 o1' B2 ⊢
    have z2 := a1.size
    have q2 := k1.lt
    clear a1
    refine (spec_Letter_ok 5 0 1 w2 (by omega) (by omega) (by omega) h1r).mono ?_
    rintro e w3 ⟨A3, c3, rfl, o3, b3⟩
    have z3 := b3.size
    have o1b := o1'.below b3 (by omega)
    have k1b := k1.below b3
    have B3 := B2.trans (b3.mono (by omega))
    clear o1' k1 B2
    go_wp2_with fail
    refine (spec_Letter_ok 5 1 1 w3 (by omega) (by omega) (by omega) h1r).mono ?_
    rintro e w4 ⟨A4, c4, rfl, o4, b4⟩
    have z4 := b4.size
    have o1c := o1b.below b4 (by omega)
    have k1c := k1b.below b4
    have o3b := o3.below b4 (by omega)
    have B4 := B3.trans (b4.mono (by omega))
    clear o1b k1b B3 o3
    go_wp2_with fail
    refine (spec_Add_ok 5 A3 (cntN 5) c3 _ _ _ A4 (cntN 5) c4 _ _ _ w4 o3b.ints o4.ints (by omega) (Nat.le_refl _) (wordsOk_of (by omega) (by omega) (ltrL_len _ _) (ltrL_num _ _)) (wordsOk_of (by omega) (by omega) (ltrL_len _ _) (ltrL_num _ _))).mono ?_
    rintro e w5 ⟨A5, c5, rfl, o5, b5⟩
    have z5 := b5.size
    have a5 := below_alloc w5 (.cells #[.int .i64 5, .slice A5 (cntN 5) c5] 38)
    have k5 := Blk2.new w5 (.int .i64 5) (.slice A5 (cntN 5) c5) 38
    have o5b := o5.below a5 (Nat.le_refl _)
    have o1d := (o1c.below b5 (by omega)).below a5 (by omega)
    have k1d := (k1c.below b5).below a5
    have B5 := (B4.trans (b5.mono (by omega))).trans (a5.mono (by omega))
    clear o1c k1c B4 o3b o4 o5
    have p1 := k5.c0
    have p2 := k5.c1
    go_wp2_with fail
    clear p1 p2
    generalize World.alloc w5 (.cells #[.int .i64 5, .slice A5 (cntN 5) c5] 38) = w5' at a5 k5 o5b o1d k1d B5 ⊢
    have z5' := a5.size
    clear a5
    refine (spec_Exp_ok 5 A5 (cntN 5) c5 bothL _ _ w5' o5b.ints (by omega) (wordsOk_of (by omega) (by omega) bothL_len bothL_num) bothL_zero).mono ?_
    rintro e w6 ⟨A6, c6, rfl, o6, b6⟩
    have z6 := b6.size
    have a6 := below_alloc w6 (.cells #[.int .i64 5, .slice A6 (cntN 5) c6] 38)
    have o1e := (o1d.below b6 (by omega)).below a6 (by omega)
    have k1e := (k1d.below b6).below a6
    have o6b := o6.below a6 (Nat.le_refl _)
    have k6 := Blk2.new w6 (.int .i64 5) (.slice A6 (cntN 5) c6) 38
    have B6 := (B5.trans (b6.mono (by omega))).trans (a6.mono (by omega))
    clear o1d k1d B5 o5b o6 k5
    go_wp2_with fail
    generalize World.alloc w6 (.cells #[.int .i64 5, .slice A6 (cntN 5) c6] 38) = w7 at a6 o1e k1e o6b k6 B6 ⊢
    have z7 := B6.size
    have q7 := k6.lt
    have q1 := k1e.lt
    clear a6
    go_loopw [9] (fun i wr => ∃ k : Nat, k ≤ cntN 5 ∧ i = .int .i64 k ∧ Below w7.heap.size w7 wr ∧ Hid (ordF ms = ordGo (schL ms) (expL 5 bothL) (cntN 5 - k) k)) (fun i _ => cntN 5 - (intOf i).toNat)
    case atStart => exact ⟨0, by omega, rfl, Below.refl _ _, hO⟩
    case round =>
      clear hO
      obtain ⟨k, hk, rfl, hb, hE⟩ := hrel
      have hs := hb.size
      have m1 := k1e.below hb
      have m6 := k6.below hb
      have i1 := o1e.ints.below hb (by omega)
      have i6 := o6b.ints.below hb (by omega)
      have p1 := m1.c1
      have p6 := m6.c1
      by_cases hlt : k < cntN 5
      · obtain ⟨ad, x, rfl, hc1, hr1, _, hx⟩ := i1.at_ hlt
        obtain ⟨ae, y, rfl, hc6, hr6, _, hy⟩ := i6.at_ hlt
        have hcp1 := i1.cap
        have hcp6 := i6.cap
        have hmx1 := i1.max
        have hmx6 := i6.max
        have hgx : (schL ms).getD k 0 = x := by rw [List.getD]; exact congrArg (fun z => z.getD 0) hx.out
        have hgy : (expL 5 bothL).getD k 0 = y := by rw [List.getD]; exact congrArg (fun z => z.getD 0) hy.out
        have hE1 : Hid (ordF ms = if x = y then ordGo (schL ms) (expL 5 bothL) (cntN 5 - (k + 1)) (k + 1) else ((wordL k).length : Int) - 1) := by
          show _ = _
          rw [hE.out, show cntN 5 - k = (cntN 5 - (k + 1)) + 1 by omega, ordGo, hgx, hgy]
        clear hgx hgy hx hy hE hr1 hr6 m1 m6 i1 i6 k1e k6 o1e o6b
        by_cases hxy : x = y
        · have hE2 : Hid (ordF ms = ordGo (schL ms) (expL 5 bothL) (cntN 5 - (k + 1)) (k + 1)) := hE1.out.trans (if_pos hxy)
          clear hE1
          subst hxy
          go_wp2_with fail
          go_quiet (fail)
          go_wp2_with fail
          go_roundw
          case rel => exact ⟨k + 1, by omega, by go_num, below_drewN hb _, hE2⟩
          case measure => simp [intOf]; omega
        · have hE2 : Hid (ordF ms = ((wordL k).length : Int) - 1) := hE1.out.trans (if_neg hxy)
          clear hE1
          have hL := wordL_len5 (p := k) (by omega)
          have B7 := B6.trans (hb.mono (by omega))
          go_wp2_with fail
          go_quiet (fail)
          go_wp2_with fail
          refine (spec_l11Word k _ (by omega)).mono ?_
          rintro e w8 ⟨g8, c8, rfl, o8, b8⟩
          have B8 := (below_drewN B7 _).trans (b8.mono (show w.heap.size ≤ _ by show _ ≤ wr.heap.size; omega))
          have hc8 := o8.cap
          have hmx8 := o8.max
          have hsub := IntWalk.i64_in (((wordL k).length : Int) - 1) (by omega)
          clear o8 b8
          go_wp2_with fail
          go_ret
          exact ⟨ret_int hE2.out.symm, B8⟩
      · obtain rfl : k = cntN 5 := by omega
        have B7 := B6.trans (hb.mono (by omega))
        have hE1 : Hid (ordF ms = 5) := by
          show _ = _
          rw [hE.out, Nat.sub_self]
          rfl
        have hcp1 := i1.cap
        have hmx1 := i1.max
        clear hE
        go_wp2_with fail
        go_ret
        exact ⟨ret_int hE1.out.symm, B7⟩
  · have hO : Hid (ordF ms = -1) := if_neg hok
    go_enter Try.func55, Try.ntmps55
    go_wp2_with fail
    refine (spec_Sch_bad 5 A n c ms lo hi w h hh hok).mono ?_
    rintro e w1 ⟨A1, n1, c1, rfl, b1⟩
    have B2 := b1.trans ((below_alloc w1 (.cells #[.int .i64 0, .slice A1 n1 c1] 38)).mono b1.size)
    go_wp2_with fail
    go_ret
    exact ⟨ret_int hO.out.symm, B2⟩

end Go.Proofs.Ytodlfmagkjblgaa
