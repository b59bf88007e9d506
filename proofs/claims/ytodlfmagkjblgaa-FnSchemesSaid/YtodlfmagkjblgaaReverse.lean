/- ReverseScheme of both texts, and the two functions of the library that the program calls there. -/
import Derived.Test.YtodlfmagkjblgaaMoves
import Derived.WalkSpells
import Derived.BigRegion
namespace Go.Proofs.Ytodlfmagkjblgaa
open Go.RowKit
set_option linter.unusedSimpArgs false
set_option linter.unusedVariables false
set_option maxRecDepth 20000

theorem mcells_one (ms : List (Int × Int)) : ∀ u ∈ ms.flatMap mcells, u.oneCell' = true := by
  intro u hu
  simp only [List.mem_flatMap, mcells] at hu
  obtain ⟨m, _, hm⟩ := hu
  rcases List.mem_cons.1 hm with rfl | hm
  · rfl
  · rw [List.mem_singleton] at hm
    rw [hm]; rfl
theorem mcells_get (ms : List (Int × Int)) (j : Nat) (u : Value) (h : (ms.flatMap mcells)[j]? = some u) : ∃ m, ms[j / 2]? = some m ∧ (j % 2 = 0 ∧ u = .int .i64 m.1 ∨ j % 2 = 1 ∧ u = .int .i64 m.2) := by
  have hj : j < ms.length * 2 := by
    have := (List.getElem?_eq_some_iff.1 h).1
    rwa [mcells_len] at this
  have hm : ms[j / 2]? = some ms[j / 2] := List.getElem?_eq_getElem (by omega)
  obtain ⟨h1, h2⟩ := mcells_at ms (j / 2) _ hm
  refine ⟨_, hm, ?_⟩
  rcases Nat.mod_two_eq_zero_or_one j with h0 | h0
  · left
    have e : j / 2 * 2 = j := by omega
    rw [e, h] at h1
    exact ⟨h0, by injection h1⟩
  · right
    have e : j / 2 * 2 + 1 = j := by omega
    rw [e, h] at h2
    exact ⟨h0, by injection h2⟩
theorem Moves.src {w : World} {lo hi : Nat} {A : Option Addr} {n c : Nat} {ms : List (Int × Int)} (h : Moves w lo hi A n c ms) : ∀ ad, A = some ad → ∀ j u, (ms.flatMap mcells)[j]? = some u → w.cell? (ad.add j) = some u := by
  intro ad e j u hu
  obtain ⟨m, hm, hj⟩ := mcells_get ms j u hu
  have hn : 0 < n := by
    have := (List.getElem?_eq_some_iff.1 hm).1
    have := h.len
    omega
  obtain ⟨ad', e', _, _, hc⟩ := h.cells hn
  obtain rfl : ad = ad' := by rw [e] at e'; injection e'
  obtain ⟨c1, c2⟩ := hc _ m hm
  have add2 : ∀ k, (ad.add k).add 1 = ad.add (k + 1) := by
    intro k
    unfold Addr.add
    by_cases hk : k = 0 <;> simp [hk, Nat.add_assoc]
  rcases hj with ⟨h0, rfl⟩ | ⟨h0, rfl⟩
  · rwa [show j / 2 * 2 = j from by omega] at c1
  · have e2 : (⟨(ad.add (j / 2 * 2)).block, (ad.add (j / 2 * 2)).off + 1, none⟩ : Addr) = ad.add j := by
      have := add2 (j / 2 * 2)
      rw [show j / 2 * 2 + 1 = j from by omega] at this
      rw [← this]; rfl
    rwa [e2] at c2

theorem lib_Clone (A : Option Addr) (n c : Nat) (ms : List (Int × Int)) (lo hi : Nat) (w : World) (h : Moves w lo hi A n c ms) (hh : hi ≤ w.heap.size) (hn : n ≤ 1048576) :
    Calls Try.prog 107 #[.slice A n c] w fun e w' => ∃ A' c', e = .returned (.slice A' n c') ∧ OwnM w' w.heap.size w'.heap.size A' n c' ms ∧ Below w.heap.size w w' := by
  obtain ⟨i0, hi0, hz0, hz1, hz2⟩ := info_parts info_move
  have heq := fun W : World => Lib.run_eql_slice_nil (P := Try.prog) W 63 70 A n c 0 0 Try.underlying63
  cases A with
  | none =>
    have hn0 : n = 0 := by
      rcases Nat.eq_zero_or_pos n with h0 | h0
      · exact h0
      · obtain ⟨ad, e, _⟩ := h.cells h0
        cases e
    subst hn0
    have hms : ms = [] := List.eq_nil_of_length_eq_zero h.len
    go_enter Try.func107, Try.ntmps107
    go_wp2_with fail
    go_ret
    subst hms
    exact ⟨_, _, rfl, ⟨World.ownsRow_nil _ _ _ _, by simp, by simp⟩, Below.refl _ _⟩
  | some ad =>
    have hown : (w.alloc (.cells #[] 70)).ownsRow w.heap.size 70 2 (.slice (some ⟨w.heap.size, 0, none⟩) 0 0) 0 [] := by
      simpa using World.ownsRow_lit (size := 2) (e := 70) w #[] 0 (Nat.le_refl _) (by unfold maxLen; omega) rfl
    have h2 := hide ((h.below (below_alloc w (.cells #[] 70)) hh).src)
    have hl := hide h.len
    go_enter Try.func107, Try.ntmps107
    go_wp2_with (at_builtin; refine wpl_app rfl (.tmp 5) (.tmp 6) 63 rfl _ w.heap.size 70 i0 (.agg #[.int .i64 0, .int .i64 0]) 2 16 Try.underlying63 hi0 hz0 hz1 hz2 rfl (by omega) (some ⟨w.heap.size, 0, none⟩) 0 0 [] rfl hown (some ad) n c (ms.flatMap mcells) rfl (by rw [mcells_len, hl.out]) h2.out (by intro e; cases e) (mcells_one ms) (by omega) (by omega) (by simp) ?_; intro A2 c2 w2 happ)
    have e : 0 + n = n := by omega
    rw [e] at happ
    have h3 := happ.1
    rw [List.nil_append] at h3
    have hb : Below w.heap.size w w2 := happ.below (below_alloc w _) (by simp) (by intro ad e; cases e; exact Nat.le_refl _)
    clear happ
    go_wp2_with fail
    go_ret
    exact ⟨_, _, rfl, ⟨h3, fun ad e => (owns_lt h3 ad e).2, h.rng⟩, hb⟩

def Half (ms ys : List (Int × Int)) (n k : Nat) : Prop := ys.length = n ∧ ∀ i, i < n → ys[i]? = if i < k ∨ n - k ≤ i then ms[n - 1 - i]? else ms[i]?
theorem half_step {ms ys : List (Int × Int)} {n k j : Nat} {p q : Int × Int} (h : Half ms ys n k) (hj : j = n - 1 - k) (hlt : k < j) (hp : ys[k]? = some p) (hq : ys[j]? = some q) : Half ms ((ys.set k q).set j p) n (k + 1) := by
  refine ⟨by simpa using h.1, fun i hi => ?_⟩
  have hl := h.1
  rw [List.getElem?_set]
  by_cases h1 : j = i
  · rw [if_pos h1, if_pos (by simp; omega), if_pos (by omega)]
    rw [← hp, h.2 k (by omega), if_neg (by omega), show n - 1 - i = k from by omega]
  · rw [if_neg h1, List.getElem?_set]
    by_cases h2 : k = i
    · rw [if_pos h2, if_pos (by omega), if_pos (by omega)]
      rw [← hq, h.2 j (by omega), if_neg (by omega), show n - 1 - i = j from by omega]
    · rw [if_neg h2, h.2 i hi]
      by_cases h3 : i < k ∨ n - k ≤ i
      · rw [if_pos h3, if_pos (by omega)]
      · rw [if_neg h3, if_neg (by omega)]
theorem half_end {ms ys : List (Int × Int)} {n k : Nat} (hm : ms.length = n) (h : Half ms ys n k) (hk : n ≤ 2 * k + 1) (hk2 : 2 * k ≤ n + 1) : ys = ms.reverse := by
  apply List.ext_getElem?
  intro i
  by_cases hi : i < n
  · rw [h.2 i hi, List.getElem?_reverse (by omega), hm]
    by_cases h3 : i < k ∨ n - k ≤ i
    · rw [if_pos h3]
    · rw [if_neg h3, show n - 1 - i = i from by omega]
  · rw [List.getElem?_eq_none (by have := h.1; omega), List.getElem?_eq_none (by simp; omega)]

set_option maxHeartbeats 1000000 in
theorem lib_Reverse (A : Option Addr) (n c : Nat) (ms : List (Int × Int)) (lo hi : Nat) (w : World) (h : OwnM w lo hi A n c ms) :
    Calls Try.prog 108 #[.slice A n c] w fun e w' => e = .returned (.tuple #[]) ∧ OwnM w' lo hi A n c ms.reverse ∧ Touch lo hi w w' ∧ w'.heap.size = w.heap.size := by
  have hcp := h.moves.cap
  have hm := h.moves.max
  go_enter Try.func108, Try.ntmps108
  go_wp2_with fail
  go_loopw [2, 3] (fun i j wr => ∃ (k : Nat) (ys : List (Int × Int)) (j' : Int), 2 * k ≤ n + 1 ∧ i = .int .i64 k ∧ j = .int .i64 j' ∧ -1 ≤ j' ∧ j' ≤ n ∧ Hid (j' = (n : Int) - 1 - k) ∧ wr.ownsRow lo 70 2 (.slice A n c) n (ys.flatMap mcells) ∧ Touch lo hi w wr ∧ Hid (wr.heap.size = w.heap.size) ∧ Hid (Half ms ys n k))
    (fun i _ _ => n - (intOf i).toNat)
  case atStart => exact ⟨0, ms, (n : Int) - 1, by omega, rfl, rfl, by omega, by omega, by show _ = _; omega, h.own, .refl _ _ _, rfl, ⟨h.len, fun i hi => by rw [if_neg (by omega)]⟩⟩
  case round =>
    obtain ⟨k, ys, j', hk, rfl, rfl, hj1, hj2, hjj, hown, ht, hs, hl⟩ := hrel
    by_cases hlt : k < n - 1 - k
    · obtain ⟨g, rfl, hg1, hg2, hg3⟩ := h.form (by omega)
      obtain ⟨j, rfl⟩ : ∃ j : Nat, j' = j := ⟨j'.toNat, by have := hjj.out; omega⟩
      have hj : j = n - 1 - k := by have := hjj.out; omega
      have hkl : k < ys.length := by have := hl.out.1; omega
      have hjl : j < ys.length := by have := hl.out.1; omega
      obtain ⟨x1, y1, hx1⟩ : ∃ x y, ys[k]? = some (x, y) := ⟨_, _, List.getElem?_eq_getElem hkl⟩
      obtain ⟨x2, y2, hx2⟩ : ∃ x y, ys[j]? = some (x, y) := ⟨_, _, List.getElem?_eq_getElem hjl⟩
      have c1 : wr.cell? ⟨g, k * 2, none⟩ = some (.int .i64 x1) := (hown.cellAt (k * 2) (by omega)).trans (mcells_at ys k _ hx1).1
      have c2 : wr.cell? ⟨g, k * 2 + 1, none⟩ = some (.int .i64 y1) := (hown.cellAt (k * 2 + 1) (by omega)).trans (mcells_at ys k _ hx1).2
      have c3 : wr.cell? ⟨g, j * 2, none⟩ = some (.int .i64 x2) := (hown.cellAt (j * 2) (by omega)).trans (mcells_at ys j _ hx2).1
      have c4 : wr.cell? ⟨g, j * 2 + 1, none⟩ = some (.int .i64 y2) := (hown.cellAt (j * 2 + 1) (by omega)).trans (mcells_at ys j _ hx2).2
      have f1 := hown.frozenAt (k * 2)
      have f2 := hown.frozenAt (k * 2 + 1)
      have f3 := hown.frozenAt (j * 2)
      have f4 := hown.frozenAt (j * 2 + 1)
      have g1 := hide (And.intro hx1 hx2)
      have g2 := hide hown
      have g3 := hide hj
      have n1 : ¬ k * 2 = j * 2 := by omega
      have n2 : ¬ k * 2 = j * 2 + 1 := by omega
      have n3 : ¬ k * 2 + 1 = j * 2 := by omega
      have n4 : ¬ k * 2 + 1 = j * 2 + 1 := by omega
      have n5 : j < n := by omega
      clear hx1 hx2 hown hj hkl hjl
      have n6 : k < j := by have := g3.out; omega
      go_wp2_with fail
      have t1 := g2.out.stored (k * 2) (.int .i64 x2)
      have t2 := t1.1.stored (k * 2 + 1) (.int .i64 y2)
      rw [mcells_set ys k x2 y2 (by have := hl.out.1; omega)] at t2
      have t3 := t2.1.stored (j * 2) (.int .i64 x1)
      have t4 := t3.1.stored (j * 2 + 1) (.int .i64 y1)
      rw [mcells_set (ys.set k (x2, y2)) j x1 y1 (by have := hl.out.1; simp; omega)] at t4
      have g4 := hide t4.1
      have g5 : Hid (Half ms ((ys.set k (x2, y2)).set j (x1, y1)) n (k + 1)) := half_step hl.out g3.out (by have := g3.out; omega) g1.out.1 g1.out.2
      have g6 : Hid (Touch lo hi w ((((wr.setCell ⟨g, k * 2, none⟩ (.int .i64 x2)).setCell ⟨g, k * 2 + 1, none⟩ (.int .i64 y2)).setCell ⟨g, j * 2, none⟩ (.int .i64 x1)).setCell ⟨g, j * 2 + 1, none⟩ (.int .i64 y1)).drew) :=
        ((((ht.setCell (.inl ⟨hg1, hg2⟩) _).setCell (.inl ⟨hg1, hg2⟩) _).setCell (.inl ⟨hg1, hg2⟩) _).setCell (.inl ⟨hg1, hg2⟩) _).drew
      have g7 : Hid (((((wr.setCell ⟨g, k * 2, none⟩ (.int .i64 x2)).setCell ⟨g, k * 2 + 1, none⟩ (.int .i64 y2)).setCell ⟨g, j * 2, none⟩ (.int .i64 x1)).setCell ⟨g, j * 2 + 1, none⟩ (.int .i64 y1)).drew.heap.size = w.heap.size) := by
        show _ = _
        rw [← hs.out]
        simp [World.setCell, World.drew]
      clear t1 t2 t3 t4 ht hs hl g1
      go_region
      go_wp2_with fail
      go_roundw
      case rel => exact ⟨k + 1, (ys.set k (x2, y2)).set j (x1, y1), (j : Int) - 1, by have := g3.out; omega, by go_num, rfl, by omega, by omega, by show _ = _; have := g3.out; omega, g4.out, g6.out, g7, g5⟩
      case measure => simp [intOf]; omega
    · have hlt' : ¬ ((k : Int) < j') := by have := hjj.out; omega
      have e := half_end h.len hl.out (by omega) hk
      go_wp2_with fail
      go_end0
      subst e
      exact ⟨rfl, ⟨hown, h.lt, fun m hm => h.rng m (List.mem_reverse.1 hm)⟩, ht, hs.out⟩

def revF (ms : List (Int × Int)) : List (Int × Int) := if schemeOkF ms then ms.reverse else []
theorem scheme_len {ms : List (Int × Int)} (h : schemeOkF ms = true) : ms.length ≤ 12 := by
  unfold schemeOkF at h
  simp at h
  exact h.1

theorem impl_ReverseScheme (A : Option Addr) (n c : Nat) (ms : List (Int × Int)) (lo hi : Nat) (w : World) (h : Moves w lo hi A n c ms) (hh : hi ≤ w.heap.size) :
    Calls Try.prog 48 #[.slice A n c] w fun e w' => ∃ A' n' c', e = .returned (.slice A' n' c') ∧ OwnM w' w.heap.size w'.heap.size A' n' c' (revF ms) ∧ Below w.heap.size w w' := by
  by_cases hok : schemeOkF ms = true
  · have hF : Hid (revF ms = ms.reverse) := if_pos hok
    have h12 := scheme_len hok
    have hl := h.len
    go_enter Try.func48, Try.ntmps48
    go_wp2_with fail
    refine (impl_SchemeOk A n c ms lo hi w h hh).mono ?_
    rintro e w1 ⟨rfl, b1⟩
    rw [hok]
    have hn : n ≤ 1048576 := by omega
    have s1 := b1.size
    clear hok hl h12
    go_wp2_with fail
    refine (lib_Clone A n c ms lo hi w1 (h.below b1 hh) (by omega) hn).mono ?_
    rintro e w2 ⟨A2, c2, rfl, o2, b2⟩
    have s2 := b2.size
    go_wp2_with fail
    refine (lib_Reverse A2 n c2 ms _ _ w2 o2).mono ?_
    rintro e w3 ⟨rfl, o3, t3, z3⟩
    have B3 := (b1.trans (b2.mono b1.size)).trans (t3.below (B := w.heap.size) (by omega) (by omega))
    have HZ := hide z3
    clear z3
    go_wp2_with fail
    go_ret
    refine ⟨A2, n, c2, rfl, ?_, B3⟩
    rw [hF.out]
    have o4 : OwnM w3 w.heap.size w3.heap.size A2 n c2 ms.reverse := ⟨owns_low o3.own b1.size, fun ad e => (owns_lt o3.own ad e).2, o3.rng⟩
    exact o4
  · have hok' : schemeOkF ms = false := by simpa using hok
    have hF : Hid (revF ms = []) := if_neg hok
    clear hok
    go_enter Try.func48, Try.ntmps48
    go_wp2_with fail
    refine (impl_SchemeOk A n c ms lo hi w h hh).mono ?_
    rintro e w1 ⟨rfl, b1⟩
    rw [hok']
    go_wp2_with fail
    go_ret
    refine ⟨none, 0, 0, rfl, ?_, b1⟩
    rw [hF.out]
    exact ⟨World.ownsRow_nil _ _ _ _, by simp, by simp⟩

end Go.Proofs.Ytodlfmagkjblgaa
