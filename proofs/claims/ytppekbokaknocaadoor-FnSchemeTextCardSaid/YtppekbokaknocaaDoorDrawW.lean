/- What the statements draw: words and moves; when words are equal. -/
import Derived.Test.YtppekbokaknocaaDoorDraw
import Derived.Test.YtppekbokaknocaaDoorAppend
import Derived.Test.YtppekbokaknocaaDoorWordsOk
import Derived.Test.YtppekbokaknocaaDoorMix
namespace Go.Proofs.YtppekbokaknocaaDoor
open Go.RowKit
set_option linter.unusedSimpArgs false
set_option linter.unusedVariables false
set_option maxRecDepth 20000

set_option maxHeartbeats 1000000 in
theorem spec_l1New (hi : Nat) (A : Option Addr) (n c : Nat) (w : World) (h : Bytes w 0 hi A n c) (hh : hi ≤ w.heap.size) :
    Calls Tryd.prog 25 #[.slice A n c] w fun e w' => e = .returned (.pointer (some ⟨w.heap.size, 0, none⟩)) ∧ Cur w' hi w.heap.size ∧ Below w.heap.size w w' := by
  have hcp := h.cap
  have hmx := h.max
  go_enter Tryd.func25, Tryd.ntmps25
  go_wp2_with fail
  go_loop [3, 4] (fun x i => ∃ (k : Nat) (y : Int), k ≤ n ∧ i = .int .i64 k ∧ x = .int .i64 y) (fun _ i => n - (intOf i).toNat)
  case atStart => exact ⟨0, _, by omega, rfl, rfl⟩
  case round =>
    obtain ⟨k, y, hk, rfl, rfl⟩ := hrel
    by_cases hlt : k < n ∧ k < 4000
    · obtain ⟨h1, h2⟩ := hlt
      obtain ⟨ad, b, rfl, hb, hb0, hb1⟩ := h.at_ h1
      go_wp2_with fail
      go_round
      case rel => exact ⟨k + 1, _, by omega, by go_num, rfl⟩
      case measure => simp [intOf]; omega
    · by_cases h1 : k < n
      · have h2 : ¬ k < 4000 := fun e => hlt ⟨h1, e⟩
        clear hlt
        go_wp2_with fail
        go_ret
        exact ⟨rfl, ⟨A, n, c, 0, y, BlkN.new _ _ _, h.below (B := w.heap.size) (by (repeat (first | with_reducible exact Below.refl _ _ | with_reducible exact Below.refl _ _ | with_reducible refine Below.drew ?_ | ((with_reducible refine Below.alloc ?_ ?_ _); rotate_left; · first | omega | (simp [World.setCell]; done) | (simp [World.setCell]; omega)) | ((with_reducible refine Below.setCell ?_ ?_ _); rotate_left; · first | exact Nat.le_refl _ | omega | (simp; done) | (simp; omega))))) hh, by omega, by omega, hh⟩, by (repeat (first | with_reducible exact Below.refl _ _ | with_reducible exact Below.refl _ _ | with_reducible refine Below.drew ?_ | ((with_reducible refine Below.alloc ?_ ?_ _); rotate_left; · first | omega | (simp [World.setCell]; done) | (simp [World.setCell]; omega)) | ((with_reducible refine Below.setCell ?_ ?_ _); rotate_left; · first | exact Nat.le_refl _ | omega | (simp; done) | (simp; omega))))⟩
      · clear hlt
        go_wp2_with fail
        go_ret
        exact ⟨rfl, ⟨A, n, c, 0, y, BlkN.new _ _ _, h.below (B := w.heap.size) (by (repeat (first | with_reducible exact Below.refl _ _ | with_reducible exact Below.refl _ _ | with_reducible refine Below.drew ?_ | ((with_reducible refine Below.alloc ?_ ?_ _); rotate_left; · first | omega | (simp [World.setCell]; done) | (simp [World.setCell]; omega)) | ((with_reducible refine Below.setCell ?_ ?_ _); rotate_left; · first | exact Nat.le_refl _ | omega | (simp; done) | (simp; omega))))) hh, by omega, by omega, hh⟩, by (repeat (first | with_reducible exact Below.refl _ _ | with_reducible exact Below.refl _ _ | with_reducible refine Below.drew ?_ | ((with_reducible refine Below.alloc ?_ ?_ _); rotate_left; · first | omega | (simp [World.setCell]; done) | (simp [World.setCell]; omega)) | ((with_reducible refine Below.setCell ?_ ?_ _); rotate_left; · first | exact Nat.le_refl _ | omega | (simp; done) | (simp; omega))))⟩

theorem laws_big (A : Option Addr) (n c : Nat) (w : World) (hn : n ≤ 9223372036854775807) :
    Calls Tryd.prog 10 #[.slice A n c] w fun e w' => e = .returned (.bool (decide (1048576 < n))) ∧ w = w' := by
  go_enter Tryd.func10, Tryd.ntmps10
  go_wp2
  go_ret
  exact ⟨ret_bool (by simp; omega), rfl⟩



theorem mcells_snoc (ms : List (Int × Int)) (m : Int × Int) : (ms ++ [m]).flatMap mcells = ms.flatMap mcells ++ [.int .i64 m.1, .int .i64 m.2] := by simp [mcells]
set_option maxHeartbeats 2000000 in
theorem spec_dMoves (hi g : Nat) (mo : Nat) (w : World) (h : Cur w hi g) (hm : mo ≤ 10) :
    Calls Tryd.prog 26 #[.pointer (some ⟨g, 0, none⟩), .int .i64 (mo : Int)] w fun e w' => ∃ A n c ms, e = .returned (.slice A n c) ∧ n ≤ mo ∧ OwnM w' w.heap.size w'.heap.size A n c ms ∧ (∀ m ∈ ms, (0 ≤ m.1 ∧ m.1 ≤ 1) ∧ 0 ≤ m.2 ∧ m.2 < 1000000271) ∧ Cur w' hi g ∧ Touch g (g + 1) w w' := by
  obtain ⟨i0, hi0, hz0, hz1, hz2⟩ := info_parts info_move
  obtain ⟨glt, hgl⟩ := h.lt
  go_enter Tryd.func26, Tryd.ntmps26
  go_wp2_with fail
  have t0 := (Touch.refl g (g + 1) w).alloc (.cells #[] 38)
  have q0 := World.ownsRow_lit (size := 2) (e := 38) w #[] 0 (Nat.le_refl _) (by unfold maxLen; omega) rfl
  have c0 := h.below (below_alloc w (.cells #[] 38))
  have z0 : (w.alloc (.cells #[] 38)).heap.size = w.heap.size + 1 := by simp
  generalize w.alloc (.cells #[] 38) = W at t0 q0 c0 z0 ⊢
  refine (spec_l1Below hi g ((mo : Int) + 1) W c0 (by omega) (by omega)).mono ?_
  rintro e w1 ⟨x, rfl, hx0, hx1, c1, t1⟩
  have z1 := t1.size
  have q1 := owns_same q0 (fun ad e => t1.block ad.block (by injection e with e; subst e; show w.heap.size < _; omega) (.inr (by injection e with e; subst e; show g + 1 ≤ w.heap.size; omega)))
  have t2 := t0.trans t1
  clear q0 c0 t1 t0
  go_wp2_with fail
  go_loopw [5, 6] (fun l i wr => ∃ (k : Nat) (m : Nat) (A' : Option Addr) (c' : Nat) (ms : List (Int × Int)), i = .int .i64 m ∧ k + m ≤ mo ∧ l = .slice A' k c' ∧ wr.ownsRow w.heap.size 38 2 (.slice A' k c') k (ms.flatMap mcells) ∧ Hid (∀ m ∈ ms, (0 ≤ m.1 ∧ m.1 ≤ 1) ∧ 0 ≤ m.2 ∧ m.2 < 1000000271) ∧ Cur wr hi g ∧ Touch g (g + 1) w wr ∧ Hid (w.heap.size ≤ wr.heap.size))
    (fun _ i _ => (intOf i).toNat)
  case atStart => exact ⟨0, x.toNat, _, _, [], by rw [Int.toNat_of_nonneg hx0], by omega, rfl, q1, (by show ∀ m ∈ [], _; intro m hm; cases hm), c1, t2, t2.size⟩
  case round =>
    clear q1 c1 t2
    obtain ⟨k, m, A', c', ms, rfl, hkm, rfl, hown, hms, cr, tr, hsz⟩ := hrel
    by_cases hpos : 0 < m
    · have sz := hsz.out
      go_wp2_with fail
      refine (spec_l1Below hi g 2 wr cr (by omega) (by omega)).mono ?_
      rintro e w2 ⟨x1, rfl, hx10, hx11, c2, t2⟩
      have z2 := t2.size
      go_wp2_with fail
      refine (spec_dNum hi g w2 c2).mono ?_
      rintro e w3 ⟨x2, rfl, hx20, hx21, c3, t3⟩
      have z3 := t3.size
      have t23 := t2.trans t3
      have hown3 := owns_same hown (fun ad e => t23.block ad.block (owns_lt hown ad e).2 (.inr (by have := (owns_lt hown ad e).1; omega)))
      have hbl : ∀ ad, A' = some ad → w.heap.size ≤ ad.block := fun ad e => (owns_lt hown ad e).1
      have tw := tr.trans t23
      clear hown t2 t3 t23 c2 tr cr
      go_wp2_with (at_builtin; refine wpl_app1 rfl (.tmp 16) (.tmp 22) 22 rfl w.heap.size 38 i0 (.agg #[.int .i64 0, .int .i64 0]) 2 16 Tryd.underlying22 hi0 hz0 hz1 hz2 rfl (by omega) w3 #[.int .i64 x1, .int .i64 x2] A' k c' 1 _ rfl rfl hown3 rfl (by simp [Value.oneCell']) (by omega) (by omega) (by omega) ?_; intro A2 c4 w4 happ hlt2)
      have HB := hide (happ.below (Below.refl w.heap.size w3) (by omega) hbl)
      have HO := hide happ.1
      clear happ hown3 hbl
      go_wp2_with fail
      go_roundw
      case rel => exact ⟨k + 1, m - 1, A2, c4, ms ++ [(x1, x2)], by go_num, by omega, rfl, by rw [mcells_snoc]; exact HO.out, by
        intro y hy
        rcases List.mem_append.1 hy with hy | hy
        · exact hms.out y hy
        · simp at hy
          subst hy
          exact ⟨⟨hx10, by omega⟩, hx20, hx21⟩, c3.low HB.out (by omega), tw.then_below HB.out (Nat.le_refl _), by have := HB.out.size; show _ ≤ _; omega⟩
      case measure => simp [intOf]; omega
    · obtain rfl : m = 0 := by omega
      go_wp2_with fail
      go_ret
      refine ⟨A', k, c', ms, rfl, by omega, ⟨hown, fun ad e => (owns_lt hown ad e).2, fun m hm => ?_⟩, hms.out, cr, tr⟩
      have := hms.out m hm
      exact ⟨⟨by omega, by omega⟩, by omega, by omega⟩
end Go.Proofs.YtppekbokaknocaaDoor
