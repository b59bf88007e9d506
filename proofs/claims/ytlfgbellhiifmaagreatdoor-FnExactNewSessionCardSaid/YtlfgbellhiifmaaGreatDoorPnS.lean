/- The reference's readers of numbers and tableaus at the fixed texts of a new session. -/
import Derived.Test.YtlfgbellhiifmaaGreatDoorKnI
import Derived.Test.YtlfgbellhiifmaaGreatDoorParS
import Derived.Test.YtlfgbellhiifmaaGreatDoorCutW
namespace Go.Proofs.YtlfgbellhiifmaaGreatDoor
open Go.RowKit
set_option linter.unusedSimpArgs false
set_option linter.unusedVariables false
set_option maxRecDepth 20000

theorem pieces_word (c : UInt8) (h : c = 48 ∨ c = 49) : piecesF 32 [c] = [[c]] := by rcases h with rfl | rfl <;> decide +kernel
theorem pieces_tab (c : UInt8) (h : c = 48 ∨ c = 49) : piecesF 124 [c, 32, 124, 32, 49] = [[c, 32], [32, 49]] := by rcases h with rfl | rfl <;> decide +kernel
theorem bytes_of {p : ByteArray} {l : List UInt8} (h : p.data.toList = l) : p = ⟨l.toArray⟩ := bytes_ext (by simpa using h)
/-- a row of strings, as it reads -/
theorem row_at {w : World} {lo g n c : Nat} {ps : List ByteArray} (h : w.ownsRow lo 9 1 (.slice (some ⟨g, 0, none⟩) n c) n (ps.map Value.string)) {j : Nat} {p : ByteArray} (hp : ps[j]? = some p) : w.cell? ⟨g, j, none⟩ = some (.string p) := by
  have hl := own_len h
  have hj := (List.getElem?_eq_some_iff.1 hp).1
  refine (h.cellAt j (by simp at hl; omega)).trans ?_
  rw [List.getElem?_map, hp]
  rfl
theorem own_form {w : World} {lo e n c : Nat} {A : Option Addr} {vs : List Value} (h : w.ownsRow lo e 1 (.slice A n c) n vs) (hn : 0 < n) : ∃ g, A = some ⟨g, 0, none⟩ ∧ lo ≤ g ∧ g < w.heap.size := by
  rcases h.2 with ⟨_, e⟩ | ⟨g, _, _, e, h1, h2, _⟩
  · omega
  · injection e with e
    exact ⟨g, e, h1, (Array.getElem?_eq_some_iff.1 h2).1⟩

set_option maxRecDepth 100000 in
set_option maxHeartbeats 2000000 in
theorem spec_ParseNumbers1 (c : UInt8) (x : Int) (hcx : (c = 48 ∧ x = 0) ∨ (c = 49 ∧ x = 1)) (w : World) :
    Calls Tryz.prog 46 #[.string ⟨#[c]⟩] w fun e w' => ∃ A k, e = .returned (.tuple #[.slice A 1 k, .bool true]) ∧ OwnI w' w.heap.size w'.heap.size A 1 k [x] ∧ Below w.heap.size w w' := by
  obtain ⟨i0, hi0, hz0, hz1, hz2⟩ := info_parts info_int
  have hpar : parF ⟨#[c]⟩ = (x, true) := by
    rcases hcx with ⟨rfl, rfl⟩ | ⟨rfl, rfl⟩
    · exact par_zero
    · exact par_one
  have hpc := pieces_word c (by rcases hcx with ⟨h, _⟩ | ⟨h, _⟩; exact .inl h; exact .inr h)
  have hx : R64 x := by rcases hcx with ⟨_, rfl⟩ | ⟨_, rfl⟩ <;> constructor <;> omega
  have hsz : (⟨#[c]⟩ : ByteArray).size = 1 := rfl
  have HN := hide (fun W => spec_ParseNumber ⟨#[c]⟩ W (by rw [hsz]; omega))
  rw [hpar] at HN
  have b0 := below_alloc w (.cells #[] 3)
  have q0 : (w.alloc (.cells #[] 3)).ownsRow w.heap.size 3 1 (.slice (some ⟨w.heap.size, 0, none⟩) 0 0) 0 [] := by
    simpa using World.ownsRow_lit (size := 1) (e := 3) (base := w.heap.size) w #[] 0 (Nat.le_refl _) (by unfold maxLen; omega) rfl
  have HC := hide (spec_l1Cut ⟨#[c]⟩ 32 32 rfl (w.alloc (.cells #[] 3)) (by rw [hsz]; omega))
  clear hpar hcx
  go_enter Tryz.func46, Tryz.ntmps46
  go_wp2_with fail
  refine HC.out.mono ?_
  rintro e w1 ⟨A1, n1, c1, ps, rfl, hown, hps, b1⟩
  have hps1 : ps.map (·.data.toList) = [[c]] := by rw [hps.out]; exact hpc
  obtain ⟨p, rfl⟩ : ∃ p, ps = [p] := by
    cases ps with
    | nil => simp at hps1
    | cons p r =>
      cases r with
      | nil => exact ⟨p, rfl⟩
      | cons _ _ => simp at hps1
  obtain rfl : p = ⟨#[c]⟩ := bytes_of (by simpa using hps1)
  have hn1 : n1 = 1 := by have := own_len hown.out; simpa using this.symm
  subst hn1
  obtain ⟨g1, rfl, hg1, hg1'⟩ := own_form hown.out (by omega)
  have hc1 := row_at hown.out (j := 0) rfl
  have q1 : w1.ownsRow w.heap.size 3 1 (.slice (some ⟨w.heap.size, 0, none⟩) 0 0) 0 [] := owns_below q0 b1 (fun ad e => by injection e with e; subst e; simp)
  have bw1 := b0.trans (b1.mono b0.size)
  have hlt1 : w.heap.size < w1.heap.size := by have := b1.size; simp at this; omega
  have Q1 := hide q1
  clear q0 q1 HC hps hown hps1 hpc b1 b0
  go_wp2_with fail
  refine wp_loop_rounds 2 ?_
  rw [rounds_succ]
  go_wp2_with (first | (go_at_call 55; refine (HN.out w1).mono ?_; rintro e w3 ⟨rfl, b3⟩; have bw3 := bw1.trans (b3.mono bw1.size); have z3 : w.heap.size ≤ w3.heap.size := bw3.size; have Q3 := hide (owns_below Q1.out b3 (fun ad e => by injection e with e; subst e; show w.heap.size < w1.heap.size; omega)); have hc3 : w3.cell? ⟨g1, 0, none⟩ = some (.string ⟨#[c]⟩) := (b3.cell (p := ⟨g1, 0, none⟩) hg1').trans hc1) | (at_builtin; refine wpl_app1 rfl (.tmp 28) (.tmp 30) 22 rfl w.heap.size 3 i0 (.int .i64 0) 1 8 Tryz.underlying22 hi0 hz0 hz1 hz2 rfl (by omega) w3 #[.int .i64 x] _ 0 0 1 _ rfl rfl Q3.out rfl (by simp [Value.oneCell']) (by omega) (by omega) z3 ?_; intro A2 c2 w4 happ hlt2; have B4 := hide (happ.low bw3 z3 (Nat.le_refl _) Q3.out); have O4 := hide happ.1; clear happ))
  rw [rounds_succ]
  go_wp2_with fail
  refine bodyPost_ret (results_tmp2 rfl _ _ _) rfl ⟨A2, c2, rfl, ⟨O4.out, fun ad e => (owns_lt O4.out ad e).2, fun y hy => ?_⟩, B4.out⟩
  obtain rfl : y = x := by simpa using hy
  exact hx
end Go.Proofs.YtlfgbellhiifmaaGreatDoor
