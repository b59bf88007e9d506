/- The reference's readers of numbers and tableaus at the fixed texts of a new session. -/
import Derived.Test.YtfijcieponfcpaaGreatDoorMgJ
import Derived.Test.YtfijcieponfcpaaGreatDoorParS
import Derived.Test.YtfijcieponfcpaaGreatDoorCutW
namespace Go.Proofs.YtfijcieponfcpaaGreatDoor
open Go.RowKit
set_option linter.unusedSimpArgs false
set_option linter.unusedVariables false
set_option maxRecDepth 20000

theorem pieces_word (c : UInt8) (h : c = 48 ∨ c = 49) : piecesF 32 [c] = [[c]] := by rcases h with rfl | rfl <;> decide +kernel
theorem pieces_tab (c : UInt8) (h : c = 48 ∨ c = 49) : piecesF 124 [c, 32, 124, 32, 49] = [[c, 32], [32, 49]] := by rcases h with rfl | rfl <;> decide +kernel
theorem bytes_of {p : ByteArray} {l : List UInt8} (h : p.data.toList = l) : p = ⟨l.toArray⟩ := bytes_ext (by simpa using h)
/-- a row of strings, as it reads -/
theorem row_at {w : World} {lo g n c : Nat} {ps : List ByteArray} (h : w.ownsRow lo 9 1 (.slice (some ⟨g, 0, none⟩) n c) n (ps.map Value.string)) {j : Nat} {p : ByteArray} (hp : ps[j]? = some p) : w.cell? ⟨g, j, none⟩ = some (.string p) := by
  have hl := own_len h
  have hj := (List.getElem?_eq_some_iff.1 hp).1
  refine (h.cellAt j (by simp at hl; omega)).trans ?_
  rw [List.getElem?_map, hp]
  rfl
theorem own_form {w : World} {lo e n c : Nat} {A : Option Addr} {vs : List Value} (h : w.ownsRow lo e 1 (.slice A n c) n vs) (hn : 0 < n) : ∃ g, A = some ⟨g, 0, none⟩ ∧ lo ≤ g ∧ g < w.heap.size := by
  rcases h.2 with ⟨_, e⟩ | ⟨g, _, _, e, h1, h2, _⟩
  · omega
  · injection e with e
    exact ⟨g, e, h1, (Array.getElem?_eq_some_iff.1 h2).1⟩

set_option maxRecDepth 100000 in
set_option maxHeartbeats 2000000 in
theorem spec_ParseNumbers1 (c : UInt8) (x : Int) (hcx : (c = 48 ∧ x = 0) ∨ (c = 49 ∧ x = 1)) (w : World) :
    Calls Tryz.prog 47 #[.string ⟨#[c]⟩] w fun e w' => ∃ A k, e = .returned (.tuple #[.slice A 1 k, .bool true]) ∧ OwnI w' w.heap.size w'.heap.size A 1 k [x] ∧ Below w.heap.size w w' := by
  obtain ⟨i0, hi0, hz0, hz1, hz2⟩ := info_parts info_int
  have hpar : parF ⟨#[c]⟩ = (x, true) := by
    rcases hcx with ⟨rfl, rfl⟩ | ⟨rfl, rfl⟩
    · exact par_zero
    · exact par_one
  have hpc := pieces_word c (by rcases hcx with ⟨h, _⟩ | ⟨h, _⟩; exact .inl h; exact .inr h)
  have hx : R64 x := by rcases hcx with ⟨_, rfl⟩ | ⟨_, rfl⟩ <;> constructor <;> omega
  have hsz : (⟨#[c]⟩ : ByteArray).size = 1 := rfl
  have HN := hide (fun W => spec_ParseNumber ⟨#[c]⟩ W (by rw [hsz]; omega))
  rw [hpar] at HN
  have b0 := below_alloc w (.cells #[] 3)
  have q0 : (w.alloc (.cells #[] 3)).ownsRow w.heap.size 3 1 (.slice (some ⟨w.heap.size, 0, none⟩) 0 0) 0 [] := by
    simpa using World.ownsRow_lit (size := 1) (e := 3) (base := w.heap.size) w #[] 0 (Nat.le_refl _) (by unfold maxLen; omega) rfl
  have HC := hide (spec_l1Cut ⟨#[c]⟩ 32 32 rfl (w.alloc (.cells #[] 3)) (by rw [hsz]; omega))
  clear hpar hcx
  go_enter Tryz.func47, Tryz.ntmps47
  go_wp2_with fail
  refine HC.out.mono ?_
  rintro e w1 ⟨A1, n1, c1, ps, rfl, hown, hps, b1⟩
  have hps1 : ps.map (·.data.toList) = [[c]] := by rw [hps.out]; exact hpc
  obtain ⟨p, rfl⟩ : ∃ p, ps = [p] := by
    cases ps with
    | nil => simp at hps1
    | cons p r =>
      cases r with
      | nil => exact ⟨p, rfl⟩
      | cons _ _ => simp at hps1
  obtain rfl : p = ⟨#[c]⟩ := bytes_of (by simpa using hps1)
  have hn1 : n1 = 1 := by have := own_len hown.out; simpa using this.symm
  subst hn1
  obtain ⟨g1, rfl, hg1, hg1'⟩ := own_form hown.out (by omega)
  have hc1 := row_at hown.out (j := 0) rfl
  have q1 : w1.ownsRow w.heap.size 3 1 (.slice (some ⟨w.heap.size, 0, none⟩) 0 0) 0 [] := owns_below q0 b1 (fun ad e => by injection e with e; subst e; simp)
  have bw1 := b0.trans (b1.mono b0.size)
  have hlt1 : w.heap.size < w1.heap.size := by have := b1.size; simp at this; omega
  have Q1 := hide q1
  clear q0 q1 HC hps hown hps1 hpc b1 b0
  go_wp2_with fail
  refine wp_loop_rounds 2 ?_
  rw [rounds_succ]
  go_wp2_with (first | (go_at_call 71; refine (HN.out w1).mono ?_; rintro e w3 ⟨rfl, b3⟩; have bw3 := bw1.trans (b3.mono bw1.size); have z3 : w.heap.size ≤ w3.heap.size := bw3.size; have Q3 := hide (owns_below Q1.out b3 (fun ad e => by injection e with e; subst e; show w.heap.size < w1.heap.size; omega)); have hc3 : w3.cell? ⟨g1, 0, none⟩ = some (.string ⟨#[c]⟩) := (b3.cell (p := ⟨g1, 0, none⟩) hg1').trans hc1) | (at_builtin; refine wpl_app1 rfl (.tmp 28) (.tmp 30) 22 rfl w.heap.size 3 i0 (.int .i64 0) 1 8 Tryz.underlying22 hi0 hz0 hz1 hz2 rfl (by omega) w3 #[.int .i64 x] _ 0 0 1 _ rfl rfl Q3.out rfl (by simp [Value.oneCell']) (by omega) (by omega) z3 ?_; intro A2 c2 w4 happ hlt2; have B4 := hide (happ.low bw3 z3 (Nat.le_refl _) Q3.out); have O4 := hide happ.1; clear happ))
  rw [rounds_succ]
  go_wp2_with fail
  refine bodyPost_ret (results_tmp2 rfl _ _ _) rfl ⟨A2, c2, rfl, ⟨O4.out, fun ad e => (owns_lt O4.out ad e).2, fun y hy => ?_⟩, B4.out⟩
  obtain rfl : y = x := by simpa using hy
  exact hx
end Go.Proofs.YtfijcieponfcpaaGreatDoor
/- The reference's text of a tableau of one stage, and its reader. -/
namespace Go.Proofs.YtfijcieponfcpaaGreatDoor
open Go.RowKit
set_option linter.unusedSimpArgs false
set_option linter.unusedVariables false
set_option maxRecDepth 20000

theorem nums_zero : numsB [0] = ⟨#[48]⟩ := by decide +kernel
theorem nums_one : numsB [1] = ⟨#[49]⟩ := by decide +kernel
theorem tabok1 (x : Int) (hx : x = 0 ∨ x = 1) : tabOkF 1 [x] [1] = true := by rcases hx with rfl | rfl <;> decide +kernel

theorem spec_l6Row1 (g c : Nat) (hc : 1 ≤ c) (hc2 : c ≤ 9223372036854775807) (B : Option Addr) (d : Nat) (w : World) :
    Calls Tryz.prog 73 #[.agg #[.int .i64 1, .slice (some ⟨g, 0, none⟩) 1 c, .slice B 1 d], .int .i64 0] w fun e w' => e = .returned (.slice (some ⟨g, 0, none⟩) 1 c) ∧ Below w.heap.size w w' := by
  go_enter Tryz.func73, Tryz.ntmps73
  go_wp2_with fail
  go_ret
  exact ⟨rfl, (Below.refl _ _).alloc (Nat.le_refl _) _⟩

set_option maxRecDepth 100000 in
set_option maxHeartbeats 4000000 in
theorem spec_FormatTableau1 (x : Int) (hx : x = 0 ∨ x = 1) (ca : UInt8) (hca : numsB [x] = ⟨#[ca]⟩) (g c : Nat) (B : Option Addr) (d lo hi lo' hi' : Nat) (w : World) (hA : Ints w lo hi (some ⟨g, 0, none⟩) 1 c [x]) (hB : Ints w lo' hi' B 1 d [1]) (hh : hi ≤ w.heap.size) (hh' : hi' ≤ w.heap.size) :
    Calls Tryz.prog 48 #[.agg #[.int .i64 1, .slice (some ⟨g, 0, none⟩) 1 c, .slice B 1 d]] w fun e w' => e = .returned (.string ⟨#[ca, 32, 124, 32, 49]⟩) ∧ Below w.heap.size w w' := by
  have b0 := below_alloc w (.cells #[.int .i64 1, .slice (some ⟨g, 0, none⟩) 1 c, .slice B 1 d] 24)
  have k0 := BlkN.new w #[.int .i64 1, .slice (some ⟨g, 0, none⟩) 1 c, .slice B 1 d] 24
  have hcA := hA.cap
  have hmA := hA.max
  have hcB := hB.cap
  have hmB := hB.max
  have HA := hide hA
  have HB := hide hB
  have hok := tabok1 x hx
  clear hA hB hx
  go_enter Tryz.func48, Tryz.ntmps48
  go_wp2_with fail
  generalize w.alloc (.cells #[.int .i64 1, .slice (some ⟨g, 0, none⟩) 1 c, .slice B 1 d] 24) = W at b0 k0 ⊢
  have z0 := b0.size
  have hK := hide (spec_TableauOk 1 (some ⟨g, 0, none⟩) 1 c [x] B 1 d [1] 0 W.heap.size W ((HA.out.below b0 hh).wide (Nat.zero_le _) (by omega)) ((HB.out.below b0 hh').wide (Nat.zero_le _) (by omega)) (Nat.le_refl _))
  rw [hok] at hK
  clear hok
  refine hK.out.mono ?_
  rintro e w1 ⟨rfl, b1⟩
  have k1 := k0.below b1
  have bw1 := b0.trans (b1.mono z0)
  have r1 := k1.c 0 rfl
  have r2 := k1.c 1 rfl
  have r3 := k1.c 2 rfl
  have z1 := b1.size
  clear k0 hK
  go_wp2_with fail
  refine wp_loop_rounds 2 ?_
  rw [rounds_succ]
  go_wp2_with fail
  refine (spec_l6Row1 g c hcA hmA B d w1).mono ?_
  rintro e w2 ⟨rfl, b2⟩
  have k2 := k1.below b2
  have bw2 := bw1.trans (b2.mono bw1.size)
  have z2 := b2.size
  clear r1 r2 r3 k1
  go_wp2_with fail
  refine (spec_FormatNumbers (some ⟨g, 0, none⟩) 1 c [x] lo hi w2 (HA.out.below bw2 hh) (by omega) (by omega)).mono ?_
  rintro e w3 ⟨rfl, b3⟩
  rw [hca]
  have k3 := k2.below b3
  have bw3 := bw2.trans (b3.mono bw2.size)
  have z3 := b3.size
  have r1 := k3.c 0 rfl
  have r2 := k3.c 1 rfl
  have r3 := k3.c 2 rfl
  clear k2 hca
  go_wp2_with fail
  rw [rounds_succ]
  go_wp2_with fail
  refine (spec_FormatNumbers B 1 d [1] lo' hi' w3 (HB.out.below bw3 hh') (by omega) (by omega)).mono ?_
  rintro e w4 ⟨rfl, b4⟩
  rw [nums_one]
  have bw4 := bw3.trans (b4.mono bw3.size)
  go_wp2_with fail
  go_ret
  exact ⟨rfl, bw4⟩
set_option maxRecDepth 100000 in
set_option maxHeartbeats 8000000 in
theorem spec_ParseTableau1 (ca : UInt8) (x : Int) (hcx : (ca = 48 ∧ x = 0) ∨ (ca = 49 ∧ x = 1)) (w : World) :
    Calls Tryz.prog 17 #[.string ⟨#[ca, 32, 124, 32, 49]⟩] w fun e w' => ∃ A c B d, e = .returned (.tuple #[.agg #[.int .i64 1, .slice A 1 c, .slice B 1 d], .bool true]) ∧ Tab1 w w' A c B d x 1 := by
  obtain ⟨i0, hi0, hz0, hz1, hz2⟩ := info_parts info_int
  have hca : ca = 48 ∨ ca = 49 := by rcases hcx with ⟨h, _⟩ | ⟨h, _⟩; exact .inl h; exact .inr h
  have hx01 : x = 0 ∨ x = 1 := by rcases hcx with ⟨_, h⟩ | ⟨_, h⟩; exact .inl h; exact .inr h
  have hnx : numsB [x] = ⟨#[ca]⟩ := by rcases hcx with ⟨rfl, rfl⟩ | ⟨rfl, rfl⟩; exact nums_zero; exact nums_one
  have hpc := pieces_tab ca hca
  have hx : R64 x := by rcases hcx with ⟨_, rfl⟩ | ⟨_, rfl⟩ <;> constructor <;> omega
  have HX := hide hx
  have hsz : (⟨#[ca, 32, 124, 32, 49]⟩ : ByteArray).size = 5 := rfl
  have hne : ((⟨#[ca, 32, 124, 32, 49]⟩ : ByteArray).toList == [110, 111, 110, 101]) = false := by
    rw [ByteArray.toList_eq]
    rcases hcx with ⟨rfl, _⟩ | ⟨rfl, _⟩ <;> rfl
  have hne0 : ((⟨#[ca, 32, 124, 32, 49]⟩ : ByteArray).toList == []) = false := by
    rw [ByteArray.toList_eq]
    rcases hcx with ⟨rfl, _⟩ | ⟨rfl, _⟩ <;> rfl
  have HN := hide (fun W => spec_ParseNumbers1 ca x hcx W)
  have HN2 := hide (fun W => spec_ParseNumbers1 49 1 (.inr ⟨rfl, rfl⟩) W)
  have HF := hide (fun g c B d lo hi lo' hi' W h1 h2 h3 h4 => spec_FormatTableau1 x hx01 ca hnx g c B d lo hi lo' hi' W h1 h2 h3 h4)
  clear hcx hca hx01 hnx hx
  have b0 : Below w.heap.size w ((w.alloc (.cells #[.int .i64 0, .slice none 0 0, .slice none 0 0] 24)).alloc (.cells #[.int .i64 0, .slice none 0 0, .slice none 0 0] 24)) := by (repeat (first | with_reducible exact Below.refl _ _ | with_reducible exact Below.refl _ _ | with_reducible refine Below.drew ?_ | ((with_reducible refine Below.alloc ?_ ?_ _); rotate_left; · first | omega | (simp [World.setCell]; done) | (simp [World.setCell]; omega)) | ((with_reducible refine Below.setCell ?_ ?_ _); rotate_left; · first | exact Nat.le_refl _ | omega | (simp; done) | (simp; omega))))
  have k0 := (BlkN.new w #[.int .i64 0, .slice none 0 0, .slice none 0 0] 24).alloc (.cells #[.int .i64 0, .slice none 0 0, .slice none 0 0] 24)
  have kt := BlkN.new (w.alloc (.cells #[.int .i64 0, .slice none 0 0, .slice none 0 0] 24)) #[.int .i64 0, .slice none 0 0, .slice none 0 0] 24
  rw [show (w.alloc (.cells #[.int .i64 0, .slice none 0 0, .slice none 0 0] 24)).heap.size = w.heap.size + 1 from by simp] at kt
  go_enter Tryz.func17, Tryz.ntmps17
  have hzW := kt.lt
  go_wp2_with fail
  generalize (w.alloc (.cells #[.int .i64 0, .slice none 0 0, .slice none 0 0] 24)).alloc (.cells #[.int .i64 0, .slice none 0 0, .slice none 0 0] 24) = W at b0 k0 kt hzW ⊢
  have z0 := b0.size
  refine (spec_l1Cut ⟨#[ca, 32, 124, 32, 49]⟩ 124 124 rfl W (by rw [hsz]; omega)).mono ?_
  rintro e w1 ⟨A1, n1, c1, ps, rfl, hown, hps, b1⟩
  have hps1 : ps.map (·.data.toList) = [[ca, 32], [32, 49]] := by rw [hps.out]; exact hpc
  obtain ⟨p, q, rfl⟩ : ∃ p q, ps = [p, q] := by
    cases ps with
    | nil => simp at hps1
    | cons p r =>
      cases r with
      | nil => simp at hps1
      | cons q r =>
        cases r with
        | nil => exact ⟨p, q, rfl⟩
        | cons _ _ => simp at hps1
  obtain rfl : p = ⟨#[ca, 32]⟩ := bytes_of (by simp at hps1; exact hps1.1)
  obtain rfl : q = ⟨#[32, 49]⟩ := bytes_of (by simp at hps1; exact hps1)
  have hn1 : n1 = 2 := by have := own_len hown.out; simpa using this.symm
  subst hn1
  obtain ⟨g1, rfl, hg1, hg1'⟩ := own_form hown.out (by omega)
  have hc1 := row_at hown.out (j := 0) rfl
  have hc2 := row_at hown.out (j := 1) rfl
  have k01 := k0.below b1
  have kt1 := kt.below b1
  have bw1 := b0.trans (b1.mono z0)
  have z1 := b1.size
  have r1 := kt1.c 0 rfl
  have s1 := kt1.f 0
  have hzt := kt1.lt
  clear hown hps hps1 hpc k0 kt
  go_wp2_with fail
  have k02 := k01.far (b := w.heap.size + 1) (i := 0) (by omega) (.int .i64 1)
  have kt2 := kt1.set 0 (.int .i64 1)
  simp only [List.setIfInBounds_toArray, List.set_cons_zero, List.set_cons_succ] at kt2
  have bw2 : Below w.heap.size w (w1.setCell ⟨w.heap.size + 1, 0, none⟩ (.int .i64 1)) := bw1.setCell (by show w.heap.size ≤ w.heap.size + 1; omega) _
  have hgne : g1 ≠ w.heap.size + 1 := by omega
  have hc12 : (w1.setCell ⟨w.heap.size + 1, 0, none⟩ (.int .i64 1)).cell? ⟨g1, 0, none⟩ = some (.string ⟨#[ca, 32]⟩) := (World.cell?_of_block (w := w1) (a := ⟨g1, 0, none⟩) (Below.heap_setCell _ _ _ _ hgne)).trans hc1
  have hc22 : (w1.setCell ⟨w.heap.size + 1, 0, none⟩ (.int .i64 1)).cell? ⟨g1, 1, none⟩ = some (.string ⟨#[32, 49]⟩) := (World.cell?_of_block (w := w1) (a := ⟨g1, 1, none⟩) (Below.heap_setCell _ _ _ _ hgne)).trans hc2
  have z2 : w1.heap.size ≤ (w1.setCell ⟨w.heap.size + 1, 0, none⟩ (.int .i64 1)).heap.size := by simp [World.setCell]
  generalize w1.setCell ⟨w.heap.size + 1, 0, none⟩ (.int .i64 1) = w2 at k02 kt2 bw2 hc12 hc22 z2 ⊢
  have KT2 := hide kt2
  have K02 := hide k02
  clear r1 s1 hc1 hc2 k01 kt1 kt2 k02
  refine wp_loop_rounds 3 ?_
  rw [rounds_succ]
  have x1 : (⟨#[ca, 32]⟩ : ByteArray).extract 0 1 = ⟨#[ca]⟩ := bytes_ext (by rw [Lib.extract_data]; rfl)
  have x2 : (⟨#[32, 49]⟩ : ByteArray).extract 1 2 = ⟨#[49]⟩ := bytes_ext (by rw [Lib.extract_data]; rfl)
  have X1 := hide x1
  have X2 := hide x2
  clear x1 x2
  go_wp2_with fail
  rw [X1.out]
  refine (HN.out w2).mono ?_
  rintro e w3 ⟨A3, c3, rfl, o3, b3⟩
  have z3 := b3.size
  obtain ⟨g3, rfl, hg3, hg3', _⟩ := o3.form (by omega)
  have kt3 := KT2.out.below b3
  have hd1 := kt3.c 0 rfl
  have hd2 := kt3.c 1 rfl
  have he2 := kt3.f 1
  have KT3 := hide kt3
  have bw3 := bw2.trans (b3.mono (by omega))
  have I3 := hide o3.ints
  have hc13 : w3.cell? ⟨g1, 1, none⟩ = some (.string ⟨#[32, 49]⟩) := (b3.cell (p := ⟨g1, 1, none⟩) (by show g1 < w2.heap.size; omega)).trans hc22
  clear kt3 o3 hc12 hc22
  have hnil := hide (World.ownsRow_nil w3 w3.heap.size 3 1)
  go_wp2_with (at_builtin; refine wpl_app rfl (.tmp 66) (.tmp 67) 22 rfl w3 w3.heap.size 3 i0 (.int .i64 0) 1 8 Tryz.underlying22 hi0 hz0 hz1 hz2 rfl (by omega) none 0 0 [] rfl hnil.out (some ⟨g3, 0, none⟩) 1 c3 [.int .i64 x] rfl rfl (news_one I3.out) (by simp) (by simp [Value.oneCell']) (by omega) (by omega) (Nat.le_refl _) ?_; intro A4 c4 w4 happ; have b4 := happ.low (Below.refl w3.heap.size w3) (Nat.le_refl _) (Nat.le_refl _) hnil.out; have O4 := hide happ.1; have kt4 := KT3.out.below b4; have he1 : w4.cell? ⟨w.heap.size + 1, 1, none⟩ = some (.slice none 0 0) := kt4.c 1 rfl; have he3 := kt4.f 1; have hc14 : w4.cell? ⟨g1, 1, none⟩ = some (.string ⟨#[32, 49]⟩) := (b4.cell (p := ⟨g1, 1, none⟩) (by show g1 < w3.heap.size; omega)).trans hc13; clear happ)
  have k04 := ((K02.out.below b3).below b4).far (b := w.heap.size + 1) (i := 1) (by omega) (.slice A4 1 c4)
  have kt5 := kt4.set 1 (.slice A4 1 c4)
  simp only [List.setIfInBounds_toArray, List.set_cons_zero, List.set_cons_succ] at kt5
  have bw4 : Below w.heap.size w (w4.setCell ⟨w.heap.size + 1, 1, none⟩ (.slice A4 1 c4)) := (bw3.trans (b4.mono bw3.size)).setCell (by show w.heap.size ≤ w.heap.size + 1; omega) _
  have z4 := b4.size
  have ad4 : ∀ ad, A4 = some ad → w3.heap.size ≤ ad.block ∧ ad.block < w4.heap.size := fun ad e => owns_lt O4.out ad e
  have o4 : OwnI (w4.setCell ⟨w.heap.size + 1, 1, none⟩ (.slice A4 1 c4)) w3.heap.size w4.heap.size A4 1 c4 [x] := ⟨owns_setCell O4.out (fun ad e => by have := ad4 ad e; show ad.block ≠ w.heap.size + 1; omega) _, fun ad e => (ad4 ad e).2, fun y hy => by
    obtain rfl : y = x := by simpa using hy
    exact HX.out⟩
  have z4' : (w4.setCell ⟨w.heap.size + 1, 1, none⟩ (.slice A4 1 c4)).heap.size = w4.heap.size := by simp [World.setCell]
  have hc15 : (w4.setCell ⟨w.heap.size + 1, 1, none⟩ (.slice A4 1 c4)).cell? ⟨g1, 1, none⟩ = some (.string ⟨#[32, 49]⟩) := (World.cell?_of_block (w := w4) (a := ⟨g1, 1, none⟩) (Below.heap_setCell _ _ _ _ hgne)).trans hc14
  rw [rounds_succ]
  have K04 := hide k04
  have KT5 := hide kt5
  have O5 := hide o4
  clear he1 he3 hd1 hd2 he2 O4 k04 kt4 kt5 o4 KT3 K02 I3 hc13 hc14
  generalize w4.setCell ⟨w.heap.size + 1, 1, none⟩ (.slice A4 1 c4) = w5 at bw4 z4' hc15 K04 KT5 O5 ⊢
  go_wp2_with fail
  rw [X2.out]
  refine (HN2.out w5).mono ?_
  rintro e w6 ⟨B6, d6, rfl, o6, b6⟩
  have z6 := b6.size
  have bw6 := bw4.trans (b6.mono bw4.size)
  have kt6 := KT5.out.below b6
  have he0 := kt6.c 0 rfl
  have he2 := kt6.c 2 rfl
  have he3 := kt6.f 2
  have k06 := (K04.out.below b6).far (b := w.heap.size + 1) (i := 2) (by omega) (.slice B6 1 d6)
  have kt7 := kt6.set 2 (.slice B6 1 d6)
  simp only [List.setIfInBounds_toArray, List.set_cons_zero, List.set_cons_succ] at kt7
  have bw7 : Below w.heap.size w (w6.setCell ⟨w.heap.size + 1, 2, none⟩ (.slice B6 1 d6)) := bw6.setCell (by show w.heap.size ≤ w.heap.size + 1; omega) _
  have ad6 : ∀ ad, B6 = some ad → w5.heap.size ≤ ad.block ∧ ad.block < w6.heap.size := fun ad e => owns_lt o6.own ad e
  have o7 : OwnI (w6.setCell ⟨w.heap.size + 1, 2, none⟩ (.slice B6 1 d6)) w5.heap.size w6.heap.size B6 1 d6 [1] := ⟨owns_setCell o6.own (fun ad e => by have := ad6 ad e; show ad.block ≠ w.heap.size + 1; omega) _, fun ad e => (ad6 ad e).2, o6.rng⟩
  have p6 := O5.out.below b6 (by omega)
  have p7 : OwnI (w6.setCell ⟨w.heap.size + 1, 2, none⟩ (.slice B6 1 d6)) w3.heap.size w4.heap.size A4 1 c4 [x] := ⟨owns_setCell p6.own (fun ad e => by have := ad4 ad e; show ad.block ≠ w.heap.size + 1; omega) _, fun ad e => (ad4 ad e).2, p6.rng⟩
  have z7 : (w6.setCell ⟨w.heap.size + 1, 2, none⟩ (.slice B6 1 d6)).heap.size = w6.heap.size := by simp [World.setCell]
  have K06 := hide k06
  have KT7 := hide kt7
  have P7 := hide p7
  have O7 := hide o7
  clear kt6 o6 p6 p7 o7 kt7 k06 KT5 K04 O5
  go_wp2_with fail
  generalize w6.setCell ⟨w.heap.size + 1, 2, none⟩ (.slice B6 1 d6) = w7 at bw7 z7 K06 KT7 P7 O7 ⊢
  clear he0 he2 he3
  have T1 := KT7.out.c 0 rfl
  have T2 := KT7.out.c 1 rfl
  have T3 := KT7.out.c 2 rfl
  rw [rounds_succ]
  obtain ⟨g4, rfl, hg4, hg4', _⟩ := P7.out.form (by omega)
  go_wp2_with fail
  refine (HF.out g4 c4 B6 d6 _ _ _ _ w7 P7.out.ints O7.out.ints (by omega) (by omega)).mono ?_
  rintro e w8 ⟨rfl, b8⟩
  have z8 := b8.size
  have bw8 := bw7.trans (b8.mono bw7.size)
  have kt8 := KT7.out.below b8
  have k08 := K06.out.below b8
  have P8 := hide (P7.out.below b8 (by omega))
  have O8 := hide (O7.out.below b8 (by omega))
  have t1 := kt8.c 0 rfl
  have t2 := kt8.c 1 rfl
  have t3 := kt8.c 2 rfl
  have U1 := k08.c 0 rfl
  have U2 := k08.c 1 rfl
  have U3 := k08.c 2 rfl
  have V1 := k08.f 0
  have V2 := k08.f 1
  have V3 := k08.f 2
  have zk := k08.lt
  clear T1 T2 T3 KT7 K06 P7 O7 kt8 k08
  go_wp2_with fail
  have hR := tab_done P8.out O8.out bw8 (by omega) (by omega) (by omega) (by omega) (.int .i64 1) (.slice (some ⟨g4, 0, none⟩) 1 c4) (.slice B6 1 d6)
  have HR := hide hR
  clear hR P8 O8 bw8
  refine bodyPost_ret (v := .tuple #[.agg #[.int .i64 1, .slice (some ⟨g4, 0, none⟩) 1 c4, .slice B6 1 d6], .bool true]) (by simp [results, Tryz.results17, go_sem, U1, U2, U3, V1, V2, V3, zk]) rfl ⟨_, c4, B6, d6, rfl, ?_⟩
  exact HR.out

set_option maxRecDepth 100000 in
theorem spec_l7Text_euler (w : World) : Calls Tryz.prog 16 #[.string ⟨#[101, 117, 108, 101, 114]⟩] w fun e w' => e = .returned (.string ⟨#[48, 32, 124, 32, 49]⟩) ∧ w = w' := by
  go_enter Tryz.func16, Tryz.ntmps16
  go_wp2_with fail
  go_ret
  exact ⟨rfl, rfl⟩

set_option maxRecDepth 100000 in
set_option maxHeartbeats 4000000 in
theorem spec_Known_euler (w : World) :
    Calls Tryz.prog 9 #[.string ⟨#[101, 117, 108, 101, 114]⟩] w fun e w' => ∃ A c B d, e = .returned (.tuple #[.agg #[.int .i64 1, .slice A 1 c, .slice B 1 d], .bool true]) ∧ Tab1 w w' A c B d 0 1 := by
  have b0 := below_alloc w (.cells #[.int .i64 0, .slice none 0 0, .slice none 0 0] 24)
  have k0 := BlkN.new w #[.int .i64 0, .slice none 0 0, .slice none 0 0] 24
  have HK := hide (spec_ParseTableau1 48 0 (.inl ⟨rfl, rfl⟩) (w.alloc (.cells #[.int .i64 0, .slice none 0 0, .slice none 0 0] 24)))
  go_enter Tryz.func9, Tryz.ntmps9
  go_wp2_with (go_at_call 16; refine (spec_l7Text_euler _).mono ?_; rintro e w1 ⟨rfl, rfl⟩)
  refine HK.out.mono ?_
  rintro e w3 ⟨A, c, B, d, rfl, hT⟩
  have HT := hide (tab_up hT b0 k0.lt (.int .i64 1) (.slice A 1 c) (.slice B 1 d))
  obtain ⟨_, _, _, _, _, hb⟩ := hT
  have k3 := k0.below hb
  have U1 := k3.c 0 rfl
  have U2 := k3.c 1 rfl
  have U3 := k3.c 2 rfl
  have V1 := k3.f 0
  have V2 := k3.f 1
  have V3 := k3.f 2
  have zk := k3.lt
  clear HK hb k3 k0 b0
  go_wp2_with fail
  refine bodyPost_ret (v := .tuple #[.agg #[.int .i64 1, .slice A 1 c, .slice B 1 d], .bool true]) (by simp [results, Tryz.results9, go_sem, U1, U2, U3, V1, V2, V3, zk]) rfl ⟨A, c, B, d, rfl, ?_⟩
  exact HT.out
end Go.Proofs.YtfijcieponfcpaaGreatDoor
