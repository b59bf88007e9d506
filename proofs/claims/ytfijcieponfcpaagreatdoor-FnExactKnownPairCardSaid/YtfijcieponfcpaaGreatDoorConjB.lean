/- Conjugate pairs: both texts where there is none; the two contracts whole. -/
import Derived.Test.YtfijcieponfcpaaGreatDoorConjP
namespace Go.Proofs.YtfijcieponfcpaaGreatDoor
open Go.RowKit
set_option linter.unusedSimpArgs false
set_option linter.unusedVariables false
set_option maxRecDepth 20000

abbrev zPair : Value := .agg #[.int .i64 0, .slice none 0 0, .slice none 0 0, .int .i64 0, .slice none 0 0, .slice none 0 0]
theorem tab_form {s : Int} {xs ys : List Int} (h : tabOkF s xs ys = true) : ∃ k : Nat, s = (k : Int) ∧ k ≤ 8 ∧ xs.length = k * k ∧ ys.length = k := by
  unfold tabOkF at h
  simp only [Bool.and_eq_true, decide_eq_true_eq] at h
  obtain ⟨⟨h0, h8⟩, h1, h2, _⟩ := h
  obtain ⟨k, rfl⟩ : ∃ k : Nat, s = k := ⟨s.toNat, by omega⟩
  refine ⟨k, rfl, by omega, ?_, by omega⟩
  have e : ((k * k : Nat) : Int) = (k : Int) * (k : Int) := by simp
  omega

set_option maxHeartbeats 2000000 in
theorem impl_Conj_bad (s : Int) (A : Option Addr) (n c : Nat) (xs : List Int) (B : Option Addr) (m d : Nat) (ys : List Int) (lo hi : Nat) (w : World) (h : Ints w lo hi A n c xs) (g : Ints w lo hi B m d ys) (hh : hi ≤ w.heap.size) (hm : m ≤ 1048576) (hbad : conjOkF s xs ys = false) :
    Calls Tryz.prog 12 #[.agg #[.int .i64 s, .slice A n c, .slice B m d]] w fun e w' => e = .returned (.tuple #[zPair, .bool false]) ∧ Below w.heap.size w w' := by
  have a1 := below_alloc w (.cells #[.int .i64 s, .slice A n c, .slice B m d] 24)
  have j0 := BlkN.new w #[.int .i64 s, .slice A n c, .slice B m d] 24
  have z1 : (w.alloc (.cells #[.int .i64 s, .slice A n c, .slice B m d] 24)).heap.size = w.heap.size + 1 := by simp
  go_enter Tryz.func12, Tryz.ntmps12
  go_wp2_with fail
  generalize w.alloc (.cells #[.int .i64 s, .slice A n c, .slice B m d] 24) = w1 at a1 j0 z1 ⊢
  have a2 := below_alloc w1 (.cells #[.int .i64 0, .slice none 0 0, .slice none 0 0, .int .i64 0, .slice none 0 0, .slice none 0 0] 26)
  have k0 := j0.below a2
  have k1 := BlkN.new w1 #[.int .i64 0, .slice none 0 0, .slice none 0 0, .int .i64 0, .slice none 0 0, .slice none 0 0] 26
  rw [z1] at k1
  have bW : Below w.heap.size w (w1.alloc (.cells #[.int .i64 0, .slice none 0 0, .slice none 0 0, .int .i64 0, .slice none 0 0, .slice none 0 0] 26)) := a1.trans (a2.mono (by omega))
  generalize w1.alloc (.cells #[.int .i64 0, .slice none 0 0, .slice none 0 0, .int .i64 0, .slice none 0 0, .slice none 0 0] 26) = W at a2 k0 k1 bW ⊢
  clear a1 a2 j0 z1
  refine (impl_TableauOk s A n c xs B m d ys lo hi W (h.below bW hh) (g.below bW hh) (by have := bW.size; omega)).mono ?_
  rintro e w2 ⟨rfl, b2⟩
  have m0 := k0.below b2
  have m1 := k1.below b2
  have B2 := bW.trans (b2.mono bW.size)
  clear k0 k1 b2 bW
  have p2 := m0.c 2 rfl
  have g0 := m1.c 0 rfl
  have g1 := m1.c 1 rfl
  have g2 := m1.c 2 rfl
  have g3 := m1.c 3 rfl
  have g4 := m1.c 4 rfl
  have g5 := m1.c 5 rfl
  have f0 := m1.f 0
  have f1 := m1.f 1
  have f2 := m1.f 2
  have f3 := m1.f 3
  have f4 := m1.f 4
  have f5 := m1.f 5
  have lt1 := m1.lt
  cases ht : tabOkF s xs ys with
  | false =>
    clear hbad ht
    go_wp2_with fail
    refine bodyPost_ret (v := .tuple #[zPair, .bool false]) (by simp [results, Tryz.results12, go_sem, g0, g1, g2, g3, g4, g5, lt1]) rfl ⟨rfl, store6_below B2 (by omega)⟩
  | true =>
    have hmem : decide ((0 : Int) ∈ ys) = true := by
      unfold conjOkF at hbad
      rw [ht] at hbad
      simpa using hbad
    clear hbad ht
    go_wp2_with fail
    refine (slices_Contains B m d ys 0 lo hi w2 (g.below B2 hh) hm).mono ?_
    rintro e w3 ⟨rfl, rfl⟩
    rw [hmem]
    go_wp2_with fail
    refine bodyPost_ret (v := .tuple #[zPair, .bool false]) (by simp [results, Tryz.results12, go_sem, g0, g1, g2, g3, g4, g5, lt1]) rfl ⟨rfl, store6_below B2 (by omega)⟩

set_option maxRecDepth 100000 in
set_option maxHeartbeats 2000000 in
theorem spec_Conj_bad (s : Int) (A : Option Addr) (n c : Nat) (xs : List Int) (B : Option Addr) (m d : Nat) (ys : List Int) (hi : Nat) (w : World) (h : Ints w 0 hi A n c xs) (g : Ints w 0 hi B m d ys) (hh : hi ≤ w.heap.size) (hbad : conjOkF s xs ys = false) :
    Calls Tryz.prog 10 #[.agg #[.int .i64 s, .slice A n c, .slice B m d]] w fun e w' => e = .returned (.tuple #[zPair, .bool false]) ∧ Below w.heap.size w w' := by
  obtain ⟨i0, hi0, hz0, hz1, hz2⟩ := info_parts info_int
  have a1 := below_alloc w (.cells #[.int .i64 s, .slice A n c, .slice B m d] 24)
  have j0 := BlkN.new w #[.int .i64 s, .slice A n c, .slice B m d] 24
  have z1 : (w.alloc (.cells #[.int .i64 s, .slice A n c, .slice B m d] 24)).heap.size = w.heap.size + 1 := by simp
  go_enter Tryz.func10, Tryz.ntmps10
  go_wp2_with fail
  generalize w.alloc (.cells #[.int .i64 s, .slice A n c, .slice B m d] 24) = w1 at a1 j0 z1 ⊢
  have a2 := below_alloc w1 (.cells #[.int .i64 0, .slice none 0 0, .slice none 0 0, .int .i64 0, .slice none 0 0, .slice none 0 0] 26)
  have k0 := j0.below a2
  have k1 := BlkN.new w1 #[.int .i64 0, .slice none 0 0, .slice none 0 0, .int .i64 0, .slice none 0 0, .slice none 0 0] 26
  rw [z1] at k1
  have bW : Below w.heap.size w (w1.alloc (.cells #[.int .i64 0, .slice none 0 0, .slice none 0 0, .int .i64 0, .slice none 0 0, .slice none 0 0] 26)) := a1.trans (a2.mono (by omega))
  have zW : w.heap.size + 2 ≤ (w1.alloc (.cells #[.int .i64 0, .slice none 0 0, .slice none 0 0, .int .i64 0, .slice none 0 0, .slice none 0 0] 26)).heap.size := by simp; omega
  generalize w1.alloc (.cells #[.int .i64 0, .slice none 0 0, .slice none 0 0, .int .i64 0, .slice none 0 0, .slice none 0 0] 26) = W at a2 k0 k1 bW zW ⊢
  clear a1 a2 j0 z1
  refine (spec_TableauOk s A n c xs B m d ys 0 hi W (h.below bW hh) (g.below bW hh) (by omega)).mono ?_
  rintro e w2 ⟨rfl, b2⟩
  have m0 := k0.below b2
  have m1 := k1.below b2
  have B2 := bW.trans (b2.mono bW.size)
  have zV : w.heap.size + 2 ≤ w2.heap.size := by have := b2.size; omega
  clear k0 k1 b2 bW zW
  cases ht : tabOkF s xs ys with
  | false =>
    have g0 := m1.c 0 rfl
    have g1 := m1.c 1 rfl
    have g2 := m1.c 2 rfl
    have g3 := m1.c 3 rfl
    have g4 := m1.c 4 rfl
    have g5 := m1.c 5 rfl
    have f0 := m1.f 0
    have f1 := m1.f 1
    have f2 := m1.f 2
    have f3 := m1.f 3
    have f4 := m1.f 4
    have f5 := m1.f 5
    have lt1 := m1.lt
    clear hbad ht
    go_wp2_with fail
    refine bodyPost_ret (v := .tuple #[zPair, .bool false]) (by simp [results, Tryz.results10, go_sem, g0, g1, g2, g3, g4, g5, lt1]) rfl ⟨rfl, store6_below B2 (by omega)⟩
  | true =>
    obtain ⟨k, rfl, hk, _, hyl⟩ := tab_form ht
    have hmem0 : (0 : Int) ∈ ys := by
      unfold conjOkF at hbad
      rw [ht] at hbad
      simpa using hbad
    have hmem := hide hmem0
    clear hmem0
    obtain rfl : m = k := by rw [← g.len]; exact hyl
    have hlen := hide g.len
    clear hbad ht hyl
    have aE := below_alloc w2 (.cells #[] 3)
    have hown0 : (w2.alloc (.cells #[] 3)).ownsRow w2.heap.size 3 1 (.slice (some ⟨w2.heap.size, 0, none⟩) 0 0) 0 [] := by simpa using World.ownsRow_lit (size := 1) (e := 3) w2 #[] 0 (Nat.le_refl _) (by unfold maxLen; omega) rfl
    have bE := B2.trans (aE.mono (by omega))
    have q0 := m0.below aE
    have q1 := m1.below aE
    have zE : w.heap.size + 2 ≤ (w2.alloc (.cells #[] 3)).heap.size := by have := aE.size; omega
    go_wp2_with fail
    go_loopw [4, 5] (fun al i wr => ∃ (a : Nat) (A' : Option Addr) (c' : Nat), a ≤ m ∧ i = .int .i64 a ∧ al = .slice A' a c' ∧ BlkN wr w.heap.size #[.int .i64 (m : Int), .slice A n c, .slice B m d] ∧ BlkN wr (w.heap.size + 1) #[.int .i64 0, .slice none 0 0, .slice none 0 0, .int .i64 0, .slice none 0 0, .slice none 0 0] ∧ wr.ownsRow (w.heap.size + 2) 3 1 (.slice A' a c') a ((idL a).map (Value.int .i64)) ∧ Below w.heap.size w wr ∧ Hid (w.heap.size + 2 ≤ wr.heap.size) ∧ Hid (¬ (0 : Int) ∈ ys.take a))
      (fun _ i _ => m - (intOf i).toNat)
    case atStart => exact ⟨0, _, _, by omega, rfl, rfl, q0, q1, owns_low hown0 zV, bE, zE, by show ¬ _; simp⟩
    case round =>
      clear hown0 aE bE m0 m1 zE q0 q1 B2 zV
      obtain ⟨a, A', c', ha, rfl, rfl, m0, m1, hown, hb, hzr, hno⟩ := hrel
      have hz3 := hzr.out
      have p0 := m0.c 0 rfl
      by_cases hlt : a < m
      · obtain ⟨ad, y, rfl, hcy, _, _, hy⟩ := (g.below hb hh).at_ hlt
        have p2 := m0.c 2 rfl
        by_cases hy0 : y = 0
        · subst hy0
          have g0 := m1.c 0 rfl
          have g1 := m1.c 1 rfl
          have g2 := m1.c 2 rfl
          have g3 := m1.c 3 rfl
          have g4 := m1.c 4 rfl
          have g5 := m1.c 5 rfl
          have f0 := m1.f 0
          have f1 := m1.f 1
          have f2 := m1.f 2
          have f3 := m1.f 3
          have f4 := m1.f 4
          have f5 := m1.f 5
          have lt1 := m1.lt
          clear hown hy
          go_wp2_with fail
          refine bodyPost_ret (v := .tuple #[zPair, .bool false]) (by simp [results, Tryz.results10, go_sem, g0, g1, g2, g3, g4, g5, lt1]) rfl ⟨rfl, store6_below hb (by omega)⟩
        · have hyn : (y == 0) = false := by rw [beq_eq_false_iff_ne]; exact hy0
          have hno2 : Hid (¬ (0 : Int) ∈ ys.take (a + 1)) := by
            show ¬ _
            rw [List.take_add_one, hy.out]
            simp only [List.mem_append, Option.toList_some, List.mem_singleton]
            exact fun e => e.elim hno.out (fun e2 => hy0 e2.symm)
          have hbl : ∀ ad, A' = some ad → w.heap.size + 2 ≤ ad.block := fun ad e => (owns_lt hown ad e).1
          clear hy hy0
          go_wp2_with (at_builtin; refine wpl_app1 rfl (.tmp 27) (.tmp 29) 22 rfl (w.heap.size + 2) 3 i0 (.int .i64 0) 1 8 Tryz.underlying22 hi0 hz0 hz1 hz2 rfl (by omega) wr #[.int .i64 (a : Int)] A' a c' 1 _ rfl rfl hown rfl (by simp [Value.oneCell']) (by omega) (by omega) hz3 ?_; intro A2 c2 w4 happ hlt2)
          have hbw := happ.below (Below.refl (w.heap.size + 2) wr) hz3 hbl
          have HS := hide (And.intro (m0.same (hbw.block _ (by omega))) (And.intro (m1.same (hbw.block _ (by omega))) (And.intro happ.1 (And.intro (hb.trans (hbw.mono (by omega))) (Nat.le_trans hz3 hbw.size)))))
          clear happ hown hb hbl m0 m1 p0 p2 hbw
          go_wp2_with fail
          go_roundw
          case rel => exact ⟨a + 1, A2, c2, by omega, by go_num, rfl, HS.out.1, HS.out.2.1, by rw [← idL_snoc]; exact HS.out.2.2.1, HS.out.2.2.2.1, HS.out.2.2.2.2, hno2⟩
          case measure => simp [intOf]; omega
      · exfalso
        have e := hno.out
        rw [List.take_of_length_le (by have := hlen.out; omega)] at e
        exact e hmem.out

end Go.Proofs.YtfijcieponfcpaaGreatDoor
