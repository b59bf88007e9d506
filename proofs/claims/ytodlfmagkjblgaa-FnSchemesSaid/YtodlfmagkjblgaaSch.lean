/- Words of schemes: the walks of both texts. -/
import Derived.Test.YtodlfmagkjblgaaExpS
import Derived.Test.YtodlfmagkjblgaaMoves
namespace Go.Proofs.Ytodlfmagkjblgaa
open Go.RowKit
set_option linter.unusedSimpArgs false
set_option linter.unusedVariables false
set_option maxRecDepth 20000

def ltrL (o : Int) (m : Int × Int) : List Int := (List.replicate (cntN o) 0).set (1 + m.1.toNat) (resF m.2)
def schGo (o : Int) : List (Int × Int) → List Int → List Int
  | [], out => out
  | m :: r, out => schGo o r (mulL (cntN o) out (expL o (ltrL o m)))
def schF (o : Int) (ms : List (Int × Int)) : (Int × List Int) × Bool := if schemeOkF ms = true ∧ 1 ≤ o ∧ o ≤ 5 then ((o, schGo o ms (unitL (cntN o))), true) else ((0, []), false)

theorem movesGo_at {ms : List (Int × Int)} (h : movesGo ms = true) {m : Int × Int} (hm : m ∈ ms) : (0 ≤ m.1 ∧ m.1 ≤ 1) ∧ 0 ≤ m.2 ∧ m.2 < 1000000271 := by
  induction ms with
  | nil => cases hm
  | cons a r ih =>
    rw [movesGo] at h
    split at h
    · rename_i h1
      rcases List.mem_cons.1 hm with rfl | hm
      · simp only [moveOk, Bool.and_eq_true, decide_eq_true_eq, isNumF_iff] at h1
        exact h1
      · exact ih h hm
    · cases h
theorem schemeOk_at {ms : List (Int × Int)} (h : schemeOkF ms = true) {m : Int × Int} (hm : m ∈ ms) : (0 ≤ m.1 ∧ m.1 ≤ 1) ∧ 0 ≤ m.2 ∧ m.2 < 1000000271 := by
  unfold schemeOkF at h
  simp only [Bool.and_eq_true] at h
  exact movesGo_at h.2 hm
theorem ltrL_len (o : Int) (m : Int × Int) : (ltrL o m).length = cntN o := by simp [ltrL]
theorem ltrL_num (o : Int) (m : Int × Int) : ∀ x ∈ ltrL o m, 0 ≤ x ∧ x < 1000000271 := by
  intro x hx
  rcases List.mem_or_eq_of_mem_set hx with h | h
  · have := (List.mem_replicate.1 h).2
    omega
  · rw [h]; exact resF_bd _
theorem ltrL_zero (o : Int) (m : Int × Int) : (ltrL o m).getD 0 0 = 0 := by
  unfold ltrL
  rw [List.getD, List.getElem?_set_ne (by omega)]
  by_cases h : 0 < cntN o
  · simp [h]
  · simp [show cntN o = 0 by omega]
theorem expGo_num (n : Nat) (a : List Int) (s j : Nat) (out pw : List Int) (h : ∀ x ∈ out, 0 ≤ x ∧ x < 1000000271) : ∀ x ∈ expGo n a s j out pw, 0 ≤ x ∧ x < 1000000271 := by
  induction s generalizing j out pw with
  | zero => exact h
  | succ s ih => exact ih _ _ _ (zip_num _ _ _)
theorem expL_num (o : Int) (xs : List Int) : ∀ x ∈ expL o xs, 0 ≤ x ∧ x < 1000000271 := expGo_num _ _ _ _ _ _ (unitL_num _)
theorem schGo_len (o : Int) (ms : List (Int × Int)) (out : List Int) (h : out.length = cntN o) : (schGo o ms out).length = cntN o := by
  induction ms generalizing out with
  | nil => exact h
  | cons m r ih => exact ih _ (mulL_len _ _ _)
theorem schGo_num (o : Int) (ms : List (Int × Int)) (out : List Int) (h : ∀ x ∈ out, 0 ≤ x ∧ x < 1000000271) : ∀ x ∈ schGo o ms out, 0 ≤ x ∧ x < 1000000271 := by
  induction ms generalizing out with
  | nil => exact h
  | cons m r ih => exact ih _ (mulL_num _ _ _)
theorem schF_len (o : Int) (ms : List (Int × Int)) : (schF o ms).1.2.length ≤ 63 := by
  unfold schF
  split
  · rename_i h
    have := cntN_bd h.2.2
    show (schGo o ms (unitL (cntN o))).length ≤ 63
    rw [schGo_len o ms _ (by simp [unitL])]
    omega
  · simp

theorem impl_Letter_ok (o l x : Int) (w : World) (h1 : 1 ≤ o) (h5 : o ≤ 5) (hl : 0 ≤ l ∧ l ≤ 1) (hx : R64 x) :
    Calls Try.prog 47 #[.int .i64 o, .int .i64 l, .int .i64 x] w fun e w' => ∃ A c, e = .returned (.agg #[.int .i64 o, .slice A (cntN o) c]) ∧ OwnI w' w.heap.size w'.heap.size A (cntN o) c (ltrL o (l, x)) ∧ Below w.heap.size w w' := by
  refine (impl_LetterWords o l x w hx).mono ?_
  rintro e w' ⟨A, n, c, rfl, q1, q2⟩
  have hF : letterF o l x = (o, ltrL o (l, x)) := if_pos ⟨⟨h1, h5⟩, hl⟩
  rw [hF] at q1 ⊢
  obtain rfl : n = cntN o := by rw [← q1.len, ltrL_len]
  exact ⟨A, c, rfl, q1, q2⟩
theorem spec_Letter_ok (o l x : Int) (w : World) (h1 : 1 ≤ o) (h5 : o ≤ 5) (hl : 0 ≤ l ∧ l ≤ 1) (hx : R64 x) :
    Calls Try.prog 115 #[.int .i64 o, .int .i64 l, .int .i64 x] w fun e w' => ∃ A c, e = .returned (.agg #[.int .i64 o, .slice A (cntN o) c]) ∧ OwnI w' w.heap.size w'.heap.size A (cntN o) c (ltrL o (l, x)) ∧ Below w.heap.size w w' := by
  refine (spec_LetterWords o l x w hx).mono ?_
  rintro e w' ⟨A, n, c, rfl, q1, q2⟩
  have hF : letterF o l x = (o, ltrL o (l, x)) := if_pos ⟨⟨h1, h5⟩, hl⟩
  rw [hF] at q1 ⊢
  obtain rfl : n = cntN o := by rw [← q1.len, ltrL_len]
  exact ⟨A, c, rfl, q1, q2⟩
theorem spec_Exp_ok (o : Int) (A : Option Addr) (n c : Nat) (xs : List Int) (lo hi : Nat) (w : World) (h : Ints w lo hi A n c xs) (hh : hi ≤ w.heap.size) (hok : wordsOkF o xs = true) (hz : xs.getD 0 0 = 0) :
    Calls Try.prog 53 #[.agg #[.int .i64 o, .slice A n c]] w fun e w' => ∃ A' c', e = .returned (.tuple #[.agg #[.int .i64 o, .slice A' (cntN o) c'], .bool true]) ∧ OwnI w' w.heap.size w'.heap.size A' (cntN o) c' (expL o xs) ∧ Below w.heap.size w w' := by
  refine (spec_ExpWords o A n c xs lo hi w h hh).mono ?_
  rintro e w' ⟨A', n', c', rfl, q1, q2⟩
  have hF : expF o xs = ((o, expL o xs), true) := if_pos ⟨hok, hz⟩
  rw [hF] at q1 ⊢
  obtain rfl : n' = cntN o := by rw [← q1.len]; exact expL_len _ _
  exact ⟨A', c', rfl, q1, q2⟩

theorem far_alloc {w : World} {p q : Addr} {u v : Value} {ob : Obj} (h : w.cell? p = some u ∧ w.cell? q = some v) : (w.alloc ob).cell? p = some u ∧ (w.alloc ob).cell? q = some v :=
  ⟨(World.cell?_of_block (w := w) (a := p) (Below.heap_alloc _ _ _ (World.block_lt_of_cell? w _ h.1))).trans h.1, (World.cell?_of_block (w := w) (a := q) (Below.heap_alloc _ _ _ (World.block_lt_of_cell? w _ h.2))).trans h.2⟩
theorem far_store {w : World} {b : Nat} {p q : Addr} {x y u v : Value} (hp : p.block ≠ b) (hq : q.block = p.block) (h : w.cell? p = some u ∧ w.cell? q = some v) :
    ((w.setCell ⟨b, 0, none⟩ x).setCell ⟨b, 1, none⟩ y).cell? p = some u ∧ ((w.setCell ⟨b, 0, none⟩ x).setCell ⟨b, 1, none⟩ y).cell? q = some v :=
  ⟨(World.cell?_of_block (w := w) (a := p) ((Below.heap_setCell _ ⟨b, 1, none⟩ _ p.block hp).trans (Below.heap_setCell _ ⟨b, 0, none⟩ _ p.block hp))).trans h.1,
   (World.cell?_of_block (w := w) (a := q) ((Below.heap_setCell _ ⟨b, 1, none⟩ _ q.block (by rw [hq]; exact hp)).trans (Below.heap_setCell _ ⟨b, 0, none⟩ _ q.block (by rw [hq]; exact hp)))).trans h.2⟩

set_option maxRecDepth 100000 in
set_option maxHeartbeats 2000000 in
theorem impl_SchemeWords (o : Int) (A : Option Addr) (n c : Nat) (ms : List (Int × Int)) (lo hi : Nat) (w : World) (h : Moves w lo hi A n c ms) (hh : hi ≤ w.heap.size) :
    Calls Try.prog 46 #[.int .i64 o, .slice A n c] w fun e w' => ∃ A' n' c', e = .returned (.tuple #[.agg #[.int .i64 (schF o ms).1.1, .slice A' n' c'], .bool (schF o ms).2]) ∧ OwnI w' w.heap.size w'.heap.size A' n' c' (schF o ms).1.2 ∧ Below w.heap.size w w' := by
  have hm := h.max
  have hcp := h.cap
  have b0 := below_alloc w (.cells #[.int .i64 0, .slice none 0 0] 38)
  have j2 := Blk2.new w (.int .i64 0) (.slice none 0 0) 38
  have z0 := b0.size
  by_cases hok : schemeOkF ms = true
  · by_cases ho : 1 ≤ o ∧ o ≤ 5
    · have hF : Hid (schF o ms = ((o, schGo o ms (unitL (cntN o))), true)) := if_pos ⟨hok, ho⟩
      obtain ⟨h0, h5⟩ := ho
      have hcb := cntN_bd h5
      go_enter Try.func46, Try.ntmps46
      go_wp2_with fail
      have h1 := h.below b0 hh
      generalize World.alloc w (.cells #[.int .i64 0, .slice none 0 0] 38) = W at j2 b0 h1 z0 ⊢
      refine (impl_SchemeOk A n c ms lo hi W h1 (by omega)).mono ?_
      rintro e w1 ⟨rfl, b1⟩
      rw [hok]
      have hokH := hide hok
      clear hok
      have k2 := j2.below b1
      have h2 := h1.below b1 (by omega)
      have b2 := b0.trans (b1.mono z0)
      have z1 := b2.size
      have q2 := k2.lt
      clear j2 h1 b0 b1 z0
      go_wp2_with fail
      refine (impl_Unit o w1 (by omega) h5).mono ?_
      rintro e w2 ⟨A3, c3, rfl, o3, b3⟩
      have a3 := below_alloc w2 (.cells #[.int .i64 o, .slice A3 (cntN o) c3] 38)
      have l2 := (k2.below b3).below a3
      have l3 := Blk2.new w2 (.int .i64 o) (.slice A3 (cntN o) c3) 38
      have o3' := o3.below a3 (Nat.le_refl _)
      have z2 := b3.size
      have h3 := (h2.below b3 (by omega)).below a3 (by omega)
      have b4 := (b2.trans (b3.mono z1)).trans (a3.mono (by omega))
      have q3 := l3.lt
      clear k2 h2 b2 b3 o3
      go_wp2_with fail
      generalize World.alloc w2 (.cells #[.int .i64 o, .slice A3 (cntN o) c3] 38) = w3 at a3 l2 l3 o3' h3 b4 q3 ⊢
      clear a3
      go_loopw [8, 25] (fun _ i wr => ∃ (k : Nat) (B : Option Addr) (d lo2 hi2 : Nat) (out : List Int), k ≤ n ∧ i = .int .i64 k ∧ Below w2.heap.size w3 wr ∧ Blk2 wr w2.heap.size (.int .i64 o) (.slice B (cntN o) d) ∧
          Hid (OwnI wr lo2 hi2 B (cntN o) d out ∧ w1.heap.size ≤ lo2 ∧ hi2 ≤ wr.heap.size ∧ (hi2 ≤ w2.heap.size ∨ w2.heap.size < lo2) ∧ wordsOkF o out = true) ∧ Hid (schGo o ms (unitL (cntN o)) = schGo o (ms.drop k) out))
        (fun _ i _ => n - (intOf i).toNat)
      case atStart => exact ⟨0, A3, c3, w1.heap.size, w2.heap.size, unitL (cntN o), by omega, rfl, Below.refl _ _, l3, ⟨o3', by omega, by omega, by omega, wordsOk_of (by omega) h5 (by simp [unitL]) (unitL_num _)⟩, rfl⟩
      case round =>
        obtain ⟨k, B, d, lo2, hi2, out, hk, rfl, hb, n3, ho2, hE⟩ := hrel
        have n2 := l2.same (hb.block w.heap.size (by omega))
        have h4 := h3.same (Same.of_below (lo := lo) hb (show hi ≤ w2.heap.size by omega))
        have hs := hb.size
        by_cases hlt : k < n
        · obtain ⟨ad, x, y, rfl, hc1, hc2, hr1, hr2, hd, hx⟩ := h4.at_ hlt
          have hxy := schemeOk_at hokH.out (List.mem_of_getElem? hx.out)
          have hxb : 0 ≤ x ∧ x ≤ 1 := hxy.1
          have E1 : Hid (schGo o ms (unitL (cntN o)) = schGo o (ms.drop (k + 1)) (mulL (cntN o) out (expL o (ltrL o (x, y))))) := by
            show _ = _
            rw [hE.out, hd.out, schGo]
          have hyr : R64 y := hr2
          clear hxy hr1 hr2 hd hx hE
          go_upto_region 7 with fail
          have a5 := below_alloc wr (.cells #[.int .i64 x, .int .i64 y] 70)
          have n5 := Blk2.new wr (.int .i64 x) (.int .i64 y) 70
          have n3' := n3.below a5
          have P3 := ho2.out.1.below a5 ho2.out.2.2.1
          have Hb := hb.trans (a5.mono (show w2.heap.size ≤ wr.heap.size by omega))
          have hlo := ho2.out.2.1
          have hhi := ho2.out.2.2.1
          have hdi := ho2.out.2.2.2.1
          have HH := hide (And.intro P3 ho2.out.2.2.2.2)
          have q5 := n5.lt
          clear n2 n3 h4 hc1 hc2 hb P3 ho2
          generalize World.alloc wr (.cells #[.int .i64 x, .int .i64 y] 70) = v2 at a5 n5 n3' Hb HH q5 ⊢
          have d2 : Below v2.heap.size v2 v2.drew := (Below.refl _ _).drew
          have dz := d2.size
          have r3 := n3'.below d2
          have r5 := n5.below d2
          have sz5 := a5.size
          clear a5
          have hS0 : Two w2.heap.size (.int .i64 o) (.slice B (cntN o) d) wr.heap.size (.int .i64 x) (.int .i64 y) v2.drew := ⟨⟨r3.c0, r3.c1⟩, r5.c0, r5.c1⟩
          refine wp_region_Z (Two w2.heap.size (.int .i64 o) (.slice B (cntN o) d) wr.heap.size (.int .i64 x) (.int .i64 y)) 9 (by kernel_rfl) ?_
          refine wpAnyZ_take 0 (.agg #[.int .i64 o, .slice B (cntN o) d]) rfl (by kernel_rfl) (by kernel_rfl) (fun _ _ _ h => h) (by rfl) (fun _ hS => by obtain ⟨⟨s1, s2⟩, s3, s4⟩ := hS; go_simp) hS0 ?_
          try simp only [Act.put, List.setIfInBounds_toArray, List.set_cons_zero, List.set_cons_succ]
          refine wpAnyZ_takeW 1 (.int .i64 o) rfl (by kernel_rfl) (by kernel_rfl) (fun _ _ _ h => h) (by rfl) (fun _ => by go_simp) hS0 ?_
          try simp only [Act.put, List.setIfInBounds_toArray, List.set_cons_zero, List.set_cons_succ]
          refine wpAnyZ_takeW 2 (.pointer (some ⟨wr.heap.size, 0, none⟩)) rfl (by kernel_rfl) (by kernel_rfl) (fun _ _ _ h => h) (by rfl) (fun _ => by go_simp) hS0 ?_
          try simp only [Act.put, List.setIfInBounds_toArray, List.set_cons_zero, List.set_cons_succ]
          refine wpAnyZ_take 3 (.int .i64 x) rfl (by kernel_rfl) (by kernel_rfl) (fun _ _ _ h => h) (by rfl) (fun _ hS => by obtain ⟨⟨s1, s2⟩, s3, s4⟩ := hS; go_simp) hS0 ?_
          try simp only [Act.put, List.setIfInBounds_toArray, List.set_cons_zero, List.set_cons_succ]
          refine wpAnyZ_takeW 4 (.pointer (some ⟨wr.heap.size, 1, none⟩)) rfl (by kernel_rfl) (by kernel_rfl) (fun _ _ _ h => h) (by rfl) (fun _ => by go_simp) hS0 ?_
          try simp only [Act.put, List.setIfInBounds_toArray, List.set_cons_zero, List.set_cons_succ]
          refine wpAnyZ_take 5 (.int .i64 y) rfl (by kernel_rfl) (by kernel_rfl) (fun _ _ _ h => h) (by rfl) (fun _ hS => by obtain ⟨⟨s1, s2⟩, s3, s4⟩ := hS; go_simp) hS0 ?_
          try simp only [Act.put, List.setIfInBounds_toArray, List.set_cons_zero, List.set_cons_succ]
          refine wpAnyZ_one 6 (by kernel_rfl) rfl (by rfl) (fun K hK => ?_)
          go_simp
          refine (impl_Letter_ok o x y v2.drew h0 h5 hxb hyr).mono ?_
          rintro e u1 ⟨A6, c6, rfl, o6, b6⟩
          have y6 := b6.size
          have r3a := r3.below b6
          have r5a := r5.below b6
          have hS1 : Two w2.heap.size (.int .i64 o) (.slice B (cntN o) d) wr.heap.size (.int .i64 x) (.int .i64 y) u1 := ⟨⟨r3a.c0, r3a.c1⟩, r5a.c0, r5a.c1⟩
          go_wp2_with fail
          refine hK.out _ _ hS1 ?_
          clear hK K
          try simp only [Act.put, List.setIfInBounds_toArray, List.set_cons_zero, List.set_cons_succ]
          refine wpAnyZ_one 7 (by kernel_rfl) rfl (by rfl) (fun K hK => ?_)
          go_simp
          refine (impl_expWords o A6 (cntN o) c6 (ltrL o (x, y)) _ _ u1 o6.ints (Nat.le_refl _) (by omega) h5 rfl (ltrL_num _ _)).mono ?_
          rintro e u2 ⟨A7, c7, rfl, o7, b7⟩
          have y7 := b7.size
          have r3b := r3a.below b7
          have r5b := r5a.below b7
          have hS2 : Two w2.heap.size (.int .i64 o) (.slice B (cntN o) d) wr.heap.size (.int .i64 x) (.int .i64 y) u2 := ⟨⟨r3b.c0, r3b.c1⟩, r5b.c0, r5b.c1⟩
          go_wp2_with fail
          refine hK.out _ _ hS2 ?_
          clear hK K
          try simp only [Act.put, List.setIfInBounds_toArray, List.set_cons_zero, List.set_cons_succ]
          refine wpAnyZ_one 8 (by kernel_rfl) rfl (by rfl) (fun K hK => ?_)
          go_simp
          refine (impl_mulWords o B (cntN o) d out lo2 hi2 o A7 (cntN o) c7 (expL o (ltrL o (x, y))) _ _ u2 (((HH.out.1.below d2 (by omega)).below b6 (by omega)).below b7 (by omega)).ints o7.ints (by omega) (Nat.le_refl _) (by omega) h5 rfl rfl (wordsOk_facts HH.out.2).2.2 (expL_num _ _)).mono ?_
          rintro e u3 ⟨A8, c8, rfl, o8, b8⟩
          have y8 := b8.size
          have r3c := r3b.below b8
          have r5c := r5b.below b8
          have hS3 : Two w2.heap.size (.int .i64 o) (.slice B (cntN o) d) wr.heap.size (.int .i64 x) (.int .i64 y) u3 := ⟨⟨r3c.c0, r3c.c1⟩, r5c.c0, r5c.c1⟩
          go_wp2_with fail
          refine hK.out _ _ hS3 ?_
          clear hK K
          try simp only [Act.put, List.setIfInBounds_toArray, List.set_cons_zero, List.set_cons_succ]
          have N3 := r3c.store2 (.int .i64 o) (.slice A8 (cntN o) c8)
          have N8 := o8.same (store2_same (.int .i64 o) (.slice A8 (cntN o) c8) (b := w2.heap.size) (by omega))
          have HB := store2_below (((Hb.drew.trans (b6.mono (show w2.heap.size ≤ v2.drew.heap.size by omega))).trans (b7.mono (show w2.heap.size ≤ u1.heap.size by omega))).trans (b8.mono (show w2.heap.size ≤ u2.heap.size by omega))) (Nat.le_refl _) (.int .i64 o) (.slice A8 (cntN o) c8)
          have ys8 := store2_size u3 w2.heap.size (.int .i64 o) (.slice A8 (cntN o) c8)
          have g0 := r3c.c0
          have g1 := r3c.c1
          have f0 := r3c.f0
          have f1 := r3c.f1
          clear hS0 hS1 hS2 hS3 r3 r5 r3a r5a r3b r5b r3c r5c b6 b7 b8 o6 o7 o8 HH Hb d2 n3' n5
          refine wpAnyZ_last (by kernel_rfl) rfl (by kernel_rfl) (by rfl) (fun K hK => ?_)
          go_simp
          refine hK _ _ ?_
          clear hK K g0 g1 f0 f1
          generalize (u3.setCell ⟨w2.heap.size, 0, none⟩ (.int .i64 o)).setCell ⟨w2.heap.size, 1, none⟩ (.slice A8 (cntN o) c8) = v4 at N3 N8 HB ys8 ⊢
          go_wp2_with fail
          go_roundw
          case rel => exact ⟨k + 1, A8, c8, _, _, _, by omega, by go_num, HB, N3, ⟨N8, by omega, by omega, by omega, wordsOk_of (by omega) h5 (mulL_len _ _ _) (mulL_num _ _ _)⟩, E1⟩
          case measure => simp [intOf]; omega
        · obtain rfl : k = n := by omega
          have e := h.drop_end
          have E0 : Hid (schGo o ms (unitL (cntN o)) = out) := by
            show _ = _
            rw [hE.out, e.out]
            rfl
          have p2 := n3.c0
          have p3 := n3.c1
          have p4 := n2.c0
          have p5 := n2.c1
          have p6 := n2.f0
          have p7 := n2.f1
          have B5 := b4.trans (hb.mono (show w.heap.size ≤ w2.heap.size by omega))
          have HO2 := hide ho2.out.1
          have hz3 := ho2.out.2.2.1
          have hz2 := ho2.out.2.1
          have l6 := n2.lt
          clear hE ho2 hb n2 n3 h4 l2 l3 o3' h3 b4
          go_wp2_with fail
          refine bodyPost_ret (v := .tuple #[.agg #[.int .i64 o, .slice B (cntN o) d], .bool true]) (by simp [results, Try.results46, go_sem, p4, p5]) rfl ⟨_, _, _, by rw [hF.out], ?_, ?_⟩
          · rw [hF.out]
            show OwnI _ _ _ _ _ _ (schGo o ms (unitL (cntN o)))
            rw [E0.out]
            refine (OwnI.same HO2.out ?_).wide (by omega) ?_
            · (repeat (first | with_reducible exact Same.refl _ _ _ | with_reducible refine Same.drew ?_ | ((with_reducible refine Same.alloc ?_ ?_ _); rotate_left; · first | omega | (simp [World.setCell]; done) | (simp [World.setCell]; omega)) | ((with_reducible refine Same.setCell ?_ ?_ _); rotate_left; · first | omega | (simp; done) | (simp; omega))))
            · simp [World.setCell]; omega
          · (repeat (first | with_reducible exact B5 | with_reducible exact Below.refl _ _ | with_reducible refine Below.drew ?_ | ((with_reducible refine Below.alloc ?_ ?_ _); rotate_left; · first | omega | (simp [World.setCell]; done) | (simp [World.setCell]; omega)) | ((with_reducible refine Below.setCell ?_ ?_ _); rotate_left; · first | exact Nat.le_refl _ | omega | (simp; done) | (simp; omega))))
    · have hF : Hid (schF o ms = ((0, []), false)) := if_neg (fun h => ho h.2)
      go_enter Try.func46, Try.ntmps46
      go_wp2_with fail
      have h1 := h.below b0 hh
      generalize World.alloc w (.cells #[.int .i64 0, .slice none 0 0] 38) = W at j2 b0 h1 z0 ⊢
      refine (impl_SchemeOk A n c ms lo hi W h1 (by omega)).mono ?_
      rintro e w1 ⟨rfl, b1⟩
      rw [hok]
      clear hok
      have k2 := j2.below b1
      have b2 := b0.trans (b1.mono z0)
      have p4 := k2.c0
      have p5 := k2.c1
      have p6 := k2.f0
      have p7 := k2.f1
      by_cases ho1 : o < 1
      all_goals
        (try have ho5 : 5 < o := by omega)
        clear ho
        go_wp2_with fail
        refine bodyPost_ret (v := .tuple #[.agg #[.int .i64 0, .slice none 0 0], .bool false]) (by simp [results, Try.results46, go_sem, p4, p5]) rfl ⟨_, _, _, by rw [hF.out], by rw [hF.out]; exact OwnI.nil_ _ _ _, ?_⟩
        (repeat (first | with_reducible exact b2 | with_reducible exact Below.refl _ _ | with_reducible refine Below.drew ?_ | ((with_reducible refine Below.alloc ?_ ?_ _); rotate_left; · first | omega | (simp [World.setCell]; done) | (simp [World.setCell]; omega)) | ((with_reducible refine Below.setCell ?_ ?_ _); rotate_left; · first | exact Nat.le_refl _ | omega | (simp; done) | (simp; omega))))
  · have hF : Hid (schF o ms = ((0, []), false)) := if_neg (fun h => hok h.1)
    have hok' : schemeOkF ms = false := by simpa using hok
    go_enter Try.func46, Try.ntmps46
    go_wp2_with fail
    have h1 := h.below b0 hh
    generalize World.alloc w (.cells #[.int .i64 0, .slice none 0 0] 38) = W at j2 b0 h1 z0 ⊢
    refine (impl_SchemeOk A n c ms lo hi W h1 (by omega)).mono ?_
    rintro e w1 ⟨rfl, b1⟩
    rw [hok']
    clear hok hok'
    have k2 := j2.below b1
    have b2 := b0.trans (b1.mono z0)
    have p4 := k2.c0
    have p5 := k2.c1
    have p6 := k2.f0
    have p7 := k2.f1
    go_wp2_with fail
    refine bodyPost_ret (v := .tuple #[.agg #[.int .i64 0, .slice none 0 0], .bool false]) (by simp [results, Try.results46, go_sem, p4, p5]) rfl ⟨_, _, _, by rw [hF.out], by rw [hF.out]; exact OwnI.nil_ _ _ _, ?_⟩
    (repeat (first | with_reducible exact b2 | with_reducible exact Below.refl _ _ | with_reducible refine Below.drew ?_ | ((with_reducible refine Below.alloc ?_ ?_ _); rotate_left; · first | omega | (simp [World.setCell]; done) | (simp [World.setCell]; omega)) | ((with_reducible refine Below.setCell ?_ ?_ _); rotate_left; · first | exact Nat.le_refl _ | omega | (simp; done) | (simp; omega))))

set_option maxRecDepth 100000 in
set_option maxHeartbeats 2000000 in
theorem spec_SchemeWords (o : Int) (A : Option Addr) (n c : Nat) (ms : List (Int × Int)) (lo hi : Nat) (w : World) (h : Moves w lo hi A n c ms) (hh : hi ≤ w.heap.size) :
    Calls Try.prog 58 #[.int .i64 o, .slice A n c] w fun e w' => ∃ A' n' c', e = .returned (.tuple #[.agg #[.int .i64 (schF o ms).1.1, .slice A' n' c'], .bool (schF o ms).2]) ∧ OwnI w' w.heap.size w'.heap.size A' n' c' (schF o ms).1.2 ∧ Below w.heap.size w w' := by
  have hm := h.max
  have hcp := h.cap
  have b0 := below_alloc w (.cells #[.int .i64 0, .slice none 0 0] 38)
  have j2 := Blk2.new w (.int .i64 0) (.slice none 0 0) 38
  have z0 := b0.size
  by_cases hok : schemeOkF ms = true
  · by_cases ho : 1 ≤ o ∧ o ≤ 5
    · have hF : Hid (schF o ms = ((o, schGo o ms (unitL (cntN o))), true)) := if_pos ⟨hok, ho⟩
      obtain ⟨h0, h5⟩ := ho
      have hcb := cntN_bd h5
      go_enter Try.func58, Try.ntmps58
      go_wp2_with fail
      have h1 := h.below b0 hh
      generalize World.alloc w (.cells #[.int .i64 0, .slice none 0 0] 38) = W at j2 b0 h1 z0 ⊢
      refine (spec_SchemeOk A n c ms lo hi W h1).mono ?_
      rintro e w1 ⟨rfl, rfl⟩
      rw [hok]
      have hokH := hide hok
      clear hok
      have k2 := j2
      have h2 := h1
      have b2 := b0
      have z1 := b2.size
      have q2 := k2.lt
      have hin : (decide (1 ≤ o) && decide (o ≤ 5)) = true := by simp; omega
      clear j2 h1 b0 z0
      obtain ⟨w1, rfl⟩ : ∃ w1 : World, w1 = W := ⟨_, rfl⟩
      go_wp2_with (go_at_call 119; refine (spec_l1In _ _ _ _).mono ?_; rintro e w' ⟨rfl, rfl⟩)
      refine (spec_Unit o w1 (by omega) h5).mono ?_
      rintro e w2 ⟨A3, c3, rfl, o3, b3⟩
      have a3 := below_alloc w2 (.cells #[.int .i64 o, .slice A3 (cntN o) c3] 38)
      have l2 := (k2.below b3).below a3
      have l3 := Blk2.new w2 (.int .i64 o) (.slice A3 (cntN o) c3) 38
      have o3' := o3.below a3 (Nat.le_refl _)
      have z2 := b3.size
      have h3 := (h2.below b3 (by omega)).below a3 (by omega)
      have b4 := (b2.trans (b3.mono z1)).trans (a3.mono (by omega))
      have q3 := l3.lt
      clear k2 h2 b2 b3 o3
      go_wp2_with fail
      generalize World.alloc w2 (.cells #[.int .i64 o, .slice A3 (cntN o) c3] 38) = w3 at a3 l2 l3 o3' h3 b4 q3 ⊢
      clear a3
      go_loopw [7, 8, 9] (fun i _ _ wr => ∃ (k : Nat) (B : Option Addr) (d lo2 hi2 : Nat) (out : List Int), k ≤ n ∧ i = .int .i64 k ∧ Below w2.heap.size w3 wr ∧ Blk2 wr w2.heap.size (.int .i64 o) (.slice B (cntN o) d) ∧
          Hid (OwnI wr lo2 hi2 B (cntN o) d out ∧ w1.heap.size ≤ lo2 ∧ hi2 ≤ wr.heap.size ∧ (hi2 ≤ w2.heap.size ∨ w2.heap.size < lo2) ∧ wordsOkF o out = true) ∧ Hid (schGo o ms (unitL (cntN o)) = schGo o (ms.drop k) out))
        (fun i _ _ _ => n - (intOf i).toNat)
      case atStart => exact ⟨0, A3, c3, w1.heap.size, w2.heap.size, unitL (cntN o), by omega, rfl, Below.refl _ _, l3, ⟨o3', by omega, by omega, by omega, wordsOk_of (by omega) h5 (by simp [unitL]) (unitL_num _)⟩, rfl⟩
      case round =>
        obtain ⟨k, B, d, lo2, hi2, out, hk, rfl, hb, n3, ho2, hE⟩ := hrel
        have n2 := l2.same (hb.block w.heap.size (by omega))
        have h4 := h3.same (Same.of_below (lo := lo) hb (show hi ≤ w2.heap.size by omega))
        have hs := hb.size
        by_cases hlt : k < n
        · obtain ⟨ad, x, y, rfl, hc1, hc2, hr1, hr2, hd, hx⟩ := h4.at_ hlt
          have hxy := schemeOk_at hokH.out (List.mem_of_getElem? hx.out)
          have hxb : 0 ≤ x ∧ x ≤ 1 := hxy.1
          have E1 : Hid (schGo o ms (unitL (cntN o)) = schGo o (ms.drop (k + 1)) (mulL (cntN o) out (expL o (ltrL o (x, y))))) := by
            show _ = _
            rw [hE.out, hd.out, schGo]
          have hyr : R64 y := hr2
          clear hxy hr1 hr2 hd hx hE
          have had : ad.block < w.heap.size := by
            obtain ⟨ad', e1, _, l2', _⟩ := h.cells (by omega)
            injection e1 with e1
            rw [e1]; omega
          have hbk := hide (block_of_add ad (k * 2))
          have hcw := hide (And.intro hc1 hc2)
          go_upto_region 7 with fail
          go_cut [8, 9] (fun s8 s9 wx => ∃ (A' : Option Addr) (c' b : Nat), s8 = .pointer (some ⟨b, 0, none⟩) ∧ s9 = .bool true ∧ Below wr.heap.size wr wx ∧ wr.heap.size ≤ b ∧ Blk2 wx b (.int .i64 o) (.slice A' (cntN o) c') ∧ OwnI wx wr.heap.size wx.heap.size A' (cntN o) c' (expL o (ltrL o (x, y))))
          case first =>
            have d2 : Below wr.heap.size wr wr.drew := (Below.refl _ _).drew
            have hadr : ad.block < wr.heap.size := by omega
            go_region_held3 (fun w' => w'.cell? (ad.add (k * 2)) = some (.int .i64 x) ∧ w'.cell? ⟨(ad.add (k * 2)).block, (ad.add (k * 2)).off + 1, none⟩ = some (.int .i64 y)) (first | exact ⟨hc1, hc2⟩ | exact ⟨P1, P2⟩ | exact ⟨Q1, Q2⟩ | exact far_alloc ⟨hc1, hc2⟩ | exact far_alloc ⟨P1, P2⟩ | exact far_alloc ⟨Q1, Q2⟩ | exact far_store (by have := hbk.out; omega) rfl ⟨Q1, Q2⟩ | go_keep)
              (first
                | (go_at_call 115; refine (spec_Letter_ok o x y _ h0 h5 hxb hyr).mono ?_; rintro e u1 ⟨A4, c4, rfl, o4, b5⟩; have BU : Below wr.heap.size wr u1 := (by refine Below.trans ?_ (Below.mono b5 ?_); (· (repeat (first | with_reducible exact d2 | with_reducible exact Below.refl _ _ | with_reducible refine Below.drew ?_ | ((with_reducible refine Below.alloc ?_ ?_ _); rotate_left; · first | omega | (simp [World.setCell]; done) | (simp [World.setCell]; omega)) | ((with_reducible refine Below.setCell ?_ ?_ _); rotate_left; · first | exact Nat.le_refl _ | omega | (simp; done) | (simp; omega))))); (· first | omega | (simp; omega) | simp)); have szu := BU.size; have P1 := (BU.cell (p := ad.add (k * 2)) (by have := hbk.out; omega)).trans hcw.out.1; have P2 := (BU.cell (p := ⟨(ad.add (k * 2)).block, (ad.add (k * 2)).off + 1, none⟩) (by show (ad.add (k * 2)).block < _; have := hbk.out; omega)).trans hcw.out.2; (first | (have kb0 : Blk2 u1 wr.heap.size (.int .i64 0) (.slice none 0 0) := (Blk2.new wr.drew (.int .i64 0) (.slice none 0 0) 38).below b5) | (have kb0 : Blk2 u1 wr.heap.size (.int .i64 0) (.slice none 0 0) := (Blk2.new wr (.int .i64 0) (.slice none 0 0) 38).drew.below b5) | skip); (first | (have ltk0 := kb0.lt) | skip))
                | (go_at_call 53; refine (spec_Exp_ok o A4 (cntN o) c4 (ltrL o (x, y)) _ _ _ (o4.below (B := u1.heap.size) (by (repeat (first | with_reducible exact Below.refl _ _ | with_reducible exact Below.refl _ _ | with_reducible refine Below.drew ?_ | ((with_reducible refine Below.alloc ?_ ?_ _); rotate_left; · first | omega | (simp [World.setCell]; done) | (simp [World.setCell]; omega)) | ((with_reducible refine Below.setCell ?_ ?_ _); rotate_left; · first | exact Nat.le_refl _ | omega | (simp; done) | (simp; omega))))) (Nat.le_refl _)).ints (by first | omega | (simp; omega) | simp) (wordsOk_of (by omega) h5 (ltrL_len _ _) (ltrL_num _ _)) (ltrL_zero _ _)).mono ?_; rintro e u2 ⟨A5, c5, rfl, o5, b6⟩; have BC : Below wr.heap.size wr u2 := (by refine Below.trans ?_ (Below.mono b6 ?_); (· (repeat (first | with_reducible exact BU | with_reducible exact Below.refl _ _ | with_reducible refine Below.drew ?_ | ((with_reducible refine Below.alloc ?_ ?_ _); rotate_left; · first | omega | (simp [World.setCell]; done) | (simp [World.setCell]; omega)) | ((with_reducible refine Below.setCell ?_ ?_ _); rotate_left; · first | exact Nat.le_refl _ | omega | (simp; done) | (simp; omega))))); (· first | omega | (simp; omega) | simp)); have szc := BC.size; have Q1 := (BC.cell (p := ad.add (k * 2)) (by have := hbk.out; omega)).trans hcw.out.1; have Q2 := (BC.cell (p := ⟨(ad.add (k * 2)).block, (ad.add (k * 2)).off + 1, none⟩) (by show (ad.add (k * 2)).block < _; have := hbk.out; omega)).trans hcw.out.2; have OC : OwnI u2 wr.heap.size u2.heap.size A5 (cntN o) c5 (expL o (ltrL o (x, y))) := o5.wide (by first | omega | (simp; omega)) (Nat.le_refl _); (first | (have kc := kb0.below b6) | (have kc := (Blk2.new u1 (.int .i64 0) (.slice none 0 0) 38).below b6) | skip); (first | (have z0 := kc.c0; have z1 := kc.c1; have z2 := kc.f0; have z3 := kc.f1; have z4 := kc.lt) | skip)))
            all_goals go_wp2_with fail
            all_goals go_meet
            all_goals first
              | exact ⟨A5, c5, _, rfl, rfl, BC.trans ((below_alloc u2 _).mono szc), szc, Blk2.new u2 _ _ _, (OC.below (below_alloc u2 _) (Nat.le_refl _)).wide (Nat.le_refl _) (by simp)⟩
              | exact ⟨A5, c5, wr.heap.size, rfl, rfl, (by (repeat (first | with_reducible exact BC | with_reducible exact Below.refl _ _ | with_reducible refine Below.drew ?_ | ((with_reducible refine Below.alloc ?_ ?_ _); rotate_left; · first | omega | (simp [World.setCell]; done) | (simp [World.setCell]; omega)) | ((with_reducible refine Below.setCell ?_ ?_ _); rotate_left; · first | exact Nat.le_refl _ | omega | (simp; done) | (simp; omega))))), (by omega), kc.store2 _ _, (OwnI.same o5 (by (repeat (first | with_reducible exact Same.refl _ _ _ | with_reducible refine Same.drew ?_ | ((with_reducible refine Same.alloc ?_ ?_ _); rotate_left; · first | omega | (simp [World.setCell]; done) | (simp [World.setCell]; omega)) | ((with_reducible refine Same.setCell ?_ ?_ _); rotate_left; · first | omega | (simp; done) | (simp; omega)))))).wide (by first | omega | (simp; omega) | simp) (by simp [World.setCell])⟩
              | exact ⟨A5, c5, u1.heap.size, rfl, rfl, (by (repeat (first | with_reducible exact BC | with_reducible exact Below.refl _ _ | with_reducible refine Below.drew ?_ | ((with_reducible refine Below.alloc ?_ ?_ _); rotate_left; · first | omega | (simp [World.setCell]; done) | (simp [World.setCell]; omega)) | ((with_reducible refine Below.setCell ?_ ?_ _); rotate_left; · first | exact Nat.le_refl _ | omega | (simp; done) | (simp; omega))))), (by omega), kc.store2 _ _, (OwnI.same o5 (by (repeat (first | with_reducible exact Same.refl _ _ _ | with_reducible refine Same.drew ?_ | ((with_reducible refine Same.alloc ?_ ?_ _); rotate_left; · first | omega | (simp [World.setCell]; done) | (simp [World.setCell]; omega)) | ((with_reducible refine Same.setCell ?_ ?_ _); rotate_left; · first | omega | (simp; done) | (simp; omega)))))).wide (by first | omega | (simp; omega) | simp) (by simp [World.setCell])⟩
          case rest =>
            obtain ⟨A5, c5, bx, rfl, rfl, bc, hbx, kx, ox⟩ := hcut
            obtain ⟨v2, rfl⟩ : ∃ W : World, W = wc := ⟨_, rfl⟩
            have n3' := n3.below bc
            have zc := bc.size
            have P3 := ho2.out.1.below bc ho2.out.2.2.1
            have Hb := hb.trans (bc.mono (show w2.heap.size ≤ wr.heap.size by omega))
            have hlo := ho2.out.2.1
            have hhi := ho2.out.2.2.1
            have hdi := ho2.out.2.2.2.1
            have HH := hide (And.intro P3 (And.intro ox ho2.out.2.2.2.2))
            have g0 := n3'.c0
            have g1 := n3'.c1
            have g2 := kx.c0
            have g3 := kx.c1
            clear hc1 hc2 hcw hb ho2 n2 n3 h4 P3 ox bc
            go_wp2_with fail
            clear g0 g1 g2 g3
            refine (spec_Mul_ok o B (cntN o) d out lo2 hi2 A5 (cntN o) c5 (expL o (ltrL o (x, y))) _ _ v2 HH.out.1.ints HH.out.2.1.ints (by omega) (Nat.le_refl _) HH.out.2.2 (wordsOk_of (by omega) h5 (expL_len _ _) (expL_num _ _))).mono ?_
            rintro e u3 ⟨A8, c8, rfl, o8, b8⟩
            have y8 := b8.size
            have r3c := n3'.below b8
            have N3 := r3c.store2 (.int .i64 o) (.slice A8 (cntN o) c8)
            have N8 := o8.same (store2_same (.int .i64 o) (.slice A8 (cntN o) c8) (b := w2.heap.size) (by omega))
            have HB := store2_below (Hb.trans (b8.mono (show w2.heap.size ≤ v2.heap.size by omega))) (Nat.le_refl _) (.int .i64 o) (.slice A8 (cntN o) c8)
            have ys8 := store2_size u3 w2.heap.size (.int .i64 o) (.slice A8 (cntN o) c8)
            have g0 := r3c.c0
            have g1 := r3c.c1
            have f0 := r3c.f0
            have f1 := r3c.f1
            clear r3c b8 o8 HH Hb n3' kx
            go_wp2_with fail
            clear g0 g1 f0 f1
            go_roundw
            case rel => exact ⟨k + 1, A8, c8, _, _, _, by omega, by go_num, HB, N3, ⟨N8, by omega, by omega, by omega, wordsOk_of (by omega) h5 (mulL_len _ _ _) (mulL_num _ _ _)⟩, E1⟩
            case measure => simp [intOf]; omega
        · obtain rfl : k = n := by omega
          have e := h.drop_end
          have E0 : Hid (schGo o ms (unitL (cntN o)) = out) := by
            show _ = _
            rw [hE.out, e.out]
            rfl
          have p2 := n3.c0
          have p3 := n3.c1
          have p4 := n2.c0
          have p5 := n2.c1
          have p6 := n2.f0
          have p7 := n2.f1
          have B5 := b4.trans (hb.mono (show w.heap.size ≤ w2.heap.size by omega))
          have HO2 := hide ho2.out.1
          have hz3 := ho2.out.2.2.1
          have hz2 := ho2.out.2.1
          have l6 := n2.lt
          clear hE ho2 hb n2 n3 h4 l2 l3 o3' h3 b4
          go_wp2_with fail
          refine bodyPost_ret (v := .tuple #[.agg #[.int .i64 o, .slice B (cntN o) d], .bool true]) (by simp [results, Try.results58, go_sem, p4, p5]) rfl ⟨_, _, _, by rw [hF.out], ?_, ?_⟩
          · rw [hF.out]
            show OwnI _ _ _ _ _ _ (schGo o ms (unitL (cntN o)))
            rw [E0.out]
            refine (OwnI.same HO2.out ?_).wide (by omega) ?_
            · (repeat (first | with_reducible exact Same.refl _ _ _ | with_reducible refine Same.drew ?_ | ((with_reducible refine Same.alloc ?_ ?_ _); rotate_left; · first | omega | (simp [World.setCell]; done) | (simp [World.setCell]; omega)) | ((with_reducible refine Same.setCell ?_ ?_ _); rotate_left; · first | omega | (simp; done) | (simp; omega))))
            · simp [World.setCell]; omega
          · (repeat (first | with_reducible exact B5 | with_reducible exact Below.refl _ _ | with_reducible refine Below.drew ?_ | ((with_reducible refine Below.alloc ?_ ?_ _); rotate_left; · first | omega | (simp [World.setCell]; done) | (simp [World.setCell]; omega)) | ((with_reducible refine Below.setCell ?_ ?_ _); rotate_left; · first | exact Nat.le_refl _ | omega | (simp; done) | (simp; omega))))
    · have hF : Hid (schF o ms = ((0, []), false)) := if_neg (fun h => ho h.2)
      go_enter Try.func58, Try.ntmps58
      go_wp2_with fail
      have h1 := h.below b0 hh
      generalize World.alloc w (.cells #[.int .i64 0, .slice none 0 0] 38) = W at j2 b0 h1 z0 ⊢
      refine (spec_SchemeOk A n c ms lo hi W h1).mono ?_
      rintro e w1 ⟨rfl, rfl⟩
      rw [hok]
      clear hok
      have k2 := j2
      have b2 := b0
      have p4 := k2.c0
      have p5 := k2.c1
      have p6 := k2.f0
      have p7 := k2.f1
      have hin : (decide (1 ≤ o) && decide (o ≤ 5)) = false := by simp; omega
      clear ho
      go_wp2_with (go_at_call 119; refine (spec_l1In _ _ _ _).mono ?_; rintro e w' ⟨rfl, rfl⟩)
      refine bodyPost_ret (v := .tuple #[.agg #[.int .i64 0, .slice none 0 0], .bool false]) (by simp [results, Try.results58, go_sem, p4, p5]) rfl ⟨_, _, _, by rw [hF.out], by rw [hF.out]; exact OwnI.nil_ _ _ _, ?_⟩
      (repeat (first | with_reducible exact b2 | with_reducible exact Below.refl _ _ | with_reducible refine Below.drew ?_ | ((with_reducible refine Below.alloc ?_ ?_ _); rotate_left; · first | omega | (simp [World.setCell]; done) | (simp [World.setCell]; omega)) | ((with_reducible refine Below.setCell ?_ ?_ _); rotate_left; · first | exact Nat.le_refl _ | omega | (simp; done) | (simp; omega))))
  · have hF : Hid (schF o ms = ((0, []), false)) := if_neg (fun h => hok h.1)
    have hok' : schemeOkF ms = false := by simpa using hok
    go_enter Try.func58, Try.ntmps58
    go_wp2_with fail
    have h1 := h.below b0 hh
    generalize World.alloc w (.cells #[.int .i64 0, .slice none 0 0] 38) = W at j2 b0 h1 z0 ⊢
    refine (spec_SchemeOk A n c ms lo hi W h1).mono ?_
    rintro e w1 ⟨rfl, rfl⟩
    rw [hok']
    clear hok hok'
    have k2 := j2
    have b2 := b0
    have p4 := k2.c0
    have p5 := k2.c1
    have p6 := k2.f0
    have p7 := k2.f1
    go_wp2_with fail
    refine bodyPost_ret (v := .tuple #[.agg #[.int .i64 0, .slice none 0 0], .bool false]) (by simp [results, Try.results58, go_sem, p4, p5]) rfl ⟨_, _, _, by rw [hF.out], by rw [hF.out]; exact OwnI.nil_ _ _ _, ?_⟩
    (repeat (first | with_reducible exact b2 | with_reducible exact Below.refl _ _ | with_reducible refine Below.drew ?_ | ((with_reducible refine Below.alloc ?_ ?_ _); rotate_left; · first | omega | (simp [World.setCell]; done) | (simp [World.setCell]; omega)) | ((with_reducible refine Below.setCell ?_ ?_ _); rotate_left; · first | exact Nat.le_refl _ | omega | (simp; done) | (simp; omega))))

end Go.Proofs.Ytodlfmagkjblgaa
