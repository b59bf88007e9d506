/- Lie elements: the walks of the program's text. -/
import Derived.Test.YtodlfmagkjblgaaLieLaw
namespace Go.Proofs.Ytodlfmagkjblgaa
open Go.RowKit
set_option linter.unusedSimpArgs false
set_option linter.unusedVariables false
set_option maxRecDepth 20000

theorem ltr_one_r : R64 (1 : Int) := by constructor <;> omega
theorem ltr_neg_r : R64 (-1 : Int) := by constructor <;> omega
theorem brStep_num (o : Int) (out : List Int) (x : Int) : ∀ y ∈ brStep o out x, 0 ≤ y ∧ y < 1000000271 := zip_num _ _ _
theorem brStep_len (o : Int) (out : List Int) (x : Int) : (brStep o out x).length = cntN o := zip_len (mulL_len _ _ _) (mulL_len _ _ _)
theorem brGo_len (o : Int) (r out : List Int) (h : out.length = cntN o) : (brGo o r out).length = cntN o := by
  induction r generalizing out with
  | nil => exact h
  | cons x r ih => exact ih _ (brStep_len _ _ _)
theorem brGo_num (o : Int) (r out : List Int) (h : ∀ y ∈ out, 0 ≤ y ∧ y < 1000000271) : ∀ y ∈ brGo o r out, 0 ≤ y ∧ y < 1000000271 := by
  induction r generalizing out with
  | nil => exact h
  | cons x r ih => exact ih _ (brStep_num _ _ _)
theorem brL_len (o : Int) {w : List Int} (hw : w ≠ []) : (brL o w).length = cntN o := by
  cases w with
  | nil => exact absurd rfl hw
  | cons y r => exact brGo_len _ _ _ (ltrL_len _ _)
theorem brL_num (o : Int) (w : List Int) : ∀ y ∈ brL o w, 0 ≤ y ∧ y < 1000000271 := by
  cases w with
  | nil => intro y hy; cases hy
  | cons y r => exact brGo_num _ _ _ (ltrL_num _ _)
theorem wordL_ne {k : Nat} (h : 0 < k) : wordL k ≠ [] := by
  rw [wordL_pos h]; simp

set_option maxRecDepth 100000 in
set_option maxHeartbeats 2000000 in
theorem impl_bracketed_a (o : Int) (gw n c : Nat) (ws : List Int) (lo hi : Nat) (w : World) (h : Ints w lo hi (some ⟨gw, 0, none⟩) n c ws) (hh : hi ≤ w.heap.size) (h1 : 1 ≤ o) (h5 : o ≤ 5) (hb : ∀ x ∈ ws, x = 0 ∨ x = 1) (hn : 1 ≤ n) (hcc : ¬ c = 1) :
    Calls Try.prog 82 #[.int .i64 o, .slice (some ⟨gw, 0, none⟩) n c] w fun e w' => ∃ A' c', e = .returned (.agg #[.int .i64 o, .slice A' (cntN o) c']) ∧ OwnI w' w.heap.size w'.heap.size A' (cntN o) c' (brL o ws) ∧ Below w.heap.size w w' := by
  have hm := h.max
  have hcp := h.cap
  have h1r := ltr_one_r
  have hmr := ltr_neg_r
  have hc1 : 1 ≤ c := by omega
  obtain ⟨x0, r, rfl⟩ : ∃ x0 r, ws = x0 :: r := by
    cases ws with
    | nil => have := h.len; simp at this; omega
    | cons a r => exact ⟨a, r, rfl⟩
  have hx0 : 0 ≤ x0 ∧ x0 ≤ 1 := by have := hb x0 (by simp); omega
  have hbr := hide (fun x (hx : x ∈ r) => hb x (List.mem_cons_of_mem _ hx))
  clear hb
  have b0 := below_alloc w (.cells #[.int .i64 0, .slice none 0 0] 38)
  have j2 := Blk2.new w (.int .i64 0) (.slice none 0 0) 38
  have z0 := b0.size
  have h2 := h.below b0 hh
  have hcell0 : (World.alloc w (.cells #[.int .i64 0, .slice none 0 0] 38)).cell? ⟨gw, 0, none⟩ = some (.int .i64 x0) := by
    obtain ⟨ad, e, _, _, hc⟩ := h2.cells (by omega)
    injection e with e
    subst e
    simpa [Addr.add] using hc 0 x0 rfl
  go_enter Try.func82, Try.ntmps82
  go_wp2_with fail
  generalize World.alloc w (.cells #[.int .i64 0, .slice none 0 0] 38) = W at j2 b0 h2 z0 hcell0 ⊢
  have q2 := j2.lt
  refine (impl_Letter_ok o x0 1 W h1 h5 hx0 h1r).mono ?_
  rintro e w1 ⟨A3, c3, rfl, o3, b3⟩
  have a3 := below_alloc w1 (.cells #[.int .i64 o, .slice A3 (cntN o) c3] 38)
  have l2 := (j2.below b3).below a3
  have l3 := Blk2.new w1 (.int .i64 o) (.slice A3 (cntN o) c3) 38
  have o3' := o3.below a3 (Nat.le_refl _)
  have z1 := b3.size
  have h3 := (h2.below b3 (by omega)).below a3 (by omega)
  have b4 := (b0.trans (b3.mono z0)).trans (a3.mono (by omega))
  have q3 := l3.lt
  clear j2 h2 b0 b3 o3 hcell0
  go_wp2_with fail
  have hdr := h3.drop_if (k := 1) hn
  rw [if_neg hcc] at hdr
  generalize World.alloc w1 (.cells #[.int .i64 o, .slice A3 (cntN o) c3] 38) = w2 at a3 l2 l3 o3' h3 b4 q3 hdr ⊢
  have z2 := a3.size
  clear a3 h3
  rw [show (x0 :: r).drop 1 = r from rfl] at hdr
  generalize hsl : Value.slice (some (⟨gw, 1, none⟩ : Addr)) (n - 1) (c - 1) = sl
  obtain ⟨A2, c2, rfl, hdr⟩ : ∃ A2 c2, sl = .slice A2 (n - 1) c2 ∧ Ints w2 lo hi A2 (n - 1) c2 r := ⟨_, _, hsl.symm, hdr⟩
  clear hsl
  have hcd := hdr.cap
  have hmd := hdr.max
  go_loopw [7, 8, 17] (fun _ _ i wr => ∃ (k : Nat) (B : Option Addr) (d lo2 hi2 : Nat) (out : List Int), k ≤ n - 1 ∧ i = .int .i64 k ∧ Below w1.heap.size w2 wr ∧ Blk2 wr w1.heap.size (.int .i64 o) (.slice B (cntN o) d) ∧
      Hid (OwnI wr lo2 hi2 B (cntN o) d out ∧ W.heap.size ≤ lo2 ∧ hi2 ≤ wr.heap.size ∧ (hi2 ≤ w1.heap.size ∨ w1.heap.size < lo2) ∧ ∀ x ∈ out, 0 ≤ x ∧ x < 1000000271) ∧ Hid (brL o (x0 :: r) = brGo o (r.drop k) out))
    (fun _ _ i _ => n - (intOf i).toNat)
  case atStart => exact ⟨0, A3, c3, W.heap.size, w1.heap.size, ltrL o (x0, 1), by omega, rfl, Below.refl _ _, l3, ⟨o3', by omega, by omega, by omega, ltrL_num _ _⟩, rfl⟩
  case round =>
    obtain ⟨k, B, d, lo2, hi2, out, hk, rfl, hbw, n3, ho2, hE⟩ := hrel
    have n2 := l2.same (hbw.block w.heap.size (by omega))
    have h4 := hdr.same (Same.of_below (lo := lo) hbw (show hi ≤ w1.heap.size by omega))
    have hs := hbw.size
    by_cases hlt : k < n - 1
    · obtain ⟨ad, x, rfl, hc, hr, hd, hx⟩ := h4.at_ hlt
      have hxb : 0 ≤ x ∧ x ≤ 1 := by have := hbr.out x (List.mem_of_getElem? hx.out); omega
      have E1 : Hid (brL o (x0 :: r) = brGo o (r.drop (k + 1)) (brStep o out x)) := by
        show _ = _
        rw [hE.out, hd.out, brGo]
      have hlo := ho2.out.2.1
      have hhi := ho2.out.2.2.1
      have hdi := ho2.out.2.2.2.1
      clear hd hx hE hr
      go_wp2_with fail
      refine (impl_Letter_ok o x 1 wr h1 h5 hxb h1r).mono ?_
      rintro e v1 ⟨A5, c5, rfl, o5, b5⟩
      have y5 := b5.size
      go_wp2_with fail
      have a5 := below_alloc v1 (.cells #[.int .i64 o, .slice A5 (cntN o) c5] 38)
      have n5 := Blk2.new v1 (.int .i64 o) (.slice A5 (cntN o) c5) 38
      have n3' := (n3.below b5).below a5
      have P3 := (ho2.out.1.below b5 (by omega)).below a5 (by omega)
      have P5 := o5.below a5 (Nat.le_refl _)
      have Hb := (hbw.trans (b5.mono (by omega))).trans (a5.mono (by omega))
      have q5 := n5.lt
      have HH := hide (And.intro P3 (And.intro P5 ho2.out.2.2.2.2))
      clear n2 n3 h4 hc hbw P3 P5 ho2 o5 b5
      generalize World.alloc v1 (.cells #[.int .i64 o, .slice A5 (cntN o) c5] 38) = v2 at a5 n5 n3' Hb HH q5 ⊢
      have sz5 := a5.size
      have d2 : Below v2.heap.size v2 v2.drew := (Below.refl _ _).drew
      have dz := d2.size
      have r3 := n3'.below d2
      have r5 := n5.below d2
      clear a5
      have hS0 : Two w1.heap.size (.int .i64 o) (.slice B (cntN o) d) v1.heap.size (.int .i64 o) (.slice A5 (cntN o) c5) v2.drew := ⟨⟨r3.c0, r3.c1⟩, r5.c0, r5.c1⟩
      refine wp_region_Z (Two w1.heap.size (.int .i64 o) (.slice B (cntN o) d) v1.heap.size (.int .i64 o) (.slice A5 (cntN o) c5)) 7 (by kernel_rfl) ?_
      refine wpAnyZ_take 0 (.agg #[.int .i64 o, .slice B (cntN o) d]) rfl (by kernel_rfl) (by kernel_rfl) (fun _ _ _ h => h) (by rfl) (fun _ hS => by obtain ⟨⟨s1, s2⟩, s3, s4⟩ := hS; go_simp) hS0 ?_
      try simp only [Act.put, List.setIfInBounds_toArray, List.set_cons_zero, List.set_cons_succ]
      refine wpAnyZ_take 1 (.agg #[.int .i64 o, .slice A5 (cntN o) c5]) rfl (by kernel_rfl) (by kernel_rfl) (fun _ _ _ h => h) (by rfl) (fun _ hS => by obtain ⟨⟨s1, s2⟩, s3, s4⟩ := hS; go_simp) hS0 ?_
      try simp only [Act.put, List.setIfInBounds_toArray, List.set_cons_zero, List.set_cons_succ]
      refine wpAnyZ_take 3 (.agg #[.int .i64 o, .slice A5 (cntN o) c5]) rfl (by kernel_rfl) (by kernel_rfl) (fun _ _ _ h => h) (by rfl) (fun _ hS => by obtain ⟨⟨s1, s2⟩, s3, s4⟩ := hS; go_simp) hS0 ?_
      try simp only [Act.put, List.setIfInBounds_toArray, List.set_cons_zero, List.set_cons_succ]
      refine wpAnyZ_take 4 (.agg #[.int .i64 o, .slice B (cntN o) d]) rfl (by kernel_rfl) (by kernel_rfl) (fun _ _ _ h => h) (by rfl) (fun _ hS => by obtain ⟨⟨s1, s2⟩, s3, s4⟩ := hS; go_simp) hS0 ?_
      try simp only [Act.put, List.setIfInBounds_toArray, List.set_cons_zero, List.set_cons_succ]
      refine wpAnyZ_one 2 (by kernel_rfl) rfl (by rfl) (fun K hK => ?_)
      go_simp
      refine (impl_mulWords o B (cntN o) d out lo2 hi2 o A5 (cntN o) c5 (ltrL o (x, 1)) _ _ v2.drew (HH.out.1.below d2 (by omega)).ints (HH.out.2.1.below d2 (by omega)).ints (by omega) (by omega) (by omega) h5 rfl rfl HH.out.2.2 (ltrL_num _ _)).mono ?_
      rintro e u1 ⟨A6, c6, rfl, o6, b6⟩
      have y6 := b6.size
      have r3a := r3.below b6
      have r5a := r5.below b6
      have hS1 : Two w1.heap.size (.int .i64 o) (.slice B (cntN o) d) v1.heap.size (.int .i64 o) (.slice A5 (cntN o) c5) u1 := ⟨⟨r3a.c0, r3a.c1⟩, r5a.c0, r5a.c1⟩
      go_wp2_with fail
      refine hK.out _ _ hS1 ?_
      clear hK K
      try simp only [Act.put, List.setIfInBounds_toArray, List.set_cons_zero, List.set_cons_succ]
      refine wpAnyZ_one 5 (by kernel_rfl) rfl (by rfl) (fun K hK => ?_)
      go_simp
      refine (impl_mulWords o A5 (cntN o) c5 (ltrL o (x, 1)) _ _ o B (cntN o) d out lo2 hi2 u1 ((HH.out.2.1.below d2 (by omega)).below b6 (by omega)).ints ((HH.out.1.below d2 (by omega)).below b6 (by omega)).ints (by omega) (by omega) (by omega) h5 rfl rfl (ltrL_num _ _) HH.out.2.2).mono ?_
      rintro e u2 ⟨A7, c7, rfl, o7, b7⟩
      have y7 := b7.size
      have r3b := r3a.below b7
      have r5b := r5a.below b7
      have hS2 : Two w1.heap.size (.int .i64 o) (.slice B (cntN o) d) v1.heap.size (.int .i64 o) (.slice A5 (cntN o) c5) u2 := ⟨⟨r3b.c0, r3b.c1⟩, r5b.c0, r5b.c1⟩
      go_wp2_with fail
      refine hK.out _ _ hS2 ?_
      clear hK K
      try simp only [Act.put, List.setIfInBounds_toArray, List.set_cons_zero, List.set_cons_succ]
      refine wpAnyZ_one 6 (by kernel_rfl) rfl (by rfl) (fun K hK => ?_)
      go_simp
      refine (impl_mixWords o A6 (cntN o) c6 (mulL (cntN o) out (ltrL o (x, 1))) _ _ o A7 (cntN o) c7 (mulL (cntN o) (ltrL o (x, 1)) out) _ _ (-1) u2 (o6.below b7 (Nat.le_refl _)).ints o7.ints (by omega) (by omega) (by omega) h5 rfl rfl (mulL_num _ _ _) (mulL_num _ _ _) hmr).mono ?_
      rintro e u3 ⟨A8, c8, rfl, o8, b8⟩
      have y8 := b8.size
      have r3c := r3b.below b8
      have r5c := r5b.below b8
      have hS3 : Two w1.heap.size (.int .i64 o) (.slice B (cntN o) d) v1.heap.size (.int .i64 o) (.slice A5 (cntN o) c5) u3 := ⟨⟨r3c.c0, r3c.c1⟩, r5c.c0, r5c.c1⟩
      go_wp2_with fail
      refine hK.out _ _ hS3 ?_
      clear hK K
      try simp only [Act.put, List.setIfInBounds_toArray, List.set_cons_zero, List.set_cons_succ]
      have N3 := r3c.store2 (.int .i64 o) (.slice A8 (cntN o) c8)
      have N8 := o8.same (store2_same (.int .i64 o) (.slice A8 (cntN o) c8) (b := w1.heap.size) (by omega))
      have HB := store2_below (((Hb.drew.trans (b6.mono (show w1.heap.size ≤ v2.drew.heap.size by omega))).trans (b7.mono (show w1.heap.size ≤ u1.heap.size by omega))).trans (b8.mono (show w1.heap.size ≤ u2.heap.size by omega))) (Nat.le_refl _) (.int .i64 o) (.slice A8 (cntN o) c8)
      have ys8 := store2_size u3 w1.heap.size (.int .i64 o) (.slice A8 (cntN o) c8)
      have g0 := r3c.c0
      have g1 := r3c.c1
      have f0 := r3c.f0
      have f1 := r3c.f1
      clear hS0 hS1 hS2 hS3 r3 r5 r3a r5a r3b r5b r3c r5c b6 b7 b8 o6 o7 o8 HH Hb d2 n3' n5
      refine wpAnyZ_last (by kernel_rfl) rfl (by kernel_rfl) (by rfl) (fun K hK => ?_)
      go_simp
      refine hK _ _ ?_
      clear hK K g0 g1 f0 f1
      generalize (u3.setCell ⟨w1.heap.size, 0, none⟩ (.int .i64 o)).setCell ⟨w1.heap.size, 1, none⟩ (.slice A8 (cntN o) c8) = v4 at N3 N8 HB ys8 ⊢
      go_wp2_with fail
      go_roundw
      case rel => exact ⟨k + 1, A8, c8, _, _, _, by omega, by go_num, HB, N3, ⟨N8, by omega, by omega, by omega, brStep_num _ _ _⟩, E1⟩
      case measure => simp [intOf]; omega
    · obtain rfl : k = n - 1 := by omega
      have e := hdr.drop_end
      have E0 : Hid (brL o (x0 :: r) = out) := by
        show _ = _
        rw [hE.out, e.out]
        rfl
      have p2 := n3.c0
      have p3 := n3.c1
      have p4 := n2.c0
      have p5 := n2.c1
      have p6 := n2.f0
      have p7 := n2.f1
      have B5 := b4.trans (hbw.mono (show w.heap.size ≤ w1.heap.size by omega))
      have HO2 := hide ho2.out.1
      have hz3 := ho2.out.2.2.1
      have hz2 := ho2.out.2.1
      have l6 := n2.lt
      clear hE ho2 hbw n2 n3 h4 l2 l3 o3' hdr b4
      go_wp2_with fail
      refine bodyPost_ret (v := .agg #[.int .i64 o, .slice B (cntN o) d]) (by simp [results, Try.results82, go_sem, p4, p5]) rfl ⟨_, _, rfl, ?_, ?_⟩
      · rw [E0.out]
        refine (OwnI.same HO2.out ?_).wide (by omega) ?_
        · (repeat (first | with_reducible exact Same.refl _ _ _ | with_reducible refine Same.drew ?_ | ((with_reducible refine Same.alloc ?_ ?_ _); rotate_left; · first | omega | (simp [World.setCell]; done) | (simp [World.setCell]; omega)) | ((with_reducible refine Same.setCell ?_ ?_ _); rotate_left; · first | omega | (simp; done) | (simp; omega))))
        · simp [World.setCell]; omega
      · (repeat (first | with_reducible exact B5 | with_reducible exact Below.refl _ _ | with_reducible refine Below.drew ?_ | ((with_reducible refine Below.alloc ?_ ?_ _); rotate_left; · first | omega | (simp [World.setCell]; done) | (simp [World.setCell]; omega)) | ((with_reducible refine Below.setCell ?_ ?_ _); rotate_left; · first | exact Nat.le_refl _ | omega | (simp; done) | (simp; omega))))

set_option maxRecDepth 100000 in
set_option maxHeartbeats 2000000 in
theorem impl_bracketed_b (o : Int) (gw : Nat) (x0 : Int) (lo hi : Nat) (w : World) (h : Ints w lo hi (some ⟨gw, 0, none⟩) 1 1 [x0]) (hh : hi ≤ w.heap.size) (h1 : 1 ≤ o) (h5 : o ≤ 5) (hx0 : 0 ≤ x0 ∧ x0 ≤ 1) :
    Calls Try.prog 82 #[.int .i64 o, .slice (some ⟨gw, 0, none⟩) 1 1] w fun e w' => ∃ A' c', e = .returned (.agg #[.int .i64 o, .slice A' (cntN o) c']) ∧ OwnI w' w.heap.size w'.heap.size A' (cntN o) c' (brL o [x0]) ∧ Below w.heap.size w w' := by
  have h1r := ltr_one_r
  have b0 := below_alloc w (.cells #[.int .i64 0, .slice none 0 0] 38)
  have j2 := Blk2.new w (.int .i64 0) (.slice none 0 0) 38
  have z0 := b0.size
  have h2 := h.below b0 hh
  have hcell0 : (World.alloc w (.cells #[.int .i64 0, .slice none 0 0] 38)).cell? ⟨gw, 0, none⟩ = some (.int .i64 x0) := by
    obtain ⟨ad, e, _, _, hc⟩ := h2.cells (by omega)
    injection e with e
    subst e
    simpa [Addr.add] using hc 0 x0 rfl
  go_enter Try.func82, Try.ntmps82
  go_wp2_with fail
  generalize World.alloc w (.cells #[.int .i64 0, .slice none 0 0] 38) = W at j2 b0 h2 z0 hcell0 ⊢
  have q2 := j2.lt
  refine (impl_Letter_ok o x0 1 W h1 h5 hx0 h1r).mono ?_
  rintro e w1 ⟨A3, c3, rfl, o3, b3⟩
  have a3 := below_alloc w1 (.cells #[.int .i64 o, .slice A3 (cntN o) c3] 38)
  have l2 := (j2.below b3).below a3
  have l3 := Blk2.new w1 (.int .i64 o) (.slice A3 (cntN o) c3) 38
  have o3' := o3.below a3 (Nat.le_refl _)
  have z1 := b3.size
  have b4 := (b0.trans (b3.mono z0)).trans (a3.mono (by omega))
  have q3 := l3.lt
  clear j2 h2 b0 b3 o3 hcell0
  go_wp2_with fail
  generalize World.alloc w1 (.cells #[.int .i64 o, .slice A3 (cntN o) c3] 38) = w2 at a3 l2 l3 o3' b4 q3 ⊢
  clear a3
  go_loopw [7, 8, 17] (fun _ _ i wr => i = .int .i64 0 ∧ wr = w2) (fun _ _ _ _ => 0)
  case atStart => exact ⟨rfl, rfl⟩
  case round =>
    obtain ⟨rfl, rfl⟩ := hrel
    have p2 := l3.c0
    have p3 := l3.c1
    have p4 := l2.c0
    have p5 := l2.c1
    have p6 := l2.f0
    have p7 := l2.f1
    have l6 := l2.lt
    clear l2 l3
    go_wp2_with fail
    refine bodyPost_ret (v := .agg #[.int .i64 o, .slice A3 (cntN o) c3]) (by simp [results, Try.results82, go_sem, p4, p5]) rfl ⟨_, _, rfl, ?_, ?_⟩
    · refine (OwnI.same o3' ?_).wide (by omega) ?_
      · (repeat (first | with_reducible exact Same.refl _ _ _ | with_reducible refine Same.drew ?_ | ((with_reducible refine Same.alloc ?_ ?_ _); rotate_left; · first | omega | (simp [World.setCell]; done) | (simp [World.setCell]; omega)) | ((with_reducible refine Same.setCell ?_ ?_ _); rotate_left; · first | omega | (simp; done) | (simp; omega))))
      · simp [World.setCell]; omega
    · (repeat (first | with_reducible exact b4 | with_reducible exact Below.refl _ _ | with_reducible refine Below.drew ?_ | ((with_reducible refine Below.alloc ?_ ?_ _); rotate_left; · first | omega | (simp [World.setCell]; done) | (simp [World.setCell]; omega)) | ((with_reducible refine Below.setCell ?_ ?_ _); rotate_left; · first | exact Nat.le_refl _ | omega | (simp; done) | (simp; omega))))

theorem impl_bracketed (o : Int) (gw n c : Nat) (ws : List Int) (lo hi : Nat) (w : World) (h : Ints w lo hi (some ⟨gw, 0, none⟩) n c ws) (hh : hi ≤ w.heap.size) (h1 : 1 ≤ o) (h5 : o ≤ 5) (hb : ∀ x ∈ ws, x = 0 ∨ x = 1) (hn : 1 ≤ n) :
    Calls Try.prog 82 #[.int .i64 o, .slice (some ⟨gw, 0, none⟩) n c] w fun e w' => ∃ A' c', e = .returned (.agg #[.int .i64 o, .slice A' (cntN o) c']) ∧ OwnI w' w.heap.size w'.heap.size A' (cntN o) c' (brL o ws) ∧ Below w.heap.size w w' := by
  by_cases hcc : c = 1
  · have hcp := h.cap
    obtain rfl : n = 1 := by omega
    subst hcc
    obtain ⟨x0, rfl⟩ : ∃ x0, ws = [x0] := List.length_eq_one_iff.1 h.len
    exact impl_bracketed_b o gw x0 lo hi w h hh h1 h5 (by have := hb x0 (by simp); omega)
  · exact impl_bracketed_a o gw n c ws lo hi w h hh h1 h5 hb hn hcc

set_option maxRecDepth 100000 in
set_option maxHeartbeats 4000000 in
theorem impl_IsLieWords (o : Int) (A : Option Addr) (n c : Nat) (xs : List Int) (lo hi : Nat) (w : World) (h : Ints w lo hi A n c xs) (hh : hi ≤ w.heap.size) :
    Calls Try.prog 27 #[.agg #[.int .i64 o, .slice A n c]] w fun e w' => e = .returned (.bool (lieF o xs)) ∧ Below w.heap.size w w' := by
  have hm := h.max
  have hcp := h.cap
  have b0 := below_alloc w (.cells #[.int .i64 o, .slice A n c] 38)
  have j1 := Blk2.new w (.int .i64 o) (.slice A n c) 38
  have z0 := b0.size
  go_enter Try.func27, Try.ntmps27
  go_wp2_with fail
  have h1 := h.below b0 hh
  generalize World.alloc w (.cells #[.int .i64 o, .slice A n c] 38) = W at j1 b0 h1 z0 ⊢
  refine (impl_WordsOk o A n c xs lo hi W h1 (by omega)).mono ?_
  rintro e w1 ⟨rfl, b1⟩
  have k1 := j1.below b1
  have h2 := h1.below b1 (by omega)
  have b2 := b0.trans (b1.mono z0)
  have z1 := b2.size
  have q1 := k1.lt
  clear j1 h1 b0 b1 z0
  by_cases hok : wordsOkF o xs = true
  · obtain ⟨⟨h0, h5⟩, hlen, hnum⟩ := wordsOk_facts hok
    have hcb := cntN_bd h5
    obtain rfl : n = cntN o := by rw [← h.len, hlen]
    obtain ⟨ad, x, rfl, hc, hr, _, hx⟩ := h2.at_ (k := 0) (by omega)
    have p0 := k1.c1
    have hgd : xs.getD 0 0 = x := by rw [List.getD, hx.out]; rfl
    have hc0 : w1.cell? ad = some (.int .i64 x) := by simpa [Addr.add] using hc
    have hokH := hide hok
    have hnum' := hide hnum
    rw [hok]
    clear hnum hlen hr hx hok
    by_cases hx0 : x = 0
    · have hF : Hid (lieF o xs = chkGo xs (sumsL o xs) (cntN o) 0) := if_pos ⟨hokH.out, hgd.trans hx0⟩
      have hz := hide (hgd.trans hx0)
      clear hgd
      subst hx0
      have p1 := k1.c0
      go_wp2_with fail
      clear p0 p1 hc hc0
      refine (impl_noWords o w1 h0 h5).mono ?_
      rintro e w2 ⟨A3, c3, rfl, o3, b3⟩
      have a3 := below_alloc w2 (.cells #[.int .i64 o, .slice A3 (cntN o) c3] 38)
      have l1 := (k1.below b3).below a3
      have l3 := Blk2.new w2 (.int .i64 o) (.slice A3 (cntN o) c3) 38
      have o3' := o3.below a3 (Nat.le_refl _)
      have z2 := b3.size
      have h3 := (h2.below b3 (by omega)).below a3 (by omega)
      have b4 := (b2.trans (b3.mono z1)).trans (a3.mono (by omega))
      have q3 := l3.lt
      have p1 := l1.c1
      clear k1 h2 b2 b3 o3
      go_wp2_with fail
      clear p1
      generalize World.alloc w2 (.cells #[.int .i64 o, .slice A3 (cntN o) c3] 38) = w3 at a3 l1 l3 o3' h3 b4 q3 ⊢
      have sz3 := a3.size
      clear a3
      go_loopw [4, 5, 24] (fun _ _ i wr => ∃ (k : Nat) (B : Option Addr) (d lo2 hi2 : Nat) (out : List Int), k ≤ cntN o ∧ i = .int .i64 k ∧ Below w2.heap.size w3 wr ∧ Blk2 wr w2.heap.size (.int .i64 o) (.slice B (cntN o) d) ∧
          Hid (OwnI wr lo2 hi2 B (cntN o) d out ∧ w1.heap.size ≤ lo2 ∧ hi2 ≤ wr.heap.size ∧ (hi2 ≤ w2.heap.size ∨ w2.heap.size < lo2) ∧ ∀ x ∈ out, 0 ≤ x ∧ x < 1000000271) ∧ Hid (sumsL o xs = sumGo o xs (cntN o - k) k out))
        (fun _ _ i _ => cntN o - (intOf i).toNat)
      case atStart => exact ⟨0, A3, c3, w1.heap.size, w2.heap.size, _, by omega, rfl, Below.refl _ _, l3, ⟨o3', by omega, by omega, by omega, zeros_num _⟩, rfl⟩
      case round =>
        obtain ⟨k, B, d, lo2, hi2, out, hk, rfl, hb, n3, ho2, hE⟩ := hrel
        have n1 := l1.same (hb.block w.heap.size (by omega))
        have h4 := h3.same (Same.of_below (lo := lo) hb (show hi ≤ w2.heap.size by omega))
        have hs := hb.size
        by_cases hlt : k < cntN o
        · obtain ⟨ae, x, e1, hc, hr, hd, hx⟩ := h4.at_ hlt
          injection e1 with e1
          subst e1
          have hgd : xs.getD k 0 = x := by rw [List.getD, hx.out]; rfl
          have E1 : Hid (sumsL o xs = sumGo o xs (cntN o - (k + 1)) (k + 1) (if x = 0 then out else zipF out (brL o (wordL k)) x)) := by
            show _ = _
            rw [hE.out, show cntN o - k = (cntN o - (k + 1)) + 1 by omega, sumGo, hgd]
          by_cases hx0 : x = 0
          · rw [if_pos hx0] at E1
            clear hE hd hx hgd
            subst hx0
            go_wp2_with fail
            go_roundw
            case rel => exact ⟨k + 1, B, d, lo2, hi2, out, by omega, by go_num, hb, n3, ho2, E1⟩
            case measure => simp [intOf]; omega
          · rw [if_neg hx0] at E1
            have hk0 : 0 < k := by
              rcases Nat.eq_zero_or_pos k with e | e
              · subst e; exact absurd (hgd.symm.trans hz.out) hx0
              · exact e
            have ho1 : 1 ≤ o := by
              rcases (show o = 0 ∨ 1 ≤ o by omega) with e | e
              · subst e; have : cntN 0 = 1 := rfl; omega
              · exact e
            have hwl : 1 ≤ (wordL k).length := by
              have := wordL_ne hk0
              cases hw : wordL k with
              | nil => exact absurd hw this
              | cons a r => simp
            have hL5 := wordL_len5 (p := k) (by omega)
            have hxr := r64_of_num (hnum'.out x (List.mem_of_getElem? hx.out))
            have hlo := ho2.out.2.1
            have hhi := ho2.out.2.2.1
            have hdi := ho2.out.2.2.2.1
            have d2 : Below wr.heap.size wr wr.drew := (Below.refl _ _).drew
            have dz := d2.size
            have r3 := n3.below d2
            have r1 := n1.below d2
            have H3 := ho2.out.1.below d2 hhi
            have HH := hide (And.intro H3 ho2.out.2.2.2.2)
            clear hE hd hx hgd hr H3 ho2 n1 n3 h4
            go_wp2_with fail
            clear hc
            have hS0 : Two w2.heap.size (.int .i64 o) (.slice B (cntN o) d) w.heap.size (.int .i64 o) (.slice (some ad) (cntN o) c) wr.drew := ⟨⟨r3.c0, r3.c1⟩, r1.c0, r1.c1⟩
            refine wp_region_Z (Two w2.heap.size (.int .i64 o) (.slice B (cntN o) d) w.heap.size (.int .i64 o) (.slice (some ad) (cntN o) c)) 8 (by kernel_rfl) ?_
            refine wpAnyZ_take 0 (.agg #[.int .i64 o, .slice B (cntN o) d]) rfl (by kernel_rfl) (by kernel_rfl) (fun _ _ _ h => h) (by rfl) (fun _ hS => by obtain ⟨⟨s1, s2⟩, s3, s4⟩ := hS; go_simp) hS0 ?_
            try simp only [Act.put, List.setIfInBounds_toArray, List.set_cons_zero, List.set_cons_succ]
            refine wpAnyZ_takeW 1 (.pointer (some ⟨w.heap.size, 0, none⟩)) rfl (by kernel_rfl) (by kernel_rfl) (fun _ _ _ h => h) (by rfl) (fun _ => by go_simp) hS0 ?_
            try simp only [Act.put, List.setIfInBounds_toArray, List.set_cons_zero, List.set_cons_succ]
            refine wpAnyZ_take 2 (.int .i64 o) rfl (by kernel_rfl) (by kernel_rfl) (fun _ _ _ h => h) (by rfl) (fun _ hS => by obtain ⟨⟨s1, s2⟩, s3, s4⟩ := hS; go_simp) hS0 ?_
            try simp only [Act.put, List.setIfInBounds_toArray, List.set_cons_zero, List.set_cons_succ]
            refine wpAnyZ_takeW 3 (.int .i64 (k : Int)) rfl (by kernel_rfl) (by kernel_rfl) (fun _ _ _ h => h) (by rfl) (fun _ => by go_simp) hS0 ?_
            try simp only [Act.put, List.setIfInBounds_toArray, List.set_cons_zero, List.set_cons_succ]
            refine wpAnyZ_takeW 6 (.int .i64 x) rfl (by kernel_rfl) (by kernel_rfl) (fun _ _ _ h => h) (by rfl) (fun _ => by go_simp) hS0 ?_
            try simp only [Act.put, List.setIfInBounds_toArray, List.set_cons_zero, List.set_cons_succ]
            refine wpAnyZ_one 4 (by kernel_rfl) rfl (by rfl) (fun K hK => ?_)
            go_simp
            refine (impl_wordAt k wr.drew (by omega)).mono ?_
            rintro e u1 ⟨gw, cw, rfl, ow, b6⟩
            have y6 := b6.size
            have r3a := r3.below b6
            have r1a := r1.below b6
            have hS1 : Two w2.heap.size (.int .i64 o) (.slice B (cntN o) d) w.heap.size (.int .i64 o) (.slice (some ad) (cntN o) c) u1 := ⟨⟨r3a.c0, r3a.c1⟩, r1a.c0, r1a.c1⟩
            go_wp2_with fail
            refine hK.out _ _ hS1 ?_
            clear hK K
            try simp only [Act.put, List.setIfInBounds_toArray, List.set_cons_zero, List.set_cons_succ]
            refine wpAnyZ_one 5 (by kernel_rfl) rfl (by rfl) (fun K hK => ?_)
            go_simp
            refine (impl_bracketed o gw (wordL k).length cw (wordL k) _ _ u1 ow.ints (by omega) ho1 h5 (wordL_bit k) hwl).mono ?_
            rintro e u2 ⟨A7, c7, rfl, o7, b7⟩
            have y7 := b7.size
            have r3b := r3a.below b7
            have r1b := r1a.below b7
            have hS2 : Two w2.heap.size (.int .i64 o) (.slice B (cntN o) d) w.heap.size (.int .i64 o) (.slice (some ad) (cntN o) c) u2 := ⟨⟨r3b.c0, r3b.c1⟩, r1b.c0, r1b.c1⟩
            go_wp2_with fail
            refine hK.out _ _ hS2 ?_
            clear hK K
            try simp only [Act.put, List.setIfInBounds_toArray, List.set_cons_zero, List.set_cons_succ]
            refine wpAnyZ_one 7 (by kernel_rfl) rfl (by rfl) (fun K hK => ?_)
            go_simp
            refine (impl_mixWords o B (cntN o) d out lo2 hi2 o A7 (cntN o) c7 (brL o (wordL k)) _ _ x u2 ((HH.out.1.below b6 (by omega)).below b7 (by omega)).ints o7.ints (by omega) (by omega) h0 h5 rfl rfl HH.out.2 (brL_num _ _) hxr).mono ?_
            rintro e u3 ⟨A8, c8, rfl, o8, b8⟩
            have y8 := b8.size
            have r3c := r3b.below b8
            have r1c := r1b.below b8
            have hS3 : Two w2.heap.size (.int .i64 o) (.slice B (cntN o) d) w.heap.size (.int .i64 o) (.slice (some ad) (cntN o) c) u3 := ⟨⟨r3c.c0, r3c.c1⟩, r1c.c0, r1c.c1⟩
            go_wp2_with fail
            refine hK.out _ _ hS3 ?_
            clear hK K
            try simp only [Act.put, List.setIfInBounds_toArray, List.set_cons_zero, List.set_cons_succ]
            have N3 := r3c.store2 (.int .i64 o) (.slice A8 (cntN o) c8)
            have N8 := o8.same (store2_same (.int .i64 o) (.slice A8 (cntN o) c8) (b := w2.heap.size) (by omega))
            have HB := store2_below (((hb.drew.trans (b6.mono (show w2.heap.size ≤ wr.drew.heap.size by omega))).trans (b7.mono (show w2.heap.size ≤ u1.heap.size by omega))).trans (b8.mono (show w2.heap.size ≤ u2.heap.size by omega))) (Nat.le_refl _) (.int .i64 o) (.slice A8 (cntN o) c8)
            have ys8 := store2_size u3 w2.heap.size (.int .i64 o) (.slice A8 (cntN o) c8)
            have g0 := r3c.c0
            have g1 := r3c.c1
            have f0 := r3c.f0
            have f1 := r3c.f1
            clear hS0 hS1 hS2 hS3 r3 r1 r3a r1a r3b r1b r3c r1c b6 b7 b8 ow o7 o8 HH hb d2
            refine wpAnyZ_last (by kernel_rfl) rfl (by kernel_rfl) (by rfl) (fun K hK => ?_)
            go_simp
            refine hK _ _ ?_
            clear hK K g0 g1 f0 f1
            generalize (u3.setCell ⟨w2.heap.size, 0, none⟩ (.int .i64 o)).setCell ⟨w2.heap.size, 1, none⟩ (.slice A8 (cntN o) c8) = v4 at N3 N8 HB ys8 ⊢
            go_wp2_with fail
            go_roundw
            case rel => exact ⟨k + 1, A8, c8, _, _, _, by omega, by go_num, HB, N3, ⟨N8, by omega, by omega, by omega, zip_num _ _ _⟩, E1⟩
            case measure => simp [intOf]; omega
        · obtain rfl : k = cntN o := by omega
          have E0 : Hid (sumsL o xs = out) := by
            show _ = _
            rw [hE.out, Nat.sub_self]
            rfl
          have hhi := ho2.out.2.2.1
          have hB3 := ho2.out.1
          have B5 := b4.trans (hb.mono (show w.heap.size ≤ w2.heap.size by omega))
          have hF2 : Hid (lieF o xs = chkGo xs out (cntN o) 0) := by show _ = _; rw [hF.out, E0.out]
          have p1 := n1.c1
          clear hE ho2 hb l1 l3 o3' h3 b4 E0 hF
          obtain ⟨w5, rfl⟩ : ∃ w5 : World, w5 = wr := ⟨_, rfl⟩
          go_wp2_with fail
          clear p1
          obtain ⟨g, rfl, hg1, hg2, hg3⟩ := hB3.form (by omega)
          have hcells := hide (fun (j : Nat) (hj : j < cntN o) => (show w5.cell? ⟨g, j, none⟩ = some (.int .i64 (out.getD j 0)) from by
            rw [hB3.own.cellAt j (by omega)]
            have := hB3.len
            simp [List.getD, show j < out.length by omega]))
          clear hB3
          go_loopw [6, 7, 43] (fun _ _ i wr => ∃ (k : Nat), k ≤ cntN o ∧ i = .int .i64 k ∧ Below w5.heap.size w5 wr ∧ Hid (lieF o xs = chkGo xs out (cntN o - k) k)) (fun _ _ i _ => cntN o - (intOf i).toNat)
          case atStart => exact ⟨0, by omega, rfl, Below.refl _ _, hF2⟩
          case round =>
            clear hF2
            obtain ⟨k, hk, rfl, hb, hE⟩ := hrel
            have hs5 := hb.size
            by_cases hlt : k < cntN o
            · have m3 := n3.below hb
              have hcy := (hb.cell (p := ⟨g, k, none⟩) hg3).trans (hcells.out k hlt)
              obtain ⟨ae, x, e1, hc, hr, hd, hx⟩ := (h4.below hb (by omega)).at_ hlt
              injection e1 with e1
              subst e1
              have hgd : xs.getD k 0 = x := by rw [List.getD, hx.out]; rfl
              have hxr := r64_of_num (hnum'.out x (List.mem_of_getElem? hx.out))
              have hL5 := wordL_len5 (p := k) (by omega)
              have hlr : R64 ((wordL k).length : Int) := by constructor <;> omega
              obtain ⟨y, hy⟩ : ∃ y, y = out.getD k 0 := ⟨_, rfl⟩
              rw [← hy] at hcy
              have E1 : Hid (lieF o xs = if y = timesF x ((wordL k).length : Int) then chkGo xs out (cntN o - (k + 1)) (k + 1) else false) := by
                show _ = _
                rw [hE.out, show cntN o - k = (cntN o - (k + 1)) + 1 by omega, chkGo, hgd, ← hy]
              have d2 : Below wr.heap.size wr wr.drew := (Below.refl _ _).drew
              have dz := d2.size
              have r3 := m3.below d2
              have p1 := m3.c1
              clear hE hd hx hr hgd hy
              by_cases hxy : y = timesF x ((wordL k).length : Int)
              all_goals
                go_wp2_with fail
                go_region_held3 (fun w' => w'.cell? ⟨w2.heap.size, 1, none⟩ = some (.slice (some ⟨g, 0, none⟩) (cntN o) d) ∧ w'.cell? ⟨g, k, none⟩ = some (.int .i64 y)) (first | exact ⟨p1, hcy⟩ | exact ⟨P1, P2⟩ | go_keep)
                  (first
                    | (go_at_call 83; refine (impl_wordAt k wr.drew (by omega)).mono ?_; rintro e u1 ⟨gw, cw, rfl, ow, b6⟩; have P1 := (r3.below b6).c1; have P2 := (b6.cell (p := ⟨g, k, none⟩) (by show g < _; omega)).trans hcy; have y6 := b6.size; have hcw := ow.cap; have hmw := ow.max)
                    | (go_at_call 84; refine (impl_Times x ((wordL k).length : Int) u1 hxr hlr).mono ?_; rintro e u2 ⟨rfl, rfl⟩))
              · have E2 := hide (E1.out.trans (if_pos hxy))
                have HB := hb.drew.trans (b6.mono (show w5.heap.size ≤ wr.drew.heap.size by omega))
                go_wp2_with fail
                go_roundw
                case rel => exact ⟨k + 1, by omega, by go_num, HB, E2⟩
                case measure => simp [intOf]; omega
              · have E2 := hide (E1.out.trans (if_neg hxy))
                have HB := B5.trans ((hb.drew.trans (b6.mono (show w5.heap.size ≤ wr.drew.heap.size by omega))).mono (by omega))
                go_wp2_with fail
                go_ret
                exact ⟨ret_bool E2.out.symm, HB⟩
            · obtain rfl : k = cntN o := by omega
              have E1 : Hid (lieF o xs = true) := by
                show _ = _
                rw [hE.out, Nat.sub_self]
                rfl
              have B6 := B5.trans (hb.mono (by omega))
              go_wp2_with fail
              go_ret
              exact ⟨ret_bool E1.out.symm, B6⟩
    · have hF : Hid (lieF o xs = false) := if_neg (fun h => hx0 (hgd.symm.trans h.2))
      clear hgd
      go_wp2_with fail
      go_ret
      exact ⟨ret_bool hF.out.symm, b2⟩
  · have hF : Hid (lieF o xs = false) := if_neg (fun h => hok h.1)
    have hok' : wordsOkF o xs = false := by simpa using hok
    rw [hok']
    clear hok
    go_wp2_with fail
    go_ret
    exact ⟨ret_bool hF.out.symm, b2⟩

end Go.Proofs.Ytodlfmagkjblgaa
