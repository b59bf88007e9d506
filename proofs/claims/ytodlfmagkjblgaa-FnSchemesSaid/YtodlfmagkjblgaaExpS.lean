/- Exponentials of words: the walk of the reference's text. -/
import Derived.Test.YtodlfmagkjblgaaExp
import Derived.Test.YtodlfmagkjblgaaLast
namespace Go.Proofs.Ytodlfmagkjblgaa
open Go.RowKit
set_option linter.unusedSimpArgs false
set_option linter.unusedVariables false
set_option maxRecDepth 20000

theorem wordsOk_of {o : Int} {xs : List Int} (h0 : 0 ≤ o) (h5 : o ≤ 5) (hl : xs.length = cntN o) (hn : ∀ x ∈ xs, 0 ≤ x ∧ x < 1000000271) : wordsOkF o xs = true := by
  unfold wordsOkF
  simp [h0, h5, hl, allNumF_of hn]
theorem fit_of {o : Int} {xs ys : List Int} (h1 : wordsOkF o xs = true) (h2 : wordsOkF o ys = true) : fitF o xs o ys = true := by
  unfold fitF
  simp [h1, h2]

theorem map_num (xs : List Int) (k : Int) : ∀ x ∈ xs.map (fun x => timesF x k), 0 ≤ x ∧ x < 1000000271 := by
  intro x hx
  simp only [List.mem_map] at hx
  obtain ⟨y, _, rfl⟩ := hx
  exact timesF_bd _ _

theorem spec_Scale_ok (o : Int) (A : Option Addr) (n c : Nat) (xs : List Int) (lo hi : Nat) (k : Int) (w : World) (h : Ints w lo hi A n c xs) (hh : hi ≤ w.heap.size) (hk : R64 k) (hok : wordsOkF o xs = true) :
    Calls Try.prog 112 #[.agg #[.int .i64 o, .slice A n c], .int .i64 k] w fun e w' => ∃ A' c', e = .returned (.agg #[.int .i64 o, .slice A' (cntN o) c']) ∧ OwnI w' w.heap.size w'.heap.size A' (cntN o) c' (xs.map (fun x => timesF x k)) ∧ Below w.heap.size w w' := by
  refine (spec_ScaleWords o A n c xs lo hi k w h hh hk).mono ?_
  rintro e w' ⟨A', n', c', rfl, h1, h2⟩
  have hF : scaleF o xs k = (o, xs.map (fun x => timesF x k)) := if_pos hok
  rw [hF] at h1 ⊢
  obtain rfl : n' = cntN o := by rw [← h1.len, List.length_map]; exact (wordsOk_facts hok).2.1
  exact ⟨A', c', rfl, h1, h2⟩
theorem spec_Add_ok (o : Int) (A : Option Addr) (n c : Nat) (xs : List Int) (lo hi : Nat) (B : Option Addr) (m d : Nat) (ys : List Int) (lo' hi' : Nat) (w : World) (h : Ints w lo hi A n c xs) (g' : Ints w lo' hi' B m d ys) (hh : hi ≤ w.heap.size) (gh : hi' ≤ w.heap.size) (h1 : wordsOkF o xs = true) (h2 : wordsOkF o ys = true) :
    Calls Try.prog 111 #[.agg #[.int .i64 o, .slice A n c], .agg #[.int .i64 o, .slice B m d]] w fun e w' => ∃ A' c', e = .returned (.tuple #[.agg #[.int .i64 o, .slice A' (cntN o) c'], .bool true]) ∧ OwnI w' w.heap.size w'.heap.size A' (cntN o) c' (zipF xs ys 1) ∧ Below w.heap.size w w' := by
  refine (spec_AddWords o A n c xs lo hi o B m d ys lo' hi' w h g' hh gh).mono ?_
  rintro e w' ⟨A', n', c', rfl, q1, q2⟩
  have hF : addF o xs o ys = ((o, zipF xs ys 1), true) := if_pos (fit_of h1 h2)
  rw [hF] at q1 ⊢
  obtain rfl : n' = cntN o := by rw [← q1.len]; exact zip_len (wordsOk_facts h1).2.1 (wordsOk_facts h2).2.1
  exact ⟨A', c', rfl, q1, q2⟩
theorem spec_Mul_ok (o : Int) (A : Option Addr) (n c : Nat) (xs : List Int) (lo hi : Nat) (B : Option Addr) (m d : Nat) (ys : List Int) (lo' hi' : Nat) (w : World) (h : Ints w lo hi A n c xs) (g' : Ints w lo' hi' B m d ys) (hh : hi ≤ w.heap.size) (gh : hi' ≤ w.heap.size) (h1 : wordsOkF o xs = true) (h2 : wordsOkF o ys = true) :
    Calls Try.prog 20 #[.agg #[.int .i64 o, .slice A n c], .agg #[.int .i64 o, .slice B m d]] w fun e w' => ∃ A' c', e = .returned (.tuple #[.agg #[.int .i64 o, .slice A' (cntN o) c'], .bool true]) ∧ OwnI w' w.heap.size w'.heap.size A' (cntN o) c' (mulL (cntN o) xs ys) ∧ Below w.heap.size w w' := by
  refine (spec_MulWords o A n c xs lo hi o B m d ys lo' hi' w h g' hh gh).mono ?_
  rintro e w' ⟨A', n', c', rfl, q1, q2⟩
  have hF : mulF o xs o ys = ((o, mulL (cntN o) xs ys), true) := if_pos (fit_of h1 h2)
  rw [hF] at q1 ⊢
  obtain rfl : n' = cntN o := by rw [← q1.len, mulL_len]
  exact ⟨A', c', rfl, q1, q2⟩

set_option maxRecDepth 100000 in
set_option maxHeartbeats 2000000 in
theorem spec_ExpWords (o : Int) (A : Option Addr) (n c : Nat) (xs : List Int) (lo hi : Nat) (w : World) (h : Ints w lo hi A n c xs) (hh : hi ≤ w.heap.size) :
    Calls Try.prog 53 #[.agg #[.int .i64 o, .slice A n c]] w fun e w' => ∃ A' n' c', e = .returned (.tuple #[.agg #[.int .i64 (expF o xs).1.1, .slice A' n' c'], .bool (expF o xs).2]) ∧ OwnI w' w.heap.size w'.heap.size A' n' c' (expF o xs).1.2 ∧ Below w.heap.size w w' := by
  have hm := h.max
  have hcp := h.cap
  have a1 := below_alloc w (.cells #[.int .i64 o, .slice A n c] 38)
  have a2 := below_alloc (w.alloc (.cells #[.int .i64 o, .slice A n c] 38)) (.cells #[.int .i64 0, .slice none 0 0] 38)
  have j1 := (Blk2.new w (.int .i64 o) (.slice A n c) 38).below a2
  have j2 := Blk2.new (w.alloc (.cells #[.int .i64 o, .slice A n c] 38)) (.int .i64 0) (.slice none 0 0) 38
  have b0 := a1.trans (a2.mono a1.size)
  simp only [World.size_alloc] at j2
  have z0 := b0.size
  clear a1 a2
  go_enter Try.func53, Try.ntmps53
  go_wp2_with fail
  have h1 := h.below b0 hh
  generalize World.alloc (World.alloc w (.cells #[.int .i64 o, .slice A n c] 38)) (.cells #[.int .i64 0, .slice none 0 0] 38) = W at j1 j2 b0 h1 z0 ⊢
  refine (spec_WordsOk o A n c xs lo hi W h1 (by omega)).mono ?_
  rintro e w1 ⟨rfl, b1⟩
  have k1 := j1.below b1
  have k2 := j2.below b1
  have h2 := h1.below b1 (by omega)
  have b2 := b0.trans (b1.mono z0)
  have z1 := b2.size
  have q2 := k2.lt
  clear j1 j2 h1 b0 b1 z0
  by_cases hok : wordsOkF o xs = true
  · obtain ⟨⟨h0, h5⟩, hlen, hnum⟩ := wordsOk_facts hok
    have hcb := cntN_bd h5
    obtain rfl : n = cntN o := by rw [← h.len, hlen]
    obtain ⟨ad, x, rfl, hc, hr, _, hx⟩ := h2.at_ (k := 0) (by omega)
    have p0 := k1.c1
    have hgd : xs.getD 0 0 = x := by rw [List.getD, hx.out]; rfl
    have hc0 : w1.cell? ad = some (.int .i64 x) := by simpa [Addr.add] using hc
    have H := hide (And.intro hnum hlen)
    have hokH := hide hok
    rw [hok]
    clear hnum hlen hr hx hok
    by_cases hx0 : x = 0
    · have hF : Hid (expF o xs = ((o, expL o xs), true)) := if_pos ⟨hokH.out, hgd.trans hx0⟩
      clear hgd
      subst hx0
      have hnum' := hide H.out.1
      clear H
      have p1 := k1.c0
      go_wp2_with fail
      clear p0 p1
      refine (spec_Unit o w1 h0 h5).mono ?_
      rintro e w2 ⟨A3, c3, rfl, o3, b3⟩
      have a3 := below_alloc w2 (.cells #[.int .i64 o, .slice A3 (cntN o) c3] 38)
      have l1 := (k1.below b3).below a3
      have l2 := (k2.below b3).below a3
      have l3 := Blk2.new w2 (.int .i64 o) (.slice A3 (cntN o) c3) 38
      have o3' := o3.below a3 (Nat.le_refl _)
      have z2 := b3.size
      have h3 := (h2.below b3 (by omega)).below a3 (by omega)
      have b4 := (b2.trans (b3.mono z1)).trans (a3.mono (by omega))
      have q3 := l3.lt
      have p1 := l1.c0
      clear k1 k2 h2 b2 b3 o3
      go_wp2_with fail
      clear p1
      generalize World.alloc w2 (.cells #[.int .i64 o, .slice A3 (cntN o) c3] 38) = W2 at a3 l1 l2 l3 o3' h3 b4 q3 ⊢
      clear a3
      refine (spec_Unit o W2 h0 h5).mono ?_
      rintro e w3 ⟨A4, c4, rfl, o4, b5⟩
      have a4 := below_alloc w3 (.cells #[.int .i64 o, .slice A4 (cntN o) c4] 38)
      have m1 := (l1.below b5).below a4
      have m2 := (l2.below b5).below a4
      have m3 := (l3.below b5).below a4
      have m4 := Blk2.new w3 (.int .i64 o) (.slice A4 (cntN o) c4) 38
      have z3 := b5.size
      have o5 := (o3'.below b5 (by omega)).below a4 (by omega)
      have o6 := o4.below a4 (Nat.le_refl _)
      have h4 := (h3.below b5 (by omega)).below a4 (by omega)
      have b6 := (b4.trans (b5.mono (by omega))).trans (a4.mono (by omega))
      have q4 := m4.lt
      clear l1 l2 l3 h3 b4 b5 o4 o3'
      go_wp2_with fail
      generalize World.alloc w3 (.cells #[.int .i64 o, .slice A4 (cntN o) c4] 38) = w4 at a4 m1 m2 m3 m4 o5 o6 h4 b6 q4 ⊢
      clear a4
      have hst := map_one (unitL_num (cntN o))
      go_loopw [6] (fun i wr => ∃ (j : Nat) (B3 : Option Addr) (d3 : Nat) (B4 : Option Addr) (d4 lo3 hi3 lo4 hi4 : Nat) (out pw : List Int), j ≤ o.toNat ∧ i = .int .i64 ((j : Int) + 1) ∧ Below w2.heap.size w4 wr ∧ Blk2 wr w2.heap.size (.int .i64 o) (.slice B3 (cntN o) d3) ∧ Blk2 wr w3.heap.size (.int .i64 o) (.slice B4 (cntN o) d4) ∧
          Hid (OwnI wr lo3 hi3 B3 (cntN o) d3 out ∧ w1.heap.size ≤ lo3 ∧ hi3 ≤ wr.heap.size ∧ (hi3 ≤ w3.heap.size ∨ w3.heap.size < lo3) ∧ ∀ x ∈ out, 0 ≤ x ∧ x < 1000000271) ∧ Hid (OwnI wr lo4 hi4 B4 (cntN o) d4 (pw.map (fun x => timesF x (invF (factN j)))) ∧ w1.heap.size ≤ lo4 ∧ hi4 ≤ wr.heap.size ∧ ∀ x ∈ pw.map (fun x => timesF x (invF (factN j))), 0 ≤ x ∧ x < 1000000271) ∧ Hid (expL o xs = expGo (cntN o) xs (o.toNat - j) (j + 1) out pw))
        (fun i _ => 7 - (intOf i).toNat)
      case atStart => exact ⟨0, A3, c3, A4, c4, w1.heap.size, w2.heap.size, W2.heap.size, w3.heap.size, unitL (cntN o), unitL (cntN o), by omega, rfl, Below.refl _ _, m3, m4, ⟨o5, by omega, by omega, by omega, unitL_num _⟩, ⟨by rw [hst]; exact o6, by omega, by omega, by rw [hst]; exact unitL_num _⟩, rfl⟩
      case round =>
        clear hst
        obtain ⟨j, B3, d3, B4, d4, lo3, hi3, lo4, hi4, out, pw, hj, rfl, hb, n3, n4, ho3, ho4, hE⟩ := hrel
        have n1 := m1.same (hb.block w.heap.size (by omega))
        have n2 := m2.same (hb.block (w.heap.size + 1) (by omega))
        have h5' := h4.same (Same.of_below (lo := lo) hb (show hi ≤ w2.heap.size by omega))
        have hs := hb.size
        have s1 := n1.lt
        have s4 := n4.lt
        by_cases hle : j < o.toNat
        · obtain ⟨s, hsn⟩ : ∃ s, o.toNat - j = s + 1 := ⟨o.toNat - j - 1, by omega⟩
          have E1 : Hid (expL o xs = expGo (cntN o) xs s (j + 1 + 1) (zipF out (mulL (cntN o) pw xs) (invF (factN (j + 1)))) (mulL (cntN o) pw xs)) := by
            show _ = _
            rw [hE.out, hsn, expGo]
          have hle' : (j : Int) + 1 ≤ o := by omega
          have p0 := n1.c0
          have p1 := n1.c1
          have p2 := n4.c0
          have p3 := n4.c1
          have d2 : Below wr.heap.size wr wr.drew := (Below.refl _ _).drew
          have dz := d2.size
          have r1 := n1.below d2
          have r3 := n3.below d2
          have r4 := n4.below d2
          have H4 := ho4.out.1.below d2 ho4.out.2.2.1
          have H3 := ho3.out.1.below d2 ho3.out.2.2.1
          have HX := h5'.below d2 (by omega)
          have hz3 := ho3.out.2.2.1
          have hz4 := ho4.out.2.2.1
          have hk3 := ho3.out.2.2.2.1
          have ok4 := wordsOk_of h0 h5 H4.len ho4.out.2.2.2
          have ok3 := wordsOk_of h0 h5 H3.len ho3.out.2.2.2.2
          have hlo3 := ho3.out.2.1
          have HH := hide (And.intro H3 (And.intro H4 (And.intro ok3 ok4)))
          have hir := r64_of_num (invF_bd ((j : Int) + 1))
          have hjr : R64 ((j : Int) + 1) := by constructor <;> omega
          have hne : ¬ w.heap.size = w3.heap.size := by omega
          clear H3 H4 ok3 ok4 ho3 ho4 hE n1 n2 n3 n4 h5'
          go_upto_region 8 with fail
          have hS0 : Two w.heap.size (.int .i64 o) (.slice (some ad) (cntN o) c) w3.heap.size (.int .i64 o) (.slice B4 (cntN o) d4) wr.drew := ⟨⟨r1.c0, r1.c1⟩, r4.c0, r4.c1⟩
          refine wp_region_Z (Two w.heap.size (.int .i64 o) (.slice (some ad) (cntN o) c) w3.heap.size (.int .i64 o) (.slice B4 (cntN o) d4)) 9 (by kernel_rfl) ?_
          refine wpAnyZ_take 0 (.agg #[.int .i64 o, .slice B4 (cntN o) d4]) rfl (by kernel_rfl) (by kernel_rfl) (fun _ _ _ h => h) (by rfl) (fun _ hS => by obtain ⟨⟨s1, s2⟩, s3, s4⟩ := hS; go_simp) hS0 ?_
          try simp only [Act.put, List.setIfInBounds_toArray, List.set_cons_zero, List.set_cons_succ]
          refine wpAnyZ_take 1 (.agg #[.int .i64 o, .slice (some ad) (cntN o) c]) rfl (by kernel_rfl) (by kernel_rfl) (fun _ _ _ h => h) (by rfl) (fun _ hS => by obtain ⟨⟨s1, s2⟩, s3, s4⟩ := hS; go_simp) hS0 ?_
          try simp only [Act.put, List.setIfInBounds_toArray, List.set_cons_zero, List.set_cons_succ]
          refine wpAnyZ_takeW 2 (.int .i64 ((j : Int) + 1)) rfl (by kernel_rfl) (by kernel_rfl) (fun _ _ _ h => h) (by rfl) (fun _ => by go_simp) hS0 ?_
          try simp only [Act.put, List.setIfInBounds_toArray, List.set_cons_zero, List.set_cons_succ]
          refine wpAnyZ_one 3 (by kernel_rfl) rfl (by rfl) (fun K hK => ?_)
          go_simp
          refine (spec_Inverse ((j : Int) + 1) wr.drew hjr).mono ?_
          rintro e v3 ⟨rfl, rfl⟩
          go_wp2_with fail
          refine hK.out _ _ hS0 ?_
          clear hK K
          try simp only [Act.put, List.setIfInBounds_toArray, List.set_cons_zero, List.set_cons_succ]
          refine wpAnyZ_one 4 (by kernel_rfl) rfl (by rfl) (fun K hK => ?_)
          go_simp
          refine (spec_Scale_ok o (some ad) (cntN o) c xs lo hi (invF ((j : Int) + 1)) wr.drew HX (by omega) hir hokH.out).mono ?_
          rintro e u1 ⟨A5, c5, rfl, o5', b7⟩
          have y7 := b7.size
          have hS1 : Two w.heap.size (.int .i64 o) (.slice (some ad) (cntN o) c) w3.heap.size (.int .i64 o) (.slice B4 (cntN o) d4) u1 := ⟨⟨(r1.below b7).c0, (r1.below b7).c1⟩, (r4.below b7).c0, (r4.below b7).c1⟩
          go_wp2_with fail
          refine hK.out _ _ hS1 ?_
          clear hK K
          try simp only [Act.put, List.setIfInBounds_toArray, List.set_cons_zero, List.set_cons_succ]
          refine wpAnyZ_one 5 (by kernel_rfl) rfl (by rfl) (fun K hK => ?_)
          go_simp
          refine (spec_Mul_ok o B4 (cntN o) d4 _ lo4 hi4 A5 (cntN o) c5 _ _ _ u1 (HH.out.2.1.below b7 (by omega)).ints o5'.ints (by omega) (by omega) HH.out.2.2.2 (wordsOk_of h0 h5 o5'.len (map_num _ _))).mono ?_
          rintro e u2 ⟨A6, c6, rfl, o7, b8⟩
          have y8 := b8.size
          have R1 := (r1.below b7).below b8
          have R3 := (r3.below b7).below b8
          have R4 := (r4.below b7).below b8
          have hS2 : Two w.heap.size (.int .i64 o) (.slice (some ad) (cntN o) c) w3.heap.size (.int .i64 o) (.slice B4 (cntN o) d4) u2 := ⟨⟨R1.c0, R1.c1⟩, R4.c0, R4.c1⟩
          go_wp2_with fail
          refine hK.out _ _ hS2 ?_
          clear hK K
          try simp only [Act.put, List.setIfInBounds_toArray, List.set_cons_zero, List.set_cons_succ]
          refine wpAnyZ_takeW 6 (.tuple #[.agg #[.int .i64 o, .slice A6 (cntN o) c6], .bool true]) rfl (by kernel_rfl) (by kernel_rfl) (fun _ _ _ h => h) (by rfl) (fun _ => by go_simp) hS2 ?_
          try simp only [Act.put, List.setIfInBounds_toArray, List.set_cons_zero, List.set_cons_succ]
          refine wpAnyZ_takeW 7 (.agg #[.int .i64 o, .slice A6 (cntN o) c6]) rfl (by kernel_rfl) (by kernel_rfl) (fun _ _ _ h => h) (by rfl) (fun _ => by go_simp) hS2 ?_
          try simp only [Act.put, List.setIfInBounds_toArray, List.set_cons_zero, List.set_cons_succ]
          refine wpAnyZ_takeW 8 (.bool true) rfl (by kernel_rfl) (by kernel_rfl) (fun _ _ _ h => h) (by rfl) (fun _ => by go_simp) hS2 ?_
          try simp only [Act.put, List.setIfInBounds_toArray, List.set_cons_zero, List.set_cons_succ]
          rw [exp_step] at o7
          have n1 := R1.far (show w.heap.size ≠ w3.heap.size by omega) (.int .i64 o) (.slice A6 (cntN o) c6)
          have n3 := R3.far (show w2.heap.size ≠ w3.heap.size by omega) (.int .i64 o) (.slice A6 (cntN o) c6)
          have n4 := R4.store2 (.int .i64 o) (.slice A6 (cntN o) c6)
          have P3 := ((HH.out.1.below b7 (by omega)).below b8 (by omega)).same (store2_same (.int .i64 o) (.slice A6 (cntN o) c6) (b := w3.heap.size) (by omega))
          have P6 := o7.same (store2_same (.int .i64 o) (.slice A6 (cntN o) c6) (b := w3.heap.size) (by omega))
          have Hb := store2_below ((hb.drew.trans (b7.mono (show w2.heap.size ≤ wr.drew.heap.size by omega))).trans (b8.mono (show w2.heap.size ≤ u1.heap.size by omega))) (show w2.heap.size ≤ w3.heap.size by omega) (.int .i64 o) (.slice A6 (cntN o) c6)
          have ys := store2_size u2 w3.heap.size (.int .i64 o) (.slice A6 (cntN o) c6)
          have ok6 := wordsOk_of h0 h5 P6.len (map_num _ _)
          have HHH := hide (And.intro P3 (And.intro P6 ok6))
          have g0 := R4.c0
          have g1 := R4.c1
          have f0 := R4.f0
          have f1 := R4.f1
          clear P3 P6 ok6 hS0 hS1 hS2 R1 R3 R4 r1 r3 r4 o7 o5' b7 b8 hb d2 HX p0 p1 p2 p3
          refine wpAnyZ_last (by kernel_rfl) rfl (by kernel_rfl) (by rfl) (fun K hK => ?_)
          go_simp
          refine hK _ _ ?_
          clear hK K g0 g1 f0 f1
          generalize (u2.setCell ⟨w3.heap.size, 0, none⟩ (.int .i64 o)).setCell ⟨w3.heap.size, 1, none⟩ (.slice A6 (cntN o) c6) = v2 at n4 n3 n1 HHH Hb ys ⊢
          have p2 := n4.c0
          have p3 := n4.c1
          have p4 := n3.c0
          have p5 := n3.c1
          go_wp2_with fail
          clear p2 p3 p4 p5
          refine (spec_Add_ok o B3 (cntN o) d3 out lo3 hi3 A6 (cntN o) c6 _ _ _ v2 HHH.out.1.ints HHH.out.2.1.ints (by omega) (by omega) HH.out.2.2.1 HHH.out.2.2).mono ?_
          rintro e v4 ⟨A7, c7, rfl, o8, b9⟩
          have y9 := b9.size
          have R3 := n3.below b9
          have m3' := R3.store2 (.int .i64 o) (.slice A7 (cntN o) c7)
          have m4' := (n4.below b9).far (show w3.heap.size ≠ w2.heap.size by omega) (.int .i64 o) (.slice A7 (cntN o) c7)
          rw [zip_scale] at o8
          have N7 := o8.same (store2_same (.int .i64 o) (.slice A7 (cntN o) c7) (b := w2.heap.size) (by omega))
          have N6 := (HHH.out.2.1.below b9 (by omega)).same (store2_same (.int .i64 o) (.slice A7 (cntN o) c7) (b := w2.heap.size) (by omega))
          have HB := store2_below (Hb.trans (b9.mono (show w2.heap.size ≤ v2.heap.size by omega))) (Nat.le_refl _) (.int .i64 o) (.slice A7 (cntN o) c7)
          have ys9 := store2_size v4 w2.heap.size (.int .i64 o) (.slice A7 (cntN o) c7)
          have g0 := R3.c0
          have g1 := R3.c1
          have f0 := R3.f0
          have f1 := R3.f1
          clear R3 n1 n3 n4 b9 o8 HH HHH
          go_wp2_with fail
          clear g0 g1 f0 f1
          go_roundw
          case rel =>
            exact ⟨j + 1, A7, c7, A6, c6, _, _, _, _, _, _, by omega, by go_num, HB, m3', m4', ⟨N7, by omega, by omega, by omega, zip_num _ _ _⟩, ⟨N6, by omega, by omega, map_num _ _⟩, by
              show _ = _
              rw [E1.out]
              congr 1
              omega⟩
          case measure => simp [intOf]; omega
        · have E0 : Hid (expL o xs = out) := by
            show _ = _
            rw [hE.out, show o.toNat - j = 0 by omega]
            rfl
          have hle' : ¬ (j : Int) + 1 ≤ o := by omega
          have p0 := n1.c0
          have p1 := n1.c1
          have p2 := n3.c0
          have p3 := n3.c1
          have p4 := n2.c0
          have p5 := n2.c1
          have p6 := n2.f0
          have p7 := n2.f1
          have B5 := b6.trans (hb.mono (show w.heap.size ≤ w2.heap.size by omega))
          have HO2 := hide ho3.out.1
          have hz3 := ho3.out.2.2.1
          have hz2 := ho3.out.2.1
          have l6 := n2.lt
          clear hE ho3 ho4 hb n1 n2 n3 n4 h5' m1 m2 m3 m4 o5 o6 h4 b6
          go_wp2_with fail
          refine bodyPost_ret (v := .tuple #[.agg #[.int .i64 o, .slice B3 (cntN o) d3], .bool true]) (by simp [results, Try.results53, go_sem, p4, p5]) rfl ⟨_, _, _, by rw [hF.out], ?_, ?_⟩
          · rw [hF.out]
            show OwnI _ _ _ _ _ _ (expL o xs)
            rw [E0.out]
            refine (OwnI.same HO2.out ?_).wide (by omega) ?_
            · (repeat (first | with_reducible exact Same.refl _ _ _ | with_reducible refine Same.drew ?_ | ((with_reducible refine Same.alloc ?_ ?_ _); rotate_left; · first | omega | (simp [World.setCell]; done) | (simp [World.setCell]; omega)) | ((with_reducible refine Same.setCell ?_ ?_ _); rotate_left; · first | omega | (simp; done) | (simp; omega))))
            · simp [World.setCell]; omega
          · (repeat (first | with_reducible exact B5 | with_reducible exact Below.refl _ _ | with_reducible refine Below.drew ?_ | ((with_reducible refine Below.alloc ?_ ?_ _); rotate_left; · first | omega | (simp [World.setCell]; done) | (simp [World.setCell]; omega)) | ((with_reducible refine Below.setCell ?_ ?_ _); rotate_left; · first | exact Nat.le_refl _ | omega | (simp; done) | (simp; omega))))
    · have hF : Hid (expF o xs = ((0, []), false)) := if_neg (fun h => hx0 (hgd.symm.trans h.2))
      clear hgd
      have p4 := k2.c0
      have p5 := k2.c1
      have p6 := k2.f0
      have p7 := k2.f1
      go_wp2_with fail
      refine bodyPost_ret (v := .tuple #[.agg #[.int .i64 0, .slice none 0 0], .bool false]) (by simp [results, Try.results53, go_sem, p4, p5]) rfl ⟨_, _, _, by rw [hF.out], by rw [hF.out]; exact OwnI.nil_ _ _ _, ?_⟩
      (repeat (first | with_reducible exact b2 | with_reducible exact Below.refl _ _ | with_reducible refine Below.drew ?_ | ((with_reducible refine Below.alloc ?_ ?_ _); rotate_left; · first | omega | (simp [World.setCell]; done) | (simp [World.setCell]; omega)) | ((with_reducible refine Below.setCell ?_ ?_ _); rotate_left; · first | exact Nat.le_refl _ | omega | (simp; done) | (simp; omega))))
  · have hF : Hid (expF o xs = ((0, []), false)) := if_neg (fun h => hok h.1)
    have hok' : wordsOkF o xs = false := by simpa using hok
    rw [hok']
    clear hok
    have p4 := k2.c0
    have p5 := k2.c1
    have p6 := k2.f0
    have p7 := k2.f1
    go_wp2_with fail
    refine bodyPost_ret (v := .tuple #[.agg #[.int .i64 0, .slice none 0 0], .bool false]) (by simp [results, Try.results53, go_sem, p4, p5]) rfl ⟨_, _, _, by rw [hF.out], by rw [hF.out]; exact OwnI.nil_ _ _ _, ?_⟩
    (repeat (first | with_reducible exact b2 | with_reducible exact Below.refl _ _ | with_reducible refine Below.drew ?_ | ((with_reducible refine Below.alloc ?_ ?_ _); rotate_left; · first | omega | (simp [World.setCell]; done) | (simp [World.setCell]; omega)) | ((with_reducible refine Below.setCell ?_ ?_ _); rotate_left; · first | exact Nat.le_refl _ | omega | (simp; done) | (simp; omega))))

theorem expGo_len (n : Nat) (xs : List Int) (s j : Nat) (out pw : List Int) (h : out.length = n) : (expGo n xs s j out pw).length = n := by
  induction s generalizing j out pw with
  | zero => exact h
  | succ s ih => exact ih _ _ _ (zip_len h (mulL_len _ _ _))
theorem expL_len (o : Int) (xs : List Int) : (expL o xs).length = cntN o := expGo_len _ _ _ _ _ _ (by simp [unitL])
theorem expF_len (o : Int) (xs : List Int) : (expF o xs).1.2.length ≤ 63 := by
  unfold expF
  split
  · rename_i h
    have := cntN_bd (wordsOk_facts h.1).1.2
    show (expL o xs).length ≤ 63
    rw [expL_len]
    omega
  · simp
end Go.Proofs.Ytodlfmagkjblgaa
