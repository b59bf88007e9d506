/- Polynomials and fields: copies and comparisons. -/
import Derived.Test.YtlfgbellhiifmaaGreatDoorMono
namespace Go.Proofs.YtlfgbellhiifmaaGreatDoor
open Go.RowKit
set_option linter.unusedSimpArgs false
set_option linter.unusedVariables false
set_option maxRecDepth 20000

theorem info_mono : (Tryz.prog.info? 52).map (fun i => (i.zero, i.size, i.bytes)) = some (some (.agg #[.int .i64 0, .slice none 0 0]), 2, 32) := by kernel_rfl
theorem info_monos : (Tryz.prog.info? 50).map (fun i => (i.zero, i.size, i.bytes)) = some (some (.slice none 0 0), 1, 24) := by kernel_rfl

set_option maxRecDepth 100000 in
set_option maxHeartbeats 2000000 in
theorem laws_eqMonomialS (A : Option Addr) (n c : Nat) (xs : List Mono) (lo hi : Nat) (B : Option Addr) (m d : Nat) (ys : List Mono) (lo' hi' : Nat) (w : World) (h : Mons w lo hi A n c xs) (g : Mons w lo' hi' B m d ys) (hh : hi ≤ w.heap.size) (gh : hi' ≤ w.heap.size) :
    Calls Tryz.prog 80 #[.slice A n c, .slice B m d] w fun e w' => e = .returned (.bool (decide (xs = ys))) ∧ Below w.heap.size w w' := by
  have hcp := h.cap
  have hm := h.max
  have gcp := g.cap
  have gm := g.max
  by_cases hnm : n = m
  · subst hnm
    go_enter Tryz.func80, Tryz.ntmps80
    go_wp2_with fail
    go_loopw [5] (fun i wr => ∃ (k : Nat), k ≤ n ∧ i = .int .i64 k ∧ Hid (Below w.heap.size w wr) ∧ Hid (xs.take k = ys.take k)) (fun i _ => n - (intOf i).toNat)
    case atStart => exact ⟨0, by omega, rfl, Below.refl _ _, rfl⟩
    case round =>
      obtain ⟨k, hk, rfl, hb, hr⟩ := hrel
      by_cases hlt : k < n
      · have hsz := hb.out.size
        have H1 := h.below hb.out hh
        have G1 := g.below hb.out gh
        obtain ⟨ad, x, B1, m1, d1, px, rfl, hc1, hc2, _, hi1, _, hx⟩ := H1.at_ hlt
        obtain ⟨ae, y, B2, m2, d2, py, rfl, hd1, hd2, _, hi2, _, hy⟩ := G1.at_ hlt
        have hlt' : (k : Int) < n := by omega
        have HE := hide (laws_eqMonomial x B1 m1 d1 px lo hi y B2 m2 d2 py lo' hi' wr.drew (hi1.same fun _ _ _ => rfl) (hi2.same fun _ _ _ => rfl) (Nat.le_trans hh hsz) (Nat.le_trans gh hsz))
        cases hxy : decide ((x, px) = (y, py)) with
        | true =>
          have hxy' : (x, px) = (y, py) := of_decide_eq_true hxy
          rw [hxy] at HE
          have ht : Hid (xs.take (k + 1) = ys.take (k + 1)) := take_snoc2 hr.out hx.out (by rw [hy.out, hxy'])
          clear hxy hxy' hx hy H1 G1
          go_wp2_with fail
          go_region_held3 (fun w' => w'.cell? (ad.add (k * 2)) = some (.int .i64 x) ∧ w'.cell? ⟨(ad.add (k * 2)).block, (ad.add (k * 2)).off + 1, none⟩ = some (.slice B1 m1 d1) ∧ w'.cell? (ae.add (k * 2)) = some (.int .i64 y) ∧ w'.cell? ⟨(ae.add (k * 2)).block, (ae.add (k * 2)).off + 1, none⟩ = some (.slice B2 m2 d2)) (first | exact ⟨hc1, hc2, hd1, hd2⟩ | go_keep)
            (first
              | (go_at_call 113; refine HE.out.mono ?_; rintro e w2 ⟨rfl, bF0⟩; have bF : Below wr.heap.size wr w2 := ((Below.refl _ wr).drew).trans bF0; have T0 := And.intro ((bF.cell (World.block_lt_of_cell? wr _ hc1)).trans hc1) (And.intro ((bF.cell (World.block_lt_of_cell? wr _ hc2)).trans hc2) (And.intro ((bF.cell (World.block_lt_of_cell? wr _ hd1)).trans hd1) ((bF.cell (World.block_lt_of_cell? wr _ hd2)).trans hd2)))))
          have HB : Hid (Below w.heap.size w w2) := hb.out.trans (bF.mono hsz)
          clear bF bF0 T0 HE hb
          go_wp2_with fail
          go_roundw
          case rel => exact ⟨k + 1, by omega, by go_num, HB, ht⟩
          case measure => simp [intOf]; omega
        | false =>
          have hxy' : ¬ (x, px) = (y, py) := of_decide_eq_false hxy
          rw [hxy] at HE
          have hF : Hid (decide (xs = ys) = false) := decide_eq_false fun e => by
            have h1 := hx.out
            rw [e, hy.out] at h1
            exact hxy' (by injection h1 with h1; exact h1.symm)
          clear hxy hxy' hx hy H1 G1
          go_wp2_with fail
          go_region_held3 (fun w' => w'.cell? (ad.add (k * 2)) = some (.int .i64 x) ∧ w'.cell? ⟨(ad.add (k * 2)).block, (ad.add (k * 2)).off + 1, none⟩ = some (.slice B1 m1 d1) ∧ w'.cell? (ae.add (k * 2)) = some (.int .i64 y) ∧ w'.cell? ⟨(ae.add (k * 2)).block, (ae.add (k * 2)).off + 1, none⟩ = some (.slice B2 m2 d2)) (first | exact ⟨hc1, hc2, hd1, hd2⟩ | go_keep)
            (first
              | (go_at_call 113; refine HE.out.mono ?_; rintro e w2 ⟨rfl, bF0⟩; have bF : Below wr.heap.size wr w2 := ((Below.refl _ wr).drew).trans bF0; have T0 := And.intro ((bF.cell (World.block_lt_of_cell? wr _ hc1)).trans hc1) (And.intro ((bF.cell (World.block_lt_of_cell? wr _ hc2)).trans hc2) (And.intro ((bF.cell (World.block_lt_of_cell? wr _ hd1)).trans hd1) ((bF.cell (World.block_lt_of_cell? wr _ hd2)).trans hd2)))))
          have HB := hb.out.trans (bF.mono hsz)
          clear bF bF0 T0 HE hb
          go_wp2_with fail
          go_ret
          exact ⟨ret_bool hF.out.symm, HB⟩
      · obtain rfl : k = n := by omega
        have HB := hb.out
        have hF : Hid (decide (xs = ys) = true) := by
          show _ = _
          have h1 := hr.out
          have h2 := h.len
          have h3 := g.len
          rw [List.take_of_length_le (by omega), List.take_of_length_le (by omega)] at h1
          simpa using h1
        go_wp2_with fail
        go_ret
        exact ⟨ret_bool hF.out.symm, HB⟩
  · have hne : ((n : Int) != (m : Int)) = true := by simpa using (by omega : ¬ (n : Int) = m)
    have hF : Hid (decide (xs = ys) = false) := decide_eq_false fun e => hnm (by rw [← h.len, ← g.len, e])
    clear hnm
    go_enter Tryz.func80, Tryz.ntmps80
    go_wp2_with fail
    go_ret
    exact ⟨ret_bool hF.out.symm, Below.refl _ _⟩

set_option maxRecDepth 100000 in
set_option maxHeartbeats 2000000 in
theorem laws_eqMonomialSS (A : Option Addr) (n c : Nat) (xs : List (List Mono)) (lo hi : Nat) (B : Option Addr) (m d : Nat) (ys : List (List Mono)) (lo' hi' : Nat) (w : World) (h : Mons2 w lo hi A n c xs) (g : Mons2 w lo' hi' B m d ys) (hh : hi ≤ w.heap.size) (gh : hi' ≤ w.heap.size) :
    Calls Tryz.prog 42 #[.slice A n c, .slice B m d] w fun e w' => e = .returned (.bool (decide (xs = ys))) ∧ Below w.heap.size w w' := by
  have hcp := h.cap
  have hm := h.max
  have gcp := g.cap
  have gm := g.max
  by_cases hnm : n = m
  · subst hnm
    go_enter Tryz.func42, Tryz.ntmps42
    go_wp2_with fail
    go_loopw [5] (fun i wr => ∃ (k : Nat), k ≤ n ∧ i = .int .i64 k ∧ Hid (Below w.heap.size w wr) ∧ Hid (xs.take k = ys.take k)) (fun i _ => n - (intOf i).toNat)
    case atStart => exact ⟨0, by omega, rfl, Below.refl _ _, rfl⟩
    case round =>
      obtain ⟨k, hk, rfl, hb, hr⟩ := hrel
      by_cases hlt : k < n
      · have hsz := hb.out.size
        have H1 := h.below hb.out hh
        have G1 := g.below hb.out gh
        obtain ⟨ad, B1, m1, d1, px, rfl, hc1, hi1, _, hx⟩ := H1.at_ hlt
        obtain ⟨ae, B2, m2, d2, py, rfl, hd1, hi2, _, hy⟩ := G1.at_ hlt
        have hlt' : (k : Int) < n := by omega
        have HE := hide (laws_eqMonomialS B1 m1 d1 px lo hi B2 m2 d2 py lo' hi' wr.drew (hi1.same fun _ _ _ => rfl) (hi2.same fun _ _ _ => rfl) (Nat.le_trans hh hsz) (Nat.le_trans gh hsz))
        cases hxy : decide (px = py) with
        | true =>
          have hxy' : px = py := of_decide_eq_true hxy
          rw [hxy] at HE
          have ht : Hid (xs.take (k + 1) = ys.take (k + 1)) := take_snoc2 hr.out hx.out (by rw [hy.out, hxy'])
          clear hxy hxy' hx hy H1 G1
          go_wp2_with fail
          go_region_held3 (fun w' => w'.cell? (ad.add k) = some (.slice B1 m1 d1) ∧ w'.cell? (ae.add k) = some (.slice B2 m2 d2)) (first | exact ⟨hc1, hd1⟩ | go_keep)
            (first
              | (go_at_call 80; refine HE.out.mono ?_; rintro e w2 ⟨rfl, bF0⟩; have bF : Below wr.heap.size wr w2 := ((Below.refl _ wr).drew).trans bF0; have T0 := And.intro ((bF.cell (World.block_lt_of_cell? wr _ hc1)).trans hc1) ((bF.cell (World.block_lt_of_cell? wr _ hd1)).trans hd1)))
          have HB : Hid (Below w.heap.size w w2) := hb.out.trans (bF.mono hsz)
          clear bF bF0 T0 HE hb
          go_wp2_with fail
          go_roundw
          case rel => exact ⟨k + 1, by omega, by go_num, HB, ht⟩
          case measure => simp [intOf]; omega
        | false =>
          have hxy' : ¬ px = py := of_decide_eq_false hxy
          rw [hxy] at HE
          have hF : Hid (decide (xs = ys) = false) := decide_eq_false fun e => by
            have h1 := hx.out
            rw [e, hy.out] at h1
            exact hxy' (by injection h1 with h1; exact h1.symm)
          clear hxy hxy' hx hy H1 G1
          go_wp2_with fail
          go_region_held3 (fun w' => w'.cell? (ad.add k) = some (.slice B1 m1 d1) ∧ w'.cell? (ae.add k) = some (.slice B2 m2 d2)) (first | exact ⟨hc1, hd1⟩ | go_keep)
            (first
              | (go_at_call 80; refine HE.out.mono ?_; rintro e w2 ⟨rfl, bF0⟩; have bF : Below wr.heap.size wr w2 := ((Below.refl _ wr).drew).trans bF0; have T0 := And.intro ((bF.cell (World.block_lt_of_cell? wr _ hc1)).trans hc1) ((bF.cell (World.block_lt_of_cell? wr _ hd1)).trans hd1)))
          have HB := hb.out.trans (bF.mono hsz)
          clear bF bF0 T0 HE hb
          go_wp2_with fail
          go_ret
          exact ⟨ret_bool hF.out.symm, HB⟩
      · obtain rfl : k = n := by omega
        have HB := hb.out
        have hF : Hid (decide (xs = ys) = true) := by
          show _ = _
          have h1 := hr.out
          have h2 := h.len
          have h3 := g.len
          rw [List.take_of_length_le (by omega), List.take_of_length_le (by omega)] at h1
          simpa using h1
        go_wp2_with fail
        go_ret
        exact ⟨ret_bool hF.out.symm, HB⟩
  · have hne : ((n : Int) != (m : Int)) = true := by simpa using (by omega : ¬ (n : Int) = m)
    have hF : Hid (decide (xs = ys) = false) := decide_eq_false fun e => hnm (by rw [← h.len, ← g.len, e])
    clear hnm
    go_enter Tryz.func42, Tryz.ntmps42
    go_wp2_with fail
    go_ret
    exact ⟨ret_bool hF.out.symm, Below.refl _ _⟩
end Go.Proofs.YtlfgbellhiifmaaGreatDoor
