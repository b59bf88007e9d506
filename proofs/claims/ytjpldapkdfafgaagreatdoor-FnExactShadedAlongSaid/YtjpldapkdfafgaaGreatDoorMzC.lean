/- Slices of slices of integers: what they read as, and the statements' helpers on them. -/
import Derived.Test.YtjpldapkdfafgaaGreatDoorMzB
namespace Go.Proofs.YtjpldapkdfafgaaGreatDoor
open Go.RowKit
set_option linter.unusedSimpArgs false
set_option linter.unusedVariables false
set_option maxRecDepth 20000

/-- A slice of slices of integers that can be read; all its cells lie in the blocks from lo up to hi. -/
structure Ints2 (w : World) (lo hi : Nat) (A : Option Addr) (n c : Nat) (xss : List (List Int)) : Prop where
  len : xss.length = n
  cap : n ≤ c
  max : c ≤ 9223372036854775807
  cells : 0 < n → ∃ ad, A = some ad ∧ lo ≤ ad.block ∧ ad.block < hi ∧ ∀ j xs, xss[j]? = some xs → ∃ B m d, w.cell? (ad.add j) = some (.slice B m d) ∧ Ints w lo hi B m d xs

section
variable {w w' : World} {lo hi : Nat} {A : Option Addr} {n c : Nat} {xss : List (List Int)}
theorem Ints2.at_ (h : Ints2 w lo hi A n c xss) {k : Nat} (hk : k < n) :
    ∃ ad B m d xs, A = some ad ∧ w.cell? (ad.add k) = some (.slice B m d) ∧ Ints w lo hi B m d xs ∧ Hid (xss.drop k = xs :: xss.drop (k+1)) ∧ Hid (xss[k]? = some xs) := by
  obtain ⟨ad, e, _, _, hc⟩ := h.cells (by omega)
  have hl : k < xss.length := by have := h.len; omega
  obtain ⟨B, m, d, h1, h2⟩ := hc k _ (List.getElem?_eq_getElem hl)
  exact ⟨ad, B, m, d, _, e, h1, h2, List.drop_eq_getElem_cons hl, List.getElem?_eq_getElem hl⟩
theorem Ints2.same (h : Ints2 w lo hi A n c xss) (hs : Same lo hi w w') : Ints2 w' lo hi A n c xss :=
  ⟨h.len, h.cap, h.max, fun hn => by
    obtain ⟨ad, e, h1, h2, hc⟩ := h.cells hn
    refine ⟨ad, e, h1, h2, fun j xs hx => ?_⟩
    obtain ⟨B, m, d, h3, h4⟩ := hc j xs hx
    exact ⟨B, m, d, (hs.cell (by rw [block_of_add]; exact h1) (by rw [block_of_add]; exact h2)).trans h3, h4.same hs⟩⟩
theorem Ints2.below {B : Nat} (h : Ints2 w lo hi A n c xss) (hb : Below B w w') (hB : hi ≤ B) : Ints2 w' lo hi A n c xss := h.same (.of_below hb hB)
theorem Ints2.drop_end (h : Ints2 w lo hi A n c xss) : Hid (xss.drop n = []) := List.drop_eq_nil_of_le (Nat.le_of_eq h.len)
end

def szRowsGo : List (List Int) → Int → Int
  | [], l => l
  | xs :: r, l => if l - xs.length < 0 then -1 else szRowsGo r (l - xs.length)
def szRowsF (xss : List (List Int)) (l : Int) : Int := if l - xss.length < 0 then -1 else szRowsGo xss (l - xss.length)
theorem szRowsGo_bd : ∀ (xss : List (List Int)) (l : Int), 0 ≤ l → (-1 ≤ szRowsGo xss l ∧ szRowsGo xss l ≤ l) ∧ (0 ≤ szRowsGo xss l → ∀ xs ∈ xss, (xs.length : Int) ≤ l)
  | [], l, h => ⟨⟨by unfold szRowsGo; omega, by unfold szRowsGo; omega⟩, fun _ _ h => absurd h (by simp)⟩
  | xs :: r, l, h => by
    rw [szRowsGo]
    split
    · exact ⟨⟨by omega, by omega⟩, fun h => absurd h (by omega)⟩
    · have ih := szRowsGo_bd r (l - xs.length) (by omega)
      refine ⟨⟨ih.1.1, by omega⟩, fun h0 ys hy => ?_⟩
      rcases List.mem_cons.1 hy with rfl | hy
      · omega
      · have := ih.2 h0 ys hy
        omega

set_option maxHeartbeats 400000 in
theorem laws_szIntSS (A : Option Addr) (n c : Nat) (xss : List (List Int)) (lo hi : Nat) (left : Int) (w : World) (h : Ints2 w lo hi A n c xss) (h0 : 0 ≤ left) (h1 : left ≤ 1048576) :
    Calls Tryz.prog 5 #[.slice A n c, .int .i64 left] w fun e w' => e = .returned (.int .i64 (szRowsF xss left)) ∧ w = w' := by
  have hcp := h.cap
  have hm := h.max
  by_cases hlt : left - n < 0
  · have hF : Hid (szRowsF xss left = -1) := if_pos (by rw [h.len]; exact hlt)
    go_enter Tryz.func5, Tryz.ntmps5
    go_wp2_with fail
    go_ret
    exact ⟨ret_int hF.out.symm, rfl⟩
  · have hF : Hid (szRowsF xss left = szRowsGo xss (left - n)) := by
      show _ = _
      unfold szRowsF
      rw [h.len, if_neg hlt]
    go_enter Tryz.func5, Tryz.ntmps5
    go_wp2_with fail
    go_loop [1, 5] (fun l i => ∃ (k : Nat) (r : Int), k ≤ n ∧ i = .int .i64 k ∧ l = .int .i64 r ∧ 0 ≤ r ∧ r ≤ 1048576 ∧ Hid (szRowsF xss left = szRowsGo (xss.drop k) r)) (fun _ i => n - (intOf i).toNat)
    case atStart => exact ⟨0, left - n, by omega, rfl, rfl, by omega, by omega, hF⟩
    case round =>
      obtain ⟨k, r, hk, rfl, rfl, hr0, hr1, hr⟩ := hrel
      by_cases hlt : k < n
      · obtain ⟨ad, B, m, d, xs, rfl, hc, hi, hd, hx⟩ := h.at_ hlt
        have hmm := hi.max
        have hml := hi.len
        have hcm := hi.cap
        by_cases hlt2 : r - m < 0
        · have hF2 : szF m r = -1 := if_pos hlt2
          have hG : Hid (szRowsF xss left = -1) := by
            show _ = _
            rw [hr.out, hd.out, szRowsGo, hml, if_pos hlt2]
          clear hml
          go_wp2_with fail
          refine (laws_szIntS B m d r w (by omega) hr0 hr1).mono ?_
          rintro e w' ⟨rfl, rfl⟩
          rw [hF2]
          go_wp2_with fail
          go_ret
          exact ⟨ret_int hG.out.symm, rfl⟩
        · have hF2 : szF m r = r - m := if_neg hlt2
          have hG : Hid (szRowsF xss left = szRowsGo (xss.drop (k + 1)) (r - m)) := by
            show _ = _
            rw [hr.out, hd.out, szRowsGo, hml, if_neg hlt2]
          clear hml
          go_wp2_with fail
          refine (laws_szIntS B m d r w (by omega) hr0 hr1).mono ?_
          rintro e w' ⟨rfl, rfl⟩
          rw [hF2]
          go_wp2_with fail
          go_round
          case rel => exact ⟨k + 1, r - m, by omega, by go_num, rfl, by omega, by omega, hG⟩
          case measure => simp [intOf]; omega
      · obtain rfl : k = n := by omega
        have e := h.drop_end
        have hG : Hid (szRowsF xss left = r) := by show _ = _; rw [hr.out, e.out, szRowsGo]
        go_wp2_with fail
        go_ret
        exact ⟨ret_int hG.out.symm, rfl⟩

theorem take_snoc2 {α : Type} {xs ys : List α} {k : Nat} {x : α} (h : xs.take k = ys.take k) (hx : xs[k]? = some x) (hy : ys[k]? = some x) : xs.take (k+1) = ys.take (k+1) := by
  rw [List.take_add_one, List.take_add_one, h, hx, hy]

set_option maxHeartbeats 400000 in
theorem laws_eqIntSS (A : Option Addr) (n c : Nat) (xs : List (List Int)) (lo hi : Nat) (B : Option Addr) (m d : Nat) (ys : List (List Int)) (lo' hi' : Nat) (w : World) (h : Ints2 w lo hi A n c xs) (g : Ints2 w lo' hi' B m d ys) :
    Calls Tryz.prog 11 #[.slice A n c, .slice B m d] w fun e w' => e = .returned (.bool (decide (xs = ys))) ∧ ∃ q, w' = w.drewN q := by
  have hcp := h.cap
  have hm := h.max
  have gcp := g.cap
  have gm := g.max
  by_cases hnm : n = m
  · subst hnm
    go_enter Tryz.func11, Tryz.ntmps11
    go_wp2_with fail
    go_loopw [5] (fun i wr => ∃ (k q : Nat), k ≤ n ∧ i = .int .i64 k ∧ wr = w.drewN q ∧ Hid (xs.take k = ys.take k)) (fun i _ => n - (intOf i).toNat)
    case atStart => exact ⟨0, 0, by omega, rfl, rfl, rfl⟩
    case round =>
      obtain ⟨k, q, hk, rfl, rfl, hr⟩ := hrel
      by_cases hlt : k < n
      · obtain ⟨ad, A1, n1, c1, x, rfl, hc, hi1, _, hx⟩ := h.at_ hlt
        obtain ⟨ae, B1, m1, d1, y, rfl, hd, hi2, _, hy⟩ := g.at_ hlt
        have hE := fun W (hW : ∃ q, W = w.drewN q) => (laws_eqIntS A1 n1 c1 x _ _ B1 m1 d1 y _ _ W (by obtain ⟨q, rfl⟩ := hW; exact hi1.same (fun _ _ _ => rfl)) (by obtain ⟨q, rfl⟩ := hW; exact hi2.same (fun _ _ _ => rfl)))
        by_cases hxy : x = y
        · subst hxy
          rw [decide_eq_true rfl] at hE
          have HE := hide hE
          clear hE
          go_wp2_with fail
          go_quiet ((go_at_call 13; first | exact Calls.quiet_of (HE.out _ ⟨_, rfl⟩) | exact quiet_add (HE.out _ ⟨_, rfl⟩)))
          go_wp2_with fail
          go_roundw
          case rel => exact ⟨k + 1, _, by omega, by go_num, rfl, take_snoc2 hr.out hx.out hy.out⟩
          case measure => simp [intOf]; omega
        · have hF : Hid (¬ xs = ys) := fun e => by
            have h1 := hx.out
            rw [e, hy.out] at h1
            exact hxy (by injection h1 with h1; exact h1.symm)
          rw [decide_eq_false hxy] at hE
          have HE := hide hE
          clear hE hxy
          go_wp2_with fail
          go_quiet ((go_at_call 13; first | exact Calls.quiet_of (HE.out _ ⟨_, rfl⟩) | exact quiet_add (HE.out _ ⟨_, rfl⟩)))
          go_wp2_with fail
          go_ret
          exact ⟨ret_bool (by simpa using hF.out), _, World.drewN_drewN _ _ _⟩
      · obtain rfl : k = n := by omega
        go_wp2_with fail
        go_ret
        refine ⟨ret_bool ?_, _, rfl⟩
        have h1 := hr.out
        have h2 := h.len
        have h3 := g.len
        rw [List.take_of_length_le (by omega), List.take_of_length_le (by omega)] at h1
        simpa using h1
  · have hne : ((n : Int) != (m : Int)) = true := by simpa using (by omega : ¬ (n : Int) = m)
    have hF : Hid (¬ xs = ys) := fun e => hnm (by rw [← h.len, ← g.len, e])
    clear hnm
    go_enter Tryz.func11, Tryz.ntmps11
    go_wp2_with fail
    go_ret
    exact ⟨ret_bool (by simpa using hF.out), 0, rfl⟩

theorem info_ints : (Tryz.prog.info? 25).map (fun i => (i.zero, i.size, i.bytes)) = some (some (.slice none 0 0), 1, 24) := by kernel_rfl

end Go.Proofs.YtjpldapkdfafgaaGreatDoor
/- Tableaus and pairs of them: the statements' helpers, TableauOk and PairOk of both texts. -/
namespace Go.Proofs.YtjpldapkdfafgaaGreatDoor
open Go.RowKit
set_option linter.unusedSimpArgs false
set_option linter.unusedVariables false
set_option maxRecDepth 20000

/-- A block of cells, whole. -/
structure BlkN (w : World) (g : Nat) (vs : Array Value) : Prop where
  h : ∃ T, w.heap[g]? = some (.cells vs T (0, 0))
section
variable {w w' : World} {g lo hi : Nat} {vs : Array Value}
theorem BlkN.lt (h : BlkN w g vs) : g < w.heap.size := by
  obtain ⟨T, h⟩ := h.h
  exact (Array.getElem?_eq_some_iff.1 h).1
theorem BlkN.c (h : BlkN w g vs) (i : Nat) {v : Value} (hv : vs[i]? = some v) : w.cell? ⟨g, i, none⟩ = some v := by
  obtain ⟨T, h⟩ := h.h
  rw [cell_of_row w g i vs T (0, 0) h]; exact hv
theorem BlkN.f (h : BlkN w g vs) (i : Nat) : w.frozen? ⟨g, i, none⟩ = false := by
  obtain ⟨T, h⟩ := h.h
  exact frozen_of_row w g i vs T h
theorem BlkN.new (w : World) (vs : Array Value) (T : TypeId) : BlkN (w.alloc (.cells vs T)) w.heap.size vs := ⟨T, heap_alloc_new w _⟩
theorem BlkN.same (h : BlkN w g vs) (hs : w'.heap[g]? = w.heap[g]?) : BlkN w' g vs := by
  obtain ⟨T, h⟩ := h.h
  exact ⟨T, hs.trans h⟩
theorem BlkN.below (h : BlkN w g vs) (hb : Below w.heap.size w w') : BlkN w' g vs := h.same (hb.block g h.lt)
theorem BlkN.drew (h : BlkN w g vs) : BlkN w.drew g vs := h.same rfl
theorem BlkN.touch (h : BlkN w g vs) (ht : Touch lo hi w w') (hd : g < lo ∨ hi ≤ g) : BlkN w' g vs := h.same (ht.block g h.lt hd)
theorem BlkN.alloc (h : BlkN w g vs) (o : Obj) : BlkN (w.alloc o) g vs := h.same (Below.heap_alloc _ _ _ h.lt)
theorem BlkN.set (h : BlkN w g vs) (i : Nat) (x : Value) : BlkN (w.setCell ⟨g, i, none⟩ x) g (vs.setIfInBounds i x) := by
  obtain ⟨T, hh⟩ := h.h
  exact ⟨T, by simp [World.setCell, Array.getElem?_modify, hh]⟩
theorem BlkN.far (h : BlkN w g vs) {b i : Nat} (hne : g ≠ b) (x : Value) : BlkN (w.setCell ⟨b, i, none⟩ x) g vs := h.same (Below.heap_setCell _ ⟨b, i, none⟩ _ g hne)
end

end Go.Proofs.YtjpldapkdfafgaaGreatDoor
