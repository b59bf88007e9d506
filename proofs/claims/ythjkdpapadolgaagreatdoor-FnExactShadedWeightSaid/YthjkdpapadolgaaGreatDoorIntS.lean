/- The walks of the statements' own helpers on slices of integers: a copy, a comparison, a mark, a look at the marks, a count. -/
import Derived.Test.YthjkdpapadolgaaGreatDoorNum
namespace Go.Proofs.YthjkdpapadolgaaGreatDoor
open Go.RowKit
set_option linter.unusedSimpArgs false
set_option linter.unusedVariables false
set_option maxRecDepth 20000

theorem take_set_step {ys xs : List Int} {k : Nat} {x : Int} (h : ys.take k = xs.take k) (hk : k < ys.length) (hx : xs[k]? = some x) : (ys.set k x).take (k+1) = xs.take (k+1) := by
  have h1 : (ys.set k x).take k = xs.take k := by rw [List.take_set_of_le (Nat.le_refl _), h]
  rw [List.take_add_one, List.take_add_one, h1, hx, List.getElem?_set_self hk]

set_option maxHeartbeats 400000 in
theorem laws_toIntS (A : Option Addr) (n c : Nat) (xs : List Int) (lo hi : Nat) (w : World) (h : Ints w lo hi A n c xs) (hh : hi ≤ w.heap.size) (hn : n ≤ 1048576) :
    Calls Tryz.prog 30 #[.slice A n c] w fun e w' => ∃ A' c', e = .returned (.slice A' n c') ∧ OwnI w' w.heap.size w'.heap.size A' n c' xs ∧ Below w.heap.size w w' := by
  obtain ⟨i0, hi0, hz0, hz1, hz2⟩ := info_parts info_int
  have hcp := h.cap
  have hm := h.max
  go_enter Tryz.func30, Tryz.ntmps30
  go_wp2_with (at_make; refine wpList_make_full _ rfl _ _ 22 rfl w.heap.size 3 i0 (.int .i64 0) 1 Tryz.underlying22 hi0 hz0 hz1 .i64 .i64 n n n rfl rfl rfl rfl (by rw [hz2]; omega) (by unfold maxLen; omega) (Nat.le_refl _) ?_; intro w1 hown hg1)
  have hs1 : w.heap.size < w1.heap.size := (hown.lt w.heap.size rfl).2
  have hb1 : Below w.heap.size w w1 := (Below.refl _ _).grown hg1 (Nat.le_refl _) (by simp)
  clear hg1
  go_loopw [4] (fun i wr => ∃ (k : Nat) (ys : List Int), k ≤ n ∧ i = .int .i64 k ∧ wr.ownsRow w.heap.size 3 1 (.slice (some ⟨w.heap.size, 0, none⟩) n n) n (ys.map (Value.int .i64)) ∧ Below w.heap.size w wr ∧ w.heap.size < wr.heap.size ∧ Hid (ys.length = n ∧ ys.take k = xs.take k))
    (fun i _ => n - (intOf i).toNat)
  case atStart => exact ⟨0, List.replicate n 0, by omega, rfl, by rw [← made_int]; exact hown, hb1, hs1, by simp, by simp⟩
  case round =>
    obtain ⟨k, ys, hk, rfl, hown', hb', hs', hys⟩ := hrel
    by_cases hlt : k < n
    · obtain ⟨ad, x, rfl, hc, hr, _, hx⟩ := (h.below hb' hh).at_ hlt
      have hc2 : wr.cell? ⟨w.heap.size, k, none⟩ = some (.int .i64 (ys.getD k 0)) := by
        rw [hown'.cellAt k (by omega)]
        have := hys.out.1
        simp [List.getD, show k < ys.length by omega]
      have hf2 := hown'.frozenAt k
      have hst := hown'.stored k (.int .i64 x)
      have hb2 : Below w.heap.size w (wr.setCell ⟨w.heap.size, k, none⟩ (.int .i64 x)) := hb'.setCell (Nat.le_refl _) _
      have hs2 : w.heap.size < (wr.setCell ⟨w.heap.size, k, none⟩ (.int .i64 x)).heap.size := by simpa [World.setCell] using hs'
      have hrel' : Hid ((ys.set k x).length = n ∧ (ys.set k x).take (k+1) = xs.take (k+1)) :=
        ⟨by simpa using hys.out.1, take_set_step hys.out.2 (by have := hys.out.1; omega) hx.out⟩
      have HS := hide (And.intro hst.1 (And.intro hb2 hs2))
      clear hst hb2 hs2 hown' hb' hs' hr
      go_wp2
      go_roundw
      case rel => exact ⟨k + 1, ys.set k x, by omega, by go_num, by simpa [List.map_set] using HS.out.1, HS.out.2.1, HS.out.2.2, hrel'⟩
      case measure => simp [intOf]; omega
    · obtain rfl : k = n := by omega
      go_wp2
      go_ret
      have e : ys = xs := by
        have h1 := hys.out
        have h2 := h.len
        rw [List.take_of_length_le (by omega), List.take_of_length_le (by omega)] at h1
        exact h1.2
      subst e
      exact ⟨_, _, rfl, ⟨hown', fun ad e => by injection e with e; subst e; exact hs', h.rng⟩, hb'⟩

theorem take_snoc_eq {xs ys : List Int} {k : Nat} {x : Int} (h : xs.take k = ys.take k) (hx : xs[k]? = some x) (hy : ys[k]? = some x) : xs.take (k+1) = ys.take (k+1) := by
  rw [List.take_add_one, List.take_add_one, h, hx, hy]

set_option maxHeartbeats 400000 in
theorem laws_eqIntS (A : Option Addr) (n c : Nat) (xs : List Int) (lo hi : Nat) (B : Option Addr) (m d : Nat) (ys : List Int) (lo' hi' : Nat) (w : World) (h : Ints w lo hi A n c xs) (g : Ints w lo' hi' B m d ys) :
    Calls Tryz.prog 48 #[.slice A n c, .slice B m d] w fun e w' => e = .returned (.bool (decide (xs = ys))) ∧ ∃ q, w' = w.drewN q := by
  have hcp := h.cap
  have hm := h.max
  have gcp := g.cap
  have gm := g.max
  by_cases hnm : n = m
  · subst hnm
    go_enter Tryz.func48, Tryz.ntmps48
    go_wp2
    go_loopw [5] (fun i wr => ∃ (k q : Nat), k ≤ n ∧ i = .int .i64 k ∧ wr = w.drewN q ∧ Hid (xs.take k = ys.take k)) (fun i _ => n - (intOf i).toNat)
    case atStart => exact ⟨0, 0, by omega, rfl, rfl, rfl⟩
    case round =>
      obtain ⟨k, q, hk, rfl, rfl, hr⟩ := hrel
      by_cases hlt : k < n
      · obtain ⟨ad, x, rfl, hc, _, _, hx⟩ := h.at_ hlt
        obtain ⟨ae, y, rfl, hd, _, _, hy⟩ := g.at_ hlt
        by_cases hxy : x = y
        · subst hxy
          go_wp2
          go_quiet (fail)
          go_wp2
          go_roundw
          case rel => exact ⟨k + 1, _, by omega, by go_num, rfl, take_snoc_eq hr.out hx.out hy.out⟩
          case measure => simp [intOf]; omega
        · have hne : (x != y) = true := by simpa using hxy
          have hF : Hid (¬ xs = ys) := fun e => by
            have h1 := hx.out
            rw [e, hy.out] at h1
            exact hxy (by injection h1 with h1; exact h1.symm)
          clear hxy
          go_wp2
          go_quiet (fail)
          go_wp2
          go_ret
          exact ⟨ret_bool (by simpa using hF.out), _, World.drewN_drewN _ _ _⟩
      · obtain rfl : k = n := by omega
        go_wp2
        go_ret
        refine ⟨ret_bool ?_, _, rfl⟩
        have h1 := hr.out
        have h2 := h.len
        have h3 := g.len
        rw [List.take_of_length_le (by omega), List.take_of_length_le (by omega)] at h1
        simpa using h1
  · have hne : ((n : Int) != (m : Int)) = true := by simpa using (by omega : ¬ (n : Int) = m)
    have hF : Hid (¬ xs = ys) := fun e => hnm (by rw [← h.len, ← g.len, e])
    clear hnm
    go_enter Tryz.func48, Tryz.ntmps48
    go_wp2
    go_ret
    exact ⟨ret_bool (by simpa using hF.out), 0, rfl⟩

def marks (k : Int) (n : Nat) : List Int := (List.range n).map (fun i : Nat => k + (i : Int))
theorem marks_len (k : Int) (n : Nat) : (marks k n).length = n := by simp [marks]
theorem marks_at {k : Int} {n j : Nat} (h : j < n) : (marks k n)[j]? = some (k + j) := by simp [marks, h]
theorem marks_rng {k : Int} {n : Nat} (h0 : 0 ≤ k) (h1 : k + n ≤ 4611686018427387904) : ∀ x ∈ marks k n, R64 x := by
  intro x hx
  simp only [marks, List.mem_map, List.mem_range] at hx
  obtain ⟨i, hi, rfl⟩ := hx
  constructor <;> omega

def szF (n : Nat) (left : Int) : Int := if left - n < 0 then -1 else left - n
theorem laws_szIntS (A : Option Addr) (n c : Nat) (left : Int) (w : World) (hn : n ≤ 9223372036854775807) (h0 : 0 ≤ left) (h1 : left ≤ 1048576) :
    Calls Tryz.prog 21 #[.slice A n c, .int .i64 left] w fun e w' => e = .returned (.int .i64 (szF n left)) ∧ w = w' := by
  by_cases hlt : left - n < 0
  · have hF : Hid (szF n left = -1) := if_pos hlt
    go_enter Tryz.func21, Tryz.ntmps21
    go_wp2
    go_ret
    exact ⟨ret_int hF.out.symm, rfl⟩
  · have hF : Hid (szF n left = left - n) := if_neg hlt
    go_enter Tryz.func21, Tryz.ntmps21
    go_wp2
    go_ret
    exact ⟨ret_int hF.out.symm, rfl⟩

def allNumF : List Int → Bool
  | [] => true
  | x :: r => if isNumF x then allNumF r else false
theorem allNumF_mem {xs : List Int} (h : allNumF xs = true) : ∀ x ∈ xs, 0 ≤ x ∧ x < 1000000271 := by
  induction xs with
  | nil => simp
  | cons x r ih =>
    rw [allNumF] at h
    split at h
    · rename_i hx
      intro y hy
      rcases List.mem_cons.1 hy with rfl | hy
      · exact (isNumF_iff _).1 hx
      · exact ih h y hy
    · cases h
theorem allNumF_of {xs : List Int} (h : ∀ x ∈ xs, 0 ≤ x ∧ x < 1000000271) : allNumF xs = true := by
  induction xs with
  | nil => rfl
  | cons x r ih => rw [allNumF, if_pos ((isNumF_iff _).2 (h x (by simp))), ih fun y hy => h y (by simp [hy])]

set_option maxHeartbeats 400000 in
theorem spec_l1All (A : Option Addr) (n c : Nat) (xs : List Int) (lo hi : Nat) (w : World) (h : Ints w lo hi A n c xs) :
    Calls Tryz.prog 52 #[.slice A n c] w fun e w' => e = .returned (.bool (allNumF xs)) ∧ w = w' := by
  have hm := h.max
  have hcp := h.cap
  go_enter Tryz.func52, Tryz.ntmps52
  go_wp2_with fail
  go_loop [3] (fun i => ∃ (k : Nat), k ≤ n ∧ i = .int .i64 k ∧ Hid (allNumF xs = allNumF (xs.drop k))) (fun i => n - (intOf i).toNat)
  case atStart => exact ⟨0, by omega, rfl, rfl⟩
  case round =>
    obtain ⟨k, hk, rfl, hrel'⟩ := hrel
    by_cases hlt : k < n
    · obtain ⟨ad, x, rfl, hc, hr, hd, hx⟩ := h.at_ hlt
      clear hr
      by_cases hN : isNumF x = true
      · have hG : Hid (allNumF xs = allNumF (xs.drop (k+1))) := by
          show _ = _
          rw [hrel'.out, hd.out, allNumF, if_pos hN]
        go_wp2_with (go_at_call 68; refine (spec_IsNumber _ _).mono ?_; rintro e w' ⟨rfl, rfl⟩)
        go_round
        case rel => exact ⟨k + 1, by omega, by go_num, hG⟩
        case measure => simp [intOf]; omega
      · have hN' : isNumF x = false := by simpa using hN
        have hG : Hid (allNumF xs = false) := by
          show _ = _
          rw [hrel'.out, hd.out, allNumF, if_neg hN]
        clear hN
        go_wp2_with (go_at_call 68; refine (spec_IsNumber _ _).mono ?_; rintro e w' ⟨rfl, rfl⟩)
        go_ret
        exact ⟨ret_bool hG.out.symm, rfl⟩
    · obtain rfl : k = n := by omega
      have e := h.drop_end
      go_wp2_with fail
      go_ret
      exact ⟨ret_bool (by rw [hrel'.out, e.out, allNumF]), rfl⟩

set_option maxHeartbeats 400000 in
theorem impl_allNumbers (A : Option Addr) (n c : Nat) (xs : List Int) (lo hi : Nat) (w : World) (h : Ints w lo hi A n c xs) :
    Calls Tryz.prog 54 #[.slice A n c] w fun e w' => e = .returned (.bool (allNumF xs)) ∧ w = w' := by
  have hm := h.max
  have hcp := h.cap
  go_enter Tryz.func54, Tryz.ntmps54
  go_wp2_with fail
  go_loop [4, 7] (fun _ i => ∃ (k : Nat), k ≤ n ∧ i = .int .i64 k ∧ Hid (allNumF xs = allNumF (xs.drop k))) (fun _ i => n - (intOf i).toNat)
  case atStart => exact ⟨0, by omega, rfl, rfl⟩
  case round =>
    obtain ⟨k, hk, rfl, hrel'⟩ := hrel
    by_cases hlt : k < n
    · obtain ⟨ad, x, rfl, hc, hr, hd, hx⟩ := h.at_ hlt
      clear hr
      by_cases hN : isNumF x = true
      · have hG : Hid (allNumF xs = allNumF (xs.drop (k+1))) := by
          show _ = _
          rw [hrel'.out, hd.out, allNumF, if_pos hN]
        go_wp2_with (go_at_call 69; refine (impl_IsNumber _ _).mono ?_; rintro e w' ⟨rfl, rfl⟩)
        go_round
        case rel => exact ⟨k + 1, by omega, by go_num, hG⟩
        case measure => simp [intOf]; omega
      · have hN' : isNumF x = false := by simpa using hN
        have hG : Hid (allNumF xs = false) := by
          show _ = _
          rw [hrel'.out, hd.out, allNumF, if_neg hN]
        clear hN
        go_wp2_with (go_at_call 69; refine (impl_IsNumber _ _).mono ?_; rintro e w' ⟨rfl, rfl⟩)
        go_ret
        exact ⟨ret_bool hG.out.symm, rfl⟩
    · obtain rfl : k = n := by omega
      have e := h.drop_end
      go_wp2_with fail
      go_ret
      exact ⟨ret_bool (by rw [hrel'.out, e.out, allNumF]), rfl⟩
end Go.Proofs.YthjkdpapadolgaaGreatDoor
