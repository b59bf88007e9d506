/- The walks of the statements' own helpers on slices of integers: a copy, a comparison, a mark, a look at the marks, a count. -/
import Derived.Test.YtfijcieponfcpaaGreatDoorNum
namespace Go.Proofs.YtfijcieponfcpaaGreatDoor
open Go.RowKit
set_option linter.unusedSimpArgs false
set_option linter.unusedVariables false
set_option maxRecDepth 20000

theorem take_set_step {ys xs : List Int} {k : Nat} {x : Int} (h : ys.take k = xs.take k) (hk : k < ys.length) (hx : xs[k]? = some x) : (ys.set k x).take (k+1) = xs.take (k+1) := by
  have h1 : (ys.set k x).take k = xs.take k := by rw [List.take_set_of_le (Nat.le_refl _), h]
  rw [List.take_add_one, List.take_add_one, h1, hx, List.getElem?_set_self hk]

theorem take_snoc_eq {xs ys : List Int} {k : Nat} {x : Int} (h : xs.take k = ys.take k) (hx : xs[k]? = some x) (hy : ys[k]? = some x) : xs.take (k+1) = ys.take (k+1) := by
  rw [List.take_add_one, List.take_add_one, h, hx, hy]

set_option maxHeartbeats 400000 in
theorem laws_eqIntS (A : Option Addr) (n c : Nat) (xs : List Int) (lo hi : Nat) (B : Option Addr) (m d : Nat) (ys : List Int) (lo' hi' : Nat) (w : World) (h : Ints w lo hi A n c xs) (g : Ints w lo' hi' B m d ys) :
    Calls Tryz.prog 43 #[.slice A n c, .slice B m d] w fun e w' => e = .returned (.bool (decide (xs = ys))) ∧ ∃ q, w' = w.drewN q := by
  have hcp := h.cap
  have hm := h.max
  have gcp := g.cap
  have gm := g.max
  by_cases hnm : n = m
  · subst hnm
    go_enter Tryz.func43, Tryz.ntmps43
    go_wp2
    go_loopw [5] (fun i wr => ∃ (k q : Nat), k ≤ n ∧ i = .int .i64 k ∧ wr = w.drewN q ∧ Hid (xs.take k = ys.take k)) (fun i _ => n - (intOf i).toNat)
    case atStart => exact ⟨0, 0, by omega, rfl, rfl, rfl⟩
    case round =>
      obtain ⟨k, q, hk, rfl, rfl, hr⟩ := hrel
      by_cases hlt : k < n
      · obtain ⟨ad, x, rfl, hc, _, _, hx⟩ := h.at_ hlt
        obtain ⟨ae, y, rfl, hd, _, _, hy⟩ := g.at_ hlt
        by_cases hxy : x = y
        · subst hxy
          go_wp2
          go_quiet (fail)
          go_wp2
          go_roundw
          case rel => exact ⟨k + 1, _, by omega, by go_num, rfl, take_snoc_eq hr.out hx.out hy.out⟩
          case measure => simp [intOf]; omega
        · have hne : (x != y) = true := by simpa using hxy
          have hF : Hid (¬ xs = ys) := fun e => by
            have h1 := hx.out
            rw [e, hy.out] at h1
            exact hxy (by injection h1 with h1; exact h1.symm)
          clear hxy
          go_wp2
          go_quiet (fail)
          go_wp2
          go_ret
          exact ⟨ret_bool (by simpa using hF.out), _, World.drewN_drewN _ _ _⟩
      · obtain rfl : k = n := by omega
        go_wp2
        go_ret
        refine ⟨ret_bool ?_, _, rfl⟩
        have h1 := hr.out
        have h2 := h.len
        have h3 := g.len
        rw [List.take_of_length_le (by omega), List.take_of_length_le (by omega)] at h1
        simpa using h1
  · have hne : ((n : Int) != (m : Int)) = true := by simpa using (by omega : ¬ (n : Int) = m)
    have hF : Hid (¬ xs = ys) := fun e => hnm (by rw [← h.len, ← g.len, e])
    clear hnm
    go_enter Tryz.func43, Tryz.ntmps43
    go_wp2
    go_ret
    exact ⟨ret_bool (by simpa using hF.out), 0, rfl⟩

def marks (k : Int) (n : Nat) : List Int := (List.range n).map (fun i : Nat => k + (i : Int))
theorem marks_len (k : Int) (n : Nat) : (marks k n).length = n := by simp [marks]
theorem marks_at {k : Int} {n j : Nat} (h : j < n) : (marks k n)[j]? = some (k + j) := by simp [marks, h]
theorem marks_rng {k : Int} {n : Nat} (h0 : 0 ≤ k) (h1 : k + n ≤ 4611686018427387904) : ∀ x ∈ marks k n, R64 x := by
  intro x hx
  simp only [marks, List.mem_map, List.mem_range] at hx
  obtain ⟨i, hi, rfl⟩ := hx
  constructor <;> omega

set_option maxHeartbeats 400000 in
theorem laws_markIntS (A : Option Addr) (n c : Nat) (xs : List Int) (lo hi : Nat) (k0 : Int) (w : World) (h : OwnI w lo hi A n c xs) (hk0 : 0 ≤ k0) (hk1 : k0 + n ≤ 4611686018427387904) :
    Calls Tryz.prog 44 #[.slice A n c, .int .i64 k0] w fun e w' => e = .returned (.int .i64 (k0 + n)) ∧ OwnI w' lo hi A n c (marks k0 n) ∧ Touch lo hi w w' ∧ w'.heap.size = w.heap.size := by
  have hcp := h.cap
  have hm := h.max
  have hrng := hide h.rng
  go_enter Tryz.func44, Tryz.ntmps44
  go_wp2
  go_loopw [1, 5] (fun q i wr => ∃ (k : Nat) (ys : List Int), k ≤ n ∧ i = .int .i64 k ∧ q = .int .i64 (k0 + k) ∧ wr.ownsRow lo 3 1 (.slice A n c) n (ys.map (Value.int .i64)) ∧ Touch lo hi w wr ∧ Hid (wr.heap.size = w.heap.size) ∧ Hid (ys.length = n ∧ ys.take k = (marks k0 n).take k))
    (fun _ i _ => n - (intOf i).toNat)
  case atStart => exact ⟨0, xs, by omega, rfl, by simp, h.own, .refl _ _ _, rfl, h.len, by simp⟩
  case round =>
    obtain ⟨k, ys, hk, rfl, rfl, hown', hb', hs', hys⟩ := hrel
    by_cases hlt : k < n
    · obtain ⟨g, rfl, hg1, hg2, hg3⟩ := h.form (by omega)
      have hc2 : wr.cell? ⟨g, k, none⟩ = some (.int .i64 (ys.getD k 0)) := by
        rw [hown'.cellAt k (by omega)]
        have := hys.out.1
        simp [List.getD, show k < ys.length by omega]
      have hf2 := hown'.frozenAt k
      have hst := hown'.stored k (.int .i64 (k0 + k))
      have hb2 : Touch lo hi w (wr.setCell ⟨g, k, none⟩ (.int .i64 (k0 + k))) := hb'.setCell (.inl ⟨hg1, hg2⟩) _
      have hs2 : (wr.setCell ⟨g, k, none⟩ (.int .i64 (k0 + k))).heap.size = w.heap.size := by simpa [World.setCell] using hs'.out
      have hrel' : Hid ((ys.set k (k0 + k)).length = n ∧ (ys.set k (k0 + k)).take (k+1) = (marks k0 n).take (k+1)) :=
        ⟨by simpa using hys.out.1, take_set_step hys.out.2 (by have := hys.out.1; omega) (marks_at hlt)⟩
      have HS := hide (And.intro hst.1 (And.intro hb2 hs2))
      clear hst hb2 hs2 hown' hb' hs'
      go_wp2
      go_roundw
      case rel => exact ⟨k + 1, ys.set k (k0 + k), by omega, by go_num, by go_num, by simpa [List.map_set] using HS.out.1, HS.out.2.1, HS.out.2.2, hrel'⟩
      case measure => simp [intOf]; omega
    · obtain rfl : k = n := by omega
      go_wp2
      go_ret
      have e : ys = marks k0 k := by
        have h1 := hys.out
        have h2 := marks_len k0 k
        rw [List.take_of_length_le (by omega), List.take_of_length_le (by omega)] at h1
        exact h1.2
      subst e
      exact ⟨rfl, ⟨hown', h.lt, marks_rng hk0 hk1⟩, hb', hs'.out⟩

set_option maxHeartbeats 400000 in
theorem laws_heldIntS (A : Option Addr) (n c : Nat) (lo hi : Nat) (k0 : Int) (w : World) (h : Ints w lo hi A n c (marks k0 n)) (hk0 : 0 ≤ k0) (hk1 : k0 + n ≤ 4611686018427387904) :
    Calls Tryz.prog 45 #[.slice A n c, .int .i64 k0] w fun e w' => e = .returned (.int .i64 (k0 + n)) ∧ w = w' := by
  have hcp := h.cap
  have hm := h.max
  go_enter Tryz.func45, Tryz.ntmps45
  go_wp2
  go_loop [1, 5] (fun q i => ∃ (k : Nat), k ≤ n ∧ i = .int .i64 k ∧ q = .int .i64 (k0 + k)) (fun _ i => n - (intOf i).toNat)
  case atStart => exact ⟨0, by omega, rfl, by simp⟩
  case round =>
    obtain ⟨k, hk, rfl, rfl⟩ := hrel
    by_cases hlt : k < n
    · obtain ⟨ad, x, rfl, hc, _, _, hx⟩ := h.at_ hlt
      have hx' := hx.out
      rw [marks_at hlt] at hx'
      obtain rfl : k0 + k = x := by injection hx'
      clear hx'
      go_wp2
      go_round
      case rel => exact ⟨k + 1, by omega, by go_num, by go_num⟩
      case measure => simp [intOf]; omega
    · obtain rfl : k = n := by omega
      go_wp2
      go_ret
      exact ⟨rfl, rfl⟩

def szF (n : Nat) (left : Int) : Int := if left - n < 0 then -1 else left - n
def allNumF : List Int → Bool
  | [] => true
  | x :: r => if isNumF x then allNumF r else false
theorem allNumF_mem {xs : List Int} (h : allNumF xs = true) : ∀ x ∈ xs, 0 ≤ x ∧ x < 1000000271 := by
  induction xs with
  | nil => simp
  | cons x r ih =>
    rw [allNumF] at h
    split at h
    · rename_i hx
      intro y hy
      rcases List.mem_cons.1 hy with rfl | hy
      · exact (isNumF_iff _).1 hx
      · exact ih h y hy
    · cases h
theorem allNumF_of {xs : List Int} (h : ∀ x ∈ xs, 0 ≤ x ∧ x < 1000000271) : allNumF xs = true := by
  induction xs with
  | nil => rfl
  | cons x r ih => rw [allNumF, if_pos ((isNumF_iff _).2 (h x (by simp))), ih fun y hy => h y (by simp [hy])]

set_option maxHeartbeats 400000 in
theorem spec_l1All (A : Option Addr) (n c : Nat) (xs : List Int) (lo hi : Nat) (w : World) (h : Ints w lo hi A n c xs) :
    Calls Tryz.prog 54 #[.slice A n c] w fun e w' => e = .returned (.bool (allNumF xs)) ∧ w = w' := by
  have hm := h.max
  have hcp := h.cap
  go_enter Tryz.func54, Tryz.ntmps54
  go_wp2_with fail
  go_loop [3] (fun i => ∃ (k : Nat), k ≤ n ∧ i = .int .i64 k ∧ Hid (allNumF xs = allNumF (xs.drop k))) (fun i => n - (intOf i).toNat)
  case atStart => exact ⟨0, by omega, rfl, rfl⟩
  case round =>
    obtain ⟨k, hk, rfl, hrel'⟩ := hrel
    by_cases hlt : k < n
    · obtain ⟨ad, x, rfl, hc, hr, hd, hx⟩ := h.at_ hlt
      clear hr
      by_cases hN : isNumF x = true
      · have hG : Hid (allNumF xs = allNumF (xs.drop (k+1))) := by
          show _ = _
          rw [hrel'.out, hd.out, allNumF, if_pos hN]
        go_wp2_with (go_at_call 78; refine (spec_IsNumber _ _).mono ?_; rintro e w' ⟨rfl, rfl⟩)
        go_round
        case rel => exact ⟨k + 1, by omega, by go_num, hG⟩
        case measure => simp [intOf]; omega
      · have hN' : isNumF x = false := by simpa using hN
        have hG : Hid (allNumF xs = false) := by
          show _ = _
          rw [hrel'.out, hd.out, allNumF, if_neg hN]
        clear hN
        go_wp2_with (go_at_call 78; refine (spec_IsNumber _ _).mono ?_; rintro e w' ⟨rfl, rfl⟩)
        go_ret
        exact ⟨ret_bool hG.out.symm, rfl⟩
    · obtain rfl : k = n := by omega
      have e := h.drop_end
      go_wp2_with fail
      go_ret
      exact ⟨ret_bool (by rw [hrel'.out, e.out, allNumF]), rfl⟩

set_option maxHeartbeats 400000 in
theorem impl_allNumbers (A : Option Addr) (n c : Nat) (xs : List Int) (lo hi : Nat) (w : World) (h : Ints w lo hi A n c xs) :
    Calls Tryz.prog 60 #[.slice A n c] w fun e w' => e = .returned (.bool (allNumF xs)) ∧ w = w' := by
  have hm := h.max
  have hcp := h.cap
  go_enter Tryz.func60, Tryz.ntmps60
  go_wp2_with fail
  go_loop [4, 7] (fun _ i => ∃ (k : Nat), k ≤ n ∧ i = .int .i64 k ∧ Hid (allNumF xs = allNumF (xs.drop k))) (fun _ i => n - (intOf i).toNat)
  case atStart => exact ⟨0, by omega, rfl, rfl⟩
  case round =>
    obtain ⟨k, hk, rfl, hrel'⟩ := hrel
    by_cases hlt : k < n
    · obtain ⟨ad, x, rfl, hc, hr, hd, hx⟩ := h.at_ hlt
      clear hr
      by_cases hN : isNumF x = true
      · have hG : Hid (allNumF xs = allNumF (xs.drop (k+1))) := by
          show _ = _
          rw [hrel'.out, hd.out, allNumF, if_pos hN]
        go_wp2_with (go_at_call 82; refine (impl_IsNumber _ _).mono ?_; rintro e w' ⟨rfl, rfl⟩)
        go_round
        case rel => exact ⟨k + 1, by omega, by go_num, hG⟩
        case measure => simp [intOf]; omega
      · have hN' : isNumF x = false := by simpa using hN
        have hG : Hid (allNumF xs = false) := by
          show _ = _
          rw [hrel'.out, hd.out, allNumF, if_neg hN]
        clear hN
        go_wp2_with (go_at_call 82; refine (impl_IsNumber _ _).mono ?_; rintro e w' ⟨rfl, rfl⟩)
        go_ret
        exact ⟨ret_bool hG.out.symm, rfl⟩
    · obtain rfl : k = n := by omega
      have e := h.drop_end
      go_wp2_with fail
      go_ret
      exact ⟨ret_bool (by rw [hrel'.out, e.out, allNumF]), rfl⟩
end Go.Proofs.YtfijcieponfcpaaGreatDoor
