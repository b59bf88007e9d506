/- The walks of the statements' own helpers on slices of integers: a copy, a comparison, a mark, a look at the marks, a count. -/
import Derived.Test.YtjpldapkdfafgaaGreatDoorMzA
import Derived.Maps.AppendAt
namespace Go.Proofs.YtjpldapkdfafgaaGreatDoor
open Go.RowKit
set_option linter.unusedSimpArgs false
set_option linter.unusedVariables false
set_option maxRecDepth 20000

theorem take_set_step {ys xs : List Int} {k : Nat} {x : Int} (h : ys.take k = xs.take k) (hk : k < ys.length) (hx : xs[k]? = some x) : (ys.set k x).take (k+1) = xs.take (k+1) := by
  have h1 : (ys.set k x).take k = xs.take k := by rw [List.take_set_of_le (Nat.le_refl _), h]
  rw [List.take_add_one, List.take_add_one, h1, hx, List.getElem?_set_self hk]

set_option maxHeartbeats 400000 in
theorem laws_toIntS (A : Option Addr) (n c : Nat) (xs : List Int) (lo hi : Nat) (w : World) (h : Ints w lo hi A n c xs) (hh : hi ≤ w.heap.size) (hn : n ≤ 1048576) :
    Calls Tryz.prog 8 #[.slice A n c] w fun e w' => ∃ A' c', e = .returned (.slice A' n c') ∧ OwnI w' w.heap.size w'.heap.size A' n c' xs ∧ Below w.heap.size w w' := by
  obtain ⟨i0, hi0, hz0, hz1, hz2⟩ := info_parts info_int
  have hcp := h.cap
  have hm := h.max
  go_enter Tryz.func8, Tryz.ntmps8
  go_wp2_with (at_make; refine wpList_make_full _ rfl _ _ 25 rfl w.heap.size 3 i0 (.int .i64 0) 1 Tryz.underlying25 hi0 hz0 hz1 .i64 .i64 n n n rfl rfl rfl rfl (by rw [hz2]; omega) (by unfold maxLen; omega) (Nat.le_refl _) ?_; intro w1 hown hg1)
  have hs1 : w.heap.size < w1.heap.size := (hown.lt w.heap.size rfl).2
  have hb1 : Below w.heap.size w w1 := (Below.refl _ _).grown hg1 (Nat.le_refl _) (by simp)
  clear hg1
  go_loopw [4] (fun i wr => ∃ (k : Nat) (ys : List Int), k ≤ n ∧ i = .int .i64 k ∧ wr.ownsRow w.heap.size 3 1 (.slice (some ⟨w.heap.size, 0, none⟩) n n) n (ys.map (Value.int .i64)) ∧ Below w.heap.size w wr ∧ w.heap.size < wr.heap.size ∧ Hid (ys.length = n ∧ ys.take k = xs.take k))
    (fun i _ => n - (intOf i).toNat)
  case atStart => exact ⟨0, List.replicate n 0, by omega, rfl, by rw [← made_int]; exact hown, hb1, hs1, by simp, by simp⟩
  case round =>
    obtain ⟨k, ys, hk, rfl, hown', hb', hs', hys⟩ := hrel
    by_cases hlt : k < n
    · obtain ⟨ad, x, rfl, hc, hr, _, hx⟩ := (h.below hb' hh).at_ hlt
      have hc2 : wr.cell? ⟨w.heap.size, k, none⟩ = some (.int .i64 (ys.getD k 0)) := by
        rw [hown'.cellAt k (by omega)]
        have := hys.out.1
        simp [List.getD, show k < ys.length by omega]
      have hf2 := hown'.frozenAt k
      have hst := hown'.stored k (.int .i64 x)
      have hb2 : Below w.heap.size w (wr.setCell ⟨w.heap.size, k, none⟩ (.int .i64 x)) := hb'.setCell (Nat.le_refl _) _
      have hs2 : w.heap.size < (wr.setCell ⟨w.heap.size, k, none⟩ (.int .i64 x)).heap.size := by simpa [World.setCell] using hs'
      have hrel' : Hid ((ys.set k x).length = n ∧ (ys.set k x).take (k+1) = xs.take (k+1)) :=
        ⟨by simpa using hys.out.1, take_set_step hys.out.2 (by have := hys.out.1; omega) hx.out⟩
      have HS := hide (And.intro hst.1 (And.intro hb2 hs2))
      clear hst hb2 hs2 hown' hb' hs' hr
      go_wp2
      go_roundw
      case rel => exact ⟨k + 1, ys.set k x, by omega, by go_num, by simpa [List.map_set] using HS.out.1, HS.out.2.1, HS.out.2.2, hrel'⟩
      case measure => simp [intOf]; omega
    · obtain rfl : k = n := by omega
      go_wp2
      go_ret
      have e : ys = xs := by
        have h1 := hys.out
        have h2 := h.len
        rw [List.take_of_length_le (by omega), List.take_of_length_le (by omega)] at h1
        exact h1.2
      subst e
      exact ⟨_, _, rfl, ⟨hown', fun ad e => by injection e with e; subst e; exact hs', h.rng⟩, hb'⟩

theorem take_snoc_eq {xs ys : List Int} {k : Nat} {x : Int} (h : xs.take k = ys.take k) (hx : xs[k]? = some x) (hy : ys[k]? = some x) : xs.take (k+1) = ys.take (k+1) := by
  rw [List.take_add_one, List.take_add_one, h, hx, hy]

set_option maxHeartbeats 400000 in
theorem laws_eqIntS (A : Option Addr) (n c : Nat) (xs : List Int) (lo hi : Nat) (B : Option Addr) (m d : Nat) (ys : List Int) (lo' hi' : Nat) (w : World) (h : Ints w lo hi A n c xs) (g : Ints w lo' hi' B m d ys) :
    Calls Tryz.prog 13 #[.slice A n c, .slice B m d] w fun e w' => e = .returned (.bool (decide (xs = ys))) ∧ ∃ q, w' = w.drewN q := by
  have hcp := h.cap
  have hm := h.max
  have gcp := g.cap
  have gm := g.max
  by_cases hnm : n = m
  · subst hnm
    go_enter Tryz.func13, Tryz.ntmps13
    go_wp2
    go_loopw [5] (fun i wr => ∃ (k q : Nat), k ≤ n ∧ i = .int .i64 k ∧ wr = w.drewN q ∧ Hid (xs.take k = ys.take k)) (fun i _ => n - (intOf i).toNat)
    case atStart => exact ⟨0, 0, by omega, rfl, rfl, rfl⟩
    case round =>
      obtain ⟨k, q, hk, rfl, rfl, hr⟩ := hrel
      by_cases hlt : k < n
      · obtain ⟨ad, x, rfl, hc, _, _, hx⟩ := h.at_ hlt
        obtain ⟨ae, y, rfl, hd, _, _, hy⟩ := g.at_ hlt
        by_cases hxy : x = y
        · subst hxy
          go_wp2
          go_quiet (fail)
          go_wp2
          go_roundw
          case rel => exact ⟨k + 1, _, by omega, by go_num, rfl, take_snoc_eq hr.out hx.out hy.out⟩
          case measure => simp [intOf]; omega
        · have hne : (x != y) = true := by simpa using hxy
          have hF : Hid (¬ xs = ys) := fun e => by
            have h1 := hx.out
            rw [e, hy.out] at h1
            exact hxy (by injection h1 with h1; exact h1.symm)
          clear hxy
          go_wp2
          go_quiet (fail)
          go_wp2
          go_ret
          exact ⟨ret_bool (by simpa using hF.out), _, World.drewN_drewN _ _ _⟩
      · obtain rfl : k = n := by omega
        go_wp2
        go_ret
        refine ⟨ret_bool ?_, _, rfl⟩
        have h1 := hr.out
        have h2 := h.len
        have h3 := g.len
        rw [List.take_of_length_le (by omega), List.take_of_length_le (by omega)] at h1
        simpa using h1
  · have hne : ((n : Int) != (m : Int)) = true := by simpa using (by omega : ¬ (n : Int) = m)
    have hF : Hid (¬ xs = ys) := fun e => hnm (by rw [← h.len, ← g.len, e])
    clear hnm
    go_enter Tryz.func13, Tryz.ntmps13
    go_wp2
    go_ret
    exact ⟨ret_bool (by simpa using hF.out), 0, rfl⟩

def marks (k : Int) (n : Nat) : List Int := (List.range n).map (fun i : Nat => k + (i : Int))
theorem marks_len (k : Int) (n : Nat) : (marks k n).length = n := by simp [marks]
theorem marks_at {k : Int} {n j : Nat} (h : j < n) : (marks k n)[j]? = some (k + j) := by simp [marks, h]
theorem marks_rng {k : Int} {n : Nat} (h0 : 0 ≤ k) (h1 : k + n ≤ 4611686018427387904) : ∀ x ∈ marks k n, R64 x := by
  intro x hx
  simp only [marks, List.mem_map, List.mem_range] at hx
  obtain ⟨i, hi, rfl⟩ := hx
  constructor <;> omega

set_option maxHeartbeats 400000 in
theorem laws_markIntS (A : Option Addr) (n c : Nat) (xs : List Int) (lo hi : Nat) (k0 : Int) (w : World) (h : OwnI w lo hi A n c xs) (hk0 : 0 ≤ k0) (hk1 : k0 + n ≤ 4611686018427387904) :
    Calls Tryz.prog 15 #[.slice A n c, .int .i64 k0] w fun e w' => e = .returned (.int .i64 (k0 + n)) ∧ OwnI w' lo hi A n c (marks k0 n) ∧ Touch lo hi w w' ∧ w'.heap.size = w.heap.size := by
  have hcp := h.cap
  have hm := h.max
  have hrng := hide h.rng
  go_enter Tryz.func15, Tryz.ntmps15
  go_wp2
  go_loopw [1, 5] (fun q i wr => ∃ (k : Nat) (ys : List Int), k ≤ n ∧ i = .int .i64 k ∧ q = .int .i64 (k0 + k) ∧ wr.ownsRow lo 3 1 (.slice A n c) n (ys.map (Value.int .i64)) ∧ Touch lo hi w wr ∧ Hid (wr.heap.size = w.heap.size) ∧ Hid (ys.length = n ∧ ys.take k = (marks k0 n).take k))
    (fun _ i _ => n - (intOf i).toNat)
  case atStart => exact ⟨0, xs, by omega, rfl, by simp, h.own, .refl _ _ _, rfl, h.len, by simp⟩
  case round =>
    obtain ⟨k, ys, hk, rfl, rfl, hown', hb', hs', hys⟩ := hrel
    by_cases hlt : k < n
    · obtain ⟨g, rfl, hg1, hg2, hg3⟩ := h.form (by omega)
      have hc2 : wr.cell? ⟨g, k, none⟩ = some (.int .i64 (ys.getD k 0)) := by
        rw [hown'.cellAt k (by omega)]
        have := hys.out.1
        simp [List.getD, show k < ys.length by omega]
      have hf2 := hown'.frozenAt k
      have hst := hown'.stored k (.int .i64 (k0 + k))
      have hb2 : Touch lo hi w (wr.setCell ⟨g, k, none⟩ (.int .i64 (k0 + k))) := hb'.setCell (.inl ⟨hg1, hg2⟩) _
      have hs2 : (wr.setCell ⟨g, k, none⟩ (.int .i64 (k0 + k))).heap.size = w.heap.size := by simpa [World.setCell] using hs'.out
      have hrel' : Hid ((ys.set k (k0 + k)).length = n ∧ (ys.set k (k0 + k)).take (k+1) = (marks k0 n).take (k+1)) :=
        ⟨by simpa using hys.out.1, take_set_step hys.out.2 (by have := hys.out.1; omega) (marks_at hlt)⟩
      have HS := hide (And.intro hst.1 (And.intro hb2 hs2))
      clear hst hb2 hs2 hown' hb' hs'
      go_wp2
      go_roundw
      case rel => exact ⟨k + 1, ys.set k (k0 + k), by omega, by go_num, by go_num, by simpa [List.map_set] using HS.out.1, HS.out.2.1, HS.out.2.2, hrel'⟩
      case measure => simp [intOf]; omega
    · obtain rfl : k = n := by omega
      go_wp2
      go_ret
      have e : ys = marks k0 k := by
        have h1 := hys.out
        have h2 := marks_len k0 k
        rw [List.take_of_length_le (by omega), List.take_of_length_le (by omega)] at h1
        exact h1.2
      subst e
      exact ⟨rfl, ⟨hown', h.lt, marks_rng hk0 hk1⟩, hb', hs'.out⟩

set_option maxHeartbeats 400000 in
theorem laws_heldIntS (A : Option Addr) (n c : Nat) (lo hi : Nat) (k0 : Int) (w : World) (h : Ints w lo hi A n c (marks k0 n)) (hk0 : 0 ≤ k0) (hk1 : k0 + n ≤ 4611686018427387904) :
    Calls Tryz.prog 34 #[.slice A n c, .int .i64 k0] w fun e w' => e = .returned (.int .i64 (k0 + n)) ∧ w = w' := by
  have hcp := h.cap
  have hm := h.max
  go_enter Tryz.func34, Tryz.ntmps34
  go_wp2
  go_loop [1, 5] (fun q i => ∃ (k : Nat), k ≤ n ∧ i = .int .i64 k ∧ q = .int .i64 (k0 + k)) (fun _ i => n - (intOf i).toNat)
  case atStart => exact ⟨0, by omega, rfl, by simp⟩
  case round =>
    obtain ⟨k, hk, rfl, rfl⟩ := hrel
    by_cases hlt : k < n
    · obtain ⟨ad, x, rfl, hc, _, _, hx⟩ := h.at_ hlt
      have hx' := hx.out
      rw [marks_at hlt] at hx'
      obtain rfl : k0 + k = x := by injection hx'
      clear hx'
      go_wp2
      go_round
      case rel => exact ⟨k + 1, by omega, by go_num, by go_num⟩
      case measure => simp [intOf]; omega
    · obtain rfl : k = n := by omega
      go_wp2
      go_ret
      exact ⟨rfl, rfl⟩

def szF (n : Nat) (left : Int) : Int := if left - n < 0 then -1 else left - n
theorem laws_szIntS (A : Option Addr) (n c : Nat) (left : Int) (w : World) (hn : n ≤ 9223372036854775807) (h0 : 0 ≤ left) (h1 : left ≤ 1048576) :
    Calls Tryz.prog 19 #[.slice A n c, .int .i64 left] w fun e w' => e = .returned (.int .i64 (szF n left)) ∧ w = w' := by
  by_cases hlt : left - n < 0
  · have hF : Hid (szF n left = -1) := if_pos hlt
    go_enter Tryz.func19, Tryz.ntmps19
    go_wp2
    go_ret
    exact ⟨ret_int hF.out.symm, rfl⟩
  · have hF : Hid (szF n left = left - n) := if_neg hlt
    go_enter Tryz.func19, Tryz.ntmps19
    go_wp2
    go_ret
    exact ⟨ret_int hF.out.symm, rfl⟩

def allNumF : List Int → Bool
  | [] => true
  | x :: r => if isNumF x then allNumF r else false
theorem allNumF_mem {xs : List Int} (h : allNumF xs = true) : ∀ x ∈ xs, 0 ≤ x ∧ x < 1000000271 := by
  induction xs with
  | nil => simp
  | cons x r ih =>
    rw [allNumF] at h
    split at h
    · rename_i hx
      intro y hy
      rcases List.mem_cons.1 hy with rfl | hy
      · exact (isNumF_iff _).1 hx
      · exact ih h y hy
    · cases h
set_option maxHeartbeats 400000 in
theorem spec_l1All (A : Option Addr) (n c : Nat) (xs : List Int) (lo hi : Nat) (w : World) (h : Ints w lo hi A n c xs) :
    Calls Tryz.prog 66 #[.slice A n c] w fun e w' => e = .returned (.bool (allNumF xs)) ∧ w = w' := by
  have hm := h.max
  have hcp := h.cap
  go_enter Tryz.func66, Tryz.ntmps66
  go_wp2_with fail
  go_loop [3] (fun i => ∃ (k : Nat), k ≤ n ∧ i = .int .i64 k ∧ Hid (allNumF xs = allNumF (xs.drop k))) (fun i => n - (intOf i).toNat)
  case atStart => exact ⟨0, by omega, rfl, rfl⟩
  case round =>
    obtain ⟨k, hk, rfl, hrel'⟩ := hrel
    by_cases hlt : k < n
    · obtain ⟨ad, x, rfl, hc, hr, hd, hx⟩ := h.at_ hlt
      clear hr
      by_cases hN : isNumF x = true
      · have hG : Hid (allNumF xs = allNumF (xs.drop (k+1))) := by
          show _ = _
          rw [hrel'.out, hd.out, allNumF, if_pos hN]
        go_wp2_with (go_at_call 83; refine (spec_IsNumber _ _).mono ?_; rintro e w' ⟨rfl, rfl⟩)
        go_round
        case rel => exact ⟨k + 1, by omega, by go_num, hG⟩
        case measure => simp [intOf]; omega
      · have hN' : isNumF x = false := by simpa using hN
        have hG : Hid (allNumF xs = false) := by
          show _ = _
          rw [hrel'.out, hd.out, allNumF, if_neg hN]
        clear hN
        go_wp2_with (go_at_call 83; refine (spec_IsNumber _ _).mono ?_; rintro e w' ⟨rfl, rfl⟩)
        go_ret
        exact ⟨ret_bool hG.out.symm, rfl⟩
    · obtain rfl : k = n := by omega
      have e := h.drop_end
      go_wp2_with fail
      go_ret
      exact ⟨ret_bool (by rw [hrel'.out, e.out, allNumF]), rfl⟩

set_option maxHeartbeats 400000 in
theorem impl_allNumbers (A : Option Addr) (n c : Nat) (xs : List Int) (lo hi : Nat) (w : World) (h : Ints w lo hi A n c xs) :
    Calls Tryz.prog 89 #[.slice A n c] w fun e w' => e = .returned (.bool (allNumF xs)) ∧ w = w' := by
  have hm := h.max
  have hcp := h.cap
  go_enter Tryz.func89, Tryz.ntmps89
  go_wp2_with fail
  go_loop [4, 7] (fun _ i => ∃ (k : Nat), k ≤ n ∧ i = .int .i64 k ∧ Hid (allNumF xs = allNumF (xs.drop k))) (fun _ i => n - (intOf i).toNat)
  case atStart => exact ⟨0, by omega, rfl, rfl⟩
  case round =>
    obtain ⟨k, hk, rfl, hrel'⟩ := hrel
    by_cases hlt : k < n
    · obtain ⟨ad, x, rfl, hc, hr, hd, hx⟩ := h.at_ hlt
      clear hr
      by_cases hN : isNumF x = true
      · have hG : Hid (allNumF xs = allNumF (xs.drop (k+1))) := by
          show _ = _
          rw [hrel'.out, hd.out, allNumF, if_pos hN]
        go_wp2_with (go_at_call 116; refine (impl_IsNumber _ _).mono ?_; rintro e w' ⟨rfl, rfl⟩)
        go_round
        case rel => exact ⟨k + 1, by omega, by go_num, hG⟩
        case measure => simp [intOf]; omega
      · have hN' : isNumF x = false := by simpa using hN
        have hG : Hid (allNumF xs = false) := by
          show _ = _
          rw [hrel'.out, hd.out, allNumF, if_neg hN]
        clear hN
        go_wp2_with (go_at_call 116; refine (impl_IsNumber _ _).mono ?_; rintro e w' ⟨rfl, rfl⟩)
        go_ret
        exact ⟨ret_bool hG.out.symm, rfl⟩
    · obtain rfl : k = n := by omega
      have e := h.drop_end
      go_wp2_with fail
      go_ret
      exact ⟨ret_bool (by rw [hrel'.out, e.out, allNumF]), rfl⟩
end Go.Proofs.YtjpldapkdfafgaaGreatDoor
/- append onto a slice of the call's own: laws for the walk whose results keep the shape of a slice. -/
namespace Go.Proofs.YtjpldapkdfafgaaGreatDoor
open Go.RowKit
set_option linter.unusedSimpArgs false
set_option linter.unusedVariables false
set_option maxRecDepth 20000

theorem own_shape {w : World} {base e size : Nat} {v : Value} {n : Nat} {xs : List Value} (h : w.ownsRow base e size v n xs) : ∃ A c, v = .slice A n c ∧ (∀ ad, A = some ad → ad = ⟨ad.block, 0, none⟩) := by
  rcases h.2 with ⟨rfl, rfl⟩ | ⟨g, cap, cur, rfl, _⟩
  · exact ⟨none, 0, rfl, by simp⟩
  · exact ⟨some ⟨g, 0, none⟩, cap, rfl, fun ad e => by injection e with e; subst e; rfl⟩

section
variable {P : Program}
/-- What an append leaves: the new slice, where it lies, and that only its row and new blocks have turned. -/
def Appended (w0 : World) (base e size : Nat) (A : Option Addr) (n c : Nat) (A' : Option Addr) (m c' : Nat) (xs : List Value) (w' : World) : Prop :=
  w'.ownsRow base e size (.slice A' m c') m xs ∧ w0.grownBy w' (Value.ownBlock (.slice A n c)) ∧ ((∀ ad, A' = some ad → A = some ad) ∨ ∀ ad, A' = some ad → w0.heap.size ≤ ad.block)

theorem run_app (w : World) (base : Nat) (t ty e : TypeId) (i : TypeInfo) (z : Value) (size bytes : Nat) (ht : P.underlying t = some (.slice e)) (hi : P.info? e = some i) (hz : i.zero = some z)
    (hsize : i.size = size) (hby : i.bytes = bytes) (hzs : z.cells.size = size) (hsz : 0 < size)
    (A : Option Addr) (n c : Nat) (xs : List Value) (hown : w.ownsRow base e size (.slice A n c) n xs)
    (a : Addr) (m d : Nat) (news : List Value) (hl : news.length = m * size) (hnews : ∀ j u, news[j]? = some u → w.cell? (a.add j) = some u) (h1 : ∀ u ∈ news, u.oneCell' = true)
    (h63 : n + m ≤ 1099511627776) (hbytes : bytes ≤ 128) (hbase : base ≤ w.heap.size) :
    ∃ A' c' w', (Builtin.append_ #[t, t] ty #[.slice A n c, .slice (some a) m d]).run P w = .ok (.slice A' (n + m) c') w' ∧ Appended w base e size A n c A' (n + m) c' (xs ++ news) w' := by
  obtain ⟨v', w', hrun, h2, h3, _, h5⟩ := run_append_own_at (P := P) w base t ty e i z size bytes ht hi hz hsize hby hzs hsz (.slice A n c) n xs hown a m d news hl hnews h1 (by unfold maxLen; omega)
    (Nat.le_trans (Nat.mul_le_mul h63 hbytes) (by omega)) hbase
  obtain ⟨A', c', rfl, hA'⟩ := own_shape h2
  refine ⟨A', c', w', hrun, h2, h3, ?_⟩
  obtain ⟨_, _, hv, hA⟩ := own_shape hown
  injection hv with hv
  subst hv
  rcases h5 with h5 | h5
  · left
    intro ad had
    subst had
    cases A with
    | none => simp [Value.ownBlock] at h5
    | some ad0 =>
      simp [Value.ownBlock] at h5
      rw [hA ad0 rfl, hA' ad rfl, h5]
  · right
    intro ad had
    subst had
    simp [Value.ownBlock] at h5
    omega

/-- append of one element that has just been laid in a block of its own. -/
theorem run_app1 (w0 : World) (base : Nat) (t ty e : TypeId) (i : TypeInfo) (z : Value) (size bytes : Nat) (ht : P.underlying t = some (.slice e)) (hi : P.info? e = some i) (hz : i.zero = some z)
    (hsize : i.size = size) (hby : i.bytes = bytes) (hzs : z.cells.size = size) (hsz : 0 < size)
    (A : Option Addr) (n c : Nat) (xs : List Value) (hown : w0.ownsRow base e size (.slice A n c) n xs)
    (cs : Array Value) (d : Nat) (hcs : cs.size = size) (h1 : ∀ u ∈ cs.toList, u.oneCell' = true) (hn : n + 1 ≤ 1099511627776) (hbytes : bytes ≤ 128) (hbase : base ≤ w0.heap.size) :
    ∃ A' c' w', (Builtin.append_ #[t, t] ty #[.slice A n c, .slice (some ⟨w0.heap.size, 0, none⟩) 1 d]).run P (w0.alloc (.cells cs e)) = .ok (.slice A' (n + 1) c') w' ∧
      Appended w0 base e size A n c A' (n + 1) c' (xs ++ cs.toList) w' ∧ w0.heap.size < w'.heap.size := by
  obtain ⟨A', c', w', hr, h2, h3, h4⟩ := run_app (P := P) (w0.alloc (.cells cs e)) base t ty e i z size bytes ht hi hz hsize hby hzs hsz A n c xs (hown.alloc _) ⟨w0.heap.size, 0, none⟩ 1 d cs.toList (by simpa using hcs)
    (fun j u hu => by
      rw [Addr.add_lit, Nat.zero_add, cell_of_row _ _ _ cs e (0, 0) (heap_alloc_new w0 _)]
      simpa using hu) h1 hn hbytes (by simp; omega)
  have hz' := h3.size
  simp at hz'
  refine ⟨A', c', w', hr, ⟨h2, ⟨h3.os, h3.tape, h3.output, by omega, fun k hk hne => (h3.block k (by simp; omega) hne).trans (Below.heap_alloc w0 _ k hk)⟩, ?_⟩, by omega⟩
  rcases h4 with h4 | h4
  · exact .inl h4
  · exact .inr fun ad had => by have := h4 ad had; simp at this; omega

theorem wpl_app1 {ops : Array Oper} {rest : List Oper} {o : Oper} {a : Act} {Q : Exit → Act → World → Prop} (hgd : o.guard = none) (s x : Operand) (t : TypeId)
    (ho : o.op = .call { callee := .builtin .append, args := #[s, x], argTypes := #[t, t] })
    (base : Nat) (e : TypeId) (i : TypeInfo) (z : Value) (size bytes : Nat) (ht : P.underlying t = some (.slice e)) (hi : P.info? e = some i) (hz : i.zero = some z)
    (hsize : i.size = size) (hby : i.bytes = bytes) (hzs : z.cells.size = size) (hsz : 0 < size) (w0 : World) (cs : Array Value)
    (A : Option Addr) (n c d : Nat) (xs : List Value) (hs : a.eval s = .slice A n c) (hx : a.eval x = .slice (some ⟨w0.heap.size, 0, none⟩) 1 d) (hown : w0.ownsRow base e size (.slice A n c) n xs)
    (hcs : cs.size = size) (h1 : ∀ u ∈ cs.toList, u.oneCell' = true) (hn : n + 1 ≤ 1099511627776) (hbytes : bytes ≤ 128) (hbase : base ≤ w0.heap.size)
    (h : ∀ A' c' w', Appended w0 base e size A n c A' (n + 1) c' (xs ++ cs.toList) w' → w0.heap.size < w'.heap.size → wpList P ops Q rest (a.put o.dst (.slice A' (n + 1) c')) w') : wpList P ops Q (o :: rest) a (w0.alloc (.cells cs e)) := by
  refine wpList_plain hgd fun K hK => ?_
  obtain ⟨A', c', w', hrun, h2, h3⟩ := run_app1 (P := P) w0 base t o.type e i z size bytes ht hi hz hsize hby hzs hsz A n c xs hown cs d hcs h1 hn hbytes hbase
  unfold Oper.wp
  simp [execOp, ho, resolve, invoke, builtin, hs, hx, hrun, Result.andThen]
  exact hK _ _ (h A' c' w' h2 h3)

/-- append of the elements of a slice that can be read. -/
theorem wpl_app {ops : Array Oper} {rest : List Oper} {o : Oper} {a : Act} {Q : Exit → Act → World → Prop} (hgd : o.guard = none) (s x : Operand) (t : TypeId)
    (ho : o.op = .call { callee := .builtin .append, args := #[s, x], argTypes := #[t, t] }) (w : World)
    (base : Nat) (e : TypeId) (i : TypeInfo) (z : Value) (size bytes : Nat) (ht : P.underlying t = some (.slice e)) (hi : P.info? e = some i) (hz : i.zero = some z)
    (hsize : i.size = size) (hby : i.bytes = bytes) (hzs : z.cells.size = size) (hsz : 0 < size)
    (A : Option Addr) (n c : Nat) (xs : List Value) (hs : a.eval s = .slice A n c) (hown : w.ownsRow base e size (.slice A n c) n xs)
    (B : Option Addr) (m d : Nat) (news : List Value) (hx : a.eval x = .slice B m d) (hl : news.length = m * size) (hnews : ∀ ad, B = some ad → ∀ j u, news[j]? = some u → w.cell? (ad.add j) = some u) (hB : B = none → m = 0 ∧ d = 0) (h1 : ∀ u ∈ news, u.oneCell' = true)
    (h63 : n + m ≤ 1099511627776) (hbytes : bytes ≤ 128) (hbase : base ≤ w.heap.size)
    (h : ∀ A' c' w', Appended w base e size A n c A' (n + m) c' (xs ++ news) w' → wpList P ops Q rest (a.put o.dst (.slice A' (n + m) c')) w') : wpList P ops Q (o :: rest) a w := by
  refine wpList_plain hgd fun K hK => ?_
  cases B with
  | some ad =>
    obtain ⟨A', c', w', hrun, h2⟩ := run_app (P := P) w base t o.type e i z size bytes ht hi hz hsize hby hzs hsz A n c xs hown ad m d news hl (hnews ad rfl) h1 h63 hbytes hbase
    unfold Oper.wp
    simp [execOp, ho, resolve, invoke, builtin, hs, hx, hrun, Result.andThen]
    exact hK _ _ (h A' c' w' h2)
  | none =>
    obtain ⟨rfl, rfl⟩ := hB rfl
    obtain rfl : news = [] := List.eq_nil_of_length_eq_zero (by simpa using hl)
    have hrun := run_append_owned_none (P := P) w base t o.type e i size ht hi (.slice A n c) n xs hown
    unfold Oper.wp
    simp [execOp, ho, resolve, invoke, builtin, hs, hx, hrun, Result.andThen]
    exact hK _ _ (h A c w ⟨by simpa using hown, World.grownBy.refl _ _, .inl fun _ h => h⟩)
end

/-- The same in my words for slices of integers. -/
theorem Appended.below {w0 : World} {base e size : Nat} {A : Option Addr} {n c : Nat} {A' : Option Addr} {m c' : Nat} {xs : List Value} {w' : World} (h : Appended w0 base e size A n c A' m c' xs w')
    {B : Nat} {a : World} (hb : Below B a w0) (hB : B ≤ w0.heap.size) (ho : ∀ ad, A = some ad → B ≤ ad.block) : Below B a w' :=
  hb.grown h.2.1 hB fun k hk => by
    cases A with
    | none => simp [Value.ownBlock] at hk
    | some ad => simp [Value.ownBlock] at hk; subst hk; exact ho ad rfl
end Go.Proofs.YtjpldapkdfafgaaGreatDoor
