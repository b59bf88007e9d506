/- Slices of slices of integers: what they read as, and the statements' helpers on them. -/
import Derived.Test.YtlmkjfgomlamhaaIntS
import Derived.Test.YtlmkjfgomlamhaaAppend
namespace Go.Proofs.Ytlmkjfgomlamhaa
open Go.RowKit
set_option linter.unusedSimpArgs false
set_option linter.unusedVariables false
set_option maxRecDepth 20000

/-- A slice of slices of integers that can be read; all its cells lie in the blocks from lo up to hi. -/
structure Ints2 (w : World) (lo hi : Nat) (A : Option Addr) (n c : Nat) (xss : List (List Int)) : Prop where
  len : xss.length = n
  cap : n ≤ c
  max : c ≤ 9223372036854775807
  cells : 0 < n → ∃ ad, A = some ad ∧ lo ≤ ad.block ∧ ad.block < hi ∧ ∀ j xs, xss[j]? = some xs → ∃ B m d, w.cell? (ad.add j) = some (.slice B m d) ∧ Ints w lo hi B m d xs

section
variable {w w' : World} {lo hi : Nat} {A : Option Addr} {n c : Nat} {xss : List (List Int)}
theorem Ints2.at_ (h : Ints2 w lo hi A n c xss) {k : Nat} (hk : k < n) :
    ∃ ad B m d xs, A = some ad ∧ w.cell? (ad.add k) = some (.slice B m d) ∧ Ints w lo hi B m d xs ∧ Hid (xss.drop k = xs :: xss.drop (k+1)) ∧ Hid (xss[k]? = some xs) := by
  obtain ⟨ad, e, _, _, hc⟩ := h.cells (by omega)
  have hl : k < xss.length := by have := h.len; omega
  obtain ⟨B, m, d, h1, h2⟩ := hc k _ (List.getElem?_eq_getElem hl)
  exact ⟨ad, B, m, d, _, e, h1, h2, List.drop_eq_getElem_cons hl, List.getElem?_eq_getElem hl⟩
theorem Ints2.same (h : Ints2 w lo hi A n c xss) (hs : Same lo hi w w') : Ints2 w' lo hi A n c xss :=
  ⟨h.len, h.cap, h.max, fun hn => by
    obtain ⟨ad, e, h1, h2, hc⟩ := h.cells hn
    refine ⟨ad, e, h1, h2, fun j xs hx => ?_⟩
    obtain ⟨B, m, d, h3, h4⟩ := hc j xs hx
    exact ⟨B, m, d, (hs.cell (by rw [block_of_add]; exact h1) (by rw [block_of_add]; exact h2)).trans h3, h4.same hs⟩⟩
theorem Ints2.below {B : Nat} (h : Ints2 w lo hi A n c xss) (hb : Below B w w') (hB : hi ≤ B) : Ints2 w' lo hi A n c xss := h.same (.of_below hb hB)
theorem Ints2.drop_end (h : Ints2 w lo hi A n c xss) : Hid (xss.drop n = []) := List.drop_eq_nil_of_le (Nat.le_of_eq h.len)
end

def szRowsGo : List (List Int) → Int → Int
  | [], l => l
  | xs :: r, l => if l - xs.length < 0 then -1 else szRowsGo r (l - xs.length)
def szRowsF (xss : List (List Int)) (l : Int) : Int := if l - xss.length < 0 then -1 else szRowsGo xss (l - xss.length)
theorem szRowsGo_bd : ∀ (xss : List (List Int)) (l : Int), 0 ≤ l → (-1 ≤ szRowsGo xss l ∧ szRowsGo xss l ≤ l) ∧ (0 ≤ szRowsGo xss l → ∀ xs ∈ xss, (xs.length : Int) ≤ l)
  | [], l, h => ⟨⟨by unfold szRowsGo; omega, by unfold szRowsGo; omega⟩, fun _ _ h => absurd h (by simp)⟩
  | xs :: r, l, h => by
    rw [szRowsGo]
    split
    · exact ⟨⟨by omega, by omega⟩, fun h => absurd h (by omega)⟩
    · have ih := szRowsGo_bd r (l - xs.length) (by omega)
      refine ⟨⟨ih.1.1, by omega⟩, fun h0 ys hy => ?_⟩
      rcases List.mem_cons.1 hy with rfl | hy
      · omega
      · have := ih.2 h0 ys hy
        omega

theorem szRows_ok (xss : List (List Int)) : (szRowsF xss 1048576 < 0) ∨ (0 ≤ szRowsF xss 1048576 ∧ xss.length ≤ 1048576 ∧ ∀ xs ∈ xss, xs.length ≤ 1048576) := by
  unfold szRowsF
  split
  · exact .inl (by omega)
  · have h := szRowsGo_bd xss (1048576 - xss.length) (by omega)
    by_cases h0 : szRowsGo xss (1048576 - xss.length) < 0
    · exact .inl h0
    · exact .inr ⟨by omega, by omega, fun xs hx => by have := h.2 (by omega) xs hx; omega⟩

set_option maxHeartbeats 400000 in
theorem laws_szIntSS (A : Option Addr) (n c : Nat) (xss : List (List Int)) (lo hi : Nat) (left : Int) (w : World) (h : Ints2 w lo hi A n c xss) (h0 : 0 ≤ left) (h1 : left ≤ 1048576) :
    Calls Try.prog 6 #[.slice A n c, .int .i64 left] w fun e w' => e = .returned (.int .i64 (szRowsF xss left)) ∧ w = w' := by
  have hcp := h.cap
  have hm := h.max
  by_cases hlt : left - n < 0
  · have hF : Hid (szRowsF xss left = -1) := if_pos (by rw [h.len]; exact hlt)
    go_enter Try.func6, Try.ntmps6
    go_wp2_with fail
    go_ret
    exact ⟨ret_int hF.out.symm, rfl⟩
  · have hF : Hid (szRowsF xss left = szRowsGo xss (left - n)) := by
      show _ = _
      unfold szRowsF
      rw [h.len, if_neg hlt]
    go_enter Try.func6, Try.ntmps6
    go_wp2_with fail
    go_loop [1, 5] (fun l i => ∃ (k : Nat) (r : Int), k ≤ n ∧ i = .int .i64 k ∧ l = .int .i64 r ∧ 0 ≤ r ∧ r ≤ 1048576 ∧ Hid (szRowsF xss left = szRowsGo (xss.drop k) r)) (fun _ i => n - (intOf i).toNat)
    case atStart => exact ⟨0, left - n, by omega, rfl, rfl, by omega, by omega, hF⟩
    case round =>
      obtain ⟨k, r, hk, rfl, rfl, hr0, hr1, hr⟩ := hrel
      by_cases hlt : k < n
      · obtain ⟨ad, B, m, d, xs, rfl, hc, hi, hd, hx⟩ := h.at_ hlt
        have hmm := hi.max
        have hml := hi.len
        have hcm := hi.cap
        by_cases hlt2 : r - m < 0
        · have hF2 : szF m r = -1 := if_pos hlt2
          have hG : Hid (szRowsF xss left = -1) := by
            show _ = _
            rw [hr.out, hd.out, szRowsGo, hml, if_pos hlt2]
          clear hml
          go_wp2_with fail
          refine (laws_szIntS B m d r w (by omega) hr0 hr1).mono ?_
          rintro e w' ⟨rfl, rfl⟩
          rw [hF2]
          go_wp2_with fail
          go_ret
          exact ⟨ret_int hG.out.symm, rfl⟩
        · have hF2 : szF m r = r - m := if_neg hlt2
          have hG : Hid (szRowsF xss left = szRowsGo (xss.drop (k + 1)) (r - m)) := by
            show _ = _
            rw [hr.out, hd.out, szRowsGo, hml, if_neg hlt2]
          clear hml
          go_wp2_with fail
          refine (laws_szIntS B m d r w (by omega) hr0 hr1).mono ?_
          rintro e w' ⟨rfl, rfl⟩
          rw [hF2]
          go_wp2_with fail
          go_round
          case rel => exact ⟨k + 1, r - m, by omega, by go_num, rfl, by omega, by omega, hG⟩
          case measure => simp [intOf]; omega
      · obtain rfl : k = n := by omega
        have e := h.drop_end
        have hG : Hid (szRowsF xss left = r) := by show _ = _; rw [hr.out, e.out, szRowsGo]
        go_wp2_with fail
        go_ret
        exact ⟨ret_int hG.out.symm, rfl⟩

theorem take_snoc2 {α : Type} {xs ys : List α} {k : Nat} {x : α} (h : xs.take k = ys.take k) (hx : xs[k]? = some x) (hy : ys[k]? = some x) : xs.take (k+1) = ys.take (k+1) := by
  rw [List.take_add_one, List.take_add_one, h, hx, hy]

set_option maxHeartbeats 400000 in
theorem laws_eqIntSS (A : Option Addr) (n c : Nat) (xs : List (List Int)) (lo hi : Nat) (B : Option Addr) (m d : Nat) (ys : List (List Int)) (lo' hi' : Nat) (w : World) (h : Ints2 w lo hi A n c xs) (g : Ints2 w lo' hi' B m d ys) :
    Calls Try.prog 13 #[.slice A n c, .slice B m d] w fun e w' => e = .returned (.bool (decide (xs = ys))) ∧ ∃ q, w' = w.drewN q := by
  have hcp := h.cap
  have hm := h.max
  have gcp := g.cap
  have gm := g.max
  by_cases hnm : n = m
  · subst hnm
    go_enter Try.func13, Try.ntmps13
    go_wp2_with fail
    go_loopw [5] (fun i wr => ∃ (k q : Nat), k ≤ n ∧ i = .int .i64 k ∧ wr = w.drewN q ∧ Hid (xs.take k = ys.take k)) (fun i _ => n - (intOf i).toNat)
    case atStart => exact ⟨0, 0, by omega, rfl, rfl, rfl⟩
    case round =>
      obtain ⟨k, q, hk, rfl, rfl, hr⟩ := hrel
      by_cases hlt : k < n
      · obtain ⟨ad, A1, n1, c1, x, rfl, hc, hi1, _, hx⟩ := h.at_ hlt
        obtain ⟨ae, B1, m1, d1, y, rfl, hd, hi2, _, hy⟩ := g.at_ hlt
        have hE := fun W (hW : ∃ q, W = w.drewN q) => (laws_eqIntS A1 n1 c1 x _ _ B1 m1 d1 y _ _ W (by obtain ⟨q, rfl⟩ := hW; exact hi1.same (fun _ _ _ => rfl)) (by obtain ⟨q, rfl⟩ := hW; exact hi2.same (fun _ _ _ => rfl)))
        by_cases hxy : x = y
        · subst hxy
          rw [decide_eq_true rfl] at hE
          have HE := hide hE
          clear hE
          go_wp2_with fail
          go_quiet ((go_at_call 16; first | exact Calls.quiet_of (HE.out _ ⟨_, rfl⟩) | exact quiet_add (HE.out _ ⟨_, rfl⟩)))
          go_wp2_with fail
          go_roundw
          case rel => exact ⟨k + 1, _, by omega, by go_num, rfl, take_snoc2 hr.out hx.out hy.out⟩
          case measure => simp [intOf]; omega
        · have hF : Hid (¬ xs = ys) := fun e => by
            have h1 := hx.out
            rw [e, hy.out] at h1
            exact hxy (by injection h1 with h1; exact h1.symm)
          rw [decide_eq_false hxy] at hE
          have HE := hide hE
          clear hE hxy
          go_wp2_with fail
          go_quiet ((go_at_call 16; first | exact Calls.quiet_of (HE.out _ ⟨_, rfl⟩) | exact quiet_add (HE.out _ ⟨_, rfl⟩)))
          go_wp2_with fail
          go_ret
          exact ⟨ret_bool (by simpa using hF.out), _, World.drewN_drewN _ _ _⟩
      · obtain rfl : k = n := by omega
        go_wp2_with fail
        go_ret
        refine ⟨ret_bool ?_, _, rfl⟩
        have h1 := hr.out
        have h2 := h.len
        have h3 := g.len
        rw [List.take_of_length_le (by omega), List.take_of_length_le (by omega)] at h1
        simpa using h1
  · have hne : ((n : Int) != (m : Int)) = true := by simpa using (by omega : ¬ (n : Int) = m)
    have hF : Hid (¬ xs = ys) := fun e => hnm (by rw [← h.len, ← g.len, e])
    clear hnm
    go_enter Try.func13, Try.ntmps13
    go_wp2_with fail
    go_ret
    exact ⟨ret_bool (by simpa using hF.out), 0, rfl⟩

theorem info_ints : (Try.prog.info? 22).map (fun i => (i.zero, i.size, i.bytes)) = some (some (.slice none 0 0), 1, 24) := by kernel_rfl

set_option maxHeartbeats 1000000 in
theorem laws_toIntSS (A : Option Addr) (n c : Nat) (xss : List (List Int)) (lo hi : Nat) (w : World) (h : Ints2 w lo hi A n c xss) (hh : hi ≤ w.heap.size) (hn : n ≤ 1048576) (hr : ∀ xs ∈ xss, xs.length ≤ 1048576) :
    Calls Try.prog 11 #[.slice A n c] w fun e w' => ∃ A' c', e = .returned (.slice A' n c') ∧ Ints2 w' w.heap.size w'.heap.size A' n c' xss ∧ Below w.heap.size w w' := by
  obtain ⟨i0, hi0, hz0, hz1, hz2⟩ := info_parts info_ints
  have hcp := h.cap
  have hm := h.max
  have HR := hide hr
  clear hr
  go_enter Try.func11, Try.ntmps11
  go_wp2_with (at_make; refine wpList_make_full _ rfl _ _ 30 rfl w.heap.size 22 i0 (.slice none 0 0) 1 Try.underlying30 hi0 hz0 hz1 .i64 .i64 n n n rfl rfl rfl rfl (by rw [hz2]; omega) (by unfold maxLen; omega) (Nat.le_refl _) ?_; intro w1 hown hg1)
  have hs1 : w.heap.size < w1.heap.size := (hown.lt w.heap.size rfl).2
  have hb1 : Below w.heap.size w w1 := (Below.refl _ _).grown hg1 (Nat.le_refl _) (by simp)
  clear hg1
  go_loopw [4] (fun i wr => ∃ (k : Nat) (vs : List Value), k ≤ n ∧ i = .int .i64 k ∧ Hid (wr.ownsRow w.heap.size 22 1 (.slice (some ⟨w.heap.size, 0, none⟩) n n) n vs) ∧ Hid (Below w.heap.size w wr) ∧ w.heap.size < wr.heap.size ∧ Hid (vs.length = n ∧ ∀ j, j < k → ∃ B m d xs, vs[j]? = some (.slice B m d) ∧ xss[j]? = some xs ∧ Ints wr (w.heap.size + 1) wr.heap.size B m d xs))
    (fun i _ => n - (intOf i).toNat)
  case atStart =>
    refine ⟨0, _, by omega, rfl, hown, hb1, hs1, ?_, fun j hj => absurd hj (by omega)⟩
    have := hown.1
    simpa using this
  case round =>
    obtain ⟨k, vs, hk, rfl, hown', hb', hs', hys⟩ := hrel
    by_cases hlt : k < n
    · obtain ⟨ad, B, m, d, xs, rfl, hc, hi1, _, hx⟩ := (h.below hb'.out hh).at_ hlt
      have hml : m ≤ 1048576 := by
        have := HR.out xs (List.mem_of_getElem? hx.out)
        have := hi1.len
        omega
      have hT := hide (laws_toIntS B m d xs lo hi wr hi1 (Nat.le_trans hh hb'.out.size) hml)
      have hvl := hys.out.1
      obtain ⟨v0, hv0⟩ : ∃ v0, vs[k]? = some v0 := ⟨_, List.getElem?_eq_getElem (by omega)⟩
      clear hi1 hvl
      go_wp2_with fail
      refine hT.out.mono ?_
      rintro e w2 ⟨B2, d2, rfl, o2, b2⟩
      have z2 := b2.size
      have own2 : w2.ownsRow w.heap.size 22 1 (.slice (some ⟨w.heap.size, 0, none⟩) n n) n vs := owns_same hown'.out fun ad e => by
        injection e with e
        subst e
        exact b2.block _ hs'
      have hc2 : w2.cell? ⟨w.heap.size, k, none⟩ = some v0 := by
        rw [own2.cellAt k (by omega)]
        exact hv0
      have hf2 := own2.frozenAt k
      have hst := own2.stored k (.slice B2 m d2)
      have hb2 : Below w.heap.size w (w2.setCell ⟨w.heap.size, k, none⟩ (.slice B2 m d2)) := (hb'.out.trans (b2.mono hb'.out.size)).setCell (Nat.le_refl _) _
      have hs2 : w.heap.size < (w2.setCell ⟨w.heap.size, k, none⟩ (.slice B2 m d2)).heap.size := by simpa [World.setCell] using (by omega : w.heap.size < w2.heap.size)
      have hvs : Hid ((vs.set k (.slice B2 m d2)).length = n ∧ ∀ j, j < k + 1 → ∃ B m' d xs, (vs.set k (.slice B2 m d2))[j]? = some (.slice B m' d) ∧ xss[j]? = some xs ∧ Ints (w2.setCell ⟨w.heap.size, k, none⟩ (.slice B2 m d2)) (w.heap.size + 1) (w2.setCell ⟨w.heap.size, k, none⟩ (.slice B2 m d2)).heap.size B m' d xs) := by
        refine ⟨by simpa using hys.out.1, fun j hj => ?_⟩
        have hsz3 : (w2.setCell ⟨w.heap.size, k, none⟩ (.slice B2 m d2)).heap.size = w2.heap.size := by simp [World.setCell]
        rw [hsz3]
        have hsame : Same (w.heap.size + 1) w2.heap.size w2 (w2.setCell ⟨w.heap.size, k, none⟩ (.slice B2 m d2)) := Same.setCell (p := ⟨w.heap.size, k, none⟩) (Same.refl _ _ _) (.inl (Nat.lt_succ_self w.heap.size)) _
        by_cases hjk : j = k
        · subst hjk
          refine ⟨B2, m, d2, xs, ?_, hx.out, ?_⟩
          · rw [List.getElem?_set_self (by have := hys.out.1; omega)]
          · exact (o2.ints.wide (by omega) (Nat.le_refl _)).same hsame
        · obtain ⟨B3, m3, d3, xs3, h1, h2, h3⟩ := hys.out.2 j (by omega)
          refine ⟨B3, m3, d3, xs3, ?_, h2, ?_⟩
          · rw [List.getElem?_set_ne (by omega)]; exact h1
          · exact (((h3.below b2 (Nat.le_refl _)).wide (Nat.le_refl _) z2)).same hsame
      have HS := hide (And.intro hst.1 (And.intro hb2 hs2))
      clear hst hb2 hs2 hown' hb' hs' hys own2 o2 hx
      go_wp2_with fail
      go_roundw
      case rel => exact ⟨k + 1, _, by omega, by go_num, HS.out.1, HS.out.2.1, HS.out.2.2, hvs⟩
      case measure => simp [intOf]; omega
    · obtain rfl : k = n := by omega
      have hl := h.len
      have HB := hb'.out
      have R : Ints2 wr w.heap.size wr.heap.size (some ⟨w.heap.size, 0, none⟩) k k xss := by
        refine ⟨hl, Nat.le_refl _, by omega, fun _ => ⟨_, rfl, Nat.le_refl _, hs', fun j xs hx => ?_⟩⟩
        have hj := (List.getElem?_eq_some_iff.1 hx).1
        obtain ⟨B3, m3, d3, xs3, h1, h2, h3⟩ := hys.out.2 j (by omega)
        rw [hx] at h2
        injection h2 with h2
        subst h2
        refine ⟨B3, m3, d3, ?_, h3.wide (by omega) (Nat.le_refl _)⟩
        rw [hown'.out.cells (g := w.heap.size) rfl j _ h1]
      clear hown' hb' hys
      go_wp2_with fail
      go_ret
      exact ⟨_, _, rfl, R, HB⟩
end Go.Proofs.Ytlmkjfgomlamhaa
