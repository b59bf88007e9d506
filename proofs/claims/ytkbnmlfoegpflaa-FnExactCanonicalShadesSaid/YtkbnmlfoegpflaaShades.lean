/- IsShades, CountShades, PlaceOfWord: the walks of both texts, and that the two agree. -/
import Derived.Test.YtkbnmlfoegpflaaIntS
import Derived.Test.YtkbnmlfoegpflaaAppend
namespace Go.Proofs.Ytkbnmlfoegpflaa
open Go.RowKit
set_option linter.unusedSimpArgs false
set_option linter.unusedVariables false
set_option maxRecDepth 20000

def countShadesF (n : Int) : Int := if n = 0 then 0 else if n = 1 then 2 else if n = 2 then 6 else if n = 3 then 20 else if n = 4 then 72 else -1




def shadesGo (prev : Int) : List Int → Bool
  | [] => true
  | x :: r => if x < 2 ∨ prev / 2 + 1 < x / 2 then false else shadesGo x r
def isShadesF : List Int → Bool
  | [] => false
  | x :: r => if 3 < r.length ∨ x < 0 ∨ 1 < x then false else shadesGo x r

set_option maxHeartbeats 1000000 in
theorem impl_IsShades (A : Option Addr) (n c : Nat) (xs : List Int) (lo hi : Nat) (w : World) (h : Ints w lo hi A n c xs) :
    Calls Try.prog 12 #[.slice A n c] w fun e w' => e = .returned (.bool (isShadesF xs)) ∧ ∃ q, w' = w.drewN q := by
  have hm := h.max
  have hcp := h.cap
  by_cases h0 : n = 0
  · subst h0
    have hF : Hid (isShadesF xs = false) := by
      have h1 := h.len
      cases xs with
      | nil => rfl
      | cons x r => simp at h1
    go_enter Try.func12, Try.ntmps12
    go_wp2
    go_ret
    exact ⟨ret_bool hF.out.symm, 0, rfl⟩
  · have hb0 : ((n : Int) == 0) = false := by rw [beq_eq_false_iff_ne]; omega
    obtain ⟨x, r, rfl⟩ : ∃ x r, xs = x :: r := by
      have h1 := h.len
      cases xs with
      | nil => simp at h1; omega
      | cons x r => exact ⟨x, r, rfl⟩
    have hlen : Hid (r.length + 1 = n) := h.len
    have hpos : 0 < n := by omega
    clear h0
    by_cases h4 : 4 < n
    · have hF : Hid (isShadesF (x :: r) = false) := by
        show _ = _
        rw [isShadesF, if_pos (.inl (by have := hlen.out; omega))]
      go_enter Try.func12, Try.ntmps12
      go_wp2
      go_ret
      exact ⟨ret_bool hF.out.symm, 0, rfl⟩
    · obtain ⟨ad, x', rfl, hc, hr, _, hx⟩ := h.at_ hpos
      obtain rfl : x = x' := by have := hx.out; simpa using this
      have hc : w.cell? ad = some (.int .i64 x) := hc
      by_cases hx0 : x < 0
      · have hF : Hid (isShadesF (x :: r) = false) := by
          show _ = _
          rw [isShadesF, if_pos (.inr (.inl hx0))]
        go_enter Try.func12, Try.ntmps12
        go_wp2
        go_ret
        exact ⟨ret_bool hF.out.symm, 0, rfl⟩
      · by_cases hx1 : 1 < x
        · have hF : Hid (isShadesF (x :: r) = false) := by
            show _ = _
            rw [isShadesF, if_pos (.inr (.inr hx1))]
          go_enter Try.func12, Try.ntmps12
          go_wp2
          go_ret
          exact ⟨ret_bool hF.out.symm, 0, rfl⟩
        · have hF : Hid (isShadesF (x :: r) = shadesGo x ((x :: r).drop 1)) := by
            show _ = _
            rw [isShadesF, if_neg (by have := hlen.out; omega)]
            rfl
          have hx1' : ¬ 1 < x := hx1
          go_enter Try.func12, Try.ntmps12
          go_wp2
          go_loopw [3] (fun i wr => ∃ (k q : Nat) (pv : Int), 1 ≤ k ∧ k ≤ n ∧ i = .int .i64 k ∧ wr = w.drewN q ∧ 0 ≤ pv ∧ pv ≤ 9223372036854775807 ∧ Hid ((x :: r)[k-1]? = some pv) ∧ Hid (isShadesF (x :: r) = shadesGo pv ((x :: r).drop k))) (fun i _ => n - (intOf i).toNat)
          case atStart => exact ⟨1, 0, x, by omega, by omega, rfl, rfl, by omega, hr.2, by simp [Hid], hF⟩
          case round =>
            obtain ⟨k, q, pv, hk1, hk, rfl, rfl, hp0, hp1, hpv, hrel'⟩ := hrel
            by_cases hlt : k < n
            · obtain ⟨ad', y, e1, hc1, hr1, hd1, hy⟩ := h.at_ hlt
              obtain ⟨ad'', z, e2, hc2, hr2, _, hz⟩ := h.at_ (k := k - 1) (by omega)
              obtain rfl : ad = ad' := by injection e1
              obtain rfl : ad = ad'' := by injection e2
              obtain rfl : z = pv := by have h1 := hz.out; rw [hpv.out] at h1; injection h1 with h1; exact h1.symm
              have hr1a := hr1.1
              have hr1b := hr1.2
              clear e1 e2 hr1 hr2 hr hc hpv hF
              by_cases hy2 : y < 2
              · have hG : Hid (isShadesF (x :: r) = false) := by
                  show _ = _
                  rw [hrel'.out, hd1.out, shadesGo, if_pos (.inl hy2)]
                go_wp2
                go_quiet (fail)
                go_wp2
                go_ret
                exact ⟨ret_bool hG.out.symm, _, World.drewN_drewN _ _ _⟩
              · have hy3 : decide (y < 2) = false := by simpa using hy2
                have hq := IntWalk.i64_in (z / 2 + 1) (by omega)
                by_cases hcmp : z / 2 + 1 < y / 2
                · have hG : Hid (isShadesF (x :: r) = false) := by
                    show _ = _
                    rw [hrel'.out, hd1.out, shadesGo, if_pos (.inr hcmp)]
                  go_wp2
                  go_quiet (fail)
                  go_wp2
                  go_ret
                  exact ⟨ret_bool hG.out.symm, _, World.drewN_drewN _ _ _⟩
                · have hG : Hid (isShadesF (x :: r) = shadesGo y ((x :: r).drop (k + 1))) := by
                    show _ = _
                    rw [hrel'.out, hd1.out, shadesGo, if_neg (by omega)]
                  go_wp2
                  go_quiet (fail)
                  go_wp2
                  go_roundw
                  case rel => exact ⟨k + 1, _, y, by omega, by omega, by go_num, rfl, by omega, by omega, hy, hG⟩
                  case measure => simp [intOf]; omega
            · obtain rfl : k = n := by omega
              have e := h.drop_end
              go_wp2
              go_ret
              exact ⟨ret_bool (by rw [hrel'.out, e.out, shadesGo]), _, rfl⟩

def halves (xs : List Int) : List Int := xs.map (· / 2)

set_option maxHeartbeats 400000 in
theorem spec_l10Levels (A : Option Addr) (n c : Nat) (xs : List Int) (lo hi : Nat) (w : World) (h : Ints w lo hi A n c xs) (hh : hi ≤ w.heap.size) (hn : n ≤ 1048576) (hp : ∀ x ∈ xs, 0 ≤ x) :
    Calls Try.prog 15 #[.slice A n c] w fun e w' => ∃ A' c', e = .returned (.slice A' n c') ∧ OwnI w' w.heap.size w'.heap.size A' n c' (halves xs) ∧ Below w.heap.size w w' := by
  obtain ⟨i0, hi0, hz0, hz1, hz2⟩ := info_parts info_int
  have hcp := h.cap
  have hm := h.max
  have hp' := hide hp
  clear hp
  go_enter Try.func15, Try.ntmps15
  go_wp2
  go_loopw [3, 4] (fun v i wr => ∃ (k : Nat) (A' : Option Addr) (c' : Nat), k ≤ n ∧ i = .int .i64 k ∧ v = .slice A' k c' ∧ wr.ownsRow w.heap.size 3 1 (.slice A' k c') k ((halves (xs.take k)).map (Value.int .i64)) ∧ Below w.heap.size w wr)
    (fun _ i _ => n - (intOf i).toNat)
  case atStart => exact ⟨0, _, _, by omega, rfl, rfl, by simpa [halves] using World.ownsRow_lit (size := 1) (e := 3) w #[] 0 (Nat.le_refl _) (by unfold maxLen; omega) rfl, (Below.refl _ _).alloc (Nat.le_refl _) _⟩
  case round =>
    obtain ⟨k, A', c', hk, rfl, rfl, hown, hb⟩ := hrel
    by_cases hlt : k < n
    · obtain ⟨ad, x, rfl, hc, hr, hd, hx⟩ := (h.below hb hh).at_ hlt
      have hx0 : 0 ≤ x := hp'.out x (List.mem_of_getElem? hx.out)
      have hr2 := hr.2
      have hsz := hb.size
      have hbl : ∀ ad, A' = some ad → w.heap.size ≤ ad.block := fun ad e => (hown.lt ad.block (by rw [e]; rfl)).1
      clear hr
      go_wp2_with (at_builtin; refine wpl_app1 rfl (.tmp 12) (.tmp 18) 22 rfl w.heap.size 3 i0 (.int .i64 0) 1 8 Try.underlying22 hi0 hz0 hz1 hz2 rfl (by omega) wr #[.int .i64 (x / 2)] A' k c' 1 _ rfl rfl hown rfl (by simp [Value.oneCell']) (by omega) (by omega) hsz ?_; intro A2 c2 w2 happ hlt2)
      have HS := hide (And.intro happ.1 (happ.below hb hsz hbl))
      clear happ hown hb hbl hsz
      go_wp2
      go_roundw
      case rel => exact ⟨k + 1, A2, c2, by omega, by go_num, rfl, by
        have h1 := HS.out.1
        rw [List.take_add_one, hx.out]
        simpa [halves] using h1, HS.out.2⟩
      case measure => simp [intOf]; omega
    · obtain rfl : k = n := by omega
      have e : xs.take k = xs := List.take_of_length_le (by have := h.len; omega)
      go_wp2
      go_ret
      rw [e] at hown
      refine ⟨_, _, rfl, ⟨hown, fun ad ea => (hown.lt ad.block (by rw [ea]; rfl)).2, ?_⟩, hb⟩
      intro y hy
      simp only [halves, List.mem_map] at hy
      obtain ⟨z, hz, rfl⟩ := hy
      have h1 := hp'.out z hz
      have h2 := (h.rng z hz).2
      constructor <;> omega

def levelsGo (k : Nat) (pv : Int) : List Int → Bool
  | [] => true
  | x :: r => if ((x == 0) != ((k : Int) == 0)) ∨ (0 < k ∧ ¬ (1 ≤ x ∧ x ≤ pv + 1)) then false else levelsGo (k + 1) x r
def isLevelsF (xs : List Int) : Bool := levelsGo 0 0 xs && (decide (1 ≤ (xs.length : Int)) && decide ((xs.length : Int) ≤ 6))

set_option maxHeartbeats 1000000 in
theorem spec_IsLevels (A : Option Addr) (n c : Nat) (xs : List Int) (lo hi : Nat) (w : World) (h : Ints w lo hi A n c xs) :
    Calls Try.prog 14 #[.slice A n c] w fun e w' => e = .returned (.bool (isLevelsF xs)) ∧ ∃ q, w' = w.drewN q := by
  have hm := h.max
  have hcp := h.cap
  go_enter Try.func14, Try.ntmps14
  go_wp2
  go_loopw [3] (fun i wr => ∃ (k q : Nat) (pv : Int), k ≤ n ∧ i = .int .i64 k ∧ wr = w.drewN q ∧ 0 ≤ pv ∧ pv ≤ k ∧ (0 < k → Hid (xs[k-1]? = some pv)) ∧ Hid (levelsGo 0 0 xs = levelsGo k pv (xs.drop k))) (fun i _ => n - (intOf i).toNat)
  case atStart => exact ⟨0, 0, 0, by omega, rfl, rfl, by omega, by omega, fun h => absurd h (by omega), rfl⟩
  case round =>
    obtain ⟨k, q, pv, hk, rfl, rfl, hp0, hp1, hpv, hrel'⟩ := hrel
    by_cases hlt : k < n
    · obtain ⟨ad, x, rfl, hc, hr, hd, hx⟩ := h.at_ hlt
      by_cases hk0 : k = 0
      · have hkb : ((k : Int) == 0) = true := by rw [beq_iff_eq]; omega
        have hkd : decide ((0 : Int) < k) = false := by simp; omega
        have hkd2 : decide (0 < k) = false := by simp; omega
        by_cases hx0 : x = 0
        · have hxb : (x == 0) = true := by rw [beq_iff_eq]; omega
          have hG : Hid (levelsGo 0 0 xs = levelsGo (k+1) x (xs.drop (k+1))) := by
            show _ = _
            rw [hrel'.out, hd.out, levelsGo, if_neg (by rw [hkb, hxb]; simp; omega)]
          clear hx0 hk0 hpv
          go_wp2
          go_quiet (fail)
          go_wp2
          go_roundw
          case rel => exact ⟨k + 1, _, x, by omega, by go_num, rfl, by simp at hxb; omega, by simp at hxb; omega, fun _ => hx, hG⟩
          case measure => simp [intOf]; omega
        · have hxb : (x == 0) = false := by rw [beq_eq_false_iff_ne]; omega
          have hG : Hid (isLevelsF xs = false) := by
            show _ = _
            rw [isLevelsF, hrel'.out, hd.out, levelsGo, if_pos (.inl (by rw [hkb, hxb]; rfl))]
            rfl
          clear hx0 hk0 hpv
          go_wp2
          go_quiet (fail)
          go_wp2
          go_ret
          exact ⟨ret_bool hG.out.symm, _, World.drewN_drewN _ _ _⟩
      · have hkb : ((k : Int) == 0) = false := by rw [beq_eq_false_iff_ne]; omega
        have hkd : decide ((0 : Int) < k) = true := by simp; omega
        have hkd2 : decide (0 < k) = true := by simp; omega
        have hk1 : 0 < k := by omega
        by_cases hx0 : x = 0
        · have hxb : (x == 0) = true := by rw [beq_iff_eq]; omega
          have hG : Hid (isLevelsF xs = false) := by
            show _ = _
            rw [isLevelsF, hrel'.out, hd.out, levelsGo, if_pos (.inl (by rw [hkb, hxb]; rfl))]
            rfl
          clear hx0 hk0 hpv
          go_wp2
          go_quiet (fail)
          go_wp2
          go_ret
          exact ⟨ret_bool hG.out.symm, _, World.drewN_drewN _ _ _⟩
        · have hxb : (x == 0) = false := by rw [beq_eq_false_iff_ne]; omega
          obtain ⟨ad'', z, e2, hc2, hr2, _, hz⟩ := h.at_ (k := k - 1) (by omega)
          obtain rfl : ad = ad'' := by injection e2
          obtain rfl : z = pv := by have h1 := hz.out; rw [(hpv hk1).out] at h1; injection h1 with h1; exact h1.symm
          have hq := IntWalk.i64_in (z + 1) (by omega)
          have hq1 := IntWalk.i64_in ((k : Int) - 1) (by omega)
          have hq2 : ((k : Int) - 1).toNat = k - 1 := by omega
          have hq3 : (0 : Int) ≤ (k : Int) - 1 := by omega
          have hq4 : (k : Int) - 1 < n := by omega
          have hq5 : (1 : Int) ≤ k := by omega
          clear hx0 hk0 e2 hpv hr2
          by_cases hcmp : 1 ≤ x ∧ x ≤ z + 1
          · have hcb1 : decide (1 ≤ x) = true := by simpa using hcmp.1
            have hcb2 : decide (x ≤ z + 1) = true := by simpa using hcmp.2
            have hG : Hid (levelsGo 0 0 xs = levelsGo (k+1) x (xs.drop (k+1))) := by
              show _ = _
              rw [hrel'.out, hd.out, levelsGo, if_neg (by rw [hkb, hxb]; simp; omega)]
            go_wp2
            go_quiet ((go_at_call 22; first | exact quiet_left (spec_l1In _ _ _ _) | exact quiet_add_left (spec_l1In _ _ _ _)))
            go_wp2
            go_roundw
            case rel => exact ⟨k + 1, _, x, by omega, by go_num, rfl, by omega, by omega, fun _ => hx, hG⟩
            case measure => simp [intOf]; omega
          · have hcb : (decide (1 ≤ x) && decide (x ≤ z + 1)) = false := by
              rw [Bool.eq_false_iff]; intro e; simp at e; exact hcmp (by omega)
            have hG : Hid (isLevelsF xs = false) := by
              show _ = _
              rw [isLevelsF, hrel'.out, hd.out, levelsGo, if_pos (.inr ⟨hk1, hcmp⟩)]
              rfl
            clear hcmp
            go_wp2
            go_quiet ((go_at_call 22; first | exact quiet_left (spec_l1In _ _ _ _) | exact quiet_add_left (spec_l1In _ _ _ _)))
            go_wp2
            go_ret
            exact ⟨ret_bool hG.out.symm, _, World.drewN_drewN _ _ _⟩
    · obtain rfl : k = n := by omega
      have e := h.drop_end
      have hl := h.len
      have hG : Hid (isLevelsF xs = (decide (1 ≤ (k : Int)) && decide ((k : Int) ≤ 6))) := by
        show _ = _
        rw [isLevelsF, hrel'.out, e.out, levelsGo, hl]; rfl
      clear hl
      go_wp2_with fail
      refine (spec_l1In _ _ _ _).mono ?_
      rintro e w' ⟨rfl, rfl⟩
      go_wp2_with fail
      go_ret
      exact ⟨ret_bool hG.out.symm, _, rfl⟩

def negGo : List Int → Bool
  | [] => true
  | x :: r => if x < 0 then false else negGo r
theorem negGo_all {xs : List Int} (h : negGo xs = true) : ∀ x ∈ xs, 0 ≤ x := by
  induction xs with
  | nil => simp
  | cons x r ih =>
    rw [negGo] at h
    split at h
    · cases h
    · intro y hy
      rcases List.mem_cons.1 hy with rfl | hy
      · omega
      · exact ih h y hy
def specShadesF (xs : List Int) : Bool := negGo xs && (decide (xs.length ≤ 4) && isLevelsF (halves xs))

set_option maxHeartbeats 400000 in
theorem spec_IsShades (A : Option Addr) (n c : Nat) (xs : List Int) (lo hi : Nat) (w : World) (h : Ints w lo hi A n c xs) (hh : hi ≤ w.heap.size) (hn : n ≤ 1048576) :
    Calls Try.prog 10 #[.slice A n c] w fun e w' => e = .returned (.bool (specShadesF xs)) ∧ Below w.heap.size w w' := by
  have hm := h.max
  have hcp := h.cap
  go_enter Try.func10, Try.ntmps10
  go_wp2_with fail
  go_loop [3] (fun i => ∃ (k : Nat), k ≤ n ∧ i = .int .i64 k ∧ Hid (negGo xs = negGo (xs.drop k))) (fun i => n - (intOf i).toNat)
  case atStart => exact ⟨0, by omega, rfl, rfl⟩
  case round =>
    obtain ⟨k, hk, rfl, hrel'⟩ := hrel
    by_cases hlt : k < n
    · obtain ⟨ad, x, rfl, hc, hr, hd, hx⟩ := h.at_ hlt
      by_cases hx0 : x < 0
      · have hG : Hid (specShadesF xs = false) := by
          show _ = _
          rw [specShadesF, hrel'.out, hd.out, negGo, if_pos hx0]; rfl
        go_wp2_with fail
        go_ret
        exact ⟨ret_bool hG.out.symm, Below.refl _ _⟩
      · have hG : Hid (negGo xs = negGo (xs.drop (k+1))) := by
          show _ = _
          rw [hrel'.out, hd.out, negGo, if_neg hx0]
        go_wp2_with fail
        go_round
        case rel => exact ⟨k + 1, by omega, by go_num, hG⟩
        case measure => simp [intOf]; omega
    · obtain rfl : k = n := by omega
      have e := h.drop_end
      have hN : negGo xs = true := by rw [hrel'.out, e.out, negGo]
      have hall := hide (negGo_all hN)
      have hl := h.len
      by_cases h4 : k ≤ 4
      · have hG : Hid (specShadesF xs = isLevelsF (halves xs)) := by
          show _ = _
          rw [specShadesF, hN, hl]; simp [h4]
        clear hN hl
        go_wp2_with fail
        refine (spec_l10Levels _ _ _ _ _ _ w h hh hn hall.out).mono ?_
        rintro e' w1 ⟨A1, c1, rfl, o1, b1⟩
        go_wp2_with fail
        refine (spec_IsLevels _ _ _ _ _ _ w1 o1.ints).mono ?_
        rintro e' w2 ⟨rfl, q, rfl⟩
        go_wp2_with fail
        go_ret
        exact ⟨ret_bool (by rw [hG.out]), below_drewN b1 q⟩
      · have hG : Hid (specShadesF xs = false) := by
          show _ = _
          rw [specShadesF, hN, hl]; simp [h4]
        have hd4 : decide ((k : Int) ≤ 4) = false := by simp; omega
        clear hN hl
        go_wp2_with fail
        go_ret
        exact ⟨ret_bool hG.out.symm, Below.refl _ _⟩

theorem shades_levels (r : List Int) : ∀ (k : Nat) (pv : Int), 1 ≤ k → 0 ≤ pv → shadesGo pv r = (negGo r && levelsGo k (pv / 2) (halves r)) := by
  induction r with
  | nil => intro k pv _ _; rfl
  | cons x r ih =>
    intro k pv hk hp
    rw [shadesGo, negGo, halves, List.map_cons, levelsGo]
    by_cases h0 : x < 0
    · rw [if_pos (.inl (by omega)), if_pos h0]; rfl
    · rw [if_neg h0]
      by_cases h2 : x < 2
      · rw [if_pos (.inl h2), if_pos]
        · simp
        · right; omega
      · by_cases h3 : pv / 2 + 1 < x / 2
        · rw [if_pos (.inr h3), if_pos]
          · simp
          · right; omega
        · rw [if_neg (by omega), if_neg, ih (k + 1) x (by omega) (by omega)]
          · rfl
          · rintro (h | h)
            · rw [bne_iff_ne] at h
              apply h
              rw [Bool.eq_iff_iff, beq_iff_eq, beq_iff_eq]
              omega
            · omega
theorem shades_eq (xs : List Int) : isShadesF xs = specShadesF xs := by
  cases xs with
  | nil => rfl
  | cons x r =>
    rw [isShadesF, specShadesF, isLevelsF, halves, List.map_cons, levelsGo, negGo]
    by_cases h0 : x < 0
    · rw [if_pos (.inr (.inl h0)), if_pos h0]; rfl
    · rw [if_neg h0]
      by_cases h1 : 1 < x
      · rw [if_pos (.inr (.inr h1)), if_pos]
        · simp
        · left
          rw [bne_iff_ne]
          intro e
          rw [Bool.eq_iff_iff, beq_iff_eq, beq_iff_eq] at e
          omega
      · have hx : x / 2 = 0 := by omega
        have e1 := shades_levels r 1 x (by omega) (by omega)
        rw [if_neg (c := ((x / 2 == 0) != (((0 : Nat) : Int) == 0)) ∨ _), hx]
        · rw [hx] at e1
          by_cases h3 : 3 < r.length
          · rw [if_pos (.inl h3)]
            simp
            omega
          · rw [if_neg (by omega), e1]
            have h4 : decide ((x :: r).length ≤ 4) = true := by simp; omega
            have h5 : decide (1 ≤ (((0 :: List.map (· / 2) r) : List Int).length : Int)) = true := by simp; omega
            have h6 : decide ((((0 :: List.map (· / 2) r) : List Int).length : Int) ≤ 6) = true := by simp; omega
            rw [h4, h5, h6]
            simp [halves]
        · rintro (h | h)
          · rw [bne_iff_ne] at h
            apply h
            rw [Bool.eq_iff_iff, beq_iff_eq, beq_iff_eq]
            omega
          · omega
end Go.Proofs.Ytkbnmlfoegpflaa
