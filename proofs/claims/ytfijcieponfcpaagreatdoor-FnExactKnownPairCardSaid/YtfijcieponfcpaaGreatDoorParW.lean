/- Reading numbers: the walks. -/
import Derived.Test.YtfijcieponfcpaaGreatDoorStrS
import Derived.Test.YtfijcieponfcpaaGreatDoorTxtP
namespace Go.Proofs.YtfijcieponfcpaaGreatDoor
open Go.RowKit
set_option linter.unusedSimpArgs false
set_option linter.unusedVariables false
set_option maxRecDepth 20000

theorem drop_at {s : ByteArray} {k : Nat} (h : k < s.size) : s.data.toList.drop k = s[k] :: s.data.toList.drop (k + 1) := by
  have h2 : k < s.data.toList.length := by rw [Array.length_toList]; exact h
  rw [List.drop_eq_getElem_cons h2]
  rfl
theorem list_len (s : ByteArray) : s.data.toList.length = s.size := by rw [Array.length_toList]; rfl

theorem digsF_step {c : UInt8} {r : List UInt8} {n : Nat} (h1 : 48 ≤ c.toNat) (h2 : c.toNat ≤ 57) : digsF (c :: r) n = digsF r (10 * n + (c.toNat - 48)) := by
  rw [digsF, if_pos (by unfold isDig; simp; omega)]
theorem digsF_no {c : UInt8} {r : List UInt8} {n : Nat} (h : ¬ (48 ≤ c.toNat ∧ c.toNat ≤ 57)) : digsF (c :: r) n = none := by
  rw [digsF, if_neg (by unfold isDig; simp; omega)]
def optI : Option Nat → Int
  | some n => (n : Int)
  | none => -1
theorem rdS_eq {s : ByteArray} (h0 : ¬ s.size = 0) (h10 : ¬ 10 < s.size) : rdS s.data.toList = optI (digsF (s.data.toList.drop 0) 0) := by
  rw [rdS, if_neg (by rw [list_len]; omega), List.drop_zero]
  cases digsF s.data.toList 0 <;> rfl
theorem rdI_eq {s : ByteArray} (h0 : ¬ s.size = 0) (h10 : ¬ 10 < s.size) (h1 : ¬ (1 < s.size ∧ s.data.toList.head? = some 48)) : rdI s.data.toList = optI (digsF (s.data.toList.drop 0) 0) := by
  rw [rdI, if_neg (by
    rw [list_len]
    rintro (h | h | h)
    · exact h0 h
    · exact h10 h
    · exact h1 h), List.drop_zero]
  cases digsF s.data.toList 0 <;> rfl
theorem pow_le10 {n k m : Nat} (h : n < 10 ^ k) (hk : k ≤ m) : n < 10 ^ m := Nat.lt_of_lt_of_le h (Nat.pow_le_pow_right (by omega) hk)

set_option maxHeartbeats 1000000 in
theorem spec_l1Digits (s : ByteArray) (w : World) (hs : s.size ≤ 9223372036854775807) :
    Calls Tryz.prog 85 #[.string s] w fun e w' => e = .returned (.int .i64 (rdS s.data.toList)) ∧ w = w' := by
  by_cases h0 : s.size = 0
  · have hF : Hid (rdS s.data.toList = -1) := by show _ = _; rw [rdS, if_pos (.inl (by rw [list_len]; exact h0))]
    go_enter Tryz.func85, Tryz.ntmps85
    go_wp2_with fail
    go_ret
    exact ⟨ret_int hF.out.symm, rfl⟩
  · by_cases h10 : 10 < s.size
    · have hF : Hid (rdS s.data.toList = -1) := by show _ = _; rw [rdS, if_pos (.inr (by rw [list_len]; exact h10))]
      have h00 : ((s.size : Int) == 0) = false := by simpa using h0
      go_enter Tryz.func85, Tryz.ntmps85
      go_wp2_with fail
      go_ret
      exact ⟨ret_int hF.out.symm, rfl⟩
    · have hF := hide (rdS_eq h0 h10)
      have h00 : ((s.size : Int) == 0) = false := by simpa using h0
      have h07 : ¬ (10 < (s.size : Int)) := by omega
      go_enter Tryz.func85, Tryz.ntmps85
      go_wp2_with fail
      go_loop [3, 4] (fun v i => ∃ (k n : Nat), k ≤ s.size ∧ i = .int .i64 k ∧ v = .int .i64 n ∧ Hid (n < 10 ^ k) ∧ Hid (rdS s.data.toList = optI (digsF (s.data.toList.drop k) n))) (fun _ i => s.size - (intOf i).toNat)
      case atStart => exact ⟨0, 0, by omega, rfl, rfl, by show 0 < 1; omega, hF⟩
      case round =>
        obtain ⟨k, n, hk, rfl, rfl, hn, hr⟩ := hrel
        by_cases hlt : k < s.size
        · have hd := drop_at hlt
          obtain ⟨c, hc⟩ : ∃ c, s[k] = c := ⟨_, rfl⟩
          rw [hc] at hd
          have hlt' : (k : Int) < s.size := by omega
          have hn10 : n < 10 ^ 9 := pow_le10 hn.out (by omega)
          have hn11 : (n : Int) < 1000000000 := by omega
          by_cases hc1 : (c.toNat : Int) < 48
          · have hG : Hid (rdS s.data.toList = -1) := by show _ = _; rw [hr.out, hd, digsF_no (by omega)]; rfl
            clear hd hn10
            go_wp2_with fail
            go_ret
            exact ⟨ret_int hG.out.symm, rfl⟩
          · by_cases hc2 : (57 : Int) < c.toNat
            · have hG : Hid (rdS s.data.toList = -1) := by show _ = _; rw [hr.out, hd, digsF_no (by omega)]; rfl
              clear hd hn10
              go_wp2_with fail
              go_ret
              exact ⟨ret_int hG.out.symm, rfl⟩
            · have hG : Hid (rdS s.data.toList = optI (digsF (s.data.toList.drop (k + 1)) (10 * n + (c.toNat - 48)))) := by show _ = _; rw [hr.out, hd, digsF_step (by omega) (by omega)]
              have hn2 : Hid (10 * n + (c.toNat - 48) < 10 ^ (k + 1)) := by show _ < _; have := hn.out; rw [Nat.pow_succ]; omega
              clear hd hn10
              go_wp2_with fail
              go_round
              case rel => exact ⟨k + 1, 10 * n + (c.toNat - 48), by omega, by go_num, congrArg (Value.int .i64) (by omega), hn2, hG⟩
              case measure => simp [intOf]; omega
        · obtain rfl : k = s.size := by omega
          have hG : Hid (rdS s.data.toList = n) := by show _ = _; rw [hr.out, List.drop_of_length_le (by rw [list_len]; omega)]; rfl
          have hn10 : n < 10 ^ 10 := pow_le10 hn.out (by omega)
          have hn11 : (n : Int) < 10000000000 := by omega
          clear hn10
          go_wp2_with fail
          go_ret
          exact ⟨ret_int hG.out.symm, rfl⟩

theorem head_get {s : ByteArray} (h : 0 < s.size) : s.data.toList.head? = some (s[0]'h) := by
  have := drop_at h
  rw [List.drop_zero] at this
  rw [this]
  rfl
set_option maxHeartbeats 1000000 in
theorem impl_readDecimal (s : ByteArray) (w : World) (hs : s.size ≤ 9223372036854775807) :
    Calls Tryz.prog 94 #[.string s] w fun e w' => e = .returned (.int .i64 (rdI s.data.toList)) ∧ w = w' := by
  by_cases h0 : s.size = 0
  · have hF : Hid (rdI s.data.toList = -1) := by show _ = _; rw [rdI, if_pos (.inl (by rw [list_len]; exact h0))]
    go_enter Tryz.func94, Tryz.ntmps94
    go_wp2_with fail
    go_ret
    exact ⟨ret_int hF.out.symm, rfl⟩
  · have h00 : ((s.size : Int) == 0) = false := by simpa using h0
    have hp : 0 < s.size := by omega
    have hp' : (0 : Int) < s.size := by omega
    by_cases h10 : 10 < s.size
    · have hF : Hid (rdI s.data.toList = -1) := by show _ = _; rw [rdI, if_pos (.inr (.inl (by rw [list_len]; exact h10)))]
      go_enter Tryz.func94, Tryz.ntmps94
      go_wp2_with fail
      go_ret
      exact ⟨ret_int hF.out.symm, rfl⟩
    · have h07 : ¬ (10 < (s.size : Int)) := by omega
      obtain ⟨c0, hc0⟩ : ∃ c, s[0]'hp = c := ⟨_, rfl⟩
      have hh : s.data.toList.head? = some c0 := by rw [head_get hp, hc0]
      by_cases h1 : 1 < s.size ∧ c0 = 48
      · have hF : Hid (rdI s.data.toList = -1) := by show _ = _; rw [rdI, if_pos (.inr (.inr ⟨by rw [list_len]; exact h1.1, by rw [hh, h1.2]⟩))]
        obtain ⟨h1a, h1b⟩ := h1
        subst h1b
        have h1c : (1 : Int) < s.size := by omega
        clear hh
        go_enter Tryz.func94, Tryz.ntmps94
        go_wp2_with fail
        go_ret
        exact ⟨ret_int hF.out.symm, rfl⟩
      · have hF := hide (rdI_eq h0 h10 (fun e => h1 ⟨e.1, by rw [hh] at e; exact Option.some.inj e.2⟩))
        have HS : ∀ P : Prop, (¬ (1 : Int) < s.size → P) → ((1 : Int) < s.size → ((c0.toNat : Int) == 48) = false → P) → P := fun P a b => by
          by_cases hq : (1 : Int) < s.size
          · refine b hq ?_
            have : c0 ≠ 48 := fun e => h1 ⟨by omega, e⟩
            have : ¬ (c0.toNat : Int) = 48 := fun e => this (UInt8.toNat_inj.1 (by show c0.toNat = 48; omega))
            simpa using this
          · exact a hq
        clear hh h1
        refine HS _ (fun hq => ?_) (fun hq hq2 => ?_)
        all_goals clear HS
        · go_enter Tryz.func94, Tryz.ntmps94
          go_wp2_with fail
          go_loop [3, 4, 25] (fun v _ i => ∃ (k n : Nat), k ≤ s.size ∧ i = .int .i64 k ∧ v = .int .i64 n ∧ Hid (n < 10 ^ k) ∧ Hid (rdI s.data.toList = optI (digsF (s.data.toList.drop k) n))) (fun _ _ i => s.size - (intOf i).toNat)
          case atStart => exact ⟨0, 0, by omega, rfl, rfl, by show 0 < 1; omega, hF⟩
          case round =>
            obtain ⟨k, n, hk, rfl, rfl, hn, hr⟩ := hrel
            by_cases hlt : k < s.size
            · have hd := drop_at hlt
              obtain ⟨c, hc⟩ : ∃ c, s[k] = c := ⟨_, rfl⟩
              rw [hc] at hd
              have hlt' : (k : Int) < s.size := by omega
              have hn10 : n < 10 ^ 9 := pow_le10 hn.out (by omega)
              have hn11 : (n : Int) < 1000000000 := by omega
              by_cases hc1 : (c.toNat : Int) < 48
              · have hG : Hid (rdI s.data.toList = -1) := by show _ = _; rw [hr.out, hd, digsF_no (by omega)]; rfl
                clear hd hn10
                go_wp2_with fail
                go_ret
                exact ⟨ret_int hG.out.symm, rfl⟩
              · by_cases hc2 : (57 : Int) < c.toNat
                · have hG : Hid (rdI s.data.toList = -1) := by show _ = _; rw [hr.out, hd, digsF_no (by omega)]; rfl
                  clear hd hn10
                  go_wp2_with fail
                  go_ret
                  exact ⟨ret_int hG.out.symm, rfl⟩
                · have hG : Hid (rdI s.data.toList = optI (digsF (s.data.toList.drop (k + 1)) (10 * n + (c.toNat - 48)))) := by show _ = _; rw [hr.out, hd, digsF_step (by omega) (by omega)]
                  have hn2 : Hid (10 * n + (c.toNat - 48) < 10 ^ (k + 1)) := by show _ < _; have := hn.out; rw [Nat.pow_succ]; omega
                  clear hd hn10
                  go_wp2_with fail
                  go_round
                  case rel => exact ⟨k + 1, 10 * n + (c.toNat - 48), by omega, by go_num, congrArg (Value.int .i64) (by omega), hn2, hG⟩
                  case measure => simp [intOf]; omega
            · obtain rfl : k = s.size := by omega
              have hG : Hid (rdI s.data.toList = n) := by show _ = _; rw [hr.out, List.drop_of_length_le (by rw [list_len]; omega)]; rfl
              have hn10 : n < 10 ^ 10 := pow_le10 hn.out (by omega)
              have hn11 : (n : Int) < 10000000000 := by omega
              clear hn10
              go_wp2_with fail
              go_ret
              exact ⟨ret_int hG.out.symm, rfl⟩
        · go_enter Tryz.func94, Tryz.ntmps94
          go_wp2_with fail
          go_loop [3, 4, 25] (fun v _ i => ∃ (k n : Nat), k ≤ s.size ∧ i = .int .i64 k ∧ v = .int .i64 n ∧ Hid (n < 10 ^ k) ∧ Hid (rdI s.data.toList = optI (digsF (s.data.toList.drop k) n))) (fun _ _ i => s.size - (intOf i).toNat)
          case atStart => exact ⟨0, 0, by omega, rfl, rfl, by show 0 < 1; omega, hF⟩
          case round =>
            obtain ⟨k, n, hk, rfl, rfl, hn, hr⟩ := hrel
            by_cases hlt : k < s.size
            · have hd := drop_at hlt
              obtain ⟨c, hc⟩ : ∃ c, s[k] = c := ⟨_, rfl⟩
              rw [hc] at hd
              have hlt' : (k : Int) < s.size := by omega
              have hn10 : n < 10 ^ 9 := pow_le10 hn.out (by omega)
              have hn11 : (n : Int) < 1000000000 := by omega
              by_cases hc1 : (c.toNat : Int) < 48
              · have hG : Hid (rdI s.data.toList = -1) := by show _ = _; rw [hr.out, hd, digsF_no (by omega)]; rfl
                clear hd hn10
                go_wp2_with fail
                go_ret
                exact ⟨ret_int hG.out.symm, rfl⟩
              · by_cases hc2 : (57 : Int) < c.toNat
                · have hG : Hid (rdI s.data.toList = -1) := by show _ = _; rw [hr.out, hd, digsF_no (by omega)]; rfl
                  clear hd hn10
                  go_wp2_with fail
                  go_ret
                  exact ⟨ret_int hG.out.symm, rfl⟩
                · have hG : Hid (rdI s.data.toList = optI (digsF (s.data.toList.drop (k + 1)) (10 * n + (c.toNat - 48)))) := by show _ = _; rw [hr.out, hd, digsF_step (by omega) (by omega)]
                  have hn2 : Hid (10 * n + (c.toNat - 48) < 10 ^ (k + 1)) := by show _ < _; have := hn.out; rw [Nat.pow_succ]; omega
                  clear hd hn10
                  go_wp2_with fail
                  go_round
                  case rel => exact ⟨k + 1, 10 * n + (c.toNat - 48), by omega, by go_num, congrArg (Value.int .i64) (by omega), hn2, hG⟩
                  case measure => simp [intOf]; omega
            · obtain rfl : k = s.size := by omega
              have hG : Hid (rdI s.data.toList = n) := by show _ = _; rw [hr.out, List.drop_of_length_le (by rw [list_len]; omega)]; rfl
              have hn10 : n < 10 ^ 10 := pow_le10 hn.out (by omega)
              have hn11 : (n : Int) < 10000000000 := by omega
              clear hn10
              go_wp2_with fail
              go_ret
              exact ⟨ret_int hG.out.symm, rfl⟩
end Go.Proofs.YtfijcieponfcpaaGreatDoor
