/- IsShades, CountShades, PlaceOfWord: the walks of both texts, and that the two agree. -/
import Derived.Test.YtppekbokaknocaaDoorIntS
import Derived.Test.YtppekbokaknocaaDoorAppend
namespace Go.Proofs.YtppekbokaknocaaDoor
open Go.RowKit
set_option linter.unusedSimpArgs false
set_option linter.unusedVariables false
set_option maxRecDepth 20000

def countShadesF (n : Int) : Int := if n = 0 then 0 else if n = 1 then 2 else if n = 2 then 6 else if n = 3 then 20 else if n = 4 then 72 else -1



def placeGo : Int → List Int → Int
  | st, [] => st
  | st, x :: xs => if isLetterF x then placeGo (2 * st + 1 + x) xs else -1
def placeF (xs : List Int) : Int := if 5 < xs.length then -1 else placeGo 0 xs

set_option maxHeartbeats 400000 in
theorem impl_PlaceOfWord (A : Option Addr) (n c : Nat) (xs : List Int) (lo hi : Nat) (w : World) (h : Ints w lo hi A n c xs) :
    Calls Tryd.prog 15 #[.slice A n c] w fun e w' => e = .returned (.int .i64 (placeF xs)) ∧ w = w' := by
  have hm := h.max
  have hcp := h.cap
  by_cases h5 : 5 < n
  · have hF : Hid (placeF xs = -1) := by show _ = _; unfold placeF; rw [if_pos (by have := h.len; omega)]
    go_enter Tryd.func15, Tryd.ntmps15
    go_wp2
    go_ret
    exact ⟨ret_int hF.out.symm, rfl⟩
  · have hF : Hid (placeF xs = placeGo 0 (xs.drop 0)) := by show _ = _; unfold placeF; rw [if_neg (by have := h.len; omega)]; rfl
    go_enter Tryd.func15, Tryd.ntmps15
    go_wp2_with fail
    go_loop [3, 5, 11] (fun s x i => ∃ (k : Nat) (st : Int), k ≤ n ∧ i = .int .i64 k ∧ s = .int .i64 (st + 1) ∧ 0 ≤ st ∧ st + 2 ≤ 2 ^ (k+1) ∧ Hid (placeF xs = placeGo st (xs.drop k))) (fun _ _ i => n - (intOf i).toNat)
    case atStart => exact ⟨0, 0, by omega, rfl, rfl, by omega, by decide, hF⟩
    case round =>
      obtain ⟨k, st, hk, rfl, rfl, h0, h1, hrel⟩ := hrel
      have hp : (2:Int)^(k+2) = 2 * 2^(k+1) := by rw [Int.pow_succ]; omega
      have hp2 : (2:Int)^(k+1) ≤ 64 := by
        have : (2:Nat)^(k+1) ≤ 2^6 := Nat.pow_le_pow_right (by omega) (by omega)
        exact_mod_cast this
      have hp' := hide hp
      clear hp
      by_cases hlt : k < n
      · obtain ⟨ad, x, rfl, hc, hr, hd, _⟩ := h.at_ hlt
        clear hr
        by_cases hL : isLetterF x = true
        · have hL2 := (isLetterF_iff x).1 hL
          go_wp2_with (go_at_call 35; refine (impl_isLetter _ _).mono ?_; rintro e w' ⟨rfl, rfl⟩)
          go_round
          case rel => exact ⟨k + 1, 2 * st + 1 + x, by omega, by go_num, by congr 1; omega, by omega, by have := hp'.out; omega, by show _ = _; rw [hrel.out, hd.out, placeGo, if_pos hL]⟩
          case measure => simp [intOf]; omega
        · have hL' : isLetterF x = false := by simpa using hL
          clear hL
          go_wp2_with (go_at_call 35; refine (impl_isLetter _ _).mono ?_; rintro e w' ⟨rfl, rfl⟩)
          go_ret
          exact ⟨ret_int (by rw [hrel.out, hd.out, placeGo, hL']; rfl), rfl⟩
      · obtain rfl : k = n := by omega
        have e := h.drop_end
        go_wp2
        go_ret
        exact ⟨ret_int (by rw [hrel.out, e.out, placeGo]), rfl⟩

set_option maxHeartbeats 400000 in
theorem spec_PlaceOfWord (A : Option Addr) (n c : Nat) (xs : List Int) (lo hi : Nat) (w : World) (h : Ints w lo hi A n c xs) :
    Calls Tryd.prog 16 #[.slice A n c] w fun e w' => e = .returned (.int .i64 (placeF xs)) ∧ w = w' := by
  have hm := h.max
  have hcp := h.cap
  by_cases h5 : 5 < n
  · have hF : Hid (placeF xs = -1) := by show _ = _; unfold placeF; rw [if_pos (by have := h.len; omega)]
    go_enter Tryd.func16, Tryd.ntmps16
    go_wp2
    go_ret
    exact ⟨ret_int hF.out.symm, rfl⟩
  · have hF : Hid (placeF xs = placeGo 0 (xs.drop 0)) := by show _ = _; unfold placeF; rw [if_neg (by have := h.len; omega)]; rfl
    go_enter Tryd.func16, Tryd.ntmps16
    go_wp2_with fail
    go_loop [3, 4] (fun s i => ∃ (k : Nat) (st : Int), k ≤ n ∧ i = .int .i64 k ∧ s = .int .i64 st ∧ 0 ≤ st ∧ st + 2 ≤ 2 ^ (k+1) ∧ Hid (placeF xs = placeGo st (xs.drop k))) (fun _ i => n - (intOf i).toNat)
    case atStart => exact ⟨0, 0, by omega, rfl, rfl, by omega, by decide, hF⟩
    case round =>
      obtain ⟨k, st, hk, rfl, rfl, h0, h1, hrel⟩ := hrel
      have hp : (2:Int)^(k+2) = 2 * 2^(k+1) := by rw [Int.pow_succ]; omega
      have hp2 : (2:Int)^(k+1) ≤ 64 := by
        have : (2:Nat)^(k+1) ≤ 2^6 := Nat.pow_le_pow_right (by omega) (by omega)
        exact_mod_cast this
      have hp' := hide hp
      clear hp
      by_cases hlt : k < n
      · obtain ⟨ad, x, rfl, hc, hr, hd, _⟩ := h.at_ hlt
        clear hr
        by_cases hL : 0 ≤ x ∧ x ≤ 1
        · have hd1 : decide (0 ≤ x) = true := by simpa using hL.1
          have hd2 : decide (x ≤ 1) = true := by simpa using hL.2
          go_wp2_with (go_at_call 18; refine (spec_l1In _ _ _ _).mono ?_; rintro e w' ⟨rfl, rfl⟩)
          go_round
          case rel => exact ⟨k + 1, 2 * st + 1 + x, by omega, by go_num, rfl, by omega, by have := hp'.out; omega, by show _ = _; rw [hrel.out, hd.out, placeGo, if_pos ((isLetterF_iff x).2 hL)]⟩
          case measure => simp [intOf]; omega
        · have hL' : Hid (isLetterF x = false) := by show _ = _; rw [Bool.eq_false_iff]; exact fun e => hL ((isLetterF_iff x).1 e)
          have hL2 : (decide (0 ≤ x) && decide (x ≤ 1)) = false := hL'.out
          clear hL
          go_wp2_with (go_at_call 18; refine (spec_l1In _ _ _ _).mono ?_; rintro e w' ⟨rfl, rfl⟩)
          go_ret
          exact ⟨ret_int (by rw [hrel.out, hd.out, placeGo, hL'.out]; rfl), rfl⟩
      · obtain rfl : k = n := by omega
        have e := h.drop_end
        go_wp2
        go_ret
        exact ⟨ret_int (by rw [hrel.out, e.out, placeGo]), rfl⟩



end Go.Proofs.YtppekbokaknocaaDoor
