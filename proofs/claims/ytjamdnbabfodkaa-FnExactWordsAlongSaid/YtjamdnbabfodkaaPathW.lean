/- Paths: whether they are well formed; the walks. -/
import Derived.Test.YtjamdnbabfodkaaInts2
namespace Go.Proofs.Ytjamdnbabfodkaa
open Go.RowKit
set_option linter.unusedSimpArgs false
set_option linter.unusedVariables false
set_option maxRecDepth 20000

def pathGo (dim : Int) : List (List Int) → Bool
  | [] => true
  | xs :: r => if (decide ((xs.length : Int) = dim) && allNumF xs) = true then pathGo dim r else false
def pathOkF (xss : List (List Int)) (dim : Int) : Bool := (decide (1 ≤ xss.length) && decide (xss.length ≤ 7)) && pathGo dim xss

section
variable {xss : List (List Int)} {dim : Int} {k : Nat} {xs : List Int}
theorem pathGo_step (hd : xss.drop k = xs :: xss.drop (k+1)) (h1 : (xs.length : Int) = dim) (h2 : allNumF xs = true) : pathGo dim (xss.drop k) = pathGo dim (xss.drop (k+1)) := by
  rw [hd, pathGo, if_pos (by rw [decide_eq_true h1, h2]; rfl)]
theorem pathGo_no1 (hd : xss.drop k = xs :: xss.drop (k+1)) (h1 : ¬ (xs.length : Int) = dim) : pathGo dim (xss.drop k) = false := by
  rw [hd, pathGo, if_neg (by rw [decide_eq_false h1]; simp)]
theorem pathGo_no2 (hd : xss.drop k = xs :: xss.drop (k+1)) (h2 : allNumF xs = false) : pathGo dim (xss.drop k) = false := by
  rw [hd, pathGo, if_neg (by rw [h2]; simp)]
end

set_option maxHeartbeats 400000 in
theorem impl_PathOk (A : Option Addr) (n c : Nat) (xss : List (List Int)) (lo hi : Nat) (dim : Int) (w : World) (h : Ints2 w lo hi A n c xss) :
    Calls Try.prog 37 #[.slice A n c, .int .i64 dim] w fun e w' => e = .returned (.bool (pathOkF xss dim)) ∧ w = w' := by
  have hcp := h.cap
  have hm := h.max
  by_cases h0 : n = 0
  · have hF : Hid (pathOkF xss dim = false) := by show _ = _; unfold pathOkF; rw [h.len, h0]; rfl
    subst h0
    go_enter Try.func37, Try.ntmps37
    go_wp2_with fail
    go_ret
    exact ⟨ret_bool hF.out.symm, rfl⟩
  · by_cases h7 : 7 < n
    · have hF : Hid (pathOkF xss dim = false) := by show _ = _; unfold pathOkF; rw [h.len, decide_eq_false (by omega : ¬ n ≤ 7), Bool.and_false]; rfl
      go_enter Try.func37, Try.ntmps37
      go_wp2_with fail
      go_ret
      exact ⟨ret_bool hF.out.symm, rfl⟩
    · have hF : Hid (pathOkF xss dim = pathGo dim (xss.drop 0)) := by show _ = _; unfold pathOkF; rw [h.len, decide_eq_true (by omega : n ≤ 7), decide_eq_true (by omega : 1 ≤ n)]; rfl
      have h00 : ((n : Int) == 0) = false := by simpa using h0
      have h07 : ¬ (7 < (n : Int)) := by omega
      go_enter Try.func37, Try.ntmps37
      go_wp2_with fail
      go_loop [6, 17] (fun _ i => ∃ (k : Nat), k ≤ n ∧ i = .int .i64 k ∧ Hid (pathOkF xss dim = pathGo dim (xss.drop k))) (fun _ i => n - (intOf i).toNat)
      case atStart => exact ⟨0, by omega, rfl, hF⟩
      case round =>
        obtain ⟨k, hk, rfl, hr⟩ := hrel
        by_cases hlt : k < n
        · obtain ⟨ad, B, m, d, xs, rfl, hc, hi1, hd, hx⟩ := h.at_ hlt
          have hA := hide (impl_allNumbers B m d xs lo hi w hi1)
          have hml := hide hi1.len
          have hcm := hi1.cap
          have hmm := hi1.max
          by_cases hdim : (m : Int) = dim
          · have hdim2 := hide hdim
            cases hv : allNumF xs with
            | true =>
              rw [hv] at hA
              have hG : Hid (pathOkF xss dim = pathGo dim (xss.drop (k+1))) := hr.out.trans (pathGo_step hd.out (by rw [hml.out]; exact hdim) hv)
              clear hv
              subst hdim
              go_wp2_with fail
              refine hA.out.mono ?_
              rintro e w' ⟨rfl, rfl⟩
              go_wp2_with fail
              go_round
              case rel => exact ⟨k + 1, by omega, by go_num, hG⟩
              case measure => simp [intOf]; omega
            | false =>
              rw [hv] at hA
              have hG : Hid (pathOkF xss dim = false) := hr.out.trans (pathGo_no2 hd.out hv)
              clear hv
              subst hdim
              go_wp2_with fail
              refine hA.out.mono ?_
              rintro e w' ⟨rfl, rfl⟩
              go_wp2_with fail
              go_ret
              exact ⟨ret_bool hG.out.symm, rfl⟩
          · have hG : Hid (pathOkF xss dim = false) := hr.out.trans (pathGo_no1 hd.out (by rw [hml.out]; exact hdim))
            have hne : ((m : Int) != dim) = true := by simpa using hdim
            go_wp2_with fail
            go_ret
            exact ⟨ret_bool hG.out.symm, rfl⟩
        · obtain rfl : k = n := by omega
          have e := h.drop_end
          have hG : Hid (pathOkF xss dim = true) := by show _ = _; rw [hr.out, e.out, pathGo]
          go_wp2_with fail
          go_ret
          exact ⟨ret_bool hG.out.symm, rfl⟩

set_option maxHeartbeats 400000 in
theorem spec_PathOk (A : Option Addr) (n c : Nat) (xss : List (List Int)) (lo hi : Nat) (dim : Int) (w : World) (h : Ints2 w lo hi A n c xss) :
    Calls Try.prog 52 #[.slice A n c, .int .i64 dim] w fun e w' => e = .returned (.bool (pathOkF xss dim)) ∧ w = w' := by
  have hcp := h.cap
  have hm := h.max
  have hI := hide (spec_l1In (n : Int) 1 7 w)
  by_cases h17 : 1 ≤ n ∧ n ≤ 7
  · have hF : Hid (pathOkF xss dim = pathGo dim (xss.drop 0)) := by show _ = _; unfold pathOkF; rw [h.len, decide_eq_true h17.1, decide_eq_true h17.2]; rfl
    rw [decide_eq_true (by omega : (1 : Int) ≤ n), decide_eq_true (by omega : (n : Int) ≤ 7)] at hI
    go_enter Try.func52, Try.ntmps52
    go_wp2_with fail
    refine hI.out.mono ?_
    rintro e w' ⟨rfl, rfl⟩
    go_wp2_with fail
    go_loop [5] (fun i => ∃ (k : Nat), k ≤ n ∧ i = .int .i64 k ∧ Hid (pathOkF xss dim = pathGo dim (xss.drop k))) (fun i => n - (intOf i).toNat)
    case atStart => exact ⟨0, by omega, rfl, hF⟩
    case round =>
      obtain ⟨k, hk, rfl, hr⟩ := hrel
      by_cases hlt : k < n
      · obtain ⟨ad, B, m, d, xs, rfl, hc, hi1, hd, hx⟩ := h.at_ hlt
        have hA := hide (spec_l1All B m d xs lo hi w hi1)
        have hml := hide hi1.len
        have hcm := hi1.cap
        have hmm := hi1.max
        by_cases hdim : (m : Int) = dim
        · cases hv : allNumF xs with
          | true =>
            rw [hv] at hA
            have hG : Hid (pathOkF xss dim = pathGo dim (xss.drop (k+1))) := hr.out.trans (pathGo_step hd.out (by rw [hml.out]; exact hdim) hv)
            clear hv
            subst hdim
            go_wp2_with fail
            refine hA.out.mono ?_
            rintro e w' ⟨rfl, rfl⟩
            go_wp2_with fail
            go_round
            case rel => exact ⟨k + 1, by omega, by go_num, hG⟩
            case measure => simp [intOf]; omega
          | false =>
            rw [hv] at hA
            have hG : Hid (pathOkF xss dim = false) := hr.out.trans (pathGo_no2 hd.out hv)
            clear hv
            subst hdim
            go_wp2_with fail
            refine hA.out.mono ?_
            rintro e w' ⟨rfl, rfl⟩
            go_wp2_with fail
            go_ret
            exact ⟨ret_bool hG.out.symm, rfl⟩
        · have hG : Hid (pathOkF xss dim = false) := hr.out.trans (pathGo_no1 hd.out (by rw [hml.out]; exact hdim))
          have hne : ((m : Int) != dim) = true := by simpa using hdim
          go_wp2_with fail
          go_ret
          exact ⟨ret_bool hG.out.symm, rfl⟩
      · obtain rfl : k = n := by omega
        have e := h.drop_end
        have hG : Hid (pathOkF xss dim = true) := by show _ = _; rw [hr.out, e.out, pathGo]
        go_wp2_with fail
        go_ret
        exact ⟨ret_bool hG.out.symm, rfl⟩
  · have hF : Hid (pathOkF xss dim = false) := by
      show _ = _
      unfold pathOkF
      rw [h.len, show (decide (1 ≤ n) && decide (n ≤ 7)) = false by simp; omega]
      rfl
    rw [show (decide ((1 : Int) ≤ n) && decide ((n : Int) ≤ 7)) = false by simp; omega] at hI
    go_enter Try.func52, Try.ntmps52
    go_wp2_with fail
    refine hI.out.mono ?_
    rintro e w' ⟨rfl, rfl⟩
    go_wp2_with fail
    go_ret
    exact ⟨ret_bool hF.out.symm, rfl⟩
end Go.Proofs.Ytjamdnbabfodkaa
