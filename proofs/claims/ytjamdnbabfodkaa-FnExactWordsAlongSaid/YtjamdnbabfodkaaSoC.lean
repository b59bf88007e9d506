/- A row of monomials put in order: turning a part of it, merging two parts. -/
import Derived.Test.YtjamdnbabfodkaaMgB
namespace Go.Proofs.Ytjamdnbabfodkaa
open Go.RowKit
set_option linter.unusedSimpArgs false
set_option linter.unusedVariables false
set_option maxRecDepth 20000

set_option maxHeartbeats 8000000 in
theorem lib_rotate (w W : World) (lo g n c : Nat) (es : List El) (h : SortC w W lo g n c es) (a m b : Nat) (ham : a < m) (hmb : m < b) (hb : b ≤ n) (hnb : n ≤ 4611686018427387904) (cl : Value) :
    Calls Try.prog 95 #[.slice (some ⟨g, 0, none⟩) n c, .int .i64 a, .int .i64 m, .int .i64 b, cl] W fun r W' => r = .returned (.tuple #[]) ∧ ∃ es', List.Perm es' es ∧ SortC w W' lo g n c es' := by
  have HS := hide h
  clear h
  have hi0 : IntKind.i64.wrap ((m : Int) - a) = ((m - a : Nat) : Int) := by rw [show ((m - a : Nat) : Int) = (m : Int) - a by omega]; exact IntWalk.i64_in _ (by omega)
  have hj0 : IntKind.i64.wrap ((b : Int) - m) = ((b - m : Nat) : Int) := by rw [show ((b - m : Nat) : Int) = (b : Int) - m by omega]; exact IntWalk.i64_in _ (by omega)
  obtain ⟨i0, hi0'⟩ : ∃ i0, i0 = m - a := ⟨_, rfl⟩
  obtain ⟨j0, hj0'⟩ : ∃ j0, j0 = b - m := ⟨_, rfl⟩
  rw [← hi0'] at hi0
  rw [← hj0'] at hj0
  have hb1 : 0 < i0 ∧ i0 ≤ m ∧ 0 < j0 ∧ m + j0 ≤ n := by omega
  clear hi0' hj0'
  go_enter Try.func95, Try.ntmps95
  go_wp2_with fail
  clear hi0 hj0
  go_loopw [10, 11] (fun x y wr => ∃ (i j : Nat) (es' : List El), 0 < i ∧ i ≤ m ∧ 0 < j ∧ m + j ≤ n ∧ x = .int .i64 i ∧ y = .int .i64 j ∧ Hid (List.Perm es' es) ∧ Hid (SortC w wr lo g n c es')) (fun x y _ => (intOf x).toNat + (intOf y).toNat)
  case atStart => exact ⟨i0, j0, es, by omega, by omega, by omega, by omega, rfl, rfl, List.Perm.refl _, HS.out⟩
  case round =>
    clear HS hb1
    obtain ⟨i, j, es', hi1, hi2, hj1, hj2, rfl, rfl, hP, hS⟩ := hrel
    have hw0 : IntKind.i64.wrap ((m : Int) - i) = ((m - i : Nat) : Int) := by rw [show ((m - i : Nat) : Int) = (m : Int) - i by omega]; exact IntWalk.i64_in _ (by omega)
    by_cases hij : i = j
    · subst hij
      have HC := hide (lib_swapRange w wr lo g n c es' hS.out (m - i) m i (by omega) (by omega) cl)
      obtain ⟨q, hq⟩ : ∃ q, q = m - i := ⟨_, rfl⟩
      rw [← hq] at hw0 HC
      clear hq
      go_wp2_with fail
      refine HC.out.mono ?_
      rintro r w1 ⟨rfl, es2, hP2, hS2⟩
      have HP2 : Hid (List.Perm es2 es) := hP2.trans hP.out
      have HS2 := hide hS2
      clear hP2 hS2 HC hS hP
      go_wp2_with fail
      go_end0
      exact ⟨rfl, es2, HP2.out, HS2.out⟩
    · by_cases hgt : j < i
      · have HC := hide (lib_swapRange w wr lo g n c es' hS.out (m - i) m j (by omega) (by omega) cl)
        obtain ⟨q, hq⟩ : ∃ q, q = m - i := ⟨_, rfl⟩
        rw [← hq] at hw0 HC
        have hne : ((i : Int) != (j : Int)) = true := by simpa using (by omega : ¬ (i : Int) = j)
        clear hq hij
        go_wp2_with fail
        refine HC.out.mono ?_
        rintro r w1 ⟨rfl, es2, hP2, hS2⟩
        have HP2 : Hid (List.Perm es2 es) := hP2.trans hP.out
        have HS2 := hide hS2
        clear hP2 hS2 HC hS hP
        go_wp2_with fail
        go_roundw
        case rel => exact ⟨i - j, j, es2, by omega, by omega, by omega, by omega, by go_num, rfl, HP2.out, HS2.out⟩
        case measure => simp [intOf]; omega
      · have hw1 : IntKind.i64.wrap ((m : Int) + j) = ((m + j : Nat) : Int) := by rw [show ((m + j : Nat) : Int) = (m : Int) + j by simp]; exact IntWalk.i64_in _ (by omega)
        have hw2 : IntKind.i64.wrap (((m + j : Nat) : Int) - i) = ((m + j - i : Nat) : Int) := by rw [show ((m + j - i : Nat) : Int) = ((m + j : Nat) : Int) - i by omega]; exact IntWalk.i64_in _ (by omega)
        have HC := hide (lib_swapRange w wr lo g n c es' hS.out (m - i) (m + j - i) i (by omega) (by omega) cl)
        have hne : ((i : Int) != (j : Int)) = true := by simpa using (by omega : ¬ (i : Int) = j)
        obtain ⟨q, hq⟩ : ∃ q, q = m - i := ⟨_, rfl⟩
        rw [← hq] at hw0 HC
        obtain ⟨s, hs⟩ : ∃ s, s = m + j - i := ⟨_, rfl⟩
        rw [← hs] at hw2 HC
        obtain ⟨t, ht⟩ : ∃ t, t = m + j := ⟨_, rfl⟩
        rw [← ht] at hw1 hw2
        have hlt : i < j := by omega
        clear hq hs ht hij hgt
        go_wp2_with fail
        refine HC.out.mono ?_
        rintro r w1 ⟨rfl, es2, hP2, hS2⟩
        have HP2 : Hid (List.Perm es2 es) := hP2.trans hP.out
        have HS2 := hide hS2
        clear hP2 hS2 HC hS hP
        go_wp2_with fail
        go_roundw
        case rel => exact ⟨i, j - i, es2, by omega, by omega, by omega, by omega, rfl, by go_num, HP2.out, HS2.out⟩
        case measure => simp [intOf]; omega

set_option maxHeartbeats 8000000 in
theorem lib_symMerge_one (w W : World) (lo g n c : Nat) (es : List El) (h : SortC w W lo g n c es) (a m b : Nat) (ham : m = a + 1) (hmb : m < b) (hb : b ≤ n) (hnb : n ≤ 1099511627776) :
    Calls Try.prog 94 #[.slice (some ⟨g, 0, none⟩) n c, .int .i64 a, .int .i64 m, .int .i64 b, .func (.func 82) #[] #[]] W fun r W' => r = .returned (.tuple #[]) ∧ ∃ es', List.Perm es' es ∧ SortC w W' lo g n c es' := by
  have hcb := h.capb
  have HS := hide h
  clear h
  have hi0 : IntKind.i64.wrap ((m : Int) - a) = 1 := by rw [show (m : Int) - a = 1 by omega]; exact IntWalk.i64_in _ (by omega)
  have ham1 : a < m := by omega
  have HAM := hide ham
  clear ham
  go_enter Try.func94, Try.ntmps94
  go_wp2_with fail
  clear hi0
  go_loopw [10, 11] (fun x y wr => ∃ (i j : Nat), m ≤ i ∧ i ≤ j ∧ j ≤ b ∧ x = .int .i64 i ∧ y = .int .i64 j ∧ Hid (SortC w wr lo g n c es)) (fun x y _ => (intOf y).toNat - (intOf x).toNat)
  case atStart => exact ⟨m, b, by omega, by omega, by omega, rfl, rfl, HS.out⟩
  case round =>
    clear HS
    obtain ⟨i, j, hi1, hij, hj, rfl, rfl, hS⟩ := hrel
    by_cases hlt : i < j
    · obtain ⟨q, hq⟩ : ∃ q, q = (i + j) / 2 := ⟨_, rfl⟩
      have hh : ((i : Int) + j) / 2 = (q : Int) := by omega
      have hqn : q < n := by omega
      have hpn : a < n := by omega
      have hqi : i ≤ q ∧ q < j := by omega
      clear hq
      go_wp2_with fail
      clear hh
      obtain ⟨x1, B1, m1, d1, xs1, he1⟩ := hS.out.some_ hqn
      obtain ⟨x2, B2, m2, d2, xs2, he2⟩ := hS.out.some_ hpn
      have T0 := hS.out.cells2 he1 he2 hqn hpn
      have T1 := hS.out.drew.cells2 he1 he2 hqn hpn
      have HC := hide (collect_cmp x1 B1 m1 d1 xs1 x2 B2 m2 d2 xs2 g wr.drew (hS.out.drew.mem he1) (hS.out.drew.mem he2))
      have HE1 := hide he1
      have HE2 := hide he2
      clear he1 he2
      go_region_held3 (fun w' => w'.cell? ⟨g, q * 2, none⟩ = some (.int .i64 x1) ∧ w'.cell? ⟨g, q * 2 + 1, none⟩ = some (.slice B1 m1 d1) ∧ w'.cell? ⟨g, a * 2, none⟩ = some (.int .i64 x2) ∧ w'.cell? ⟨g, a * 2 + 1, none⟩ = some (.slice B2 m2 d2)) (first | exact T0 | exact T1 | exact T2.out | go_keep)
        (first
          | (go_at_call 82; refine HC.out.mono ?_; rintro r w1 ⟨z, rfl, hz, hb1⟩; have hS1 := hide (hS.out.drew.below hb1); have T2 := hide (hS1.out.cells2 HE1.out HE2.out hqn hpn); clear HC))
      clear T0 T1 T2 HE1 HE2 hz hb1 hS
      by_cases hz0 : z < 0
      · go_wp2_with fail
        go_roundw
        case rel => exact ⟨q + 1, j, by omega, by omega, by omega, by go_num, rfl, hS1.out⟩
        case measure => simp [intOf]; omega
      · go_wp2_with fail
        go_roundw
        case rel => exact ⟨i, q, by omega, by omega, by omega, rfl, rfl, hS1.out⟩
        case measure => simp [intOf]; omega
    · have hw0 : IntKind.i64.wrap ((i : Int) - 1) = ((i - 1 : Nat) : Int) := by rw [show ((i - 1 : Nat) : Int) = (i : Int) - 1 by omega]; exact IntWalk.i64_in _ (by omega)
      obtain ⟨t, ht⟩ : ∃ t, t = i - 1 := ⟨_, rfl⟩
      rw [← ht] at hw0
      have htn : t < n ∧ a ≤ t := by have := HAM.out; omega
      have HT := hide ht
      clear ht
      go_wp2_with fail
      go_loopw [13] (fun x wr => ∃ (k : Nat) (es' : List El), k ≤ t ∧ x = .int .i64 k ∧ Hid (List.Perm es' es) ∧ Hid (SortC w wr lo g n c es')) (fun x _ => t - (intOf x).toNat)
      case atStart => exact ⟨a, es, by omega, rfl, List.Perm.refl _, hS.out⟩
      case round =>
        clear hS
        obtain ⟨k, es', hk, rfl, hP, hS⟩ := hrel
        by_cases hlt2 : k < t
        · have hw1 : IntKind.i64.wrap ((k : Int) + 1) = ((k + 1 : Nat) : Int) := by rw [show ((k + 1 : Nat) : Int) = (k : Int) + 1 by simp]; exact IntWalk.i64_in _ (by omega)
          obtain ⟨r, hr⟩ : ∃ r, r = k + 1 := ⟨_, rfl⟩
          rw [← hr] at hw1
          have hkn : k < n := by omega
          have hrn : r < n := by omega
          have hkr : k < r := by omega
          have HR := hide hr
          clear hr
          obtain ⟨e1, he1, c1, c2, f1, f2, _⟩ := hS.out.at_ hkn
          obtain ⟨e2, he2, c3, c4, f3, f4, _⟩ := hS.out.at_ hrn
          have n1 : ¬ k * 2 = r * 2 := by omega
          have n2 : ¬ k * 2 = r * 2 + 1 := by omega
          have n3 : ¬ k * 2 + 1 = r * 2 := by omega
          have n4 : ¬ k * 2 + 1 = r * 2 + 1 := by omega
          have g1 := hide (hS.out.swap hkn hrn he1.out he2.out).drew
          have g2 : Hid (List.Perm ((es'.set k e2).set r e1) es) := (perm_swap he1.out he2.out).trans hP.out
          clear he1 he2 hS hP
          go_wp2_with fail
          go_region
          go_wp2_with fail
          go_roundw
          case rel => exact ⟨r, _, by have := HR.out; omega, by have := HR.out; first | rfl | go_num, g2.out, g1.out⟩
          case measure => simp [intOf]; omega
        · go_wp2_with fail
          refine bodyPost_ret (results_none rfl _ _ _) rfl ?_
          exact ⟨rfl, es', hP.out, hS.out⟩
end Go.Proofs.Ytjamdnbabfodkaa
