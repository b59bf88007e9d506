/- Polynomials in h: the reference's product. -/
import Derived.Test.YtlmkjfgomlamhaaJetJ
namespace Go.Proofs.Ytlmkjfgomlamhaa
open Go.RowKit
set_option linter.unusedSimpArgs false
set_option linter.unusedVariables false
set_option maxRecDepth 20000

set_option maxRecDepth 100000 in
set_option maxHeartbeats 8000000 in
theorem spec_l8Mul (A : Option Addr) (n c : Nat) (xs : List Int) (lo hi : Nat) (B : Option Addr) (d : Nat) (ys : List Int) (lo' hi' : Nat) (w : World) (h : Ints w lo hi A n c xs) (g : Ints w lo' hi' B n d ys) (hh : hi ≤ w.heap.size) (hh' : hi' ≤ w.heap.size) (hn : n ≤ 1000) (hx : ∀ x ∈ xs, 0 ≤ x ∧ x < 1000000271) (hy : ∀ y ∈ ys, 0 ≤ y ∧ y < 1000000271) :
    Calls Try.prog 68 #[.slice A n c, .slice B n d] w fun e w' => ∃ gR, e = .returned (.slice (some ⟨gR, 0, none⟩) n n) ∧ OwnI w' w.heap.size w'.heap.size (some ⟨gR, 0, none⟩) n n (jmul xs ys) ∧ Below w.heap.size w w' := by
  have hcA := h.cap
  have hmA := h.max
  have hcB := g.cap
  have hmB := g.max
  have hmk := make_ints n (by omega) w
  have HX := hide h
  have HY := hide g
  have hlx := hide h.len
  have HXN := hide hx
  have HYN := hide hy
  have s0 := hide (FillS.start w n hn)
  rw [← mulP_zero (ys := ys) hlx.out] at s0
  clear h g hx hy
  go_enter Try.func68, Try.ntmps68
  go_wp2_with fail
  clear hmk
  go_loopw [6] (fun i wr => ∃ (j : Nat), j ≤ n ∧ i = .int .i64 j ∧ Hid (FillS w wr w.heap.size n (jmulP xs ys j))) (fun i _ => n - (intOf i).toNat)
  case atStart => exact ⟨0, by omega, rfl, s0⟩
  case round =>
    clear s0
    obtain ⟨i, hi, rfl, hS⟩ := hrel
    by_cases hlt : i < n
    · obtain ⟨ad, x, rfl, hcx, hxr, _, hxx⟩ := (HX.out.below hS.out.low hh).at_ hlt
      have hxb := HXN.out x (List.mem_of_getElem? hxx.out)
      by_cases hx0 : x = 0
      · subst hx0
        have hN := hS.out
        rw [← mul_zero_row (ys := ys) hxx.out] at hN
        have HN := hide hN
        have hw0 : IntKind.i64.wrap ((i : Int) + 0) = (i : Int) := by rw [Int.add_zero]; exact IntWalk.i64_in _ (by omega)
        clear hxx hS hN
        go_wp2_with fail
        go_loopw [7] (fun v wr2 => v = .int .i64 0 ∧ wr2 = wr) (fun _ _ => 0)
        case atStart => exact ⟨rfl, rfl⟩
        case round =>
          obtain ⟨rfl, rfl⟩ := hrel
          go_wp2_with fail
          go_roundw
          case rel => exact ⟨i + 1, by omega, by go_num, HN.out⟩
          case measure => simp [intOf]; omega
      · have hxne : (x != 0) = true := by simpa using hx0
        clear hx0
        go_wp2_with fail
        go_loopw [7] (fun v wr => ∃ (j : Nat), i + j ≤ n ∧ v = .int .i64 j ∧ Hid (FillS w wr w.heap.size n (mixJ (jmulP xs ys (i + 1)) (jmulP xs ys i) (i + j)))) (fun v _ => n - (intOf v).toNat)
        case atStart => exact ⟨0, by omega, rfl, by show Hid (FillS w wr w.heap.size n (mixJ (jmulP xs ys (i + 1)) (jmulP xs ys i) i)); rw [mul_begin hlx.out (by omega)]; exact hS⟩
        case round =>
          clear hS hcx
          obtain ⟨j, hj, rfl, hS⟩ := hrel
          obtain ⟨ad1, x1, e1, hcx, _, _, hxx1⟩ := (HX.out.below hS.out.low hh).at_ hlt
          injection e1 with e1
          subst e1
          obtain rfl : x = x1 := by have h1 := hxx.out; rw [hxx1.out] at h1; injection h1 with h1; exact h1.symm
          clear hxx1
          have hw0 : IntKind.i64.wrap ((i : Int) + (j : Int)) = ((i + j : Nat) : Int) := by rw [show ((i + j : Nat) : Int) = (i : Int) + j by simp]; exact IntWalk.i64_in _ (by omega)
          by_cases hlt2 : i + j < n
          · obtain ⟨ae, y, rfl, hcy, hyr, _, hyy⟩ := (HY.out.below hS.out.low hh').at_ (show j < n by omega)
            have hyb := HYN.out y (List.mem_of_getElem? hyy.out)
            obtain ⟨q, hq⟩ : ∃ q, q = i + j := ⟨_, rfl⟩
            rw [← hq] at hw0 hlt2 hS
            obtain ⟨v, hcv, hzv, hvr, hfv⟩ := hS.out.cell hlt2
            rw [mixJ_at (by rw [mulP_len, hlx.out]) hlt2, mulP_at _ _ (by rw [hlx.out]; exact hlt2)] at hzv
            injection hzv with hzv
            have hvb : 0 ≤ v ∧ v < 1000000271 := by rw [← hzv]; exact ⟨Int.emod_nonneg _ (by omega), Int.emod_lt_of_pos _ (by omega)⟩
            have hst := psum_step (j := j) hxx.out hyy.out
            rw [← hq, hzv] at hst
            have HT := hide fun W => spec_Times x y W hxr hyr
            have htb := timesF_bd x y
            have HP := hide fun W => spec_Plus v (timesF x y) W hvr (by constructor <;> omega)
            have hpb := plusF_bd v (timesF x y)
            have hat : (jmulP xs ys (i + 1))[q]? = some (plusF v (timesF x y)) := by
              rw [mulP_at _ _ (by rw [hlx.out]; exact hlt2), hst]
              unfold plusF timesF
              rw [Int.add_emod_emod]
            have hN := hS.out.set q (x := plusF v (timesF x y)) (by constructor <;> omega)
            rw [mixJ_set (by rw [mulP_len, hlx.out]) (by rw [mulP_len, hlx.out]) hlt2 hat] at hN
            have HN := hide hN.drew
            have hqs : Hid (q + 1 = i + (j + 1)) := by show _ = _; omega
            have hjn : j < n := by omega
            clear hyy hzv hst hat hN hS hvb hq
            go_wp2_with fail
            refine still_tail 21 (by kernel_rfl) (by kernel_rfl) ?_
            simp only [List.take_succ_cons, List.take_zero, List.drop_succ_cons, List.drop_zero]
            iterate 18 still_step
            still_call (still_same (HT.out _))
            still_call (still_same (HP.out _))
            still_step
            refine wpStill_nil ?_
            go_wp2_with fail
            go_roundw
            case rel => exact ⟨j + 1, by have := hqs.out; omega, by go_num, by rw [← hqs.out]; exact HN.out⟩
            case measure => simp [intOf]; omega
          · have hqn : i + j = n := by omega
            rw [hqn] at hS hw0
            rw [mixJ_all (by rw [mulP_len, hlx.out]) (by rw [mulP_len, hlx.out])] at hS
            have hqn2 := hide hqn
            clear hqn
            go_wp2_with fail
            go_roundw
            case rel => exact ⟨i + 1, by omega, by go_num, hS.out⟩
            case measure => simp [intOf]; omega
    · obtain rfl : n = i := by omega
      have hE : Hid (jmul xs ys = jmulP xs ys n) := by show _ = _; rw [jmul, hlx.out]
      go_wp2_with fail
      go_ret
      exact ⟨_, rfl, by rw [hE.out]; exact hS.out.done⟩
end Go.Proofs.Ytlmkjfgomlamhaa
