/- Polynomials in h: the program's product. -/
import Derived.Test.YtlmkjfgomlamhaaJetI
namespace Go.Proofs.Ytlmkjfgomlamhaa
open Go.RowKit
set_option linter.unusedSimpArgs false
set_option linter.unusedVariables false
set_option maxRecDepth 20000

theorem mulP_zero {xs ys : List Int} {n : Nat} (h : xs.length = n) : jmulP xs ys 0 = zeroJ n := by
  refine tabJ_eq (n := n) (by rw [jmulP, tabJ_len, h]) (zero_len n) fun j hj => ?_
  rw [jmulP, tabJ_get _ (by omega)]
  simp [psum, zeroJ, hj]
theorem mulP_len (xs ys : List Int) (i : Nat) : (jmulP xs ys i).length = xs.length := tabJ_len _ _
theorem mulP_at (xs ys : List Int) {i q : Nat} (h : q < xs.length) : (jmulP xs ys i)[q]? = some (psum xs ys i q % 1000000271) := tabJ_at _ h
theorem psum_step {xs ys : List Int} {i j : Nat} {x y : Int} (hx : xs[i]? = some x) (hy : ys[j]? = some y) : psum xs ys (i + 1) (i + j) % 1000000271 = (psum xs ys i (i + j) % 1000000271 + x * y) % 1000000271 := by
  rw [psum, if_pos (by omega), show i + j - i = j by omega]
  simp only [List.getD, hx, hy, Option.getD_some]
  rw [Int.emod_add_emod]
theorem mul_begin {xs ys : List Int} {i n : Nat} (h : xs.length = n) (hi : i ≤ n) : mixJ (jmulP xs ys (i + 1)) (jmulP xs ys i) i = jmulP xs ys i := by
  refine tabJ_eq (n := n) ?_ (by rw [mulP_len, h]) fun j hj => ?_
  · simp [mixJ, mulP_len, h]; omega
  · unfold mixJ
    by_cases hji : j < i
    · rw [List.getD_eq_getElem?_getD, List.getElem?_append_left (by simp [mulP_len, h]; omega), List.getElem?_take_of_lt hji, mulP_at _ _ (by omega), List.getD_eq_getElem?_getD, mulP_at _ _ (by omega)]
      simp only [Option.getD_some]
      rw [psum, if_neg (by omega), Int.add_zero]
    · rw [List.getD_eq_getElem?_getD, List.getElem?_append_right (by simp [mulP_len, h]; omega)]
      simp only [List.length_take, mulP_len, h, List.getElem?_drop, Nat.min_eq_left hi]
      rw [show i + (j - i) = j by omega, ← List.getD_eq_getElem?_getD]
theorem mul_zero_row {xs ys : List Int} {i : Nat} (hx : xs[i]? = some 0) : jmulP xs ys (i + 1) = jmulP xs ys i := by
  unfold jmulP tabJ
  refine List.map_congr_left fun k _ => ?_
  rw [psum]
  simp [List.getD, hx]

set_option maxRecDepth 100000 in
set_option maxHeartbeats 8000000 in
theorem impl_times (A : Option Addr) (n c : Nat) (xs : List Int) (lo hi : Nat) (B : Option Addr) (d : Nat) (ys : List Int) (lo' hi' : Nat) (w : World) (h : Ints w lo hi A n c xs) (g : Ints w lo' hi' B n d ys) (hh : hi ≤ w.heap.size) (hh' : hi' ≤ w.heap.size) (hn : n ≤ 1000) (hx : ∀ x ∈ xs, 0 ≤ x ∧ x < 1000000271) (hy : ∀ y ∈ ys, 0 ≤ y ∧ y < 1000000271) :
    Calls Try.prog 85 #[.slice A n c, .slice B n d] w fun e w' => ∃ gR, e = .returned (.slice (some ⟨gR, 0, none⟩) n n) ∧ OwnI w' w.heap.size w'.heap.size (some ⟨gR, 0, none⟩) n n (jmul xs ys) ∧ Below w.heap.size w w' := by
  have hcA := h.cap
  have hmA := h.max
  have hcB := g.cap
  have hmB := g.max
  have hmk := make_jet n hn w
  have HX := hide h
  have HY := hide g
  have hlx := hide h.len
  have HXN := hide hx
  have HYN := hide hy
  have s0 := hide (FillS.start w n hn)
  rw [← mulP_zero (ys := ys) hlx.out] at s0
  clear h g hx hy
  go_enter Try.func85, Try.ntmps85
  go_wp2_with fail
  clear hmk
  go_loopw [14] (fun i wr => ∃ (j : Nat), j ≤ n ∧ i = .int .i64 j ∧ Hid (FillS w wr w.heap.size n (jmulP xs ys j))) (fun i _ => n - (intOf i).toNat)
  case atStart => exact ⟨0, by omega, rfl, s0⟩
  case round =>
    clear s0
    obtain ⟨i, hi, rfl, hS⟩ := hrel
    by_cases hlt : i < n
    · obtain ⟨ad, x, rfl, hcx, hxr, _, hxx⟩ := (HX.out.below hS.out.low hh).at_ hlt
      have hxb := HXN.out x (List.mem_of_getElem? hxx.out)
      by_cases hx0 : x = 0
      · subst hx0
        have hN := hS.out
        rw [← mul_zero_row (ys := ys) hxx.out] at hN
        have HN := hide hN
        clear hxx hS hN
        go_wp2_with fail
        go_roundw
        case rel => exact ⟨i + 1, by omega, by go_num, HN.out⟩
        case measure => simp [intOf]; omega
      · have hxne : (x == 0) = false := by simpa using hx0
        clear hx0
        go_wp2_with fail
        go_loopw [8] (fun v wr => ∃ (j : Nat), i + j ≤ n ∧ v = .int .i64 j ∧ Hid (FillS w wr w.heap.size n (mixJ (jmulP xs ys (i + 1)) (jmulP xs ys i) (i + j)))) (fun v _ => n - (intOf v).toNat)
        case atStart => exact ⟨0, by omega, rfl, by show Hid (FillS w wr w.heap.size n (mixJ (jmulP xs ys (i + 1)) (jmulP xs ys i) i)); rw [mul_begin hlx.out (by omega)]; exact hS⟩
        case round =>
          clear hS hcx
          obtain ⟨j, hj, rfl, hS⟩ := hrel
          have hw0 : IntKind.i64.wrap ((i : Int) + (j : Int)) = ((i + j : Nat) : Int) := by rw [show ((i + j : Nat) : Int) = (i : Int) + j by simp]; exact IntWalk.i64_in _ (by omega)
          by_cases hlt2 : i + j < n
          · obtain ⟨ae, y, rfl, hcy, hyr, _, hyy⟩ := (HY.out.below hS.out.low hh').at_ (show j < n by omega)
            have hyb := HYN.out y (List.mem_of_getElem? hyy.out)
            obtain ⟨q, hq⟩ : ∃ q, q = i + j := ⟨_, rfl⟩
            rw [← hq] at hw0 hlt2 hS
            obtain ⟨v, hcv, hzv, hvr, hfv⟩ := hS.out.cell hlt2
            rw [mixJ_at (by rw [mulP_len, hlx.out]) hlt2, mulP_at _ _ (by rw [hlx.out]; exact hlt2)] at hzv
            injection hzv with hzv
            have hvb : 0 ≤ v ∧ v < 1000000271 := by rw [← hzv]; exact ⟨Int.emod_nonneg _ (by omega), Int.emod_lt_of_pos _ (by omega)⟩
            have hst := psum_step (j := j) hxx.out hyy.out
            rw [← hq, hzv] at hst
            have hmb := mul_bd hxb.1 hxb.2 hyb.1 hyb.2
            obtain ⟨p, hp⟩ : ∃ p, p = x * y := ⟨_, rfl⟩
            rw [← hp] at hst hmb
            have hw1 : IntKind.i64.wrap (x * y) = p := by rw [← hp]; exact IntWalk.i64_in _ (by omega)
            obtain ⟨s, hs⟩ : ∃ s, s = v + p := ⟨_, rfl⟩
            have hw2 : IntKind.i64.wrap (v + p) = s := by rw [← hs]; exact IntWalk.i64_in _ (by omega)
            obtain ⟨r, hr⟩ : ∃ r, r = s % 1000000271 := ⟨_, rfl⟩
            have hs0 : 0 ≤ s := by omega
            have hrb : 0 ≤ r ∧ r < 1000000271 := by omega
            have ht : s.tmod 1000000271 = r := by rw [hr]; exact Int.tmod_eq_emod_of_nonneg hs0
            have hw3 : IntKind.i64.wrap r = r := IntWalk.i64_in _ (by omega)
            have hat : (jmulP xs ys (i + 1))[q]? = some r := by rw [mulP_at _ _ (by rw [hlx.out]; exact hlt2), hst, ← hs, hr]
            have hN := hS.out.set q (x := r) (by constructor <;> omega)
            rw [mixJ_set (by rw [mulP_len, hlx.out]) (by rw [mulP_len, hlx.out]) hlt2 hat] at hN
            have HN := hide hN.drew
            have hqs : Hid (q + 1 = i + (j + 1)) := by show _ = _; omega
            have hjn : j < n := by omega
            clear hyy hzv hst hp hs hr hat hN hS hvb hq
            go_wp2_with fail
            refine still_tail 19 (by kernel_rfl) (by kernel_rfl) ?_
            simp only [List.take_succ_cons, List.take_zero, List.drop_succ_cons, List.drop_zero]
            iterate 19 still_step
            refine wpStill_nil ?_
            go_wp2_with fail
            go_roundw
            case rel => exact ⟨j + 1, by have := hqs.out; omega, by go_num, by rw [← hqs.out]; exact HN.out⟩
            case measure => simp [intOf]; omega
          · have hqn : i + j = n := by omega
            rw [hqn] at hS hw0
            rw [mixJ_all (by rw [mulP_len, hlx.out]) (by rw [mulP_len, hlx.out])] at hS
            have hqn2 := hide hqn
            clear hqn
            go_wp2_with fail
            go_roundw
            case rel => exact ⟨i + 1, by omega, by go_num, hS.out⟩
            case measure => simp [intOf]; omega
    · obtain rfl : n = i := by omega
      have hE : Hid (jmul xs ys = jmulP xs ys n) := by show _ = _; rw [jmul, hlx.out]
      go_wp2_with fail
      go_ret
      exact ⟨_, rfl, by rw [hE.out]; exact hS.out.done⟩
end Go.Proofs.Ytlmkjfgomlamhaa
