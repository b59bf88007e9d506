/- Fields: whether they are well formed. -/
import Derived.Test.YtjamdnbabfodkaaPoly3
namespace Go.Proofs.Ytjamdnbabfodkaa
open Go.RowKit
set_option linter.unusedSimpArgs false
set_option linter.unusedVariables false
set_option maxRecDepth 20000

theorem field_step {ps : List (List Mono)} {k : Nat} {p : List Mono} {dim : Int} {b : Bool} (hr : b = fieldGo dim (ps.drop k)) (hd : ps.drop k = p :: ps.drop (k + 1)) (hp : polyF p dim = true) : b = fieldGo dim (ps.drop (k + 1)) := by
  rw [hr, hd, fieldGo, if_pos hp]
theorem field_no {ps : List (List Mono)} {k : Nat} {p : List Mono} {dim : Int} {b : Bool} (hr : b = fieldGo dim (ps.drop k)) (hd : ps.drop k = p :: ps.drop (k + 1)) (hp : polyF p dim = false) : b = false := by
  rw [hr, hd, fieldGo, if_neg (by rw [hp]; simp)]
theorem field_bad1 {ps : List (List Mono)} {dim : Int} (h : (decide (1 ≤ dim) && decide (dim ≤ 6)) = false) : fieldF dim ps = false := by unfold fieldF; rw [h]; rfl
theorem field_bad2 {ps : List (List Mono)} {dim : Int} (h : ¬ (ps.length : Int) = dim) : fieldF dim ps = false := by unfold fieldF; rw [decide_eq_false h, Bool.and_false]; rfl
theorem field_start {ps : List (List Mono)} {dim : Int} (h : (decide (1 ≤ dim) && decide (dim ≤ 6)) = true) (h2 : (ps.length : Int) = dim) : fieldF dim ps = fieldGo dim (ps.drop 0) := by unfold fieldF; rw [h, decide_eq_true h2]; rfl

set_option maxRecDepth 100000 in
set_option maxHeartbeats 2000000 in
theorem impl_FieldOk (dim : Int) (A : Option Addr) (n c : Nat) (ps : List (List Mono)) (lo hi : Nat) (w : World) (h : Mons2 w lo hi A n c ps) (hh : hi ≤ w.heap.size) (hlen : ∀ p ∈ ps, ∀ m ∈ p, m.2.length ≤ 1048576) :
    Calls Try.prog 35 #[.agg #[.int .i64 dim, .slice A n c]] w fun e w' => e = .returned (.bool (fieldF dim ps)) ∧ Below w.heap.size w w' := by
  have hcp := h.cap
  have hm := h.max
  have HL := hide hlen
  have hpsl := h.len
  clear hlen
  have hD := hide (fun v : World => impl_isDim dim v)
  have hb0 := below_alloc w (.cells #[.int .i64 dim, .slice A n c] 36)
  have hsz : (w.alloc (.cells #[.int .i64 dim, .slice A n c] 36)).heap.size = w.heap.size + 1 := by simp
  cases hdd : (decide (1 ≤ dim) && decide (dim ≤ 6)) with
  | false =>
    have hF := hide (field_bad1 (ps := ps) hdd)
    rw [hdd] at hD
    clear hdd
    go_enter Try.func35, Try.ntmps35
    go_wp2_with fail
    refine (hD.out _).mono ?_
    rintro e w' ⟨rfl, rfl⟩
    go_wp2_with fail
    go_ret
    exact ⟨ret_bool hF.out.symm, hb0⟩
  | true =>
    rw [hdd] at hD
    by_cases hn : (n : Int) = dim
    · have hF := hide (field_start hdd (by rw [hpsl]; exact hn))
      have hdim : 1 ≤ dim ∧ dim ≤ 6 := by simpa using hdd
      clear hdd
      subst hn
      go_enter Try.func35, Try.ntmps35
      go_wp2_with fail
      refine (hD.out _).mono ?_
      rintro e w' ⟨rfl, rfl⟩
      go_wp2_with fail
      go_loopw [4, 20] (fun _ i wr => ∃ (k : Nat), k ≤ n ∧ i = .int .i64 k ∧ Hid (Below (w.alloc (.cells #[.int .i64 n, .slice A n c] 36)).heap.size (w.alloc (.cells #[.int .i64 n, .slice A n c] 36)) wr) ∧ Hid (fieldF n ps = fieldGo n (ps.drop k))) (fun _ i _ => n - (intOf i).toNat)
      case atStart => exact ⟨0, by omega, rfl, Below.refl _ _, hF⟩
      case round =>
        clear hD hF
        obtain ⟨k, hk, rfl, hb, hr⟩ := hrel
        have hsz2 := hb.out.size
        have H1 := (h.below hb0 hh).below hb.out (by omega)
        have bc0 : wr.cell? ⟨w.heap.size, 0, none⟩ = some (.int .i64 n) := (hb.out.cell (by simp)).trans (by simp)
        have bc1 : wr.cell? ⟨w.heap.size, 1, none⟩ = some (.slice A n c) := (hb.out.cell (by simp)).trans (by simp)
        by_cases hlt : k < n
        · obtain ⟨ad, B, m, d, p, rfl, hc, hi1, hd, hx⟩ := H1.at_ hlt
          have HP := hide (impl_PolynomialOk B m d p lo hi n wr hi1 (by omega) (HL.out _ (List.mem_of_getElem? hx.out)))
          cases hv : polyF p n with
          | true =>
            have hG := hide (field_step hr.out hd.out hv)
            rw [hv] at HP
            clear hv hr hd hx hi1 H1 hpsl h
            go_wp2_with fail
            refine HP.out.mono ?_
            rintro e w' ⟨rfl, hb2⟩
            have HB := hide (hb.out.trans (hb2.mono hsz2))
            clear hb hb2 bc0 bc1 hc
            go_wp2_with fail
            go_roundw
            case rel => exact ⟨k + 1, by omega, by go_num, HB, hG⟩
            case measure => simp [intOf]; omega
          | false =>
            have hG := hide (field_no hr.out hd.out hv)
            rw [hv] at HP
            clear hv hr hd hx hi1 H1 hpsl h
            go_wp2_with fail
            refine HP.out.mono ?_
            rintro e w' ⟨rfl, hb2⟩
            have HB := hb0.trans ((hb.out.trans (hb2.mono hsz2)).mono (by omega))
            clear hb hb2 bc0 bc1 hc
            go_wp2_with fail
            go_ret
            exact ⟨ret_bool hG.out.symm, HB⟩
        · obtain rfl : k = n := by omega
          have e := H1.drop_end
          have hG : Hid (fieldF k ps = true) := by show _ = _; rw [hr.out, e.out, fieldGo]
          have HB2 := hb0.trans (hb.out.mono (by omega))
          go_wp2_with fail
          go_ret
          exact ⟨ret_bool hG.out.symm, HB2⟩
    · have hF := hide (field_bad2 (ps := ps) (dim := dim) (by rw [hpsl]; exact hn))
      have hn' : ((n : Int) != dim) = true := by simpa using hn
      clear hdd hn
      go_enter Try.func35, Try.ntmps35
      go_wp2_with fail
      refine (hD.out _).mono ?_
      rintro e w' ⟨rfl, rfl⟩
      go_wp2_with fail
      go_ret
      exact ⟨ret_bool hF.out.symm, hb0⟩

set_option maxRecDepth 100000 in
set_option maxHeartbeats 2000000 in
theorem spec_FieldOk (dim : Int) (A : Option Addr) (n c : Nat) (ps : List (List Mono)) (lo hi : Nat) (w : World) (h : Mons2 w lo hi A n c ps) (hh : hi ≤ w.heap.size) (hlen : ∀ p ∈ ps, ∀ m ∈ p, m.2.length ≤ 1048576) :
    Calls Try.prog 51 #[.agg #[.int .i64 dim, .slice A n c]] w fun e w' => e = .returned (.bool (fieldF dim ps)) ∧ Below w.heap.size w w' := by
  have hcp := h.cap
  have hm := h.max
  have HL := hide hlen
  have hpsl := h.len
  clear hlen
  have hD := hide (fun v : World => spec_l1In dim 1 6 v)
  have hb0 := below_alloc w (.cells #[.int .i64 dim, .slice A n c] 36)
  have hsz : (w.alloc (.cells #[.int .i64 dim, .slice A n c] 36)).heap.size = w.heap.size + 1 := by simp
  cases hdd : (decide (1 ≤ dim) && decide (dim ≤ 6)) with
  | false =>
    have hF := hide (field_bad1 (ps := ps) hdd)
    rw [hdd] at hD
    clear hdd
    go_enter Try.func51, Try.ntmps51
    go_wp2_with fail
    refine (hD.out _).mono ?_
    rintro e w' ⟨rfl, rfl⟩
    go_wp2_with fail
    go_ret
    exact ⟨ret_bool hF.out.symm, hb0⟩
  | true =>
    rw [hdd] at hD
    by_cases hn : (n : Int) = dim
    · have hF := hide (field_start hdd (by rw [hpsl]; exact hn))
      have hdim : 1 ≤ dim ∧ dim ≤ 6 := by simpa using hdd
      clear hdd
      subst hn
      go_enter Try.func51, Try.ntmps51
      go_wp2_with fail
      refine (hD.out _).mono ?_
      rintro e w' ⟨rfl, rfl⟩
      go_wp2_with fail
      go_loopw [3] (fun i wr => ∃ (k q : Nat), k ≤ n ∧ i = .int .i64 k ∧ wr = (w.alloc (.cells #[.int .i64 n, .slice A n c] 36)).drewN q ∧ Hid (fieldF n ps = fieldGo n (ps.drop k))) (fun i _ => n - (intOf i).toNat)
      case atStart => exact ⟨0, 0, by omega, rfl, rfl, hF⟩
      case round =>
        clear hD hF
        obtain ⟨k, q, hk, rfl, rfl, hr⟩ := hrel
        have H1 := h.below hb0 hh
        by_cases hlt : k < n
        · obtain ⟨ad, B, m, d, p, rfl, hc, hi1, hd, hx⟩ := H1.at_ hlt
          have HP := hide (fun (v : World) (hv : ∃ p, v = (w.alloc (.cells #[.int .i64 n, .slice (some ad) n c] 36)).drewN p) => spec_PolynomialOk B m d p lo hi n v (hi1.same fun _ _ _ => by obtain ⟨p, rfl⟩ := hv; rfl) (HL.out _ (List.mem_of_getElem? hx.out)))
          cases hv : polyF p n with
          | true =>
            have hG := hide (field_step hr.out hd.out hv)
            rw [hv] at HP
            clear hv hr hd hx hi1 H1 hpsl h
            go_wp2_with fail
            go_quiet ((go_at_call 75; first | exact Calls.quiet_of (HP.out _ ⟨_, rfl⟩) | exact quiet_add (HP.out _ ⟨_, rfl⟩)))
            go_wp2_with fail
            go_roundw
            case rel => first | exact ⟨k + 1, _, by omega, by go_num, rfl, hG⟩ | exact ⟨k + 1, _, by omega, by go_num, World.drewN_drewN _ _ _, hG⟩
            case measure => simp [intOf]; omega
          | false =>
            have hG := hide (field_no hr.out hd.out hv)
            rw [hv] at HP
            clear hv hr hd hx hi1 H1 hpsl h
            go_wp2_with fail
            go_quiet ((go_at_call 75; first | exact Calls.quiet_of (HP.out _ ⟨_, rfl⟩) | exact quiet_add (HP.out _ ⟨_, rfl⟩)))
            have HB2 := below_drewN (below_drewN hb0 q) nq
            go_wp2_with fail
            go_ret
            exact ⟨ret_bool hG.out.symm, HB2⟩
        · obtain rfl : k = n := by omega
          have e := H1.drop_end
          have hG : Hid (fieldF k ps = true) := by show _ = _; rw [hr.out, e.out, fieldGo]
          have HB2 := below_drewN hb0 q
          go_wp2_with fail
          go_ret
          exact ⟨ret_bool hG.out.symm, HB2⟩
    · have hF := hide (field_bad2 (ps := ps) (dim := dim) (by rw [hpsl]; exact hn))
      have hn' : ((n : Int) != dim) = true := by simpa using hn
      clear hdd hn
      go_enter Try.func51, Try.ntmps51
      go_wp2_with fail
      refine (hD.out _).mono ?_
      rintro e w' ⟨rfl, rfl⟩
      go_wp2_with fail
      go_ret
      exact ⟨ret_bool hF.out.symm, hb0⟩

end Go.Proofs.Ytjamdnbabfodkaa
