/- Polynomials: whether they are well formed: the walk of the reference's text. -/
import Derived.Test.YtkaepjigmcielaaGreatDoorPoly2
namespace Go.Proofs.YtkaepjigmcielaaGreatDoor
open Go.RowKit
set_option linter.unusedSimpArgs false
set_option linter.unusedVariables false
set_option maxRecDepth 20000

set_option maxRecDepth 100000 in
set_option maxHeartbeats 8000000 in
theorem spec_PolynomialOk (A : Option Addr) (n c : Nat) (ms : List Mono) (lo hi : Nat) (dim : Int) (w : World) (h : Mons w lo hi A n c ms) (hlen : ∀ m ∈ ms, m.2.length ≤ 1048576) :
    Calls Tryz.prog 80 #[.slice A n c, .int .i64 dim] w fun e w' => e = .returned (.bool (polyF ms dim)) ∧ ∃ q, w' = w.drewN q := by
  have hcp := h.cap
  have hm := h.max
  have HL := hide hlen
  have hmsl := h.len
  clear hlen
  have hD := hide (spec_l1In dim 1 6 w)
  cases hdd : (decide (1 ≤ dim) && decide (dim ≤ 6)) with
  | false =>
    have hF := hide (poly_bad1 (ms := ms) hdd)
    rw [hdd] at hD
    clear hdd
    go_enter Tryz.func80, Tryz.ntmps80
    go_wp2_with fail
    refine hD.out.mono ?_
    rintro e w' ⟨rfl, rfl⟩
    go_wp2_with fail
    go_ret
    exact ⟨ret_bool hF.out.symm, 0, rfl⟩
  | true =>
    rw [hdd] at hD
    have hdim : 1 ≤ dim ∧ dim ≤ 6 := by simpa using hdd
    by_cases h12 : 12 < n
    · have hF := hide (poly_bad2 (ms := ms) (dim := dim) (by omega))
      clear hdd
      go_enter Tryz.func80, Tryz.ntmps80
      go_wp2_with fail
      refine hD.out.mono ?_
      rintro e w' ⟨rfl, rfl⟩
      go_wp2_with fail
      go_ret
      exact ⟨ret_bool hF.out.symm, 0, rfl⟩
    · have hF := hide (poly_start (ms := ms) hdd (by omega))
      have h12' : ¬ (12 < (n : Int)) := by omega
      clear hdd
      go_enter Tryz.func80, Tryz.ntmps80
      go_wp2_with fail
      refine hD.out.mono ?_
      rintro e w' ⟨rfl, rfl⟩
      go_wp2_with fail
      go_loopw [5, 6, 7] (fun i _ _ wr => ∃ (k q : Nat), k ≤ n ∧ i = .int .i64 k ∧ wr = w.drewN q ∧ Hid (polyF ms dim = polyGo dim (prevOf ms k) (ms.drop k))) (fun i _ _ _ => n - (intOf i).toNat)
      case atStart => exact ⟨0, 0, by omega, rfl, rfl, hF⟩
      case round =>
        clear hD hF
        obtain ⟨k, q, hk, rfl, rfl, hr⟩ := hrel
        by_cases hlt : k < n
        · obtain ⟨ad, x, B, m, d, xs, rfl, hc1, hc2, hxr, hi1, hd, hx⟩ := h.at_ hlt
          have hxl := hi1.len
          have hxc := hi1.cap
          have hxm := hi1.max
          have hm20 : m ≤ 1048576 := by
            have := HL.out (x, xs) (List.mem_of_getElem? hx.out)
            simp only at this
            omega
          have hlenI : True := trivial
          have hN := hide (fun v : World => spec_IsNumber x v)
          obtain ⟨bn, hbn⟩ : ∃ bn, isNumF x = bn := ⟨_, rfl⟩
          rw [hbn] at hN
          cases bn with
          | false =>
            have hG := hide (poly_no hr.out hd.out (mono_2 hbn))
            clear hd hx hxr hr hbn hi1 hxl
            go_wp2_with fail
            go_quiet ((first
              | (go_at_call 49; first | exact quiet_left (hN.out _) | exact quiet_add_left (hN.out _))))
            go_wp2_with fail
            go_ret
            first | exact ⟨ret_bool hG.out.symm, _, rfl⟩ | exact ⟨ret_bool hG.out.symm, _, World.drewN_drewN _ _ _⟩
          | true =>
            by_cases hx0 : x = 0
            · have hx0' : (x == 0) = true := by simpa using hx0
              have hG := hide (poly_no hr.out hd.out (mono_1 hx0'))
              clear hd hx hxr hr hbn hi1 hxl hx0
              go_wp2_with fail
              go_quiet ((first
                | (go_at_call 49; first | exact quiet_left (hN.out _) | exact quiet_add_left (hN.out _))))
              go_wp2_with fail
              go_ret
              first | exact ⟨ret_bool hG.out.symm, _, rfl⟩ | exact ⟨ret_bool hG.out.symm, _, World.drewN_drewN _ _ _⟩
            · have hx0' : (x == 0) = false := by simpa using hx0
              by_cases hdm : (m : Int) = dim
              · have hxlen : (xs.length : Int) = dim := by omega
                have HNO := hide (fun (hx : degGo 0 xs < 0 ∨ 5 < degGo 0 xs) => hx.elim (fun hx => poly_no hr.out hd.out (mono_4 hx)) (fun hx => poly_no hr.out hd.out (mono_5 hx)))
                have hmo := fun (h6 : pless (prevOf ms k) xs = true) (h4 : 0 ≤ degGo 0 xs) (h5 : degGo 0 xs ≤ 5) => poly_step hr.out hd.out hx.out (mono_all hx0' hbn hxlen h4 h5 h6)
                have hno6 := fun (xs2 : List Int) (hp : prevOf ms k = some xs2) (h6 : lessF xs xs2 = false) => poly_no hr.out hd.out (mono_6 (m := (x, xs)) hp h6)
                rcases Nat.eq_zero_or_pos k with hk0 | hk0
                · have HYES := hide (hmo (by rw [hk0]; rfl))
                  have hkz : decide (0 < k) = false := decide_eq_false (by omega)
                  clear hmo hno6
                  subst hdm
                  clear hd hx hxr hr hbn hx0 hxlen hk0
                  go_wp2_with fail
                  go_quiet ((first
                    | (go_at_call 49; first | exact quiet_left (hN.out _) | exact quiet_add_left (hN.out _))))
                  go_wp2_with fail
                  rw [World.drewN_drewN]
                  go_loop [6, 7] (fun s j => ∃ (t : Nat) (r : Int), t ≤ m ∧ j = .int .i64 t ∧ s = .int .i64 r ∧ 0 ≤ r ∧ r ≤ 5 * (t : Int) ∧ Hid (degGo 0 xs = degGo r (xs.drop t))) (fun _ j => m - (intOf j).toNat)
                  case atStart => exact ⟨0, 0, by omega, rfl, rfl, by omega, by omega, rfl⟩
                  case round =>
                    obtain ⟨t, r, ht, rfl, rfl, hr0, hr1, hrr⟩ := hrel
                    by_cases hlt2 : t < m
                    · obtain ⟨ae, y, rfl, hcy, hyr, hdy, _⟩ := hi1.at_ hlt2
                      have hst : Hid (degGo 0 xs = if y < 0 ∨ 5 < y then -1 else degGo (r + y) (xs.drop (t+1))) := by show _ = _; rw [hrr.out, hdy.out, degGo]
                      have hI := hide (fun v : World => spec_l1In y 0 5 v)
                      cases hz : (decide (0 ≤ y) && decide (y ≤ 5)) with
                      | false =>
                        have hz2 : y < 0 ∨ 5 < y := by
                          rw [Bool.and_eq_false_iff] at hz
                          rcases hz with hz | hz
                          · left; have := of_decide_eq_false hz; omega
                          · right; have := of_decide_eq_false hz; omega
                        have hG := hide (HNO.out (.inl (by rw [hst.out, if_pos hz2]; omega)))
                        rw [hz] at hI
                        clear hz hz2 hst hrr hyr hdy hlenI
                        go_wp2_with fail
                        refine (hI.out _).mono ?_
                        rintro e w' ⟨rfl, rfl⟩
                        go_wp2_with fail
                        go_ret
                        first | exact ⟨ret_bool hG.out.symm, _, rfl⟩ | exact ⟨ret_bool hG.out.symm, _, World.drewN_drewN _ _ _⟩
                      | true =>
                        have hz2 : 0 ≤ y ∧ y ≤ 5 := by simpa using hz
                        obtain ⟨hz3, hz4⟩ := hz2
                        have hst2 : Hid (degGo 0 xs = degGo (r + y) (xs.drop (t+1))) := hst.out.trans (if_neg (by omega))
                        rw [hz] at hI
                        clear hz hst hrr hyr hdy hlenI
                        go_wp2_with fail
                        refine (hI.out _).mono ?_
                        rintro e w' ⟨rfl, rfl⟩
                        go_wp2_with fail
                        go_round
                        case rel => exact ⟨t + 1, r + y, by omega, by go_num, rfl, by omega, by omega, hst2⟩
                        case measure => simp [intOf]; omega
                    · obtain rfl : t = m := by omega
                      have e := hi1.drop_end
                      have hdg : degGo 0 xs = r := by rw [hrr.out, e.out]; rfl
                      by_cases h5 : 5 < r
                      · have hG := hide (HNO.out (.inr (by rw [hdg]; exact h5)))
                        clear hdg
                        go_wp2_with fail
                        go_ret
                        first | exact ⟨ret_bool hG.out.symm, _, rfl⟩ | exact ⟨ret_bool hG.out.symm, _, World.drewN_drewN _ _ _⟩
                      · have hG := hide (HYES.out (by rw [hdg]; omega) (by rw [hdg]; omega))
                        clear hdg
                        go_wp2_with fail
                        go_roundw
                        case rel => first | exact ⟨k + 1, _, by omega, by go_num, rfl, hG⟩ | exact ⟨k + 1, _, by omega, by go_num, World.drewN_drewN _ _ _, hG⟩
                        case measure => simp [intOf]; omega
                · obtain ⟨j, hkj⟩ : ∃ j, Hid (k = j + 1) := ⟨k - 1, by show _ = _; omega⟩
                  have hjn : j < n := by have := hkj.out; omega
                  obtain ⟨ad2, x2, B2, m2, d2, xs2, e2, hp1, hp2, _, hi2, _, hx2⟩ := h.at_ (k := j) hjn
                  injection e2 with e2
                  subst e2
                  have hpv : prevOf ms k = some xs2 := by rw [hkj.out]; exact prevOf_succ hx2.out
                  have HC := hide (fun (v : World) (hv : ∃ p, v = w.drewN p) => spec_l2Less B m d xs lo hi B2 m2 d2 xs2 lo hi v (hi1.same fun _ _ _ => by obtain ⟨p, rfl⟩ := hv; rfl) (hi2.same fun _ _ _ => by obtain ⟨p, rfl⟩ := hv; rfl))
                  have hjp : decide (0 < k) = true := decide_eq_true hk0
                  have hjj : (k : Int) - 1 = j := by have := hkj.out; omega
                  cases hls : lessF xs xs2 with
                  | true =>
                    have HYES := hide (hmo (by rw [hpv]; exact hls))
                    rw [hls] at HC
                    clear hmo hno6 hls hk0 hpv hi2 hx2
                    subst hdm
                    clear hd hx hxr hr hbn hx0 hxlen
                    go_wp2_with fail
                    go_quiet ((first
                      | (go_at_call 49; first | exact quiet_left (hN.out _) | exact quiet_add_left (hN.out _))
                      | (go_at_call 81; first | exact Calls.quiet_of (HC.out _ ⟨_, rfl⟩) | exact quiet_add (HC.out _ ⟨_, rfl⟩))))
                    go_wp2_with fail
                    rw [World.drewN_drewN]
                    go_loop [6, 7] (fun s j => ∃ (t : Nat) (r : Int), t ≤ m ∧ j = .int .i64 t ∧ s = .int .i64 r ∧ 0 ≤ r ∧ r ≤ 5 * (t : Int) ∧ Hid (degGo 0 xs = degGo r (xs.drop t))) (fun _ j => m - (intOf j).toNat)
                    case atStart => exact ⟨0, 0, by omega, rfl, rfl, by omega, by omega, rfl⟩
                    case round =>
                      obtain ⟨t, r, ht, rfl, rfl, hr0, hr1, hrr⟩ := hrel
                      by_cases hlt2 : t < m
                      · obtain ⟨ae, y, rfl, hcy, hyr, hdy, _⟩ := hi1.at_ hlt2
                        have hst : Hid (degGo 0 xs = if y < 0 ∨ 5 < y then -1 else degGo (r + y) (xs.drop (t+1))) := by show _ = _; rw [hrr.out, hdy.out, degGo]
                        have hI := hide (fun v : World => spec_l1In y 0 5 v)
                        cases hz : (decide (0 ≤ y) && decide (y ≤ 5)) with
                        | false =>
                          have hz2 : y < 0 ∨ 5 < y := by
                            rw [Bool.and_eq_false_iff] at hz
                            rcases hz with hz | hz
                            · left; have := of_decide_eq_false hz; omega
                            · right; have := of_decide_eq_false hz; omega
                          have hG := hide (HNO.out (.inl (by rw [hst.out, if_pos hz2]; omega)))
                          rw [hz] at hI
                          clear hz hz2 hst hrr hyr hdy hlenI
                          go_wp2_with fail
                          refine (hI.out _).mono ?_
                          rintro e w' ⟨rfl, rfl⟩
                          go_wp2_with fail
                          go_ret
                          first | exact ⟨ret_bool hG.out.symm, _, rfl⟩ | exact ⟨ret_bool hG.out.symm, _, World.drewN_drewN _ _ _⟩
                        | true =>
                          have hz2 : 0 ≤ y ∧ y ≤ 5 := by simpa using hz
                          obtain ⟨hz3, hz4⟩ := hz2
                          have hst2 : Hid (degGo 0 xs = degGo (r + y) (xs.drop (t+1))) := hst.out.trans (if_neg (by omega))
                          rw [hz] at hI
                          clear hz hst hrr hyr hdy hlenI
                          go_wp2_with fail
                          refine (hI.out _).mono ?_
                          rintro e w' ⟨rfl, rfl⟩
                          go_wp2_with fail
                          go_round
                          case rel => exact ⟨t + 1, r + y, by omega, by go_num, rfl, by omega, by omega, hst2⟩
                          case measure => simp [intOf]; omega
                      · obtain rfl : t = m := by omega
                        have e := hi1.drop_end
                        have hdg : degGo 0 xs = r := by rw [hrr.out, e.out]; rfl
                        by_cases h5 : 5 < r
                        · have hG := hide (HNO.out (.inr (by rw [hdg]; exact h5)))
                          clear hdg
                          go_wp2_with fail
                          go_ret
                          first | exact ⟨ret_bool hG.out.symm, _, rfl⟩ | exact ⟨ret_bool hG.out.symm, _, World.drewN_drewN _ _ _⟩
                        · have hG := hide (HYES.out (by rw [hdg]; omega) (by rw [hdg]; omega))
                          clear hdg
                          go_wp2_with fail
                          go_roundw
                          case rel => first | exact ⟨k + 1, _, by omega, by go_num, rfl, hG⟩ | exact ⟨k + 1, _, by omega, by go_num, World.drewN_drewN _ _ _, hG⟩
                          case measure => simp [intOf]; omega
                  | false =>
                    have hG := hide (hno6 xs2 hpv hls)
                    rw [hls] at HC
                    clear hmo hno6 hls hk0 hpv hi2 hx2 HNO
                    clear hd hx hxr hr hbn hi1 hxl hx0 hxlen
                    go_wp2_with fail
                    go_quiet ((first
                      | (go_at_call 49; first | exact quiet_left (hN.out _) | exact quiet_add_left (hN.out _))
                      | (go_at_call 81; first | exact Calls.quiet_of (HC.out _ ⟨_, rfl⟩) | exact quiet_add (HC.out _ ⟨_, rfl⟩))))
                    go_wp2_with fail
                    go_ret
                    first | exact ⟨ret_bool hG.out.symm, _, rfl⟩ | exact ⟨ret_bool hG.out.symm, _, World.drewN_drewN _ _ _⟩
              · have hdm' : ((m : Int) != dim) = true := by simpa using hdm
                have hG := hide (poly_no hr.out hd.out (mono_3 (by rw [hxl]; exact hdm)))
                clear hd hx hxr hr hbn hi1 hxl hx0 hdm
                go_wp2_with fail
                go_quiet ((first
                  | (go_at_call 49; first | exact quiet_left (hN.out _) | exact quiet_add_left (hN.out _))))
                go_wp2_with fail
                go_ret
                first | exact ⟨ret_bool hG.out.symm, _, rfl⟩ | exact ⟨ret_bool hG.out.symm, _, World.drewN_drewN _ _ _⟩
        · obtain rfl : k = n := by omega
          have hdr := h.drop_end
          have hG : Hid (polyF ms dim = true) := by show _ = _; rw [hr.out, hdr.out, polyGo]
          go_wp2_with fail
          go_ret
          exact ⟨ret_bool hG.out.symm, _, rfl⟩
end Go.Proofs.YtkaepjigmcielaaGreatDoor
/- Fields: whether they are well formed. -/
namespace Go.Proofs.YtkaepjigmcielaaGreatDoor
open Go.RowKit
set_option linter.unusedSimpArgs false
set_option linter.unusedVariables false
set_option maxRecDepth 20000

theorem field_step {ps : List (List Mono)} {k : Nat} {p : List Mono} {dim : Int} {b : Bool} (hr : b = fieldGo dim (ps.drop k)) (hd : ps.drop k = p :: ps.drop (k + 1)) (hp : polyF p dim = true) : b = fieldGo dim (ps.drop (k + 1)) := by
  rw [hr, hd, fieldGo, if_pos hp]
theorem field_no {ps : List (List Mono)} {k : Nat} {p : List Mono} {dim : Int} {b : Bool} (hr : b = fieldGo dim (ps.drop k)) (hd : ps.drop k = p :: ps.drop (k + 1)) (hp : polyF p dim = false) : b = false := by
  rw [hr, hd, fieldGo, if_neg (by rw [hp]; simp)]
theorem field_bad1 {ps : List (List Mono)} {dim : Int} (h : (decide (1 ≤ dim) && decide (dim ≤ 6)) = false) : fieldF dim ps = false := by unfold fieldF; rw [h]; rfl
theorem field_bad2 {ps : List (List Mono)} {dim : Int} (h : ¬ (ps.length : Int) = dim) : fieldF dim ps = false := by unfold fieldF; rw [decide_eq_false h, Bool.and_false]; rfl
theorem field_start {ps : List (List Mono)} {dim : Int} (h : (decide (1 ≤ dim) && decide (dim ≤ 6)) = true) (h2 : (ps.length : Int) = dim) : fieldF dim ps = fieldGo dim (ps.drop 0) := by unfold fieldF; rw [h, decide_eq_true h2]; rfl

set_option maxRecDepth 100000 in
set_option maxHeartbeats 2000000 in
theorem impl_FieldOk (dim : Int) (A : Option Addr) (n c : Nat) (ps : List (List Mono)) (lo hi : Nat) (w : World) (h : Mons2 w lo hi A n c ps) (hh : hi ≤ w.heap.size) (hlen : ∀ p ∈ ps, ∀ m ∈ p, m.2.length ≤ 1048576) :
    Calls Tryz.prog 86 #[.agg #[.int .i64 dim, .slice A n c]] w fun e w' => e = .returned (.bool (fieldF dim ps)) ∧ Below w.heap.size w w' := by
  have hcp := h.cap
  have hm := h.max
  have HL := hide hlen
  have hpsl := h.len
  clear hlen
  have hD := hide (fun v : World => impl_isDim dim v)
  have hb0 := below_alloc w (.cells #[.int .i64 dim, .slice A n c] 33)
  have hsz : (w.alloc (.cells #[.int .i64 dim, .slice A n c] 33)).heap.size = w.heap.size + 1 := by simp
  cases hdd : (decide (1 ≤ dim) && decide (dim ≤ 6)) with
  | false =>
    have hF := hide (field_bad1 (ps := ps) hdd)
    rw [hdd] at hD
    clear hdd
    go_enter Tryz.func86, Tryz.ntmps86
    go_wp2_with fail
    refine (hD.out _).mono ?_
    rintro e w' ⟨rfl, rfl⟩
    go_wp2_with fail
    go_ret
    exact ⟨ret_bool hF.out.symm, hb0⟩
  | true =>
    rw [hdd] at hD
    by_cases hn : (n : Int) = dim
    · have hF := hide (field_start hdd (by rw [hpsl]; exact hn))
      have hdim : 1 ≤ dim ∧ dim ≤ 6 := by simpa using hdd
      clear hdd
      subst hn
      go_enter Tryz.func86, Tryz.ntmps86
      go_wp2_with fail
      refine (hD.out _).mono ?_
      rintro e w' ⟨rfl, rfl⟩
      go_wp2_with fail
      go_loopw [4, 20] (fun _ i wr => ∃ (k : Nat), k ≤ n ∧ i = .int .i64 k ∧ Hid (Below (w.alloc (.cells #[.int .i64 n, .slice A n c] 33)).heap.size (w.alloc (.cells #[.int .i64 n, .slice A n c] 33)) wr) ∧ Hid (fieldF n ps = fieldGo n (ps.drop k))) (fun _ i _ => n - (intOf i).toNat)
      case atStart => exact ⟨0, by omega, rfl, Below.refl _ _, hF⟩
      case round =>
        clear hD hF
        obtain ⟨k, hk, rfl, hb, hr⟩ := hrel
        have hsz2 := hb.out.size
        have H1 := (h.below hb0 hh).below hb.out (by omega)
        have bc0 : wr.cell? ⟨w.heap.size, 0, none⟩ = some (.int .i64 n) := (hb.out.cell (by simp)).trans (by simp)
        have bc1 : wr.cell? ⟨w.heap.size, 1, none⟩ = some (.slice A n c) := (hb.out.cell (by simp)).trans (by simp)
        by_cases hlt : k < n
        · obtain ⟨ad, B, m, d, p, rfl, hc, hi1, hd, hx⟩ := H1.at_ hlt
          have HP := hide (impl_PolynomialOk B m d p lo hi n wr hi1 (by omega) (HL.out _ (List.mem_of_getElem? hx.out)))
          cases hv : polyF p n with
          | true =>
            have hG := hide (field_step hr.out hd.out hv)
            rw [hv] at HP
            clear hv hr hd hx hi1 H1 hpsl h
            go_wp2_with fail
            refine HP.out.mono ?_
            rintro e w' ⟨rfl, hb2⟩
            have HB := hide (hb.out.trans (hb2.mono hsz2))
            clear hb hb2 bc0 bc1 hc
            go_wp2_with fail
            go_roundw
            case rel => exact ⟨k + 1, by omega, by go_num, HB, hG⟩
            case measure => simp [intOf]; omega
          | false =>
            have hG := hide (field_no hr.out hd.out hv)
            rw [hv] at HP
            clear hv hr hd hx hi1 H1 hpsl h
            go_wp2_with fail
            refine HP.out.mono ?_
            rintro e w' ⟨rfl, hb2⟩
            have HB := hb0.trans ((hb.out.trans (hb2.mono hsz2)).mono (by omega))
            clear hb hb2 bc0 bc1 hc
            go_wp2_with fail
            go_ret
            exact ⟨ret_bool hG.out.symm, HB⟩
        · obtain rfl : k = n := by omega
          have e := H1.drop_end
          have hG : Hid (fieldF k ps = true) := by show _ = _; rw [hr.out, e.out, fieldGo]
          have HB2 := hb0.trans (hb.out.mono (by omega))
          go_wp2_with fail
          go_ret
          exact ⟨ret_bool hG.out.symm, HB2⟩
    · have hF := hide (field_bad2 (ps := ps) (dim := dim) (by rw [hpsl]; exact hn))
      have hn' : ((n : Int) != dim) = true := by simpa using hn
      clear hdd hn
      go_enter Tryz.func86, Tryz.ntmps86
      go_wp2_with fail
      refine (hD.out _).mono ?_
      rintro e w' ⟨rfl, rfl⟩
      go_wp2_with fail
      go_ret
      exact ⟨ret_bool hF.out.symm, hb0⟩

set_option maxRecDepth 100000 in
set_option maxHeartbeats 2000000 in
theorem spec_FieldOk (dim : Int) (A : Option Addr) (n c : Nat) (ps : List (List Mono)) (lo hi : Nat) (w : World) (h : Mons2 w lo hi A n c ps) (hh : hi ≤ w.heap.size) (hlen : ∀ p ∈ ps, ∀ m ∈ p, m.2.length ≤ 1048576) :
    Calls Tryz.prog 46 #[.agg #[.int .i64 dim, .slice A n c]] w fun e w' => e = .returned (.bool (fieldF dim ps)) ∧ Below w.heap.size w w' := by
  have hcp := h.cap
  have hm := h.max
  have HL := hide hlen
  have hpsl := h.len
  clear hlen
  have hD := hide (fun v : World => spec_l1In dim 1 6 v)
  have hb0 := below_alloc w (.cells #[.int .i64 dim, .slice A n c] 33)
  have hsz : (w.alloc (.cells #[.int .i64 dim, .slice A n c] 33)).heap.size = w.heap.size + 1 := by simp
  cases hdd : (decide (1 ≤ dim) && decide (dim ≤ 6)) with
  | false =>
    have hF := hide (field_bad1 (ps := ps) hdd)
    rw [hdd] at hD
    clear hdd
    go_enter Tryz.func46, Tryz.ntmps46
    go_wp2_with fail
    refine (hD.out _).mono ?_
    rintro e w' ⟨rfl, rfl⟩
    go_wp2_with fail
    go_ret
    exact ⟨ret_bool hF.out.symm, hb0⟩
  | true =>
    rw [hdd] at hD
    by_cases hn : (n : Int) = dim
    · have hF := hide (field_start hdd (by rw [hpsl]; exact hn))
      have hdim : 1 ≤ dim ∧ dim ≤ 6 := by simpa using hdd
      clear hdd
      subst hn
      go_enter Tryz.func46, Tryz.ntmps46
      go_wp2_with fail
      refine (hD.out _).mono ?_
      rintro e w' ⟨rfl, rfl⟩
      go_wp2_with fail
      go_loopw [3] (fun i wr => ∃ (k q : Nat), k ≤ n ∧ i = .int .i64 k ∧ wr = (w.alloc (.cells #[.int .i64 n, .slice A n c] 33)).drewN q ∧ Hid (fieldF n ps = fieldGo n (ps.drop k))) (fun i _ => n - (intOf i).toNat)
      case atStart => exact ⟨0, 0, by omega, rfl, rfl, hF⟩
      case round =>
        clear hD hF
        obtain ⟨k, q, hk, rfl, rfl, hr⟩ := hrel
        have H1 := h.below hb0 hh
        by_cases hlt : k < n
        · obtain ⟨ad, B, m, d, p, rfl, hc, hi1, hd, hx⟩ := H1.at_ hlt
          have HP := hide (fun (v : World) (hv : ∃ p, v = (w.alloc (.cells #[.int .i64 n, .slice (some ad) n c] 33)).drewN p) => spec_PolynomialOk B m d p lo hi n v (hi1.same fun _ _ _ => by obtain ⟨p, rfl⟩ := hv; rfl) (HL.out _ (List.mem_of_getElem? hx.out)))
          cases hv : polyF p n with
          | true =>
            have hG := hide (field_step hr.out hd.out hv)
            rw [hv] at HP
            clear hv hr hd hx hi1 H1 hpsl h
            go_wp2_with fail
            go_quiet ((go_at_call 80; first | exact Calls.quiet_of (HP.out _ ⟨_, rfl⟩) | exact quiet_add (HP.out _ ⟨_, rfl⟩)))
            go_wp2_with fail
            go_roundw
            case rel => first | exact ⟨k + 1, _, by omega, by go_num, rfl, hG⟩ | exact ⟨k + 1, _, by omega, by go_num, World.drewN_drewN _ _ _, hG⟩
            case measure => simp [intOf]; omega
          | false =>
            have hG := hide (field_no hr.out hd.out hv)
            rw [hv] at HP
            clear hv hr hd hx hi1 H1 hpsl h
            go_wp2_with fail
            go_quiet ((go_at_call 80; first | exact Calls.quiet_of (HP.out _ ⟨_, rfl⟩) | exact quiet_add (HP.out _ ⟨_, rfl⟩)))
            have HB2 := below_drewN (below_drewN hb0 q) nq
            go_wp2_with fail
            go_ret
            exact ⟨ret_bool hG.out.symm, HB2⟩
        · obtain rfl : k = n := by omega
          have e := H1.drop_end
          have hG : Hid (fieldF k ps = true) := by show _ = _; rw [hr.out, e.out, fieldGo]
          have HB2 := below_drewN hb0 q
          go_wp2_with fail
          go_ret
          exact ⟨ret_bool hG.out.symm, HB2⟩
    · have hF := hide (field_bad2 (ps := ps) (dim := dim) (by rw [hpsl]; exact hn))
      have hn' : ((n : Int) != dim) = true := by simpa using hn
      clear hdd hn
      go_enter Tryz.func46, Tryz.ntmps46
      go_wp2_with fail
      refine (hD.out _).mono ?_
      rintro e w' ⟨rfl, rfl⟩
      go_wp2_with fail
      go_ret
      exact ⟨ret_bool hF.out.symm, hb0⟩

end Go.Proofs.YtkaepjigmcielaaGreatDoor
