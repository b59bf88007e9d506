/- Polynomials: whether they are well formed: the walks of the program's and of the reference's text. -/
import Derived.Test.YtkaepjigmcielaaGreatDoorMzF
namespace Go.Proofs.YtkaepjigmcielaaGreatDoor
open Go.RowKit
set_option linter.unusedSimpArgs false
set_option linter.unusedVariables false
set_option maxRecDepth 20000

def prevOf (ms : List Mono) (k : Nat) : Option (List Int) := if k = 0 then none else (ms[k - 1]?).map (·.2)
theorem prevOf_succ {ms : List Mono} {k : Nat} {m : Mono} (h : ms[k]? = some m) : prevOf ms (k + 1) = some m.2 := by
  unfold prevOf
  rw [if_neg (by omega), Nat.add_sub_cancel, h]
  rfl
theorem poly_step {ms : List Mono} {k : Nat} {m : Mono} {dim : Int} {b : Bool} (hr : b = polyGo dim (prevOf ms k) (ms.drop k)) (hd : ms.drop k = m :: ms.drop (k + 1)) (hx : ms[k]? = some m) (hm : monoOk dim (prevOf ms k) m = true) : b = polyGo dim (prevOf ms (k + 1)) (ms.drop (k + 1)) := by
  rw [hr, hd, polyGo, if_pos hm, prevOf_succ hx]
theorem poly_no {ms : List Mono} {k : Nat} {m : Mono} {dim : Int} {b : Bool} (hr : b = polyGo dim (prevOf ms k) (ms.drop k)) (hd : ms.drop k = m :: ms.drop (k + 1)) (hm : monoOk dim (prevOf ms k) m = false) : b = false := by
  rw [hr, hd, polyGo, if_neg (by rw [hm]; simp)]
theorem mono_all {dim : Int} {prev : Option (List Int)} {m : Mono} (h1 : (m.1 == 0) = false) (h2 : isNumF m.1 = true) (h3 : (m.2.length : Int) = dim) (h4 : 0 ≤ degGo 0 m.2) (h5 : degGo 0 m.2 ≤ 5) (h6 : pless prev m.2 = true) : monoOk dim prev m = true := by
  unfold monoOk
  rw [h1, h2, decide_eq_true h3, decide_eq_true h4, decide_eq_true h5, h6]
  rfl
theorem mono_1 {dim : Int} {prev : Option (List Int)} {m : Mono} (h : (m.1 == 0) = true) : monoOk dim prev m = false := by unfold monoOk; rw [h]; simp
theorem mono_2 {dim : Int} {prev : Option (List Int)} {m : Mono} (h : isNumF m.1 = false) : monoOk dim prev m = false := by unfold monoOk; rw [h]; simp
theorem mono_3 {dim : Int} {prev : Option (List Int)} {m : Mono} (h : ¬ (m.2.length : Int) = dim) : monoOk dim prev m = false := by unfold monoOk; rw [decide_eq_false h]; simp
theorem mono_4 {dim : Int} {prev : Option (List Int)} {m : Mono} (h : degGo 0 m.2 < 0) : monoOk dim prev m = false := by unfold monoOk; rw [decide_eq_false (by omega : ¬ 0 ≤ degGo 0 m.2)]; simp
theorem mono_5 {dim : Int} {prev : Option (List Int)} {m : Mono} (h : 5 < degGo 0 m.2) : monoOk dim prev m = false := by unfold monoOk; rw [decide_eq_false (by omega : ¬ degGo 0 m.2 ≤ 5)]; simp
theorem mono_6 {dim : Int} {prev : Option (List Int)} {m : Mono} {q : List Int} (hp : prev = some q) (h : lessF m.2 q = false) : monoOk dim prev m = false := by unfold monoOk; subst hp; rw [pless, h]; simp
theorem poly_bad1 {ms : List Mono} {dim : Int} (h : (decide (1 ≤ dim) && decide (dim ≤ 6)) = false) : polyF ms dim = false := by unfold polyF; rw [h]; rfl
theorem poly_bad2 {ms : List Mono} {dim : Int} (h : ¬ ms.length ≤ 12) : polyF ms dim = false := by unfold polyF; rw [decide_eq_false h, Bool.and_false]; rfl
theorem poly_start {ms : List Mono} {dim : Int} (h : (decide (1 ≤ dim) && decide (dim ≤ 6)) = true) (h2 : ms.length ≤ 12) : polyF ms dim = polyGo dim (prevOf ms 0) (ms.drop 0) := by unfold polyF; rw [h, decide_eq_true h2]; rfl

set_option maxRecDepth 100000 in
set_option maxHeartbeats 8000000 in
theorem impl_PolynomialOk (A : Option Addr) (n c : Nat) (ms : List Mono) (lo hi : Nat) (dim : Int) (w : World) (h : Mons w lo hi A n c ms) (hh : hi ≤ w.heap.size) (hlen : ∀ m ∈ ms, m.2.length ≤ 1048576) :
    Calls Tryz.prog 102 #[.slice A n c, .int .i64 dim] w fun e w' => e = .returned (.bool (polyF ms dim)) ∧ Below w.heap.size w w' := by
  have hcp := h.cap
  have hm := h.max
  have HL := hide hlen
  have hmsl := h.len
  clear hlen
  have hD := hide (impl_isDim dim w)
  cases hdd : (decide (1 ≤ dim) && decide (dim ≤ 6)) with
  | false =>
    have hF := hide (poly_bad1 (ms := ms) hdd)
    rw [hdd] at hD
    clear hdd
    go_enter Tryz.func102, Tryz.ntmps102
    go_wp2_with fail
    refine hD.out.mono ?_
    rintro e w' ⟨rfl, rfl⟩
    go_wp2_with fail
    go_ret
    exact ⟨ret_bool hF.out.symm, Below.refl _ _⟩
  | true =>
    rw [hdd] at hD
    by_cases h12 : 12 < n
    · have hF := hide (poly_bad2 (ms := ms) (dim := dim) (by omega))
      clear hdd
      go_enter Tryz.func102, Tryz.ntmps102
      go_wp2_with fail
      refine hD.out.mono ?_
      rintro e w' ⟨rfl, rfl⟩
      go_wp2_with fail
      go_ret
      exact ⟨ret_bool hF.out.symm, Below.refl _ _⟩
    · have hF := hide (poly_start (ms := ms) hdd (by omega))
      have h12' : ¬ (12 < (n : Int)) := by omega
      clear hdd
      go_enter Tryz.func102, Tryz.ntmps102
      go_wp2_with fail
      refine hD.out.mono ?_
      rintro e w' ⟨rfl, rfl⟩
      go_wp2_with fail
      go_loopw [5, 6, 7, 18] (fun _ _ _ i wr => ∃ (k : Nat), k ≤ n ∧ i = .int .i64 k ∧ Hid (Below w.heap.size w wr) ∧ Hid (polyF ms dim = polyGo dim (prevOf ms k) (ms.drop k))) (fun _ _ _ i _ => n - (intOf i).toNat)
      case atStart => exact ⟨0, by omega, rfl, Below.refl _ _, hF⟩
      case round =>
        clear hD hF
        obtain ⟨k, hk, rfl, hb, hr⟩ := hrel
        by_cases hlt : k < n
        · have hsz := hb.out.size
          have H1 := h.below hb.out hh
          obtain ⟨ad, x, B, m, d, xs, rfl, hc1, hc2, hxr, hi1, hd, hx⟩ := H1.at_ hlt
          have hxl := hi1.len
          have hxc := hi1.cap
          have hxm := hi1.max
          have hm20 : m ≤ 1048576 := by
            have := HL.out (x, xs) (List.mem_of_getElem? hx.out)
            simp only at this
            omega
          have bA := below_alloc wr (.cells #[.int .i64 x, .slice B m d] 95)
          have hiA := hi1.below bA (Nat.le_trans hh hsz)
          have hDg := hide (impl_degree B m d xs lo hi (wr.alloc (.cells #[.int .i64 x, .slice B m d] 95)) hiA hm20)
          have hdb := degGo_bd xs 0 (by omega)
          obtain ⟨dg, hdg⟩ : ∃ dg, degGo 0 xs = dg := ⟨_, rfl⟩
          rw [hdg] at hDg hdb
          obtain ⟨hdb1, hdb2⟩ := hdb
          have hN := hide (fun v : World => impl_IsNumber x v)
          obtain ⟨bn, hbn⟩ : ∃ bn, isNumF x = bn := ⟨_, rfl⟩
          rw [hbn] at hN
          have HB := hb.out.trans (bA.mono hsz)
          have cell0 : (wr.alloc (.cells #[.int .i64 x, .slice B m d] 95)).cell? ⟨wr.heap.size, 0, none⟩ = some (.int .i64 x) := by simp
          have cell1 : (wr.alloc (.cells #[.int .i64 x, .slice B m d] 95)).cell? ⟨wr.heap.size, 1, none⟩ = some (.slice B m d) := by simp
          have hXM := hide (And.intro hd.out hx.out)
          have hxlen : Hid ((xs.length : Int) = m) := by show _ = _; omega
          have START : True := trivial
          by_cases hx0 : x = 0
          · have hx0' : (x == 0) = true := by simpa using hx0
            have hG := hide (poly_no hr.out hXM.out.1 (mono_1 hx0'))
            clear hd hx hXM hxlen hr hdg hbn hiA H1 hi1 hxr bA hx0
            go_wp2_with fail
            refine hDg.out.mono ?_
            rintro e w' ⟨rfl, rfl⟩
            go_wp2_with fail
            go_quiet ((first
              | (go_at_call 59; first | exact quiet_left (hN.out _) | exact quiet_add_left (hN.out _))))
            have HB2 := below_drewN HB nq
            clear HB
            go_wp2_with fail
            go_ret
            exact ⟨ret_bool hG.out.symm, HB2⟩
          · have hx0' : (x == 0) = false := by simpa using hx0
            cases bn with
            | false =>
              have hG := hide (poly_no hr.out hXM.out.1 (mono_2 hbn))
              clear hd hx hXM hxlen hr hdg hbn hiA H1 hi1 hxr bA hx0
              go_wp2_with fail
              refine hDg.out.mono ?_
              rintro e w' ⟨rfl, rfl⟩
              go_wp2_with fail
              go_quiet ((first
                | (go_at_call 59; first | exact quiet_left (hN.out _) | exact quiet_add_left (hN.out _))))
              have HB2 := below_drewN HB nq
              clear HB
              go_wp2_with fail
              go_ret
              exact ⟨ret_bool hG.out.symm, HB2⟩
            | true =>
              by_cases hdm : (m : Int) = dim
              · have hdm' : ((m : Int) != dim) = false := by simpa using hdm
                by_cases hd0 : dg < 0
                · have hG := hide (poly_no hr.out hXM.out.1 (mono_4 (by rw [hdg]; exact hd0)))
                  clear hdm
                  clear hd hx hXM hxlen hr hdg hbn hiA H1 hi1 hxr bA hx0
                  go_wp2_with fail
                  refine hDg.out.mono ?_
                  rintro e w' ⟨rfl, rfl⟩
                  go_wp2_with fail
                  go_quiet ((first
                    | (go_at_call 59; first | exact quiet_left (hN.out _) | exact quiet_add_left (hN.out _))))
                  have HB2 := below_drewN HB nq
                  clear HB
                  go_wp2_with fail
                  go_ret
                  exact ⟨ret_bool hG.out.symm, HB2⟩
                · have hn0 : decide (dg < 0) = false := decide_eq_false hd0
                  by_cases hd5 : 5 < dg
                  · have hG := hide (poly_no hr.out hXM.out.1 (mono_5 (by rw [hdg]; exact hd5)))
                    have hn5 : decide (5 < dg) = true := decide_eq_true hd5
                    clear hdm
                    clear hd hx hXM hxlen hr hdg hbn hiA H1 hi1 hxr bA hx0
                    go_wp2_with fail
                    refine hDg.out.mono ?_
                    rintro e w' ⟨rfl, rfl⟩
                    go_wp2_with fail
                    go_quiet ((first
                      | (go_at_call 59; first | exact quiet_left (hN.out _) | exact quiet_add_left (hN.out _))))
                    have HB2 := below_drewN HB nq
                    clear HB
                    go_wp2_with fail
                    go_ret
                    exact ⟨ret_bool hG.out.symm, HB2⟩
                  · have hn5 : decide (5 < dg) = false := decide_eq_false hd5
                    have hmo := fun (h6 : pless (prevOf ms k) xs = true) => poly_step hr.out hXM.out.1 hXM.out.2 (mono_all hx0' hbn (hxlen.out.trans hdm) (by rw [hdg]; omega) (by rw [hdg]; omega) h6)
                    rcases Nat.eq_zero_or_pos k with hk0 | hk0
                    · have hG := hide (hmo (by rw [hk0]; rfl))
                      have hkz : decide (0 < k) = false := decide_eq_false (by omega)
                      clear hdm hmo
                      clear hd hx hXM hxlen hr hdg hbn hiA H1 hi1 hxr bA hx0 hk0
                      go_wp2_with fail
                      refine hDg.out.mono ?_
                      rintro e w' ⟨rfl, rfl⟩
                      go_wp2_with fail
                      go_quiet ((first
                        | (go_at_call 59; first | exact quiet_left (hN.out _) | exact quiet_add_left (hN.out _))))
                      have HB2 := below_drewN HB nq
                      clear HB
                      go_wp2_with fail
                      go_roundw
                      case rel => exact ⟨k + 1, by omega, by go_num, HB2, hG⟩
                      case measure => simp [intOf]; omega
                    · obtain ⟨j, rfl⟩ : ∃ j, k = j + 1 := ⟨k - 1, by omega⟩
                      obtain ⟨ad2, x2, B2, m2, d2, xs2, e2, hp1, hp2, _, hi2, _, hx2⟩ := H1.at_ (k := j) (by omega)
                      injection e2 with e2
                      subst e2
                      have hpv : prevOf ms (j + 1) = some xs2 := prevOf_succ hx2.out
                      have hi2A := hi2.below bA (Nat.le_trans hh hsz)
                      have HC : Hid (∀ q, Calls Tryz.prog 65 #[.slice B2 m2 d2, .slice B m d] ((wr.alloc (.cells #[.int .i64 x, .slice B m d] 95)).drewN q) fun e w' => e = .returned (.int .i64 (cmpF xs2 xs)) ∧ ((wr.alloc (.cells #[.int .i64 x, .slice B m d] 95)).drewN q) = w') := fun q => slices_Compare B2 m2 d2 xs2 lo hi B m d xs lo hi _ (hi2A.same fun _ _ _ => rfl) (hiA.same fun _ _ _ => rfl)
                      have hcl := cmp_less xs2 xs
                      have hmo2 := fun (h6 : lessF xs xs2 = true) => hmo (by rw [hpv]; exact h6)
                      have hno2 := fun (h6 : lessF xs xs2 = false) => poly_no hr.out hXM.out.1 (mono_6 (m := (x, xs)) hpv h6)
                      obtain ⟨z, hz⟩ : ∃ z, cmpF xs2 xs = z := ⟨_, rfl⟩
                      rw [hz] at HC hcl
                      have hpc : (wr.alloc (.cells #[.int .i64 x, .slice B m d] 95)).cell? ⟨(ad.add (j * 2)).block, (ad.add (j * 2)).off + 1, none⟩ = some (.slice B2 m2 d2) := (bA.cell (World.block_lt_of_cell? wr _ hp2)).trans hp2
                      have hj0 : decide ((0 : Int) < ((j + 1 : Nat) : Int)) = true := decide_eq_true (by omega)
                      have hjj : ((j + 1 : Nat) : Int) - 1 = j := by omega
                      have hjn : (j : Int) < n := by omega
                      clear hmo hdm hi2 hi2A hx2 hpv hz hk0
                      cases hls : lessF xs xs2 with
                      | true =>
                        have hG := hide (hmo2 hls)
                        rw [hls] at hcl
                        have hz1 : decide (z ≤ 0) = false := hcl
                        clear hmo2 hno2 hls hcl
                        clear hd hx hXM hxlen hr hdg hbn hiA H1 hi1 hxr bA hx0
                        go_wp2_with fail
                        refine hDg.out.mono ?_
                        rintro e w' ⟨rfl, rfl⟩
                        go_wp2_with fail
                        go_quiet ((first
                          | (go_at_call 59; first | exact quiet_left (hN.out _) | exact quiet_add_left (hN.out _))
                          | (go_at_call 65; first | exact quiet_left (HC.out _) | exact quiet_add_left (HC.out _))))
                        have HB2 := below_drewN HB nq
                        clear HB
                        go_wp2_with fail
                        go_roundw
                        case rel => exact ⟨j + 1 + 1, by omega, by go_num, HB2, hG⟩
                        case measure => simp [intOf]; omega
                      | false =>
                        have hG := hide (hno2 hls)
                        rw [hls] at hcl
                        have hz1 : decide (z ≤ 0) = true := hcl
                        clear hmo2 hno2 hls hcl
                        clear hd hx hXM hxlen hr hdg hbn hiA H1 hi1 hxr bA hx0
                        go_wp2_with fail
                        refine hDg.out.mono ?_
                        rintro e w' ⟨rfl, rfl⟩
                        go_wp2_with fail
                        go_quiet ((first
                          | (go_at_call 59; first | exact quiet_left (hN.out _) | exact quiet_add_left (hN.out _))
                          | (go_at_call 65; first | exact quiet_left (HC.out _) | exact quiet_add_left (HC.out _))))
                        have HB2 := below_drewN HB nq
                        clear HB
                        go_wp2_with fail
                        go_ret
                        exact ⟨ret_bool hG.out.symm, HB2⟩
              · have hdm' : ((m : Int) != dim) = true := by simpa using hdm
                have hG := hide (poly_no hr.out hXM.out.1 (mono_3 (by rw [hxlen.out]; exact hdm)))
                clear hd hx hXM hxlen hr hdg hbn hiA H1 hi1 hxr bA hx0 hdm
                go_wp2_with fail
                refine hDg.out.mono ?_
                rintro e w' ⟨rfl, rfl⟩
                go_wp2_with fail
                go_quiet ((first
                  | (go_at_call 59; first | exact quiet_left (hN.out _) | exact quiet_add_left (hN.out _))))
                have HB2 := below_drewN HB nq
                clear HB
                go_wp2_with fail
                go_ret
                exact ⟨ret_bool hG.out.symm, HB2⟩
        · obtain rfl : k = n := by omega
          have hdr := h.drop_end
          have hG : Hid (polyF ms dim = true) := by show _ = _; rw [hr.out, hdr.out, polyGo]
          have HB := hb.out
          go_wp2_with fail
          go_ret
          exact ⟨ret_bool hG.out.symm, HB⟩
end Go.Proofs.YtkaepjigmcielaaGreatDoor
