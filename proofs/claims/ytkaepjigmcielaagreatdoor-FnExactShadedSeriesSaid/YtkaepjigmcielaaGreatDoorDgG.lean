/- The series of shaded trees along a path: the reference's walk. -/
import Derived.Test.YtkaepjigmcielaaGreatDoorDgD
import Derived.Test.YtkaepjigmcielaaGreatDoorMzBD
namespace Go.Proofs.YtkaepjigmcielaaGreatDoor
open Go.RowKit
set_option linter.unusedSimpArgs false
set_option linter.unusedVariables false
set_option maxRecDepth 20000

theorem mix_first {y v : List Int} {n : Nat} (hy : y.length = n) (hv : v.length = n) (hn : ∀ x ∈ y, 0 ≤ x ∧ x < 1000000271) (k : Nat) (c : Int) : mixJ (jplus y (laterK v k) c) y k = y := by
  refine tabJ_eq (n := n) ?_ hy fun j hj => ?_
  · simp [mixJ, jplus_len, hy]; omega
  · unfold mixJ
    by_cases h0 : j < k
    · rw [List.getD_eq_getElem?_getD, List.getElem?_append_left (by simp [jplus_len, hy]; omega), List.getElem?_take_of_lt h0, jplus, tabJ_at _ (by omega), Option.getD_some]
      have hz : (laterK v k).getD j 0 = 0 := by rw [laterK, tabJ_get _ (by omega), if_pos h0]
      have hm := hn (y.getD j 0) (by rw [List.getD_eq_getElem?_getD, List.getElem?_eq_getElem (by omega)]; exact List.getElem_mem _)
      rw [hz]
      unfold plusF timesF
      rw [Int.zero_mul]
      omega
    · rw [List.getD_eq_getElem?_getD, List.getElem?_append_right (by simp [jplus_len, hy]; omega)]
      simp only [List.length_take, jplus_len, hy, List.getElem?_drop]
      rw [show k + (j - min k n) = j by omega, ← List.getD_eq_getElem?_getD]
theorem mix_at {y v : List Int} {n : Nat} (hy : y.length = n) (hv : v.length = n) {k j : Nat} {c r x : Int} (hk : k ≤ j) (hj : j < n) (hr : y[j]? = some r) (hx : v[j - k]? = some x) : (jplus y (laterK v k) c)[j]? = some (plusF r (timesF c x)) := by
  rw [jplus, tabJ_at _ (by omega)]
  have h1 : y.getD j 0 = r := by rw [List.getD, hr]; rfl
  have h2 : (laterK v k).getD j 0 = x := by
    rw [laterK, tabJ_get _ (by omega), if_neg (by omega), List.getD, hx]
    rfl
  rw [h1, h2, timesF_comm x c]
theorem cnt_len {n : Nat} (h1 : 1 ≤ n) (h4 : n ≤ 4) : (rowsT n).length = cntF n - cntF (n - 1) ∧ cntF (n - 1) < cntF n ∧ cntF n ≤ 72 := by
  rcases (show n = 1 ∨ n = 2 ∨ n = 3 ∨ n = 4 by omega) with rfl | rfl | rfl | rfl <;> decide +kernel

set_option maxRecDepth 100000 in
set_option maxHeartbeats 8000000 in
theorem spec_ShadedSeries_bad (L : Option Addr) (nL cL : Nat) (cs : List Int) (o : Int) (P : Option Addr) (k e : Nat) (ps : List (List Mono)) (C : Option Addr) (nC cC : Nat) (cols : List Int) (X : Option Addr) (x f : Nat) (xss : List (List Int)) (lo hi : Nat) (w : World)
    (hl : Ints w lo hi L nL cL cs) (hp : Mons2 w lo hi P k e ps) (hc : Ints w lo hi C nC cC cols) (hx : Ints2 w lo hi X x f xss) (hh : hi ≤ w.heap.size) (hlen : ∀ p ∈ ps, ∀ m ∈ p, m.2.length ≤ 1048576) (hbad : shSeOk cs o ps cols xss = false) :
    Calls Tryz.prog 6 #[.slice L nL cL, .agg #[.int .i64 o, .slice P k e], .slice C nC cC, .slice X x f] w fun r w' => r = .returned (.slice none 0 0) ∧ Below w.heap.size w w' := by
  have hcl := hc.len
  have hlc := hl.cap
  have hlm := hl.max
  have hll := hide hl.len
  have b1 := below_alloc w (.cells #[.int .i64 o, .slice P k e] 33)
  have k1 := BlkN.new w #[.int .i64 o, .slice P k e] 33
  go_enter Tryz.func6, Tryz.ntmps6
  go_wp2_with fail
  generalize w.alloc (.cells #[.int .i64 o, .slice P k e] 33) = W1 at b1 k1 ⊢
  have z1 := b1.size
  refine (spec_l8FineJ o P k e ps X x f xss lo hi W1 (hp.below b1 hh) (hx.below b1 hh) (by omega) hlen).mono ?_
  rintro r w3 ⟨rfl, hb3⟩
  have b3 := b1.trans (hb3.mono z1)
  have k3 := k1.below hb3
  have z3 := b3.size
  cases ht : (fieldF o ps && pathOkF xss o) with
  | false =>
    clear ht k1 k3
    go_wp2_with fail
    go_ret
    exact ⟨rfl, b3⟩
  | true =>
    have v0 := k3.c 0 rfl
    have v1 := k3.c 1 rfl
    clear k1
    go_wp2_with fail
    clear v0 v1
    refine (spec_l10Colours o P k e C nC cC cols lo hi w3 (hc.below b3 hh) (by omega)).mono ?_
    rintro r w4 ⟨rfl, hb4⟩
    have b4 := b3.trans (hb4.mono z3)
    cases ht2 : (colGo cols && decide ((nC : Int) = o)) with
    | false =>
      clear ht ht2 k3
      go_wp2_with fail
      go_ret
      exact ⟨rfl, b4⟩
    | true =>
      by_cases h72 : nL = 72
      · subst h72
        have hP : allNumF cs = false := by
          unfold shSeOk colOkF at hbad
          rw [ht, hcl, hll.out, Bool.and_comm (decide _) (colGo cols), ht2] at hbad
          simpa using hbad
        have hAN := hide (spec_l1All L 72 cL cs lo hi w4 (hl.below b4 hh))
        rw [hP] at hAN
        clear ht ht2 k3 hP
        go_wp2_with (go_at_call 22; refine hAN.out.mono ?_; rintro r w5 ⟨rfl, rfl⟩)
        go_ret
        exact ⟨rfl, b4⟩
      · have hne : ((nL : Int) != 72) = true := by simp; omega
        have hne2 : ¬ ((nL : Int) = 72) := by omega
        clear ht ht2 k3
        go_wp2_with fail
        go_ret
        exact ⟨rfl, b4⟩

set_option maxRecDepth 100000 in
set_option maxHeartbeats 8000000 in
theorem spec_ShadedSeries_good (dim np : Nat) (L : Option Addr) (cL : Nat) (cs : List Int) (P : Option Addr) (e : Nat) (ps : List (List Mono)) (C : Option Addr) (cC : Nat) (cols : List Int) (X : Option Addr) (f : Nat) (xss : List (List Int)) (lo hi : Nat) (w : World)
    (hl : Ints w lo hi L 72 cL cs) (hp : Mons2 w lo hi P dim e ps) (hc : Ints w lo hi C dim cC cols) (hx : Ints2 w lo hi X np f xss) (hh : hi ≤ w.heap.size) (hlen : ∀ p ∈ ps, ∀ m ∈ p, m.2.length ≤ 1048576) (hok : ColOk dim np ps cols xss) (hgood : colOkF (dim : Int) ps cols xss = true) (hnum : allNumF cs = true) :
    Calls Tryz.prog 6 #[.slice L 72 cL, .agg #[.int .i64 (dim : Int), .slice P dim e], .slice C dim cC, .slice X np f] w fun r w' => ∃ gR cR, r = .returned (.slice (some ⟨gR, 0, none⟩) np cR) ∧ Ints2 w' w.heap.size w'.heap.size (some ⟨gR, 0, none⟩) np cR (turnL (Jr.rowsJ dim (Jr.serAt dim ps cols (dirO np (turnL xss dim)) cs 72)) np) ∧ Below w.heap.size w w' := by
  have hd0 := hok.d0
  have hd6 := hok.d6
  have hn0 := hok.n0
  have hn7 := hok.n7
  have HK := hide hok
  have HX := hide hx
  have HP := hide hp
  have HC := hide hc
  have HL := hide hl
  have hlc := hl.cap
  have hlm := hl.max
  have hxp := hx.cap
  have hxm := hx.max
  have hcc := hc.cap
  have hmc := hc.max
  have b1 := below_alloc w (.cells #[.int .i64 (dim : Int), .slice P dim e] 33)
  have k1 := BlkN.new w #[.int .i64 (dim : Int), .slice P dim e] 33
  have hnl := hide HK.out.nl
  have hNum : Hid (JNum np (turnL xss dim)) := by have := turn_num HK.out.rw'; rw [hnl.out] at this; exact this
  obtain ⟨Y, hY⟩ : ∃ Y : Nat → Jr np, Y = dirO np (turnL xss dim) := ⟨_, rfl⟩
  rw [← hY]
  have HYY := hide hY
  have hrowY : Hid (Jr.rowsJ dim Y = turnL xss dim) := by
    show _ = _
    rw [hY]
    exact Jr.rows_of (turn_len xss dim) hNum.out
  clear hY
  go_enter Tryz.func6, Tryz.ntmps6
  go_wp2_with fail
  generalize w.alloc (.cells #[.int .i64 (dim : Int), .slice P dim e] 33) = W1 at b1 k1 ⊢
  have z1 := b1.size
  refine (spec_l8FineJ (dim : Int) P dim e ps X np f xss lo hi W1 (hp.below b1 hh) (hx.below b1 hh) (by omega) hlen).mono ?_
  have ht : (fieldF (dim : Int) ps && pathOkF xss (dim : Int)) = true := by unfold colOkF at hgood; simp only [Bool.and_eq_true] at hgood ⊢; exact hgood.1
  rw [ht]
  rintro r w3 ⟨rfl, hb3⟩
  have b3 := b1.trans (hb3.mono z1)
  have k3 := k1.below hb3
  have z3 := b3.size
  have v0 := k3.c 0 rfl
  have v1 := k3.c 1 rfl
  clear ht k1 b1
  go_wp2_with fail
  clear v0 v1
  refine (spec_l10Colours (dim : Int) P dim e C dim cC cols lo hi w3 (hc.below b3 hh) (by omega)).mono ?_
  have ht2 : (colGo cols && decide ((dim : Int) = (dim : Int))) = true := by unfold colOkF at hgood; simp only [Bool.and_eq_true] at hgood; rw [hgood.2.2]; simp
  rw [ht2]
  rintro r w4 ⟨rfl, hb4⟩
  have b4 := hide (b3.trans (hb4.mono z3))
  have k4 := hide (k3.below hb4)
  have z4 := b4.out.size
  have hAN := hide (spec_l1All L 72 cL cs lo hi w4 (hl.below b4.out hh))
  rw [hnum] at hAN
  clear ht2 k3 hb4 b3 hp hc hx hl hok hgood hnum
  obtain ⟨gP, hgP⟩ : ∃ g, g = w.heap.size := ⟨_, rfl⟩
  rw [← hgP] at k4 ⊢
  have hgPe : gP ≤ w.heap.size ∧ w.heap.size ≤ gP := by omega
  clear hgP
  have hgP4 := k4.out.lt
  have hT1 := hide (spec_l8Turn X np f xss lo hi dim w4 (HX.out.below b4.out hh) (by omega) (fun r hr => (HK.out.rw' r hr).1) (by omega) (by omega) (by omega) (by omega))
  go_wp2_with (first
    | (go_at_call 22; refine hAN.out.mono ?_; rintro r w5 ⟨rfl, rfl⟩; clear hAN)
    | (go_at_call 23; refine hT1.out.mono ?_; rintro r w5 ⟨gy, cy, rfl, oy, b5⟩; have z5 := b5.size; have HJ := hide oy; have bJ := hide (b4.out.trans (b5.mono z4)); have k5 := hide (k4.out.below b5); have hT2 := hide (spec_l8TurnG X np f xss lo hi dim w5 (HX.out.below bJ.out hh) (by omega) (fun r hr => (HK.out.rw' r hr).1) (by omega) (by omega) (by omega) (by omega)); clear hT1 oy b5 k4)
    | (go_at_call 23; refine hT2.out.mono ?_; rintro r w6 ⟨gO, cO, gs, rfl, oG, b6⟩; have z6 := b6.size; have HG := hide oG; have bG := hide (bJ.out.trans (b6.mono (by omega))); have k6 := hide (k5.out.below b6); have HJ6 := hide (HJ.out.below b6 (Nat.le_refl _)); clear hT2 oG b6 k5 HJ bJ))
  have hgPw := k6.out.lt
  have hS0 := hide (show Grid w6 w5.heap.size w6.heap.size (some ⟨gO, 0, none⟩) dim cO np gs (Jr.rowsJ dim (Jr.serAt dim ps cols Y cs 0)) from by
    rw [show Jr.rowsJ dim (Jr.serAt dim ps cols Y cs 0) = turnL xss dim from (Jr.rowsJ_ext fun v _ => Jr.serAt_zero dim ps cols Y cs v).trans hrowY.out]
    exact HG.out)
  have hT0 := hide (Touch.refl w5.heap.size w6.heap.size w6)
  have hcO := HG.out.capb
  have hgP5 : gP < w5.heap.size := by omega
  have z56 : w5.heap.size ≤ w6.heap.size := z6
  have hcyJ := HJ6.out.cap
  have hmyJ := HJ6.out.max
  clear HG
  go_loopw [11, 12] (fun kk nn wr => ∃ (n k : Nat), 1 ≤ n ∧ n ≤ 5 ∧ k ≤ 72 ∧ nn = .int .i64 (n : Int) ∧ kk = .int .i64 (k : Int) ∧ Hid (k = cntF (n - 1)) ∧ Hid (Grid wr w5.heap.size w6.heap.size (some ⟨gO, 0, none⟩) dim cO np gs (Jr.rowsJ dim (Jr.serAt dim ps cols Y cs k))) ∧ Hid (Touch w5.heap.size w6.heap.size w6 wr)) (fun _ nn _ => 5 - (intOf nn).toNat)
  case atStart => exact ⟨1, 0, by omega, by omega, by omega, rfl, rfl, rfl, hS0.out, hT0.out⟩
  case round =>
    clear hS0 hT0
    obtain ⟨n, k, hn1, hn5, hk72, rfl, rfl, hkc, hS, hT⟩ := hrel
    have zr := hT.out.size
    have hbw := hide (bG.out.trans (hT.out.below (show w.heap.size ≤ w5.heap.size by omega) (show w.heap.size ≤ w6.heap.size by omega)))
    by_cases hn4 : n ≤ 4
    · have hn4i : (n : Int) ≤ 4 := by omega
      obtain ⟨hcl1, hcl2, hcl3⟩ := cnt_len hn1 hn4
      have hSh := hide (spec_ShadesOf n hn1 hn4 wr)
      have HCL := hide hcl1
      have HKC := hide (show k + (cntF n - cntF (n - 1)) = cntF n by have := hkc.out; omega)
      have hkn : k + (cntF n - cntF (n - 1)) ≤ 72 := by have := HKC.out; omega
      have hk0 := hkc
      clear hcl1 hcl2 hcl3
      go_wp2_with (go_at_call 24; refine hSh.out.mono ?_; rintro r wA ⟨g8, n8, c8, v8, rfl, hR8', bA⟩; have zA := bA.size; have hR8 := hide hR8'; have hc8 := hR8'.capb; have hg8 := hR8'.lt _ rfl; have hg8lo := (hR8'.own.lt g8 rfl).1; have hl8 := hide hR8'.len; have hTA := hide (hT.out.trans (.of_below bA)); have hSA := hide (hS.out.below bA zr); clear hR8' bA hSh)
      have hn8 : n8 = cntF n - cntF (n - 1) := by rw [← hl8.out]; exact HCL.out
      have hkn8 : k + n8 ≤ 72 := by omega
      have HN8 := hide hn8
      have hT0 := hide (Touch.refl w5.heap.size w6.heap.size wA)
      obtain ⟨wB, hwB⟩ : ∃ x : World, x = wr := ⟨_, rfl⟩
      subst hwB
      have hg8' : g8 < wA.heap.size := hg8
      clear hg8
      have hg8 := hg8'
      clear hg8'
      clear hn8 hkn HCL hS hT hbw
      go_loopw [11, 14] (fun kk mm wr => ∃ (m k2 : Nat), m ≤ n8 ∧ k2 ≤ 72 ∧ mm = .int .i64 (m : Int) ∧ kk = .int .i64 (k2 : Int) ∧ Hid (k2 = k + m) ∧ Hid (Grid wr w5.heap.size w6.heap.size (some ⟨gO, 0, none⟩) dim cO np gs (Jr.rowsJ dim (Jr.serAt dim ps cols Y cs k2))) ∧ Hid (Touch w5.heap.size w6.heap.size wA wr)) (fun _ mm _ => n8 - (intOf mm).toNat)
      case atStart => exact ⟨0, k, by omega, hk72, rfl, rfl, (Nat.add_zero k).symm, hSA.out, hT0.out⟩
      case round =>
        clear hSA hT0
        obtain ⟨m, k2, hm, hk2', rfl, rfl, hk2, hS, hT⟩ := hrel
        have zr2 := hT.out.size
        have hT6 := hide (hTA.out.trans hT.out)
        have zr6 := hT6.out.size
        have hbw := hide (bG.out.trans (hT6.out.below (show w.heap.size ≤ w5.heap.size by omega) (show w.heap.size ≤ w6.heap.size by omega)))
        by_cases hlt : m < n8
        · have hk272 : k2 < 72 := by have := hk2.out; omega
          obtain ⟨Bp, mp, dp, lp, hp_, p, hcw, hI1, hlp, hhp, hx, hvx, hform⟩ := hR8.out.at_ hlt
          have hpe : p = listAt (k2 : Int) := by
            have h1 := rowsT_at hn1 hn4 (k := k2) (by have := hk2.out; have := hk0.out; omega) (by have := hk2.out; have := hk0.out; have := HN8.out; omega)
            rw [show k2 - cntF (n - 1) = m by have := hk2.out; have := hk0.out; omega] at h1
            have h2 := hx.out.symm.trans h1
            injection h2
          subst hpe
          have hfine := list_fine hk272
          have hpl := place_len hn1 hn4 (b := k2) (by have := hk2.out; have := hk0.out; omega) (by have := hk2.out; have := hk0.out; have := HN8.out; omega)
          have hmp0 : 0 < mp := by
            have := hI1.len
            omega
          obtain ⟨ad, rfl⟩ : ∃ ad, Bp = some ad := by
            obtain ⟨ad, e, _⟩ := hI1.cells hmp0
            exact ⟨ad, e⟩
          obtain ⟨gp, hgpe⟩ : ∃ g, ad = ⟨g, 0, none⟩ := ⟨_, hform ad rfl⟩
          subst hgpe
          have hSm := hide (hT.out.same (lo' := w6.heap.size) (hi' := wA.heap.size) (.inr (Nat.le_refl _)) (Nat.le_refl _))
          have hIp := hide (hI1.same fun a h1 h2 => hSm.out a (by omega) (by omega))
          have hcp := (hSm.out.cell (p := ⟨g8, m, none⟩) (by show w6.heap.size ≤ g8; omega) (by show g8 < _; omega)).trans hcw
          have hg8w : g8 < wr.heap.size := by omega
          have hpc := hIp.out.cap
          have hpm := hIp.out.max
          have hbx : Hid (BlkN wr gP #[.int .i64 (dim : Int), .slice P dim e]) := k6.out.touch hT6.out (.inl hgP5)
          have cp0 := hbx.out.c 0 rfl
          have cp1 := hbx.out.c 1 rfl
          have hgPr := hbx.out.lt
          have hJr := hide (HJ6.out.same (hT6.out.same (.inl (Nat.le_refl _)) (by omega)))
          obtain ⟨adL, xk, hLa, hcL, hrL, _, hxL⟩ := (HL.out.below hbw.out hh).at_ (show k2 < 72 from hk272)
          have hcLw := World.block_lt_of_cell? wr _ hcL
          obtain ⟨sy, hsy⟩ : ∃ s : Int, s = symL (listAt (k2 : Int)) := ⟨_, rfl⟩
          have hsyb := (tw_facts (list_mem hk272)).bd
          rw [← hsy] at hsyb
          have hsyR : R64 sy := by constructor <;> omega
          have hsyA : Hid (symAt (k2 : Int) = sy) := by show _ = _; rw [hsy, sym_at hk272]
          obtain ⟨fr, hfr⟩ : ∃ fr : Int, fr = fracF xk sy := ⟨_, rfl⟩
          have hfrR : R64 fr := by rw [hfr]; have := fracF_bd xk sy; constructor <;> omega
          have hFrk : Hid (fracF (cs.getD k2 0) (symAt (k2 : Int)) = fr) := by show _ = _; rw [hfr, hsyA.out, List.getD, hxL.out]; rfl
          have hFr : Hid (∀ W : World, Calls Tryz.prog 26 #[.int .i64 xk, .int .i64 sy] W fun e w' => e = .returned (.int .i64 fr) ∧ Below W.heap.size W w') := fun W => by
            refine (spec_Fraction xk sy W hrL hsyR).mono ?_
            rintro e w' ⟨rfl, rfl⟩
            exact ⟨by rw [hfr], Below.refl _ _⟩
          have hTw : Hid (∀ x W, Below wr.heap.size wr x → Below x.heap.size x W → Calls Tryz.prog 27 #[.slice (some ⟨gp, 0, none⟩) mp dp] W fun e w' => e = .returned (.int .i64 sy) ∧ Below W.heap.size W w') := fun x W hx0 hW => by
            have h1 := hx0.size
            have h2 := hW.size
            have := spec_l10Twins 4 gp mp dp (listAt (k2 : Int)) lp hp_ W ((hIp.out.below hx0 (by omega)).below hW (by omega)) (by omega) (list_mem hk272) (by omega)
            rwa [← hsy] at this
          have hDif : Hid (∀ W, Below wr.heap.size wr W → Calls Tryz.prog 25 #[.agg #[.int .i64 (dim : Int), .slice P dim e], .slice C dim cC, .slice (some ⟨gp, 0, none⟩) mp dp, .slice (some ⟨gy, 0, none⟩) dim cy] W fun r w' => ∃ gR cR, r = .returned (.slice (some ⟨gR, 0, none⟩) dim cR) ∧ Ints2 w' W.heap.size w'.heap.size (some ⟨gR, 0, none⟩) dim cR (Jr.rowsJ dim (Jr.dT dim ps cols Y (listAt (k2 : Int)))) ∧ Below W.heap.size W w') := fun W hW => by
            have hbW := hbw.out.trans (hW.mono (by omega))
            have hs := hW.size
            refine (spec_l10Differential P dim e ps lo hi C cC cols lo hi gy cy (turnL xss dim) w4.heap.size w5.heap.size np HK.out.gf hNum.out (by omega) hd6 (by omega) (by omega) 4 gp mp dp (listAt (k2 : Int)) lp hp_ W (hIp.out.below hW (by omega)) (by omega) hfine.1 hfine.2 (Nat.le_refl _) (HP.out.below hbW hh) (HC.out.below hbW hh) (hJr.out.below hW (by omega)) (by omega) (by omega) (by omega)).mono ?_
            rintro r w' ⟨gR, cR, vs, rfl, hL, hb⟩
            exact ⟨gR, cR, rfl, by rw [HYY.out]; exact hL.ints2, hb⟩
          have HPL := hide hpl
          clear hI1 hvx hform hcw hx hxL hsy hfr hpl hfine
          go_wp2_with fail
          refine wp_region_Z (fun W' => Below wr.heap.size wr W') 8 (by kernel_rfl) ?_
          simp only [List.size_toArray, List.length_cons, List.length_nil, Nat.reduceAdd]
          have hS0 : Below wr.heap.size wr wr.drew := (Below.refl wr.heap.size wr).drew
          generalize wr.drew = V at hS0 ⊢
          refine wpAnyZ_take 0 (.agg #[.int .i64 (dim : Int), .slice P dim e]) rfl (by kernel_rfl) (by kernel_rfl) (fun _ _ _ h => h) (by rfl) (fun _ hS => by have q0 := (hS.cell (p := ⟨gP, 0, none⟩) hgPr).trans cp0; have q1 := (hS.cell (p := ⟨gP, 1, none⟩) hgPr).trans cp1; clear hS; first | (simp [go_sem, q0, q1]; done) | go_simp) hS0 ?_
          try simp only [Act.put, List.setIfInBounds_toArray, List.set_cons_zero, List.set_cons_succ, List.getElem_toArray, List.getElem_cons_zero, List.getElem_cons_succ]
          refine wpAnyZ_takeW 1 (.slice C dim cC) rfl (by kernel_rfl) (by kernel_rfl) (fun _ _ _ h => h) (by rfl) (fun _ => by first | (simp [go_sem]; done) | go_simp) hS0 ?_
          try simp only [Act.put, List.setIfInBounds_toArray, List.set_cons_zero, List.set_cons_succ, List.getElem_toArray, List.getElem_cons_zero, List.getElem_cons_succ]
          refine wpAnyZ_takeW 2 (.slice (some ⟨g8, 0, none⟩) n8 c8) rfl (by kernel_rfl) (by kernel_rfl) (fun _ _ _ h => h) (by rfl) (fun _ => by first | (simp [go_sem]; done) | go_simp) hS0 ?_
          try simp only [Act.put, List.setIfInBounds_toArray, List.set_cons_zero, List.set_cons_succ, List.getElem_toArray, List.getElem_cons_zero, List.getElem_cons_succ]
          refine wpAnyZ_takeW 3 (.int .i64 (m : Int)) rfl (by kernel_rfl) (by kernel_rfl) (fun _ _ _ h => h) (by rfl) (fun _ => by first | (simp [go_sem]; done) | go_simp) hS0 ?_
          try simp only [Act.put, List.setIfInBounds_toArray, List.set_cons_zero, List.set_cons_succ, List.getElem_toArray, List.getElem_cons_zero, List.getElem_cons_succ]
          refine wpAnyZ_takeW 4 (.pointer (some ⟨g8, m, none⟩)) rfl (by kernel_rfl) (by kernel_rfl) (fun _ _ _ h => h) (by rfl) (fun _ => by simp [go_sem]; omega) hS0 ?_
          try simp only [Act.put, List.setIfInBounds_toArray, List.set_cons_zero, List.set_cons_succ, List.getElem_toArray, List.getElem_cons_zero, List.getElem_cons_succ]
          refine wpAnyZ_take 5 (.slice (some ⟨gp, 0, none⟩) mp dp) rfl (by kernel_rfl) (by kernel_rfl) (fun _ _ _ h => h) (by rfl) (fun _ hS => by have q0 := (hS.cell (p := ⟨g8, m, none⟩) hg8w).trans hcp; clear hS; first | (simp [go_sem, q0]; done) | go_simp) hS0 ?_
          try simp only [Act.put, List.setIfInBounds_toArray, List.set_cons_zero, List.set_cons_succ, List.getElem_toArray, List.getElem_cons_zero, List.getElem_cons_succ]
          refine wpAnyZ_takeW 6 (.slice (some ⟨gy, 0, none⟩) dim cy) rfl (by kernel_rfl) (by kernel_rfl) (fun _ _ _ h => h) (by rfl) (fun _ => by first | (simp [go_sem]; done) | go_simp) hS0 ?_
          try simp only [Act.put, List.setIfInBounds_toArray, List.set_cons_zero, List.set_cons_succ, List.getElem_toArray, List.getElem_cons_zero, List.getElem_cons_succ]
          refine wpAnyZ_one 7 (by kernel_rfl) rfl (by rfl) (fun K hK => ?_)
          go_simp
          refine (hDif.out V hS0).mono ?_
          rintro e x1 ⟨gd, cd, rfl, oD, b1⟩
          have z1 := hS0.size
          have hS1 := hS0.trans (b1.mono z1)
          have hX0 := hide oD
          have zX0 := (hS0).size
          clear oD
          clear z1
          go_wp2_with fail
          refine hK.out _ _ hS1 ?_
          clear hK K
          try simp only [Act.put, List.setIfInBounds_toArray, List.set_cons_zero, List.set_cons_succ, List.getElem_toArray, List.getElem_cons_zero, List.getElem_cons_succ]
          refine wpAnyZ_last (by kernel_rfl) rfl (by kernel_rfl) (by rfl) (fun K hK => ?_)
          go_simp
          refine hK _ _ ?_
          clear hK K
          have hB9 := hide hS1
          have zB9 := hB9.out.size
          obtain ⟨lX, hlX⟩ : ∃ l, l = V.heap.size := ⟨_, rfl⟩
          rw [← hlX] at hX0 zX0
          clear hlX
          generalize x1 = w9 at hX0 hB9 zB9 ⊢
          have fL := (hB9.out.cell (p := adL.add k2) hcLw).trans hcL
          have fP := (hB9.out.cell (p := ⟨g8, m, none⟩) hg8w).trans hcp
          have fLw := World.block_lt_of_cell? w9 _ fL
          have fPw : g8 < w9.heap.size := by omega
          have hTw9 := hide (fun W => hTw.out w9 W hB9.out)
          clear hcL hcp hTw hDif
          subst hLa
          go_wp2_with fail
          refine wp_region_Z (fun W' => Below w9.heap.size w9 W') 10 (by kernel_rfl) ?_
          simp only [List.size_toArray, List.length_cons, List.length_nil, Nat.reduceAdd]
          have hS0 : Below w9.heap.size w9 w9.drew := (Below.refl w9.heap.size w9).drew
          generalize w9.drew = V at hS0 ⊢
          refine wpAnyZ_takeW 0 (.slice (some adL) 72 cL) rfl (by kernel_rfl) (by kernel_rfl) (fun _ _ _ h => h) (by rfl) (fun _ => by first | (simp [go_sem]; done) | go_simp) hS0 ?_
          try simp only [Act.put, List.setIfInBounds_toArray, List.set_cons_zero, List.set_cons_succ, List.getElem_toArray, List.getElem_cons_zero, List.getElem_cons_succ]
          refine wpAnyZ_takeW 1 (.int .i64 (k2 : Int)) rfl (by kernel_rfl) (by kernel_rfl) (fun _ _ _ h => h) (by rfl) (fun _ => by first | (simp [go_sem]; done) | go_simp) hS0 ?_
          try simp only [Act.put, List.setIfInBounds_toArray, List.set_cons_zero, List.set_cons_succ, List.getElem_toArray, List.getElem_cons_zero, List.getElem_cons_succ]
          refine wpAnyZ_takeW 2 (.pointer (some (adL.add k2))) rfl (by kernel_rfl) (by kernel_rfl) (fun _ _ _ h => h) (by rfl) (fun _ => by simp [go_sem]; omega) hS0 ?_
          try simp only [Act.put, List.setIfInBounds_toArray, List.set_cons_zero, List.set_cons_succ, List.getElem_toArray, List.getElem_cons_zero, List.getElem_cons_succ]
          refine wpAnyZ_take 3 (.int .i64 xk) rfl (by kernel_rfl) (by kernel_rfl) (fun _ _ _ h => h) (by rfl) (fun _ hS => by have q0 := (hS.cell (p := adL.add k2) fLw).trans fL; clear hS; first | (simp [go_sem, q0]; done) | go_simp) hS0 ?_
          try simp only [Act.put, List.setIfInBounds_toArray, List.set_cons_zero, List.set_cons_succ, List.getElem_toArray, List.getElem_cons_zero, List.getElem_cons_succ]
          refine wpAnyZ_takeW 4 (.slice (some ⟨g8, 0, none⟩) n8 c8) rfl (by kernel_rfl) (by kernel_rfl) (fun _ _ _ h => h) (by rfl) (fun _ => by first | (simp [go_sem]; done) | go_simp) hS0 ?_
          try simp only [Act.put, List.setIfInBounds_toArray, List.set_cons_zero, List.set_cons_succ, List.getElem_toArray, List.getElem_cons_zero, List.getElem_cons_succ]
          refine wpAnyZ_takeW 5 (.int .i64 (m : Int)) rfl (by kernel_rfl) (by kernel_rfl) (fun _ _ _ h => h) (by rfl) (fun _ => by first | (simp [go_sem]; done) | go_simp) hS0 ?_
          try simp only [Act.put, List.setIfInBounds_toArray, List.set_cons_zero, List.set_cons_succ, List.getElem_toArray, List.getElem_cons_zero, List.getElem_cons_succ]
          refine wpAnyZ_takeW 6 (.pointer (some ⟨g8, m, none⟩)) rfl (by kernel_rfl) (by kernel_rfl) (fun _ _ _ h => h) (by rfl) (fun _ => by simp [go_sem]; omega) hS0 ?_
          try simp only [Act.put, List.setIfInBounds_toArray, List.set_cons_zero, List.set_cons_succ, List.getElem_toArray, List.getElem_cons_zero, List.getElem_cons_succ]
          refine wpAnyZ_take 7 (.slice (some ⟨gp, 0, none⟩) mp dp) rfl (by kernel_rfl) (by kernel_rfl) (fun _ _ _ h => h) (by rfl) (fun _ hS => by have q0 := (hS.cell (p := ⟨g8, m, none⟩) fPw).trans fP; clear hS; first | (simp [go_sem, q0]; done) | go_simp) hS0 ?_
          try simp only [Act.put, List.setIfInBounds_toArray, List.set_cons_zero, List.set_cons_succ, List.getElem_toArray, List.getElem_cons_zero, List.getElem_cons_succ]
          refine wpAnyZ_one 8 (by kernel_rfl) rfl (by rfl) (fun K hK => ?_)
          go_simp
          refine (hTw9.out V hS0).mono ?_
          rintro e x1 ⟨rfl, b1⟩
          have z1 := hS0.size
          have hS1 := hS0.trans (b1.mono z1)
          clear z1
          go_wp2_with fail
          refine hK.out _ _ hS1 ?_
          clear hK K
          try simp only [Act.put, List.setIfInBounds_toArray, List.set_cons_zero, List.set_cons_succ, List.getElem_toArray, List.getElem_cons_zero, List.getElem_cons_succ]
          refine wpAnyZ_one 9 (by kernel_rfl) rfl (by rfl) (fun K hK => ?_)
          go_simp
          refine (hFr.out x1).mono ?_
          rintro e x2 ⟨rfl, b2⟩
          have z2 := hS1.size
          have hS2 := hS1.trans (b2.mono z2)
          clear z2
          go_wp2_with fail
          refine hK.out _ _ hS2 ?_
          clear hK K
          try simp only [Act.put, List.setIfInBounds_toArray, List.set_cons_zero, List.set_cons_succ, List.getElem_toArray, List.getElem_cons_zero, List.getElem_cons_succ]
          refine wpAnyZ_last (by kernel_rfl) rfl (by kernel_rfl) (by rfl) (fun K hK => ?_)
          go_simp
          refine hK _ _ ?_
          clear hK K
          have hB10 := hide (hB9.out.trans (hS2.mono zB9))
          have hX10 := hide (hX0.out.below hS2 (Nat.le_refl _))
          have zB10 := (hS2).size
          generalize x2 = w10 at hB10 hX10 zB10 ⊢
          clear fL fP hX0
          obtain ⟨A1, hA1⟩ : ∃ A1 : Nat → Jr np, A1 = Jr.serAt dim ps cols Y cs (k2 + 1) := ⟨_, rfl⟩
          obtain ⟨A0, hA0⟩ : ∃ A0 : Nat → Jr np, A0 = Jr.serAt dim ps cols Y cs k2 := ⟨_, rfl⟩
          obtain ⟨Dk, hDk⟩ : ∃ Dk : Nat → Jr np, Dk = Jr.dT dim ps cols Y (listAt (k2 : Int)) := ⟨_, rfl⟩
          have hstep : Hid (∀ v, jplus (Jr.lst (A0 v)) (laterK (Jr.lst (Dk v)) n) fr = Jr.lst (A1 v)) := fun v => by
            rw [Jr.ser_lst, hA1, hA0, hDk, Jr.serAt_succ, Jr.serT, hFrk.out, HPL.out]
          have HA1 := hide hA1
          have hG0 := hide (show Grid w10 w5.heap.size w6.heap.size (some ⟨gO, 0, none⟩) dim cO np gs (Jr.rowsJ dim fun v => if v < 0 then A1 v else A0 v) from by
            rw [ser_start, hA0]
            exact hS.out.below hB10.out zr6)
          rw [← hDk] at hX10
          have hTT := hide (Touch.refl w5.heap.size w6.heap.size w10)
          have hgdX : lX ≤ gd ∧ gd < w9.heap.size := by
            obtain ⟨ad2, e2, h1, h2, _⟩ := hX10.out.cells hd0
            injection e2 with e2
            subst e2
            exact ⟨h1, h2⟩
          have zA10 : wr.heap.size ≤ w10.heap.size := by omega
          obtain ⟨wC, hwC⟩ : ∃ x : World, x = wr := ⟨_, rfl⟩
          subst hwC
          clear hA1 hA0 hDk hS cp0 cp1 hTw9 hFr hB9
          go_wp2_with fail
          go_loopw [17] (fun ii wr => ∃ (i : Nat), i ≤ dim ∧ ii = .int .i64 (i : Int) ∧ Hid (Grid wr w5.heap.size w6.heap.size (some ⟨gO, 0, none⟩) dim cO np gs (Jr.rowsJ dim fun v => if v < i then A1 v else A0 v)) ∧ Hid (Touch w5.heap.size w6.heap.size w10 wr)) (fun ii _ => dim - (intOf ii).toNat)
          case atStart => exact ⟨0, by omega, rfl, hG0.out, hTT.out⟩
          case round =>
            clear hG0 hTT
            obtain ⟨i, hi', rfl, hG, hTT⟩ := hrel
            have zr3 := hTT.out.size
            have hbx3 := (hbx.out.below hB10.out).touch hTT.out (.inl hgP5)
            have dp0 := hbx3.c 0 rfl
            by_cases hlti : i < dim
            · have hSm3 := hide (hTT.out.same (lo' := w6.heap.size) (hi' := w10.heap.size) (.inr (Nat.le_refl _)) (Nat.le_refl _))
              have hX3 := hide (hX10.out.same fun a h1 h2 => hSm3.out a (by omega) (by omega))
              obtain ⟨ax, Bx, mx, dx, xx, eax, hcx, hIx, _, hxx⟩ := hX3.out.at_ hlti
              injection eax with eax
              subst eax
              have hxx2 := hxx.out
              rw [Jr.rowsJ_at _ hlti] at hxx2
              injection hxx2 with hxx2
              subst hxx2
              obtain rfl : np = mx := by rw [← hIx.len, Jr.lst_len]
              have hcx' : wr.cell? ⟨gd, i, none⟩ = some (.slice Bx np dx) := by simpa [Addr.add_lit] using hcx
              have hdxc := hIx.cap
              have hdxm := hIx.max
              have hcdd := hX3.out.cap
              have hmdd := hX3.out.max
              have HIX := hide hIx
              have hstart := hide (show Grid wr w5.heap.size w6.heap.size (some ⟨gO, 0, none⟩) dim cO np gs ((Jr.rowsJ dim fun v => if v < i then A1 v else A0 v).set i (mixJ (Jr.lst (A1 i)) (Jr.lst (A0 i)) n)) from by
                rw [← hstep.out i, mix_first (Jr.lst_len _) (Jr.lst_len _) (Jr.lst_num _) n fr]
                have e : (Jr.rowsJ dim fun v => if v < i then A1 v else A0 v).set i (Jr.lst (A0 i)) = Jr.rowsJ dim fun v => if v < i then A1 v else A0 v := by
                  rw [Jr.rowsJ_set]
                  refine Jr.rowsJ_ext fun v hv => ?_
                  by_cases h : v = i
                  · subst h
                    rw [if_pos rfl, if_neg (by omega)]
                  · rw [if_neg h]
                rw [e]
                exact hG.out)
              have hTs := hide hTT.out
              obtain ⟨wD, hwD⟩ : ∃ x : World, x = wr := ⟨_, rfl⟩
              subst hwD
              have hcxw := World.block_lt_of_cell? wD _ hcx'
              have hT0' := hide (Touch.refl w5.heap.size w6.heap.size wD)
              clear hG hIx hxx hcx
              go_wp2_with fail
              clear dp0
              go_loopw [18] (fun jj wr => ∃ (j : Nat), n ≤ j ∧ (j ≤ np ∨ j ≤ n) ∧ jj = .int .i64 (j : Int) ∧ Hid (Grid wr w5.heap.size w6.heap.size (some ⟨gO, 0, none⟩) dim cO np gs ((Jr.rowsJ dim fun v => if v < i then A1 v else A0 v).set i (mixJ (Jr.lst (A1 i)) (Jr.lst (A0 i)) j))) ∧ Hid (Touch w5.heap.size w6.heap.size wD wr)) (fun jj _ => np - (intOf jj).toNat)
              case atStart => exact ⟨n, Nat.le_refl _, .inr (Nat.le_refl _), rfl, hstart.out, hT0'.out⟩
              case round =>
                clear hstart hT0'
                obtain ⟨j, hnj, hjn, rfl, hG, hT4⟩ := hrel
                have zr4 := hT4.out.size
                by_cases hltj : j < np
                · obtain ⟨gg, xs0, hgg, hxs0, hcO1, hOi, hgg1, hgg2⟩ := hG.out.cells hlti
                  have hxs1 := hxs0
                  rw [List.getElem?_set_self (by rw [Jr.rowsJ_len]; exact hlti)] at hxs1
                  injection hxs1 with hxs1
                  subst hxs1
                  have hll1 : (Jr.lst (A1 i)).length = np := Jr.lst_len _
                  have hll0 : (Jr.lst (A0 i)).length = np := Jr.lst_len _
                  obtain ⟨r, hr⟩ : ∃ r, (Jr.lst (A0 i))[j]? = some r := ⟨_, List.getElem?_eq_getElem (by rw [hll0]; exact hltj)⟩
                  have hrm : (mixJ (Jr.lst (A1 i)) (Jr.lst (A0 i)) j)[j]? = some r := by rw [mixJ_at hll1 hltj]; exact hr
                  have hrb := Jr.lst_num (A0 i) r (List.mem_of_getElem? hr)
                  have hrR : R64 r := by constructor <;> omega
                  obtain ⟨ad9, e9, _, _, hcs9⟩ := hOi.ints.cells (by omega)
                  injection e9 with e9
                  subst e9
                  have hcr : wr.cell? ⟨gg.1, j, none⟩ = some (.int .i64 r) := by simpa [Addr.add_lit] using hcs9 j r hrm
                  have hfr2 := hOi.own.frozenAt j
                  have hgc := hOi.capb
                  obtain ⟨jn, hjn2⟩ : ∃ q : Nat, q = j - n := ⟨_, rfl⟩
                  have hSm4 := hide (hT4.out.same (lo' := w6.heap.size) (hi' := wD.heap.size) (.inr (Nat.le_refl _)) (Nat.le_refl _))
                  have hcx4 := (hSm4.out.cell (p := ⟨gd, i, none⟩) (by show w6.heap.size ≤ gd; omega) (by show gd < _; omega)).trans hcx'
                  obtain ⟨bx, xv, hBx, hcv, hxr, _, hxv⟩ := (HIX.out.same fun a h1 h2 => hSm4.out a (by omega) (by omega)).at_ (k := jn) (by omega)
                  have hxv2 := hxv.out
                  have hat := mix_at (c := fr) hll0 (Jr.lst_len (Dk i)) hnj hltj hr (by rw [← hjn2]; exact hxv2)
                  rw [hstep.out i] at hat
                  have hwj : IntKind.i64.wrap ((j : Int) - (n : Int)) = (jn : Int) := by rw [show (j : Int) - (n : Int) = (jn : Int) by omega]; exact IntWalk.i64_in _ (by omega)
                  have hjnlt : jn < np := by omega
                  have HTm := hide fun W => spec_Times fr xv W hfrR hxr
                  have htb := timesF_bd fr xv
                  have HPp := hide fun W => spec_Plus r (timesF fr xv) W hrR (by constructor <;> omega)
                  have hpb := plusF_bd r (timesF fr xv)
                  have hN := hG.out.put hgg hxs0 j (x := plusF r (timesF fr xv)) (by constructor <;> omega)
                  rw [List.set_set, mixJ_set hll1 hll0 hltj hat] at hN
                  have hNd : Grid (wr.setCell ⟨gg.1, j, none⟩ (.int .i64 (plusF r (timesF fr xv)))).drew w5.heap.size w6.heap.size (some ⟨gO, 0, none⟩) dim cO np gs ((Jr.rowsJ dim fun v => if v < i then A1 v else A0 v).set i (mixJ (Jr.lst (A1 i)) (Jr.lst (A0 i)) (j + 1))) := hN.drew
                  have HN := hide hNd
                  have HT5 := hide ((hT4.out.setCell (p := ⟨gg.1, j, none⟩) (.inl ⟨hgg1, hgg2⟩) (.int .i64 (plusF r (timesF fr xv)))).drew)
                  have hjb : j + 1 ≤ np := hltj
                  subst hBx
                  clear hgg hxs0 hOi hr hrm hcs9 hxv hxv2 hat hN hNd hG hjn hjn2 hSm4 hX3
                  go_wp2_with fail
                  refine still_tail 25 (by kernel_rfl) (by kernel_rfl) ?_
                  simp only [List.take_succ_cons, List.take_zero, List.drop_succ_cons, List.drop_zero]
                  iterate 22 still_step
                  still_call (still_same (HTm.out _))
                  still_call (still_same (HPp.out _))
                  still_step
                  refine wpStill_nil ?_
                  go_wp2_with fail
                  go_roundw
                  case rel => exact ⟨j + 1, by omega, .inl hjb, by go_num, HN.out, HT5.out⟩
                  case measure => simp [intOf]; omega
                · have hG2 := hide (show Grid wr w5.heap.size w6.heap.size (some ⟨gO, 0, none⟩) dim cO np gs (Jr.rowsJ dim fun v => if v < i + 1 then A1 v else A0 v) from by
                    have h := hG.out
                    rw [mixJ_big (Jr.lst_len (A1 i)) (Jr.lst_len (A0 i)) (by omega), ser_set A1 A0] at h
                    exact h)
                  have hTT2 := hide (hTs.out.trans hT4.out)
                  clear hG hjn
                  go_wp2_with fail
                  go_roundw
                  case rel => exact ⟨i + 1, by omega, by go_num, hG2.out, hTT2.out⟩
                  case measure => simp [intOf]; omega
            · obtain rfl : dim = i := by omega
              have hG2 := hide (show Grid wr w5.heap.size w6.heap.size (some ⟨gO, 0, none⟩) dim cO np gs (Jr.rowsJ dim (Jr.serAt dim ps cols Y cs (k2 + 1))) from by
                have h := hG.out
                rw [ser_end, HA1.out] at h
                exact h)
              have hTz := hide ((hT.out.trans (.of_below hB10.out)).trans hTT.out)
              have hk3 : Hid (k2 + 1 = k + (m + 1)) := by have := hk2.out; show _ = _; omega
              clear hG hT hTT hk2
              go_wp2_with fail
              go_roundw
              case rel => exact ⟨m + 1, k2 + 1, by omega, by omega, by go_num, by go_num, hk3.out, hG2.out, hTz.out⟩
              case measure => simp [intOf]; omega
        · obtain rfl : n8 = m := by omega
          have hk3 : Hid (k2 = cntF (n + 1 - 1)) := by
            show _ = _
            rw [hk2.out, HN8.out, Nat.add_sub_cancel]
            exact HKC.out
          clear hk2
          go_wp2_with fail
          go_roundw
          case rel => exact ⟨n + 1, k2, by omega, by omega, hk2', by go_num, rfl, hk3.out, hS.out, hT6.out⟩
          case measure => simp [intOf]; omega
    · obtain rfl : n = 5 := by omega
      have hk4 : k = 72 := by rw [hkc.out]; rfl
      rw [hk4] at hS
      have hE := hide (spec_l8Turn (some ⟨gO, 0, none⟩) dim cO _ w5.heap.size w6.heap.size np wr hS.out.ints2 zr (shAl_len dim np _) (by omega) (by omega) (by omega) (by omega))
      have hn5i : ¬ ((5 : Int) ≤ 4) := by omega
      clear hS hkc hk4
      go_wp2_with (go_at_call 23; refine hE.out.mono ?_; rintro r w9 ⟨gQ, cQ, rfl, oQ, b9⟩; have hQ := hide (oQ.wide2 (lo' := w.heap.size) (by omega) (Nat.le_refl _)); have hBz := hide (hbw.out.trans (b9.mono (by omega))); clear oQ b9 hE)
      go_ret
      exact ⟨_, _, rfl, hQ.out, hBz.out⟩

theorem spec_ShadedSeries_all (L : Option Addr) (nL cL : Nat) (cs : List Int) (o : Int) (P : Option Addr) (k e : Nat) (ps : List (List Mono)) (C : Option Addr) (nC cC : Nat) (cols : List Int) (X : Option Addr) (x f : Nat) (xss : List (List Int)) (lo hi : Nat) (w : World)
    (hl : Ints w lo hi L nL cL cs) (hp : Mons2 w lo hi P k e ps) (hc : Ints w lo hi C nC cC cols) (hx : Ints2 w lo hi X x f xss) (hh : hi ≤ w.heap.size) (hlen : ∀ p ∈ ps, ∀ m ∈ p, m.2.length ≤ 1048576) :
    Calls Tryz.prog 6 #[.slice L nL cL, .agg #[.int .i64 o, .slice P k e], .slice C nC cC, .slice X x f] w fun r w' => ∃ R q cR, r = .returned (.slice R q cR) ∧ Ints2 w' w.heap.size w'.heap.size R q cR (shSe cs o ps cols xss) ∧ Below w.heap.size w w' := by
  cases hk : shSeOk cs o ps cols xss with
  | false =>
    refine (spec_ShadedSeries_bad L nL cL cs o P k e ps C nC cC cols X x f xss lo hi w hl hp hc hx hh hlen hk).mono ?_
    rintro r w' ⟨rfl, hb⟩
    exact ⟨none, 0, 0, rfl, by rw [shSe_bad hk]; exact Ints2.nil_ _ _ _, hb⟩
  | true =>
    have hk2 := hk
    unfold shSeOk at hk2
    simp only [Bool.and_eq_true, decide_eq_true_eq] at hk2
    obtain ⟨dim, np, rfl, hK⟩ := colOk_iff hk2.1
    obtain rfl : k = dim := by rw [← hp.len]; exact hK.gf.1
    obtain rfl : nC = k := by rw [← hc.len]; exact hK.cl
    obtain rfl : x = np := by rw [← hx.len]; exact hK.nl
    obtain rfl : nL = 72 := by have := hl.len; omega
    refine (spec_ShadedSeries_good nC x L cL cs P e ps C cC cols X f xss lo hi w hl hp hc hx hh hlen hK hk2.1 hk2.2.2).mono ?_
    rintro r w' ⟨gR, cR, rfl, hR, hb⟩
    exact ⟨_, _, _, rfl, by rw [shSe_ok hk hK.nl]; exact hR, hb⟩
end Go.Proofs.YtkaepjigmcielaaGreatDoor
