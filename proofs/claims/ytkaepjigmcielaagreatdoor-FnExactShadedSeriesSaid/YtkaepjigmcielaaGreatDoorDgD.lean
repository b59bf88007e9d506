/- The series of shaded trees along a path: the program's walk. -/
import Derived.Test.YtkaepjigmcielaaGreatDoorMzBC
namespace Go.Proofs.YtkaepjigmcielaaGreatDoor
open Go.RowKit
set_option linter.unusedSimpArgs false
set_option linter.unusedVariables false
set_option maxRecDepth 20000

theorem cnt_num {k : Nat} (h : k ≤ 4) : countShadesF (k : Int) = (cntF k : Int) := by
  rcases (show k = 0 ∨ k = 1 ∨ k = 2 ∨ k = 3 ∨ k = 4 by omega) with rfl | rfl | rfl | rfl | rfl <;> decide
theorem cntP_le {n : Nat} : cntP n ≤ 72 := by
  unfold cntP
  rcases (show min 4 (n - 1) = 0 ∨ min 4 (n - 1) = 1 ∨ min 4 (n - 1) = 2 ∨ min 4 (n - 1) = 3 ∨ min 4 (n - 1) = 4 by omega) with h | h | h | h | h <;> rw [h] <;> decide
theorem sy_of {e : Sh} {l bs : List Int} {sy : Int} (h : e.key = (l, bs, sy)) : e.sy = sy := congrArg (·.2.2) h
theorem sym_of {b : Nat} {l bs : List Int} {sy : Int} (h : tabS[b]? = some (l, bs, sy)) : symAt (b : Int) = sy := by
  unfold symAt
  rw [Int.toNat_natCast, h]
  rfl
/-- the coordinates behind one that the round has reached -/
theorem ser_set {n dim q : Nat} (A B : Nat → Jr n) : (Jr.rowsJ dim (fun v => if v < q then A v else B v)).set q (Jr.lst (A q)) = Jr.rowsJ dim (fun v => if v < q + 1 then A v else B v) := by
  rw [Jr.rowsJ_set]
  refine Jr.rowsJ_ext fun v hv => ?_
  by_cases h2 : v = q
  · subst h2
    rw [if_pos rfl, if_pos (by omega)]
  · rw [if_neg h2]
    by_cases h1 : v < q
    · rw [if_pos h1, if_pos (by omega)]
    · rw [if_neg h1, if_neg (by omega)]
theorem ser_start {n dim : Nat} (A B : Nat → Jr n) : Jr.rowsJ dim (fun v => if v < 0 then A v else B v) = Jr.rowsJ dim B := Jr.rowsJ_ext fun v hv => if_neg (by omega)
theorem ser_end {n dim : Nat} (A B : Nat → Jr n) : Jr.rowsJ dim (fun v => if v < dim then A v else B v) = Jr.rowsJ dim A := Jr.rowsJ_ext fun v hv => if_pos hv

set_option maxRecDepth 100000 in
set_option maxHeartbeats 8000000 in
theorem impl_ShadedSeries_bad (L : Option Addr) (nL cL : Nat) (cs : List Int) (o : Int) (P : Option Addr) (k e : Nat) (ps : List (List Mono)) (C : Option Addr) (nC cC : Nat) (cols : List Int) (X : Option Addr) (x f : Nat) (xss : List (List Int)) (lo hi : Nat) (w : World)
    (hl : Ints w lo hi L nL cL cs) (hp : Mons2 w lo hi P k e ps) (hc : Ints w lo hi C nC cC cols) (hx : Ints2 w lo hi X x f xss) (hh : hi ≤ w.heap.size) (hlen : ∀ p ∈ ps, ∀ m ∈ p, m.2.length ≤ 1048576) (hbad : shSeOk cs o ps cols xss = false) :
    Calls Tryz.prog 10 #[.slice L nL cL, .agg #[.int .i64 o, .slice P k e], .slice C nC cC, .slice X x f] w fun r w' => r = .returned (.slice none 0 0) ∧ Below w.heap.size w w' := by
  have b1 := below_alloc w (.cells #[.int .i64 o, .slice P k e] 33)
  have hlc := hl.cap
  have hlm := hl.max
  have hll := hide hl.len
  go_enter Tryz.func10, Tryz.ntmps10
  go_wp2_with fail
  generalize w.alloc (.cells #[.int .i64 o, .slice P k e] 33) = W1 at b1 ⊢
  have z1 := b1.size
  refine (impl_coloursOk o P k e ps C nC cC cols X x f xss lo hi W1 (hp.below b1 hh) (hc.below b1 hh) (hx.below b1 hh) (by omega) hlen).mono ?_
  rintro r w2 ⟨rfl, hb2⟩
  have b2 := b1.trans (hb2.mono z1)
  cases ht : colOkF o ps cols xss with
  | false =>
    clear ht
    go_wp2_with fail
    go_ret
    exact ⟨rfl, b2⟩
  | true =>
    by_cases h72 : nL = 72
    · subst h72
      have hP : allNumF cs = false := by
        unfold shSeOk at hbad
        rw [ht, hll.out] at hbad
        simpa using hbad
      have hAN := hide (impl_allNumbers L 72 cL cs lo hi w2 (hl.below b2 hh))
      rw [hP] at hAN
      clear ht hP
      go_wp2_with (go_at_call 32; refine hAN.out.mono ?_; rintro r w3 ⟨rfl, rfl⟩)
      go_ret
      exact ⟨rfl, b2⟩
    · have hne : ((nL : Int) != 72) = true := by simp; omega
      have hne2 : ¬ ((nL : Int) = 72) := by omega
      clear ht
      go_wp2_with fail
      go_ret
      exact ⟨rfl, b2⟩

set_option maxRecDepth 100000 in
set_option maxHeartbeats 8000000 in
theorem impl_ShadedSeries_good (Bt : Nat) (dim np : Nat) (L : Option Addr) (cL : Nat) (cs : List Int) (P : Option Addr) (e : Nat) (ps : List (List Mono)) (C : Option Addr) (cC : Nat) (cols : List Int) (X : Option Addr) (f : Nat) (xss : List (List Int)) (lo hi : Nat) (w : World)
    (hT : TreeV Bt w) (hBt : Bt ≤ w.heap.size) (hl : Ints w lo hi L 72 cL cs) (hp : Mons2 w lo hi P dim e ps) (hc : Ints w lo hi C dim cC cols) (hx : Ints2 w lo hi X np f xss) (hh : hi ≤ w.heap.size) (hlen : ∀ p ∈ ps, ∀ m ∈ p, m.2.length ≤ 1048576) (hok : ColOk dim np ps cols xss) (hgood : colOkF (dim : Int) ps cols xss = true) (hnum : allNumF cs = true) :
    Calls Tryz.prog 10 #[.slice L 72 cL, .agg #[.int .i64 (dim : Int), .slice P dim e], .slice C dim cC, .slice X np f] w fun r w' => ∃ gR cR, r = .returned (.slice (some ⟨gR, 0, none⟩) np cR) ∧ Ros kO 22 w' w.heap.size w'.heap.size (some ⟨gR, 0, none⟩) np cR (turnL (Jr.rowsJ dim (Jr.serAt dim ps cols (dirO np (turnL xss dim)) cs 72)) np) ∧ Below w.heap.size w w' := by
  have hd0 := hok.d0
  have hd6 := hok.d6
  have hn0 := hok.n0
  have hn7 := hok.n7
  have HK := hide hok
  have HT := hide hT
  have HX := hide hx
  have HP := hide hp
  have HC := hide hc
  have HL := hide hl
  have hlc := hl.cap
  have hlm := hl.max
  have hxp := hx.cap
  have hxm := hx.max
  have b1 := below_alloc w (.cells #[.int .i64 (dim : Int), .slice P dim e] 33)
  have k1 := BlkN.new w #[.int .i64 (dim : Int), .slice P dim e] 33
  have hnl := hide HK.out.nl
  have hNum : Hid (JNum np (turnL xss dim)) := by have := turn_num HK.out.rw'; rw [hnl.out] at this; exact this
  obtain ⟨Y, hY⟩ : ∃ Y : Nat → Jr np, Y = dirO np (turnL xss dim) := ⟨_, rfl⟩
  rw [← hY]
  have HYY := hide hY
  have hrowY : Hid (Jr.rowsJ dim Y = turnL xss dim) := by
    show _ = _
    rw [hY]
    exact Jr.rows_of (turn_len xss dim) hNum.out
  have hser : Hid (Jr.rowsJ dim (Jr.serAt dim ps cols Y cs 72) = Jr.rowsJ dim (Jr.serAt dim ps cols Y cs (cntP np))) := Jr.rowsJ_ext fun v _ => ser_all hn0 hn7 dim ps cols Y cs v
  rw [hser.out]
  clear hY hser
  go_enter Tryz.func10, Tryz.ntmps10
  go_wp2_with fail
  generalize w.alloc (.cells #[.int .i64 (dim : Int), .slice P dim e] 33) = W1 at b1 k1 ⊢
  have z1 := b1.size
  refine (impl_coloursOk (dim : Int) P dim e ps C dim cC cols X np f xss lo hi W1 (hp.below b1 hh) (hc.below b1 hh) (hx.below b1 hh) (by omega) hlen).mono ?_
  rw [hgood]
  rintro r w2 ⟨rfl, hb2⟩
  have bO := hide (b1.trans (hb2.mono z1))
  have k2 := hide (k1.below hb2)
  have z2 := bO.out.size
  have hAN := hide (impl_allNumbers L 72 cL cs lo hi w2 (hl.below bO.out hh))
  rw [hnum] at hAN
  obtain ⟨gP, hgP⟩ : ∃ g, g = w.heap.size := ⟨_, rfl⟩
  rw [← hgP] at k2 ⊢
  have hgPe : gP ≤ w.heap.size ∧ w.heap.size ≤ gP := by omega
  have cp0 := k2.out.c 0 rfl
  clear b1 k1 hb2 hp hc hx hl hok hgood hnum hT z1 hgP
  have hJets := hide (impl_jets X np f xss lo hi dim w2 (HX.out.below bO.out hh) (by omega) (fun r hr => by rw [(HK.out.rw' r hr).1]; exact Nat.le_refl _) (by omega) (by omega) (by omega))
  go_wp2_with (first
    | (go_at_call 32; refine hAN.out.mono ?_; rintro r w3 ⟨rfl, rfl⟩)
    | (go_at_call 33; refine hJets.out.mono ?_; rintro r w3 ⟨gy, cy, rfl, oy, b3⟩; have z3 := b3.size; have HJ := hide oy; have bJ := hide (bO.out.trans (b3.mono z2)); have k3 := hide (k2.out.below b3); have hcl := hide (clone_jets gy dim cy (turnL xss dim) w2.heap.size w3.heap.size w3 oy (Nat.le_refl _) (by omega) (by omega)); clear hJets oy b3 cp0)
    | (go_at_call 34; refine hcl.out.mono ?_; rintro r w4 ⟨gC, cC4, vsC, rfl, oC, hgC, b4⟩; have z4 := b4.size; have HC4 := hide oC; have bC := hide (bJ.out.trans (b4.mono (by omega))); have k4 := hide (k3.out.below b4); have HJ4 := hide (HJ.out.below b4 (Nat.le_refl _)); have hgCw := oC.lt _ rfl; have hAll := hide (impl_shadeAll Bt w4 (HT.out.below bC.out hBt) (by omega)); clear hcl oC b4 k3 HJ bJ)
    | (go_at_call 35; refine hAll.out.mono ?_; rintro r w5 ⟨gA, cA, es, rfl, oA, hkey, b5⟩; have z5 := b5.size; have HA := hide oA; have HKEY := hide hkey; have bA := hide (bC.out.trans (b5.mono (by omega))); have k5 := hide (k4.out.below b5); have HJ5 := hide (HJ4.out.below b5 (by omega)); have HC5 := hide (HC4.out.below b5 (Nat.le_refl _)); clear hAll oA hkey b5 k4 HJ4 HC4 bC))
  have hgPw := k5.out.lt
  have hmin : cntF (min 4 (np - 1)) = cntP np := rfl
  have hCn : Hid (∀ W : World, Calls Tryz.prog 37 #[.int .i64 ((min 4 (np - 1) : Nat) : Int)] W fun e w' => e = .returned (.int .i64 ((cntP np : Nat) : Int)) ∧ Below W.heap.size W w') := fun W => by
    have := impl_CountShades ((min 4 (np - 1) : Nat) : Int) W
    rwa [cnt_num (Nat.min_le_left 4 (np - 1)), hmin] at this
  have hDf : Hid (∀ W, Below w5.heap.size w5 W → Calls Tryz.prog 36 #[.slice (some ⟨gA, 0, none⟩) 72 cA, .agg #[.int .i64 (dim : Int), .slice P dim e], .slice C dim cC, .slice (some ⟨gy, 0, none⟩) dim cy, .int .i64 ((cntP np : Nat) : Int)] W fun r w' => ∃ R cR vs, r = .returned (.slice R (cntP np) cR) ∧ Lst kII 52 (fun _ => True) w' W.heap.size w'.heap.size R (cntP np) cR vs ((List.range (cntP np)).map fun (b : Nat) => Jr.rowsJ dim (Jr.dT dim ps cols Y (listAt (b : Int)))) ∧ Below W.heap.size W w') := fun W hW => by
    have hs := hW.size
    have hbW := bA.out.trans (hW.mono (by omega))
    have := impl_shadedDifferentials gA cA es HKEY.out w4.heap.size w5.heap.size (dim : Int) P dim e ps lo hi C cC cols lo hi gy cy (turnL xss dim) w2.heap.size w3.heap.size np (cntP np) W (HA.out.below hW (Nat.le_refl _)) (HP.out.below hbW hh) (HC.out.below hbW hh) (HJ5.out.below hW (by omega)) hs (by omega) (by omega) (by omega) HK.out.gf hNum.out (by omega) hd6 (by omega) (by omega) cntP_le
    rwa [← HYY.out] at this
  obtain ⟨cnt, hcnt⟩ : ∃ c : Nat, c = cntP np := ⟨_, rfl⟩
  have hcnt72 : cnt ≤ 72 := by rw [hcnt]; exact cntP_le
  rw [← hcnt] at hCn hDf
  have HCNT := hide hcnt
  have cp0 := k5.out.c 0 rfl
  have cp1 := k5.out.c 1 rfl
  clear hmin hcnt
  have hw1 : IntKind.i64.wrap ((np : Int) - 1) = ((np - 1 : Nat) : Int) := by rw [show ((np - 1 : Nat) : Int) = (np : Int) - 1 by omega]; exact IntWalk.i64_in _ (by omega)
  go_upto_region 6 with fail
  go_cut [47, 48, 49] (fun s t u wx => ∃ (R : Option Addr) (cR : Nat), s = .slice R cnt cR ∧ t = .int .i64 (cnt : Int) ∧ u = .int .i64 0 ∧ cnt ≤ cR ∧ cR ≤ 9223372036854775807 ∧ Hid (∃ (lw : Nat) (vsD : List Value), w5.heap.size ≤ lw ∧ lw ≤ wx.heap.size ∧ Lst kII 52 (fun _ => True) wx lw wx.heap.size R cnt cR vsD ((List.range cnt).map fun (b : Nat) => Jr.rowsJ dim (Jr.dT dim ps cols Y (listAt (b : Int))))) ∧ Hid (Below w5.heap.size w5 wx))
  case first =>
    refine wp_region_Z (fun W' => Below w5.heap.size w5 W') 10 (by kernel_rfl) ?_
    simp only [List.size_toArray, List.length_cons, List.length_nil, Nat.reduceAdd]
    have hS0 : Below w5.heap.size w5 w5.drew := (Below.refl w5.heap.size w5).drew
    generalize w5.drew = V at hS0 ⊢
    refine wpAnyZ_takeW 0 (.slice (some ⟨gA, 0, none⟩) 72 cA) rfl (by kernel_rfl) (by kernel_rfl) (fun _ _ _ h => h) (by rfl) (fun _ => by first | (simp [go_sem]; done) | go_simp) hS0 ?_
    try simp only [Act.put, List.setIfInBounds_toArray, List.set_cons_zero, List.set_cons_succ, List.getElem_toArray, List.getElem_cons_zero, List.getElem_cons_succ]
    refine wpAnyZ_takeW 2 (.slice C dim cC) rfl (by kernel_rfl) (by kernel_rfl) (fun _ _ _ h => h) (by rfl) (fun _ => by first | (simp [go_sem]; done) | go_simp) hS0 ?_
    try simp only [Act.put, List.setIfInBounds_toArray, List.set_cons_zero, List.set_cons_succ, List.getElem_toArray, List.getElem_cons_zero, List.getElem_cons_succ]
    refine wpAnyZ_takeW 3 (.slice (some ⟨gy, 0, none⟩) dim cy) rfl (by kernel_rfl) (by kernel_rfl) (fun _ _ _ h => h) (by rfl) (fun _ => by first | (simp [go_sem]; done) | go_simp) hS0 ?_
    try simp only [Act.put, List.setIfInBounds_toArray, List.set_cons_zero, List.set_cons_succ, List.getElem_toArray, List.getElem_cons_zero, List.getElem_cons_succ]
    refine wpAnyZ_takeW 4 (.slice X np f) rfl (by kernel_rfl) (by kernel_rfl) (fun _ _ _ h => h) (by rfl) (fun _ => by first | (simp [go_sem]; done) | go_simp) hS0 ?_
    try simp only [Act.put, List.setIfInBounds_toArray, List.set_cons_zero, List.set_cons_succ, List.getElem_toArray, List.getElem_cons_zero, List.getElem_cons_succ]
    refine wpAnyZ_takeW 5 (.int .i64 (np : Int)) rfl (by kernel_rfl) (by kernel_rfl) (fun _ _ _ h => h) (by rfl) (fun _ => by first | (simp [go_sem]; done) | go_simp) hS0 ?_
    try simp only [Act.put, List.setIfInBounds_toArray, List.set_cons_zero, List.set_cons_succ, List.getElem_toArray, List.getElem_cons_zero, List.getElem_cons_succ]
    refine wpAnyZ_takeW 6 (.int .i64 ((np - 1 : Nat) : Int)) rfl (by kernel_rfl) (by kernel_rfl) (fun _ _ _ h => h) (by rfl) (fun _ => by simp [go_sem, hw1]) hS0 ?_
    try simp only [Act.put, List.setIfInBounds_toArray, List.set_cons_zero, List.set_cons_succ, List.getElem_toArray, List.getElem_cons_zero, List.getElem_cons_succ]
    refine wpAnyZ_takeW 7 (.int .i64 ((min 4 (np - 1) : Nat) : Int)) rfl (by kernel_rfl) (by kernel_rfl) (fun _ _ _ h => h) (by rfl) (fun _ => by simp [go_sem]; omega) hS0 ?_
    try simp only [Act.put, List.setIfInBounds_toArray, List.set_cons_zero, List.set_cons_succ, List.getElem_toArray, List.getElem_cons_zero, List.getElem_cons_succ]
    refine wpAnyZ_takeW 11 (.int .i64 0) rfl (by kernel_rfl) (by kernel_rfl) (fun _ _ _ h => h) (by rfl) (fun _ => by first | (simp [go_sem]; done) | go_simp) hS0 ?_
    try simp only [Act.put, List.setIfInBounds_toArray, List.set_cons_zero, List.set_cons_succ, List.getElem_toArray, List.getElem_cons_zero, List.getElem_cons_succ]
    refine wpAnyZ_two 1 8 (by kernel_rfl) rfl rfl (by rfl) (by rfl) (fun K hK => ?_) (fun K hK => ?_)
    ·
      have qe1_0 := (hS0.cell (p := ⟨gP, 0, none⟩) hgPw).trans cp0
      have qe1_1 := (hS0.cell (p := ⟨gP, 1, none⟩) hgPw).trans cp1
      go_simp
      refine hK.out _ _ hS0 ?_
      clear hK K qe1_0 qe1_1
      try simp only [Act.put, List.setIfInBounds_toArray, List.set_cons_zero, List.set_cons_succ, List.getElem_toArray, List.getElem_cons_zero, List.getElem_cons_succ]
      refine wpAnyZ_one 8 (by kernel_rfl) rfl (by rfl) (fun K hK => ?_)
      go_simp
      refine (hCn.out V).mono ?_
      rintro e x1 ⟨rfl, b1⟩
      have z1 := hS0.size
      have hS1 := hS0.trans (b1.mono z1)
      clear z1
      go_wp2_with fail
      refine hK.out _ _ hS1 ?_
      clear hK K
      try simp only [Act.put, List.setIfInBounds_toArray, List.set_cons_zero, List.set_cons_succ, List.getElem_toArray, List.getElem_cons_zero, List.getElem_cons_succ]
      refine wpAnyZ_one 9 (by kernel_rfl) rfl (by rfl) (fun K hK => ?_)
      go_simp
      refine (hDf.out x1 hS1).mono ?_
      rintro e x2 ⟨R, cR, vsD, rfl, oD, b2⟩
      have z2 := hS1.size
      have hS2 := hS1.trans (b2.mono z2)
      have hD0 := hide oD
      have zD := (hS1).size
      have hzD2 := b2.size
      clear oD
      clear z2
      go_wp2_with fail
      refine hK.out _ _ hS2 ?_
      clear hK K
      try simp only [Act.put, List.setIfInBounds_toArray, List.set_cons_zero, List.set_cons_succ, List.getElem_toArray, List.getElem_cons_zero, List.getElem_cons_succ]
      have hcR := hD0.out.capb
      refine wpAnyZ_last (by kernel_rfl) rfl (by kernel_rfl) (by rfl) (fun K hK => ?_)
      go_simp
      refine hK _ _ ?_
      clear hK K
      have B7 := hide hS2
      go_wp2_with fail
      go_meet
      case rel => exact ⟨R, cR, rfl, rfl, rfl, hcR.1, hcR.2, ⟨_, vsD, zD, by have := hzD2; omega, hD0.out⟩, B7.out⟩
    ·
      go_simp
      refine (hCn.out V).mono ?_
      rintro e x1 ⟨rfl, b1⟩
      have z1 := hS0.size
      have hS1 := hS0.trans (b1.mono z1)
      clear z1
      go_wp2_with fail
      refine hK.out _ _ hS1 ?_
      clear hK K
      try simp only [Act.put, List.setIfInBounds_toArray, List.set_cons_zero, List.set_cons_succ, List.getElem_toArray, List.getElem_cons_zero, List.getElem_cons_succ]
      refine wpAnyZ_one 1 (by kernel_rfl) rfl (by rfl) (fun K hK => ?_)
      have qe1_0 := (hS1.cell (p := ⟨gP, 0, none⟩) hgPw).trans cp0
      have qe1_1 := (hS1.cell (p := ⟨gP, 1, none⟩) hgPw).trans cp1
      go_simp
      refine hK.out _ _ hS1 ?_
      clear hK K qe1_0 qe1_1
      try simp only [Act.put, List.setIfInBounds_toArray, List.set_cons_zero, List.set_cons_succ, List.getElem_toArray, List.getElem_cons_zero, List.getElem_cons_succ]
      refine wpAnyZ_one 9 (by kernel_rfl) rfl (by rfl) (fun K hK => ?_)
      go_simp
      refine (hDf.out x1 hS1).mono ?_
      rintro e x2 ⟨R, cR, vsD, rfl, oD, b2⟩
      have z2 := hS1.size
      have hS2 := hS1.trans (b2.mono z2)
      have hD0 := hide oD
      have zD := (hS1).size
      have hzD2 := b2.size
      clear oD
      clear z2
      go_wp2_with fail
      refine hK.out _ _ hS2 ?_
      clear hK K
      try simp only [Act.put, List.setIfInBounds_toArray, List.set_cons_zero, List.set_cons_succ, List.getElem_toArray, List.getElem_cons_zero, List.getElem_cons_succ]
      have hcR := hD0.out.capb
      refine wpAnyZ_last (by kernel_rfl) rfl (by kernel_rfl) (by rfl) (fun K hK => ?_)
      go_simp
      refine hK _ _ ?_
      clear hK K
      have B7 := hide hS2
      go_wp2_with fail
      go_meet
      case rel => exact ⟨R, cR, rfl, rfl, rfl, hcR.1, hcR.2, ⟨_, vsD, zD, by have := hzD2; omega, hD0.out⟩, B7.out⟩
  case rest =>
    obtain ⟨R, cR, rfl, rfl, rfl, hcR1, hcR2, hDx, B7⟩ := hcut
    obtain ⟨lw, vsD, hlw1, hlw2, oD⟩ := hDx.out
    have hD := hide oD
    have z7 := B7.out.size
    have bD := hide (bA.out.trans (B7.out.mono (by omega)))
    have HA7 := hide (HA.out.below B7.out (Nat.le_refl _))
    have HC7 := hide (HC5.out.below B7.out (by omega))
    have HJ7 := hide (HJ5.out.below B7.out (by omega))
    obtain ⟨lo0, hlo0⟩ : ∃ l0, l0 = min w2.heap.size w3.heap.size := ⟨_, rfl⟩
    rw [← hlo0] at HC7
    have hlo0b : lo0 ≤ w3.heap.size := by omega
    have hS0 := hide (show ∃ vs, Lst kI 55 (fun _ => True) wc lo0 wc.heap.size (some ⟨gC, 0, none⟩) dim cC4 vs (Jr.rowsJ dim (Jr.serAt dim ps cols Y cs 0)) from ⟨vsC, by
      rw [show Jr.rowsJ dim (Jr.serAt dim ps cols Y cs 0) = turnL xss dim from (Jr.rowsJ_ext fun v _ => Jr.serAt_zero dim ps cols Y cs v).trans hrowY.out]
      exact HC7.out.wide (by omega)⟩)
    have hcC := HC7.out.capb
    have hT0 := hide (Touch.refl gC (gC + 1) wc)
    have hgC5 : gC < w5.heap.size := by omega
    obtain ⟨w7, hw7⟩ : ∃ x, x = wc := ⟨_, rfl⟩
    subst hw7
    clear hlo0 HC5 HC7 oD hDx cp0 cp1 hw1 hCn hDf k5
    go_wp2_with fail
    go_loopw [49] (fun i wr => ∃ (k : Nat), k ≤ cnt ∧ i = .int .i64 (k : Int) ∧ Hid (∃ vs, Lst kI 55 (fun _ => True) wr lo0 wr.heap.size (some ⟨gC, 0, none⟩) dim cC4 vs (Jr.rowsJ dim (Jr.serAt dim ps cols Y cs k))) ∧ Hid (Touch gC (gC + 1) w7 wr)) (fun i _ => cnt - (intOf i).toNat)
    case atStart => exact ⟨0, by omega, rfl, hS0.out, hT0.out⟩
    case round =>
      clear hS0 hT0
      obtain ⟨k, hk, rfl, hS, hT⟩ := hrel
      have zr := hT.out.size
      have hbw := hide (bD.out.trans (hT.out.below (show w.heap.size ≤ gC by omega) (show w.heap.size ≤ w7.heap.size by omega)))
      by_cases hlt : k < cnt
      · obtain ⟨gR, rfl, hgR1, hgR2, _⟩ := hD.out.form (by omega)
        obtain ⟨v, l, h', xD, hcv, ⟨Bd, qd, dd, rfl, hId⟩, q1, q2, hxv⟩ := hD.out.at_ hlt trivial
        have hxx := hxv.out
        simp only [List.getElem?_map, List.getElem?_range hlt, Option.map_some, Option.some.injEq] at hxx
        subst hxx
        obtain rfl : dim = qd := by rw [← hId.len, Jr.rowsJ_len]
        have hSm := hide (hT.out.same (lo' := gC + 1) (hi' := w7.heap.size) (.inr (Nat.le_refl _)) (Nat.le_refl _))
        have hcv2 := (hSm.out.cell (p := ⟨gR, k, none⟩) (by show gC + 1 ≤ gR; omega) (by show gR < _; omega)).trans hcv
        have hId2 := hide (hId.same fun a h1 h2 => hSm.out a (by omega) (by omega))
        have hIdw7 := hide hId
        have hdc := hId2.out.cap
        have hdm := hId2.out.max
        obtain ⟨ad, hBd, _⟩ := hId2.out.cells hd0
        subst hBd
        obtain ⟨t, ht⟩ : ∃ t, tabS[k]? = some t := ⟨_, List.getElem?_eq_getElem (by have := tab_len; omega)⟩
        obtain ⟨tl, bs, sy⟩ := t
        obtain ⟨en, hen, hek⟩ := key_at HKEY.out ht
        have hlk := list_at ht
        have hsy := sym_of ht
        have hesy := sy_of hek
        have hel := l_of hek
        have hk72 : k < 72 := by omega
        have hk72i : (k : Int) < 72 := by omega
        obtain ⟨hR1, _, _, hsr⟩ := HA7.out.row en (List.mem_of_getElem? hen)
        obtain ⟨p1, q1', hp1, hq1, hIl, _⟩ := hR1
        have hml : en.m = (listAt (k : Int)).length := by rw [hlk, ← hel]; exact hIl.len.symm
        have hm4 : en.m ≤ 4 := by rw [hml]; exact (list_fine hk72).2
        have hemc := hIl.cap
        have hemm := hIl.max
        have hgA1 := (HA7.out.own.lt gA rfl).1
        have hgA2 := HA7.out.lt _ rfl
        simp only at hgA2
        have sc0 := HA7.out.cell hen (i := 0) rfl
        have sc3 := HA7.out.cell hen (i := 3) rfl
        rw [Nat.add_zero] at sc0
        have sc0' := hide sc0
        have ec0 := (hSm.out.cell (p := ⟨gA, k * 4, none⟩) (by show gC + 1 ≤ gA; omega) (by show gA < _; omega)).trans sc0
        have ec3 := (hSm.out.cell (p := ⟨gA, k * 4 + 3, none⟩) (by show gC + 1 ≤ gA; omega) (by show gA < _; omega)).trans sc3
        rw [hesy, ← hsy] at ec3 hsr
        obtain ⟨adL, xk, hLa, hcL, hrL, _, hxL⟩ := (HL.out.below hbw.out hh).at_ (show k < 72 from hk72)
        subst hLa
        obtain ⟨fr, hfr⟩ : ∃ fr : Int, fr = fracF xk (symAt (k : Int)) := ⟨_, rfl⟩
        have hfrR : R64 fr := by rw [hfr]; have := fracF_bd xk (symAt (k : Int)); constructor <;> omega
        have hFr := hide fun W => impl_Fraction xk (symAt (k : Int)) W hrL hsr
        rw [← hfr] at hFr
        have hFrk : Hid (fracF (cs.getD k 0) (symAt (k : Int)) = fr) := by show _ = _; rw [hfr, List.getD, hxL.out]; rfl
        have HML := hide hml
        clear hcv hId hxv hek hlk hsy hesy hel hIl sc0 sc3 hxL hfr hml ht hen
        go_wp2_with fail
        clear hcv2
        refine still_tail 10 (by kernel_rfl) (by kernel_rfl) ?_
        simp only [List.take_succ_cons, List.take_zero, List.drop_succ_cons, List.drop_zero]
        iterate 9 still_step
        still_call (still_same (hFr.out _))
        refine wpStill_nil ?_
        clear hcL ec3
        go_wp2_with fail
        have hS2 := hide (show ∃ vs, Lst kI 55 (fun _ => True) wr.drew lo0 wr.drew.heap.size (some ⟨gC, 0, none⟩) dim cC4 vs (Jr.rowsJ dim fun v => if v < 0 then Jr.serAt dim ps cols Y cs (k + 1) v else Jr.serAt dim ps cols Y cs k v) from by
          obtain ⟨vs, h⟩ := hS.out
          exact ⟨vs, by rw [ser_start]; exact h.drew⟩)
        have hT2 := hide hT.out.drew
        obtain ⟨wo, hwo⟩ : ∃ x : World, x = wr := ⟨_, rfl⟩
        subst hwo
        clear hS hT
        go_loopw [66] (fun i wr2 => ∃ (q : Nat), q ≤ dim ∧ i = .int .i64 (q : Int) ∧ Hid (∃ vs, Lst kI 55 (fun _ => True) wr2 lo0 wr2.heap.size (some ⟨gC, 0, none⟩) dim cC4 vs (Jr.rowsJ dim fun v => if v < q then Jr.serAt dim ps cols Y cs (k + 1) v else Jr.serAt dim ps cols Y cs k v)) ∧ Hid (Touch gC (gC + 1) w7 wr2)) (fun i _ => dim - (intOf i).toNat)
        case atStart => exact ⟨0, by omega, rfl, hS2.out, hT2.out⟩
        case round =>
          clear hS2 hT2
          obtain ⟨q, hq, rfl, hS, hT⟩ := hrel
          have zr2 := hT.out.size
          by_cases hltq : q < dim
          · obtain ⟨vs, hLs⟩ := hS.out
            obtain ⟨vo, l1, h1, xo, hco, ⟨Bo, mo, do', rfl, hIo⟩, p3, p4, hxo⟩ := hLs.at_ hltq trivial
            have hxo2 := hxo.out
            rw [Jr.rowsJ_at _ hltq, if_neg (by omega)] at hxo2
            injection hxo2 with hxo2
            subst hxo2
            obtain rfl : np = mo := by rw [← hIo.len, Jr.lst_len]
            have hfo := hLs.own.frozenAt q
            have hgClo := (hLs.own.lt gC rfl).1
            have hIoW := hide (hIo.wide p3 p4)
            have hoc := hIoW.out.cap
            have hom := hIoW.out.max
            have HLS := hide hLs
            have hSm2 := hide (hT.out.same (lo' := gC + 1) (hi' := w7.heap.size) (.inr (Nat.le_refl _)) (Nat.le_refl _))
            have hId3 := hide (hIdw7.out.same fun a h1 h2 => hSm2.out a (by omega) (by omega))
            obtain ⟨ad2, Bv, mv, dv, xv, eBd, hcd, hIv, _, hxv⟩ := hId3.out.at_ hltq
            injection eBd with eBd
            subst eBd
            have hxv2 := hxv.out
            rw [Jr.rowsJ_at _ hltq] at hxv2
            injection hxv2 with hxv2
            subst hxv2
            obtain rfl : np = mv := by rw [← hIv.len, Jr.lst_len]
            have hdvc := hIv.cap
            have hdvm := hIv.max
            have hcdw := World.block_lt_of_cell? wr _ hcd
            have hcow := World.block_lt_of_cell? wr _ hco
            have fc0 := (hSm2.out.cell (p := ⟨gA, k * 4, none⟩) (by show gC + 1 ≤ gA; omega) (by show gA < _; omega)).trans sc0'.out
            have hgAw := World.block_lt_of_cell? wr _ fc0
            have HIV := hide hIv
            have hLat : Hid (∀ W, Below wr.heap.size wr W → Calls Tryz.prog 40 #[.slice Bv np dv, .int .i64 (en.m : Int)] W fun e w' => ∃ gR, e = .returned (.slice (some ⟨gR, 0, none⟩) np np) ∧ Ints w' W.heap.size w'.heap.size (some ⟨gR, 0, none⟩) np np (laterK (Jr.lst (Jr.dT dim ps cols Y (listAt (k : Int)) q)) (listAt (k : Int)).length) ∧ Below W.heap.size W w') := fun W hB => by
              have hz := hB.size
              have := impl_laterK en.m (by omega) Bv np dv _ _ _ W (HIV.out.below hB (by omega)) (by omega) (by omega)
              refine this.mono ?_
              rintro e w8 ⟨g8, rfl, hO8, hb8⟩
              have hI8 := hO8.ints
              rw [HML.out] at hI8
              exact ⟨g8, rfl, hI8, hb8⟩
            have hPlu : Hid (∀ W gm l h, Below wr.heap.size wr W → Ints W l h (some ⟨gm, 0, none⟩) np np (laterK (Jr.lst (Jr.dT dim ps cols Y (listAt (k : Int)) q)) (listAt (k : Int)).length) → h ≤ W.heap.size → Calls Tryz.prog 39 #[.slice Bo np do', .slice (some ⟨gm, 0, none⟩) np np, .int .i64 fr] W fun e w' => ∃ gR, e = .returned (.slice (some ⟨gR, 0, none⟩) np np) ∧ Ints w' W.heap.size w'.heap.size (some ⟨gR, 0, none⟩) np np (Jr.lst (Jr.serAt dim ps cols Y cs (k + 1) q)) ∧ Below W.heap.size W w') := fun W gm l h hB hM hh' => by
              have hz := hB.size
              refine (impl_plus Bo np do' _ lo0 wr.heap.size (some ⟨gm, 0, none⟩) np _ l h fr W (hIoW.out.below hB (Nat.le_refl _)) hM hz hh' (by omega) hfrR).mono ?_
              rintro e w8 ⟨g8, rfl, hO8, hb8⟩
              rw [Jr.ser_lst] at hO8
              refine ⟨g8, rfl, ?_, hb8⟩
              rw [Jr.serAt_succ, Jr.serT, hFrk.out]
              exact hO8.ints
            clear hIo hxo hxv hIv hLs hS hIoW
            go_wp2_with fail
            refine wp_region_Z (fun W' => Below wr.heap.size wr W') 20 (by kernel_rfl) ?_
            simp only [List.size_toArray, List.length_cons, List.length_nil, Nat.reduceAdd]
            have hS0 : Below wr.heap.size wr wr.drew := (Below.refl wr.heap.size wr).drew
            generalize wr.drew = V at hS0 ⊢
            refine wpAnyZ_takeW 0 (.slice (some ⟨gC, 0, none⟩) dim cC4) rfl (by kernel_rfl) (by kernel_rfl) (fun _ _ _ h => h) (by rfl) (fun _ => by first | (simp [go_sem]; done) | go_simp) hS0 ?_
            try simp only [Act.put, List.setIfInBounds_toArray, List.set_cons_zero, List.set_cons_succ, List.getElem_toArray, List.getElem_cons_zero, List.getElem_cons_succ]
            refine wpAnyZ_takeW 1 (.int .i64 (q : Int)) rfl (by kernel_rfl) (by kernel_rfl) (fun _ _ _ h => h) (by rfl) (fun _ => by first | (simp [go_sem]; done) | go_simp) hS0 ?_
            try simp only [Act.put, List.setIfInBounds_toArray, List.set_cons_zero, List.set_cons_succ, List.getElem_toArray, List.getElem_cons_zero, List.getElem_cons_succ]
            refine wpAnyZ_takeW 2 (.slice (some ⟨gC, 0, none⟩) dim cC4) rfl (by kernel_rfl) (by kernel_rfl) (fun _ _ _ h => h) (by rfl) (fun _ => by first | (simp [go_sem]; done) | go_simp) hS0 ?_
            try simp only [Act.put, List.setIfInBounds_toArray, List.set_cons_zero, List.set_cons_succ, List.getElem_toArray, List.getElem_cons_zero, List.getElem_cons_succ]
            refine wpAnyZ_takeW 3 (.int .i64 (q : Int)) rfl (by kernel_rfl) (by kernel_rfl) (fun _ _ _ h => h) (by rfl) (fun _ => by first | (simp [go_sem]; done) | go_simp) hS0 ?_
            try simp only [Act.put, List.setIfInBounds_toArray, List.set_cons_zero, List.set_cons_succ, List.getElem_toArray, List.getElem_cons_zero, List.getElem_cons_succ]
            refine wpAnyZ_takeW 4 (.pointer (some ⟨gC, q, none⟩)) rfl (by kernel_rfl) (by kernel_rfl) (fun _ _ _ h => h) (by rfl) (fun _ => by simp [go_sem]; omega) hS0 ?_
            try simp only [Act.put, List.setIfInBounds_toArray, List.set_cons_zero, List.set_cons_succ, List.getElem_toArray, List.getElem_cons_zero, List.getElem_cons_succ]
            refine wpAnyZ_take 5 (.slice Bo np do') rfl (by kernel_rfl) (by kernel_rfl) (fun _ _ _ h => h) (by rfl) (fun _ hS => by have q0 := (hS.cell (p := ⟨gC, q, none⟩) hcow).trans hco; clear hS; first | (simp [go_sem, q0]; done) | go_simp) hS0 ?_
            try simp only [Act.put, List.setIfInBounds_toArray, List.set_cons_zero, List.set_cons_succ, List.getElem_toArray, List.getElem_cons_zero, List.getElem_cons_succ]
            refine wpAnyZ_takeW 6 (.slice (some ad) dim dd) rfl (by kernel_rfl) (by kernel_rfl) (fun _ _ _ h => h) (by rfl) (fun _ => by first | (simp [go_sem]; done) | go_simp) hS0 ?_
            try simp only [Act.put, List.setIfInBounds_toArray, List.set_cons_zero, List.set_cons_succ, List.getElem_toArray, List.getElem_cons_zero, List.getElem_cons_succ]
            refine wpAnyZ_takeW 7 (.int .i64 (q : Int)) rfl (by kernel_rfl) (by kernel_rfl) (fun _ _ _ h => h) (by rfl) (fun _ => by first | (simp [go_sem]; done) | go_simp) hS0 ?_
            try simp only [Act.put, List.setIfInBounds_toArray, List.set_cons_zero, List.set_cons_succ, List.getElem_toArray, List.getElem_cons_zero, List.getElem_cons_succ]
            refine wpAnyZ_takeW 8 (.pointer (some (ad.add q))) rfl (by kernel_rfl) (by kernel_rfl) (fun _ _ _ h => h) (by rfl) (fun _ => by simp [go_sem, hltq]) hS0 ?_
            try simp only [Act.put, List.setIfInBounds_toArray, List.set_cons_zero, List.set_cons_succ, List.getElem_toArray, List.getElem_cons_zero, List.getElem_cons_succ]
            refine wpAnyZ_take 9 (.slice Bv np dv) rfl (by kernel_rfl) (by kernel_rfl) (fun _ _ _ h => h) (by rfl) (fun _ hS => by have q0 := (hS.cell (p := ad.add q) hcdw).trans hcd; clear hS; first | (simp [go_sem, q0]; done) | go_simp) hS0 ?_
            try simp only [Act.put, List.setIfInBounds_toArray, List.set_cons_zero, List.set_cons_succ, List.getElem_toArray, List.getElem_cons_zero, List.getElem_cons_succ]
            refine wpAnyZ_takeW 10 (.slice (some ⟨gA, 0, none⟩) 72 cA) rfl (by kernel_rfl) (by kernel_rfl) (fun _ _ _ h => h) (by rfl) (fun _ => by first | (simp [go_sem]; done) | go_simp) hS0 ?_
            try simp only [Act.put, List.setIfInBounds_toArray, List.set_cons_zero, List.set_cons_succ, List.getElem_toArray, List.getElem_cons_zero, List.getElem_cons_succ]
            refine wpAnyZ_takeW 11 (.int .i64 (k : Int)) rfl (by kernel_rfl) (by kernel_rfl) (fun _ _ _ h => h) (by rfl) (fun _ => by first | (simp [go_sem]; done) | go_simp) hS0 ?_
            try simp only [Act.put, List.setIfInBounds_toArray, List.set_cons_zero, List.set_cons_succ, List.getElem_toArray, List.getElem_cons_zero, List.getElem_cons_succ]
            refine wpAnyZ_takeW 12 (.pointer (some ⟨gA, k * 4, none⟩)) rfl (by kernel_rfl) (by kernel_rfl) (fun _ _ _ h => h) (by rfl) (fun _ => by simp [go_sem]; omega) hS0 ?_
            try simp only [Act.put, List.setIfInBounds_toArray, List.set_cons_zero, List.set_cons_succ, List.getElem_toArray, List.getElem_cons_zero, List.getElem_cons_succ]
            refine wpAnyZ_takeW 13 (.pointer (some ⟨gA, k * 4, none⟩)) rfl (by kernel_rfl) (by kernel_rfl) (fun _ _ _ h => h) (by rfl) (fun _ => by simp [go_sem]) hS0 ?_
            try simp only [Act.put, List.setIfInBounds_toArray, List.set_cons_zero, List.set_cons_succ, List.getElem_toArray, List.getElem_cons_zero, List.getElem_cons_succ]
            refine wpAnyZ_take 14 (.slice en.B en.m en.d) rfl (by kernel_rfl) (by kernel_rfl) (fun _ _ _ h => h) (by rfl) (fun _ hS => by have q0 := (hS.cell (p := ⟨gA, k * 4, none⟩) hgAw).trans fc0; clear hS; first | (simp [go_sem, q0]; done) | go_simp) hS0 ?_
            try simp only [Act.put, List.setIfInBounds_toArray, List.set_cons_zero, List.set_cons_succ, List.getElem_toArray, List.getElem_cons_zero, List.getElem_cons_succ]
            refine wpAnyZ_takeW 15 (.int .i64 (en.m : Int)) rfl (by kernel_rfl) (by kernel_rfl) (fun _ _ _ h => h) (by rfl) (fun _ => by first | (simp [go_sem]; done) | go_simp) hS0 ?_
            try simp only [Act.put, List.setIfInBounds_toArray, List.set_cons_zero, List.set_cons_succ, List.getElem_toArray, List.getElem_cons_zero, List.getElem_cons_succ]
            refine wpAnyZ_takeW 17 (.int .i64 fr) rfl (by kernel_rfl) (by kernel_rfl) (fun _ _ _ h => h) (by rfl) (fun _ => by first | (simp [go_sem]; done) | go_simp) hS0 ?_
            try simp only [Act.put, List.setIfInBounds_toArray, List.set_cons_zero, List.set_cons_succ, List.getElem_toArray, List.getElem_cons_zero, List.getElem_cons_succ]
            refine wpAnyZ_one 16 (by kernel_rfl) rfl (by rfl) (fun K hK => ?_)
            go_simp
            refine (hLat.out V hS0).mono ?_
            rintro e x1 ⟨g8, rfl, o8, b1⟩
            have z1 := hS0.size
            have hS1 := hS0.trans (b1.mono z1)
            have h8 := hide o8
            clear o8
            clear z1
            go_wp2_with fail
            refine hK.out _ _ hS1 ?_
            clear hK K
            try simp only [Act.put, List.setIfInBounds_toArray, List.set_cons_zero, List.set_cons_succ, List.getElem_toArray, List.getElem_cons_zero, List.getElem_cons_succ]
            refine wpAnyZ_one 18 (by kernel_rfl) rfl (by rfl) (fun K hK => ?_)
            go_simp
            refine (hPlu.out x1 g8 _ _ hS1 h8.out (Nat.le_refl _)).mono ?_
            rintro e x2 ⟨g9, rfl, o9, b2⟩
            have z2 := hS1.size
            have hS2 := hS1.trans (b2.mono z2)
            have h9 := hide (o9.wide (lo' := wr.heap.size) (by have := (hS1).size; omega) (Nat.le_refl _))
            clear o9 h8
            clear z2
            go_wp2_with fail
            refine hK.out _ _ hS2 ?_
            clear hK K
            try simp only [Act.put, List.setIfInBounds_toArray, List.set_cons_zero, List.set_cons_succ, List.getElem_toArray, List.getElem_cons_zero, List.getElem_cons_succ]
            refine wpAnyZ_takeW 19 (.pointer (some ⟨gC, q, none⟩)) rfl (by kernel_rfl) (by kernel_rfl) (fun _ _ _ h => h) (by rfl) (fun _ => by simp [go_sem]; omega) hS2 ?_
            try simp only [Act.put, List.setIfInBounds_toArray, List.set_cons_zero, List.set_cons_succ, List.getElem_toArray, List.getElem_cons_zero, List.getElem_cons_succ]
            have hc0 := (hS2.cell (p := ⟨gC, q, none⟩) hcow).trans hco
            have hf0 := (hS2.frozen (p := ⟨gC, q, none⟩) hcow).trans hfo
            refine wpAnyZ_last (by kernel_rfl) rfl (by kernel_rfl) (by rfl) (fun K hK => ?_)
            go_simp
            refine hK _ _ ?_
            clear hK K hc0 hf0
            have hB := hide hS2
            have hzB := hB.out.size
            generalize x2 = xw at hB hzB h9 ⊢
            have hN1 := (HLS.out.below hB.out (Nat.le_refl _)).put (v := .slice (some ⟨g9, 0, none⟩) np np) (x := Jr.lst (Jr.serAt dim ps cols Y cs (k + 1) q)) (l := wr.heap.size) (h' := xw.heap.size) ⟨_, np, np, rfl, h9.out⟩ (Nat.le_refl _) (by omega) (hi2 := xw.heap.size) (Nat.le_refl _) hzB hltq (P' := fun _ => True) (fun _ _ _ => trivial)
            rw [ser_set (Jr.serAt dim ps cols Y cs (k + 1))] at hN1
            have hse : (xw.setCell ⟨gC, q, none⟩ (.slice (some ⟨g9, 0, none⟩) np np)).heap.size = xw.heap.size := by simp [World.setCell]
            have HN := hide (show ∃ vs, Lst kI 55 (fun _ => True) (xw.setCell ⟨gC, q, none⟩ (.slice (some ⟨g9, 0, none⟩) np np)) lo0 (xw.setCell ⟨gC, q, none⟩ (.slice (some ⟨g9, 0, none⟩) np np)).heap.size (some ⟨gC, 0, none⟩) dim cC4 vs (Jr.rowsJ dim fun v => if v < q + 1 then Jr.serAt dim ps cols Y cs (k + 1) v else Jr.serAt dim ps cols Y cs k v) from ⟨_, by rw [hse]; exact hN1⟩)
            have HT2 := hide ((hT.out.trans (.of_below hB.out)).setCell (p := ⟨gC, q, none⟩) (.inl ⟨Nat.le_refl _, Nat.lt_succ_self _⟩) (.slice (some ⟨g9, 0, none⟩) np np))
            clear hN1 hse hco hfo hcd fc0 h9 HLS hT
            go_wp2_with fail
            go_roundw
            case rel => exact ⟨q + 1, by omega, by go_num, HN.out, HT2.out⟩
            case measure => simp [intOf]; omega
          · obtain rfl : dim = q := by omega
            have hS3 := hide (show ∃ vs, Lst kI 55 (fun _ => True) wr lo0 wr.heap.size (some ⟨gC, 0, none⟩) dim cC4 vs (Jr.rowsJ dim (Jr.serAt dim ps cols Y cs (k + 1))) from by
              obtain ⟨vs, h⟩ := hS.out
              rw [ser_end] at h
              exact ⟨vs, h⟩)
            clear hS
            go_wp2_with fail
            go_roundw
            case rel => exact ⟨k + 1, by omega, by go_num, hS3.out, hT.out⟩
            case measure => simp [intOf]; omega
      · obtain rfl : cnt = k := by omega
        obtain ⟨vs, hLs⟩ := hS.out
        have hPt := hide (impl_pointsO (some ⟨gC, 0, none⟩) dim cC4 _ lo0 wr.heap.size np wr hLs.ints2 (Nat.le_refl _) (fun r hr => by rw [(Jr.rowsJ_num dim _ r hr).1]; exact Nat.le_refl _) (by omega) (by omega) (by omega))
        clear hS hLs
        go_wp2_with (go_at_call 41; refine hPt.out.mono ?_; rintro r w9 ⟨gQ, cQ, rfl, oQ, b9⟩; have hQ := hide (oQ.wide (lo' := w.heap.size) (by omega) (Nat.le_refl _)); have hBz := hide (hbw.out.trans (b9.mono (by omega))); clear oQ b9 hPt)
        go_ret
        exact ⟨_, _, rfl, by rw [← HCNT.out]; exact hQ.out, hBz.out⟩

theorem impl_ShadedSeries_all (Bt : Nat) (L : Option Addr) (nL cL : Nat) (cs : List Int) (o : Int) (P : Option Addr) (k e : Nat) (ps : List (List Mono)) (C : Option Addr) (nC cC : Nat) (cols : List Int) (X : Option Addr) (x f : Nat) (xss : List (List Int)) (lo hi : Nat) (w : World)
    (hT : TreeV Bt w) (hBt : Bt ≤ w.heap.size) (hl : Ints w lo hi L nL cL cs) (hp : Mons2 w lo hi P k e ps) (hc : Ints w lo hi C nC cC cols) (hx : Ints2 w lo hi X x f xss) (hh : hi ≤ w.heap.size) (hlen : ∀ p ∈ ps, ∀ m ∈ p, m.2.length ≤ 1048576) :
    Calls Tryz.prog 10 #[.slice L nL cL, .agg #[.int .i64 o, .slice P k e], .slice C nC cC, .slice X x f] w fun r w' => ∃ R q cR, r = .returned (.slice R q cR) ∧ Ros kO 22 w' w.heap.size w'.heap.size R q cR (shSe cs o ps cols xss) ∧ Below w.heap.size w w' := by
  cases hk : shSeOk cs o ps cols xss with
  | false =>
    refine (impl_ShadedSeries_bad L nL cL cs o P k e ps C nC cC cols X x f xss lo hi w hl hp hc hx hh hlen hk).mono ?_
    rintro r w' ⟨rfl, hb⟩
    exact ⟨none, 0, 0, rfl, .inl ⟨rfl, rfl, rfl, shSe_bad hk, hb.size⟩, hb⟩
  | true =>
    have hk2 := hk
    unfold shSeOk at hk2
    simp only [Bool.and_eq_true, decide_eq_true_eq] at hk2
    obtain ⟨dim, np, rfl, hK⟩ := colOk_iff hk2.1
    obtain rfl : k = dim := by rw [← hp.len]; exact hK.gf.1
    obtain rfl : nC = k := by rw [← hc.len]; exact hK.cl
    obtain rfl : x = np := by rw [← hx.len]; exact hK.nl
    obtain rfl : nL = 72 := by have := hl.len; omega
    refine (impl_ShadedSeries_good Bt nC x L cL cs P e ps C cC cols X f xss lo hi w hT hBt hl hp hc hx hh hlen hK hk2.1 hk2.2.2).mono ?_
    rintro r w' ⟨gR, cR, rfl, hR, hb⟩
    exact ⟨_, _, _, rfl, by rw [shSe_ok hk hK.nl]; exact hR, hb⟩
end Go.Proofs.YtkaepjigmcielaaGreatDoor
