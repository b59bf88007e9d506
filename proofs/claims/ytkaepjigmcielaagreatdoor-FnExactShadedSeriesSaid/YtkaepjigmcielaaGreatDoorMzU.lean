/- The derivative of a field along directions: both walks. -/
import Derived.Test.YtkaepjigmcielaaGreatDoorDfS
import Derived.Test.YtkaepjigmcielaaGreatDoorMzT
namespace Go.Proofs.YtkaepjigmcielaaGreatDoor
open Go.RowKit
set_option linter.unusedSimpArgs false
set_option linter.unusedVariables false
set_option maxRecDepth 20000

theorem Lst.lower {α : Type} {K : Kd α} {T : TypeId} {P : Nat → Prop} {w : World} {lo hi : Nat} {A : Option Addr} {n c : Nat} {vs : List Value} {xs : List α} (h : Lst K T P w lo hi A n c vs xs) {lo2 : Nat} (h2 : lo2 ≤ lo) : Lst K T P w lo2 hi A n c vs xs :=
  ⟨owns_low h.own h2, h.lt, h.len, fun j x hx hP => by
    obtain ⟨v, l, h', e1, e2, e3, e4, e5⟩ := h.row j x hx hP
    exact ⟨v, l, h', e1, e2, by omega, e4, e5⟩⟩
set_option maxRecDepth 100000 in
set_option maxHeartbeats 8000000 in
theorem impl_fieldAlongD (o : Int) (A : Option Addr) (dim c : Nat) (ps : List (List Mono)) (lo hi : Nat) (gy cy : Nat) (yss : List (List Int)) (lo2 hi2 n : Nat) (V : Option Addr) (K cV : Nat) (dss : List (List (List Int))) (lo3 hi3 : Nat) (w : World) (hp : Mons2 w lo hi A dim c ps) (hy : Ints2 w lo2 hi2 (some ⟨gy, 0, none⟩) dim cy yss) (hv : Ints3 w lo3 hi3 V K cV dss) (hh3 : hi3 ≤ w.heap.size) (hS3 : St3 n dim dss) (hK3 : K ≤ 3) (hh : hi ≤ w.heap.size) (hh2 : hi2 ≤ w.heap.size)
    (hG : GoodF dim ps) (hN : JNum n yss) (hd0 : 0 < dim) (hd6 : dim ≤ 6) (hn0 : 0 < n) (hn : n ≤ 1000) :
    Calls Tryz.prog 72 #[.agg #[.int .i64 o, .slice A dim c], .slice (some ⟨gy, 0, none⟩) dim cy, .slice V K cV] w fun e w' => ∃ gR cR vs, e = .returned (.slice (some ⟨gR, 0, none⟩) dim cR) ∧ Lst kI 55 (fun _ => True) w' w.heap.size w'.heap.size (some ⟨gR, 0, none⟩) dim cR vs (Jr.rowsJ dim (Jr.fieldD dim ps (dirO n yss) (dss.map (dirO n)))) ∧ Below w.heap.size w w' := by
  obtain ⟨i1, hi1, hy0, hy1, hy2⟩ := info_parts info_jet
  have hcp := hp.cap
  have hmp := hp.max
  have HV := hide hv
  have HS3 := hide hS3
  have hcv := hv.cap
  have hmv := hv.max
  have HP := hide hp
  have HY := hide hy
  have HG := hide hG
  have HN := hide hN
  have hb0 := below_alloc w (.cells #[.int .i64 o, .slice A dim c] 33)
  have hk0 := BlkN.new w #[.int .i64 o, .slice A dim c] 33
  clear hp hy hG hN hv hS3
  obtain ⟨F, hF⟩ : ∃ F : List Int → Jr n, F = Jr.dn dim (dss.map (dirO n)) (Jr.ev (dirO n yss) 0) := ⟨_, rfl⟩
  obtain ⟨Z, hZ⟩ : ∃ Z : List (List Int), Z = Jr.rowsJ dim (Jr.fieldD dim ps (dirO n yss) (dss.map (dirO n))) := ⟨_, rfl⟩
  rw [← hZ]
  have HZL : Hid (Z.length = dim) := by show _ = _; rw [hZ, Jr.rowsJ_len]
  have HZ : Hid (∀ q ms, q < dim → ps[q]? = some ms → Z[q]? = some (Jr.lst (Jr.sumR F ms))) := fun q ms hq h => by
    rw [hZ, Jr.rowsJ_at _ hq]
    unfold Jr.fieldD
    rw [List.getD, h, hF]
    rfl
  have HF := hide hF
  clear hZ hF
  go_enter Tryz.func72, Tryz.ntmps72
  go_wp2_with fail
  have z0 : (w.alloc (.cells #[.int .i64 o, .slice A dim c] 33)).heap.size = w.heap.size + 1 := by simp
  generalize w.alloc (.cells #[.int .i64 o, .slice A dim c] 33) = W0 at hb0 hk0 z0 ⊢
  have hL0 := hide (Lst.empty kI 55 (fun _ => True) W0 w.heap.size hb0.size)
  have hbL := hide (hb0.trans ((below_alloc W0 (.cells #[] 55)).mono hb0.size))
  have zL : (W0.alloc (.cells #[] 55)).heap.size = W0.heap.size + 1 := by simp
  have hL1 := hide (hL0.out.wide (hi2 := (W0.alloc (.cells #[] 55)).heap.size) (by omega))
  rw [z0] at hL1
  clear hL0 zL
  generalize W0.alloc (.cells #[] 55) = W1 at hL1 hbL ⊢
  clear hb0 hk0 z0
  go_loopw [7, 14] (fun p i wr => ∃ (q : Nat) (R : Option Addr) (cR : Nat) (vs : List Value), q ≤ dim ∧ i = .int .i64 q ∧ p = .slice R q cR ∧ Hid (Lst kI 55 (fun _ => True) wr w.heap.size wr.heap.size R q cR vs (Z.take q)) ∧ Hid (Below w.heap.size w wr)) (fun _ i _ => dim - (intOf i).toNat)
  case atStart => exact ⟨0, _, 0, [], by omega, rfl, rfl, hL1.out, hbL.out⟩
  case round =>
    clear hL1 hbL
    obtain ⟨q, R, cR, vs, hq, rfl, rfl, hL, hb⟩ := hrel
    have hsz := hb.out.size
    have hcR := hL.out.capb
    by_cases hlt : q < dim
    · obtain ⟨ad, B, m, d, ms, rfl, hc, hM, _, hx⟩ := (HP.out.below hb.out hh).at_ hlt
      have hgm := HG.out.2 ms (List.mem_of_getElem? hx.out)
      have HD := hide (impl_derivedD B m d ms lo hi gy dim cy yss lo2 hi2 n V K cV dss lo3 hi3 wr hM (HY.out.below hb.out hh2) (HV.out.below hb.out hh3) (by omega) (by omega) (by omega) hgm HN.out HS3.out hd0 hd6 hn0 hn hK3)
      rw [← HF.out] at HD
      have hT : Hid (Z.take q ++ [Jr.lst (Jr.sumR F ms)] = Z.take (q + 1)) := take_snocJ (HZ.out q ms hlt hx.out)
      have hcm := hM.cap
      have hmm := hM.max
      clear hM hx hgm
      go_wp2_with (first
        | (go_at_call 96; refine HD.out.mono ?_; rintro e w2 ⟨g2, rfl, hI2, hb2⟩; have hL2 := hide (hL.out.below hb2 (Nat.le_refl _)); have hI3 := hide hI2; have hb3 := hide (hb.out.trans (hb2.mono hsz)); have hz2 := hb2.size; clear hI2 hb2)
        | (at_builtin; refine wpl_app1 rfl (.tmp 18) (.tmp 23) 52 rfl w.heap.size 55 i1 (.slice none 0 0) 1 24 Tryz.underlying52 hi1 hy0 hy1 hy2 rfl (by omega) w2 #[.slice (some ⟨g2, 0, none⟩) n n] R q cR 1 _ rfl rfl hL2.out.own rfl (by simp [Value.oneCell']) (by omega) (by omega) (by omega) ?_; intro A5 c5 w5 happ5 hlt5; have hL5 := hide (hL2.out.push (l := wr.heap.size) (h' := w2.heap.size) (x := Jr.lst (Jr.sumR F ms)) ⟨_, n, n, rfl, hI3.out⟩ (Nat.le_refl _) (Nat.le_refl _) hsz hz2 happ5); have hb5 := hide (happ5.low hb3.out (by omega) (Nat.le_refl _) hL2.out.own); clear happ5))
      rw [hT.out] at hL5
      refine ⟨⟨q + 1, A5, c5, _, by omega, by go_num, rfl, hL5.out, hb5.out⟩, ?_⟩
      simp [intOf]; omega
    · obtain rfl : dim = q := by omega
      have hL2 := hL.out
      rw [List.take_of_length_le (Nat.le_of_eq HZL.out)] at hL2
      obtain ⟨gR, rfl, _, _, _⟩ := hL2.form hd0
      have HL := hide hL2
      clear hL hL2
      go_wp2_with fail
      go_ret
      exact ⟨_, _, _, rfl, HL.out, hb.out⟩

set_option maxRecDepth 100000 in
set_option maxHeartbeats 8000000 in
theorem spec_l8DerivativeD (A : Option Addr) (dim c : Nat) (ps : List (List Mono)) (lo hi : Nat) (gy cy : Nat) (yss : List (List Int)) (lo2 hi2 n : Nat) (V : Option Addr) (K cV : Nat) (dss : List (List (List Int))) (lo3 hi3 : Nat) (w : World) (hp : Mons2 w lo hi A dim c ps) (hy : Ints2 w lo2 hi2 (some ⟨gy, 0, none⟩) dim cy yss) (hv : Ints3 w lo3 hi3 V K cV dss) (hh3 : hi3 ≤ w.heap.size) (hS3 : St3 n dim dss) (hK3 : K ≤ 3) (hh : hi ≤ w.heap.size) (hh2 : hi2 ≤ w.heap.size)
    (hG : GoodF dim ps) (hN : JNum n yss) (hd0 : 0 < dim) (hd6 : dim ≤ 6) (hn0 : 0 < n) (hn : n ≤ 1000) :
    Calls Tryz.prog 54 #[.agg #[.int .i64 (dim : Int), .slice A dim c], .slice (some ⟨gy, 0, none⟩) dim cy, .slice V K cV] w fun e w' => ∃ gR cR vs, e = .returned (.slice (some ⟨gR, 0, none⟩) dim cR) ∧ Lst kI 22 (fun _ => True) w' w.heap.size w'.heap.size (some ⟨gR, 0, none⟩) dim cR vs (Jr.rowsJ dim (Jr.fieldD dim ps (dirO n yss) (dss.map (dirO n)))) ∧ Below w.heap.size w w' := by
  obtain ⟨i1, hi1, hy0, hy1, hy2⟩ := info_parts info_ints
  have hcp := hp.cap
  have hmp := hp.max
  have hcy := hy.cap
  have hmy := hy.max
  have HV := hide hv
  have HVL := hide hv.len
  have HS3 := hide hS3
  have hcv := hv.cap
  have hmv := hv.max
  have HP := hide hp
  have HY := hide hy
  have HG := hide hG
  have HN := hide hN
  have hb0 := below_alloc w (.cells #[.int .i64 (dim : Int), .slice A dim c] 33)
  have hk0 := BlkN.new w #[.int .i64 (dim : Int), .slice A dim c] 33
  obtain ⟨ad, B0, m0, d0, y0, e, hc0, hI0, _, hx0⟩ := hy.at_ (k := 0) hd0
  injection e with e
  subst e
  obtain rfl : n = m0 := by rw [← hI0.len]; exact ((hN y0 (List.mem_of_getElem? hx0.out)).1).symm
  have hcy0 : w.cell? ⟨gy, 0, none⟩ = some (.slice B0 n d0) := by simpa [Addr.add_lit] using hc0
  have hgy := World.block_lt_of_cell? w _ hcy0
  have HCY := hide fun (w' : World) (hB : Below w.heap.size w w') => (hB.cell (p := ⟨gy, 0, none⟩) hgy).trans hcy0
  have hcd0 := hI0.cap
  have hmd0 := hI0.max
  clear hp hy hG hN hv hS3 hI0 hx0 hc0 hcy0
  obtain ⟨F, hF⟩ : ∃ F : List Int → Jr n, F = Jr.dn dim (dss.map (dirO n)) (Jr.ev (dirO n yss) 0) := ⟨_, rfl⟩
  obtain ⟨Z, hZ⟩ : ∃ Z : List (List Int), Z = Jr.rowsJ dim (Jr.fieldD dim ps (dirO n yss) (dss.map (dirO n))) := ⟨_, rfl⟩
  rw [← hZ]
  have HZL : Hid (Z.length = dim) := by show _ = _; rw [hZ, Jr.rowsJ_len]
  have HZ : Hid (∀ q ms, q < dim → ps[q]? = some ms → Z[q]? = some (Jr.lst (Jr.sumR F ms))) := fun q ms hq h => by
    rw [hZ, Jr.rowsJ_at _ hq]
    unfold Jr.fieldD
    rw [List.getD, h, hF]
    rfl
  have HF := hide hF
  clear hZ hF
  go_enter Tryz.func54, Tryz.ntmps54
  go_wp2_with fail
  have z0 : (w.alloc (.cells #[.int .i64 (dim : Int), .slice A dim c] 33)).heap.size = w.heap.size + 1 := by simp
  generalize w.alloc (.cells #[.int .i64 (dim : Int), .slice A dim c] 33) = W0 at hb0 hk0 z0 ⊢
  have hL0 := hide (Lst.empty kI 22 (fun _ => True) W0 (w.heap.size + 1) (by omega))
  have hbL := hide (hb0.trans ((below_alloc W0 (.cells #[] 22)).mono hb0.size))
  have zL : (W0.alloc (.cells #[] 22)).heap.size = W0.heap.size + 1 := by simp
  have hL1 := hide (hL0.out.wide (hi2 := (W0.alloc (.cells #[] 22)).heap.size) (by omega))
  rw [z0] at hL1
  have hK1 := hide (hk0.alloc (.cells #[] 22))
  clear hL0 zL
  generalize W0.alloc (.cells #[] 22) = W1 at hL1 hbL hK1 ⊢
  clear hb0 hk0 z0
  go_loopw [7, 8] (fun p i wr => ∃ (q : Nat) (R : Option Addr) (cR : Nat) (vs : List Value), q ≤ dim ∧ i = .int .i64 q ∧ p = .slice R q cR ∧ Hid (Lst kI 22 (fun _ => True) wr (w.heap.size + 1) wr.heap.size R q cR vs (Z.take q)) ∧ Hid (Below w.heap.size w wr) ∧ Hid (BlkN wr w.heap.size #[.int .i64 (dim : Int), .slice A dim c])) (fun _ i _ => dim - (intOf i).toNat)
  case atStart => exact ⟨0, _, 0, [], by omega, rfl, rfl, hL1.out, hbL.out, hK1.out⟩
  case round =>
    clear hL1 hbL hK1
    obtain ⟨q, R, cR, vs, hq, rfl, rfl, hL, hb, hK⟩ := hrel
    have hsz := hb.out.size
    have hcR := hL.out.capb
    have u0 := hK.out.c 0 rfl
    by_cases hlt : q < dim
    · obtain ⟨ad, B, m, d, ms, rfl, hc, hM, _, hx⟩ := HP.out.at_ hlt
      have hgm := HG.out.2 ms (List.mem_of_getElem? hx.out)
      have hT : Hid (Z.take q ++ [Jr.lst (Jr.sumR F ms)] = Z.take (q + 1)) := take_snocJ (HZ.out q ms hlt hx.out)
      have hgc := World.block_lt_of_cell? w _ hc
      have HC := hide fun (w' : World) (hB : Below w.heap.size w w') => (hB.cell (p := ad.add q) hgc).trans hc
      have HM := hide hM
      have HGM := hide hgm
      have hcm := hM.cap
      have hmm := hM.max
      have y0' := HCY.out _ hb.out
      have hmk := make_ints n (by omega) wr
      have s0 := FillS.start wr n hn
      have hs0 := hide s0.done.1.ints
      have hb1 := hide (hb.out.trans (s0.low.mono hsz))
      have hL2 := hide (hL.out.below s0.low (Nat.le_refl _))
      have hK2 := hide (hK.out.alloc (.cells (zeros n) 3))
      have hKw := hK
      clear hM hgm hx hc s0 hK
      go_wp2_with fail
      obtain ⟨wo, hwo⟩ : ∃ wo, wo = wr := ⟨_, rfl⟩
      rw [← hwo] at hs0 hb1 hL2 hK2 ⊢
      have hszo : w.heap.size ≤ wo.heap.size := by rw [hwo]; exact hsz
      have hLo : Hid (Lst kI 22 (fun _ => True) wo (w.heap.size + 1) wo.heap.size R q cR vs (Z.take q)) := by rw [hwo]; exact hL.out
      have hbo : Hid (Below w.heap.size w wo) := by rw [hwo]; exact hb.out
      have hbs : Hid (Below wo.heap.size wo (wo.alloc (.cells (zeros n) 3))) := below_alloc _ _
      have hKo : Hid (BlkN wo w.heap.size #[.int .i64 (dim : Int), .slice (some ad) dim c]) := by rw [hwo]; exact hKw.out
      clear hwo hL hb hmk u0 y0' hsz hL2 hKw hb1 hK2
      generalize wo.alloc (.cells (zeros n) 3) = W2 at hs0 hbs ⊢
      go_loopw [9, 10] (fun p i wr => ∃ (k : Nat) (S : Option Addr) (cS : Nat) (u : Jr n), k ≤ m ∧ i = .int .i64 k ∧ p = .slice S n cS ∧ Hid (Ints wr wo.heap.size wr.heap.size S n cS (Jr.lst u)) ∧ Hid (Below wo.heap.size wo wr) ∧ Hid (Jr.sumR F ms = u + Jr.sumR F (ms.drop k))) (fun _ i _ => m - (intOf i).toNat)
      case atStart => exact ⟨0, _, _, 0, by omega, rfl, rfl, by rw [Jr.lst_zero]; exact hs0.out, hbs.out, (Jr.zero_add _).symm⟩
      case round =>
        clear hs0 hbs
        obtain ⟨k, S, cS, u, hk, rfl, rfl, hO, hbr, hE⟩ := hrel
        have hszr := hbr.out.size
        have hbw := hide (hbo.out.trans (hbr.out.mono hszo))
        have hKr := hide (hKo.out.below hbr.out)
        have f0 := hKr.out.c 1 rfl
        have a0 := HC.out _ hbw.out
        by_cases hlt2 : k < m
        · obtain ⟨bd, co, Bp, mp, dp, pw, rfl, hc1w, hc2w, hcr, hI, hdr, hat⟩ := HM.out.at_ hlt2
          have hc1 := (hbw.out.cell (p := bd.add (k * 2)) (World.block_lt_of_cell? w _ hc1w)).trans hc1w
          have hc2 := (hbw.out.cell (p := ⟨(bd.add (k * 2)).block, (bd.add (k * 2)).off + 1, none⟩) (World.block_lt_of_cell? w _ hc2w)).trans hc2w
          have hgm := HGM.out _ (List.mem_of_getElem? hat.out)
          simp only at hgm
          obtain rfl : dim = mp := by rw [← hI.len]; exact hgm.2.1.symm
          have hE2 : Hid (Jr.sumR F ms = u + Jr.cst co * F pw + Jr.sumR F (ms.drop (k + 1))) := by
            show _ = _
            rw [hE.out, sumR_drop F hdr.out, ← Jr.add_assoc]
          have hge := good_e hgm.2.1 hgm.2.2
          have ha1 := below_alloc wr (.cells #[.int .i64 co, .slice Bp dim dp] 95)
          have hk1 := BlkN.new wr #[.int .i64 co, .slice Bp dim dp] 95
          have hbwd := hide ((hbw.out.trans (ha1.mono (by omega))).drew)
          have hbrd := hide ((hbr.out.trans (ha1.mono hszr)).drew)
          have hOd := hide ((hO.out.below ha1 (Nat.le_refl _)).same (w' := (wr.alloc (.cells #[.int .i64 co, .slice Bp dim dp] 95)).drew) (fun _ _ _ => rfl))
          have hkd := hide hk1.drew
          have zd : (wr.alloc (.cells #[.int .i64 co, .slice Bp dim dp] 95)).drew.heap.size = wr.heap.size + 1 := by show (wr.alloc _).heap.size = _; simp
          have m0 := hk1.c 0 rfl
          have m1 := hk1.c 1 rfl
          have n0 := hkd.out.c 0 rfl
          have n1 := hkd.out.c 1 rfl
          have HON := hide (spec_l8OneD gy dim cy yss lo2 hi2 n HN.out hd0 hd6 hn0 hn dss V cV Bp dp pw lo hi lo3 hi3 _ (hI.below hbwd.out hh) (HY.out.below hbwd.out hh2) (by rw [HVL.out]; exact HV.out.below hbwd.out hh3) (by omega) (by omega) (by omega) HS3.out hge.2)
          rw [HVL.out, ← HF.out] at HON
          have hcb := hI.cap
          have hmb := hI.max
          clear hc1w hc2w hdr hat hI hE hO ha1 hk1 hgm hge
          go_wp2_with fail
          generalize wr.alloc (.cells #[.int .i64 co, .slice Bp dim dp] 95) = W5 at hbwd hbrd hOd hkd zd m0 m1 n0 n1 HON ⊢
          go_region_held3 (fun w' => w'.cell? ⟨wr.heap.size, 0, none⟩ = some (.int .i64 co) ∧ w'.cell? ⟨wr.heap.size, 1, none⟩ = some (.slice Bp dim dp)) (first | exact ⟨m0, m1⟩ | exact ⟨n0, n1⟩ | exact T6 | exact T7 | go_keep)
            (first
              | (go_at_call 83; refine HON.out.mono ?_; rintro e w6 ⟨R6, c6, rfl, hI6, hb6⟩; have k6 := hkd.out.below hb6; have T6 : w6.cell? ⟨wr.heap.size, 0, none⟩ = some (.int .i64 co) ∧ w6.cell? ⟨wr.heap.size, 1, none⟩ = some (.slice Bp dim dp) := ⟨k6.c 0 rfl, k6.c 1 rfl⟩; have z6 := hb6.size; have HAD := hide (spec_l8Add S n cS (Jr.lst u) wo.heap.size wr.heap.size R6 c6 _ W5.drew.heap.size w6.heap.size co w6 (hOd.out.below hb6 (by omega)) hI6 (by omega) (Nat.le_refl _) hn hcr); have hb7 := hide (hbrd.out.trans (hb6.mono (by omega))))
              | (go_at_call 82; refine HAD.out.mono ?_; rintro e w7 ⟨R7, c7, rfl, hO7, hb8⟩; rw [Jr.plus_lst] at hO7; have T7 : w7.cell? ⟨wr.heap.size, 0, none⟩ = some (.int .i64 co) ∧ w7.cell? ⟨wr.heap.size, 1, none⟩ = some (.slice Bp dim dp) := ⟨(k6.below hb8).c 0 rfl, (k6.below hb8).c 1 rfl⟩; have hI7 := hide (hO7.ints.wide (lo' := wo.heap.size) (by omega) (Nat.le_refl _)); have hb9 := hide (hb7.out.trans (hb8.mono (by omega)))))
          clear T6 T7 k6 hb6 hb8 hI6 hO7 HAD hb7 HON hbwd hbrd hOd hkd m0 m1 n0 n1
          go_wp2_with fail
          go_roundw
          case rel => exact ⟨k + 1, R7, c7, _, by omega, by go_num, rfl, hI7.out, hb9.out, hE2.out⟩
          case measure => simp [intOf]; omega
        · obtain rfl : m = k := by omega
          have hEo : Hid (Jr.sumR F ms = u) := by
            show _ = _
            rw [hE.out, List.drop_eq_nil_of_le (Nat.le_of_eq HM.out.len), Jr.sumR, Jr.add_zero]
          have hLr := hide (hLo.out.below hbr.out (Nat.le_refl _))
          have hgk := hKr.out.lt
          have hgo := hKo.out.lt
          have hcS := hO.out.cap
          have hmS := hO.out.max
          have hszw := hbw.out.size
          clear hE hLo
          go_wp2_with (at_builtin; refine wpl_app1 rfl (.tmp 51) (.tmp 53) 26 rfl (w.heap.size + 1) 22 i1 (.slice none 0 0) 1 24 Tryz.underlying26 hi1 hy0 hy1 hy2 rfl (by omega) wr #[.slice S n cS] R q cR 1 _ rfl rfl hLr.out.own rfl (by simp [Value.oneCell']) (by omega) (by omega) (by omega) ?_; intro A5 c5 w5 happ5 hlt5; have hL5 := hide (hLr.out.push (l := wo.heap.size) (h' := wr.heap.size) (x := Jr.lst u) ⟨S, n, cS, rfl, hO.out⟩ (Nat.le_refl _) (Nat.le_refl _) (by omega) hszr happ5); have hb5 := hide (happ5.low hbw.out (by omega) (by omega) hLr.out.own); have hK5 := hide (hKr.out.same (happ5.2.1.block w.heap.size hgk (fun e => by have := (hLr.out.own.lt _ e.symm).1; omega))); clear happ5)
          rw [← hEo.out, hT.out] at hL5
          refine ⟨⟨q + 1, A5, c5, _, by omega, by go_num, rfl, hL5.out, hb5.out, hK5.out⟩, ?_⟩
          simp [intOf]; omega
    · obtain rfl : dim = q := by omega
      have hL2 := hL.out
      rw [List.take_of_length_le (Nat.le_of_eq HZL.out)] at hL2
      obtain ⟨gR, rfl, _, _, _⟩ := hL2.form hd0
      have HL := hide (hL2.lower (lo2 := w.heap.size) (by omega))
      clear hL hL2
      go_wp2_with fail
      go_ret
      exact ⟨_, _, _, rfl, HL.out, hb.out⟩
end Go.Proofs.YtkaepjigmcielaaGreatDoor
/- Weights of shaded trees: the program's walk. -/
namespace Go.Proofs.YtkaepjigmcielaaGreatDoor
open Go.RowKit
set_option linter.unusedSimpArgs false
set_option linter.unusedVariables false
set_option maxRecDepth 20000

/-- the two tableaus of a pair, as they lie in memory -/
structure PairD where
  k : Nat
  XA : Option Addr
  xc : Nat
  X0 : List Int
  YA : Option Addr
  yc : Nat
  Y0 : List Int
  XB : Option Addr
  xd : Nat
  X1 : List Int
  YB : Option Addr
  yd : Nat
  Y1 : List Int
structure PairR (w : World) (lo hi : Nat) (d : PairD) : Prop where
  x0 : Ints w lo hi d.XA (d.k * d.k) d.xc d.X0
  y0 : Ints w lo hi d.YA d.k d.yc d.Y0
  x1 : Ints w lo hi d.XB (d.k * d.k) d.xd d.X1
  y1 : Ints w lo hi d.YB d.k d.yd d.Y1
  fa : ∀ ad, d.XA = some ad → ad = ⟨ad.block, 0, none⟩
  fb : ∀ ad, d.XB = some ad → ad = ⟨ad.block, 0, none⟩
  hk : d.k ≤ 8
theorem PairR.same {w w' : World} {lo hi : Nat} {d : PairD} (h : PairR w lo hi d) (hs : Same lo hi w w') : PairR w' lo hi d := ⟨h.x0.same hs, h.y0.same hs, h.x1.same hs, h.y1.same hs, h.fa, h.fb, h.hk⟩
theorem PairR.below {w w' : World} {lo hi B : Nat} {d : PairD} (h : PairR w lo hi d) (hb : Below B w w') (hB : hi ≤ B) : PairR w' lo hi d := h.same (.of_below hb hB)
theorem impl_colour (e : Sh) (p q : Nat) (w : World) (h : Ints w p q e.B e.m e.d e.l) (hq : q ≤ w.heap.size) (hne : e.l ≠ []) :
    Calls Tryz.prog 73 #[.agg #[.slice e.B e.m e.d, .int .i64 e.plain, .slice e.C e.k e.f, .int .i64 e.sy]] w fun r w' => r = .returned (.int .i64 (e.l.headD 0)) ∧ Below w.heap.size w w' := by
  have ba := below_alloc w (.cells #[.slice e.B e.m e.d, .int .i64 e.plain, .slice e.C e.k e.f, .int .i64 e.sy] 62)
  have hm : 0 < e.m := by
    have := h.len
    have := List.length_pos_iff.2 hne
    omega
  have hcp := h.cap
  have hmx := h.max
  obtain ⟨ad, x, e1, hcx, _, _, hxu⟩ := (h.below ba hq).at_ hm
  have hx : Hid (x = e.l.headD 0) := by
    have := hxu.out
    show _ = _
    cases hl : e.l with
    | nil => exact absurd hl hne
    | cons a r => rw [hl] at this; simpa using this.symm
  rw [e1]
  rw [e1] at ba hcx
  rw [Addr.add_zero'] at hcx
  have HBA := hide ba
  clear hxu h ba hne
  go_enter Tryz.func73, Tryz.ntmps73
  go_wp2_with fail
  go_ret
  exact ⟨ret_int hx.out, HBA.out⟩

theorem key_at {es : List Sh} (hkey : es.map Sh.key = tabS) {b : Nat} {t : List Int × List Int × Int} (ht : tabS[b]? = some t) : ∃ e : Sh, es[b]? = some e ∧ e.key = t := by
  rw [← hkey, List.getElem?_map] at ht
  cases he : es[b]? with
  | none => rw [he] at ht; cases ht
  | some e =>
    rw [he] at ht
    injection ht with ht
    exact ⟨e, rfl, ht⟩
theorem bs_of {e : Sh} {l bs : List Int} {sy : Int} (h : e.key = (l, bs, sy)) : e.bs = bs := congrArg (·.2.1) h
theorem l_of {e : Sh} {l bs : List Int} {sy : Int} (h : e.key = (l, bs, sy)) : e.l = l := congrArg (·.1) h

/-- the row of products, the first j of them reckoned -/
structure OutT (w5 wr : World) (B g7 k c : Nat) (new old : List Int) (j : Nat) : Prop where
  own : OwnI wr B wr.heap.size (some ⟨g7, 0, none⟩) k c (new.take j ++ old.drop j)
  chg : Touch g7 (g7 + 1) w5 wr
theorem OutT.step {w5 wr W : World} {B g7 k c j : Nat} {new old : List Int} (h : OutT w5 wr B g7 k c new old j) (hb : Below wr.heap.size wr W) (hj : j < k) {x : Int} (hx : new[j]? = some x ∧ R64 x ∧ old.length = k) : OutT w5 (W.setCell ⟨g7, j, none⟩ (.int .i64 x)) B g7 k c new old (j + 1) := by
  obtain ⟨hx1, hx2, hx3⟩ := hx
  have hjn := (List.getElem?_eq_some_iff.1 hx1).1
  have hg : g7 < wr.heap.size := h.own.lt _ rfl
  have e : (new.take j ++ old.drop j).set j x = new.take (j + 1) ++ old.drop (j + 1) := by
    have hl : (new.take j).length = j := by simp; omega
    rw [List.set_append_right _ _ (by omega), hl, Nat.sub_self, List.take_add_one, hx1, List.drop_eq_getElem_cons (show j < old.length by omega), List.set_cons_zero]
    simp
  have o1 := owns_below h.own.own hb (fun ad e => by injection e with e; subst e; exact hg)
  have o2 := (o1.stored j (.int .i64 x)).1
  have hsz : (W.setCell ⟨g7, j, none⟩ (.int .i64 x)).heap.size = W.heap.size := by simp [World.setCell]
  have hbs := hb.size
  refine ⟨⟨?_, fun ad e => by injection e with e; subst e; show g7 < _; omega, ?_⟩, (h.chg.trans (.of_below hb)).setCell (.inl ⟨Nat.le_refl _, Nat.lt_succ_self _⟩) _⟩
  · rw [← e, List.map_set]
    exact o2
  · rw [← e]
    intro y hy
    rcases List.mem_or_eq_of_mem_set hy with hy | rfl
    · exact h.own.rng y hy
    · exact hx2
theorem Ints.sub {w : World} {lo hi g n c : Nat} {xs : List Int} (h : Ints w lo hi (some ⟨g, 0, none⟩) n c xs) {k i : Nat} (hle : i * k + k ≤ n) (hk : 0 < k) : Ints w lo hi (some ⟨g, i * k, none⟩) k (c - i * k) (rowW k xs i) := by
  have hl := h.len
  have hc := h.cap
  have hm := h.max
  obtain ⟨ad, e, h1, h2, hcs⟩ := h.cells (by omega)
  injection e with e
  subst e
  refine ⟨by simp [rowW]; omega, by omega, by omega, fun _ => ⟨_, rfl, h1, h2, fun j x hx => ?_⟩, fun x hx => h.rng x (List.mem_of_mem_drop (List.mem_of_mem_take hx))⟩
  have hj : j < k := by
    have := (List.getElem?_eq_some_iff.1 hx).1
    simp [rowW] at this
    omega
  have hx2 : xs[i * k + j]? = some x := by
    rw [rowW, List.getElem?_take_of_lt hj, List.getElem?_drop] at hx
    exact hx
  have := hcs (i * k + j) x hx2
  rw [Addr.add_lit] at this ⊢
  simpa using this
end Go.Proofs.YtkaepjigmcielaaGreatDoor
