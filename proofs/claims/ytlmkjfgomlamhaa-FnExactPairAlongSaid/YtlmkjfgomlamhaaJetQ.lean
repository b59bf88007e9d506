/- The value of a field at polynomials in h: the reference's walk. -/
import Derived.Test.YtlmkjfgomlamhaaJetO
namespace Go.Proofs.Ytlmkjfgomlamhaa
open Go.RowKit
set_option linter.unusedSimpArgs false
set_option linter.unusedVariables false
set_option maxRecDepth 20000

set_option maxRecDepth 100000 in
set_option maxHeartbeats 8000000 in
theorem spec_l8Derivative (A : Option Addr) (dim c : Nat) (ps : List (List Mono)) (lo hi : Nat) (gy cy : Nat) (yss : List (List Int)) (lo2 hi2 n : Nat) (w : World) (hp : Mons2 w lo hi A dim c ps) (hy : Ints2 w lo2 hi2 (some ⟨gy, 0, none⟩) dim cy yss) (hh : hi ≤ w.heap.size) (hh2 : hi2 ≤ w.heap.size)
    (hG : GoodF dim ps) (hN : JNum n yss) (hd0 : 0 < dim) (hd6 : dim ≤ 6) (hn0 : 0 < n) (hn : n ≤ 1000) :
    Calls Try.prog 29 #[.agg #[.int .i64 (dim : Int), .slice A dim c], .slice (some ⟨gy, 0, none⟩) dim cy, .slice none 0 0] w fun e w' => ∃ gR cR, e = .returned (.slice (some ⟨gR, 0, none⟩) dim cR) ∧ Ints2 w' w.heap.size w'.heap.size (some ⟨gR, 0, none⟩) dim cR (valL n ps yss) ∧ Below w.heap.size w w' := by
  obtain ⟨i1, hi1, hy0, hy1, hy2⟩ := info_parts info_ints
  have hcp := hp.cap
  have hmp := hp.max
  have hcy := hy.cap
  have hmy := hy.max
  have HP := hide hp
  have HY := hide hy
  have HG := hide hG
  have HN := hide hN
  have hb0 := below_alloc w (.cells #[.int .i64 (dim : Int), .slice A dim c] 41)
  have hk0 := BlkN.new w #[.int .i64 (dim : Int), .slice A dim c] 41
  obtain ⟨ad, B0, m0, d0, y0, e, hc0, hI0, _, hx0⟩ := hy.at_ (k := 0) hd0
  injection e with e
  subst e
  obtain rfl : n = m0 := by rw [← hI0.len]; exact ((hN y0 (List.mem_of_getElem? hx0.out)).1).symm
  have hcy0 : w.cell? ⟨gy, 0, none⟩ = some (.slice B0 n d0) := by simpa [Addr.add_lit] using hc0
  have hgy := World.block_lt_of_cell? w _ hcy0
  have HCY := hide fun (w' : World) (hB : Below w.heap.size w w') => (hB.cell (p := ⟨gy, 0, none⟩) hgy).trans hcy0
  have hcd0 := hI0.cap
  have hmd0 := hI0.max
  clear hp hy hG hN hI0 hx0 hc0 hcy0
  go_enter Try.func29, Try.ntmps29
  go_wp2_with fail
  have z0 : (w.alloc (.cells #[.int .i64 (dim : Int), .slice A dim c] 41)).heap.size = w.heap.size + 1 := by simp
  generalize w.alloc (.cells #[.int .i64 (dim : Int), .slice A dim c] 41) = W0 at hb0 hk0 z0 ⊢
  have hL0 := hide (Lst.empty kI 22 (fun _ => True) W0 (w.heap.size + 1) (by omega))
  have hbL := hide (hb0.trans ((below_alloc W0 (.cells #[] 22)).mono hb0.size))
  have zL : (W0.alloc (.cells #[] 22)).heap.size = W0.heap.size + 1 := by simp
  have hL1 := hide (hL0.out.wide (hi2 := (W0.alloc (.cells #[] 22)).heap.size) (by omega))
  rw [z0] at hL1
  have hK1 := hide (hk0.alloc (.cells #[] 22))
  clear hL0 zL
  generalize W0.alloc (.cells #[] 22) = W1 at hL1 hbL hK1 ⊢
  clear hb0 hk0 z0
  go_loopw [7, 8] (fun p i wr => ∃ (q : Nat) (R : Option Addr) (cR : Nat) (vs : List Value), q ≤ dim ∧ i = .int .i64 q ∧ p = .slice R q cR ∧ Hid (Lst kI 22 (fun _ => True) wr (w.heap.size + 1) wr.heap.size R q cR vs ((valL n ps yss).take q)) ∧ Hid (Below w.heap.size w wr) ∧ Hid (BlkN wr w.heap.size #[.int .i64 (dim : Int), .slice A dim c])) (fun _ i _ => dim - (intOf i).toNat)
  case atStart => exact ⟨0, _, 0, [], by omega, rfl, rfl, hL1.out, hbL.out, hK1.out⟩
  case round =>
    clear hL1 hbL hK1
    obtain ⟨q, R, cR, vs, hq, rfl, rfl, hL, hb, hK⟩ := hrel
    have hsz := hb.out.size
    have hcR := hL.out.capb
    have u0 := hK.out.c 0 rfl
    by_cases hlt : q < dim
    · obtain ⟨ad, B, m, d, ms, rfl, hc, hM, _, hx⟩ := HP.out.at_ hlt
      have hgm := HG.out.2 ms (List.mem_of_getElem? hx.out)
      have hT : Hid ((valL n ps yss).take q ++ [polyJ n ms fun v => yss.getD v []] = (valL n ps yss).take (q + 1)) := take_snocJ (val_at hx.out)
      have hgc := World.block_lt_of_cell? w _ hc
      have HC := hide fun (w' : World) (hB : Below w.heap.size w w') => (hB.cell (p := ad.add q) hgc).trans hc
      have HM := hide hM
      have HGM := hide hgm
      have hcm := hM.cap
      have hmm := hM.max
      have y0' := HCY.out _ hb.out
      have hmk := make_ints n (by omega) wr
      have s0 := FillS.start wr n hn
      have hs0 := hide s0.done.1.ints
      have hb1 := hide (hb.out.trans (s0.low.mono hsz))
      have hL2 := hide (hL.out.below s0.low (Nat.le_refl _))
      have hK2 := hide (hK.out.alloc (.cells (zeros n) 3))
      have hKw := hK
      clear hM hgm hx hc s0 hK
      go_wp2_with fail
      obtain ⟨wo, hwo⟩ : ∃ wo, wo = wr := ⟨_, rfl⟩
      rw [← hwo] at hs0 hb1 hL2 hK2 ⊢
      have hszo : w.heap.size ≤ wo.heap.size := by rw [hwo]; exact hsz
      have hLo : Hid (Lst kI 22 (fun _ => True) wo (w.heap.size + 1) wo.heap.size R q cR vs ((valL n ps yss).take q)) := by rw [hwo]; exact hL.out
      have hbo : Hid (Below w.heap.size w wo) := by rw [hwo]; exact hb.out
      have hbs : Hid (Below wo.heap.size wo (wo.alloc (.cells (zeros n) 3))) := below_alloc _ _
      have hKo : Hid (BlkN wo w.heap.size #[.int .i64 (dim : Int), .slice (some ad) dim c]) := by rw [hwo]; exact hKw.out
      clear hwo hL hb hmk u0 y0' hsz hL2 hKw hb1 hK2
      generalize wo.alloc (.cells (zeros n) 3) = W2 at hs0 hbs ⊢
      go_loopw [9, 10] (fun p i wr => ∃ (k : Nat) (S : Option Addr) (cS : Nat) (o : List Int), k ≤ m ∧ i = .int .i64 k ∧ p = .slice S n cS ∧ Hid (Ints wr wo.heap.size wr.heap.size S n cS o) ∧ Hid (Below wo.heap.size wo wr) ∧ Hid (polyJ n ms (fun v => yss.getD v []) = derJ n (fun v => yss.getD v []) (ms.drop k) o)) (fun _ i _ => m - (intOf i).toNat)
      case atStart => exact ⟨0, _, _, zeroJ n, by omega, rfl, rfl, hs0.out, hbs.out, rfl⟩
      case round =>
        clear hs0 hbs
        obtain ⟨k, S, cS, o, hk, rfl, rfl, hO, hbr, hE⟩ := hrel
        have hszr := hbr.out.size
        have hbw := hide (hbo.out.trans (hbr.out.mono hszo))
        have hKr := hide (hKo.out.below hbr.out)
        have f0 := hKr.out.c 1 rfl
        have a0 := HC.out _ hbw.out
        by_cases hlt2 : k < m
        · obtain ⟨bd, co, Bp, mp, dp, pw, rfl, hc1w, hc2w, hcr, hI, hdr, hat⟩ := HM.out.at_ hlt2
          have hc1 := (hbw.out.cell (p := bd.add (k * 2)) (World.block_lt_of_cell? w _ hc1w)).trans hc1w
          have hc2 := (hbw.out.cell (p := ⟨(bd.add (k * 2)).block, (bd.add (k * 2)).off + 1, none⟩) (World.block_lt_of_cell? w _ hc2w)).trans hc2w
          have hgm := HGM.out _ (List.mem_of_getElem? hat.out)
          simp only at hgm
          obtain rfl : dim = mp := by rw [← hI.len]; exact hgm.2.1.symm
          have hE2 : Hid (polyJ n ms (fun v => yss.getD v []) = derJ n (fun v => yss.getD v []) (ms.drop (k + 1)) (jplus o (prodJ (fun v => yss.getD v []) pw 0 (unitJ n 1)) co)) := by
            show _ = _
            rw [hE.out, hdr.out, derJ]
          have ha1 := below_alloc wr (.cells #[.int .i64 co, .slice Bp dim dp] 83)
          have hk1 := BlkN.new wr #[.int .i64 co, .slice Bp dim dp] 83
          have hbwd := hide ((hbw.out.trans (ha1.mono (by omega))).drew)
          have hbrd := hide ((hbr.out.trans (ha1.mono hszr)).drew)
          have hOd := hide ((hO.out.below ha1 (Nat.le_refl _)).same (w' := (wr.alloc (.cells #[.int .i64 co, .slice Bp dim dp] 83)).drew) (fun _ _ _ => rfl))
          have hkd := hide hk1.drew
          have zd : (wr.alloc (.cells #[.int .i64 co, .slice Bp dim dp] 83)).drew.heap.size = wr.heap.size + 1 := by show (wr.alloc _).heap.size = _; simp
          have m0 := hk1.c 0 rfl
          have m1 := hk1.c 1 rfl
          have n0 := hkd.out.c 0 rfl
          have n1 := hkd.out.c 1 rfl
          have HON := hide (spec_l8One Bp dim dp pw lo hi gy cy yss lo2 hi2 n _ (hI.below hbwd.out hh) (HY.out.below hbwd.out hh2) (by omega) (by omega) HN.out hd0 hd6 hn0 hn)
          have hcb := hI.cap
          have hmb := hI.max
          clear hc1w hc2w hdr hat hI hE hO ha1 hk1 hgm
          go_wp2_with fail
          generalize wr.alloc (.cells #[.int .i64 co, .slice Bp dim dp] 83) = W5 at hbwd hbrd hOd hkd zd m0 m1 n0 n1 HON ⊢
          go_region_held3 (fun w' => w'.cell? ⟨wr.heap.size, 0, none⟩ = some (.int .i64 co) ∧ w'.cell? ⟨wr.heap.size, 1, none⟩ = some (.slice Bp dim dp)) (first | exact ⟨m0, m1⟩ | exact ⟨n0, n1⟩ | exact T6 | exact T7 | go_keep)
            (first
              | (go_at_call 51; refine HON.out.mono ?_; rintro e w6 ⟨g6, rfl, hI6, hb6⟩; have k6 := hkd.out.below hb6; have T6 : w6.cell? ⟨wr.heap.size, 0, none⟩ = some (.int .i64 co) ∧ w6.cell? ⟨wr.heap.size, 1, none⟩ = some (.slice Bp dim dp) := ⟨k6.c 0 rfl, k6.c 1 rfl⟩; have z6 := hb6.size; have HAD := hide (spec_l8Add S n cS o wo.heap.size wr.heap.size (some ⟨g6, 0, none⟩) n _ W5.drew.heap.size w6.heap.size co w6 (hOd.out.below hb6 (by omega)) hI6 (by omega) (Nat.le_refl _) hn hcr); have hb7 := hide (hbrd.out.trans (hb6.mono (by omega))))
              | (go_at_call 50; refine HAD.out.mono ?_; rintro e w7 ⟨R7, c7, rfl, hO7, hb8⟩; have T7 : w7.cell? ⟨wr.heap.size, 0, none⟩ = some (.int .i64 co) ∧ w7.cell? ⟨wr.heap.size, 1, none⟩ = some (.slice Bp dim dp) := ⟨(k6.below hb8).c 0 rfl, (k6.below hb8).c 1 rfl⟩; have hI7 := hide (hO7.ints.wide (lo' := wo.heap.size) (by omega) (Nat.le_refl _)); have hb9 := hide (hb7.out.trans (hb8.mono (by omega)))))
          clear T6 T7 k6 hb6 hb8 hI6 hO7 HAD hb7 HON hbwd hbrd hOd hkd m0 m1 n0 n1
          go_wp2_with fail
          go_roundw
          case rel => exact ⟨k + 1, R7, c7, _, by omega, by go_num, rfl, hI7.out, hb9.out, hE2.out⟩
          case measure => simp [intOf]; omega
        · obtain rfl : m = k := by omega
          have hEo : Hid (polyJ n ms (fun v => yss.getD v []) = o) := by
            show _ = _
            rw [hE.out, List.drop_eq_nil_of_le (Nat.le_of_eq HM.out.len), derJ]
          have hLr := hide (hLo.out.below hbr.out (Nat.le_refl _))
          have hgk := hKr.out.lt
          have hgo := hKo.out.lt
          have hcS := hO.out.cap
          have hmS := hO.out.max
          have hszw := hbw.out.size
          clear hE hLo
          go_wp2_with (at_builtin; refine wpl_app1 rfl (.tmp 51) (.tmp 53) 30 rfl (w.heap.size + 1) 22 i1 (.slice none 0 0) 1 24 Try.underlying30 hi1 hy0 hy1 hy2 rfl (by omega) wr #[.slice S n cS] R q cR 1 _ rfl rfl hLr.out.own rfl (by simp [Value.oneCell']) (by omega) (by omega) (by omega) ?_; intro A5 c5 w5 happ5 hlt5; have hL5 := hide (hLr.out.push (l := wo.heap.size) (h' := wr.heap.size) (x := o) ⟨S, n, cS, rfl, hO.out⟩ (Nat.le_refl _) (Nat.le_refl _) (by omega) hszr happ5); have hb5 := hide (happ5.low hbw.out (by omega) (by omega) hLr.out.own); have hK5 := hide (hKr.out.same (happ5.2.1.block w.heap.size hgk (fun e => by have := (hLr.out.own.lt _ e.symm).1; omega))); clear happ5)
          rw [← hEo.out, hT.out] at hL5
          refine ⟨⟨q + 1, A5, c5, _, by omega, by go_num, rfl, hL5.out, hb5.out, hK5.out⟩, ?_⟩
          simp [intOf]; omega
    · obtain rfl : dim = q := by omega
      have hL2 := hL.out
      rw [List.take_of_length_le (by simp [valL, HG.out.1])] at hL2
      obtain ⟨gR, rfl, _, _, _⟩ := hL2.form hd0
      have HL := hide (hL2.ints2.wide2 (lo' := w.heap.size) (by omega) (Nat.le_refl _))
      clear hL hL2
      go_wp2_with fail
      go_ret
      exact ⟨_, _, rfl, HL.out, hb.out⟩
end Go.Proofs.Ytlmkjfgomlamhaa
