/- The derivative of a polynomial at polynomials in h along directions: the program's walk. -/
import Derived.Test.YtkaepjigmcielaaGreatDoorDfV
import Derived.Test.YtkaepjigmcielaaGreatDoorMzR
namespace Go.Proofs.YtkaepjigmcielaaGreatDoor
open Go.RowKit
set_option linter.unusedSimpArgs false
set_option linter.unusedVariables false
set_option maxRecDepth 20000

theorem sumR_drop {n : Nat} (F : List Int → Jr n) {ms : List Mono} {k : Nat} {m : Mono} (h : ms.drop k = m :: ms.drop (k + 1)) : Jr.sumR F (ms.drop k) = Jr.cst m.1 * F m.2 + Jr.sumR F (ms.drop (k + 1)) := by
  rw [h, Jr.sumR]
set_option maxRecDepth 100000 in
set_option maxHeartbeats 8000000 in
theorem impl_derivedD (P : Option Addr) (np cp : Nat) (ms : List Mono) (lo hi : Nat) (gy dim cy : Nat) (yss : List (List Int)) (lo2 hi2 n : Nat) (V : Option Addr) (K cV : Nat) (dss : List (List (List Int))) (lo3 hi3 : Nat) (w : World) (hp : Mons w lo hi P np cp ms) (hy : Ints2 w lo2 hi2 (some ⟨gy, 0, none⟩) dim cy yss) (hv : Ints3 w lo3 hi3 V K cV dss) (hh : hi ≤ w.heap.size) (hh2 : hi2 ≤ w.heap.size) (hh3 : hi3 ≤ w.heap.size)
    (hG : GoodM dim ms) (hN : JNum n yss) (hS3 : St3 n dim dss) (hd0 : 0 < dim) (hd6 : dim ≤ 6) (hn0 : 0 < n) (hn : n ≤ 1000) (hK : K ≤ 3) :
    Calls Tryz.prog 96 #[.slice P np cp, .slice (some ⟨gy, 0, none⟩) dim cy, .slice V K cV] w fun e w' => ∃ gR, e = .returned (.slice (some ⟨gR, 0, none⟩) n n) ∧ Ints w' w.heap.size w'.heap.size (some ⟨gR, 0, none⟩) n n (Jr.lst (Jr.sumR (Jr.dn dim (dss.map (dirO n)) (Jr.ev (dirO n yss) 0)) ms)) ∧ Below w.heap.size w w' := by
  have hcp := hp.cap
  have hmp := hp.max
  have hcy := hy.cap
  have hmy := hy.max
  have hcv := hv.cap
  have hmv := hv.max
  have HP := hide hp
  have HY := hide hy
  have HV := hide hv
  have HG := hide hG
  have HN := hide hN
  have HS3 := hide hS3
  obtain ⟨ad, B0, m0, d0, y0, e, hc0, hI0, _, hx0⟩ := hy.at_ (k := 0) hd0
  injection e with e
  subst e
  obtain rfl : n = m0 := by rw [← hI0.len]; exact ((hN y0 (List.mem_of_getElem? hx0.out)).1).symm
  have hcy0 : w.cell? ⟨gy, 0, none⟩ = some (.slice B0 n d0) := by simpa [Addr.add_lit] using hc0
  have hcd0 := hI0.cap
  have hmd0 := hI0.max
  have hmk := make_jet n hn
  have s0 := FillS.start w n hn
  have hs0 := hide (show Ints (w.alloc (.cells (zeros n) 3)) w.heap.size (w.alloc (.cells (zeros n) 3)).heap.size (some ⟨w.heap.size, 0, none⟩) n n (zeroJ n) from s0.done.1.ints)
  have hb0 := hide s0.low
  have hpw : ∃ sets : Nat, sets = 2 ^ K ∧ 1 ≤ sets ∧ sets ≤ 8 := ⟨2 ^ K, rfl, Nat.one_le_two_pow, Nat.pow_le_pow_right (by omega) hK⟩
  obtain ⟨sets, hse, hs1, hs8⟩ := hpw
  have hw2 : wrap64 ((2 : Int) ^ K) = (sets : Int) := by
    have e : ((2 : Int) ^ K) = (sets : Int) := by rw [hse]; simp
    rw [e]
    exact (IntWalk.i64_left (sets : Int)).symm.trans (IntWalk.i64_in (sets : Int) (by omega))
  have HSE := hide hse
  have HLV := hide hv.len
  obtain ⟨A, hA⟩ : ∃ A : Nat → Nat → Jr n, A = fun d => dirO n (dss.getD d []) := ⟨_, rfl⟩
  obtain ⟨Y, hY⟩ : ∃ Y : Nat → Jr n, Y = dirO n yss := ⟨_, rfl⟩
  obtain ⟨F, hF⟩ : ∃ F : List Int → Jr n, F = Jr.dn dim (dss.map (dirO n)) (Jr.ev (dirO n yss) 0) := ⟨_, rfl⟩
  have hFA : F = Jr.dn dim ((List.range K).map A) (Jr.ev Y 0) := by
    rw [hF, hA, hY, ← hv.len]
    congr 1
    exact (Jr.dirs_list dss).symm
  have HFA := hide hFA
  have HA := hide hA
  have HY2 := hide hY
  rw [← hF]
  clear hp hy hv hG hN hS3 hI0 hx0 hc0 s0 hse hA hY hF hFA
  go_enter Tryz.func96, Tryz.ntmps96
  go_wp2_with fail
  rw [hw2]
  clear hcy0 hw2
  generalize w.alloc (.cells (zeros n) 3) = W at hs0 hb0 ⊢
  go_loopw [8, 30] (fun p i wr => ∃ (k go : Nat) (u : Jr n), k ≤ np ∧ i = .int .i64 k ∧ p = .slice (some ⟨go, 0, none⟩) n n ∧ Hid (Ints wr w.heap.size wr.heap.size (some ⟨go, 0, none⟩) n n (Jr.lst u)) ∧ Hid (Below w.heap.size w wr) ∧ Hid (Jr.sumR F ms = u + Jr.sumR F (ms.drop k))) (fun _ i _ => np - (intOf i).toNat)
  case atStart => exact ⟨0, _, 0, by omega, rfl, rfl, by rw [Jr.lst_zero]; exact hs0.out, hb0.out, (Jr.zero_add _).symm⟩
  case round =>
    clear hs0 hb0
    obtain ⟨k, go, u, hk, rfl, rfl, hO, hb, hE⟩ := hrel
    have hsz := hb.out.size
    by_cases hlt : k < np
    · obtain ⟨ad, co, B, m, d, pw, rfl, hc1w, hc2w, hcr, hI, hdr, hat⟩ := HP.out.at_ hlt
      have hc1 := (hb.out.cell (p := ad.add (k * 2)) (World.block_lt_of_cell? w _ hc1w)).trans hc1w
      have hc2 := (hb.out.cell (p := ⟨(ad.add (k * 2)).block, (ad.add (k * 2)).off + 1, none⟩) (World.block_lt_of_cell? w _ hc2w)).trans hc2w
      have hgm := HG.out _ (List.mem_of_getElem? hat.out)
      simp only at hgm
      obtain rfl : dim = m := by rw [← hI.len]; exact hgm.2.1.symm
      have hge := good_e hgm.2.1 hgm.2.2
      have hds := deg_sum pw 0 hgm.2.2 (by omega)
      have hE2 : Hid (Jr.sumR F ms = u + Jr.cst co * F pw + Jr.sumR F (ms.drop (k + 1))) := by
        show _ = _
        rw [hE.out, sumR_drop F hdr.out, ← Jr.add_assoc]
      have hcm := hI.cap
      have hmm := hI.max
      have hdeg := degGo_bd pw 0 (by omega)
      have ha1 := below_alloc wr (.cells #[.int .i64 co, .slice B dim d] 95)
      have hk1 := hide (BlkN.new wr #[.int .i64 co, .slice B dim d] 95)
      have HDG := hide (impl_degree B dim d pw lo hi _ ((hI.below hb.out hh).below ha1 (by omega)) (by omega))
      have HI := hide hI
      have HGM := hide hgm
      have HGE := hide hge
      have HDS := hide hds
      obtain ⟨dg, hdg⟩ : ∃ dg, dg = degGo 0 pw := ⟨_, rfl⟩
      rw [← hdg] at HDG hdeg
      have HDGE := hide hdg
      clear hE hdr hat hI hgm hc1w hc2w hge hds hdg
      by_cases hfew : dg < (K : Int)
      · have hz : F pw = 0 := by
          rw [HFA.out]
          refine Jr.dn_few _ _ _ HGE.out ?_
          rw [← HDS.out.1, ← HDGE.out]
          simpa using hfew
        have hE3 : Hid (Jr.sumR F ms = u + Jr.sumR F (ms.drop (k + 1))) := by
          show _ = _
          rw [hE2.out, hz, Jr.mul_zero, Jr.add_zero]
        have hO2 := hide (hO.out.below ha1 (Nat.le_refl _))
        have hb2 := hide (hb.out.trans (ha1.mono hsz))
        have z1 : (wr.alloc (.cells #[.int .i64 co, .slice B dim d] 95)).heap.size = wr.heap.size + 1 := by simp
        have hO3 := hide (hO2.out.wide (lo' := w.heap.size) (hi' := (wr.alloc (.cells #[.int .i64 co, .slice B dim d] 95)).heap.size) (Nat.le_refl _) (by omega))
        clear hz ha1 hO2 hO hE2 hb z1
        go_wp2_with (go_at_call 125; refine HDG.out.mono ?_; rintro e w' ⟨rfl, rfl⟩)
        go_roundw
        case rel => exact ⟨k + 1, go, u, by omega, by go_num, rfl, hO3.out, hb2.out, hE3.out⟩
        case measure => simp [intOf]; omega
      · have hmj := make_jets sets (by omega)
        have hN0 := hide (NowI.start (Pw := .slice B dim d) (co := co) (n := n) (sets := sets) (by omega) hk1.out (hO.out.below ha1 (Nat.le_refl _)) (hb.out.trans (ha1.mono hsz)) ⟨by simp, hsz⟩)
        have z1 : (wr.alloc (.cells #[.int .i64 co, .slice B dim d] 95)).heap.size = wr.heap.size + 1 := by simp
        rw [z1] at hN0
        go_wp2_with (go_at_call 125; refine HDG.out.mono ?_; rintro e w' ⟨rfl, rfl⟩)
        generalize (wr.alloc (.cells #[.int .i64 co, .slice B dim d] 95)).alloc (.cells (madeCells #[.slice none 0 0] sets) 55) = W1 at hN0 ⊢
        clear hmj ha1 hk1 z1 hO hb hc1 hc2 HDG
        have hgg : Hid (wr.heap.size = wr.heap.size) := rfl
        generalize wr.heap.size = g11 at hN0 hsz hgg ⊢
        go_loopw [44] (fun i wr3 => ∃ (j : Nat), j ≤ sets ∧ i = .int .i64 (j : Int) ∧ Hid (NowI w wr3 g11 (g11 + 1) go n sets j co (.slice B dim d) (Jr.lst u))) (fun i _ => sets - (intOf i).toNat)
        case atStart => exact ⟨0, by omega, rfl, hN0.out⟩
        case round =>
          clear hN0
          obtain ⟨j, hj, rfl, hS⟩ := hrel
          by_cases hltj : j < sets
          · obtain ⟨v0, hcv0, hfv0⟩ := hS.out.cell hltj
            have aj := below_alloc wr (.cells (zeros n) 3)
            have hcv1 := (aj.cell (p := ⟨g11 + 1, j, none⟩) (World.block_lt_of_cell? wr _ hcv0)).trans hcv0
            have hfv1 := (aj.frozen (p := ⟨g11 + 1, j, none⟩) (World.block_lt_of_cell? wr _ hcv0)).trans hfv0
            have HN1 := hide (hS.out.step hltj hn)
            clear hS hcv0 hfv0 aj
            go_wp2_with fail
            clear hcv1 hfv1
            go_roundw
            case rel => exact ⟨j + 1, by omega, by go_num, HN1.out⟩
            case measure => simp [intOf]; omega
          · obtain rfl : sets = j := by omega
            obtain ⟨gj, dj, v0, c0, hd1, hd2, c1, f1, HD⟩ := hS.out.first (by omega) hn0 HGM.out.1
            have HD0 := hide HD.drew
            have m0 := hS.out.mono.c 0 rfl
            have hs0p : 0 < sets := by omega
            have m1 := HD0.out.mono.c 1 rfl
            clear hS HD
            go_wp2_with fail
            refine still_tail 6 (by kernel_rfl) (by kernel_rfl) ?_
            simp only [List.take_succ_cons, List.take_zero, List.drop_succ_cons, List.drop_zero]
            iterate 6 still_step
            refine wpStill_nil ?_
            have hkn := hlt
            clear hlt hltj
            have HD1 : Hid (NowD w ((wr.setCell ⟨gj, 0, none⟩ (.int .i64 co)).drew) g11 (g11 + 1) go n sets co (.slice B dim d) (Jr.lst u) (Jr.rowsJ sets fun s => setE A Y dim K co s (expo dim pw 0 0))) := by
              show NowD ..
              rw [Jr.rowsJ_ext (fun s hs => set_start hK (by rw [← HSE.out]; exact hs) pw)]
              exact HD0.out
            clear HD0
            go_wp2_with fail
            clear m0 m1 c0 c1 f1
            generalize (wr.setCell ⟨gj, 0, none⟩ (.int .i64 co)).drew = W4 at HD1 ⊢
            go_loopw [62] (fun i wr3 => ∃ (v : Nat), v ≤ dim ∧ i = .int .i64 (v : Int) ∧ Hid (NowD w wr3 g11 (g11 + 1) go n sets co (.slice B dim d) (Jr.lst u) (Jr.rowsJ sets fun s => setE A Y dim K co s (expo dim pw v 0)))) (fun i _ => dim - (intOf i).toNat)
            case atStart => exact ⟨0, by omega, rfl, HD1.out⟩
            case round =>
              clear HD1
              obtain ⟨v, hv, rfl, hS⟩ := hrel
              by_cases hltv : v < dim
              · obtain ⟨bd, p, rfl, hcp1, hpr, hdp, hxp⟩ := (HI.out.below hS.out.low hh).at_ hltv
                have hp5 := HDS.out.2 p (List.mem_of_getElem? hxp.out)
                obtain ⟨pn, rfl⟩ : ∃ pn : Nat, p = (pn : Int) := ⟨p.toNat, by omega⟩
                have hpd : Hid (pw.getD v 0 = (pn : Int)) := by show pw.getD v 0 = _; rw [List.getD, hxp.out]; rfl
                obtain ⟨ae, Bv, mv, dv, yv, e, hcy, hIv, _, hxv⟩ := HY.out.at_ hltv
                injection e with e
                subst e
                have hyv := HN.out yv (List.mem_of_getElem? hxv.out)
                obtain rfl : n = mv := by rw [← hIv.len]; exact hyv.1.symm
                have hcy1 : w.cell? ⟨gy, v, none⟩ = some (.slice Bv n dv) := by simpa [Addr.add_lit] using hcy
                have hgy := World.block_lt_of_cell? w _ hcy1
                have HCY := hide fun (w' : World) (hB : Below w.heap.size w w') => (hB.cell (p := ⟨gy, v, none⟩) hgy).trans hcy1
                have hyd : Hid (Jr.lst (Y v) = yv) := by
                  show _ = _
                  rw [HY2.out]
                  unfold dirO
                  rw [List.getD, hxv.out]
                  exact Jr.lst_of hyv.1 hyv.2
                have HIV := hide hIv
                have HYV := hide hyv.2
                have hmv := hIv.cap
                have hmv2 := hIv.max
                clear hdp hxp hcy hIv hxv hyv hcy1 hpr
                go_wp2_with fail
                clear hcp1
                go_loopw [15] (fun z wr4 => ∃ (zi : Nat), zi ≤ pn ∧ z = .int .i64 (zi : Int) ∧ Hid (NowD w wr4 g11 (g11 + 1) go n sets co (.slice (some bd) dim d) (Jr.lst u) (Jr.rowsJ sets fun s => setE A Y dim K co s (expo dim pw v ((pn : Int) - zi))))) (fun z _ => (intOf z).toNat)
                case atStart => exact ⟨pn, by omega, rfl, by rw [Int.sub_self]; exact hS.out⟩
                case round =>
                  clear hS
                  obtain ⟨zi, hz, rfl, hS⟩ := hrel
                  by_cases hz0 : 0 < zi
                  · obtain ⟨ee, hee⟩ : ∃ ee : List Int, ee = expo dim pw v ((pn : Int) - zi) := ⟨_, rfl⟩
                    have hinc : Jr.inc v ee = expo dim pw v ((pn : Int) - ((zi - 1 : Nat) : Int)) := by
                      rw [hee, expo_inc pw hltv, show (pn : Int) - ((zi - 1 : Nat) : Int) = (pn : Int) - zi + 1 by omega]
                    have HGee : Hid (Jr.GoodE dim ee) := by show Jr.GoodE dim ee; rw [hee]; exact expo_good HGE.out v (by omega)
                    rw [← hee] at hS
                    have HINC := hide hinc
                    clear hee hinc
                    have hwl : IntKind.i64.wrap ((sets : Int) - 1) = (sets : Int) - 1 := IntWalk.i64_in _ (by omega)
                    have HS0 : Hid (NowD w wr g11 (g11 + 1) go n sets co (.slice (some bd) dim d) (Jr.lst u) (Jr.rowsJ sets fun s => if s < sets then setE A Y dim K co s ee else setE A Y dim K co s (Jr.inc v ee))) := by
                      show NowD ..
                      rw [Jr.rowsJ_ext (fun s hs => if_pos hs)]
                      exact hS.out
                    clear hS
                    go_wp2_with fail
                    go_loopw [16] (fun x wr5 => ∃ (j : Nat) (xi : Int), j ≤ sets ∧ (xi ≤ (j : Int) - 1 ∧ (j : Int) - 1 ≤ xi) ∧ x = .int .i64 xi ∧ Hid (NowD w wr5 g11 (g11 + 1) go n sets co (.slice (some bd) dim d) (Jr.lst u) (Jr.rowsJ sets fun s => if s < j then setE A Y dim K co s ee else setE A Y dim K co s (Jr.inc v ee)))) (fun x _ => (intOf x + 1).toNat)
                    case atStart => exact ⟨sets, _, Nat.le_refl _, ⟨Int.le_refl _, Int.le_refl _⟩, by go_num, HS0.out⟩
                    case round =>
                      clear HS0
                      obtain ⟨j, xi, hj, hxi, rfl, hS⟩ := hrel
                      by_cases hj0 : 0 < j
                      · obtain ⟨s, rfl⟩ : ∃ s, j = s + 1 := ⟨j - 1, by omega⟩
                        obtain rfl : xi = (s : Int) := by omega
                        have hss : s < sets := by omega
                        clear hj0 hxi hj
                        obtain ⟨Bs, ms', ds', xs, hcs, hIs, hxs, hfs⟩ := hS.out.at_ hss
                        have hxs2 := hxs.out
                        rw [Jr.rowsJ_at _ hss, if_pos (by omega)] at hxs2
                        injection hxs2 with hxs2
                        subst hxs2
                        obtain rfl : n = ms' := by rw [← hIs.len, Jr.lst_len]
                        have hcsc := hIs.cap
                        have hcsm := hIs.max
                        have hSd := hide hS.out.drew
                        have hw4 := HCY.out _ hS.out.low
                        have HTM := hide (impl_times Bs n ds' (Jr.lst (setE A Y dim K co s ee)) (g11 + 1) wr.drew.heap.size Bv dv yv lo2 hi2 wr.drew (hIs.below (Below.refl _ _).drew (Nat.le_refl _)) (HIV.out.below hSd.out.low hh2) (Nat.le_refl _) (by have := hSd.out.low.size; omega) hn (Jr.lst_num _) HYV.out)
                        have hszS := hS.out.low.size
                        clear hIs hxs hfs hSd
                        go_wp2_with fail
                        refine still_tail 8 (by kernel_rfl) (by kernel_rfl) ?_
                        simp only [List.take_succ_cons, List.take_zero, List.drop_succ_cons, List.drop_zero]
                        iterate 8 still_step
                        refine wpStill_nil ?_
                        go_wp2_with fail
                        refine HTM.out.mono ?_
                        rintro e w5 ⟨gx, rfl, hO5, hb5⟩
                        rw [← hyd.out, Jr.mul_lst, set_zero] at hO5
                        have hb6 := hide (show Below wr.heap.size wr w5 from ((Below.refl wr.heap.size wr).drew).trans hb5)
                        have hI5 := hide (show Ints w5 wr.heap.size w5.heap.size (some ⟨gx, 0, none⟩) n n _ from hO5.ints)
                        obtain ⟨wo, hwo⟩ : ∃ wo, wo = wr := ⟨_, rfl⟩
                        subst hwo
                        clear hw4 hcs HTM hO5 hb5
                        go_wp2_with fail
                        go_loopw [17, 88] (fun x i wr6 => ∃ (q gx : Nat), q ≤ K ∧ i = .int .i64 (q : Int) ∧ x = .slice (some ⟨gx, 0, none⟩) n n ∧ Hid (Ints wr6 wo.heap.size wr6.heap.size (some ⟨gx, 0, none⟩) n n (Jr.lst (Y v * setE A Y dim K co s ee + setP A Y dim K co s v ee q))) ∧ Hid (Below wo.heap.size wo wr6)) (fun _ i _ => K - (intOf i).toNat)
                        case atStart => exact ⟨0, gx, by omega, rfl, rfl, hI5.out, hb6.out⟩
                        case round =>
                          clear hI5 hb6
                          obtain ⟨q, gx, hq, rfl, rfl, hI, hb⟩ := hrel
                          have zr := hb.out.size
                          by_cases hltq : q < K
                          · have hbt : bits BinOp.and IntKind.i64 ((s : Int) / 2 ^ q) 1 = ((s / 2 ^ q % 2 : Nat) : Int) := bit_one s q (by omega) (by omega)
                            by_cases hbit : s / 2 ^ q % 2 = 1
                            · obtain ⟨D, sd, hsd, hsds0, hxoH, hw2H, hw3H⟩ := bit_facts (show s < 8 by omega) (show q < 3 by omega) hbit
                              have hsds : sd < sets := by omega
                              obtain ⟨Bq, mq, dq, xq, hcq, hIq, hxq, _⟩ := (hS.out.below hb.out).at_ hsds
                              have hxq2 := hxq.out
                              rw [Jr.rowsJ_at _ hsds, if_pos (by omega)] at hxq2
                              injection hxq2 with hxq2
                              subst hxq2
                              obtain rfl : n = mq := by rw [← hIq.len, Jr.lst_len]
                              have hlow2 := (hS.out.below hb.out).low
                              obtain ⟨av, B3, m3, d3, x3, rfl, hc3, hI3, hx3⟩ := (HV.out.below hlow2 hh3).at_ hltq
                              have hx3S := HS3.out x3 (List.mem_of_getElem? hx3.out)
                              obtain rfl : dim = m3 := by rw [← hI3.len]; exact hx3S.1.symm
                              obtain ⟨a4, B4, m4, d4, x4, rfl, hc4, hI4, _, hx4⟩ := hI3.at_ hltv
                              obtain ⟨a5, rfl, _⟩ := hI4.cells (by rw [← hI4.len, (hx3S.2 x4 (List.mem_of_getElem? hx4.out)).1]; exact hn0)
                              have hx4S := hx3S.2 x4 (List.mem_of_getElem? hx4.out)
                              obtain rfl : n = m4 := by rw [← hI4.len]; exact hx4S.1.symm
                              have hx4d : Hid (Jr.lst (A q v) = x4) := by
                                show _ = _
                                rw [HA.out]
                                show Jr.lst (dirO n (dss.getD q []) v) = x4
                                rw [List.getD, hx3.out]
                                show Jr.lst (Jr.of (x3.getD v [])) = x4
                                rw [List.getD, hx4.out]
                                exact Jr.lst_of hx4S.1 hx4S.2
                              have q1 := hIq.cap
                              have q2 := hIq.max
                              have q3 := hI3.cap
                              have q4 := hI3.max
                              have q5 := hI4.cap
                              have q6 := hI4.max
                              have hbq := World.block_lt_of_cell? wr _ hcq
                              have hb3 := World.block_lt_of_cell? wr _ hc3
                              have hb4 := World.block_lt_of_cell? wr _ hc4
                              have hlo2 := hlow2.size
                              have hTM : Hid (∀ W, Below wr.heap.size wr W → Calls Tryz.prog 126 #[.slice Bq n dq, .slice (some a5) n d4] W fun e w' => ∃ gR, e = .returned (.slice (some ⟨gR, 0, none⟩) n n) ∧ Ints w' W.heap.size w'.heap.size (some ⟨gR, 0, none⟩) n n (Jr.lst (setE A Y dim K co sd ee * A q v)) ∧ Below W.heap.size W w') := fun W hB => by
                                have hz := hB.size
                                refine (impl_times Bq n dq (Jr.lst (setE A Y dim K co sd ee)) (g11 + 1) wr.heap.size (some a5) d4 x4 lo3 hi3 W (hIq.below hB (Nat.le_refl _)) (hI4.below hB (by omega)) hz (by omega) hn (Jr.lst_num _) hx4S.2).mono ?_
                                rintro e w7 ⟨g7, rfl, hO7, hb7⟩
                                rw [← hx4d.out, Jr.mul_lst] at hO7
                                exact ⟨g7, rfl, hO7.ints, hb7⟩
                              have hst : Hid (Jr.lst (Y v * setE A Y dim K co s ee + setP A Y dim K co s v ee q + setE A Y dim K co sd ee * A q v) = Jr.lst (Y v * setE A Y dim K co s ee + setP A Y dim K co s v ee (q + 1))) := by
                                show _ = _
                                rw [hsd.out, set_yes hbit]
                              have hPL : Hid (∀ W gm l h, Below wr.heap.size wr W → Ints W l h (some ⟨gm, 0, none⟩) n n (Jr.lst (setE A Y dim K co sd ee * A q v)) → h ≤ W.heap.size → Calls Tryz.prog 39 #[.slice (some ⟨gx, 0, none⟩) n n, .slice (some ⟨gm, 0, none⟩) n n, .int .i64 1] W fun e w' => ∃ gR, e = .returned (.slice (some ⟨gR, 0, none⟩) n n) ∧ Ints w' W.heap.size w'.heap.size (some ⟨gR, 0, none⟩) n n (Jr.lst (Y v * setE A Y dim K co s ee + setP A Y dim K co s v ee (q + 1))) ∧ Below W.heap.size W w') := fun W gm l h hB hM hh => by
                                have hz := hB.size
                                refine (impl_plus (some ⟨gx, 0, none⟩) n n _ wo.heap.size wr.heap.size (some ⟨gm, 0, none⟩) n _ l h 1 W (hI.out.below hB (Nat.le_refl _)) hM hz hh hn (by constructor <;> omega)).mono ?_
                                rintro e w7 ⟨g7, rfl, hO7, hb7⟩
                                rw [Jr.plus_lst1, hst.out] at hO7
                                exact ⟨g7, rfl, hO7.ints, hb7⟩
                              have hbt1 : bits BinOp.and IntKind.i64 ((s : Int) / 2 ^ q) 1 = 1 := by rw [hbt, hbit]; rfl
                              clear hbt hbit hIq hxq hI3 hI4 hx3 hx4 hx3S hx4S hsd hI hst hlow2 hlo2 hx4d
                              have hxo := hxoH.out
                              have hw2 := hw2H.out
                              have hw3 := hw3H.out
                              go_wp2_with fail
                              refine wp_region_Z (fun W' => Below wr.heap.size wr W') 17 (by kernel_rfl) ?_
                              simp only [List.size_toArray, List.length_cons, List.length_nil, Nat.reduceAdd]
                              have hS0 : Below wr.heap.size wr wr.drew := (Below.refl wr.heap.size wr).drew
                              generalize wr.drew = V at hS0 ⊢
                              refine wpAnyZ_takeW 0 (.slice (some ⟨gx, 0, none⟩) n n) rfl (by kernel_rfl) (by kernel_rfl) (fun _ _ _ h => h) (by rfl) (fun _ => by first | (simp [go_sem]; done) | go_simp) hS0 ?_
                              try simp only [Act.put, List.setIfInBounds_toArray, List.set_cons_zero, List.set_cons_succ, List.getElem_toArray, List.getElem_cons_zero, List.getElem_cons_succ]
                              refine wpAnyZ_takeW 1 (.slice (some ⟨g11 + 1, 0, none⟩) sets sets) rfl (by kernel_rfl) (by kernel_rfl) (fun _ _ _ h => h) (by rfl) (fun _ => by first | (simp [go_sem]; done) | go_simp) hS0 ?_
                              try simp only [Act.put, List.setIfInBounds_toArray, List.set_cons_zero, List.set_cons_succ, List.getElem_toArray, List.getElem_cons_zero, List.getElem_cons_succ]
                              refine wpAnyZ_takeW 2 (.int .i64 (s : Int)) rfl (by kernel_rfl) (by kernel_rfl) (fun _ _ _ h => h) (by rfl) (fun _ => by first | (simp [go_sem]; done) | go_simp) hS0 ?_
                              try simp only [Act.put, List.setIfInBounds_toArray, List.set_cons_zero, List.set_cons_succ, List.getElem_toArray, List.getElem_cons_zero, List.getElem_cons_succ]
                              refine wpAnyZ_takeW 3 (.int .i64 (q : Int)) rfl (by kernel_rfl) (by kernel_rfl) (fun _ _ _ h => h) (by rfl) (fun _ => by first | (simp [go_sem]; done) | go_simp) hS0 ?_
                              try simp only [Act.put, List.setIfInBounds_toArray, List.set_cons_zero, List.set_cons_succ, List.getElem_toArray, List.getElem_cons_zero, List.getElem_cons_succ]
                              refine wpAnyZ_takeW 4 (.int .i64 (D : Int)) rfl (by kernel_rfl) (by kernel_rfl) (fun _ _ _ h => h) (by rfl) (fun _ => by simp [go_sem, hw2, hw3]) hS0 ?_
                              try simp only [Act.put, List.setIfInBounds_toArray, List.set_cons_zero, List.set_cons_succ, List.getElem_toArray, List.getElem_cons_zero, List.getElem_cons_succ]
                              refine wpAnyZ_takeW 5 (.int .i64 (sd : Int)) rfl (by kernel_rfl) (by kernel_rfl) (fun _ _ _ h => h) (by rfl) (fun _ => by simp [go_sem, hxo]) hS0 ?_
                              try simp only [Act.put, List.setIfInBounds_toArray, List.set_cons_zero, List.set_cons_succ, List.getElem_toArray, List.getElem_cons_zero, List.getElem_cons_succ]
                              refine wpAnyZ_takeW 6 (.pointer (some ⟨g11 + 1, sd, none⟩)) rfl (by kernel_rfl) (by kernel_rfl) (fun _ _ _ h => h) (by rfl) (fun _ => by simp [go_sem, hsds]) hS0 ?_
                              try simp only [Act.put, List.setIfInBounds_toArray, List.set_cons_zero, List.set_cons_succ, List.getElem_toArray, List.getElem_cons_zero, List.getElem_cons_succ]
                              refine wpAnyZ_take 7 (.slice Bq n dq) rfl (by kernel_rfl) (by kernel_rfl) (fun _ _ _ h => h) (by rfl) (fun _ hS => by have q0 := (hS.cell (p := ⟨g11 + 1, sd, none⟩) hbq).trans hcq; clear hS; first | (simp [go_sem, q0]; done) | go_simp) hS0 ?_
                              try simp only [Act.put, List.setIfInBounds_toArray, List.set_cons_zero, List.set_cons_succ, List.getElem_toArray, List.getElem_cons_zero, List.getElem_cons_succ]
                              refine wpAnyZ_takeW 8 (.slice (some av) K cV) rfl (by kernel_rfl) (by kernel_rfl) (fun _ _ _ h => h) (by rfl) (fun _ => by first | (simp [go_sem]; done) | go_simp) hS0 ?_
                              try simp only [Act.put, List.setIfInBounds_toArray, List.set_cons_zero, List.set_cons_succ, List.getElem_toArray, List.getElem_cons_zero, List.getElem_cons_succ]
                              refine wpAnyZ_takeW 9 (.int .i64 (q : Int)) rfl (by kernel_rfl) (by kernel_rfl) (fun _ _ _ h => h) (by rfl) (fun _ => by first | (simp [go_sem]; done) | go_simp) hS0 ?_
                              try simp only [Act.put, List.setIfInBounds_toArray, List.set_cons_zero, List.set_cons_succ, List.getElem_toArray, List.getElem_cons_zero, List.getElem_cons_succ]
                              refine wpAnyZ_takeW 10 (.pointer (some (av.add q))) rfl (by kernel_rfl) (by kernel_rfl) (fun _ _ _ h => h) (by rfl) (fun _ => by simp [go_sem, hltq]) hS0 ?_
                              try simp only [Act.put, List.setIfInBounds_toArray, List.set_cons_zero, List.set_cons_succ, List.getElem_toArray, List.getElem_cons_zero, List.getElem_cons_succ]
                              refine wpAnyZ_take 11 (.slice (some a4) dim d3) rfl (by kernel_rfl) (by kernel_rfl) (fun _ _ _ h => h) (by rfl) (fun _ hS => by have q0 := (hS.cell (p := av.add q) hb3).trans hc3; clear hS; first | (simp [go_sem, q0]; done) | go_simp) hS0 ?_
                              try simp only [Act.put, List.setIfInBounds_toArray, List.set_cons_zero, List.set_cons_succ, List.getElem_toArray, List.getElem_cons_zero, List.getElem_cons_succ]
                              refine wpAnyZ_takeW 12 (.int .i64 (v : Int)) rfl (by kernel_rfl) (by kernel_rfl) (fun _ _ _ h => h) (by rfl) (fun _ => by first | (simp [go_sem]; done) | go_simp) hS0 ?_
                              try simp only [Act.put, List.setIfInBounds_toArray, List.set_cons_zero, List.set_cons_succ, List.getElem_toArray, List.getElem_cons_zero, List.getElem_cons_succ]
                              refine wpAnyZ_takeW 13 (.pointer (some (a4.add v))) rfl (by kernel_rfl) (by kernel_rfl) (fun _ _ _ h => h) (by rfl) (fun _ => by simp [go_sem, hltv]) hS0 ?_
                              try simp only [Act.put, List.setIfInBounds_toArray, List.set_cons_zero, List.set_cons_succ, List.getElem_toArray, List.getElem_cons_zero, List.getElem_cons_succ]
                              refine wpAnyZ_take 14 (.slice (some a5) n d4) rfl (by kernel_rfl) (by kernel_rfl) (fun _ _ _ h => h) (by rfl) (fun _ hS => by have q0 := (hS.cell (p := a4.add v) hb4).trans hc4; clear hS; first | (simp [go_sem, q0]; done) | go_simp) hS0 ?_
                              try simp only [Act.put, List.setIfInBounds_toArray, List.set_cons_zero, List.set_cons_succ, List.getElem_toArray, List.getElem_cons_zero, List.getElem_cons_succ]
                              refine wpAnyZ_one 15 (by kernel_rfl) rfl (by rfl) (fun K hK => ?_)
                              go_simp
                              refine (hTM.out V hS0).mono ?_
                              rintro e x1 ⟨g7, rfl, o7, b1⟩
                              have z1 := hS0.size
                              have hS1 := hS0.trans (b1.mono z1)
                              have h7 := hide o7
                              clear o7
                              clear z1
                              go_wp2_with fail
                              refine hK.out _ _ hS1 ?_
                              clear hK K
                              try simp only [Act.put, List.setIfInBounds_toArray, List.set_cons_zero, List.set_cons_succ, List.getElem_toArray, List.getElem_cons_zero, List.getElem_cons_succ]
                              refine wpAnyZ_one 16 (by kernel_rfl) rfl (by rfl) (fun K hK => ?_)
                              go_simp
                              refine (hPL.out x1 g7 _ _ hS1 h7.out (Nat.le_refl _)).mono ?_
                              rintro e x2 ⟨g9, rfl, o9, b2⟩
                              have z2 := hS1.size
                              have hS2 := hS1.trans (b2.mono z2)
                              have h9 := hide (o9.wide (lo' := wo.heap.size) (by have := hb.out.size; have := hS1.size; omega) (Nat.le_refl _))
                              clear o9 h7
                              clear z2
                              go_wp2_with fail
                              refine hK.out _ _ hS2 ?_
                              clear hK K
                              try simp only [Act.put, List.setIfInBounds_toArray, List.set_cons_zero, List.set_cons_succ, List.getElem_toArray, List.getElem_cons_zero, List.getElem_cons_succ]
                              refine wpAnyZ_last (by kernel_rfl) rfl (by kernel_rfl) (by rfl) (fun K hK => ?_)
                              go_simp
                              refine hK _ _ ?_
                              clear hK K
                              have hb10 := hide (hb.out.trans (hS2.mono zr))
                              clear hw2 hw3 hxo hbt1
                              go_wp2_with fail
                              go_roundw
                              case rel => exact ⟨q + 1, g9, by omega, by go_num, rfl, h9.out, hb10.out⟩
                              case measure => simp [intOf]; omega
                            · have hbt0 : bits BinOp.and IntKind.i64 ((s : Int) / 2 ^ q) 1 = 0 := by rw [hbt]; omega
                              have hI2 : Hid (Ints wr wo.heap.size wr.heap.size (some ⟨gx, 0, none⟩) n n (Jr.lst (Y v * setE A Y dim K co s ee + setP A Y dim K co s v ee (q + 1)))) := by
                                show Ints ..
                                rw [← set_no hbit]
                                exact hI.out
                              clear hbt hbit hI
                              go_wp2_with fail
                              go_roundw
                              case rel => exact ⟨q + 1, gx, by omega, by go_num, rfl, hI2.out, hb.out⟩
                              case measure => simp [intOf]; omega
                          · obtain rfl : K = q := by omega
                            rw [set_all hltv hK (by rw [← HSE.out]; exact hss) HGee.out] at hI
                            have hput := hS.out.put hss hb.out hI.out
                            rw [Jr.rowsJ_set] at hput
                            have hput2 : NowD w (wr.setCell ⟨g11 + 1, s, none⟩ (.slice (some ⟨gx, 0, none⟩) n n)) g11 (g11 + 1) go n sets co (.slice (some bd) dim d) (Jr.lst u) (Jr.rowsJ sets fun s' => if s' < s then setE A Y dim K co s' ee else setE A Y dim K co s' (Jr.inc v ee)) := by
                              rw [Jr.rowsJ_ext (E := fun x => if x = s then setE A Y dim K co s (Jr.inc v ee) else if x < s + 1 then setE A Y dim K co x ee else setE A Y dim K co x (Jr.inc v ee))]
                              · exact hput
                              · intro x hx
                                by_cases h1 : x = s
                                · subst h1
                                  rw [if_neg (by omega), if_pos rfl]
                                · rw [if_neg h1]
                                  by_cases h2 : x < s
                                  · rw [if_pos h2, if_pos (by omega)]
                                  · rw [if_neg h2, if_neg (by omega)]
                            have HN := hide hput2
                            obtain ⟨_, _, _, _, hcs, _, _, hfs⟩ := (hS.out.below hb.out).at_ hss
                            have hws : IntKind.i64.wrap ((s : Int) - 1) = (s : Int) - 1 := IntWalk.i64_in _ (by omega)
                            clear hput hput2 hS hI hb
                            go_wp2_with fail
                            clear hcs hfs
                            go_roundw
                            case rel => exact ⟨s, _, by omega, ⟨Int.le_refl _, Int.le_refl _⟩, by go_num, HN.out⟩
                            case measure => simp [intOf]
                      · obtain rfl : j = 0 := by omega
                        obtain rfl : xi = -1 := by omega
                        have HN : Hid (NowD w wr g11 (g11 + 1) go n sets co (.slice (some bd) dim d) (Jr.lst u) (Jr.rowsJ sets fun s => setE A Y dim K co s (expo dim pw v ((pn : Int) - ((zi - 1 : Nat) : Int))))) := by
                          show NowD ..
                          rw [← HINC.out, ← Jr.rowsJ_ext (D := fun s => if s < 0 then setE A Y dim K co s ee else setE A Y dim K co s (Jr.inc v ee)) (fun s hs => if_neg (by omega))]
                          exact hS.out
                        clear hS
                        go_wp2_with fail
                        go_roundw
                        case rel => exact ⟨zi - 1, by omega, by go_num, HN.out⟩
                        case measure => simp [intOf]; omega
                  · obtain rfl : zi = 0 := by omega
                    have HD2 : Hid (NowD w wr g11 (g11 + 1) go n sets co (.slice (some bd) dim d) (Jr.lst u) (Jr.rowsJ sets fun s => setE A Y dim K co s (expo dim pw (v + 1) 0))) := by
                      show NowD ..
                      rw [← expo_next HGE.out.1, hpd.out, ← show (pn : Int) - ((0 : Nat) : Int) = (pn : Int) by omega]
                      exact hS.out
                    clear hS
                    go_wp2_with fail
                    go_roundw
                    case rel => exact ⟨v + 1, by omega, by go_num, HD2.out⟩
                    case measure => simp [intOf]; omega
              · obtain rfl : dim = v := by omega
                obtain ⟨Bl, ml, dl, xl, hcl, hIl, hxl, _⟩ := hS.out.at_ (s := sets - 1) (by omega)
                have hxl2 := hxl.out
                rw [Jr.rowsJ_at _ (by omega), expo_all HGE.out.1] at hxl2
                injection hxl2 with hxl2
                have hEl : Hid (xl = Jr.lst (Jr.cst co * F pw)) := by
                  show _ = _
                  rw [← hxl2, HSE.out, set_full hK, ← HFA.out]
                obtain rfl : n = ml := by rw [← hIl.len, hEl.out, Jr.lst_len]
                rw [hEl.out] at hIl
                have hcl2 := hIl.cap
                have hml2 := hIl.max
                have hwl : IntKind.i64.wrap ((sets : Int) - 1) = ((sets - 1 : Nat) : Int) := by rw [show (sets : Int) - 1 = ((sets - 1 : Nat) : Int) by omega]; exact IntWalk.i64_in _ (by omega)
                obtain ⟨sl, hsl⟩ : ∃ sl : Nat, sl = sets - 1 := ⟨_, rfl⟩
                rw [← hsl] at hcl hwl
                have hsl2 : sl < sets := by omega
                have HPL := hide (impl_plus (some ⟨go, 0, none⟩) n n (Jr.lst u) w.heap.size g11 Bl dl (Jr.lst (Jr.cst co * F pw)) (g11 + 1) wr.heap.size 1 wr hS.out.out hIl (by have := hS.out.mono.lt; omega) (Nat.le_refl _) hn (by constructor <;> omega))
                have hlow := hide hS.out.low
                have hszS := hS.out.low.size
                clear hxl hxl2 hEl hIl hS hsl
                go_wp2_with (go_at_call 39; refine HPL.out.mono ?_; rintro e w6 ⟨gR, rfl, hO6, hb6⟩; have hI6 := hide (hO6.ints.wide (lo' := w.heap.size) hszS (Nat.le_refl _)); have hb7 := hide (hlow.out.trans (hb6.mono hszS)); clear hO6 hb6)
                rw [Jr.plus_lst1] at hI6
                refine ⟨⟨k + 1, gR, _, by omega, by go_num, rfl, hI6.out, hb7.out, hE2.out⟩, ?_⟩
                simp [intOf]; omega
    · obtain rfl : k = np := by omega
      rw [List.drop_eq_nil_of_le (Nat.le_of_eq HP.out.len), Jr.sumR, Jr.add_zero] at hE
      go_wp2_with fail
      go_ret
      exact ⟨_, rfl, by rw [hE.out]; exact hO.out, hb.out⟩
end Go.Proofs.YtkaepjigmcielaaGreatDoor
