/- Elementary differentials of shaded trees: the reference's walk. -/
import Derived.Test.YtkaepjigmcielaaGreatDoorDfX
import Derived.Test.YtkaepjigmcielaaGreatDoorMzW
import Derived.Test.YtkaepjigmcielaaGreatDoorMzM
namespace Go.Proofs.YtkaepjigmcielaaGreatDoor
open Go.RowKit
set_option linter.unusedSimpArgs false
set_option linter.unusedVariables false
set_option maxRecDepth 20000

theorem info_intss : (Tryz.prog.info? 26).map (fun i => (i.zero, i.size, i.bytes)) = some (some (.slice none 0 0), 1, 24) := by kernel_rfl

set_option maxRecDepth 100000 in
set_option maxHeartbeats 8000000 in
theorem spec_l10Differential (P : Option Addr) (dim c : Nat) (ps : List (List Mono)) (lo1 hi1 : Nat) (C : Option Addr) (cC : Nat) (cols : List Int) (loc hic : Nat) (gy cy : Nat) (yss : List (List Int)) (lo2 hi2 n : Nat) (hG : GoodF dim ps) (hN : JNum n yss) (hd0 : 0 < dim) (hd6 : dim ≤ 6) (hn0 : 0 < n) (hn : n ≤ 1000) :
    ∀ (f gl ml cl : Nat) (l : List Int) (lo hi : Nat) (w : World), Ints w lo hi (some ⟨gl, 0, none⟩) ml cl l → hi ≤ w.heap.size → Good l → l.length ≤ f → f ≤ 4 → Mons2 w lo1 hi1 P dim c ps → Ints w loc hic C dim cC cols → Ints2 w lo2 hi2 (some ⟨gy, 0, none⟩) dim cy yss → hi1 ≤ w.heap.size → hic ≤ w.heap.size → hi2 ≤ w.heap.size →
    Calls Tryz.prog 25 #[.agg #[.int .i64 (dim : Int), .slice P dim c], .slice C dim cC, .slice (some ⟨gl, 0, none⟩) ml cl, .slice (some ⟨gy, 0, none⟩) dim cy] w fun r w' => ∃ g cg vs, r = .returned (.slice (some ⟨g, 0, none⟩) dim cg) ∧ Lst kI 22 (fun _ => True) w' w.heap.size w'.heap.size (some ⟨g, 0, none⟩) dim cg vs (Jr.rowsJ dim (Jr.dT dim ps cols (dirO n yss) l)) ∧ Below w.heap.size w w' := by
  have HG := hide hG
  have HN := hide hN
  obtain ⟨Y, hY⟩ : ∃ Y : Nat → Jr n, Y = dirO n yss := ⟨_, rfl⟩
  rw [← hY]
  have HYY := hide hY
  clear hG hN hY
  intro f
  induction f with
  | zero =>
    intro gl ml cl l lo hi w _ _ hg hl
    exfalso
    obtain ⟨b, q, e, _⟩ := hg
    rw [e] at hl
    simp at hl
  | succ f ih =>
    intro gl ml cl l lo hi w h hh hgood hlf hf4 hp hc hy hh1 hhc hh2
    obtain ⟨i1, hi1', hz0, hz1, hz2⟩ := info_parts info_intss
    obtain ⟨a, rr, rfl⟩ : ∃ a rr, l = a :: rr := by
      obtain ⟨b, q, e, _⟩ := hgood
      exact ⟨b, q, e⟩
    obtain ⟨hpg, hr2, hh4, ha0, ha2⟩ := good_parts hgood
    have IH := hide ih
    have hml := h.len
    have hlf' : rr.length ≤ f := by simpa using hlf
    have hml4 : ml ≤ 4 := by simp at hml; omega
    have hml0 : 0 < ml := by simp at hml; omega
    have hdt := hide (Jr.dT_eq dim ps cols Y (l := a :: rr) (by omega))
    have hpn := parts_num (r := rr) (acc := []) (.inr hh4)
    have HI := hide h
    have HP := hide hp
    have HC := hide hc
    have HY := hide hy
    have HGP := hide hpg
    have hcp := hp.cap
    have hmp := hp.max
    have hcc := hc.cap
    have hmc := hc.max
    have hcy := hy.cap
    have hmy := hy.max
    have hcl := h.cap
    have hmcl := h.max
    obtain ⟨ad, B0, m0, d0, y0, e, hc0, hI0, _, hx0⟩ := hy.at_ (k := 0) hd0
    injection e with e
    subst e
    obtain rfl : n = m0 := by rw [← hI0.len]; exact ((HN.out y0 (List.mem_of_getElem? hx0.out)).1).symm
    have hcy0 : w.cell? ⟨gy, 0, none⟩ = some (.slice B0 n d0) := by simpa [Addr.add_lit] using hc0
    have hgy0 := World.block_lt_of_cell? w _ hcy0
    have hcd0 := hI0.cap
    have hmd0 := hI0.max
    have b0 := below_alloc w (.cells #[.int .i64 (dim : Int), .slice P dim c] 33)
    have k0 := BlkN.new w #[.int .i64 (dim : Int), .slice P dim c] 33
    have z0 : (w.alloc (.cells #[.int .i64 (dim : Int), .slice P dim c] 33)).heap.size = w.heap.size + 1 := by simp
    clear h hp hc hy hpg ih hgood hlf hml hI0 hx0 hc0
    go_enter Tryz.func25, Tryz.ntmps25
    go_wp2_with fail
    generalize w.alloc (.cells #[.int .i64 (dim : Int), .slice P dim c] 33) = W0 at b0 k0 z0 ⊢
    have hL0 := hide (Lst.empty kII 26 (fun _ => True) W0 (w.heap.size + 1) (by omega))
    have hbL := hide (b0.trans ((below_alloc W0 (.cells #[] 26)).mono b0.size))
    have zL : (W0.alloc (.cells #[] 26)).heap.size = w.heap.size + 2 := by simp [z0]
    have hL1 := hide (hL0.out.wide (hi2 := (W0.alloc (.cells #[] 26)).heap.size) (by rw [zL, z0]; omega))
    rw [z0] at hL1
    have hK1 := hide (k0.alloc (.cells #[] 26))
    clear hL0
    generalize W0.alloc (.cells #[] 26) = W1 at hL1 hbL hK1 zL ⊢
    obtain ⟨gP, hgP⟩ : ∃ g, g = w.heap.size := ⟨_, rfl⟩
    rw [← hgP] at hK1 hL1 zL ⊢
    have hgPe : gP ≤ w.heap.size ∧ w.heap.size ≤ gP := by omega
    have hz1w : w.heap.size ≤ W1.heap.size := hbL.out.size
    have hPt := hide (spec_l10Parts gl ml cl a rr lo hi W1 (HI.out.below hbL.out hh) (by omega) hml4 ⟨ha0, ha2⟩ hr2 hh4)
    have zL2 : gP + 2 ≤ W1.heap.size := by omega
    clear b0 k0 z0 hgP zL
    refine hPt.out.mono ?_
    rintro e w2 ⟨g8, n8, c8, v8, rfl, hO8, b2⟩
    have z2 := b2.size
    have hR8 := hide hO8.rows
    have hg8 := hO8.own.lt g8 rfl
    have hc8 := hO8.capb
    have hl8 := hide hO8.len
    have hL2 := hide (show Lst kII 26 (fun _ => True) w2 (gP + 1) w2.heap.size (some ⟨gP + 1, 0, none⟩) 0 0 [] (((partsF [] rr).take 0).map fun p => Jr.rowsJ dim (Jr.dT dim ps cols Y p)) from (hL1.out.below b2 (Nat.le_refl _)).wide z2)
    have hK2 := hide (hK1.out.below b2)
    have hb2 := hide (hbL.out.trans (b2.mono hz1w))
    have hn83 : n8 ≤ 3 := by
      rw [← hl8.out]
      simp only [List.length_nil, Nat.zero_add] at hpn
      omega
    clear hO8 b2 hPt hL1 hK1 hbL hpn
    go_wp2_with fail
    go_loopw [9, 11] (fun p i wr => ∃ (q : Nat) (R : Option Addr) (cR : Nat) (vs : List Value), q ≤ n8 ∧ i = .int .i64 (q : Int) ∧ p = .slice R q cR ∧ Hid (Lst kII 26 (fun _ => True) wr (gP + 1) wr.heap.size R q cR vs (((partsF [] rr).take q).map fun p => Jr.rowsJ dim (Jr.dT dim ps cols Y p))) ∧ Hid (Below w.heap.size w wr) ∧ Hid (BlkN wr gP #[.int .i64 (dim : Int), .slice P dim c]) ∧ Hid (Same W1.heap.size w2.heap.size w2 wr) ∧ w2.heap.size ≤ wr.heap.size ∧ Hid (∀ ad, R = some ad → ad.block < W1.heap.size ∨ w2.heap.size ≤ ad.block)) (fun _ i _ => n8 - (intOf i).toNat)
    case atStart => exact ⟨0, _, _, _, by omega, rfl, rfl, hL2.out, hb2.out, hK2.out, Same.refl _ _ _, Nat.le_refl _, fun ad e => .inl (by injection e with e; subst e; show gP + 1 < _; omega)⟩
    case round =>
      clear hL2 hK2 hb2
      obtain ⟨q, R, cR, vs, hq, rfl, rfl, hL, hb, hK, hS, hzr, hRb⟩ := hrel
      have zr2 := hb.out.size
      have hcR := hL.out.capb
      have hgPw := hK.out.lt
      by_cases hlt : q < n8
      · obtain ⟨Bp, mp, dp, lp, hp_, p, hcw, hI1, hlp, hhp, hx, hvx, hform⟩ := hR8.out.at_ hlt
        have hpm := List.mem_of_getElem? hx.out
        have hgp := HGP.out p hpm
        obtain ⟨cq, pr, hpe, hcq⟩ := good_col hgp
        have hmp0 : 0 < mp := by
          have := hI1.len
          rw [hpe] at this
          simp at this
          omega
        obtain ⟨ad, rfl⟩ : ∃ ad, Bp = some ad := by
          obtain ⟨ad, e, _⟩ := hI1.cells hmp0
          exact ⟨ad, e⟩
        obtain ⟨gp, hgpe⟩ : ∃ g, ad = ⟨g, 0, none⟩ := ⟨_, hform ad rfl⟩
        subst hgpe
        have hIp := hide (hI1.same fun k k1 k2 => hS.out k (by omega) (by omega))
        have hcpw : wr.cell? ⟨g8, q, none⟩ = some (.slice (some ⟨gp, 0, none⟩) mp dp) := (hS.out.cell (p := ⟨g8, q, none⟩) (by show W1.heap.size ≤ g8; omega) (by show g8 < _; omega)).trans hcw
        have hg8w : g8 < wr.heap.size := by omega
        have hcpb := hIp.out.cap
        have hcpm := hIp.out.max
        have hst : Hid (((partsF [] rr).take (q + 1)).map (fun p => Jr.rowsJ dim (Jr.dT dim ps cols Y p)) = ((partsF [] rr).take q).map (fun p => Jr.rowsJ dim (Jr.dT dim ps cols Y p)) ++ [Jr.rowsJ dim (Jr.dT dim ps cols Y p)]) := by
          show _ = _
          rw [List.take_add_one, hx.out, List.map_append]
          rfl
        have hpl := parts_len hpm
        have HGp := hide hgp
        have cp0 := hK.out.c 0 rfl
        have cp1 := hK.out.c 1 rfl
        have hgr := hide (fun (k : Nat) (h1 : W1.heap.size ≤ k) (h2 : k < w2.heap.size) (ad : Addr) (e : R = some ad) => (show k ≠ ad.block by have := hRb.out ad e; omega))
        have hgr0 := hide (fun (ad : Addr) (e : R = some ad) => (show gP < ad.block by have := (hL.out.own.lt ad.block (by rw [e]; rfl)).1; omega))
        have hRec : Hid (∀ W, Below wr.heap.size wr W → Calls Tryz.prog 25 #[.agg #[.int .i64 (dim : Int), .slice P dim c], .slice C dim cC, .slice (some ⟨gp, 0, none⟩) mp dp, .slice (some ⟨gy, 0, none⟩) dim cy] W fun r w' => ∃ g cg vs, r = .returned (.slice (some ⟨g, 0, none⟩) dim cg) ∧ Lst kI 22 (fun _ => True) w' W.heap.size w'.heap.size (some ⟨g, 0, none⟩) dim cg vs (Jr.rowsJ dim (Jr.dT dim ps cols Y p)) ∧ Below W.heap.size W w') := fun W hW => by
          have hbW := hb.out.trans (hW.mono zr2)
          have hWs := hW.size
          exact IH.out gp mp dp p lp hp_ W (hIp.out.below hW (by omega)) (by omega) HGp.out (by omega) (by omega) (HP.out.below hbW hh1) (HC.out.below hbW hhc) (HY.out.below hbW hh2) (by omega) (by omega) (by omega)
        have hLd := hide hL.out.drew
        have hKd := hide hK.out.drew
        have hbd := hide hb.out.drew
        have hSd : Hid (Same W1.heap.size w2.heap.size w2 wr.drew) := hS.out.drew
        have hzd : wr.drew.heap.size = wr.heap.size := rfl
        obtain ⟨wv, hwv⟩ : ∃ wv, wv = wr.drew := ⟨_, rfl⟩
        have hRec1 := hide (hRec.out wr.drew (Below.refl _ _).drew)
        have hS0 : wr.drew.cell? ⟨gP, 0, none⟩ = some (.int .i64 (dim : Int)) ∧ wr.drew.cell? ⟨gP, 1, none⟩ = some (.slice P dim c) ∧ wr.drew.cell? ⟨g8, q, none⟩ = some (.slice (some ⟨gp, 0, none⟩) mp dp) := ⟨cp0, cp1, hcpw⟩
        have hSz : wr.heap.size = wr.heap.size := rfl
        rw [← hwv] at hLd hKd hbd hSd hzd hRec1 hS0
        have hwvz : wv.heap.size ≤ wr.heap.size ∧ wr.heap.size ≤ wv.heap.size := by omega
        clear hI1 hx hvx hform hcw hpm hgp hpe hRec hS hK hL cp0 cp1 hcpw hzd hSz
        go_upto_region 6 with fail
        refine wp_region_Z (fun W' => W'.cell? ⟨gP, 0, none⟩ = some (.int .i64 (dim : Int)) ∧ W'.cell? ⟨gP, 1, none⟩ = some (.slice P dim c) ∧ W'.cell? ⟨g8, q, none⟩ = some (.slice (some ⟨gp, 0, none⟩) mp dp)) 11 (by kernel_rfl) ?_
        simp only [List.size_toArray, List.length_cons, List.length_nil, Nat.reduceAdd]
        rw [← hwv]
        have hwvw : w.heap.size ≤ wv.heap.size := by omega
        have hg8v : g8 < wv.heap.size := by omega
        have hgPv : gP < wv.heap.size := by omega
        have hw2v : w2.heap.size ≤ wv.heap.size := by omega
        have hRbv : Hid (∀ ad, R = some ad → ad.block < W1.heap.size ∨ w2.heap.size ≤ ad.block) := hRb
        clear hwv hb hRb
        refine wpAnyZ_takeW 0 (.slice R q cR) rfl (by kernel_rfl) (by kernel_rfl) (fun _ _ _ h => h) (by rfl) (fun _ => by first | (simp [go_sem]; done) | go_simp) hS0 ?_
        try simp only [Act.put, List.setIfInBounds_toArray, List.set_cons_zero, List.set_cons_succ, List.getElem_toArray, List.getElem_cons_zero, List.getElem_cons_succ]
        refine wpAnyZ_take 1 (.agg #[.int .i64 (dim : Int), .slice P dim c]) rfl (by kernel_rfl) (by kernel_rfl) (fun _ _ _ h => h) (by rfl) (fun _ hS => by have q0 := hS.1; have q1 := hS.2.1; clear hS; first | (simp [go_sem, q0, q1]; done) | go_simp) hS0 ?_
        try simp only [Act.put, List.setIfInBounds_toArray, List.set_cons_zero, List.set_cons_succ, List.getElem_toArray, List.getElem_cons_zero, List.getElem_cons_succ]
        refine wpAnyZ_takeW 2 (.slice C dim cC) rfl (by kernel_rfl) (by kernel_rfl) (fun _ _ _ h => h) (by rfl) (fun _ => by first | (simp [go_sem]; done) | go_simp) hS0 ?_
        try simp only [Act.put, List.setIfInBounds_toArray, List.set_cons_zero, List.set_cons_succ, List.getElem_toArray, List.getElem_cons_zero, List.getElem_cons_succ]
        refine wpAnyZ_takeW 3 (.slice (some ⟨g8, 0, none⟩) n8 c8) rfl (by kernel_rfl) (by kernel_rfl) (fun _ _ _ h => h) (by rfl) (fun _ => by first | (simp [go_sem]; done) | go_simp) hS0 ?_
        try simp only [Act.put, List.setIfInBounds_toArray, List.set_cons_zero, List.set_cons_succ, List.getElem_toArray, List.getElem_cons_zero, List.getElem_cons_succ]
        refine wpAnyZ_takeW 4 (.int .i64 (q : Int)) rfl (by kernel_rfl) (by kernel_rfl) (fun _ _ _ h => h) (by rfl) (fun _ => by first | (simp [go_sem]; done) | go_simp) hS0 ?_
        try simp only [Act.put, List.setIfInBounds_toArray, List.set_cons_zero, List.set_cons_succ, List.getElem_toArray, List.getElem_cons_zero, List.getElem_cons_succ]
        refine wpAnyZ_takeW 5 (.pointer (some ⟨g8, q, none⟩)) rfl (by kernel_rfl) (by kernel_rfl) (fun _ _ _ h => h) (by rfl) (fun _ => by simp [go_sem]; omega) hS0 ?_
        try simp only [Act.put, List.setIfInBounds_toArray, List.set_cons_zero, List.set_cons_succ, List.getElem_toArray, List.getElem_cons_zero, List.getElem_cons_succ]
        refine wpAnyZ_take 6 (.slice (some ⟨gp, 0, none⟩) mp dp) rfl (by kernel_rfl) (by kernel_rfl) (fun _ _ _ h => h) (by rfl) (fun _ hS => by have q0 := hS.2.2; clear hS; first | (simp [go_sem, q0]; done) | go_simp) hS0 ?_
        try simp only [Act.put, List.setIfInBounds_toArray, List.set_cons_zero, List.set_cons_succ, List.getElem_toArray, List.getElem_cons_zero, List.getElem_cons_succ]
        refine wpAnyZ_takeW 7 (.slice (some ⟨gy, 0, none⟩) dim cy) rfl (by kernel_rfl) (by kernel_rfl) (fun _ _ _ h => h) (by rfl) (fun _ => by first | (simp [go_sem]; done) | go_simp) hS0 ?_
        try simp only [Act.put, List.setIfInBounds_toArray, List.set_cons_zero, List.set_cons_succ, List.getElem_toArray, List.getElem_cons_zero, List.getElem_cons_succ]
        refine wpAnyZ_one 8 (by kernel_rfl) rfl (by rfl) (fun K hK => ?_)
        go_simp
        refine (hRec1.out).mono ?_
        rintro e x1 ⟨gd, cd, vsd, rfl, hLr, b1⟩
        have hS1 : x1.cell? ⟨gP, 0, none⟩ = some (.int .i64 (dim : Int)) ∧ x1.cell? ⟨gP, 1, none⟩ = some (.slice P dim c) ∧ x1.cell? ⟨g8, q, none⟩ = some (.slice (some ⟨gp, 0, none⟩) mp dp) := ⟨(b1.cell (p := ⟨gP, 0, none⟩) hgPv).trans hS0.1, (b1.cell (p := ⟨gP, 1, none⟩) hgPv).trans hS0.2.1, (b1.cell (p := ⟨g8, q, none⟩) hg8v).trans hS0.2.2⟩
        have zx := b1.size
        have hLx := hide (hLd.out.below b1 (by omega))
        have hKx := hide (hKd.out.below b1)
        have hbx := hide (hbd.out.trans (b1.mono hwvw))
        have hSx : Hid (Same W1.heap.size w2.heap.size w2 x1) := hSd.out.trans (.of_below b1 hw2v)
        have hI2 := hide hLr.ints2
        have hcd := hLr.capb
        clear b1 hS0 hLd hKd hbd hSd hLr hRec1
        go_wp2_with fail
        refine hK.out _ _ hS1 ?_
        clear hK K
        try simp only [Act.put, List.setIfInBounds_toArray, List.set_cons_zero, List.set_cons_succ, List.getElem_toArray, List.getElem_cons_zero, List.getElem_cons_succ]
        refine wpAnyZ_one 9 (by kernel_rfl) rfl (by rfl) (fun K hK => ?_)
        go_simp
        have aS := below_alloc x1 (.cells #[.slice (some ⟨gd, 0, none⟩) dim cd] 26)
        have hS2 : (x1.alloc (.cells #[.slice (some ⟨gd, 0, none⟩) dim cd] 26)).cell? ⟨gP, 0, none⟩ = some (.int .i64 (dim : Int)) ∧ (x1.alloc (.cells #[.slice (some ⟨gd, 0, none⟩) dim cd] 26)).cell? ⟨gP, 1, none⟩ = some (.slice P dim c) ∧ (x1.alloc (.cells #[.slice (some ⟨gd, 0, none⟩) dim cd] 26)).cell? ⟨g8, q, none⟩ = some (.slice (some ⟨gp, 0, none⟩) mp dp) := ⟨(aS.cell (p := ⟨gP, 0, none⟩) (by show gP < _; omega)).trans hS1.1, (aS.cell (p := ⟨gP, 1, none⟩) (by show gP < _; omega)).trans hS1.2.1, (aS.cell (p := ⟨g8, q, none⟩) (by show g8 < _; omega)).trans hS1.2.2⟩
        clear aS
        refine hK.out _ _ hS2 ?_
        clear hK K
        try simp only [Act.put, List.setIfInBounds_toArray, List.set_cons_zero, List.set_cons_succ, List.getElem_toArray, List.getElem_cons_zero, List.getElem_cons_succ]
        refine wpAnyZ_one 10 (by kernel_rfl) rfl (by rfl) (fun K hK => ?_)
        have hlx := hLx.out.own
        refine owp_appJ (.tmp 23) (.tmp 32) 75 rfl (gP + 1) 26 i1 (.slice none 0 0) 1 24 Tryz.underlying75 hi1' hz0 hz1 hz2 rfl (by omega) x1 #[.slice (some ⟨gd, 0, none⟩) dim cd] _ rfl R q cR 1 _ rfl rfl hlx rfl (by simp [Value.oneCell']) (by omega) (by omega) (by omega) ?_
        intro A5 c5 w5 happ5 hlt5
        have hL5 := hide (hLx.out.push (l := wv.heap.size) (h' := x1.heap.size) (x := Jr.rowsJ dim (Jr.dT dim ps cols Y p)) ⟨some ⟨gd, 0, none⟩, dim, cd, rfl, hI2.out⟩ (by omega) (Nat.le_refl _) (by omega) (by omega) happ5)
        have hb5 := hide (happ5.low hbx.out (by omega) (by omega) hlx)
        have hK5 := hide (blk_keep hKx.out happ5.2.1 fun ad e => hgr0.out ad e)
        have hS5 : Hid (Same W1.heap.size w2.heap.size w2 w5) := fun k k1 k2 => (happ5.2.1.block k (by omega) (fun e => by obtain ⟨ad, e1, e2⟩ := ownBlock_eq.1 e.symm; exact hgr.out k k1 k2 ad e1 e2.symm)).trans (hSx.out k k1 k2)
        have hg85 : w5.cell? ⟨g8, q, none⟩ = some (.slice (some ⟨gp, 0, none⟩) mp dp) := ((Same.cell (lo := W1.heap.size) (hi := w2.heap.size) (p := ⟨g8, q, none⟩) (fun k k1 k2 => happ5.2.1.block k (by omega) (fun e => by obtain ⟨ad, e1, e2⟩ := ownBlock_eq.1 e.symm; exact hgr.out k k1 k2 ad e1 e2.symm)) (by show W1.heap.size ≤ g8; omega) (by show g8 < _; omega))).trans hS1.2.2
        have hR5 : Hid (∀ ad, A5 = some ad → ad.block < W1.heap.size ∨ w2.heap.size ≤ ad.block) := fun ad e => happ5.2.2.elim (fun h3 => hRbv.out ad (h3 ad e)) (fun h3 => .inr (by have := h3 ad e; omega))
        have hS6 : w5.cell? ⟨gP, 0, none⟩ = some (.int .i64 (dim : Int)) ∧ w5.cell? ⟨gP, 1, none⟩ = some (.slice P dim c) ∧ w5.cell? ⟨g8, q, none⟩ = some (.slice (some ⟨gp, 0, none⟩) mp dp) := ⟨hK5.out.c 0 rfl, hK5.out.c 1 rfl, hg85⟩
        clear happ5 hlx hLx hKx hbx hSx
        refine hK.out _ _ hS6 ?_
        clear hK K
        try simp only [Act.put, List.setIfInBounds_toArray, List.set_cons_zero, List.set_cons_succ, List.getElem_toArray, List.getElem_cons_zero, List.getElem_cons_succ]
        refine wpAnyZ_last (by kernel_rfl) rfl (by kernel_rfl) (by rfl) (fun K hK => ?_)
        go_simp
        refine hK _ _ ?_
        clear hK K
        rw [← hst.out] at hL5
        clear hS1 hS6 hg85
        go_wp2_with fail
        go_roundw
        case rel => exact ⟨q + 1, A5, c5, _, by omega, by go_num, rfl, hL5.out, hb5.out, hK5.out, hS5.out, by omega, hR5.out⟩
        case measure => simp [intOf]; omega
      · obtain rfl : n8 = q := by omega
        have htk : (partsF [] rr).take n8 = partsF [] rr := List.take_of_length_le (Nat.le_of_eq hl8.out)
        rw [htk] at hL
        obtain ⟨dss, hdss⟩ : ∃ dss : List (List (List Int)), dss = (partsF [] rr).map fun p => Jr.rowsJ dim (Jr.dT dim ps cols Y p) := ⟨_, rfl⟩
        rw [← hdss] at hL
        have hS3 : St3 n dim dss := fun x hx => by
          rw [hdss] at hx
          obtain ⟨b, _, rfl⟩ := List.mem_map.1 hx
          exact ⟨Jr.rowsJ_len _ _, Jr.rowsJ_num _ _⟩
        have HFA := spec_l8DerivativeD P dim c ps lo1 hi1 gy cy yss lo2 hi2 n R n8 cR dss (gP + 1) wr.heap.size wr (HP.out.below hb.out hh1) (HY.out.below hb.out hh2) hL.out.ints3 (Nat.le_refl _) hS3 hn83 (by omega) (by omega) HG.out HN.out hd0 hd6 hn0 hn
        rw [← HYY.out, hdss, Jr.field_tab] at HFA
        obtain ⟨Gk, hGk⟩ : ∃ Gk : Nat → Jr n, Gk = Jr.fieldD dim ps Y ((partsF [] rr).map fun p => Jr.dT dim ps cols Y p) := ⟨_, rfl⟩
        rw [← hGk] at HFA
        have hDk : Hid (Jr.rowsJ dim (Jr.selC cols a Gk) = Jr.rowsJ dim (Jr.dT dim ps cols Y (a :: rr))) := by
          show _ = _
          rw [hdt.out, hGk]
          show _ = Jr.rowsJ dim (Jr.selC cols (a % 2) _)
          rw [show a % 2 = a by omega]
          rfl
        have HFA2 := hide HFA
        have hrem : Int.tmod a 2 = a := by
          rcases (show a = 0 ∨ a = 1 by omega) with rfl | rfl <;> decide
        have c0 := hK.out.c 0 rfl
        have c1 := hK.out.c 1 rfl
        obtain ⟨al, al0, eal, hcla, _, _, hxa⟩ := (HI.out.below hb.out hh).at_ hml0
        injection eal with eal
        subst eal
        obtain rfl : a = al0 := by have := hxa.out; simpa using this
        rw [Addr.add_zero'] at hcla
        have hglw := World.block_lt_of_cell? wr _ hcla
        clear hS3 HFA hdss hGk htk hL hS hRb hxa
        go_wp2_with fail
        refine HFA2.out.mono ?_
        rintro e w3 ⟨gd, cd, vsd, rfl, hLd, b3⟩
        have hz3 := b3.size
        have hb4 := hide (hb.out.trans (b3.mono zr2))
        have hLd0 := hide (show ∃ vsd, Lst kI 22 (fun _ => True) w3 wr.heap.size w3.heap.size (some ⟨gd, 0, none⟩) dim cd vsd (Jr.rowsJ dim fun v => if v < 0 then Jr.selC cols a Gk v else Gk v) from ⟨vsd, by rw [Jr.sel_start]; exact hLd⟩)
        have hK3 := hide (hK.out.below b3)
        have hcd := hLd.capb
        have hcl3 := (b3.cell (p := ⟨gl, 0, none⟩) hglw).trans hcla
        obtain ⟨wa, hwa⟩ : ∃ wa : World, wa = wr := ⟨_, rfl⟩
        subst hwa
        have hcl3w : gl < wa.heap.size := hglw
        have hcl3H := hide (fun (x : World) (hB : Below wa.heap.size wa x) => (hB.cell (p := ⟨gl, 0, none⟩) hglw).trans hcla)
        have hb3 := hide b3
        clear c0 c1 HFA2 b3 hLd hcla hcl3 hglw
        go_wp2_with fail
        go_loopw [13] (fun i w4 => ∃ (q : Nat), q ≤ dim ∧ i = .int .i64 (q : Int) ∧ Hid (∃ vsd, Lst kI 22 (fun _ => True) w4 wa.heap.size w4.heap.size (some ⟨gd, 0, none⟩) dim cd vsd (Jr.rowsJ dim fun v => if v < q then Jr.selC cols a Gk v else Gk v)) ∧ Hid (Below wa.heap.size wa w4) ∧ wa.heap.size ≤ w4.heap.size) (fun i _ => dim - (intOf i).toNat)
        case atStart => exact ⟨0, by omega, rfl, hLd0.out, hb3.out, hz3⟩
        case round =>
          clear hLd0 hb4 hK3 hb3
          obtain ⟨q, hq, rfl, hLd, hb5, hz5⟩ := hrel
          have hb6 := hide (hb.out.trans (hb5.out.mono zr2))
          have hK5 := hide (hK.out.below hb5.out)
          have f0 := hK5.out.c 0 rfl
          by_cases hltq : q < dim
          · obtain ⟨adc, xq, hCc, hcx, hxr, _, hxu⟩ := (HC.out.below hb6.out hhc).at_ hltq
            have hxq : Hid (cols.getD q 0 = xq) := by show _ = _; rw [List.getD, hxu.out]; rfl
            have hcl := hcl3H.out wr hb5.out
            obtain ⟨vsd, hLd2⟩ := hLd.out
            obtain ⟨vd, ld, hd', xd, hcd1, _, _, _, _⟩ := hLd2.at_ hltq trivial
            have hfd1 := hLd2.own.frozenAt q
            have hgdlo := (hLd2.own.lt gd rfl).1
            have hgdw := World.block_lt_of_cell? wr _ hcd1
            have HLD := hide hLd2
            have y0' := (hb6.out.cell (p := ⟨gy, 0, none⟩) hgy0).trans hcy0
            have hgyw := World.block_lt_of_cell? wr _ y0'
            subst hCc
            clear hxu hLd hLd2
            by_cases hcc2 : xq = a
            · have hcb : (xq != a) = false := by simpa using hcc2
              have HN1 : Hid (∃ vsd, Lst kI 22 (fun _ => True) wr wa.heap.size wr.heap.size (some ⟨gd, 0, none⟩) dim cd vsd (Jr.rowsJ dim fun v => if v < q + 1 then Jr.selC cols a Gk v else Gk v)) := ⟨vsd, by rw [← Jr.sel_keep Gk (hxq.out.trans hcc2)]; exact HLD.out⟩
              have HN2 := hide (show ∃ vsd, Lst kI 22 (fun _ => True) wr.drew wa.heap.size wr.drew.heap.size (some ⟨gd, 0, none⟩) dim cd vsd (Jr.rowsJ dim fun v => if v < q + 1 then Jr.selC cols a Gk v else Gk v) from by obtain ⟨vs1, h1⟩ := HN1.out; exact ⟨vs1, h1.drew⟩)
              have hb8 := hide hb5.out.drew
              clear hcc2 HLD hcd1 hfd1 y0' HN1
              go_wp2_with fail
              refine still_tail 8 (by kernel_rfl) (by kernel_rfl) ?_
              simp only [List.take_succ_cons, List.take_zero, List.drop_succ_cons, List.drop_zero]
              iterate 8 still_step
              refine wpStill_nil ?_
              clear hcx hcl f0
              go_wp2_with fail
              go_roundw
              case rel => exact ⟨q + 1, by omega, by go_num, HN2.out, hb8.out, hz5⟩
              case measure => simp [intOf]; omega
            · have hcb : (xq != a) = true := by simpa using hcc2
              have hset := Jr.sel_zero (n := n) (dim := dim) (i := q) (cols := cols) (q := a) Gk (by rw [hxq.out]; exact hcc2)
              obtain ⟨vs1, hN1⟩ := HLD.out.make0 (n := n) (Below.refl _ _).drew hz5 hltq hn
              rw [hset] at hN1
              have aX := below_alloc wr.drew (.cells (zeros n) 3)
              have hBa : Below wr.heap.size wr (wr.drew.alloc (.cells (zeros n) 3)) := ((Below.refl wr.heap.size wr).drew).trans aX
              have d1 := (hBa.cell (p := ⟨gd, q, none⟩) hgdw).trans hcd1
              have f1 := (hBa.frozen (p := ⟨gd, q, none⟩) hgdw).trans hfd1
              have hmk := make_ints n (by omega) wr.drew
              have hb8 := hide ((hb5.out.trans (hBa.mono hb5.out.size)).setCell (p := ⟨gd, q, none⟩) (show wa.heap.size ≤ gd by omega) (.slice (some ⟨wr.drew.heap.size, 0, none⟩) n n))
              have HN2 := hide (show ∃ vsd, Lst kI 22 (fun _ => True) ((wr.drew.alloc (.cells (zeros n) 3)).setCell ⟨gd, q, none⟩ (.slice (some ⟨wr.drew.heap.size, 0, none⟩) n n)) wa.heap.size ((wr.drew.alloc (.cells (zeros n) 3)).setCell ⟨gd, q, none⟩ (.slice (some ⟨wr.drew.heap.size, 0, none⟩) n n)).heap.size (some ⟨gd, 0, none⟩) dim cd vsd (Jr.rowsJ dim fun v => if v < q + 1 then Jr.selC cols a Gk v else Gk v) from ⟨vs1, hN1⟩)
              have hyd : wr.drew.cell? ⟨gy, 0, none⟩ = some (.slice B0 n d0) := y0'
              clear hcc2 hset HLD hN1 aX hBa hcd1 hfd1 y0'
              go_wp2_with fail
              refine still_tail 8 (by kernel_rfl) (by kernel_rfl) ?_
              simp only [List.take_succ_cons, List.take_zero, List.drop_succ_cons, List.drop_zero]
              iterate 8 still_step
              refine wpStill_nil ?_
              clear hcx hcl f0
              generalize wr.drew = xw at HN2 hb8 hyd d1 f1 hmk ⊢
              go_wp2_with fail
              clear d1 f1 hmk hyd
              go_roundw
              case rel => exact ⟨q + 1, by omega, by go_num, HN2.out, hb8.out, by have := hb8.out.size; omega⟩
              case measure => simp [intOf]; omega
          · obtain rfl : dim = q := by omega
            obtain ⟨vsd, hLd2⟩ := hLd.out
            rw [Jr.sel_end, hDk.out] at hLd2
            have HL := hide (hLd2.lower (lo2 := w.heap.size) (by omega))
            clear hLd hLd2
            go_wp2_with fail
            go_ret
            exact ⟨_, _, _, rfl, HL.out, hb6.out⟩
end Go.Proofs.YtkaepjigmcielaaGreatDoor
/- Coordinates moved by the weights of their colours: the reference's walk. -/
namespace Go.Proofs.YtkaepjigmcielaaGreatDoor
open Go.RowKit
set_option linter.unusedSimpArgs false
set_option linter.unusedVariables false
set_option maxRecDepth 20000

end Go.Proofs.YtkaepjigmcielaaGreatDoor
