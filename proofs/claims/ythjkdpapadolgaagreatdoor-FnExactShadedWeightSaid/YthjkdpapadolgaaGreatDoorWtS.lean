/- Weights of shaded trees: the reference's walk. -/
import Derived.Test.YthjkdpapadolgaaGreatDoorWtV
import Derived.Test.YthjkdpapadolgaaGreatDoorGrX
namespace Go.Proofs.YthjkdpapadolgaaGreatDoor
open Go.RowKit
set_option linter.unusedSimpArgs false
set_option linter.unusedVariables false
set_option maxRecDepth 20000

theorem of_pairS {w : World} {lo hi : Nat} {d : PairD} (h : PairR w lo hi d) {q : Int} (hq : q = 0 ∨ q = 1) : ∃ TA tc UA uc,
    Hid (∀ W, Calls Tryz.prog 13 #[.agg #[.int .i64 (d.k : Int), .slice d.XA (d.k * d.k) d.xc, .slice d.YA d.k d.yc, .int .i64 (d.k : Int), .slice d.XB (d.k * d.k) d.xd, .slice d.YB d.k d.yd], .int .i64 q] W fun r w' => r = .returned (.agg #[.int .i64 (d.k : Int), .slice TA (d.k * d.k) tc, .slice UA d.k uc]) ∧ Below W.heap.size W w') ∧
    Ints w lo hi TA (d.k * d.k) tc (selF q d.X0 d.X1) ∧ Ints w lo hi UA d.k uc (selF q d.Y0 d.Y1) ∧ Hid (∀ ad, TA = some ad → ad = ⟨ad.block, 0, none⟩) := by
  obtain ⟨TA, tc, UA, uc, e, h1, h2, h3⟩ := sel_pair h hq
  refine ⟨TA, tc, UA, uc, fun W => ?_, h1, h2, h3⟩
  have := spec_ofT (d.k : Int) d.XA (d.k * d.k) d.xc d.YA d.k d.yc (d.k : Int) d.XB (d.k * d.k) d.xd d.YB d.k d.yd q W hq
  rw [e] at this
  exact this
theorem wL_parts (k : Nat) (X0 X1 : List Int) {l : List Int} (h : l.length ≤ 4) : wL k X0 X1 4 l = foldW k X0 X1 4 (onesF k) (partsF [] l.tail) := by
  rw [wL_succ]
  refine foldl_congr (fun p hp out => ?_) _
  have h1 := parts_len hp
  rw [List.length_tail] at h1
  rw [wL_four k X0 X1 (by omega)]
theorem good_col {l : List Int} (h : Good l) : ∃ a r, l = a :: r ∧ (a = 0 ∨ a = 1) := by
  obtain ⟨b, q, e, h0, h1, _⟩ := h
  exact ⟨b, q, e, by omega⟩

set_option maxRecDepth 100000 in
set_option maxHeartbeats 8000000 in
theorem spec_l10Weights (d : PairD) (lo' hi' : Nat) : ∀ (f gl ml cl : Nat) (l : List Int) (lo hi : Nat) (w : World), Ints w lo hi (some ⟨gl, 0, none⟩) ml cl l → hi ≤ w.heap.size → Good l → l.length ≤ f → f ≤ 4 → PairR w lo' hi' d → hi' ≤ w.heap.size →
    Calls Tryz.prog 14 #[.agg #[.int .i64 (d.k : Int), .slice d.XA (d.k * d.k) d.xc, .slice d.YA d.k d.yc, .int .i64 (d.k : Int), .slice d.XB (d.k * d.k) d.xd, .slice d.YB d.k d.yd], .slice (some ⟨gl, 0, none⟩) ml cl] w fun r w' => ∃ g c, r = .returned (.slice (some ⟨g, 0, none⟩) d.k c) ∧ OwnI w' w.heap.size w'.heap.size (some ⟨g, 0, none⟩) d.k c (wL d.k d.X0 d.X1 4 l) ∧ Below w.heap.size w w' := by
  intro f
  induction f with
  | zero =>
    intro gl ml cl l lo hi w _ _ hg hl
    exfalso
    obtain ⟨b, q, e, _⟩ := hg
    rw [e] at hl
    simp at hl
  | succ f ih =>
    intro gl ml cl l lo hi w h hh hgood hlf hf4 hP hh'
    obtain ⟨i0, hi0, hz0, hz1, hz2⟩ := info_parts info_int
    obtain ⟨a, rr, rfl⟩ : ∃ a rr, l = a :: rr := by
      obtain ⟨b, q, e, _⟩ := hgood
      exact ⟨b, q, e⟩
    obtain ⟨hp, hr2, hh4, ha0, ha2⟩ := good_parts hgood
    have IH := hide ih
    have hml := h.len
    have hlf' : rr.length ≤ f := by simpa using hlf
    have hml4 : ml ≤ 4 := by simp at hml; omega
    have hwl := hide (wL_parts d.k d.X0 d.X1 (l := a :: rr) (by omega))
    have hpn := parts_num (r := rr) (acc := []) (.inr hh4)
    have hk8 := hP.hk
    have HI := hide h
    have HP := hide hP
    have HGP := hide hp
    have b0 := below_alloc w (.cells #[.int .i64 (d.k : Int), .slice d.XA (d.k * d.k) d.xc, .slice d.YA d.k d.yc, .int .i64 (d.k : Int), .slice d.XB (d.k * d.k) d.xd, .slice d.YB d.k d.yd] 31)
    have kP0 := BlkN.new w #[.int .i64 (d.k : Int), .slice d.XA (d.k * d.k) d.xc, .slice d.YA d.k d.yc, .int .i64 (d.k : Int), .slice d.XB (d.k * d.k) d.xd, .slice d.YB d.k d.yd] 31
    have z0 : (w.alloc (.cells #[.int .i64 (d.k : Int), .slice d.XA (d.k * d.k) d.xc, .slice d.YA d.k d.yc, .int .i64 (d.k : Int), .slice d.XB (d.k * d.k) d.xd, .slice d.YB d.k d.yd] 31)).heap.size = w.heap.size + 1 := by simp
    have b1 := b0.trans ((below_alloc (w.alloc (.cells #[.int .i64 (d.k : Int), .slice d.XA (d.k * d.k) d.xc, .slice d.YA d.k d.yc, .int .i64 (d.k : Int), .slice d.XB (d.k * d.k) d.xd, .slice d.YB d.k d.yd] 31)) (.cells #[] 3)).mono (by omega))
    have kP1 := hide (kP0.alloc (.cells #[] 3))
    have z1 : ((w.alloc (.cells #[.int .i64 (d.k : Int), .slice d.XA (d.k * d.k) d.xc, .slice d.YA d.k d.yc, .int .i64 (d.k : Int), .slice d.XB (d.k * d.k) d.xd, .slice d.YB d.k d.yd] 31)).alloc (.cells #[] 3)).heap.size = w.heap.size + 2 := by simp
    have o1 := hide (show OwnI ((w.alloc (.cells #[.int .i64 (d.k : Int), .slice d.XA (d.k * d.k) d.xc, .slice d.YA d.k d.yc, .int .i64 (d.k : Int), .slice d.XB (d.k * d.k) d.xd, .slice d.YB d.k d.yd] 31)).alloc (.cells #[] 3)) (w.heap.size + 1) ((w.alloc (.cells #[.int .i64 (d.k : Int), .slice d.XA (d.k * d.k) d.xc, .slice d.YA d.k d.yc, .int .i64 (d.k : Int), .slice d.XB (d.k * d.k) d.xd, .slice d.YB d.k d.yd] 31)).alloc (.cells #[] 3)).heap.size (some ⟨w.heap.size + 1, 0, none⟩) 0 0 ((onesF d.k).take 0) from by
      have := World.ownsRow_lit (size := 1) (e := 3) (base := w.heap.size + 1) (w.alloc (.cells #[.int .i64 (d.k : Int), .slice d.XA (d.k * d.k) d.xc, .slice d.YA d.k d.yc, .int .i64 (d.k : Int), .slice d.XB (d.k * d.k) d.xd, .slice d.YB d.k d.yd] 31)) #[] 0 (by omega) (by unfold maxLen; omega) rfl
      refine ⟨by simpa [z0] using this, fun ad e => by injection e with e; subst e; rw [z1]; show w.heap.size + 1 < _; omega, by simp⟩)
    have HB1 := hide b1
    clear h hP hp ih hgood hlf b0 b1 kP0 hml
    go_enter Tryz.func14, Tryz.ntmps14
    go_wp2_with fail
    generalize World.alloc (World.alloc w (.cells #[.int .i64 (d.k : Int), .slice d.XA (d.k * d.k) d.xc, .slice d.YA d.k d.yc, .int .i64 (d.k : Int), .slice d.XB (d.k * d.k) d.xd, .slice d.YB d.k d.yd] 31)) (.cells #[] 3) = W1 at kP1 z1 o1 HB1 ⊢
    obtain ⟨gP, hgP⟩ : ∃ g, g = w.heap.size := ⟨_, rfl⟩
    rw [← hgP] at kP1 o1 ⊢
    have hgPw1 : gP < W1.heap.size := by omega
    have hgPe : gP ≤ w.heap.size ∧ w.heap.size ≤ gP := by omega
    clear hgP
    go_loopw [5, 6] (fun o i wr => ∃ (q c' : Nat) (g : Nat), q ≤ d.k ∧ i = .int .i64 (q : Int) ∧ o = .slice (some ⟨g, 0, none⟩) q c' ∧ Hid (OwnI wr (gP + 1) wr.heap.size (some ⟨g, 0, none⟩) q c' ((onesF d.k).take q)) ∧ Hid (BlkN wr gP #[.int .i64 (d.k : Int), .slice d.XA (d.k * d.k) d.xc, .slice d.YA d.k d.yc, .int .i64 (d.k : Int), .slice d.XB (d.k * d.k) d.xd, .slice d.YB d.k d.yd]) ∧ Hid (Below w.heap.size w wr)) (fun _ i _ => d.k - (intOf i).toNat)
    case atStart => exact ⟨0, 0, _, by omega, rfl, rfl, o1.out, kP1.out, HB1.out⟩
    case round =>
      clear o1 kP1 HB1
      obtain ⟨q, c', g, hq, rfl, rfl, hO, hK, hb⟩ := hrel
      have zr := hb.out.size
      have hgPr := hK.out.lt
      have cp0 := hK.out.c 0 rfl
      have cp1 := hK.out.c 1 rfl
      have cp2 := hK.out.c 2 rfl
      have cp3 := hK.out.c 3 rfl
      have cp4 := hK.out.c 4 rfl
      have cp5 := hK.out.c 5 rfl
      by_cases hlt : q < d.k
      · have hst : Hid ((onesF d.k).take (q + 1) = (onesF d.k).take q ++ [1]) := by
          show _ = _
          rw [List.take_add_one]
          simp [onesF, hlt]
        clear cp1 cp2 cp3 cp4 cp5
        go_wp2_with (at_builtin; refine wpl_app1b rfl (.tmp 20) (.tmp 21) 22 rfl (gP + 1) 3 i0 (.int .i64 0) 1 8 Tryz.underlying22 hi0 hz0 hz1 hz2 rfl (by omega) wr #[.int .i64 1] _ rfl (some ⟨g, 0, none⟩) q c' 1 _ rfl rfl hO.out.own rfl (by simp [Value.oneCell']) (by omega) (by omega) (by omega) ?_; intro A4 c4 w4 hap4 hlt4)
        have hO4 : Hid (OwnI w4 (gP + 1) w4.heap.size A4 (q + 1) c4 ((onesF d.k).take (q + 1))) := by
          refine ⟨?_, fun ad e => (owns_lt hap4.1 ad e).2, ?_⟩
          · have := hap4.1
            rw [hst.out]
            simpa using this
          · intro z hz
            have := ones_bd z (List.mem_of_mem_take hz)
            constructor <;> omega
        have hK4 := hide (blk_keep hK.out hap4.2.1 fun ad e => by have := (owns_lt hO.out.own ad e).1; omega)
        have hb4 := hide (hap4.low hb.out zr (by omega) hO.out.own)
        obtain ⟨g4, rfl, _⟩ := hO4.out.form (by omega)
        clear hap4 hO hK hb cp0
        go_roundw
        case rel => exact ⟨q + 1, c4, g4, by omega, by go_num, rfl, hO4.out, hK4.out, hb4.out⟩
        case measure => simp [intOf]; omega
      · obtain rfl : q = d.k := by omega
        have htk : (onesF d.k).take d.k = onesF d.k := List.take_of_length_le (Nat.le_of_eq (ones_len _))
        rw [htk] at hO
        have hPt := hide (spec_l10Parts gl ml cl a rr lo hi wr (HI.out.below hb.out hh) (by omega) hml4 ⟨ha0, ha2⟩ hr2 hh4)
        have hcO := hO.out.capb
        clear htk cp1 cp2 cp3 cp4 cp5
        go_wp2_with fail
        refine hPt.out.mono ?_
        rintro e w2 ⟨g8, n8, c8, v8, rfl, hO8, b2⟩
        have z2 := b2.size
        have hR8 := hide hO8.rows
        have hg8 := hO8.own.lt g8 rfl
        have hc8 := hO8.capb
        have hl8 := hide hO8.len
        have hO2 := hide (show OwnI w2 (gP + 1) wr.heap.size (some ⟨g, 0, none⟩) d.k c' (foldW d.k d.X0 d.X1 4 (onesF d.k) ((partsF [] rr).take 0)) from hO.out.below b2 (Nat.le_refl _))
        have hg7r : g < wr.heap.size := hO.out.lt _ rfl
        have hg7g := (hO.out.own.lt g rfl).1
        have hK2 := hide (hK.out.below b2)
        have hb2 := hide (hb.out.trans (b2.mono zr))
        obtain ⟨wq, hwq⟩ : ∃ z, z = wr := ⟨_, rfl⟩
        subst hwq
        clear hO8 b2 hPt hO hK hb cp0
        go_wp2_with fail
        go_loopw [8, 9, 10, 11] (fun i _ _ _ wr => ∃ q : Nat, q ≤ n8 ∧ i = .int .i64 (q : Int) ∧ Hid (OwnI wr (gP + 1) wr.heap.size (some ⟨g, 0, none⟩) d.k c' (foldW d.k d.X0 d.X1 4 (onesF d.k) ((partsF [] rr).take q))) ∧ Hid (BlkN wr gP #[.int .i64 (d.k : Int), .slice d.XA (d.k * d.k) d.xc, .slice d.YA d.k d.yc, .int .i64 (d.k : Int), .slice d.XB (d.k * d.k) d.xd, .slice d.YB d.k d.yd]) ∧ Hid (Same wq.heap.size w2.heap.size w2 wr) ∧ w2.heap.size ≤ wr.heap.size ∧ Hid (Below w.heap.size w wr)) (fun i _ _ _ _ => n8 - (intOf i).toNat)
        case atStart => exact ⟨0, by omega, rfl, hO2.out.wide (Nat.le_refl _) z2, hK2.out, Same.refl _ _ _, Nat.le_refl _, hb2.out⟩
        case round =>
          clear hO2 hK2 hb2
          obtain ⟨q, hq, rfl, hO, hK, hS, hzr, hb⟩ := hrel
          have zr2 := hb.out.size
          have hgPw : gP < wr.heap.size := by omega
          by_cases hlt : q < n8
          · obtain ⟨Bp, mp, dp, lp, hp_, p, hcw, hI1, hlp, hhp, hx, hvx, hform⟩ := hR8.out.at_ hlt
            have hpm := List.mem_of_getElem? hx.out
            have hgp := HGP.out p hpm
            obtain ⟨cq, pr, hpe, hcq⟩ := good_col hgp
            have hmp : 0 < mp := by
              have := hI1.len
              rw [hpe] at this
              simp at this
              omega
            obtain ⟨ad, rfl⟩ : ∃ ad, Bp = some ad := by
              obtain ⟨ad, e, _⟩ := hI1.cells hmp
              exact ⟨ad, e⟩
            obtain ⟨gp, hgpe⟩ : ∃ g, ad = ⟨g, 0, none⟩ := ⟨_, hform ad rfl⟩
            subst hgpe
            have hIp := hide (hI1.same fun k k1 k2 => hS.out k (by omega) (by omega))
            have hcp : wr.cell? ⟨g8, q, none⟩ = some (.slice (some ⟨gp, 0, none⟩) mp dp) := (hS.out.cell (p := ⟨g8, q, none⟩) (by show wq.heap.size ≤ g8; omega) (by show g8 < _; omega)).trans hcw
            have hc0 : wr.cell? ⟨gp, 0, none⟩ = some (.int .i64 cq) := by
              obtain ⟨ad2, e, _, _, hcs⟩ := hIp.out.cells hmp
              injection e with e
              subst e
              simpa [Addr.add] using hcs 0 cq (by rw [hpe]; rfl)
            have hgpw : gp < wr.heap.size := by
              obtain ⟨ad2, e, h1, h2, _⟩ := hIp.out.cells hmp
              injection e with e
              subst e
              simp only at h1 h2
              omega
            have hg8w : g8 < wr.heap.size := by omega
            have hcpb := hIp.out.cap
            have hcpm := hIp.out.max
            have hrem : Int.tmod cq 2 = cq := by rcases hcq with rfl | rfl <;> decide
            have hst : Hid ((partsF [] rr).take (q + 1) = (partsF [] rr).take q ++ [p]) := by
              show _ = _
              rw [List.take_add_one, hx.out]
              rfl
            have hcol : Hid (p.headD 0 % 2 = cq) := by show _ = _; rw [hpe]; show cq % 2 = cq; omega
            have hPr := hide (HP.out.below hb.out hh')
            have hpl := parts_len hpm
            obtain ⟨TA, tc, UA, uc, hOf, hTI, hUI, hTf⟩ := of_pairS hPr.out hcq
            have HTI := hide hTI
            have HGp := hide hgp
            have cp0 := hK.out.c 0 rfl
            have cp1 := hK.out.c 1 rfl
            have cp2 := hK.out.c 2 rfl
            have cp3 := hK.out.c 3 rfl
            have cp4 := hK.out.c 4 rfl
            have cp5 := hK.out.c 5 rfl
            clear hI1 hx hvx hform hcw hpm hgp hpe hTI hUI
            go_upto_region 10 with fail
            go_cut [9] (fun s9 wx => ∃ gT : Nat, s9 = .pointer (some ⟨gT, 0, none⟩) ∧ wr.heap.size ≤ gT ∧ Hid (BlkN wx gT #[.int .i64 (d.k : Int), .slice TA (d.k * d.k) tc, .slice UA d.k uc]) ∧ Hid (Below wr.heap.size wr wx))
            case first =>
              refine wp_region_Z (fun W' => Below wr.heap.size wr W') 10 (by kernel_rfl) ?_
              simp only [List.size_toArray, List.length_cons, List.length_nil, Nat.reduceAdd]
              have hS0 : Below wr.heap.size wr wr.drew := (Below.refl wr.heap.size wr).drew
              generalize wr.drew = V at hS0 ⊢
              refine wpAnyZ_take 0 (.agg #[.int .i64 (d.k : Int), .slice d.XA (d.k * d.k) d.xc, .slice d.YA d.k d.yc, .int .i64 (d.k : Int), .slice d.XB (d.k * d.k) d.xd, .slice d.YB d.k d.yd]) rfl (by kernel_rfl) (by kernel_rfl) (fun _ _ _ h => h) (by rfl) (fun _ hS => by have q0 := (hS.cell (p := ⟨gP, 0, none⟩) hgPw).trans cp0; have q1 := (hS.cell (p := ⟨gP, 1, none⟩) hgPw).trans cp1; have q2 := (hS.cell (p := ⟨gP, 2, none⟩) hgPw).trans cp2; have q3 := (hS.cell (p := ⟨gP, 3, none⟩) hgPw).trans cp3; have q4 := (hS.cell (p := ⟨gP, 4, none⟩) hgPw).trans cp4; have q5 := (hS.cell (p := ⟨gP, 5, none⟩) hgPw).trans cp5; clear hS; first | (simp [go_sem, q0, q1, q2, q3, q4, q5]; done) | go_simp) hS0 ?_
              try simp only [Act.put, List.setIfInBounds_toArray, List.set_cons_zero, List.set_cons_succ, List.getElem_toArray, List.getElem_cons_zero, List.getElem_cons_succ]
              refine wpAnyZ_takeW 1 (.slice (some ⟨g8, 0, none⟩) n8 c8) rfl (by kernel_rfl) (by kernel_rfl) (fun _ _ _ h => h) (by rfl) (fun _ => by first | (simp [go_sem]; done) | go_simp) hS0 ?_
              try simp only [Act.put, List.setIfInBounds_toArray, List.set_cons_zero, List.set_cons_succ, List.getElem_toArray, List.getElem_cons_zero, List.getElem_cons_succ]
              refine wpAnyZ_takeW 2 (.int .i64 (q : Int)) rfl (by kernel_rfl) (by kernel_rfl) (fun _ _ _ h => h) (by rfl) (fun _ => by first | (simp [go_sem]; done) | go_simp) hS0 ?_
              try simp only [Act.put, List.setIfInBounds_toArray, List.set_cons_zero, List.set_cons_succ, List.getElem_toArray, List.getElem_cons_zero, List.getElem_cons_succ]
              refine wpAnyZ_takeW 3 (.pointer (some ⟨g8, q, none⟩)) rfl (by kernel_rfl) (by kernel_rfl) (fun _ _ _ h => h) (by rfl) (fun _ => by first | (simp [go_sem]; done) | go_simp) hS0 ?_
              try simp only [Act.put, List.setIfInBounds_toArray, List.set_cons_zero, List.set_cons_succ, List.getElem_toArray, List.getElem_cons_zero, List.getElem_cons_succ]
              refine wpAnyZ_take 4 (.slice (some ⟨gp, 0, none⟩) mp dp) rfl (by kernel_rfl) (by kernel_rfl) (fun _ _ _ h => h) (by rfl) (fun _ hS => by have q0 := (hS.cell (p := ⟨g8, q, none⟩) hg8w).trans hcp; clear hS; first | (simp [go_sem, q0]; done) | go_simp) hS0 ?_
              try simp only [Act.put, List.setIfInBounds_toArray, List.set_cons_zero, List.set_cons_succ, List.getElem_toArray, List.getElem_cons_zero, List.getElem_cons_succ]
              refine wpAnyZ_takeW 5 (.pointer (some ⟨gp, 0, none⟩)) rfl (by kernel_rfl) (by kernel_rfl) (fun _ _ _ h => h) (by rfl) (fun _ => by first | (simp [go_sem]; done) | go_simp) hS0 ?_
              try simp only [Act.put, List.setIfInBounds_toArray, List.set_cons_zero, List.set_cons_succ, List.getElem_toArray, List.getElem_cons_zero, List.getElem_cons_succ]
              refine wpAnyZ_take 6 (.int .i64 cq) rfl (by kernel_rfl) (by kernel_rfl) (fun _ _ _ h => h) (by rfl) (fun _ hS => by have q0 := (hS.cell (p := ⟨gp, 0, none⟩) hgpw).trans hc0; clear hS; first | (simp [go_sem, q0]; done) | go_simp) hS0 ?_
              try simp only [Act.put, List.setIfInBounds_toArray, List.set_cons_zero, List.set_cons_succ, List.getElem_toArray, List.getElem_cons_zero, List.getElem_cons_succ]
              refine wpAnyZ_takeW 7 (.int .i64 cq) rfl (by kernel_rfl) (by kernel_rfl) (fun _ _ _ h => h) (by rfl) (fun _ => by simp [go_sem, hrem]) hS0 ?_
              try simp only [Act.put, List.setIfInBounds_toArray, List.set_cons_zero, List.set_cons_succ, List.getElem_toArray, List.getElem_cons_zero, List.getElem_cons_succ]
              refine wpAnyZ_two 8 9 (by kernel_rfl) rfl rfl (by rfl) (by rfl) (fun K hK => ?_) (fun K hK => ?_)
              ·
                go_simp
                refine (hOf.out V).mono ?_
                rintro e x1 ⟨rfl, b1⟩
                have z1 := hS0.size
                have hS1 := hS0.trans (b1.mono z1)
                clear z1
                go_wp2_with fail
                refine hK.out _ _ hS1 ?_
                clear hK K
                try simp only [Act.put, List.setIfInBounds_toArray, List.set_cons_zero, List.set_cons_succ, List.getElem_toArray, List.getElem_cons_zero, List.getElem_cons_succ]
                refine wpAnyZ_one 9 (by kernel_rfl) rfl (by rfl) (fun K hK => ?_)
                go_simp
                have a2 := below_alloc x1 (.cells #[.int .i64 0, .slice none 0 0, .slice none 0 0] 29)
                have km2 := BlkN.new x1 #[.int .i64 0, .slice none 0 0, .slice none 0 0] 29
                have z2 := hS1.size
                have hS2 := hS1.trans (a2.mono z2)
                obtain ⟨gT, hgT⟩ : ∃ z, z = x1.heap.size := ⟨_, rfl⟩
                have hgTw : wr.heap.size ≤ gT := by omega
                rw [← hgT] at km2 ⊢
                clear a2 z2 hgT
                refine hK.out _ _ hS2 ?_
                generalize x1.alloc (.cells #[.int .i64 0, .slice none 0 0, .slice none 0 0] 29) = x2 at hS2 km2 ⊢
                clear hK K
                try simp only [Act.put, List.setIfInBounds_toArray, List.set_cons_zero, List.set_cons_succ, List.getElem_toArray, List.getElem_cons_zero, List.getElem_cons_succ]
                have u0 := km2.c 0 rfl
                have v0 := km2.f 0
                have u1 := km2.c 1 rfl
                have v1 := km2.f 1
                have u2 := km2.c 2 rfl
                have v2 := km2.f 2
                have hlt := km2.lt
                refine wpAnyZ_last (by kernel_rfl) rfl (by kernel_rfl) (by rfl) (fun K hK => ?_)
                go_simp
                refine hK _ _ ?_
                clear hK K u0 u1 u2 v0 v1 v2
                go_wp2_with fail
                go_meet
                case rel => exact tv_meet km2 hS2 hgTw
              ·
                go_simp
                have a1 := below_alloc V (.cells #[.int .i64 0, .slice none 0 0, .slice none 0 0] 29)
                have km1 := BlkN.new V #[.int .i64 0, .slice none 0 0, .slice none 0 0] 29
                have z1 := hS0.size
                have hS1 := hS0.trans (a1.mono z1)
                obtain ⟨gT, hgT⟩ : ∃ z, z = V.heap.size := ⟨_, rfl⟩
                have hgTw : wr.heap.size ≤ gT := by omega
                rw [← hgT] at km1 ⊢
                clear a1 z1 hgT
                refine hK.out _ _ hS1 ?_
                generalize V.alloc (.cells #[.int .i64 0, .slice none 0 0, .slice none 0 0] 29) = x1 at hS1 km1 ⊢
                clear hK K
                try simp only [Act.put, List.setIfInBounds_toArray, List.set_cons_zero, List.set_cons_succ, List.getElem_toArray, List.getElem_cons_zero, List.getElem_cons_succ]
                refine wpAnyZ_one 8 (by kernel_rfl) rfl (by rfl) (fun K hK => ?_)
                go_simp
                refine (hOf.out x1).mono ?_
                rintro e x2 ⟨rfl, b2⟩
                have z2 := hS1.size
                have hS2 := hS1.trans (b2.mono z2)
                have km2 := km1.below b2
                clear z2
                clear km1
                go_wp2_with fail
                refine hK.out _ _ hS2 ?_
                clear hK K
                try simp only [Act.put, List.setIfInBounds_toArray, List.set_cons_zero, List.set_cons_succ, List.getElem_toArray, List.getElem_cons_zero, List.getElem_cons_succ]
                have u0 := km2.c 0 rfl
                have v0 := km2.f 0
                have u1 := km2.c 1 rfl
                have v1 := km2.f 1
                have u2 := km2.c 2 rfl
                have v2 := km2.f 2
                have hlt := km2.lt
                refine wpAnyZ_last (by kernel_rfl) rfl (by kernel_rfl) (by rfl) (fun K hK => ?_)
                go_simp
                refine hK _ _ ?_
                clear hK K u0 u1 u2 v0 v1 v2
                go_wp2_with fail
                go_meet
                case rel => exact tv_meet km2 hS2 hgTw
            case rest =>
              clear hOf hrem hc0 cp0 cp1 cp2 cp3 cp4 cp5
              obtain ⟨gT, rfl, hgT, hKT, hb3⟩ := hcut
              have z3 := hb3.out.size
              have hKc := hide (hK.out.below hb3.out)
              have cp0 := hKc.out.c 0 rfl
              have cp1 := hKc.out.c 1 rfl
              have cp2 := hKc.out.c 2 rfl
              have cp3 := hKc.out.c 3 rfl
              have cp4 := hKc.out.c 4 rfl
              have cp5 := hKc.out.c 5 rfl
              have hcp := (hb3.out.cell (p := ⟨g8, q, none⟩) hg8w).trans hcp
              have hgPw : gP < wc.heap.size := by omega
              have hg8w : g8 < wc.heap.size := by omega
              have hRec : Hid (∀ W, Below wc.heap.size wc W → Calls Tryz.prog 14 #[.agg #[.int .i64 (d.k : Int), .slice d.XA (d.k * d.k) d.xc, .slice d.YA d.k d.yc, .int .i64 (d.k : Int), .slice d.XB (d.k * d.k) d.xd, .slice d.YB d.k d.yd], .slice (some ⟨gp, 0, none⟩) mp dp] W fun r w' => ∃ g c, r = .returned (.slice (some ⟨g, 0, none⟩) d.k c) ∧ OwnI w' W.heap.size w'.heap.size (some ⟨g, 0, none⟩) d.k c (wL d.k d.X0 d.X1 4 p) ∧ Below W.heap.size W w') := fun W hW => by
                have hbW := hb3.out.trans (hW.mono z3)
                have hWs := hW.size
                exact IH.out gp mp dp p lp hp_ W (hIp.out.below hbW (by omega)) (by omega) HGp.out (by omega) (by omega) (hPr.out.below hbW (by omega)) (by omega)
              go_upto_region 11 with fail
              refine wp_region_Z (fun W' => Below wc.heap.size wc W') 6 (by kernel_rfl) ?_
              simp only [List.size_toArray, List.length_cons, List.length_nil, Nat.reduceAdd]
              have hS0 : Below wc.heap.size wc wc.drew := (Below.refl wc.heap.size wc).drew
              generalize wc.drew = V at hS0 ⊢
              refine wpAnyZ_take 0 (.agg #[.int .i64 (d.k : Int), .slice d.XA (d.k * d.k) d.xc, .slice d.YA d.k d.yc, .int .i64 (d.k : Int), .slice d.XB (d.k * d.k) d.xd, .slice d.YB d.k d.yd]) rfl (by kernel_rfl) (by kernel_rfl) (fun _ _ _ h => h) (by rfl) (fun _ hS => by have q0 := (hS.cell (p := ⟨gP, 0, none⟩) hgPw).trans cp0; have q1 := (hS.cell (p := ⟨gP, 1, none⟩) hgPw).trans cp1; have q2 := (hS.cell (p := ⟨gP, 2, none⟩) hgPw).trans cp2; have q3 := (hS.cell (p := ⟨gP, 3, none⟩) hgPw).trans cp3; have q4 := (hS.cell (p := ⟨gP, 4, none⟩) hgPw).trans cp4; have q5 := (hS.cell (p := ⟨gP, 5, none⟩) hgPw).trans cp5; clear hS; first | (simp [go_sem, q0, q1, q2, q3, q4, q5]; done) | go_simp) hS0 ?_
              try simp only [Act.put, List.setIfInBounds_toArray, List.set_cons_zero, List.set_cons_succ, List.getElem_toArray, List.getElem_cons_zero, List.getElem_cons_succ]
              refine wpAnyZ_takeW 1 (.slice (some ⟨g8, 0, none⟩) n8 c8) rfl (by kernel_rfl) (by kernel_rfl) (fun _ _ _ h => h) (by rfl) (fun _ => by first | (simp [go_sem]; done) | go_simp) hS0 ?_
              try simp only [Act.put, List.setIfInBounds_toArray, List.set_cons_zero, List.set_cons_succ, List.getElem_toArray, List.getElem_cons_zero, List.getElem_cons_succ]
              refine wpAnyZ_takeW 2 (.int .i64 (q : Int)) rfl (by kernel_rfl) (by kernel_rfl) (fun _ _ _ h => h) (by rfl) (fun _ => by first | (simp [go_sem]; done) | go_simp) hS0 ?_
              try simp only [Act.put, List.setIfInBounds_toArray, List.set_cons_zero, List.set_cons_succ, List.getElem_toArray, List.getElem_cons_zero, List.getElem_cons_succ]
              refine wpAnyZ_takeW 3 (.pointer (some ⟨g8, q, none⟩)) rfl (by kernel_rfl) (by kernel_rfl) (fun _ _ _ h => h) (by rfl) (fun _ => by first | (simp [go_sem]; done) | go_simp) hS0 ?_
              try simp only [Act.put, List.setIfInBounds_toArray, List.set_cons_zero, List.set_cons_succ, List.getElem_toArray, List.getElem_cons_zero, List.getElem_cons_succ]
              refine wpAnyZ_take 4 (.slice (some ⟨gp, 0, none⟩) mp dp) rfl (by kernel_rfl) (by kernel_rfl) (fun _ _ _ h => h) (by rfl) (fun _ hS => by have q0 := (hS.cell (p := ⟨g8, q, none⟩) hg8w).trans hcp; clear hS; first | (simp [go_sem, q0]; done) | go_simp) hS0 ?_
              try simp only [Act.put, List.setIfInBounds_toArray, List.set_cons_zero, List.set_cons_succ, List.getElem_toArray, List.getElem_cons_zero, List.getElem_cons_succ]
              refine wpAnyZ_one 5 (by kernel_rfl) rfl (by rfl) (fun K hK => ?_)
              go_simp
              refine (hRec.out V hS0).mono ?_
              rintro e x1 ⟨gw, cw, rfl, ow, b1⟩
              have z1 := hS0.size
              have hS1 := hS0.trans (b1.mono z1)
              have how := hide (ow.wide (lo' := wc.heap.size) (hi' := x1.heap.size) z1 (Nat.le_refl _))
              clear ow
              clear z1
              go_wp2_with fail
              refine hK.out _ _ hS1 ?_
              clear hK K
              try simp only [Act.put, List.setIfInBounds_toArray, List.set_cons_zero, List.set_cons_succ, List.getElem_toArray, List.getElem_cons_zero, List.getElem_cons_succ]
              refine wpAnyZ_last (by kernel_rfl) rfl (by kernel_rfl) (by rfl) (fun K hK => ?_)
              go_simp
              refine hK _ _ ?_
              clear hK K
              have hb4 := hide hS1
              have hoo : x1 = x1 := rfl
              clear hoo
              clear hRec hcp cp0 cp1 cp2 cp3 cp4 cp5
              have z4 := hb4.out.size
              obtain ⟨old, hold⟩ : ∃ z, z = foldW d.k d.X0 d.X1 4 (onesF d.k) ((partsF [] rr).take q) := ⟨_, rfl⟩
              obtain ⟨ws, hws⟩ : ∃ z, z = wL d.k d.X0 d.X1 4 p := ⟨_, rfl⟩
              obtain ⟨T, hT⟩ : ∃ z, z = selF cq d.X0 d.X1 := ⟨_, rfl⟩
              rw [← hold] at hO
              rw [← hws] at how
              rw [← hT] at HTI
              have hol : old.length = d.k := by rw [hold]; exact foldW_len _ _ _ _ _ _ (ones_len _)
              have hnl : (stepW d.k T ws old).length = d.k := stepW_len _ _ _ _
              have hnew : Hid (stepW d.k T ws old = foldW d.k d.X0 d.X1 4 (onesF d.k) ((partsF [] rr).take (q + 1))) := by
                show _ = _
                rw [hst.out, foldW_snoc, hold, hws, hT, hcol.out]
              have HOL := hide hol
              have HNL := hide hnl
              have hb34 := hide (hb3.out.trans (hb4.out.mono z3))
              have HT0 := hide (show OutT x1 x1 (gP + 1) g d.k c' (stepW d.k T ws old) old 0 from ⟨by simpa using (hO.out.below hb34.out (Nat.le_refl _)).wide (lo' := gP + 1) (hi' := x1.heap.size) (Nat.le_refl _) hb34.out.size, .refl _ _ _⟩)
              have HTI3 := hide (HTI.out.below hb34.out (by omega))
              have hKT3 := hide (hKT.out.below hb4.out)
              have hK3 := hide (hK.out.below hb34.out)
              have hbW3 := hide (hb.out.trans (hb34.out.mono zr2))
              have hS3 := hide (hS.out.trans (.of_below hb34.out hzr))
              have hgTc := hKT.out.lt
              clear hold hws hT hol hnl hO HTI hK hb hb3 hb4 hst hcol hKT hS hKc hIp HGp hPr
              go_wp2_with fail
              obtain ⟨wz, hwz⟩ : ∃ z, z = wr := ⟨_, rfl⟩
              subst hwz
              obtain ⟨g7, hg7⟩ : ∃ z, z = g := ⟨_, rfl⟩
              subst hg7
              obtain ⟨c7, hc7⟩ : ∃ z, z = c' := ⟨_, rfl⟩
              subst hc7
              go_loopw [11] (fun i wr => ∃ j : Nat, j ≤ d.k ∧ i = .int .i64 (j : Int) ∧ Hid (OutT x1 wr (gP + 1) g7 d.k c7 (stepW d.k T ws old) old j)) (fun i _ => d.k - (intOf i).toNat)
              case atStart => exact ⟨0, by omega, rfl, HT0.out⟩
              case round =>
                clear HT0
                obtain ⟨j, hj, rfl, HM⟩ := hrel
                have zc := HM.out.chg.size
                have hg7w : g7 < wr.heap.size := HM.out.own.lt _ rfl
                by_cases hjk : j < d.k
                · obtain ⟨ov, hove⟩ : ∃ ov, old[j]? = some ov := ⟨_, List.getElem?_eq_getElem (by have := HOL.out; omega)⟩
                  have hmix : ((stepW d.k T ws old).take j ++ old.drop j)[j]? = some ov := by
                    have h1 : ((stepW d.k T ws old).take j).length = j := by have := HNL.out; simp; omega
                    rw [List.getElem?_append_right (by omega), h1, Nat.sub_self, List.getElem?_drop]
                    simpa using hove
                  have hov : wr.cell? ⟨g7, j, none⟩ = some (.int .i64 ov) := by
                    obtain ⟨ad2, e3, _, _, hcs⟩ := HM.out.own.ints.cells (by omega)
                    injection e3 with e3
                    subst e3
                    simpa [Addr.add_lit] using hcs j ov hmix
                  have hof : wr.frozen? ⟨g7, j, none⟩ = false := HM.out.own.own.frozenAt j
                  have hovr := HM.out.own.rng ov (List.mem_of_getElem? hmix)
                  have hkk : 0 < d.k * d.k := Nat.mul_pos (by omega) (by omega)
                  obtain ⟨gX, rfl⟩ : ∃ gX, TA = some ⟨gX, 0, none⟩ := by
                    obtain ⟨ad2, e3, _⟩ := HTI3.out.cells hkk
                    exact ⟨ad2.block, by rw [e3, ← hTf.out ad2 e3]⟩
                  have hKr := hKT3.out.touch HM.out.chg (.inr (by omega))
                  have ct0 := hKr.c 0 rfl
                  have ct1 := hKr.c 1 rfl
                  have ct2 := hKr.c 2 rfl
                  have hgTw := hKr.lt
                  obtain ⟨dt, hdte⟩ : ∃ z, z = dotF 0 (rowW d.k T j) ws := ⟨_, rfl⟩
                  have hdtr : R64 dt := by
                    have := dotF_bd (rowW d.k T j) ws
                    rw [hdte]
                    exact r64_nmT this
                  have hRow := hide fun W => spec_rowT d.k gX (d.k * d.k) tc UA d.k uc j W hk8 rfl hjk HTI3.out.cap HTI3.out.max
                  have hDot : Hid (∀ W, Below wr.heap.size wr W → Calls Tryz.prog 12 #[.slice (some ⟨gX, j * d.k, none⟩) d.k (tc - j * d.k), .slice (some ⟨gw, 0, none⟩) d.k cw] W fun r w' => r = .returned (.int .i64 dt) ∧ Below W.heap.size W w') := fun W hW => by
                    have h1 := ((HTI3.out.same (HM.out.chg.same (.inl (by omega)) (by omega))).below hW (by omega)).sub (i := j) (sq_le hjk) (by omega)
                    have h2 := (how.out.ints.same (HM.out.chg.same (.inr (by omega)) (Nat.le_refl _))).below hW (by omega)
                    rw [hdte]
                    exact (spec_dotT _ _ _ _ _ _ _ _ _ _ _ _ W h1 h2 (Nat.le_refl _)).mono fun r w' ⟨h3, n3, h4⟩ => ⟨h3, by rw [h4]; exact below_drewN (Below.refl _ _) n3⟩
                  have hTim : Hid (∀ W, Calls Tryz.prog 27 #[.int .i64 ov, .int .i64 dt] W fun r w' => r = .returned (.int .i64 (timesF ov dt)) ∧ Below W.heap.size W w') := fun W =>
                    (spec_Times ov dt W hovr hdtr).mono fun r w' ⟨h3, h4⟩ => ⟨h3, by rw [← h4]; exact Below.refl _ _⟩
                  have hdt : Hid ((stepW d.k T ws old)[j]? = some (timesF ov dt) ∧ R64 (timesF ov dt) ∧ old.length = d.k) := by
                    refine ⟨?_, r64_nmT (timesF_bd _ _), HOL.out⟩
                    rw [step_at hjk, hdte, List.getD, hove]
                    rfl
                  clear hove hmix hovr hkk hKr hdte hdtr
                  go_upto_region 15 with fail
                  refine wp_region_Z (fun W' => Below wr.heap.size wr W') 13 (by kernel_rfl) ?_
                  simp only [List.size_toArray, List.length_cons, List.length_nil, Nat.reduceAdd]
                  have hS0 : Below wr.heap.size wr wr.drew := (Below.refl wr.heap.size wr).drew
                  generalize wr.drew = V at hS0 ⊢
                  refine wpAnyZ_takeW 0 (.slice (some ⟨g7, 0, none⟩) d.k c7) rfl (by kernel_rfl) (by kernel_rfl) (fun _ _ _ h => h) (by rfl) (fun _ => by first | (simp [go_sem]; done) | go_simp) hS0 ?_
                  try simp only [Act.put, List.setIfInBounds_toArray, List.set_cons_zero, List.set_cons_succ, List.getElem_toArray, List.getElem_cons_zero, List.getElem_cons_succ]
                  refine wpAnyZ_takeW 1 (.int .i64 (j : Int)) rfl (by kernel_rfl) (by kernel_rfl) (fun _ _ _ h => h) (by rfl) (fun _ => by first | (simp [go_sem]; done) | go_simp) hS0 ?_
                  try simp only [Act.put, List.setIfInBounds_toArray, List.set_cons_zero, List.set_cons_succ, List.getElem_toArray, List.getElem_cons_zero, List.getElem_cons_succ]
                  refine wpAnyZ_takeW 2 (.slice (some ⟨g7, 0, none⟩) d.k c7) rfl (by kernel_rfl) (by kernel_rfl) (fun _ _ _ h => h) (by rfl) (fun _ => by first | (simp [go_sem]; done) | go_simp) hS0 ?_
                  try simp only [Act.put, List.setIfInBounds_toArray, List.set_cons_zero, List.set_cons_succ, List.getElem_toArray, List.getElem_cons_zero, List.getElem_cons_succ]
                  refine wpAnyZ_takeW 3 (.int .i64 (j : Int)) rfl (by kernel_rfl) (by kernel_rfl) (fun _ _ _ h => h) (by rfl) (fun _ => by first | (simp [go_sem]; done) | go_simp) hS0 ?_
                  try simp only [Act.put, List.setIfInBounds_toArray, List.set_cons_zero, List.set_cons_succ, List.getElem_toArray, List.getElem_cons_zero, List.getElem_cons_succ]
                  refine wpAnyZ_takeW 4 (.pointer (some ⟨g7, j, none⟩)) rfl (by kernel_rfl) (by kernel_rfl) (fun _ _ _ h => h) (by rfl) (fun _ => by first | (simp [go_sem]; done) | go_simp) hS0 ?_
                  try simp only [Act.put, List.setIfInBounds_toArray, List.set_cons_zero, List.set_cons_succ, List.getElem_toArray, List.getElem_cons_zero, List.getElem_cons_succ]
                  refine wpAnyZ_take 5 (.int .i64 ov) rfl (by kernel_rfl) (by kernel_rfl) (fun _ _ _ h => h) (by rfl) (fun _ hS => by have q0 := (hS.cell (p := ⟨g7, j, none⟩) hg7w).trans hov; clear hS; first | (simp [go_sem, q0]; done) | go_simp) hS0 ?_
                  try simp only [Act.put, List.setIfInBounds_toArray, List.set_cons_zero, List.set_cons_succ, List.getElem_toArray, List.getElem_cons_zero, List.getElem_cons_succ]
                  refine wpAnyZ_take 6 (.agg #[.int .i64 (d.k : Int), .slice (some ⟨gX, 0, none⟩) (d.k * d.k) tc, .slice UA d.k uc]) rfl (by kernel_rfl) (by kernel_rfl) (fun _ _ _ h => h) (by rfl) (fun _ hS => by have q0 := (hS.cell (p := ⟨gT, 0, none⟩) hgTw).trans ct0; have q1 := (hS.cell (p := ⟨gT, 1, none⟩) hgTw).trans ct1; have q2 := (hS.cell (p := ⟨gT, 2, none⟩) hgTw).trans ct2; clear hS; first | (simp [go_sem, q0, q1, q2]; done) | go_simp) hS0 ?_
                  try simp only [Act.put, List.setIfInBounds_toArray, List.set_cons_zero, List.set_cons_succ, List.getElem_toArray, List.getElem_cons_zero, List.getElem_cons_succ]
                  refine wpAnyZ_takeW 7 (.int .i64 (j : Int)) rfl (by kernel_rfl) (by kernel_rfl) (fun _ _ _ h => h) (by rfl) (fun _ => by first | (simp [go_sem]; done) | go_simp) hS0 ?_
                  try simp only [Act.put, List.setIfInBounds_toArray, List.set_cons_zero, List.set_cons_succ, List.getElem_toArray, List.getElem_cons_zero, List.getElem_cons_succ]
                  refine wpAnyZ_takeW 9 (.slice (some ⟨gw, 0, none⟩) d.k cw) rfl (by kernel_rfl) (by kernel_rfl) (fun _ _ _ h => h) (by rfl) (fun _ => by first | (simp [go_sem]; done) | go_simp) hS0 ?_
                  try simp only [Act.put, List.setIfInBounds_toArray, List.set_cons_zero, List.set_cons_succ, List.getElem_toArray, List.getElem_cons_zero, List.getElem_cons_succ]
                  refine wpAnyZ_one 8 (by kernel_rfl) rfl (by rfl) (fun K hK => ?_)
                  go_simp
                  refine (hRow.out V).mono ?_
                  rintro e x1 ⟨rfl, b1⟩
                  have z1 := hS0.size
                  have hS1 := hS0.trans (b1.mono z1)
                  clear z1
                  go_wp2_with fail
                  refine hK.out _ _ hS1 ?_
                  clear hK K
                  try simp only [Act.put, List.setIfInBounds_toArray, List.set_cons_zero, List.set_cons_succ, List.getElem_toArray, List.getElem_cons_zero, List.getElem_cons_succ]
                  refine wpAnyZ_one 10 (by kernel_rfl) rfl (by rfl) (fun K hK => ?_)
                  go_simp
                  refine (hDot.out x1 hS1).mono ?_
                  rintro e x2 ⟨rfl, b2⟩
                  have z2 := hS1.size
                  have hS2 := hS1.trans (b2.mono z2)
                  clear z2
                  go_wp2_with fail
                  refine hK.out _ _ hS2 ?_
                  clear hK K
                  try simp only [Act.put, List.setIfInBounds_toArray, List.set_cons_zero, List.set_cons_succ, List.getElem_toArray, List.getElem_cons_zero, List.getElem_cons_succ]
                  refine wpAnyZ_one 11 (by kernel_rfl) rfl (by rfl) (fun K hK => ?_)
                  go_simp
                  refine (hTim.out x2).mono ?_
                  rintro e x3 ⟨rfl, b3⟩
                  have z3 := hS2.size
                  have hS3 := hS2.trans (b3.mono z3)
                  clear z3
                  go_wp2_with fail
                  refine hK.out _ _ hS3 ?_
                  clear hK K
                  try simp only [Act.put, List.setIfInBounds_toArray, List.set_cons_zero, List.set_cons_succ, List.getElem_toArray, List.getElem_cons_zero, List.getElem_cons_succ]
                  refine wpAnyZ_takeW 12 (.pointer (some ⟨g7, j, none⟩)) rfl (by kernel_rfl) (by kernel_rfl) (fun _ _ _ h => h) (by rfl) (fun _ => by first | (simp [go_sem]; done) | go_simp) hS3 ?_
                  try simp only [Act.put, List.setIfInBounds_toArray, List.set_cons_zero, List.set_cons_succ, List.getElem_toArray, List.getElem_cons_zero, List.getElem_cons_succ]
                  have hcO := (hS3.cell (p := ⟨g7, j, none⟩) hg7w).trans hov
                  have hfO := (hS3.frozen (p := ⟨g7, j, none⟩) hg7w).trans hof
                  refine wpAnyZ_last (by kernel_rfl) rfl (by kernel_rfl) (by rfl) (fun K hK => ?_)
                  go_simp
                  refine hK _ _ ?_
                  clear hK K hcO hfO
                  have hN := hide (HM.out.step hS3 hjk hdt.out)
                  clear HM hov hof
                  go_wp2_with fail
                  go_roundw
                  case rel => exact ⟨j + 1, by omega, by go_num, hN.out⟩
                  case measure => simp [intOf]; omega
                · obtain rfl : j = d.k := by omega
                  have hfin : (stepW d.k T ws old).take d.k ++ old.drop d.k = stepW d.k T ws old := by
                    rw [List.take_of_length_le (Nat.le_of_eq HNL.out), List.drop_eq_nil_of_le (Nat.le_of_eq HOL.out), List.append_nil]
                  have hOn := HM.out.own
                  rw [hfin, hnew.out] at hOn
                  have HOn := hide hOn
                  have hKn := hide (hK3.out.touch HM.out.chg (.inl (by omega)))
                  have hbn := hide (hbW3.out.trans (HM.out.chg.below (by omega) (by omega)))
                  have hSn := hide (hS3.out.trans (HM.out.chg.same (.inr (by omega)) (by omega)))
                  clear hOn hfin HM
                  go_wp2_with fail
                  go_roundw
                  case rel => exact ⟨q + 1, by omega, by go_num, HOn.out, hKn.out, hSn.out, by omega, hbn.out⟩
                  case measure => simp [intOf]; omega
          · obtain rfl : q = n8 := by omega
            have hfull : (partsF [] rr).take q = partsF [] rr := List.take_of_length_le (Nat.le_of_eq hl8.out)
            rw [hfull, show partsF [] rr = partsF [] (a :: rr).tail from rfl, ← hwl.out] at hO
            clear hfull
            go_wp2_with fail
            go_ret
            exact ⟨g, c', rfl, hO.out.wide (by omega) (Nat.le_refl _), hb.out⟩
end Go.Proofs.YthjkdpapadolgaaGreatDoor
