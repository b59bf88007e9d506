/- Weights of shaded trees by their numbers: the reference's walk. -/
import Derived.Test.YthjkdpapadolgaaGreatDoorWtS
namespace Go.Proofs.YthjkdpapadolgaaGreatDoor
open Go.RowKit
set_option linter.unusedSimpArgs false
set_option linter.unusedVariables false
set_option maxRecDepth 20000

set_option maxRecDepth 100000 in
set_option maxHeartbeats 8000000 in
theorem spec_ShadedWeight (d : PairD) (lo hi : Nat) (cn : Nat) (hcn : cn < 72) (w : World) (hP : PairR w lo hi d) (hh : hi ≤ w.heap.size) (hok : pairOkF (d.k : Int) d.X0 d.Y0 (d.k : Int) d.X1 d.Y1 = true) :
    Calls Tryz.prog 5 #[.agg #[.int .i64 (d.k : Int), .slice d.XA (d.k * d.k) d.xc, .slice d.YA d.k d.yc, .int .i64 (d.k : Int), .slice d.XB (d.k * d.k) d.xd, .slice d.YB d.k d.yd], .int .i64 (cn : Int)] w fun r w' => r = .returned (.int .i64 (shWt true d.k d.X0 d.Y0 d.X1 d.Y1 (cn : Int))) ∧ Below w.heap.size w w' := by
  have b0 := below_alloc w (.cells #[.int .i64 (d.k : Int), .slice d.XA (d.k * d.k) d.xc, .slice d.YA d.k d.yc, .int .i64 (d.k : Int), .slice d.XB (d.k * d.k) d.xd, .slice d.YB d.k d.yd] 31)
  have kP0 := hide (BlkN.new w #[.int .i64 (d.k : Int), .slice d.XA (d.k * d.k) d.xc, .slice d.YA d.k d.yc, .int .i64 (d.k : Int), .slice d.XB (d.k * d.k) d.xd, .slice d.YB d.k d.yd] 31)
  have z0 : (w.alloc (.cells #[.int .i64 (d.k : Int), .slice d.XA (d.k * d.k) d.xc, .slice d.YA d.k d.yc, .int .i64 (d.k : Int), .slice d.XB (d.k * d.k) d.xd, .slice d.YB d.k d.yd] 31)).heap.size = w.heap.size + 1 := by simp
  have hAt := hide fun W => spec_ShadesAt cn hcn W
  have HP := hide hP
  have HB0 := hide b0
  have hOk := hide fun (W : World) (hW : Below w.heap.size w W) => (by
    have hPB := hP.below hW hh
    have hs := hW.size
    have := spec_PairOk (d.k : Int) d.XA (d.k * d.k) d.xc d.X0 d.YA d.k d.yc d.Y0 (d.k : Int) d.XB (d.k * d.k) d.xd d.X1 d.YB d.k d.yd d.Y1 lo hi W hPB.x0 hPB.y0 hPB.x1 hPB.y1 (by omega)
    rwa [hok] at this : Calls Tryz.prog 11 #[.agg #[.int .i64 (d.k : Int), .slice d.XA (d.k * d.k) d.xc, .slice d.YA d.k d.yc, .int .i64 (d.k : Int), .slice d.XB (d.k * d.k) d.xd, .slice d.YB d.k d.yd]] W fun e w' => e = .returned (.bool true) ∧ Below W.heap.size W w')
  obtain ⟨t2, ht2⟩ : ∃ t, tabS[cn]? = some t := ⟨_, List.getElem?_eq_getElem (by have := tab_len; omega)⟩
  obtain ⟨l2, bs2, sy2⟩ := t2
  have hla2 := list_at ht2
  have htf := tab_facts ht2
  have htk := List.all_eq_true.1 tab_ok l2 (by
    have : tabL[cn]? = some l2 := by unfold tabL; rw [List.getElem?_map, ht2]; rfl
    exact List.mem_of_getElem? this)
  obtain ⟨cq, hcq⟩ : ∃ z, z = (listAt (cn : Int)).headD 0 := ⟨_, rfl⟩
  have hxc : cq = 0 ∨ cq = 1 := by rw [hcq, hla2]; exact htf.col
  have hgd := hide (good_of htk)
  rw [← hla2] at hgd
  have hne := htf.ne
  rw [← hla2] at hne
  have hrem : Int.tmod cq 2 = cq := by rcases hxc with rfl | rfl <;> decide
  obtain ⟨dt, hdt⟩ : ∃ z, z = dotF 0 (selF cq d.Y0 d.Y1) (wL d.k d.X0 d.X1 4 (listAt (cn : Int))) := ⟨_, rfl⟩
  have hdv : Hid (dt = shWt true d.k d.X0 d.Y0 d.X1 d.Y1 (cn : Int)) := by
    show _ = _
    rw [hdt, shWt, if_pos (by simp; omega), ← hcq, show cq % 2 = cq by omega]
  clear hP b0 hok ht2 hla2 htf htk
  go_enter Tryz.func5, Tryz.ntmps5
  go_wp2_with fail
  generalize World.alloc w (.cells #[.int .i64 (d.k : Int), .slice d.XA (d.k * d.k) d.xc, .slice d.YA d.k d.yc, .int .i64 (d.k : Int), .slice d.XB (d.k * d.k) d.xd, .slice d.YB d.k d.yd] 31) = W1 at kP0 z0 HB0 ⊢
  refine (hAt.out _).mono ?_
  rintro e w1 ⟨gl, ml, cl, ll, hl, rfl, hLI, hll, hlh, b1⟩
  have z1 := b1.size
  have hml : 0 < ml := by
    have := hLI.len
    have := List.length_pos_iff.2 hne
    omega
  have hmne : ((ml : Int) == 0) = false := by simp; omega
  have hB1 := hide (HB0.out.trans (b1.mono (by omega)))
  have hPk := hide (hOk.out w1 hB1.out)
  have hK1 := hide (kP0.out.below b1)
  have HLI := hide hLI
  clear b1 kP0 HB0 hLI hAt
  have hPkk := hK1.out.lt
  have cp0 := hK1.out.c 0 rfl
  have cp1 := hK1.out.c 1 rfl
  have cp2 := hK1.out.c 2 rfl
  have cp3 := hK1.out.c 3 rfl
  have cp4 := hK1.out.c 4 rfl
  have cp5 := hK1.out.c 5 rfl
  go_wp2_with fail
  refine hPk.out.mono ?_
  rintro e w2 ⟨rfl, b2⟩
  have z2 := b2.size
  have hB2 := hide (hB1.out.trans (b2.mono (by omega)))
  have hz2 := hB2.out.size
  have hK2 := hide (hK1.out.below b2)
  have HL2 := hide (HLI.out.below b2 hlh)
  have hP2 := hide (HP.out.below hB2.out hh)
  clear b2 cp0 cp1 cp2 cp3 cp4 cp5 hK1 HLI HP hPk
  go_upto_region 4 with fail
  obtain ⟨gP, hgP⟩ : ∃ g, g = w.heap.size := ⟨_, rfl⟩
  rw [← hgP] at hK2 ⊢
  clear hgP
  have cp0 := hK2.out.c 0 rfl
  have cp1 := hK2.out.c 1 rfl
  have cp2 := hK2.out.c 2 rfl
  have cp3 := hK2.out.c 3 rfl
  have cp4 := hK2.out.c 4 rfl
  have cp5 := hK2.out.c 5 rfl
  have hgPw : gP < w2.heap.size := hK2.out.lt
  have hc0 : w2.cell? ⟨gl, 0, none⟩ = some (.int .i64 cq) := by
    obtain ⟨ad2, e, _, _, hcs⟩ := HL2.out.cells hml
    injection e with e
    subst e
    have hx : (listAt (cn : Int))[0]? = some cq := by
      rw [hcq]
      cases hl : listAt (cn : Int) with
      | nil => exact absurd hl hne
      | cons a r => rfl
    simpa [Addr.add] using hcs 0 cq hx
  have hglw : gl < w2.heap.size := World.block_lt_of_cell? _ _ hc0
  have hcpb := HL2.out.cap
  have hcpm := HL2.out.max
  have hhw : hi ≤ w2.heap.size := by omega
  have hlw : hl ≤ w2.heap.size := by omega
  obtain ⟨TA, tc, UA, uc, hOf, hTI, hUI, hTf⟩ := of_pairS hP2.out hxc
  have hSW : Hid (∀ W, Below w2.heap.size w2 W → Calls Tryz.prog 14 #[.agg #[.int .i64 (d.k : Int), .slice d.XA (d.k * d.k) d.xc, .slice d.YA d.k d.yc, .int .i64 (d.k : Int), .slice d.XB (d.k * d.k) d.xd, .slice d.YB d.k d.yd], .slice (some ⟨gl, 0, none⟩) ml cl] W fun r w' => ∃ g c, r = .returned (.slice (some ⟨g, 0, none⟩) d.k c) ∧ OwnI w' W.heap.size w'.heap.size (some ⟨g, 0, none⟩) d.k c (wL d.k d.X0 d.X1 4 (listAt (cn : Int))) ∧ Below W.heap.size W w') := fun W hW =>
    spec_l10Weights d lo hi 4 gl ml cl (listAt (cn : Int)) ll hl W (HL2.out.below hW hlw) (by have := hW.size; omega) hgd.out.1 hgd.out.2 (Nat.le_refl _) (hP2.out.below hW hhw) (by have := hW.size; omega)
  have hDot : Hid (∀ W, Below w2.heap.size w2 W → ∀ g c p q, OwnI W p q (some ⟨g, 0, none⟩) d.k c (wL d.k d.X0 d.X1 4 (listAt (cn : Int))) → Calls Tryz.prog 12 #[.slice UA d.k uc, .slice (some ⟨g, 0, none⟩) d.k c] W fun r w' => r = .returned (.int .i64 dt) ∧ Below W.heap.size W w') := fun W hW g c p q ho => by
    rw [hdt]
    exact (spec_dotT _ _ _ _ _ _ _ _ _ _ _ _ W (hUI.below hW hhw) ho.ints (Nat.le_refl _)).mono fun r w' ⟨h3, n3, h4⟩ => ⟨h3, by rw [h4]; exact below_drewN (Below.refl _ _) n3⟩
  clear hTI hUI hcq hdt hgd hne hP2 HL2 hK2 hB1
  refine wp_region_Z (fun W' => Below w2.heap.size w2 W') 11 (by kernel_rfl) ?_
  simp only [List.size_toArray, List.length_cons, List.length_nil, Nat.reduceAdd]
  have hS0 : Below w2.heap.size w2 w2.drew := (Below.refl w2.heap.size w2).drew
  generalize w2.drew = V at hS0 ⊢
  refine wpAnyZ_take 0 (.agg #[.int .i64 (d.k : Int), .slice d.XA (d.k * d.k) d.xc, .slice d.YA d.k d.yc, .int .i64 (d.k : Int), .slice d.XB (d.k * d.k) d.xd, .slice d.YB d.k d.yd]) rfl (by kernel_rfl) (by kernel_rfl) (fun _ _ _ h => h) (by rfl) (fun _ hS => by have q0 := (hS.cell (p := ⟨gP, 0, none⟩) hgPw).trans cp0; have q1 := (hS.cell (p := ⟨gP, 1, none⟩) hgPw).trans cp1; have q2 := (hS.cell (p := ⟨gP, 2, none⟩) hgPw).trans cp2; have q3 := (hS.cell (p := ⟨gP, 3, none⟩) hgPw).trans cp3; have q4 := (hS.cell (p := ⟨gP, 4, none⟩) hgPw).trans cp4; have q5 := (hS.cell (p := ⟨gP, 5, none⟩) hgPw).trans cp5; clear hS; first | (simp [go_sem, q0, q1, q2, q3, q4, q5]; done) | go_simp) hS0 ?_
  try simp only [Act.put, List.setIfInBounds_toArray, List.set_cons_zero, List.set_cons_succ, List.getElem_toArray, List.getElem_cons_zero, List.getElem_cons_succ]
  refine wpAnyZ_takeW 1 (.slice (some ⟨gl, 0, none⟩) ml cl) rfl (by kernel_rfl) (by kernel_rfl) (fun _ _ _ h => h) (by rfl) (fun _ => by first | (simp [go_sem]; done) | go_simp) hS0 ?_
  try simp only [Act.put, List.setIfInBounds_toArray, List.set_cons_zero, List.set_cons_succ, List.getElem_toArray, List.getElem_cons_zero, List.getElem_cons_succ]
  refine wpAnyZ_takeW 2 (.pointer (some ⟨gl, 0, none⟩)) rfl (by kernel_rfl) (by kernel_rfl) (fun _ _ _ h => h) (by rfl) (fun _ => by first | (simp [go_sem]; done) | go_simp) hS0 ?_
  try simp only [Act.put, List.setIfInBounds_toArray, List.set_cons_zero, List.set_cons_succ, List.getElem_toArray, List.getElem_cons_zero, List.getElem_cons_succ]
  refine wpAnyZ_take 3 (.int .i64 cq) rfl (by kernel_rfl) (by kernel_rfl) (fun _ _ _ h => h) (by rfl) (fun _ hS => by have q0 := (hS.cell (p := ⟨gl, 0, none⟩) hglw).trans hc0; clear hS; first | (simp [go_sem, q0]; done) | go_simp) hS0 ?_
  try simp only [Act.put, List.setIfInBounds_toArray, List.set_cons_zero, List.set_cons_succ, List.getElem_toArray, List.getElem_cons_zero, List.getElem_cons_succ]
  refine wpAnyZ_takeW 4 (.int .i64 cq) rfl (by kernel_rfl) (by kernel_rfl) (fun _ _ _ h => h) (by rfl) (fun _ => by simp [go_sem, hrem]) hS0 ?_
  try simp only [Act.put, List.setIfInBounds_toArray, List.set_cons_zero, List.set_cons_succ, List.getElem_toArray, List.getElem_cons_zero, List.getElem_cons_succ]
  refine wpAnyZ_take 7 (.agg #[.int .i64 (d.k : Int), .slice d.XA (d.k * d.k) d.xc, .slice d.YA d.k d.yc, .int .i64 (d.k : Int), .slice d.XB (d.k * d.k) d.xd, .slice d.YB d.k d.yd]) rfl (by kernel_rfl) (by kernel_rfl) (fun _ _ _ h => h) (by rfl) (fun _ hS => by have q0 := (hS.cell (p := ⟨gP, 0, none⟩) hgPw).trans cp0; have q1 := (hS.cell (p := ⟨gP, 1, none⟩) hgPw).trans cp1; have q2 := (hS.cell (p := ⟨gP, 2, none⟩) hgPw).trans cp2; have q3 := (hS.cell (p := ⟨gP, 3, none⟩) hgPw).trans cp3; have q4 := (hS.cell (p := ⟨gP, 4, none⟩) hgPw).trans cp4; have q5 := (hS.cell (p := ⟨gP, 5, none⟩) hgPw).trans cp5; clear hS; first | (simp [go_sem, q0, q1, q2, q3, q4, q5]; done) | go_simp) hS0 ?_
  try simp only [Act.put, List.setIfInBounds_toArray, List.set_cons_zero, List.set_cons_succ, List.getElem_toArray, List.getElem_cons_zero, List.getElem_cons_succ]
  refine wpAnyZ_takeW 8 (.slice (some ⟨gl, 0, none⟩) ml cl) rfl (by kernel_rfl) (by kernel_rfl) (fun _ _ _ h => h) (by rfl) (fun _ => by first | (simp [go_sem]; done) | go_simp) hS0 ?_
  try simp only [Act.put, List.setIfInBounds_toArray, List.set_cons_zero, List.set_cons_succ, List.getElem_toArray, List.getElem_cons_zero, List.getElem_cons_succ]
  refine wpAnyZ_one 5 (by kernel_rfl) rfl (by rfl) (fun K hK => ?_)
  go_simp
  refine (hOf.out V).mono ?_
  rintro e x1 ⟨rfl, b1⟩
  have z1 := hS0.size
  have hS1 := hS0.trans (b1.mono z1)
  clear z1
  go_wp2_with fail
  refine hK.out _ _ hS1 ?_
  clear hK K
  try simp only [Act.put, List.setIfInBounds_toArray, List.set_cons_zero, List.set_cons_succ, List.getElem_toArray, List.getElem_cons_zero, List.getElem_cons_succ]
  refine wpAnyZ_takeW 6 (.slice UA d.k uc) rfl (by kernel_rfl) (by kernel_rfl) (fun _ _ _ h => h) (by rfl) (fun _ => by simp [go_sem, field_run]) hS1 ?_
  try simp only [Act.put, List.setIfInBounds_toArray, List.set_cons_zero, List.set_cons_succ, List.getElem_toArray, List.getElem_cons_zero, List.getElem_cons_succ]
  refine wpAnyZ_one 9 (by kernel_rfl) rfl (by rfl) (fun K hK => ?_)
  go_simp
  refine (hSW.out x1 hS1).mono ?_
  rintro e x2 ⟨gw, cw, rfl, ow, b2⟩
  have z2 := hS1.size
  have hS2 := hS1.trans (b2.mono z2)
  have how := hide ow
  clear ow
  clear z2
  go_wp2_with fail
  refine hK.out _ _ hS2 ?_
  clear hK K
  try simp only [Act.put, List.setIfInBounds_toArray, List.set_cons_zero, List.set_cons_succ, List.getElem_toArray, List.getElem_cons_zero, List.getElem_cons_succ]
  refine wpAnyZ_one 10 (by kernel_rfl) rfl (by rfl) (fun K hK => ?_)
  go_simp
  refine (hDot.out x2 hS2 gw cw _ _ how.out).mono ?_
  rintro e x3 ⟨rfl, b3⟩
  have z3 := hS2.size
  have hS3 := hS2.trans (b3.mono z3)
  clear z3
  go_wp2_with fail
  refine hK.out _ _ hS3 ?_
  clear hK K
  try simp only [Act.put, List.setIfInBounds_toArray, List.set_cons_zero, List.set_cons_succ, List.getElem_toArray, List.getElem_cons_zero, List.getElem_cons_succ]
  refine wpAnyZ_last (by kernel_rfl) rfl (by kernel_rfl) (by rfl) (fun K hK => ?_)
  go_simp
  refine hK _ _ ?_
  clear hK K
  have hBz := hide hS3
  go_wp2_with fail
  go_ret
  exact ⟨ret_int hdv.out, hB2.out.trans (hBz.out.mono hz2)⟩

/-- where the pair is no pair -/
theorem spec_ShadedWeight_not (s : Int) (A : Option Addr) (n c : Nat) (xs : List Int) (B : Option Addr) (m d : Nat) (ys : List Int) (s' : Int) (A' : Option Addr) (n' c' : Nat) (xs' : List Int) (B' : Option Addr) (m' d' : Nat) (ys' : List Int) (lo hi : Nat) (K : Int) (w : World) (h : Ints w lo hi A n c xs) (g : Ints w lo hi B m d ys) (h' : Ints w lo hi A' n' c' xs') (g' : Ints w lo hi B' m' d' ys') (hh : hi ≤ w.heap.size) (hok : pairOkF s xs ys s' xs' ys' = false ∨ ¬ (0 ≤ K ∧ K < 72)) :
    Calls Tryz.prog 5 #[.agg #[.int .i64 s, .slice A n c, .slice B m d, .int .i64 s', .slice A' n' c', .slice B' m' d'], .int .i64 K] w fun r w' => r = .returned (.int .i64 0) ∧ Below w.heap.size w w' := by
  have b0 := below_alloc w (.cells #[.int .i64 s, .slice A n c, .slice B m d, .int .i64 s', .slice A' n' c', .slice B' m' d'] 31)
  have kP0 := hide (BlkN.new w #[.int .i64 s, .slice A n c, .slice B m d, .int .i64 s', .slice A' n' c', .slice B' m' d'] 31)
  have HB0 := hide b0
  have z0 := b0.size
  have hOk := hide fun (W : World) (hW : Below w.heap.size w W) => spec_PairOk s A n c xs B m d ys s' A' n' c' xs' B' m' d' ys' lo hi W (h.below hW hh) (g.below hW hh) (h'.below hW hh) (g'.below hW hh) (by have := hW.size; omega)
  clear b0 h g h' g'
  by_cases hK : 0 ≤ K ∧ K < 72
  · have hok2 : pairOkF s xs ys s' xs' ys' = false := by
      rcases hok with h1 | h1
      · exact h1
      · exact absurd hK h1
    rw [hok2] at hOk
    obtain ⟨cn, rfl⟩ : ∃ cn : Nat, K = (cn : Int) := ⟨K.toNat, by omega⟩
    have hAt := hide fun W => spec_ShadesAt cn (by omega) W
    clear hok hok2 hK
    go_enter Tryz.func5, Tryz.ntmps5
    go_wp2_with fail
    refine (hAt.out _).mono ?_
    rintro e w1 ⟨gl, ml, cl, ll, hl, rfl, hLI, hll, hlh, b1⟩
    have hB1 := hide (HB0.out.trans (b1.mono z0))
    have hK1 := hide (kP0.out.below b1)
    have hPk := hide (hOk.out w1 hB1.out)
    have z1 := hB1.out.size
    clear hLI b1
    have cp0 := hK1.out.c 0 rfl
    have cp1 := hK1.out.c 1 rfl
    have cp2 := hK1.out.c 2 rfl
    have cp3 := hK1.out.c 3 rfl
    have cp4 := hK1.out.c 4 rfl
    have cp5 := hK1.out.c 5 rfl
    have hgPw := hK1.out.lt
    go_wp2_with fail
    refine hPk.out.mono ?_
    rintro e w2 ⟨rfl, b2⟩
    have hB2 := hide (hB1.out.trans (b2.mono z1))
    clear b2
    go_wp2_with fail
    go_ret
    exact ⟨rfl, hB2.out⟩
  · have hAt := hide fun W => spec_ShadesAt_not K hK W
    clear hok hK
    go_enter Tryz.func5, Tryz.ntmps5
    go_wp2_with fail
    refine (hAt.out _).mono ?_
    rintro e w1 ⟨rfl, rfl⟩
    have hPk := hide (hOk.out _ HB0.out)
    have hK1 := kP0
    have cp0 := hK1.out.c 0 rfl
    have cp1 := hK1.out.c 1 rfl
    have cp2 := hK1.out.c 2 rfl
    have cp3 := hK1.out.c 3 rfl
    have cp4 := hK1.out.c 4 rfl
    have cp5 := hK1.out.c 5 rfl
    have hgPw := hK1.out.lt
    go_wp2_with fail
    refine hPk.out.mono ?_
    rintro e w2 ⟨rfl, b2⟩
    have hB2 := hide (HB0.out.trans (b2.mono z0))
    clear b2
    cases hv : pairOkF s xs ys s' xs' ys' with
    | true =>
      go_wp2_with fail
      go_ret
      exact ⟨rfl, hB2.out⟩
    | false =>
      go_wp2_with fail
      go_ret
      exact ⟨rfl, hB2.out⟩
end Go.Proofs.YthjkdpapadolgaaGreatDoor
