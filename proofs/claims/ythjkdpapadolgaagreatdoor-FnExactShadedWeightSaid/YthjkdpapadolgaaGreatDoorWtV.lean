/- Weights of shaded trees: the program's walk, the rest. -/
import Derived.Test.YthjkdpapadolgaaGreatDoorWtW
namespace Go.Proofs.YthjkdpapadolgaaGreatDoor
open Go.RowKit
set_option linter.unusedSimpArgs false
set_option linter.unusedVariables false
set_option maxRecDepth 20000

def shWf (d : PairD) (K : Int) : Int := dotF 0 (selF ((listAt K).headD 0 % 2) d.Y0 d.Y1) (wL d.k d.X0 d.X1 4 (listAt K))

theorem field_run (s : Int) (A : Option Addr) (n c : Nat) (B : Option Addr) (m d : Nat) (W : World) : (Instr.field 29 (.agg #[.int .i64 s, .slice A n c, .slice B m d]) 2).run Tryz.prog W = .ok (.slice B m d) W := by kernel_rfl

set_option maxRecDepth 100000 in
set_option maxHeartbeats 8000000 in
theorem impl_shadedWeight (d : PairD) (gA cA : Nat) (es : List Sh) (hkey : es.map Sh.key = tabS) (lo hi lo' hi' : Nat) (cn : Nat) (hcn : cn < 72) (w : World) (hA : AllS w lo hi (some ⟨gA, 0, none⟩) 72 cA es) (hP : PairR w lo' hi' d) (hh : hi ≤ w.heap.size) (hh' : hi' ≤ w.heap.size) :
    Calls Tryz.prog 18 #[.slice (some ⟨gA, 0, none⟩) 72 cA, .agg #[.int .i64 (d.k : Int), .slice d.XA (d.k * d.k) d.xc, .slice d.YA d.k d.yc, .int .i64 (d.k : Int), .slice d.XB (d.k * d.k) d.xd, .slice d.YB d.k d.yd], .int .i64 (cn : Int)] w fun r w' => r = .returned (.int .i64 (shWf d (cn : Int))) ∧ Below w.heap.size w w' := by
  obtain ⟨t2, ht2⟩ : ∃ t, tabS[cn]? = some t := ⟨_, List.getElem?_eq_getElem (by have := tab_len; omega)⟩
  obtain ⟨l2, bs2, sy2⟩ := t2
  have hla2 := list_at ht2
  have htf := tab_facts ht2
  obtain ⟨e2, he2, hek2⟩ := key_at hkey ht2
  obtain ⟨cq, hcq⟩ : ∃ z, z = (listAt (cn : Int)).headD 0 := ⟨_, rfl⟩
  have hxc : cq = 0 ∨ cq = 1 := by rw [hcq, hla2]; exact htf.col
  have hxn : listAt (cn : Int) ≠ [] := by rw [hla2]; exact htf.ne
  have hlen : (listAt (cn : Int)).length ≤ 4 := by rw [hla2]; exact htf.len
  have HCQ := hide hcq
  have hgAw0 : gA < w.heap.size := by have := hA.lt _ rfl; simp only at this; omega
  have hcA := hA.capb.2
  have b0 := below_alloc w (.cells #[.int .i64 (d.k : Int), .slice d.XA (d.k * d.k) d.xc, .slice d.YA d.k d.yc, .int .i64 (d.k : Int), .slice d.XB (d.k * d.k) d.xd, .slice d.YB d.k d.yd] 31)
  have kP0 := hide (BlkN.new w #[.int .i64 (d.k : Int), .slice d.XA (d.k * d.k) d.xc, .slice d.YA d.k d.yc, .int .i64 (d.k : Int), .slice d.XB (d.k * d.k) d.xd, .slice d.YB d.k d.yd] 31)
  have z0 : (w.alloc (.cells #[.int .i64 (d.k : Int), .slice d.XA (d.k * d.k) d.xc, .slice d.YA d.k d.yc, .int .i64 (d.k : Int), .slice d.XB (d.k * d.k) d.xd, .slice d.YB d.k d.yd] 31)).heap.size = w.heap.size + 1 := by simp
  have hA2 := hide (hA.below b0 hh)
  have hP2 := hide (hP.below b0 hh')
  have hB0 := hide b0
  have hz0 := b0.size
  clear hA hP b0
  go_enter Tryz.func18, Tryz.ntmps18
  go_upto_region 1 with fail
  generalize World.alloc w (.cells #[.int .i64 (d.k : Int), .slice d.XA (d.k * d.k) d.xc, .slice d.YA d.k d.yc, .int .i64 (d.k : Int), .slice d.XB (d.k * d.k) d.xd, .slice d.YB d.k d.yd] 31) = w2 at kP0 z0 hA2 hP2 hB0 hz0 ⊢
  obtain ⟨gP, hgP⟩ : ∃ g, g = w.heap.size := ⟨_, rfl⟩
  rw [← hgP] at kP0 ⊢
  have hK2 := kP0
  have cp0 := hK2.out.c 0 rfl
  have cp1 := hK2.out.c 1 rfl
  have cp2 := hK2.out.c 2 rfl
  have cp3 := hK2.out.c 3 rfl
  have cp4 := hK2.out.c 4 rfl
  have cp5 := hK2.out.c 5 rfl
  have hgPw : gP < w2.heap.size := by omega
  have hgAw : gA < w2.heap.size := by omega
  have ce0 : w2.cell? ⟨gA, cn * 4, none⟩ = some (.slice e2.B e2.m e2.d) := hA2.out.cell he2 (i := 0) rfl
  have ce1 := hA2.out.cell he2 (i := 1) (v := .int .i64 e2.plain) rfl
  have ce2 := hA2.out.cell he2 (i := 2) (v := .slice e2.C e2.k e2.f) rfl
  have ce3 := hA2.out.cell he2 (i := 3) (v := .int .i64 e2.sy) rfl
  obtain ⟨⟨u1, u2, hu1, hu2, hLI, _⟩, _⟩ := hA2.out.row e2 (List.mem_of_getElem? he2)
  have hCol : Hid (∀ W, Below w2.heap.size w2 W → Calls Tryz.prog 34 #[.agg #[.slice e2.B e2.m e2.d, .int .i64 e2.plain, .slice e2.C e2.k e2.f, .int .i64 e2.sy]] W fun r w' => r = .returned (.int .i64 cq) ∧ Below W.heap.size W w') := fun W hW => by
    have hs := hW.size
    have := impl_colour e2 u1 u2 W (hLI.below hW (by omega)) (by omega) (by rw [l_of hek2, ← hla2]; exact hxn)
    rw [l_of hek2, ← hla2, ← hcq] at this
    exact this
  obtain ⟨TA, tc, UA, uc, hOf, hTI, hUI, hTf⟩ := of_pair hP2.out hxc
  obtain ⟨dt, hdt⟩ : ∃ z, z = dotF 0 (selF cq d.Y0 d.Y1) (wL d.k d.X0 d.X1 4 (listAt (cn : Int))) := ⟨_, rfl⟩
  have hdv : Hid (dt = shWf d (cn : Int)) := by show _ = _; rw [hdt, shWf, ← hcq, show cq % 2 = cq by omega]
  have hSW : Hid (∀ W, Below w2.heap.size w2 W → Calls Tryz.prog 35 #[.slice (some ⟨gA, 0, none⟩) 72 cA, .agg #[.int .i64 (d.k : Int), .slice d.XA (d.k * d.k) d.xc, .slice d.YA d.k d.yc, .int .i64 (d.k : Int), .slice d.XB (d.k * d.k) d.xd, .slice d.YB d.k d.yd], .int .i64 (cn : Int)] W fun r w' => ∃ g c, r = .returned (.slice (some ⟨g, 0, none⟩) d.k c) ∧ OwnI w' W.heap.size w'.heap.size (some ⟨g, 0, none⟩) d.k c (wL d.k d.X0 d.X1 4 (listAt (cn : Int))) ∧ Below W.heap.size W w') := fun W hW =>
    impl_shadedWeights d gA cA es hkey lo hi lo' hi' 4 cn hcn hlen W (hA2.out.below hW (by omega)) (hP2.out.below hW (by omega)) (by have := hW.size; omega) (by have := hW.size; omega)
  have hDot : Hid (∀ W, Below w2.heap.size w2 W → ∀ g c p q, OwnI W p q (some ⟨g, 0, none⟩) d.k c (wL d.k d.X0 d.X1 4 (listAt (cn : Int))) → Calls Tryz.prog 32 #[.slice UA d.k uc, .slice (some ⟨g, 0, none⟩) d.k c] W fun r w' => r = .returned (.int .i64 dt) ∧ Below W.heap.size W w') := fun W hW g c p q ho => by
    rw [hdt]
    exact (impl_dotT _ _ _ _ _ _ _ _ _ _ _ _ W (hUI.below hW (by omega)) ho.ints (Nat.le_refl _)).mono fun r w' ⟨h3, n3, h4⟩ => ⟨h3, by rw [h4]; exact below_drewN (Below.refl _ _) n3⟩
  clear hTI hUI hLI hcq hek2 he2 hla2 ht2 htf hxn hlen hdt hgP z0 hA2 hP2 kP0 hK2
  refine wp_region_Z (fun W' => Below w2.heap.size w2 W') 13 (by kernel_rfl) ?_
  simp only [List.size_toArray, List.length_cons, List.length_nil, Nat.reduceAdd]
  have hS0 : Below w2.heap.size w2 w2.drew := (Below.refl w2.heap.size w2).drew
  generalize w2.drew = V at hS0 ⊢
  refine wpAnyZ_take 0 (.agg #[.int .i64 (d.k : Int), .slice d.XA (d.k * d.k) d.xc, .slice d.YA d.k d.yc, .int .i64 (d.k : Int), .slice d.XB (d.k * d.k) d.xd, .slice d.YB d.k d.yd]) rfl (by kernel_rfl) (by kernel_rfl) (fun _ _ _ h => h) (by rfl) (fun _ hS => by have q0 := (hS.cell (p := ⟨gP, 0, none⟩) hgPw).trans cp0; have q1 := (hS.cell (p := ⟨gP, 1, none⟩) hgPw).trans cp1; have q2 := (hS.cell (p := ⟨gP, 2, none⟩) hgPw).trans cp2; have q3 := (hS.cell (p := ⟨gP, 3, none⟩) hgPw).trans cp3; have q4 := (hS.cell (p := ⟨gP, 4, none⟩) hgPw).trans cp4; have q5 := (hS.cell (p := ⟨gP, 5, none⟩) hgPw).trans cp5; clear hS; first | (simp [go_sem, q0, q1, q2, q3, q4, q5]; done) | go_simp) hS0 ?_
  try simp only [Act.put, List.setIfInBounds_toArray, List.set_cons_zero, List.set_cons_succ, List.getElem_toArray, List.getElem_cons_zero, List.getElem_cons_succ]
  refine wpAnyZ_takeW 1 (.slice (some ⟨gA, 0, none⟩) 72 cA) rfl (by kernel_rfl) (by kernel_rfl) (fun _ _ _ h => h) (by rfl) (fun _ => by first | (simp [go_sem]; done) | go_simp) hS0 ?_
  try simp only [Act.put, List.setIfInBounds_toArray, List.set_cons_zero, List.set_cons_succ, List.getElem_toArray, List.getElem_cons_zero, List.getElem_cons_succ]
  refine wpAnyZ_takeW 2 (.int .i64 (cn : Int)) rfl (by kernel_rfl) (by kernel_rfl) (fun _ _ _ h => h) (by rfl) (fun _ => by first | (simp [go_sem]; done) | go_simp) hS0 ?_
  try simp only [Act.put, List.setIfInBounds_toArray, List.set_cons_zero, List.set_cons_succ, List.getElem_toArray, List.getElem_cons_zero, List.getElem_cons_succ]
  refine wpAnyZ_takeW 3 (.pointer (some ⟨gA, cn * 4, none⟩)) rfl (by kernel_rfl) (by kernel_rfl) (fun _ _ _ h => h) (by rfl) (fun _ => by go_simp; intro hx; omega) hS0 ?_
  try simp only [Act.put, List.setIfInBounds_toArray, List.set_cons_zero, List.set_cons_succ, List.getElem_toArray, List.getElem_cons_zero, List.getElem_cons_succ]
  refine wpAnyZ_take 4 (.agg #[.slice e2.B e2.m e2.d, .int .i64 e2.plain, .slice e2.C e2.k e2.f, .int .i64 e2.sy]) rfl (by kernel_rfl) (by kernel_rfl) (fun _ _ _ h => h) (by rfl) (fun _ hS => by have q0 := (hS.cell (p := ⟨gA, cn * 4, none⟩) hgAw).trans ce0; have q1 := (hS.cell (p := ⟨gA, cn * 4 + 1, none⟩) hgAw).trans ce1; have q2 := (hS.cell (p := ⟨gA, cn * 4 + 2, none⟩) hgAw).trans ce2; have q3 := (hS.cell (p := ⟨gA, cn * 4 + 3, none⟩) hgAw).trans ce3; clear hS; first | (simp [go_sem, q0, q1, q2, q3]; done) | go_simp) hS0 ?_
  try simp only [Act.put, List.setIfInBounds_toArray, List.set_cons_zero, List.set_cons_succ, List.getElem_toArray, List.getElem_cons_zero, List.getElem_cons_succ]
  refine wpAnyZ_takeW 8 (.slice (some ⟨gA, 0, none⟩) 72 cA) rfl (by kernel_rfl) (by kernel_rfl) (fun _ _ _ h => h) (by rfl) (fun _ => by first | (simp [go_sem]; done) | go_simp) hS0 ?_
  try simp only [Act.put, List.setIfInBounds_toArray, List.set_cons_zero, List.set_cons_succ, List.getElem_toArray, List.getElem_cons_zero, List.getElem_cons_succ]
  refine wpAnyZ_take 9 (.agg #[.int .i64 (d.k : Int), .slice d.XA (d.k * d.k) d.xc, .slice d.YA d.k d.yc, .int .i64 (d.k : Int), .slice d.XB (d.k * d.k) d.xd, .slice d.YB d.k d.yd]) rfl (by kernel_rfl) (by kernel_rfl) (fun _ _ _ h => h) (by rfl) (fun _ hS => by have q0 := (hS.cell (p := ⟨gP, 0, none⟩) hgPw).trans cp0; have q1 := (hS.cell (p := ⟨gP, 1, none⟩) hgPw).trans cp1; have q2 := (hS.cell (p := ⟨gP, 2, none⟩) hgPw).trans cp2; have q3 := (hS.cell (p := ⟨gP, 3, none⟩) hgPw).trans cp3; have q4 := (hS.cell (p := ⟨gP, 4, none⟩) hgPw).trans cp4; have q5 := (hS.cell (p := ⟨gP, 5, none⟩) hgPw).trans cp5; clear hS; first | (simp [go_sem, q0, q1, q2, q3, q4, q5]; done) | go_simp) hS0 ?_
  try simp only [Act.put, List.setIfInBounds_toArray, List.set_cons_zero, List.set_cons_succ, List.getElem_toArray, List.getElem_cons_zero, List.getElem_cons_succ]
  refine wpAnyZ_takeW 10 (.int .i64 (cn : Int)) rfl (by kernel_rfl) (by kernel_rfl) (fun _ _ _ h => h) (by rfl) (fun _ => by first | (simp [go_sem]; done) | go_simp) hS0 ?_
  try simp only [Act.put, List.setIfInBounds_toArray, List.set_cons_zero, List.set_cons_succ, List.getElem_toArray, List.getElem_cons_zero, List.getElem_cons_succ]
  refine wpAnyZ_one 5 (by kernel_rfl) rfl (by rfl) (fun K hK => ?_)
  go_simp
  refine (hCol.out V hS0).mono ?_
  rintro e x1 ⟨rfl, b1⟩
  have z1 := hS0.size
  have hS1 := hS0.trans (b1.mono z1)
  clear z1
  go_wp2_with fail
  refine hK.out _ _ hS1 ?_
  clear hK K
  try simp only [Act.put, List.setIfInBounds_toArray, List.set_cons_zero, List.set_cons_succ, List.getElem_toArray, List.getElem_cons_zero, List.getElem_cons_succ]
  refine wpAnyZ_one 6 (by kernel_rfl) rfl (by rfl) (fun K hK => ?_)
  go_simp
  refine (hOf.out x1).mono ?_
  rintro e x2 ⟨rfl, b2⟩
  have z2 := hS1.size
  have hS2 := hS1.trans (b2.mono z2)
  clear z2
  go_wp2_with fail
  refine hK.out _ _ hS2 ?_
  clear hK K
  try simp only [Act.put, List.setIfInBounds_toArray, List.set_cons_zero, List.set_cons_succ, List.getElem_toArray, List.getElem_cons_zero, List.getElem_cons_succ]
  refine wpAnyZ_takeW 7 (.slice UA d.k uc) rfl (by kernel_rfl) (by kernel_rfl) (fun _ _ _ h => h) (by rfl) (fun _ => by simp [go_sem, field_run]) hS2 ?_
  try simp only [Act.put, List.setIfInBounds_toArray, List.set_cons_zero, List.set_cons_succ, List.getElem_toArray, List.getElem_cons_zero, List.getElem_cons_succ]
  refine wpAnyZ_one 11 (by kernel_rfl) rfl (by rfl) (fun K hK => ?_)
  go_simp
  refine (hSW.out x2 hS2).mono ?_
  rintro e x3 ⟨gw, cw, rfl, ow, b3⟩
  have z3 := hS2.size
  have hS3 := hS2.trans (b3.mono z3)
  have how := hide ow
  clear ow
  clear z3
  go_wp2_with fail
  refine hK.out _ _ hS3 ?_
  clear hK K
  try simp only [Act.put, List.setIfInBounds_toArray, List.set_cons_zero, List.set_cons_succ, List.getElem_toArray, List.getElem_cons_zero, List.getElem_cons_succ]
  refine wpAnyZ_one 12 (by kernel_rfl) rfl (by rfl) (fun K hK => ?_)
  go_simp
  refine (hDot.out x3 hS3 gw cw _ _ how.out).mono ?_
  rintro e x4 ⟨rfl, b4⟩
  have z4 := hS3.size
  have hS4 := hS3.trans (b4.mono z4)
  clear z4
  go_wp2_with fail
  refine hK.out _ _ hS4 ?_
  clear hK K
  try simp only [Act.put, List.setIfInBounds_toArray, List.set_cons_zero, List.set_cons_succ, List.getElem_toArray, List.getElem_cons_zero, List.getElem_cons_succ]
  refine wpAnyZ_last (by kernel_rfl) rfl (by kernel_rfl) (by rfl) (fun K hK => ?_)
  go_simp
  refine hK _ _ ?_
  clear hK K
  have hBz := hide hS4
  go_wp2_with fail
  go_ret
  exact ⟨ret_int hdv.out, hB0.out.trans (hBz.out.mono hz0)⟩

theorem impl_isShade (K : Int) (w : World) : Calls Tryz.prog 17 #[.int .i64 K] w fun e w' => e = .returned (.bool (decide (0 ≤ K) && decide (K < 72))) ∧ w = w' := by
  by_cases h0 : 0 ≤ K
  · have hd : decide (0 ≤ K) = true := decide_eq_true h0
    go_enter Tryz.func17, Tryz.ntmps17
    go_wp2
    go_ret
    exact ⟨ret_bool (by simp [h0]), rfl⟩
  · have hd : decide (0 ≤ K) = false := decide_eq_false h0
    have hlt : K < 0 := by omega
    go_enter Tryz.func17, Tryz.ntmps17
    go_wp2
    go_ret
    exact ⟨ret_bool (by simp [h0]), rfl⟩

set_option maxRecDepth 100000 in
set_option maxHeartbeats 8000000 in
theorem impl_ShadedWeight (B : Nat) (d : PairD) (lo hi : Nat) (K : Int) (w : World) (hT : TreeV B w) (hB : B ≤ w.heap.size) (hP : PairR w lo hi d) (hh : hi ≤ w.heap.size) (hok : pairOkF (d.k : Int) d.X0 d.Y0 (d.k : Int) d.X1 d.Y1 = true) :
    Calls Tryz.prog 7 #[.agg #[.int .i64 (d.k : Int), .slice d.XA (d.k * d.k) d.xc, .slice d.YA d.k d.yc, .int .i64 (d.k : Int), .slice d.XB (d.k * d.k) d.xd, .slice d.YB d.k d.yd], .int .i64 K] w fun r w' => r = .returned (.int .i64 (shWt true d.k d.X0 d.Y0 d.X1 d.Y1 K)) ∧ Below w.heap.size w w' := by
  have b0 := below_alloc w (.cells #[.int .i64 (d.k : Int), .slice d.XA (d.k * d.k) d.xc, .slice d.YA d.k d.yc, .int .i64 (d.k : Int), .slice d.XB (d.k * d.k) d.xd, .slice d.YB d.k d.yd] 31)
  have kP0 := hide (BlkN.new w #[.int .i64 (d.k : Int), .slice d.XA (d.k * d.k) d.xc, .slice d.YA d.k d.yc, .int .i64 (d.k : Int), .slice d.XB (d.k * d.k) d.xd, .slice d.YB d.k d.yd] 31)
  have z0 : (w.alloc (.cells #[.int .i64 (d.k : Int), .slice d.XA (d.k * d.k) d.xc, .slice d.YA d.k d.yc, .int .i64 (d.k : Int), .slice d.XB (d.k * d.k) d.xd, .slice d.YB d.k d.yd] 31)).heap.size = w.heap.size + 1 := by simp
  have hPB := hP.below b0 hh
  have hOk := hide (impl_PairOk (d.k : Int) d.XA (d.k * d.k) d.xc d.X0 d.YA d.k d.yc d.Y0 (d.k : Int) d.XB (d.k * d.k) d.xd d.X1 d.YB d.k d.yd d.Y1 lo hi (w.alloc (.cells #[.int .i64 (d.k : Int), .slice d.XA (d.k * d.k) d.xc, .slice d.YA d.k d.yc, .int .i64 (d.k : Int), .slice d.XB (d.k * d.k) d.xd, .slice d.YB d.k d.yd] 31)) hPB.x0 hPB.y0 hPB.x1 hPB.y1 (by omega))
  rw [hok] at hOk
  have HB0 := hide b0
  have HPB := hide hPB
  have HT := hide hT
  clear b0 hPB hP hT
  go_enter Tryz.func7, Tryz.ntmps7
  go_wp2_with fail
  refine hOk.out.mono ?_
  rintro r w1 ⟨rfl, b1⟩
  rw [z0] at b1
  have z1 := b1.size
  have hIs := hide fun W => impl_isShade K W
  have kP1 := hide (kP0.out.same (b1.block w.heap.size (by omega)))
  have hB1 := hide (HB0.out.trans (b1.mono (by omega)))
  have hP1 := hide (HPB.out.below b1 (by omega))
  have hz0 : w.heap.size ≤ w1.heap.size := by omega
  clear b1 kP0 HB0 HPB hOk
  by_cases hK : 0 ≤ K ∧ K < 72
  · have hKb : (decide (0 ≤ K) && decide (K < 72)) = true := by simp [hK]
    rw [hKb] at hIs
    obtain ⟨cn, rfl⟩ : ∃ cn : Nat, K = (cn : Int) := ⟨K.toNat, by omega⟩
    have hcn : cn < 72 := by omega
    have hF : Hid (shWf d (cn : Int) = shWt true d.k d.X0 d.Y0 d.X1 d.Y1 (cn : Int)) := by
      show _ = _
      rw [shWt, shWf, hKb]
      rfl
    clear hK hKb
    go_wp2_with fail
    refine (hIs.out _).mono ?_
    rintro r w2 ⟨rfl, rfl⟩
    go_upto_region 3 with fail
    obtain ⟨gP, hgP⟩ : ∃ g, g = w.heap.size := ⟨_, rfl⟩
    rw [← hgP] at kP1 ⊢
    have hgPw : gP < w1.heap.size := by omega
    clear hgP
    have hK2 := kP1
    have hP2 := hP1
    have hB0 := hB1
    have cp0 := hK2.out.c 0 rfl
    have cp1 := hK2.out.c 1 rfl
    have cp2 := hK2.out.c 2 rfl
    have cp3 := hK2.out.c 3 rfl
    have cp4 := hK2.out.c 4 rfl
    have cp5 := hK2.out.c 5 rfl
    have hAll : Hid (∀ W, Below w1.heap.size w1 W → Calls Tryz.prog 19 #[] W fun e w' => ∃ g c es, e = .returned (.slice (some ⟨g, 0, none⟩) 72 c) ∧ AllS w' W.heap.size w'.heap.size (some ⟨g, 0, none⟩) 72 c es ∧ es.map Sh.key = tabS ∧ Below W.heap.size W w') := fun W hW =>
      impl_shadeAll B W (HT.out.below (hB1.out.trans (hW.mono hz0)) hB) (by have := hW.size; omega)
    clear hK2 kP1 hP1 hB1 hIs z0 z1
    refine wp_region_Z (fun W' => Below w1.heap.size w1 W') 4 (by kernel_rfl) ?_
    simp only [List.size_toArray, List.length_cons, List.length_nil, Nat.reduceAdd]
    have hS0 : Below w1.heap.size w1 w1.drew := (Below.refl w1.heap.size w1).drew
    generalize w1.drew = V at hS0 ⊢
    refine wpAnyZ_take 1 (.agg #[.int .i64 (d.k : Int), .slice d.XA (d.k * d.k) d.xc, .slice d.YA d.k d.yc, .int .i64 (d.k : Int), .slice d.XB (d.k * d.k) d.xd, .slice d.YB d.k d.yd]) rfl (by kernel_rfl) (by kernel_rfl) (fun _ _ _ h => h) (by rfl) (fun _ hS => by have q0 := (hS.cell (p := ⟨gP, 0, none⟩) hgPw).trans cp0; have q1 := (hS.cell (p := ⟨gP, 1, none⟩) hgPw).trans cp1; have q2 := (hS.cell (p := ⟨gP, 2, none⟩) hgPw).trans cp2; have q3 := (hS.cell (p := ⟨gP, 3, none⟩) hgPw).trans cp3; have q4 := (hS.cell (p := ⟨gP, 4, none⟩) hgPw).trans cp4; have q5 := (hS.cell (p := ⟨gP, 5, none⟩) hgPw).trans cp5; clear hS; first | (simp [go_sem, q0, q1, q2, q3, q4, q5]; done) | go_simp) hS0 ?_
    try simp only [Act.put, List.setIfInBounds_toArray, List.set_cons_zero, List.set_cons_succ, List.getElem_toArray, List.getElem_cons_zero, List.getElem_cons_succ]
    refine wpAnyZ_takeW 2 (.int .i64 (cn : Int)) rfl (by kernel_rfl) (by kernel_rfl) (fun _ _ _ h => h) (by rfl) (fun _ => by first | (simp [go_sem]; done) | go_simp) hS0 ?_
    try simp only [Act.put, List.setIfInBounds_toArray, List.set_cons_zero, List.set_cons_succ, List.getElem_toArray, List.getElem_cons_zero, List.getElem_cons_succ]
    refine wpAnyZ_one 0 (by kernel_rfl) rfl (by rfl) (fun K hK => ?_)
    go_simp
    refine (hAll.out V hS0).mono ?_
    rintro e x1 ⟨gA, cA, es, rfl, hA, hkey, b1⟩
    have z1 := hS0.size
    have hS1 := hS0.trans (b1.mono z1)
    have HA := hide hA
    have HKey := hide hkey
    clear hA hkey
    clear z1
    go_wp2_with fail
    refine hK.out _ _ hS1 ?_
    clear hK K
    try simp only [Act.put, List.setIfInBounds_toArray, List.set_cons_zero, List.set_cons_succ, List.getElem_toArray, List.getElem_cons_zero, List.getElem_cons_succ]
    refine wpAnyZ_one 3 (by kernel_rfl) rfl (by rfl) (fun K hK => ?_)
    go_simp
    refine (impl_shadedWeight d gA cA es HKey.out _ _ lo hi cn hcn x1 HA.out (hP2.out.below hS1 (by omega)) (Nat.le_refl _) (by have := hS1.size; omega)).mono ?_
    rintro e x2 ⟨rfl, b2⟩
    have z2 := hS1.size
    have hS2 := hS1.trans (b2.mono z2)
    clear z2
    go_wp2_with fail
    refine hK.out _ _ hS2 ?_
    clear hK K
    try simp only [Act.put, List.setIfInBounds_toArray, List.set_cons_zero, List.set_cons_succ, List.getElem_toArray, List.getElem_cons_zero, List.getElem_cons_succ]
    refine wpAnyZ_last (by kernel_rfl) rfl (by kernel_rfl) (by rfl) (fun K hK => ?_)
    go_simp
    refine hK _ _ ?_
    clear hK K
    have hBz := hide hS2
    go_wp2_with fail
    go_ret
    exact ⟨ret_int hF.out, hB0.out.trans (hBz.out.mono hz0)⟩
  · have hKb : (decide (0 ≤ K) && decide (K < 72)) = false := by
      rw [Bool.and_eq_false_iff]
      simp
      omega
    rw [hKb] at hIs
    have hF : Hid (shWt true d.k d.X0 d.Y0 d.X1 d.Y1 K = 0) := by
      show _ = _
      rw [shWt, hKb]
      rfl
    clear hK hKb
    go_wp2_with fail
    refine (hIs.out _).mono ?_
    rintro r w2 ⟨rfl, rfl⟩
    go_wp2_with fail
    go_ret
    exact ⟨ret_int hF.out.symm, hB1.out⟩

/-- where the pair is no pair -/
theorem impl_ShadedWeight_not (s : Int) (A : Option Addr) (n c : Nat) (xs : List Int) (B : Option Addr) (m d : Nat) (ys : List Int) (s' : Int) (A' : Option Addr) (n' c' : Nat) (xs' : List Int) (B' : Option Addr) (m' d' : Nat) (ys' : List Int) (lo hi : Nat) (K : Int) (w : World) (h : Ints w lo hi A n c xs) (g : Ints w lo hi B m d ys) (h' : Ints w lo hi A' n' c' xs') (g' : Ints w lo hi B' m' d' ys') (hh : hi ≤ w.heap.size) (hok : pairOkF s xs ys s' xs' ys' = false) :
    Calls Tryz.prog 7 #[.agg #[.int .i64 s, .slice A n c, .slice B m d, .int .i64 s', .slice A' n' c', .slice B' m' d'], .int .i64 K] w fun r w' => r = .returned (.int .i64 0) ∧ Below w.heap.size w w' := by
  have b0 := below_alloc w (.cells #[.int .i64 s, .slice A n c, .slice B m d, .int .i64 s', .slice A' n' c', .slice B' m' d'] 31)
  have hOk := hide (impl_PairOk s A n c xs B m d ys s' A' n' c' xs' B' m' d' ys' lo hi _ (h.below b0 hh) (g.below b0 hh) (h'.below b0 hh) (g'.below b0 hh) (by simp; omega))
  rw [hok] at hOk
  have HB0 := hide b0
  have z0 := b0.size
  clear b0 h g h' g'
  go_enter Tryz.func7, Tryz.ntmps7
  go_wp2_with fail
  refine hOk.out.mono ?_
  rintro r w1 ⟨rfl, b1⟩
  have hB1 := hide (HB0.out.trans (b1.mono z0))
  clear b1
  go_wp2_with fail
  go_ret
  exact ⟨rfl, hB1.out⟩
end Go.Proofs.YthjkdpapadolgaaGreatDoor
