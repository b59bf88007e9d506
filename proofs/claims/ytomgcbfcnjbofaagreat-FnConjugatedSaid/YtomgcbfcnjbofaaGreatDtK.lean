/- The design of a tableau of order four: the reference's walk. -/
import Derived.Test.YtomgcbfcnjbofaaGreatMgZG
namespace Go.Proofs.YtomgcbfcnjbofaaGreat
open Go.RowKit
open List renaming setIfInBounds_toArray → sTA, set_cons_zero → sC0, set_cons_succ → sC1, getElem_toArray → gTA, getElem_cons_zero → gC0, getElem_cons_succ → gC1
open Nat renaming le_refl → lR
set_option linter.unusedSimpArgs false
set_option linter.unusedVariables false
set_option maxRecDepth 20000
theorem keep2 {W W':World} {p q:Addr} {u v:Value} (hb:Below W.heap.size W W') (h:W.cell? p=some u∧W.cell? q=some v):W'.cell? p=some u∧W'.cell? q=some v :=
 ⟨(hb.cell (World.block_lt_of_cell? _ _ h.1)).trans h.1,(hb.cell (World.block_lt_of_cell? _ _ h.2)).trans h.2⟩
theorem stored3 {W:World} {b gr:Nat} {i j:Nat} {u v:Value} (hne:b≠gr) (h:W.cell? ⟨b,i,none⟩=some u∧W.cell? ⟨b,j,none⟩=some v) (v1 v2 v3:Value) :
  (((W.setCell ⟨gr,0,none⟩ v1).setCell ⟨gr,1,none⟩ v2).setCell ⟨gr,2,none⟩ v3).cell? ⟨b,i,none⟩=some u∧(((W.setCell ⟨gr,0,none⟩ v1).setCell ⟨gr,1,none⟩ v2).setCell ⟨gr,2,none⟩ v3).cell? ⟨b,j,none⟩=some v:=by
 have hb:(((W.setCell ⟨gr,0,none⟩ v1).setCell ⟨gr,1,none⟩ v2).setCell ⟨gr,2,none⟩ v3).heap[b]? = W.heap[b]? := ((Below.heap_setCell _ ⟨gr,2,none⟩ _ b hne).trans (Below.heap_setCell _ ⟨gr,1,none⟩ _ b hne)).trans (Below.heap_setCell _ ⟨gr,0,none⟩ _ b hne)
 exact ⟨(World.cell?_of_block (a:=⟨b,i,none⟩) hb).trans h.1,(World.cell?_of_block (a:=⟨b,j,none⟩) hb).trans h.2⟩
theorem Ints2.wideH {w:World} {lo hi hi':Nat} {A:Option Addr} {n c:Nat} {xss:List (List Int)} (h:Ints2 w lo hi A n c xss) (h1:hi≤hi'):Ints2 w lo hi' A n c xss :=
 ⟨h.len,h.cap,h.max,fun hn=>by
  obtain ⟨ad,e,h2,h3,hc⟩:=h.cells hn
  refine ⟨ad,e,h2,by omega,fun j xs hj=>?_⟩
  obtain ⟨B,m,d,e1,e2⟩:=hc j xs hj
  exact ⟨B,m,d,e1,e2.wide (lR _) h1⟩⟩
theorem rows2_lit {W:World} {ga gb:Nat} {xs ys:List Int} (h1:Ints W 0 W.heap.size (some ⟨ga,0,none⟩) 2 2 xs) (h2:Ints W 0 W.heap.size (some ⟨gb,0,none⟩) 2 2 ys) :
  Ints2 (W.alloc (.cells #[.slice (some ⟨ga,0,none⟩) 2 2,.slice (some ⟨gb,0,none⟩) 2 2] 24)) 0 (W.alloc (.cells #[.slice (some ⟨ga,0,none⟩) 2 2,.slice (some ⟨gb,0,none⟩) 2 2] 24)).heap.size (some ⟨W.heap.size,0,none⟩) 2 2 [xs,ys]:=by
 have hb:=below_alloc W (.cells #[.slice (some ⟨ga,0,none⟩) 2 2,.slice (some ⟨gb,0,none⟩) 2 2] 24)
 refine ⟨rfl,lR _,by omega,fun _=>⟨⟨W.heap.size,0,none⟩,rfl,Nat.zero_le _,by simp,fun j zs hj=>?_⟩⟩
 have hz:=hb.size
 match j,hj with
 | 0,hj =>
  injection hj with hj
  subst hj
  exact ⟨_,2,2,by rw [Addr.add_lit];exact lit_cells (vs:=[.slice (some ⟨ga,0,none⟩) 2 2,.slice (some ⟨gb,0,none⟩) 2 2]) 0 _ rfl,(h1.below hb (lR _)).wide (lR _) hz⟩
 | 1,hj =>
  injection hj with hj
  subst hj
  exact ⟨_,2,2,by rw [Addr.add_lit];exact lit_cells (vs:=[.slice (some ⟨ga,0,none⟩) 2 2,.slice (some ⟨gb,0,none⟩) 2 2]) 1 _ rfl,(h2.below hb (lR _)).wide (lR _) hz⟩
 | j+2,hj=>cases hj
theorem len_four {xs:List Int} (h:xs.length=4):∃ a b c d,xs=[a,b,c,d]:=by
 match xs,h with
 | [a,b,c,d],_=>exact ⟨a,b,c,d,rfl⟩
theorem len_twoI {xs:List Int} (h:xs.length=2):∃ a b,xs=[a,b]:=by
 match xs,h with
 | [a,b],_=>exact ⟨a,b,rfl⟩
theorem cellI {w:World} {lo hi g n c:Nat} {xs:List Int} (h:Ints w lo hi (some ⟨g,0,none⟩) n c xs) {j:Nat} {x:Int} (hx:xs[j]? = some x):w.cell? ⟨g,j,none⟩=some (.int .i64 x):=by
 have hj:=(List.getElem?_eq_some_iff.1 hx).1
 have hl:=h.len
 obtain ⟨ad,e,_,_,hc⟩:=h.cells (by omega)
 injection e with e
 subst e
 have:=hc j x hx
 rwa [Addr.add_lit,Nat.zero_add] at this
set_option maxRecDepth 100000 in
set_option maxHeartbeats 8000000 in
theorem spec_ExplicitFour (c2 c3:Int) (w:World) (h2:0≤c2∧c2<1000000271) (h3:0≤c3∧c3<1000000271) :
  Calls Tryz.prog 54 #[.int .i64 c2,.int .i64 c3] w fun e w'=>∃ s2 A n c xs B m d ys b,e = .returned (.tuple #[.agg #[.int .i64 s2,.slice A n c,.slice B m d],.bool b])∧n≤100000∧m≤100000∧TabR w w' A n c xs B m d ys∧Below w.heap.size w w':=by
 have b1:=below_alloc w (.cells #[.int .i64 0,.slice none 0 0,.slice none 0 0] 26)
 have k1:=BlkN.new w #[.int .i64 0,.slice none 0 0,.slice none 0 0] 26
 have hnum:∀ x∈[0,c2,c3,1],0≤x∧x<1000000271:=fun x hx=>by
  simp only [List.mem_cons,List.not_mem_nil,or_false] at hx
  rcases hx with rfl | rfl | rfl | rfl <;> omega
 have HNUM:=hide hnum
 have o2:=litsD (w:=w.alloc (.cells #[.int .i64 0,.slice none 0 0,.slice none 0 0] 26)) (xs:=[0,c2,c3,1]) (n:=4) rfl (by omega) (fun x hx=>by have:=hnum x hx;constructor <;> omega)
 have hIC:iCells [0,c2,c3,1] = #[.int .i64 0,.int .i64 c2,.int .i64 c3,.int .i64 1]:=rfl
 rw [hIC] at o2
 have b2:=below_alloc (w.alloc (.cells #[.int .i64 0,.slice none 0 0,.slice none 0 0] 26)) (.cells #[.int .i64 0,.int .i64 c2,.int .i64 c3,.int .i64 1] 3)
 have hN:=hide (allNumF_of hnum)
 clear hnum
 go_enter Tryz.func54,Tryz.ntmps54
 go_wp2_with fail
 obtain ⟨W1,hW1⟩:∃ z,z=w.alloc (.cells #[.int .i64 0,.slice none 0 0,.slice none 0 0] 26):=⟨_,rfl⟩
 rw [show w.heap.size+1=W1.heap.size from by rw [hW1];simp]
 rw [← hW1] at b1 k1 o2 b2 ⊢
 clear hW1
 have z1:=b1.size
 have k2:=k1.below b2
 have b02:=b1.trans (b2.mono z1)
 have z2:=b02.size
 have HI2:=hide o2.ints
 generalize W1.alloc (.cells #[.int .i64 0,.int .i64 c2,.int .i64 c3,.int .i64 1] 3)=W2 at o2 b2 k2 b02 z2 HI2 ⊢
 obtain ⟨gn,hgn⟩:∃ z,z=W1.heap.size:=⟨_,rfl⟩
 rw [← hgn] at HI2 ⊢
 clear hgn o2 k1 b1 b2
 refine (spec_l7DifferentA gn 4 4 [0,c2,c3,1] _ W2.heap.size W2 HI2.out hN.out).mono ?_
 rintro e w3 ⟨bd,rfl,hnd,q3,rfl⟩
 have k3:=k2.below (below_drewN (Below.refl _ W2) q3)
 have b03:=below_drewN b02 q3
 have HI3:=hide (HI2.out.same (w':=W2.drewN q3) (fun _ _ _=>rfl))
 have hz23:W2.heap.size≤(W2.drewN q3).heap.size:=lR _
 generalize W2.drewN q3=W3 at k3 b03 HI3 hz23 ⊢
 cases bd with
 | false =>
  have U1:=k3.c 0 rfl
  have U2:=k3.c 1 rfl
  have U3:=k3.c 2 rfl
  have V1:=k3.f 0
  have V2:=k3.f 1
  have V3:=k3.f 2
  have zk:=k3.lt
  have HB9:=hide (((b03.setCell (p:=⟨w.heap.size,0,none⟩) (lR _) (.int .i64 0)).setCell (p:=⟨w.heap.size,1,none⟩) (lR _) (.slice none 0 0)).setCell (p:=⟨w.heap.size,2,none⟩) (lR _) (.slice none 0 0))
  clear k3 b03 k2 b02 HI2
  go_wp2_with fail
  refine bodyPost_ret (v := .tuple #[.agg #[.int .i64 0,.slice none 0 0,.slice none 0 0],.bool false]) (by simp [results,Tryz.results54,go_sem,U1,U2,U3,V1,V2,V3,zk]) rfl ⟨0,none,0,0,[],none,0,0,[],false,rfl,by omega,by omega,TabR.nil_ _ _,HB9.out⟩
 | true =>
  have hd:=hide (hnd.out rfl)
  have hne:Hid (0<c2∧c3≠1):=by
   have h:=hd.out
   simp at h
   refine ⟨by omega,by omega⟩
  have z3:=b03.size
  go_wp2_with fail
  refine (spec_l7Weights (some ⟨gn,0,none⟩) 4 4 [0,c2,c3,1] 1 _ W2.heap.size W3 HI3.out hz23 (by omega) (by omega) (by constructor <;> omega) (van_goal rfl hd.out HNUM.out 1)).mono ?_
  rintro e w4 ⟨RB,dB,rfl,o4,b4⟩
  have hBr:=hide (sol_rngV (k:=4) (van_num [0,c2,c3,1] 4) (van_len _ _) (goal_len _ _) (goal_rng 1 4))
  obtain ⟨xs4,hx4⟩:∃ z,z=solF 4 (vanM [0,c2,c3,1] 4) (goalL (powGoal 1) 4):=⟨_,rfl⟩
  rw [← hx4] at o4 hBr
  obtain ⟨b0,b1,b2,b3,he4⟩:=len_four o4.len
  subst he4
  clear hx4
  obtain ⟨gB,rfl,hgB1,hgB2,_⟩:=o4.form (by omega)
  have B1:=hBr.out b1 (by simp)
  have B2:=hBr.out b2 (by simp)
  have B3:=hBr.out b3 (by simp)
  have hcB:=o4.capb
  have O4:=hide (o4.wide (lo':=w.heap.size) z3 (lR _))
  have k4:=k3.below b4
  have b04:=b03.trans (b4.mono z3)
  have z4:=b04.size
  have cb1:=cellI o4.ints (j:=1) rfl
  have cb2:=cellI o4.ints (j:=2) rfl
  have cb3:=cellI o4.ints (j:=3) rfl
  have hgBw:w.heap.size<gB:=by have:=k3.lt;omega
  clear o4 hBr k3 b03 b4 z3 HI3 HI2 k2 b02 z2 HNUM hN hd hnd
  by_cases e2:b2=0
  ·subst e2
   have U1:=k4.c 0 rfl
   have U2:=k4.c 1 rfl
   have U3:=k4.c 2 rfl
   have V1:=k4.f 0
   have V2:=k4.f 1
   have V3:=k4.f 2
   have zk:=k4.lt
   have HB9:=hide (((b04.setCell (p:=⟨w.heap.size,0,none⟩) (lR _) (.int .i64 0)).setCell (p:=⟨w.heap.size,1,none⟩) (lR _) (.slice none 0 0)).setCell (p:=⟨w.heap.size,2,none⟩) (lR _) (.slice none 0 0))
   clear k4 b04 O4
   go_wp2_with fail
   refine bodyPost_ret (v := .tuple #[.agg #[.int .i64 0,.slice none 0 0,.slice none 0 0],.bool false]) (by simp [results,Tryz.results54,go_sem,U1,U2,U3,V1,V2,V3,zk]) rfl ⟨0,none,0,0,[],none,0,0,[],false,rfl,by omega,by omega,TabR.nil_ _ _,HB9.out⟩
  by_cases e3:b3=0
  ·subst e3
   have e2':(b2 == 0)=false:=by simpa using e2
   have U1:=k4.c 0 rfl
   have U2:=k4.c 1 rfl
   have U3:=k4.c 2 rfl
   have V1:=k4.f 0
   have V2:=k4.f 1
   have V3:=k4.f 2
   have zk:=k4.lt
   have HB9:=hide (((b04.setCell (p:=⟨w.heap.size,0,none⟩) (lR _) (.int .i64 0)).setCell (p:=⟨w.heap.size,1,none⟩) (lR _) (.slice none 0 0)).setCell (p:=⟨w.heap.size,2,none⟩) (lR _) (.slice none 0 0))
   clear k4 b04 O4
   go_wp2_with fail
   refine bodyPost_ret (v := .tuple #[.agg #[.int .i64 0,.slice none 0 0,.slice none 0 0],.bool false]) (by simp [results,Tryz.results54,go_sem,U1,U2,U3,V1,V2,V3,zk]) rfl ⟨0,none,0,0,[],none,0,0,[],false,rfl,by omega,by omega,TabR.nil_ _ _,HB9.out⟩
  have e2':(b2 == 0)=false:=by simpa using e2
  have e3':(b3 == 0)=false:=by simpa using e3
  have P2:0<b2∧b2<1000000271:=by omega
  have P3:0<b3∧b3<1000000271:=by omega
  have hwc3:=IntWalk.i64_in (1 - c3) (by omega)
  have hwc2:=IntWalk.i64_in (1 - c2) (by omega)
  clear e2 e3
  go_upto_region 7 with fail
  refine wp_region_Z (fun W'=>W'.cell? ⟨gB,2,none⟩=some (.int .i64 b2)∧W'.cell? ⟨gB,3,none⟩=some (.int .i64 b3)) 10 (by kernel_rfl) ?_
  simp only [List.size_toArray,List.length_cons,List.length_nil,Nat.reduceAdd]
  have hS0:w4.drew.cell? ⟨gB,2,none⟩=some (.int .i64 b2)∧w4.drew.cell? ⟨gB,3,none⟩=some (.int .i64 b3):=⟨cb2,cb3⟩
  have k5:=k4.below (Below.refl w4.heap.size w4).drew
  have b05:=b04.drew
  have hz45:w4.heap.size≤w4.drew.heap.size:=lR _
  have O5:=hide ((O4.out.same (w':=w4.drew) (fun _ _ _=>rfl)).wide (lR _) hz45)
  clear hz45
  have cb1':w4.drew.cell? ⟨gB,1,none⟩=some (.int .i64 b1):=cb1
  have hgB3:gB<w4.drew.heap.size:=hgB2
  have z5:=b05.size
  clear k4 b04 O4 cb1 cb2 cb3 hgB2 z4
  generalize w4.drew=V at hS0 k5 b05 O5 cb1' hgB3 z5 ⊢
  refine wpAnyZ_takeW 0 (.slice (some ⟨gB,0,none⟩) 4 dB) rfl (by kernel_rfl) (by kernel_rfl) (fun _ _ _ h=>h) (by rfl) (fun _=>by first | (simp [go_sem];done) | go_simp) hS0 ?_
  try simp only [Act.put,sTA,sC0,sC1,gTA,gC0,gC1]
  refine wpAnyZ_takeW 1 (.pointer (some ⟨gB,2,none⟩)) rfl (by kernel_rfl) (by kernel_rfl) (fun _ _ _ h=>h) (by rfl) (fun _=>by first | (simp [go_sem];done) | go_simp) hS0 ?_
  try simp only [Act.put,sTA,sC0,sC1,gTA,gC0,gC1]
  refine wpAnyZ_take 2 (.int .i64 b2) rfl (by kernel_rfl) (by kernel_rfl) (fun _ _ _ h=>h) (by rfl) (fun _ hS=>by have q0:=hS.1;clear hS;first | (simp [go_sem,q0];done) | go_simp) hS0 ?_
  try simp only [Act.put,sTA,sC0,sC1,gTA,gC0,gC1]
  refine wpAnyZ_takeW 3 (.int .i64 c3) rfl (by kernel_rfl) (by kernel_rfl) (fun _ _ _ h=>h) (by rfl) (fun _=>by first | (simp [go_sem];done) | go_simp) hS0 ?_
  try simp only [Act.put,sTA,sC0,sC1,gTA,gC0,gC1]
  refine wpAnyZ_takeW 4 (.int .i64 (1 - c3)) rfl (by kernel_rfl) (by kernel_rfl) (fun _ _ _ h=>h) (by rfl) (fun _=>by simp [go_sem,hwc3]) hS0 ?_
  try simp only [Act.put,sTA,sC0,sC1,gTA,gC0,gC1]
  refine wpAnyZ_takeW 6 (.slice (some ⟨gB,0,none⟩) 4 dB) rfl (by kernel_rfl) (by kernel_rfl) (fun _ _ _ h=>h) (by rfl) (fun _=>by first | (simp [go_sem];done) | go_simp) hS0 ?_
  try simp only [Act.put,sTA,sC0,sC1,gTA,gC0,gC1]
  refine wpAnyZ_takeW 7 (.pointer (some ⟨gB,3,none⟩)) rfl (by kernel_rfl) (by kernel_rfl) (fun _ _ _ h=>h) (by rfl) (fun _=>by first | (simp [go_sem];done) | go_simp) hS0 ?_
  try simp only [Act.put,sTA,sC0,sC1,gTA,gC0,gC1]
  refine wpAnyZ_take 8 (.int .i64 b3) rfl (by kernel_rfl) (by kernel_rfl) (fun _ _ _ h=>h) (by rfl) (fun _ hS=>by have q0:=hS.2;clear hS;first | (simp [go_sem,q0];done) | go_simp) hS0 ?_
  try simp only [Act.put,sTA,sC0,sC1,gTA,gC0,gC1]
  refine wpAnyZ_one 5 (by kernel_rfl) rfl (by rfl) (fun K hK=>?_)
  go_simp
  refine (spec_Times b2 (1 - c3) V (by constructor <;> omega) (by constructor <;> omega)).mono ?_
  rintro e x1 ⟨rfl,rfl⟩
  have ht1:=timesF_bd b2 (1 - c3)
  go_wp2_with fail
  refine hK.out _ _ hS0 ?_
  clear hK K
  try simp only [Act.put,sTA,sC0,sC1,gTA,gC0,gC1]
  refine wpAnyZ_one 9 (by kernel_rfl) rfl (by rfl) (fun K hK=>?_)
  go_simp
  refine (spec_Fraction (timesF b2 (1 - c3)) b3 V (by constructor <;> omega) (by constructor <;> omega)).mono ?_
  rintro e x1 ⟨rfl,rfl⟩
  go_wp2_with fail
  refine hK.out _ _ hS0 ?_
  clear hK K
  try simp only [Act.put,sTA,sC0,sC1,gTA,gC0,gC1]
  refine wpAnyZ_last (by kernel_rfl) rfl (by kernel_rfl) (by rfl) (fun K hK=>?_)
  go_simp
  refine hK _ _ ?_
  clear hK K
  have ta:=fracF_bd (timesF b2 (1 - c3)) b3
  generalize fracF (timesF b2 (1 - c3)) b3=a43 at ta ⊢
  clear ht1
  go_upto_region 8 with fail
  obtain ⟨w5,hw5⟩:∃ z,z=V:=⟨_,rfl⟩
  subst hw5
  go_cut [9] (fun s9 wx=>∃ gR:Nat,s9 = .slice (some ⟨gR,0,none⟩) 2 2∧Hid (Ints2 wx 0 wx.heap.size (some ⟨gR,0,none⟩) 2 2 [[b2,b3],[timesF b2 (timesF c3 c2),timesF b3 c2]])∧Hid (Below w5.heap.size w5 wx))
  case first =>
   have t1:=timesF_bd c3 c2
   have t2:=timesF_bd b2 (timesF c3 c2)
   have t3:=timesF_bd b3 c2
   refine wp_region_Z (fun W'=>W'.cell? ⟨gB,2,none⟩=some (.int .i64 b2)∧W'.cell? ⟨gB,3,none⟩=some (.int .i64 b3)) 21 (by kernel_rfl) ?_
   simp only [List.size_toArray,List.length_cons,List.length_nil,Nat.reduceAdd]
   have hS1:w5.drew.cell? ⟨gB,2,none⟩=some (.int .i64 b2)∧w5.drew.cell? ⟨gB,3,none⟩=some (.int .i64 b3):=hS0
   have hV0:=(Below.refl w5.heap.size w5).drew
   have hV1:w5.heap.size≤w5.drew.heap.size:=lR _
   clear hS0 k5 b05 O5 cb1'
   generalize w5.drew=V at hS1 hV0 hV1 ⊢
   have hS0:=hS1
   have hB0:=Below.refl V.heap.size V
   clear hS1
   refine wpAnyZ_takeW 0 (.slice (some ⟨gB,0,none⟩) 4 dB) rfl (by kernel_rfl) (by kernel_rfl) (fun _ _ _ h=>h) (by rfl) (fun _=>by first | (simp [go_sem];done) | go_simp) hS0 ?_
   try simp only [Act.put,sTA,sC0,sC1,gTA,gC0,gC1]
   refine wpAnyZ_takeW 1 (.pointer (some ⟨gB,2,none⟩)) rfl (by kernel_rfl) (by kernel_rfl) (fun _ _ _ h=>h) (by rfl) (fun _=>by first | (simp [go_sem];done) | go_simp) hS0 ?_
   try simp only [Act.put,sTA,sC0,sC1,gTA,gC0,gC1]
   refine wpAnyZ_take 2 (.int .i64 b2) rfl (by kernel_rfl) (by kernel_rfl) (fun _ _ _ h=>h) (by rfl) (fun _ hS=>by have q0:=hS.1;clear hS;first | (simp [go_sem,q0];done) | go_simp) hS0 ?_
   try simp only [Act.put,sTA,sC0,sC1,gTA,gC0,gC1]
   refine wpAnyZ_takeW 3 (.slice (some ⟨gB,0,none⟩) 4 dB) rfl (by kernel_rfl) (by kernel_rfl) (fun _ _ _ h=>h) (by rfl) (fun _=>by first | (simp [go_sem];done) | go_simp) hS0 ?_
   try simp only [Act.put,sTA,sC0,sC1,gTA,gC0,gC1]
   refine wpAnyZ_takeW 4 (.pointer (some ⟨gB,3,none⟩)) rfl (by kernel_rfl) (by kernel_rfl) (fun _ _ _ h=>h) (by rfl) (fun _=>by first | (simp [go_sem];done) | go_simp) hS0 ?_
   try simp only [Act.put,sTA,sC0,sC1,gTA,gC0,gC1]
   refine wpAnyZ_take 5 (.int .i64 b3) rfl (by kernel_rfl) (by kernel_rfl) (fun _ _ _ h=>h) (by rfl) (fun _ hS=>by have q0:=hS.2;clear hS;first | (simp [go_sem,q0];done) | go_simp) hS0 ?_
   try simp only [Act.put,sTA,sC0,sC1,gTA,gC0,gC1]
   refine wpAnyZ_takeW 7 (.slice (some ⟨gB,0,none⟩) 4 dB) rfl (by kernel_rfl) (by kernel_rfl) (fun _ _ _ h=>h) (by rfl) (fun _=>by first | (simp [go_sem];done) | go_simp) hS0 ?_
   try simp only [Act.put,sTA,sC0,sC1,gTA,gC0,gC1]
   refine wpAnyZ_takeW 8 (.pointer (some ⟨gB,2,none⟩)) rfl (by kernel_rfl) (by kernel_rfl) (fun _ _ _ h=>h) (by rfl) (fun _=>by first | (simp [go_sem];done) | go_simp) hS0 ?_
   try simp only [Act.put,sTA,sC0,sC1,gTA,gC0,gC1]
   refine wpAnyZ_take 9 (.int .i64 b2) rfl (by kernel_rfl) (by kernel_rfl) (fun _ _ _ h=>h) (by rfl) (fun _ hS=>by have q0:=hS.1;clear hS;first | (simp [go_sem,q0];done) | go_simp) hS0 ?_
   try simp only [Act.put,sTA,sC0,sC1,gTA,gC0,gC1]
   refine wpAnyZ_takeW 10 (.int .i64 c3) rfl (by kernel_rfl) (by kernel_rfl) (fun _ _ _ h=>h) (by rfl) (fun _=>by first | (simp [go_sem];done) | go_simp) hS0 ?_
   try simp only [Act.put,sTA,sC0,sC1,gTA,gC0,gC1]
   refine wpAnyZ_takeW 11 (.int .i64 c2) rfl (by kernel_rfl) (by kernel_rfl) (fun _ _ _ h=>h) (by rfl) (fun _=>by first | (simp [go_sem];done) | go_simp) hS0 ?_
   try simp only [Act.put,sTA,sC0,sC1,gTA,gC0,gC1]
   refine wpAnyZ_takeW 14 (.slice (some ⟨gB,0,none⟩) 4 dB) rfl (by kernel_rfl) (by kernel_rfl) (fun _ _ _ h=>h) (by rfl) (fun _=>by first | (simp [go_sem];done) | go_simp) hS0 ?_
   try simp only [Act.put,sTA,sC0,sC1,gTA,gC0,gC1]
   refine wpAnyZ_takeW 15 (.pointer (some ⟨gB,3,none⟩)) rfl (by kernel_rfl) (by kernel_rfl) (fun _ _ _ h=>h) (by rfl) (fun _=>by first | (simp [go_sem];done) | go_simp) hS0 ?_
   try simp only [Act.put,sTA,sC0,sC1,gTA,gC0,gC1]
   refine wpAnyZ_take 16 (.int .i64 b3) rfl (by kernel_rfl) (by kernel_rfl) (fun _ _ _ h=>h) (by rfl) (fun _ hS=>by have q0:=hS.2;clear hS;first | (simp [go_sem,q0];done) | go_simp) hS0 ?_
   try simp only [Act.put,sTA,sC0,sC1,gTA,gC0,gC1]
   refine wpAnyZ_takeW 17 (.int .i64 c2) rfl (by kernel_rfl) (by kernel_rfl) (fun _ _ _ h=>h) (by rfl) (fun _=>by first | (simp [go_sem];done) | go_simp) hS0 ?_
   try simp only [Act.put,sTA,sC0,sC1,gTA,gC0,gC1]
   refine wpAnyZ_two 6 12 (by kernel_rfl) rfl rfl (by rfl) (by rfl) (fun K hK=>?_) (fun K hK=>?_)
   ·
    go_simp
    have hT1:=keep2 (below_alloc V (.cells #[.int .i64 b2,.int .i64 b3] 3)) hS0
    have hB1:=hB0.trans ((below_alloc V (.cells #[.int .i64 b2,.int .i64 b3] 3)).mono hB0.size)
    have o1:=litsD (w:=V) (xs:=[b2,b3]) (n:=2) rfl (by omega) (fun x hx=>by simp only [List.mem_cons,List.not_mem_nil,or_false] at hx;rcases hx with rfl | rfl <;> exact ⟨by omega,by omega⟩)
    have I1:=hide (o1.ints.wide (lo':=0) (Nat.zero_le _) (lR _))
    clear o1
    refine hK.out _ _ hT1 ?_
    obtain ⟨y1,hy1⟩:∃ z,z=V.alloc (.cells #[.int .i64 b2,.int .i64 b3] 3):=⟨_,rfl⟩
    have hIC1:iCells [b2,b3] = #[.int .i64 b2,.int .i64 b3]:=rfl
    obtain ⟨ga,hga⟩:∃ z,z=V.heap.size:=⟨_,rfl⟩
    rw [hIC1] at I1
    rw [← hy1] at hT1 hB1 I1 ⊢
    rw [← hga] at I1 ⊢
    clear hy1 hIC1 hga
    clear hK K
    try simp only [Act.put,sTA,sC0,sC1,gTA,gC0,gC1]
    refine wpAnyZ_one 12 (by kernel_rfl) rfl (by rfl) (fun K hK=>?_)
    go_simp
    refine (spec_Times c3 c2 y1 (by constructor <;> omega) (by constructor <;> omega)).mono ?_
    rintro e x1 ⟨rfl,rfl⟩
    go_wp2_with fail
    refine hK.out _ _ hT1 ?_
    clear hK K
    try simp only [Act.put,sTA,sC0,sC1,gTA,gC0,gC1]
    refine wpAnyZ_one 13 (by kernel_rfl) rfl (by rfl) (fun K hK=>?_)
    go_simp
    refine (spec_Times b2 (timesF c3 c2) y1 (by constructor <;> omega) (by constructor <;> omega)).mono ?_
    rintro e x1 ⟨rfl,rfl⟩
    go_wp2_with fail
    refine hK.out _ _ hT1 ?_
    clear hK K
    try simp only [Act.put,sTA,sC0,sC1,gTA,gC0,gC1]
    refine wpAnyZ_one 18 (by kernel_rfl) rfl (by rfl) (fun K hK=>?_)
    go_simp
    refine (spec_Times b3 c2 y1 (by constructor <;> omega) (by constructor <;> omega)).mono ?_
    rintro e x1 ⟨rfl,rfl⟩
    go_wp2_with fail
    refine hK.out _ _ hT1 ?_
    clear hK K
    try simp only [Act.put,sTA,sC0,sC1,gTA,gC0,gC1]
    refine wpAnyZ_one 19 (by kernel_rfl) rfl (by rfl) (fun K hK=>?_)
    go_simp
    have hT2:=keep2 (below_alloc y1 (.cells #[.int .i64 (timesF b2 (timesF c3 c2)),.int .i64 (timesF b3 c2)] 3)) hT1
    have hB2:=hB1.trans ((below_alloc y1 (.cells #[.int .i64 (timesF b2 (timesF c3 c2)),.int .i64 (timesF b3 c2)] 3)).mono hB1.size)
    have o2:=litsD (w:=y1) (xs:=[(timesF b2 (timesF c3 c2)),(timesF b3 c2)]) (n:=2) rfl (by omega) (fun x hx=>by simp only [List.mem_cons,List.not_mem_nil,or_false] at hx;rcases hx with rfl | rfl <;> exact ⟨by omega,by omega⟩)
    have I2:=hide (o2.ints.wide (lo':=0) (Nat.zero_le _) (lR _))
    clear o2
    have I1b:=hide ((I1.out.below (below_alloc y1 (.cells #[.int .i64 (timesF b2 (timesF c3 c2)),.int .i64 (timesF b3 c2)] 3)) (lR _)).wide (lR _) (below_alloc y1 (.cells #[.int .i64 (timesF b2 (timesF c3 c2)),.int .i64 (timesF b3 c2)] 3)).size)
    clear I1
    have I1:=I1b
    clear I1b
    refine hK.out _ _ hT2 ?_
    obtain ⟨y2,hy2⟩:∃ z,z=y1.alloc (.cells #[.int .i64 (timesF b2 (timesF c3 c2)),.int .i64 (timesF b3 c2)] 3):=⟨_,rfl⟩
    have hIC2:iCells [(timesF b2 (timesF c3 c2)),(timesF b3 c2)] = #[.int .i64 (timesF b2 (timesF c3 c2)),.int .i64 (timesF b3 c2)]:=rfl
    obtain ⟨gb,hgb⟩:∃ z,z=y1.heap.size:=⟨_,rfl⟩
    rw [hIC2] at I2
    rw [← hy2] at hT2 hB2 I1 I2 ⊢
    rw [← hgb] at I2 ⊢
    clear hy2 hIC2 hgb
    clear hK K
    try simp only [Act.put,sTA,sC0,sC1,gTA,gC0,gC1]
    refine wpAnyZ_one 20 (by kernel_rfl) rfl (by rfl) (fun K hK=>?_)
    go_simp
    have hT3:=keep2 (below_alloc y2 (.cells #[.slice (some ⟨ga,0,none⟩) 2 2,.slice (some ⟨gb,0,none⟩) 2 2] 24)) hT2
    have hB3:=hB2.trans ((below_alloc y2 (.cells #[.slice (some ⟨ga,0,none⟩) 2 2,.slice (some ⟨gb,0,none⟩) 2 2] 24)).mono hB2.size)
    have HR:=hide (rows2_lit I1.out I2.out)
    refine hK.out _ _ hT3 ?_
    clear hK K
    try simp only [Act.put,sTA,sC0,sC1,gTA,gC0,gC1]
    refine wpAnyZ_last (by kernel_rfl) rfl (by kernel_rfl) (by rfl) (fun K hK=>?_)
    go_simp
    refine hK _ _ ?_
    clear hK K
    go_wp2_with fail
    go_meet
    case rel=>exact ⟨_,rfl,HR.out,hV0.trans (hB3.mono hV1)⟩
   ·
    go_simp
    refine (spec_Times c3 c2 V (by constructor <;> omega) (by constructor <;> omega)).mono ?_
    rintro e x1 ⟨rfl,rfl⟩
    go_wp2_with fail
    refine hK.out _ _ hS0 ?_
    clear hK K
    try simp only [Act.put,sTA,sC0,sC1,gTA,gC0,gC1]
    refine wpAnyZ_two 6 13 (by kernel_rfl) rfl rfl (by rfl) (by rfl) (fun K hK=>?_) (fun K hK=>?_)
    ·
     go_simp
     have hT1:=keep2 (below_alloc V (.cells #[.int .i64 b2,.int .i64 b3] 3)) hS0
     have hB1:=hB0.trans ((below_alloc V (.cells #[.int .i64 b2,.int .i64 b3] 3)).mono hB0.size)
     have o1:=litsD (w:=V) (xs:=[b2,b3]) (n:=2) rfl (by omega) (fun x hx=>by simp only [List.mem_cons,List.not_mem_nil,or_false] at hx;rcases hx with rfl | rfl <;> exact ⟨by omega,by omega⟩)
     have I1:=hide (o1.ints.wide (lo':=0) (Nat.zero_le _) (lR _))
     clear o1
     refine hK.out _ _ hT1 ?_
     obtain ⟨y1,hy1⟩:∃ z,z=V.alloc (.cells #[.int .i64 b2,.int .i64 b3] 3):=⟨_,rfl⟩
     have hIC1:iCells [b2,b3] = #[.int .i64 b2,.int .i64 b3]:=rfl
     obtain ⟨ga,hga⟩:∃ z,z=V.heap.size:=⟨_,rfl⟩
     rw [hIC1] at I1
     rw [← hy1] at hT1 hB1 I1 ⊢
     rw [← hga] at I1 ⊢
     clear hy1 hIC1 hga
     clear hK K
     try simp only [Act.put,sTA,sC0,sC1,gTA,gC0,gC1]
     refine wpAnyZ_one 13 (by kernel_rfl) rfl (by rfl) (fun K hK=>?_)
     go_simp
     refine (spec_Times b2 (timesF c3 c2) y1 (by constructor <;> omega) (by constructor <;> omega)).mono ?_
     rintro e x1 ⟨rfl,rfl⟩
     go_wp2_with fail
     refine hK.out _ _ hT1 ?_
     clear hK K
     try simp only [Act.put,sTA,sC0,sC1,gTA,gC0,gC1]
     refine wpAnyZ_one 18 (by kernel_rfl) rfl (by rfl) (fun K hK=>?_)
     go_simp
     refine (spec_Times b3 c2 y1 (by constructor <;> omega) (by constructor <;> omega)).mono ?_
     rintro e x1 ⟨rfl,rfl⟩
     go_wp2_with fail
     refine hK.out _ _ hT1 ?_
     clear hK K
     try simp only [Act.put,sTA,sC0,sC1,gTA,gC0,gC1]
     refine wpAnyZ_one 19 (by kernel_rfl) rfl (by rfl) (fun K hK=>?_)
     go_simp
     have hT2:=keep2 (below_alloc y1 (.cells #[.int .i64 (timesF b2 (timesF c3 c2)),.int .i64 (timesF b3 c2)] 3)) hT1
     have hB2:=hB1.trans ((below_alloc y1 (.cells #[.int .i64 (timesF b2 (timesF c3 c2)),.int .i64 (timesF b3 c2)] 3)).mono hB1.size)
     have o2:=litsD (w:=y1) (xs:=[(timesF b2 (timesF c3 c2)),(timesF b3 c2)]) (n:=2) rfl (by omega) (fun x hx=>by simp only [List.mem_cons,List.not_mem_nil,or_false] at hx;rcases hx with rfl | rfl <;> exact ⟨by omega,by omega⟩)
     have I2:=hide (o2.ints.wide (lo':=0) (Nat.zero_le _) (lR _))
     clear o2
     have I1b:=hide ((I1.out.below (below_alloc y1 (.cells #[.int .i64 (timesF b2 (timesF c3 c2)),.int .i64 (timesF b3 c2)] 3)) (lR _)).wide (lR _) (below_alloc y1 (.cells #[.int .i64 (timesF b2 (timesF c3 c2)),.int .i64 (timesF b3 c2)] 3)).size)
     clear I1
     have I1:=I1b
     clear I1b
     refine hK.out _ _ hT2 ?_
     obtain ⟨y2,hy2⟩:∃ z,z=y1.alloc (.cells #[.int .i64 (timesF b2 (timesF c3 c2)),.int .i64 (timesF b3 c2)] 3):=⟨_,rfl⟩
     have hIC2:iCells [(timesF b2 (timesF c3 c2)),(timesF b3 c2)] = #[.int .i64 (timesF b2 (timesF c3 c2)),.int .i64 (timesF b3 c2)]:=rfl
     obtain ⟨gb,hgb⟩:∃ z,z=y1.heap.size:=⟨_,rfl⟩
     rw [hIC2] at I2
     rw [← hy2] at hT2 hB2 I1 I2 ⊢
     rw [← hgb] at I2 ⊢
     clear hy2 hIC2 hgb
     clear hK K
     try simp only [Act.put,sTA,sC0,sC1,gTA,gC0,gC1]
     refine wpAnyZ_one 20 (by kernel_rfl) rfl (by rfl) (fun K hK=>?_)
     go_simp
     have hT3:=keep2 (below_alloc y2 (.cells #[.slice (some ⟨ga,0,none⟩) 2 2,.slice (some ⟨gb,0,none⟩) 2 2] 24)) hT2
     have hB3:=hB2.trans ((below_alloc y2 (.cells #[.slice (some ⟨ga,0,none⟩) 2 2,.slice (some ⟨gb,0,none⟩) 2 2] 24)).mono hB2.size)
     have HR:=hide (rows2_lit I1.out I2.out)
     refine hK.out _ _ hT3 ?_
     clear hK K
     try simp only [Act.put,sTA,sC0,sC1,gTA,gC0,gC1]
     refine wpAnyZ_last (by kernel_rfl) rfl (by kernel_rfl) (by rfl) (fun K hK=>?_)
     go_simp
     refine hK _ _ ?_
     clear hK K
     go_wp2_with fail
     go_meet
     case rel=>exact ⟨_,rfl,HR.out,hV0.trans (hB3.mono hV1)⟩
    ·
     go_simp
     refine (spec_Times b2 (timesF c3 c2) V (by constructor <;> omega) (by constructor <;> omega)).mono ?_
     rintro e x1 ⟨rfl,rfl⟩
     go_wp2_with fail
     refine hK.out _ _ hS0 ?_
     clear hK K
     try simp only [Act.put,sTA,sC0,sC1,gTA,gC0,gC1]
     refine wpAnyZ_two 6 18 (by kernel_rfl) rfl rfl (by rfl) (by rfl) (fun K hK=>?_) (fun K hK=>?_)
     ·
      go_simp
      have hT1:=keep2 (below_alloc V (.cells #[.int .i64 b2,.int .i64 b3] 3)) hS0
      have hB1:=hB0.trans ((below_alloc V (.cells #[.int .i64 b2,.int .i64 b3] 3)).mono hB0.size)
      have o1:=litsD (w:=V) (xs:=[b2,b3]) (n:=2) rfl (by omega) (fun x hx=>by simp only [List.mem_cons,List.not_mem_nil,or_false] at hx;rcases hx with rfl | rfl <;> exact ⟨by omega,by omega⟩)
      have I1:=hide (o1.ints.wide (lo':=0) (Nat.zero_le _) (lR _))
      clear o1
      refine hK.out _ _ hT1 ?_
      obtain ⟨y1,hy1⟩:∃ z,z=V.alloc (.cells #[.int .i64 b2,.int .i64 b3] 3):=⟨_,rfl⟩
      have hIC1:iCells [b2,b3] = #[.int .i64 b2,.int .i64 b3]:=rfl
      obtain ⟨ga,hga⟩:∃ z,z=V.heap.size:=⟨_,rfl⟩
      rw [hIC1] at I1
      rw [← hy1] at hT1 hB1 I1 ⊢
      rw [← hga] at I1 ⊢
      clear hy1 hIC1 hga
      clear hK K
      try simp only [Act.put,sTA,sC0,sC1,gTA,gC0,gC1]
      refine wpAnyZ_one 18 (by kernel_rfl) rfl (by rfl) (fun K hK=>?_)
      go_simp
      refine (spec_Times b3 c2 y1 (by constructor <;> omega) (by constructor <;> omega)).mono ?_
      rintro e x1 ⟨rfl,rfl⟩
      go_wp2_with fail
      refine hK.out _ _ hT1 ?_
      clear hK K
      try simp only [Act.put,sTA,sC0,sC1,gTA,gC0,gC1]
      refine wpAnyZ_one 19 (by kernel_rfl) rfl (by rfl) (fun K hK=>?_)
      go_simp
      have hT2:=keep2 (below_alloc y1 (.cells #[.int .i64 (timesF b2 (timesF c3 c2)),.int .i64 (timesF b3 c2)] 3)) hT1
      have hB2:=hB1.trans ((below_alloc y1 (.cells #[.int .i64 (timesF b2 (timesF c3 c2)),.int .i64 (timesF b3 c2)] 3)).mono hB1.size)
      have o2:=litsD (w:=y1) (xs:=[(timesF b2 (timesF c3 c2)),(timesF b3 c2)]) (n:=2) rfl (by omega) (fun x hx=>by simp only [List.mem_cons,List.not_mem_nil,or_false] at hx;rcases hx with rfl | rfl <;> exact ⟨by omega,by omega⟩)
      have I2:=hide (o2.ints.wide (lo':=0) (Nat.zero_le _) (lR _))
      clear o2
      have I1b:=hide ((I1.out.below (below_alloc y1 (.cells #[.int .i64 (timesF b2 (timesF c3 c2)),.int .i64 (timesF b3 c2)] 3)) (lR _)).wide (lR _) (below_alloc y1 (.cells #[.int .i64 (timesF b2 (timesF c3 c2)),.int .i64 (timesF b3 c2)] 3)).size)
      clear I1
      have I1:=I1b
      clear I1b
      refine hK.out _ _ hT2 ?_
      obtain ⟨y2,hy2⟩:∃ z,z=y1.alloc (.cells #[.int .i64 (timesF b2 (timesF c3 c2)),.int .i64 (timesF b3 c2)] 3):=⟨_,rfl⟩
      have hIC2:iCells [(timesF b2 (timesF c3 c2)),(timesF b3 c2)] = #[.int .i64 (timesF b2 (timesF c3 c2)),.int .i64 (timesF b3 c2)]:=rfl
      obtain ⟨gb,hgb⟩:∃ z,z=y1.heap.size:=⟨_,rfl⟩
      rw [hIC2] at I2
      rw [← hy2] at hT2 hB2 I1 I2 ⊢
      rw [← hgb] at I2 ⊢
      clear hy2 hIC2 hgb
      clear hK K
      try simp only [Act.put,sTA,sC0,sC1,gTA,gC0,gC1]
      refine wpAnyZ_one 20 (by kernel_rfl) rfl (by rfl) (fun K hK=>?_)
      go_simp
      have hT3:=keep2 (below_alloc y2 (.cells #[.slice (some ⟨ga,0,none⟩) 2 2,.slice (some ⟨gb,0,none⟩) 2 2] 24)) hT2
      have hB3:=hB2.trans ((below_alloc y2 (.cells #[.slice (some ⟨ga,0,none⟩) 2 2,.slice (some ⟨gb,0,none⟩) 2 2] 24)).mono hB2.size)
      have HR:=hide (rows2_lit I1.out I2.out)
      refine hK.out _ _ hT3 ?_
      clear hK K
      try simp only [Act.put,sTA,sC0,sC1,gTA,gC0,gC1]
      refine wpAnyZ_last (by kernel_rfl) rfl (by kernel_rfl) (by rfl) (fun K hK=>?_)
      go_simp
      refine hK _ _ ?_
      clear hK K
      go_wp2_with fail
      go_meet
      case rel=>exact ⟨_,rfl,HR.out,hV0.trans (hB3.mono hV1)⟩
     ·
      go_simp
      refine (spec_Times b3 c2 V (by constructor <;> omega) (by constructor <;> omega)).mono ?_
      rintro e x1 ⟨rfl,rfl⟩
      go_wp2_with fail
      refine hK.out _ _ hS0 ?_
      clear hK K
      try simp only [Act.put,sTA,sC0,sC1,gTA,gC0,gC1]
      refine wpAnyZ_two 6 19 (by kernel_rfl) rfl rfl (by rfl) (by rfl) (fun K hK=>?_) (fun K hK=>?_)
      ·
       go_simp
       have hT1:=keep2 (below_alloc V (.cells #[.int .i64 b2,.int .i64 b3] 3)) hS0
       have hB1:=hB0.trans ((below_alloc V (.cells #[.int .i64 b2,.int .i64 b3] 3)).mono hB0.size)
       have o1:=litsD (w:=V) (xs:=[b2,b3]) (n:=2) rfl (by omega) (fun x hx=>by simp only [List.mem_cons,List.not_mem_nil,or_false] at hx;rcases hx with rfl | rfl <;> exact ⟨by omega,by omega⟩)
       have I1:=hide (o1.ints.wide (lo':=0) (Nat.zero_le _) (lR _))
       clear o1
       refine hK.out _ _ hT1 ?_
       obtain ⟨y1,hy1⟩:∃ z,z=V.alloc (.cells #[.int .i64 b2,.int .i64 b3] 3):=⟨_,rfl⟩
       have hIC1:iCells [b2,b3] = #[.int .i64 b2,.int .i64 b3]:=rfl
       obtain ⟨ga,hga⟩:∃ z,z=V.heap.size:=⟨_,rfl⟩
       rw [hIC1] at I1
       rw [← hy1] at hT1 hB1 I1 ⊢
       rw [← hga] at I1 ⊢
       clear hy1 hIC1 hga
       clear hK K
       try simp only [Act.put,sTA,sC0,sC1,gTA,gC0,gC1]
       refine wpAnyZ_one 19 (by kernel_rfl) rfl (by rfl) (fun K hK=>?_)
       go_simp
       have hT2:=keep2 (below_alloc y1 (.cells #[.int .i64 (timesF b2 (timesF c3 c2)),.int .i64 (timesF b3 c2)] 3)) hT1
       have hB2:=hB1.trans ((below_alloc y1 (.cells #[.int .i64 (timesF b2 (timesF c3 c2)),.int .i64 (timesF b3 c2)] 3)).mono hB1.size)
       have o2:=litsD (w:=y1) (xs:=[(timesF b2 (timesF c3 c2)),(timesF b3 c2)]) (n:=2) rfl (by omega) (fun x hx=>by simp only [List.mem_cons,List.not_mem_nil,or_false] at hx;rcases hx with rfl | rfl <;> exact ⟨by omega,by omega⟩)
       have I2:=hide (o2.ints.wide (lo':=0) (Nat.zero_le _) (lR _))
       clear o2
       have I1b:=hide ((I1.out.below (below_alloc y1 (.cells #[.int .i64 (timesF b2 (timesF c3 c2)),.int .i64 (timesF b3 c2)] 3)) (lR _)).wide (lR _) (below_alloc y1 (.cells #[.int .i64 (timesF b2 (timesF c3 c2)),.int .i64 (timesF b3 c2)] 3)).size)
       clear I1
       have I1:=I1b
       clear I1b
       refine hK.out _ _ hT2 ?_
       obtain ⟨y2,hy2⟩:∃ z,z=y1.alloc (.cells #[.int .i64 (timesF b2 (timesF c3 c2)),.int .i64 (timesF b3 c2)] 3):=⟨_,rfl⟩
       have hIC2:iCells [(timesF b2 (timesF c3 c2)),(timesF b3 c2)] = #[.int .i64 (timesF b2 (timesF c3 c2)),.int .i64 (timesF b3 c2)]:=rfl
       obtain ⟨gb,hgb⟩:∃ z,z=y1.heap.size:=⟨_,rfl⟩
       rw [hIC2] at I2
       rw [← hy2] at hT2 hB2 I1 I2 ⊢
       rw [← hgb] at I2 ⊢
       clear hy2 hIC2 hgb
       clear hK K
       try simp only [Act.put,sTA,sC0,sC1,gTA,gC0,gC1]
       refine wpAnyZ_one 20 (by kernel_rfl) rfl (by rfl) (fun K hK=>?_)
       go_simp
       have hT3:=keep2 (below_alloc y2 (.cells #[.slice (some ⟨ga,0,none⟩) 2 2,.slice (some ⟨gb,0,none⟩) 2 2] 24)) hT2
       have hB3:=hB2.trans ((below_alloc y2 (.cells #[.slice (some ⟨ga,0,none⟩) 2 2,.slice (some ⟨gb,0,none⟩) 2 2] 24)).mono hB2.size)
       have HR:=hide (rows2_lit I1.out I2.out)
       refine hK.out _ _ hT3 ?_
       clear hK K
       try simp only [Act.put,sTA,sC0,sC1,gTA,gC0,gC1]
       refine wpAnyZ_last (by kernel_rfl) rfl (by kernel_rfl) (by rfl) (fun K hK=>?_)
       go_simp
       refine hK _ _ ?_
       clear hK K
       go_wp2_with fail
       go_meet
       case rel=>exact ⟨_,rfl,HR.out,hV0.trans (hB3.mono hV1)⟩
      ·
       go_simp
       have hT1:=keep2 (below_alloc V (.cells #[.int .i64 (timesF b2 (timesF c3 c2)),.int .i64 (timesF b3 c2)] 3)) hS0
       have hB1:=hB0.trans ((below_alloc V (.cells #[.int .i64 (timesF b2 (timesF c3 c2)),.int .i64 (timesF b3 c2)] 3)).mono hB0.size)
       have o1:=litsD (w:=V) (xs:=[(timesF b2 (timesF c3 c2)),(timesF b3 c2)]) (n:=2) rfl (by omega) (fun x hx=>by simp only [List.mem_cons,List.not_mem_nil,or_false] at hx;rcases hx with rfl | rfl <;> exact ⟨by omega,by omega⟩)
       have I2:=hide (o1.ints.wide (lo':=0) (Nat.zero_le _) (lR _))
       clear o1
       refine hK.out _ _ hT1 ?_
       obtain ⟨y1,hy1⟩:∃ z,z=V.alloc (.cells #[.int .i64 (timesF b2 (timesF c3 c2)),.int .i64 (timesF b3 c2)] 3):=⟨_,rfl⟩
       have hIC1:iCells [(timesF b2 (timesF c3 c2)),(timesF b3 c2)] = #[.int .i64 (timesF b2 (timesF c3 c2)),.int .i64 (timesF b3 c2)]:=rfl
       obtain ⟨gb,hgb⟩:∃ z,z=V.heap.size:=⟨_,rfl⟩
       rw [hIC1] at I2
       rw [← hy1] at hT1 hB1 I2 ⊢
       rw [← hgb] at I2 ⊢
       clear hy1 hIC1 hgb
       clear hK K
       try simp only [Act.put,sTA,sC0,sC1,gTA,gC0,gC1]
       refine wpAnyZ_one 6 (by kernel_rfl) rfl (by rfl) (fun K hK=>?_)
       go_simp
       have hT2:=keep2 (below_alloc y1 (.cells #[.int .i64 b2,.int .i64 b3] 3)) hT1
       have hB2:=hB1.trans ((below_alloc y1 (.cells #[.int .i64 b2,.int .i64 b3] 3)).mono hB1.size)
       have o2:=litsD (w:=y1) (xs:=[b2,b3]) (n:=2) rfl (by omega) (fun x hx=>by simp only [List.mem_cons,List.not_mem_nil,or_false] at hx;rcases hx with rfl | rfl <;> exact ⟨by omega,by omega⟩)
       have I1:=hide (o2.ints.wide (lo':=0) (Nat.zero_le _) (lR _))
       clear o2
       have I2b:=hide ((I2.out.below (below_alloc y1 (.cells #[.int .i64 b2,.int .i64 b3] 3)) (lR _)).wide (lR _) (below_alloc y1 (.cells #[.int .i64 b2,.int .i64 b3] 3)).size)
       clear I2
       have I2:=I2b
       clear I2b
       refine hK.out _ _ hT2 ?_
       obtain ⟨y2,hy2⟩:∃ z,z=y1.alloc (.cells #[.int .i64 b2,.int .i64 b3] 3):=⟨_,rfl⟩
       have hIC2:iCells [b2,b3] = #[.int .i64 b2,.int .i64 b3]:=rfl
       obtain ⟨ga,hga⟩:∃ z,z=y1.heap.size:=⟨_,rfl⟩
       rw [hIC2] at I1
       rw [← hy2] at hT2 hB2 I1 I2 ⊢
       rw [← hga] at I1 ⊢
       clear hy2 hIC2 hga
       clear hK K
       try simp only [Act.put,sTA,sC0,sC1,gTA,gC0,gC1]
       refine wpAnyZ_one 20 (by kernel_rfl) rfl (by rfl) (fun K hK=>?_)
       go_simp
       have hT3:=keep2 (below_alloc y2 (.cells #[.slice (some ⟨ga,0,none⟩) 2 2,.slice (some ⟨gb,0,none⟩) 2 2] 24)) hT2
       have hB3:=hB2.trans ((below_alloc y2 (.cells #[.slice (some ⟨ga,0,none⟩) 2 2,.slice (some ⟨gb,0,none⟩) 2 2] 24)).mono hB2.size)
       have HR:=hide (rows2_lit I1.out I2.out)
       refine hK.out _ _ hT3 ?_
       clear hK K
       try simp only [Act.put,sTA,sC0,sC1,gTA,gC0,gC1]
       refine wpAnyZ_last (by kernel_rfl) rfl (by kernel_rfl) (by rfl) (fun K hK=>?_)
       go_simp
       refine hK _ _ ?_
       clear hK K
       go_wp2_with fail
       go_meet
       case rel=>exact ⟨_,rfl,HR.out,hV0.trans (hB3.mono hV1)⟩
  case rest =>
   obtain ⟨gR,rfl,hRows,hbR⟩:=hcut
   have k6:=k5.below hbR.out
   have b06:=b05.trans (hbR.out.mono z5)
   have z6:=b06.size
   have O6:=hide ((O5.out.below hbR.out (lR _)).wide (lR _) hbR.out.size)
   have hgB6:gB<wc.heap.size:=by have:=hbR.out.size;omega
   have hS6:=keep2 hbR.out (And.intro cb1' hS0.2)
   clear hS0 k5 b05 O5 cb1' hgB3 hbR z5
   go_upto_region 9 with fail
   refine wp_region_Z (fun W'=>W'.cell? ⟨gB,1,none⟩=some (.int .i64 b1)∧W'.cell? ⟨gB,3,none⟩=some (.int .i64 b3)) 16 (by kernel_rfl) ?_
   simp only [List.size_toArray,List.length_cons,List.length_nil,Nat.reduceAdd]
   have hS0':wc.drew.cell? ⟨gB,1,none⟩=some (.int .i64 b1)∧wc.drew.cell? ⟨gB,3,none⟩=some (.int .i64 b3):=hS6
   have k7:=k6.below (Below.refl wc.heap.size wc).drew
   have b07:=b06.drew
   have O7:=hide (O6.out.same (w':=wc.drew) (fun _ _ _=>rfl))
   have hRows7:=hide (hRows.out.same (w':=wc.drew) (fun _ _ _=>rfl))
   have hgB7:gB<wc.drew.heap.size:=hgB6
   have z7:=b07.size
   have hrz:wc.heap.size≤wc.drew.heap.size:=lR _
   have O7':=hide (O7.out.wide (lR _) hrz)
   have hRows7':=hide (Ints2.wideH hRows7.out hrz)
   clear hS6 k6 b06 O6 hgB6 z6 hRows O7 hRows7 hrz
   generalize wc.drew=V at hS0' k7 b07 O7' hRows7' hgB7 z7 ⊢
   have hS0:=hS0'
   clear hS0'
   have t4:=timesF_bd b1 (1 - c2)
   have t5:=timesF_bd a43 c3
   have t6:=timesF_bd b3 (timesF a43 c3)
   have t7:=invF_bd 8
   have t8:=minusF_bd (invF 8) (timesF b3 (timesF a43 c3))
   refine wpAnyZ_takeW 0 (.slice (some ⟨gB,0,none⟩) 4 dB) rfl (by kernel_rfl) (by kernel_rfl) (fun _ _ _ h=>h) (by rfl) (fun _=>by first | (simp [go_sem];done) | go_simp) hS0 ?_
   try simp only [Act.put,sTA,sC0,sC1,gTA,gC0,gC1]
   refine wpAnyZ_takeW 1 (.pointer (some ⟨gB,1,none⟩)) rfl (by kernel_rfl) (by kernel_rfl) (fun _ _ _ h=>h) (by rfl) (fun _=>by first | (simp [go_sem];done) | go_simp) hS0 ?_
   try simp only [Act.put,sTA,sC0,sC1,gTA,gC0,gC1]
   refine wpAnyZ_take 2 (.int .i64 b1) rfl (by kernel_rfl) (by kernel_rfl) (fun _ _ _ h=>h) (by rfl) (fun _ hS=>by have q0:=hS.1;clear hS;first | (simp [go_sem,q0];done) | go_simp) hS0 ?_
   try simp only [Act.put,sTA,sC0,sC1,gTA,gC0,gC1]
   refine wpAnyZ_takeW 3 (.int .i64 c2) rfl (by kernel_rfl) (by kernel_rfl) (fun _ _ _ h=>h) (by rfl) (fun _=>by first | (simp [go_sem];done) | go_simp) hS0 ?_
   try simp only [Act.put,sTA,sC0,sC1,gTA,gC0,gC1]
   refine wpAnyZ_takeW 4 (.int .i64 (1 - c2)) rfl (by kernel_rfl) (by kernel_rfl) (fun _ _ _ h=>h) (by rfl) (fun _=>by simp [go_sem,hwc2]) hS0 ?_
   try simp only [Act.put,sTA,sC0,sC1,gTA,gC0,gC1]
   refine wpAnyZ_takeW 7 (.slice (some ⟨gB,0,none⟩) 4 dB) rfl (by kernel_rfl) (by kernel_rfl) (fun _ _ _ h=>h) (by rfl) (fun _=>by first | (simp [go_sem];done) | go_simp) hS0 ?_
   try simp only [Act.put,sTA,sC0,sC1,gTA,gC0,gC1]
   refine wpAnyZ_takeW 8 (.pointer (some ⟨gB,3,none⟩)) rfl (by kernel_rfl) (by kernel_rfl) (fun _ _ _ h=>h) (by rfl) (fun _=>by first | (simp [go_sem];done) | go_simp) hS0 ?_
   try simp only [Act.put,sTA,sC0,sC1,gTA,gC0,gC1]
   refine wpAnyZ_take 9 (.int .i64 b3) rfl (by kernel_rfl) (by kernel_rfl) (fun _ _ _ h=>h) (by rfl) (fun _ hS=>by have q0:=hS.2;clear hS;first | (simp [go_sem,q0];done) | go_simp) hS0 ?_
   try simp only [Act.put,sTA,sC0,sC1,gTA,gC0,gC1]
   refine wpAnyZ_takeW 10 (.int .i64 a43) rfl (by kernel_rfl) (by kernel_rfl) (fun _ _ _ h=>h) (by rfl) (fun _=>by first | (simp [go_sem];done) | go_simp) hS0 ?_
   try simp only [Act.put,sTA,sC0,sC1,gTA,gC0,gC1]
   refine wpAnyZ_takeW 11 (.int .i64 c3) rfl (by kernel_rfl) (by kernel_rfl) (fun _ _ _ h=>h) (by rfl) (fun _=>by first | (simp [go_sem];done) | go_simp) hS0 ?_
   try simp only [Act.put,sTA,sC0,sC1,gTA,gC0,gC1]
   refine wpAnyZ_one 5 (by kernel_rfl) rfl (by rfl) (fun K hK=>?_)
   go_simp
   refine (spec_Times b1 (1 - c2) V (by constructor <;> omega) (by constructor <;> omega)).mono ?_
   rintro e x1 ⟨rfl,rfl⟩
   go_wp2_with fail
   refine hK.out _ _ hS0 ?_
   clear hK K
   try simp only [Act.put,sTA,sC0,sC1,gTA,gC0,gC1]
   refine wpAnyZ_one 6 (by kernel_rfl) rfl (by rfl) (fun K hK=>?_)
   go_simp
   refine (spec_Inverse 8 V (by constructor <;> omega)).mono ?_
   rintro e x1 ⟨rfl,rfl⟩
   go_wp2_with fail
   refine hK.out _ _ hS0 ?_
   clear hK K
   try simp only [Act.put,sTA,sC0,sC1,gTA,gC0,gC1]
   refine wpAnyZ_one 12 (by kernel_rfl) rfl (by rfl) (fun K hK=>?_)
   go_simp
   refine (spec_Times a43 c3 V (by constructor <;> omega) (by constructor <;> omega)).mono ?_
   rintro e x1 ⟨rfl,rfl⟩
   go_wp2_with fail
   refine hK.out _ _ hS0 ?_
   clear hK K
   try simp only [Act.put,sTA,sC0,sC1,gTA,gC0,gC1]
   refine wpAnyZ_one 13 (by kernel_rfl) rfl (by rfl) (fun K hK=>?_)
   go_simp
   refine (spec_Times b3 (timesF a43 c3) V (by constructor <;> omega) (by constructor <;> omega)).mono ?_
   rintro e x1 ⟨rfl,rfl⟩
   go_wp2_with fail
   refine hK.out _ _ hS0 ?_
   clear hK K
   try simp only [Act.put,sTA,sC0,sC1,gTA,gC0,gC1]
   refine wpAnyZ_one 14 (by kernel_rfl) rfl (by rfl) (fun K hK=>?_)
   go_simp
   refine (spec_Minus (invF 8) (timesF b3 (timesF a43 c3)) V (by constructor <;> omega) (by constructor <;> omega)).mono ?_
   rintro e x1 ⟨rfl,rfl⟩
   go_wp2_with fail
   refine hK.out _ _ hS0 ?_
   clear hK K
   try simp only [Act.put,sTA,sC0,sC1,gTA,gC0,gC1]
   refine wpAnyZ_one 15 (by kernel_rfl) rfl (by rfl) (fun K hK=>?_)
   go_simp
   have hT1:=keep2 (below_alloc V (.cells #[.int .i64 (timesF b1 (1 - c2)),.int .i64 (minusF (invF 8) (timesF b3 (timesF a43 c3)))] 3)) hS0
   have HRT:=hide (litsD (w:=V) (xs:=[timesF b1 (1 - c2),minusF (invF 8) (timesF b3 (timesF a43 c3))]) (n:=2) rfl (by omega) (fun x hx=>by simp only [List.mem_cons,List.not_mem_nil,or_false] at hx;rcases hx with rfl | rfl <;> exact ⟨by omega,by omega⟩))
   have HBT:=hide (below_alloc V (.cells #[.int .i64 (timesF b1 (1 - c2)),.int .i64 (minusF (invF 8) (timesF b3 (timesF a43 c3)))] 3))
   have hIC:iCells [timesF b1 (1 - c2),minusF (invF 8) (timesF b3 (timesF a43 c3))] = #[.int .i64 (timesF b1 (1 - c2)),.int .i64 (minusF (invF 8) (timesF b3 (timesF a43 c3)))]:=rfl
   rw [hIC] at HRT
   refine hK.out _ _ hT1 ?_
   clear hK K
   try simp only [Act.put,sTA,sC0,sC1,gTA,gC0,gC1]
   refine wpAnyZ_last (by kernel_rfl) rfl (by kernel_rfl) (by rfl) (fun K hK=>?_)
   go_simp
   refine hK _ _ ?_
   clear hK K hT1 hIC
   have k8:=k7.below HBT.out
   have b08:=b07.trans (HBT.out.mono z7)
   have O8:=hide ((O7'.out.below HBT.out (lR _)).wide (lR _) HBT.out.size)
   have hRows8:=hide (hRows7'.out.below HBT.out (lR _))
   have hzV:=HBT.out.size
   have z8:=b08.size
   have hFull:=hide (four_full (b2:=b2) (b3:=b3) (c2:=c2) (c3:=c3) (y:=timesF b1 (1 - c2)) (z:=minusF (invF 8) (timesF b3 (timesF a43 c3))) P2 P3 (by have:=hne.out.1;omega) h3 hne.out.2 t4 t8)
   have hNM:Hid (NumM 2 [[b2,b3],[timesF b2 (timesF c3 c2),timesF b3 c2]]):=by
    intro r hr
    simp only [List.mem_cons,List.not_mem_nil,or_false] at hr
    rcases hr with rfl | rfl
    ·refine ⟨rfl,fun x hx=>?_⟩
     simp only [List.mem_cons,List.not_mem_nil,or_false] at hx
     rcases hx with rfl | rfl <;> omega
    ·refine ⟨rfl,fun x hx=>?_⟩
     simp only [List.mem_cons,List.not_mem_nil,or_false] at hx
     rcases hx with rfl | rfl <;> exact timesF_bd _ _
   have hYr:Hid (∀ y∈[timesF b1 (1 - c2),minusF (invF 8) (timesF b3 (timesF a43 c3))],0≤y∧y<1000000271):=by
    intro x hx
    simp only [List.mem_cons,List.not_mem_nil,or_false] at hx
    rcases hx with rfl | rfl <;> assumption
   obtain ⟨gt,hgt⟩:∃ z,z=V.heap.size:=⟨_,rfl⟩
   have HRT2:=hide HRT.out.ints
   generalize V.alloc (.cells #[.int .i64 (timesF b1 (1 - c2)),.int .i64 (minusF (invF 8) (timesF b3 (timesF a43 c3)))] 3)=W8 at HRT2 k8 b08 O8 hRows8 z8 hzV ⊢
   rw [← hgt] at HRT2 ⊢
   clear HRT HBT hgt k7 b07 O7' hRows7' z7 hS0 t5 t6 t7
   go_wp2_with fail
   refine (spec_SolveSystem gR 2 2 [[b2,b3],[timesF b2 (timesF c3 c2),timesF b3 c2]] gt 2 [timesF b1 (1 - c2),minusF (invF 8) (timesF b3 (timesF a43 c3))] _ _ _ _ W8 hRows8.out hNM.out HRT2.out hYr.out hzV (lR _) (by omega) (by omega) hFull.out).mono ?_
   rintro e w9 ⟨C,dx,rfl,o9,b9⟩
   have hXr:=hide (sol_rngV (k:=2) hNM.out rfl rfl hYr.out)
   obtain ⟨xs2,hx2⟩:∃ z,z=solF 2 [[b2,b3],[timesF b2 (timesF c3 c2),timesF b3 c2]] [timesF b1 (1 - c2),minusF (invF 8) (timesF b3 (timesF a43 c3))]:=⟨_,rfl⟩
   rw [← hx2] at o9 hXr
   obtain ⟨x0,x1,he2⟩:=len_twoI o9.len
   subst he2
   clear hx2 hFull hNM hYr HRT2 hRows8
   obtain ⟨gx,rfl,hgx1,hgx2,_⟩:=o9.form (by omega)
   have X0:=hXr.out x0 (by simp)
   have X1:=hXr.out x1 (by simp)
   have hcx:=o9.capb
   have k9':=k8.below b9
   have b09:=b08.trans (b9.mono z8)
   have O9:=hide ((O8.out.below b9 (lR _)).wide (lR _) b9.size)
   have hgB9:gB<w9.heap.size:=by have:=b9.size;omega
   have cx0:=cellI o9.ints (j:=0) rfl
   have cx1:=cellI o9.ints (j:=1) rfl
   have hgxr:gx≠w.heap.size:=by omega
   have z9:=b09.size
   clear k8 b08 O8 b9 o9 hXr t4 t8 hzV z8 hgB7
   have hwa:=plusF_bd x1 a43
   have hwb:=minusF_bd 1 (plusF x1 a43)
   go_wp2_with (first
    | (go_at_call 88;refine (spec_Plus x1 a43 _ (by constructor <;> omega) (by constructor <;> omega)).mono ?_;rintro e w' ⟨rfl,rfl⟩)
    | (go_at_call 30;refine (spec_Minus 1 (plusF x1 a43) _ (by constructor <;> omega) (by constructor <;> omega)).mono ?_;rintro e w' ⟨rfl,rfl⟩;go_upto_region 12 with fail))
   obtain ⟨a41,ha41⟩:∃ z,z=minusF 1 (plusF x1 a43):=⟨_,rfl⟩
   rw [← ha41] at hwb ⊢
   clear ha41 hwa
   refine wp_region_Z (fun W'=>W'.cell? ⟨gx,0,none⟩=some (.int .i64 x0)∧W'.cell? ⟨gx,1,none⟩=some (.int .i64 x1)) 18 (by kernel_rfl) ?_
   simp only [List.size_toArray,List.length_cons,List.length_nil,Nat.reduceAdd]
   have hS0':w9.drew.cell? ⟨gx,0,none⟩=some (.int .i64 x0)∧w9.drew.cell? ⟨gx,1,none⟩=some (.int .i64 x1):=⟨cx0,cx1⟩
   have k9:=k9'.below (Below.refl w9.heap.size w9).drew
   have b10:=b09.drew
   have hz910:w9.heap.size≤w9.drew.heap.size:=lR _
   have O10:=hide ((O9.out.same (w':=w9.drew) (fun _ _ _=>rfl)).wide (lR _) hz910)
   have hgB10:gB<w9.drew.heap.size:=hgB9
   have z10:=b10.size
   clear cx0 cx1 k9' b09 O9 hz910 hgB9 z9
   generalize w9.drew=V at hS0' k9 b10 O10 hgB10 z10 ⊢
   have hS0:=hS0'
   have zk:=k9.lt
   clear hS0'
   refine wpAnyZ_takeW 0 (.int .i64 c2) rfl (by kernel_rfl) (by kernel_rfl) (fun _ _ _ h=>h) (by rfl) (fun _=>by first | (simp [go_sem];done) | go_simp) hS0 ?_
   try simp only [Act.put,sTA,sC0,sC1,gTA,gC0,gC1]
   refine wpAnyZ_takeW 1 (.int .i64 c3) rfl (by kernel_rfl) (by kernel_rfl) (fun _ _ _ h=>h) (by rfl) (fun _=>by first | (simp [go_sem];done) | go_simp) hS0 ?_
   try simp only [Act.put,sTA,sC0,sC1,gTA,gC0,gC1]
   refine wpAnyZ_takeW 2 (.slice (some ⟨gx,0,none⟩) 2 dx) rfl (by kernel_rfl) (by kernel_rfl) (fun _ _ _ h=>h) (by rfl) (fun _=>by first | (simp [go_sem];done) | go_simp) hS0 ?_
   try simp only [Act.put,sTA,sC0,sC1,gTA,gC0,gC1]
   refine wpAnyZ_takeW 3 (.pointer (some ⟨gx,0,none⟩)) rfl (by kernel_rfl) (by kernel_rfl) (fun _ _ _ h=>h) (by rfl) (fun _=>by first | (simp [go_sem];done) | go_simp) hS0 ?_
   try simp only [Act.put,sTA,sC0,sC1,gTA,gC0,gC1]
   refine wpAnyZ_take 4 (.int .i64 x0) rfl (by kernel_rfl) (by kernel_rfl) (fun _ _ _ h=>h) (by rfl) (fun _ hS=>by have q0:=hS.1;clear hS;first | (simp [go_sem,q0];done) | go_simp) hS0 ?_
   try simp only [Act.put,sTA,sC0,sC1,gTA,gC0,gC1]
   refine wpAnyZ_takeW 6 (.slice (some ⟨gx,0,none⟩) 2 dx) rfl (by kernel_rfl) (by kernel_rfl) (fun _ _ _ h=>h) (by rfl) (fun _=>by first | (simp [go_sem];done) | go_simp) hS0 ?_
   try simp only [Act.put,sTA,sC0,sC1,gTA,gC0,gC1]
   refine wpAnyZ_takeW 7 (.pointer (some ⟨gx,0,none⟩)) rfl (by kernel_rfl) (by kernel_rfl) (fun _ _ _ h=>h) (by rfl) (fun _=>by first | (simp [go_sem];done) | go_simp) hS0 ?_
   try simp only [Act.put,sTA,sC0,sC1,gTA,gC0,gC1]
   refine wpAnyZ_take 8 (.int .i64 x0) rfl (by kernel_rfl) (by kernel_rfl) (fun _ _ _ h=>h) (by rfl) (fun _ hS=>by have q0:=hS.1;clear hS;first | (simp [go_sem,q0];done) | go_simp) hS0 ?_
   try simp only [Act.put,sTA,sC0,sC1,gTA,gC0,gC1]
   refine wpAnyZ_takeW 9 (.int .i64 a41) rfl (by kernel_rfl) (by kernel_rfl) (fun _ _ _ h=>h) (by rfl) (fun _=>by first | (simp [go_sem];done) | go_simp) hS0 ?_
   try simp only [Act.put,sTA,sC0,sC1,gTA,gC0,gC1]
   refine wpAnyZ_takeW 10 (.slice (some ⟨gx,0,none⟩) 2 dx) rfl (by kernel_rfl) (by kernel_rfl) (fun _ _ _ h=>h) (by rfl) (fun _=>by first | (simp [go_sem];done) | go_simp) hS0 ?_
   try simp only [Act.put,sTA,sC0,sC1,gTA,gC0,gC1]
   refine wpAnyZ_takeW 11 (.pointer (some ⟨gx,1,none⟩)) rfl (by kernel_rfl) (by kernel_rfl) (fun _ _ _ h=>h) (by rfl) (fun _=>by first | (simp [go_sem];done) | go_simp) hS0 ?_
   try simp only [Act.put,sTA,sC0,sC1,gTA,gC0,gC1]
   refine wpAnyZ_take 12 (.int .i64 x1) rfl (by kernel_rfl) (by kernel_rfl) (fun _ _ _ h=>h) (by rfl) (fun _ hS=>by have q0:=hS.2;clear hS;first | (simp [go_sem,q0];done) | go_simp) hS0 ?_
   try simp only [Act.put,sTA,sC0,sC1,gTA,gC0,gC1]
   refine wpAnyZ_takeW 13 (.int .i64 a43) rfl (by kernel_rfl) (by kernel_rfl) (fun _ _ _ h=>h) (by rfl) (fun _=>by first | (simp [go_sem];done) | go_simp) hS0 ?_
   try simp only [Act.put,sTA,sC0,sC1,gTA,gC0,gC1]
   refine wpAnyZ_takeW 15 (.slice (some ⟨gB,0,none⟩) 4 dB) rfl (by kernel_rfl) (by kernel_rfl) (fun _ _ _ h=>h) (by rfl) (fun _=>by first | (simp [go_sem];done) | go_simp) hS0 ?_
   try simp only [Act.put,sTA,sC0,sC1,gTA,gC0,gC1]
   refine wpAnyZ_one 5 (by kernel_rfl) rfl (by rfl) (fun K hK=>?_)
   go_simp
   refine (spec_Minus c3 x0 V (by constructor <;> omega) (by constructor <;> omega)).mono ?_
   rintro e y1 ⟨rfl,rfl⟩
   have hmb:=minusF_bd c3 x0
   go_wp2_with fail
   refine hK.out _ _ hS0 ?_
   clear hK K
   try simp only [Act.put,sTA,sC0,sC1,gTA,gC0,gC1]
   refine wpAnyZ_one 14 (by kernel_rfl) rfl (by rfl) (fun K hK=>?_)
   go_simp
   have hT1:=keep2 (below_alloc V (.cells #[.int .i64 0,.int .i64 0,.int .i64 0,.int .i64 0,.int .i64 c2,.int .i64 0,.int .i64 0,.int .i64 0,.int .i64 (minusF c3 x0),.int .i64 x0,.int .i64 0,.int .i64 0,.int .i64 a41,.int .i64 x1,.int .i64 a43,.int .i64 0] 3)) hS0
   have HA:=hide (litsD (w:=V) (xs:=[0,0,0,0,c2,0,0,0,minusF c3 x0,x0,0,0,a41,x1,a43,0]) (n:=16) rfl (by omega) (fun x hx=>by simp only [List.mem_cons,List.not_mem_nil,or_false] at hx;rcases hx with rfl | rfl | rfl | rfl | rfl | rfl | rfl | rfl | rfl | rfl | rfl | rfl | rfl | rfl | rfl | rfl <;> exact ⟨by omega,by omega⟩))
   have HBA:=hide (below_alloc V (.cells #[.int .i64 0,.int .i64 0,.int .i64 0,.int .i64 0,.int .i64 c2,.int .i64 0,.int .i64 0,.int .i64 0,.int .i64 (minusF c3 x0),.int .i64 x0,.int .i64 0,.int .i64 0,.int .i64 a41,.int .i64 x1,.int .i64 a43,.int .i64 0] 3))
   have hIC:iCells [0,0,0,0,c2,0,0,0,minusF c3 x0,x0,0,0,a41,x1,a43,0] = #[.int .i64 0,.int .i64 0,.int .i64 0,.int .i64 0,.int .i64 c2,.int .i64 0,.int .i64 0,.int .i64 0,.int .i64 (minusF c3 x0),.int .i64 x0,.int .i64 0,.int .i64 0,.int .i64 a41,.int .i64 x1,.int .i64 a43,.int .i64 0]:=rfl
   rw [hIC] at HA
   have kr9:=k9.below (below_alloc V (.cells #[.int .i64 0,.int .i64 0,.int .i64 0,.int .i64 0,.int .i64 c2,.int .i64 0,.int .i64 0,.int .i64 0,.int .i64 (minusF c3 x0),.int .i64 x0,.int .i64 0,.int .i64 0,.int .i64 a41,.int .i64 x1,.int .i64 a43,.int .i64 0] 3))
   have U1:=kr9.c 0 rfl
   have U2:=kr9.c 1 rfl
   have U3:=kr9.c 2 rfl
   have V1:=kr9.f 0
   have V2:=kr9.f 1
   have V3:=kr9.f 2
   clear kr9
   refine hK.out _ _ hT1 ?_
   generalize V.alloc (.cells #[.int .i64 0,.int .i64 0,.int .i64 0,.int .i64 0,.int .i64 c2,.int .i64 0,.int .i64 0,.int .i64 0,.int .i64 (minusF c3 x0),.int .i64 x0,.int .i64 0,.int .i64 0,.int .i64 a41,.int .i64 x1,.int .i64 a43,.int .i64 0] 3)=W9 at hT1 HA HBA U1 U2 U3 V1 V2 V3 ⊢
   clear hK K
   try simp only [Act.put,sTA,sC0,sC1,gTA,gC0,gC1]
   refine wpAnyZ_takeW 16 (.agg #[.int .i64 4,.slice (some ⟨V.heap.size,0,none⟩) 16 16,.slice (some ⟨gB,0,none⟩) 4 dB]) rfl (by kernel_rfl) (by kernel_rfl) (fun _ _ _ h=>h) (by rfl) (fun _=>by first | (simp [go_sem];done) | go_simp) hT1 ?_
   try simp only [Act.put,sTA,sC0,sC1,gTA,gC0,gC1]
   refine wpAnyZ_one 17 (by kernel_rfl) rfl (by rfl) (fun K hK=>?_)
   go_simp
   have hT2:=stored3 hgxr hT1 (.int .i64 4) (.slice (some ⟨V.heap.size,0,none⟩) 16 16) (.slice (some ⟨gB,0,none⟩) 4 dB)
   clear U1 U2 U3 V1 V2 V3
   refine hK.out _ _ hT2 ?_
   clear hK K
   try simp only [Act.put,sTA,sC0,sC1,gTA,gC0,gC1]
   refine wpAnyZ_last (by kernel_rfl) rfl (by kernel_rfl) (by rfl) (fun K hK=>?_)
   go_simp
   refine hK _ _ ?_
   clear hK K hT1 hT2 hIC
   have HD:Hid (TabR w ((((W9.setCell ⟨w.heap.size,0,none⟩ (.int .i64 4)).setCell ⟨w.heap.size,1,none⟩ (.slice (some ⟨V.heap.size,0,none⟩) 16 16)).setCell ⟨w.heap.size,2,none⟩ (.slice (some ⟨gB,0,none⟩) 4 dB))) (some ⟨V.heap.size,0,none⟩) 16 16 [0,0,0,0,c2,0,0,0,minusF c3 x0,x0,0,0,a41,x1,a43,0] (some ⟨gB,0,none⟩) 4 dB [b0,b1,b2,b3]∧Below w.heap.size w ((((W9.setCell ⟨w.heap.size,0,none⟩ (.int .i64 4)).setCell ⟨w.heap.size,1,none⟩ (.slice (some ⟨V.heap.size,0,none⟩) 16 16)).setCell ⟨w.heap.size,2,none⟩ (.slice (some ⟨gB,0,none⟩) 4 dB)))):=by
    have hA:∀ ad,some (⟨V.heap.size,0,none⟩:Addr)=some ad→ad.block≠w.heap.size:=fun ad e=>by injection e with e;subst e;show V.heap.size≠_;omega
    have hB:∀ ad,some (⟨gB,0,none⟩:Addr)=some ad→ad.block≠w.heap.size:=fun ad e=>by injection e with e;subst e;show gB≠_;omega
    have hT:TabR w W9 (some ⟨V.heap.size,0,none⟩) 16 16 [0,0,0,0,c2,0,0,0,minusF c3 x0,x0,0,0,a41,x1,a43,0] (some ⟨gB,0,none⟩) 4 dB [b0,b1,b2,b3]:=⟨HA.out.wide z10 (lR _),(O10.out.below HBA.out (lR _)).wide (lR _) HBA.out.size⟩
    have hb:=b10.trans (HBA.out.mono z10)
    exact ⟨((hT.setCell (p:=⟨w.heap.size,0,none⟩) hA hB _).setCell (p:=⟨w.heap.size,1,none⟩) hA hB _).setCell (p:=⟨w.heap.size,2,none⟩) hA hB _,((hb.setCell (p:=⟨w.heap.size,0,none⟩) (lR _) _).setCell (p:=⟨w.heap.size,1,none⟩) (lR _) _).setCell (p:=⟨w.heap.size,2,none⟩) (lR _) _⟩
   have k11:=k9.below HBA.out
   have U1:=k11.c 0 rfl
   have U2:=k11.c 1 rfl
   have U3:=k11.c 2 rfl
   have V1:=k11.f 0
   have V2:=k11.f 1
   have V3:=k11.f 2
   have zk2:=k11.lt
   clear k9 k11 b10 O10 HA HBA hS0
   go_wp2_with fail
   refine bodyPost_ret (v := .tuple #[.agg #[.int .i64 4,.slice (some ⟨V.heap.size,0,none⟩) 16 16,.slice (some ⟨gB,0,none⟩) 4 dB],.bool true]) (by simp [results,Tryz.results54,go_sem,U1,U2,U3,V1,V2,V3,zk2]) rfl ⟨4,_,16,16,_,_,4,dB,_,true,rfl,by omega,by omega,HD.out.1,HD.out.2⟩
end Go.Proofs.YtomgcbfcnjbofaaGreat
