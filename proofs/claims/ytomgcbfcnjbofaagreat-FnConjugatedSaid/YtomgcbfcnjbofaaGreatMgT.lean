/- The form of two paths of tangents: the program's walk. -/
import Derived.Test.YtomgcbfcnjbofaaGreatMgS
import Derived.Test.YtomgcbfcnjbofaaGreatCjC
import Derived.Test.YtomgcbfcnjbofaaGreatMgK
import Derived.Test.YtomgcbfcnjbofaaGreatMgJ
import Derived.Test.YtomgcbfcnjbofaaGreatMgA
import Derived.Test.YtomgcbfcnjbofaaGreatConjC
import Derived.Test.YtomgcbfcnjbofaaGreatMgG
namespace Go.Proofs.YtomgcbfcnjbofaaGreat
open Go.RowKit
open List renaming setIfInBounds_toArray → sTA, set_cons_zero → sC0, set_cons_succ → sC1, getElem_toArray → gTA, getElem_cons_zero → gC0, getElem_cons_succ → gC1
set_option linter.unusedSimpArgs false
set_option linter.unusedVariables false
set_option maxRecDepth 20000
theorem path_two:∀ yss:List (List Int),(∀ r∈yss,r.length=2∧∀ x∈r,0≤x∧x<1000000271)→pathGo 2 yss=true
 | [],_=>rfl
 | r :: yss,h=>by
  have h2:=h r List.mem_cons_self
  rw [pathGo,if_pos]
  ·exact path_two yss fun r hr=>h r (List.mem_cons_of_mem _ hr)
  ·rw [decide_eq_true (by omega),allNumF_of h2.2];rfl
theorem rows_two {xss:List (List Int)} {n:Nat} (hl:xss.length=n) (h1:1≤n) (h7:n≤7) (hr:∀ r∈xss,r.length=2∧∀ x∈r,0≤x∧x<1000000271):pathOkF xss 2=true:=by
 unfold pathOkF
 rw [path_two xss hr,hl,decide_eq_true h1,decide_eq_true h7]
 rfl
theorem Ints.drewC {w:World} {lo hi n c:Nat} {A:Option Addr} {xs:List Int} (h:Ints w lo hi A n c xs) (hh:hi≤w.heap.size):Ints w.drew 0 w.drew.heap.size A n c xs:=(h.same (w':=w.drew) (fun _ _ _=>rfl)).wide (Nat.zero_le _) hh
theorem addr_zero (a:Addr):a.add 0=a:=by
 obtain ⟨b,o,l⟩:=a
 cases l <;> simp [Addr.add]
theorem map_num {xss:List (List Int)} (hr:∀ r∈xss,r.length=2∧∀ x∈r,0≤x∧x<1000000271) (k:Nat):∀ x∈xss.map (fun r=>r.getD k 0),0≤x∧x<1000000271:=fun x hx=>by
 obtain ⟨r,h1,rfl⟩:=List.mem_map.1 hx
 by_cases hk:k<r.length
 ·rw [List.getD_eq_getElem?_getD,List.getElem?_eq_getElem hk]
  exact (hr r h1).2 _ (List.getElem_mem hk)
 ·rw [List.getD_eq_getElem?_getD,List.getElem?_eq_none (by omega)]
  constructor <;> decide
theorem turn_rows {W:World} {lo hi g c np:Nat} {xss:List (List Int)} (h:Ints2 W lo hi (some ⟨g,0,none⟩) 2 c (turnL xss 2)) (hl:xss.length=np):∃ A0 e0 A1 e1,W.cell? ⟨g,0,none⟩=some (.slice A0 np e0)∧Ints W lo hi A0 np e0 (xss.map fun r=>r.getD 0 0)∧W.cell? ⟨g,1,none⟩=some (.slice A1 np e1)∧Ints W lo hi A1 np e1 (xss.map fun r=>r.getD 1 0):=by
 obtain ⟨ad,A0,m0,e0,r0,ha,hc0,hI0,_,hx0⟩:=h.at_ (k:=0) (by omega)
 injection ha with ha
 subst ha
 have h0:=hx0.out
 rw [turn_at xss (by omega)] at h0
 injection h0 with h0
 subst h0
 obtain rfl:np=m0:=by rw [← hI0.len,List.length_map,hl]
 obtain ⟨ad,A1,m1,e1,r1,ha,hc1,hI1,_,hx1⟩:=h.at_ (k:=1) (by omega)
 injection ha with ha
 subst ha
 have h1:=hx1.out
 rw [turn_at xss (by omega)] at h1
 injection h1 with h1
 subst h1
 obtain rfl:np=m1:=by rw [← hI1.len,List.length_map,hl]
 exact ⟨A0,e0,A1,e1,hc0,hI0,hc1,hI1⟩
set_option maxRecDepth 100000 in
set_option maxHeartbeats 8000000 in
theorem impl_SymplecticForm (A:Option Addr) (np c:Nat) (xss:List (List Int)) (lo hi:Nat) (B:Option Addr) (d:Nat) (yss:List (List Int)) (lo' hi':Nat) (w:World) (h:Ints2 w lo hi A np c xss) (g:Ints2 w lo' hi' B np d yss) (hh:hi≤w.heap.size) (hh':hi'≤w.heap.size)
  (hn1:1≤np) (hn7:np≤7) (hx:∀ r∈xss,r.length=2∧∀ x∈r,0≤x∧x<1000000271) (hy:∀ r∈yss,r.length=2∧∀ x∈r,0≤x∧x<1000000271) :
  Calls Tryz.prog 15 #[.slice A np c,.slice B np d] w fun e w'=>∃ gF,e = .returned (.slice (some ⟨gF,0,none⟩) np np)∧OwnI w' w.heap.size w'.heap.size (some ⟨gF,0,none⟩) np np (formJ np (xss.map fun r=>r.getD 0 0) (xss.map fun r=>r.getD 1 0) (yss.map fun r=>r.getD 0 0) (yss.map fun r=>r.getD 1 0))∧Below w.heap.size w w':=by
 have hcA:=h.cap
 have hmA:=h.max
 have hcB:=g.cap
 have hmB:=g.max
 have hn:np≤1000:=by omega
 have HX:=hide h
 have HY:=hide g
 have HPx:=hide fun W (hI:Ints2 W lo hi A np c xss)=>impl_PathOk A np c xss lo hi 2 W hI
 have HPy:=hide fun W (hI:Ints2 W lo' hi' B np d yss)=>impl_PathOk B np d yss lo' hi' 2 W hI
 rw [rows_two h.len hn1 hn7 hx] at HPx
 rw [rows_two g.len hn1 hn7 hy] at HPy
 have HNx:=hide (map_num hx)
 have HNy:=hide (map_num hy)
 have HLx:=hide (fun r hr=>(Nat.le_of_eq (hx r hr).1.symm:2≤r.length))
 have HLy:=hide (fun r hr=>(Nat.le_of_eq (hy r hr).1.symm:2≤r.length))
 obtain ⟨ad,B0,m0,d0,r0,rfl,hc0,hI0,_,hx0⟩:=h.at_ (k:=0) (by omega)
 obtain rfl:2=m0:=by rw [← hI0.len];exact (hx r0 (List.mem_of_getElem? hx0.out)).1.symm
 have hcap0:=hI0.cap
 have hmax0:=hI0.max
 rw [addr_zero] at hc0
 have h00:((np:Int) == 0)=false:=by simp;omega
 clear h g hx hy hI0 hx0
 go_enter Tryz.func15,Tryz.ntmps15
 go_wp2_with fail
 refine (HPx.out w HX.out).mono ?_
 rintro e w1 ⟨rfl,rfl⟩
 go_wp2_with fail
 refine (HPy.out w HY.out).mono ?_
 rintro e w1 ⟨rfl,rfl⟩
 go_wp2_with fail
 refine (impl_jets _ np c xss lo hi 2 w HX.out hh HLx.out (by omega) (by omega) hn).mono ?_
 rintro e w1 ⟨gA,cA,rfl,hA,b1⟩
 go_wp2_with fail
 refine (impl_jets _ np d yss lo' hi' 2 w1 (HY.out.below b1 hh') (by have:=b1.size;omega) HLy.out (by omega) (by omega) hn).mono ?_
 rintro e w2 ⟨gB,cB,rfl,hB,b2⟩
 have hmk:=make_jet np hn w2
 have z1:=b1.size
 have z2:=b2.size
 have bw2:=hide (b1.trans (b2.mono z1))
 have HO0:=hide (FillS.start w2 np hn).done
 have HA0:=hide (hA.below b2 (Nat.le_refl _))
 have HB0:=hide hB
 have hcA2:=hA.cap
 have hmA2:=hA.max
 have hcB2:=hB.cap
 have hmB2:=hB.max
 have hLx:=hide HX.out.len
 have hLy:=hide HY.out.len
 clear hA hB b1 b2 hc0 HX HY HPx HPy
 have hmk2:(Instr.makeSlice 77 (.int .i64 (np:Int)) (.int .i64 (np:Int))).run Tryz.prog w2 = .ok (.slice (some ⟨w2.heap.size,0,none⟩) np np) (w2.alloc (.cells (zeros np) 3)):=hmk
 clear hmk
 have hA1:=hide (HA0.out.below HO0.out.2 z2)
 have hB1:=hide (HB0.out.below HO0.out.2 (Nat.le_refl _))
 obtain ⟨A0,e0,A1,e1,ca0,ia0,ca1,ia1⟩:=turn_rows hA1.out hLx.out
 obtain ⟨B0,f0,B1,f1,cb0,ib0,cb1,ib1⟩:=turn_rows hB1.out hLy.out
 have zO:w2.heap.size≤(w2.alloc (.cells (zeros np) 3)).heap.size:=HO0.out.2.size
 have hgO:w2.heap.size<(w2.alloc (.cells (zeros np) 3)).heap.size:=by simp
 have hca0:(w2.alloc (.cells (zeros np) 3)).drew.cell? ⟨gA,0,none⟩=some (.slice A0 np e0):=ca0
 have hca1:(w2.alloc (.cells (zeros np) 3)).drew.cell? ⟨gA,1,none⟩=some (.slice A1 np e1):=ca1
 have hcb0:(w2.alloc (.cells (zeros np) 3)).drew.cell? ⟨gB,0,none⟩=some (.slice B0 np f0):=cb0
 have hcb1:(w2.alloc (.cells (zeros np) 3)).drew.cell? ⟨gB,1,none⟩=some (.slice B1 np f1):=cb1
 have HO:=hide (HO0.out.1.ints.drewC (Nat.le_refl _))
 have HA0':=hide (ia0.drewC (Nat.le_trans z2 zO))
 have HA1':=hide (ia1.drewC (Nat.le_trans z2 zO))
 have HB0':=hide (ib0.drewC zO)
 have HB1':=hide (ib1.drewC zO)
 have HW:Hid (Below w.heap.size w (w2.alloc (.cells (zeros np) 3)).drew):=(bw2.out.trans (HO0.out.2.mono bw2.out.size)).drew
 have zW:=HW.out.size
 clear HA0 HB0 hA1 hB1 HO0 ca0 ca1 cb0 cb1 ia0 ia1 ib0 ib1 bw2 zO z1 z2
 have hrem:(2:Int).tmod 2=0:=rfl
 have hquo:(2:Int).tdiv 2=1:=rfl
 go_wp2_with fail
 refine wp_loop_rounds 2 ?_
 rw [rounds_succ]
 go_upto_region 9 with fail
 clear hmk2
 obtain ⟨gO,hgO2⟩:∃ g,g=w2.heap.size:=⟨_,rfl⟩
 rw [← hgO2] at HO ⊢
 refine wp_region_Z (fun W'=>Below (w2.alloc (.cells (zeros np) 3)).drew.heap.size (w2.alloc (.cells (zeros np) 3)).drew W') 25 (by kernel_rfl) ?_
 simp only [List.size_toArray,List.length_cons,List.length_nil,Nat.reduceAdd]
 generalize (w2.alloc (.cells (zeros np) 3)).drew=V at HO HA0' HA1' HB0' HB1' HW zW hca0 hca1 hcb0 hcb1 ⊢
 clear hgO hgO2
 have hw1:IntKind.i64.wrap 1=1:=IntWalk.i64_in _ (by omega)
 have hS0:Below V.heap.size V V:=Below.refl _ _
 have hb0:=Below.refl V.heap.size V
 refine wpAnyZ_takeW 0 (.slice (some ⟨gO,0,none⟩) np np) rfl (by kernel_rfl) (by kernel_rfl) (fun _ _ _ h=>h) (by rfl) (fun _=>by first | (simp [go_sem];done) | go_simp) hS0 ?_
 try simp only [Act.put,sTA,sC0,sC1,gTA,gC0,gC1]
 refine wpAnyZ_takeW 1 (.slice (some ⟨gA,0,none⟩) 2 cA) rfl (by kernel_rfl) (by kernel_rfl) (fun _ _ _ h=>h) (by rfl) (fun _=>by first | (simp [go_sem];done) | go_simp) hS0 ?_
 try simp only [Act.put,sTA,sC0,sC1,gTA,gC0,gC1]
 refine wpAnyZ_takeW 2 (.int .i64 0) rfl (by kernel_rfl) (by kernel_rfl) (fun _ _ _ h=>h) (by rfl) (fun _=>by first | (simp [go_sem];done) | go_simp) hS0 ?_
 try simp only [Act.put,sTA,sC0,sC1,gTA,gC0,gC1]
 refine wpAnyZ_takeW 3 (.pointer (some ⟨gA,0,none⟩)) rfl (by kernel_rfl) (by kernel_rfl) (fun _ _ _ h=>h) (by rfl) (fun _=>by first | (simp [go_sem];done) | go_simp) hS0 ?_
 try simp only [Act.put,sTA,sC0,sC1,gTA,gC0,gC1]
 refine wpAnyZ_take 4 (.slice A0 np e0) rfl (by kernel_rfl) (by kernel_rfl) (fun _ _ _ h=>h) (by rfl) (fun _ hS=>by have q0:=(hS.cell (World.block_lt_of_cell? _ _ hca0)).trans hca0;clear hS;first | (simp [go_sem,q0];done) | go_simp) hS0 ?_
 try simp only [Act.put,sTA,sC0,sC1,gTA,gC0,gC1]
 refine wpAnyZ_takeW 5 (.slice (some ⟨gB,0,none⟩) 2 cB) rfl (by kernel_rfl) (by kernel_rfl) (fun _ _ _ h=>h) (by rfl) (fun _=>by first | (simp [go_sem];done) | go_simp) hS0 ?_
 try simp only [Act.put,sTA,sC0,sC1,gTA,gC0,gC1]
 refine wpAnyZ_takeW 6 (.int .i64 1) rfl (by kernel_rfl) (by kernel_rfl) (fun _ _ _ h=>h) (by rfl) (fun _=>by first | (simp [go_sem];done) | go_simp) hS0 ?_
 try simp only [Act.put,sTA,sC0,sC1,gTA,gC0,gC1]
 refine wpAnyZ_takeW 7 (.int .i64 0) rfl (by kernel_rfl) (by kernel_rfl) (fun _ _ _ h=>h) (by rfl) (fun _=>by first | (simp [go_sem];done) | go_simp) hS0 ?_
 try simp only [Act.put,sTA,sC0,sC1,gTA,gC0,gC1]
 refine wpAnyZ_takeW 8 (.int .i64 1) rfl (by kernel_rfl) (by kernel_rfl) (fun _ _ _ h=>h) (by rfl) (fun _=>by simp [go_sem,hw1]) hS0 ?_
 try simp only [Act.put,sTA,sC0,sC1,gTA,gC0,gC1]
 refine wpAnyZ_takeW 9 (.pointer (some ⟨gB,1,none⟩)) rfl (by kernel_rfl) (by kernel_rfl) (fun _ _ _ h=>h) (by rfl) (fun _=>by first | (simp [go_sem];done) | go_simp) hS0 ?_
 try simp only [Act.put,sTA,sC0,sC1,gTA,gC0,gC1]
 refine wpAnyZ_take 10 (.slice B1 np f1) rfl (by kernel_rfl) (by kernel_rfl) (fun _ _ _ h=>h) (by rfl) (fun _ hS=>by have q0:=(hS.cell (World.block_lt_of_cell? _ _ hcb1)).trans hcb1;clear hS;first | (simp [go_sem,q0];done) | go_simp) hS0 ?_
 try simp only [Act.put,sTA,sC0,sC1,gTA,gC0,gC1]
 refine wpAnyZ_takeW 13 (.slice (some ⟨gA,0,none⟩) 2 cA) rfl (by kernel_rfl) (by kernel_rfl) (fun _ _ _ h=>h) (by rfl) (fun _=>by first | (simp [go_sem];done) | go_simp) hS0 ?_
 try simp only [Act.put,sTA,sC0,sC1,gTA,gC0,gC1]
 refine wpAnyZ_takeW 14 (.int .i64 1) rfl (by kernel_rfl) (by kernel_rfl) (fun _ _ _ h=>h) (by rfl) (fun _=>by first | (simp [go_sem];done) | go_simp) hS0 ?_
 try simp only [Act.put,sTA,sC0,sC1,gTA,gC0,gC1]
 refine wpAnyZ_takeW 15 (.int .i64 0) rfl (by kernel_rfl) (by kernel_rfl) (fun _ _ _ h=>h) (by rfl) (fun _=>by first | (simp [go_sem];done) | go_simp) hS0 ?_
 try simp only [Act.put,sTA,sC0,sC1,gTA,gC0,gC1]
 refine wpAnyZ_takeW 16 (.int .i64 1) rfl (by kernel_rfl) (by kernel_rfl) (fun _ _ _ h=>h) (by rfl) (fun _=>by simp [go_sem,hw1]) hS0 ?_
 try simp only [Act.put,sTA,sC0,sC1,gTA,gC0,gC1]
 refine wpAnyZ_takeW 17 (.pointer (some ⟨gA,1,none⟩)) rfl (by kernel_rfl) (by kernel_rfl) (fun _ _ _ h=>h) (by rfl) (fun _=>by first | (simp [go_sem];done) | go_simp) hS0 ?_
 try simp only [Act.put,sTA,sC0,sC1,gTA,gC0,gC1]
 refine wpAnyZ_take 18 (.slice A1 np e1) rfl (by kernel_rfl) (by kernel_rfl) (fun _ _ _ h=>h) (by rfl) (fun _ hS=>by have q0:=(hS.cell (World.block_lt_of_cell? _ _ hca1)).trans hca1;clear hS;first | (simp [go_sem,q0];done) | go_simp) hS0 ?_
 try simp only [Act.put,sTA,sC0,sC1,gTA,gC0,gC1]
 refine wpAnyZ_takeW 19 (.slice (some ⟨gB,0,none⟩) 2 cB) rfl (by kernel_rfl) (by kernel_rfl) (fun _ _ _ h=>h) (by rfl) (fun _=>by first | (simp [go_sem];done) | go_simp) hS0 ?_
 try simp only [Act.put,sTA,sC0,sC1,gTA,gC0,gC1]
 refine wpAnyZ_takeW 20 (.int .i64 0) rfl (by kernel_rfl) (by kernel_rfl) (fun _ _ _ h=>h) (by rfl) (fun _=>by first | (simp [go_sem];done) | go_simp) hS0 ?_
 try simp only [Act.put,sTA,sC0,sC1,gTA,gC0,gC1]
 refine wpAnyZ_takeW 21 (.pointer (some ⟨gB,0,none⟩)) rfl (by kernel_rfl) (by kernel_rfl) (fun _ _ _ h=>h) (by rfl) (fun _=>by first | (simp [go_sem];done) | go_simp) hS0 ?_
 try simp only [Act.put,sTA,sC0,sC1,gTA,gC0,gC1]
 refine wpAnyZ_take 22 (.slice B0 np f0) rfl (by kernel_rfl) (by kernel_rfl) (fun _ _ _ h=>h) (by rfl) (fun _ hS=>by have q0:=(hS.cell (World.block_lt_of_cell? _ _ hcb0)).trans hcb0;clear hS;first | (simp [go_sem,q0];done) | go_simp) hS0 ?_
 try simp only [Act.put,sTA,sC0,sC1,gTA,gC0,gC1]
 refine wpAnyZ_one 11 (by kernel_rfl) rfl (by rfl) (fun K hK=>?_)
 go_simp
 refine (impl_times A0 np e0 (xss.map fun r=>r.getD 0 0) _ V.heap.size B1 f1 (yss.map fun r=>r.getD 1 0) _ V.heap.size V (HA0'.out.below hb0 (Nat.le_refl _)) (HB1'.out.below hb0 (Nat.le_refl _)) hb0.size hb0.size hn (HNx.out _) (HNy.out _)).mono ?_
 rintro e x1 ⟨gp,rfl,o1,hb1⟩
 have hBV1:=hb0.trans (hb1.mono hb0.size)
 have hR1:=Below.refl x1.heap.size x1
 have hS1:Below V.heap.size V x1:=hBV1
 have Ip:=o1.ints
 go_wp2_with fail
 refine hK.out _ _ hS1 ?_
 clear hK K
 try simp only [Act.put,sTA,sC0,sC1,gTA,gC0,gC1]
 refine wpAnyZ_one 12 (by kernel_rfl) rfl (by rfl) (fun K hK=>?_)
 go_simp
 refine (impl_plus (some ⟨gO,0,none⟩) np np (zeroJ np) _ V.heap.size (some ⟨gp,0,none⟩) np _ _ x1.heap.size 1 x1 (HO.out.below hBV1 (Nat.le_refl _)) (Ip.below hR1 (Nat.le_refl _)) hBV1.size hR1.size hn (by constructor <;> omega)).mono ?_
 rintro e x2 ⟨gs,rfl,o2,hb2⟩
 have hBV2:=hBV1.trans (hb2.mono hBV1.size)
 have hBx12:=hR1.trans (hb2.mono hR1.size)
 have hR2:=Below.refl x2.heap.size x2
 have hS2:Below V.heap.size V x2:=hBV2
 have Is:=o2.ints
 go_wp2_with fail
 refine hK.out _ _ hS2 ?_
 clear hK K
 try simp only [Act.put,sTA,sC0,sC1,gTA,gC0,gC1]
 refine wpAnyZ_one 23 (by kernel_rfl) rfl (by rfl) (fun K hK=>?_)
 go_simp
 refine (impl_times A1 np e1 (xss.map fun r=>r.getD 1 0) _ V.heap.size B0 f0 (yss.map fun r=>r.getD 0 0) _ V.heap.size x2 (HA1'.out.below hBV2 (Nat.le_refl _)) (HB0'.out.below hBV2 (Nat.le_refl _)) hBV2.size hBV2.size hn (HNx.out _) (HNy.out _)).mono ?_
 rintro e x3 ⟨gm,rfl,o3,hb3⟩
 have hBV3:=hBV2.trans (hb3.mono hBV2.size)
 have hBx13:=hBx12.trans (hb3.mono hBx12.size)
 have hBx23:=hR2.trans (hb3.mono hR2.size)
 have hR3:=Below.refl x3.heap.size x3
 have hS3:Below V.heap.size V x3:=hBV3
 have Im:=o3.ints
 go_wp2_with fail
 refine hK.out _ _ hS3 ?_
 clear hK K
 try simp only [Act.put,sTA,sC0,sC1,gTA,gC0,gC1]
 refine wpAnyZ_one 24 (by kernel_rfl) rfl (by rfl) (fun K hK=>?_)
 go_simp
 refine (impl_plus (some ⟨gs,0,none⟩) np np _ _ x2.heap.size (some ⟨gm,0,none⟩) np _ _ x3.heap.size (-1) x3 (Is.below hBx23 (Nat.le_refl _)) (Im.below hR3 (Nat.le_refl _)) hBx23.size hR3.size hn (by constructor <;> omega)).mono ?_
 rintro e x4 ⟨gF,rfl,o4,hb4⟩
 have hBV4:=hBV3.trans (hb4.mono hBV3.size)
 have hBx14:=hBx13.trans (hb4.mono hBx13.size)
 have hBx24:=hBx23.trans (hb4.mono hBx23.size)
 have hBx34:=hR3.trans (hb4.mono hR3.size)
 have hR4:=Below.refl x4.heap.size x4
 have hS4:Below V.heap.size V x4:=hBV4
 have HF:Hid (OwnI x4 V.heap.size x4.heap.size (some ⟨gF,0,none⟩) np np (formJ np (xss.map fun r=>r.getD 0 0) (xss.map fun r=>r.getD 1 0) (yss.map fun r=>r.getD 0 0) (yss.map fun r=>r.getD 1 0))):=⟨owns_low o4.own hBV3.size,o4.lt,o4.rng⟩
 have HBF:=hide hBV4
 go_wp2_with fail
 refine hK.out _ _ hS4 ?_
 clear hK K
 try simp only [Act.put,sTA,sC0,sC1,gTA,gC0,gC1]
 refine wpAnyZ_last (by kernel_rfl) rfl (by kernel_rfl) (by rfl) (fun K hK=>?_)
 go_simp
 refine hK _ _ ?_
 clear hK K
 go_wp2_with fail
 rw [rounds_succ]
 go_wp2_with fail
 go_ret
 exact ⟨gF,rfl,⟨owns_low HF.out.own zW,HF.out.lt,HF.out.rng⟩,HW.out.trans (HBF.out.mono zW)⟩
end Go.Proofs.YtomgcbfcnjbofaaGreat
/- The prime 1000000271 is one, and powers by it leave numbers as they are: what is divided is made whole again. -/
namespace Go.Proofs.YtomgcbfcnjbofaaGreat
set_option linter.unusedSimpArgs false
set_option linter.unusedVariables false
def chkP:Nat→Nat→Bool
 | 0,_=>true
 | f+1,d=>if 1000000271 % d=0 then false else chkP f (d+1)
theorem chk_spec:∀ (f d e:Nat),chkP f d=true→d≤e→e<d+f→1000000271 % e≠0
 | 0,_,_,_,_,_=>by omega
 | f+1,d,e,h,h1,h2=>by
  rw [chkP] at h
  by_cases h3:1000000271 % d=0
  ·rw [if_pos h3] at h;cases h
  ·rw [if_neg h3] at h
   by_cases h4:e=d
   ·rw [h4];exact h3
   ·exact chk_spec f (d+1) e h (by omega) (by omega)
theorem chkP_all:(List.range 32).all (fun i=>chkP 1000 (2+1000*i))=true:=by decide +kernel
theorem small_no {d:Nat} (h2:2≤d) (h:d<32002):1000000271 % d≠0:=by
 have h1:=List.all_eq_true.1 chkP_all ((d - 2) / 1000) (List.mem_range.2 (by omega))
 exact chk_spec 1000 (2+1000*((d - 2) / 1000)) d h1 (by omega) (by omega)
theorem prime_dvd {d:Nat} (h:d ∣ 1000000271):d=1∨d=1000000271:=by
 obtain ⟨e,he⟩:=h
 have hd0:d≠0:=by intro h0;subst h0;omega
 have he0:e≠0:=by intro h0;subst h0;omega
 by_cases hd1:d=1
 ·exact .inl hd1
 ·by_cases he1:e=1
  ·exact .inr (by rw [he1] at he;omega)
  ·exfalso
   by_cases hd:d<32002
   ·exact small_no (by omega) hd (by rw [he];exact Nat.mul_mod_right _ _)
   ·by_cases h2:e<32002
    ·exact small_no (by omega) h2 (by rw [he];exact Nat.mul_mod_left _ _)
    ·have:32002*32002≤d*e:=Nat.mul_le_mul (by omega) (by omega)
     omega
def chooseP:Nat→Nat→Nat
 | _,0=>1
 | 0,_+1=>0
 | n+1,k+1=>chooseP n k+chooseP n (k+1)
theorem choose_zero (n:Nat):chooseP n 0=1:=by cases n <;> rfl
theorem choose_big:∀ (n k:Nat),n<k→chooseP n k=0
 | 0,k+1,_=>rfl
 | n+1,k+1,h=>by rw [chooseP,choose_big n k (by omega),choose_big n (k+1) (by omega)]
theorem choose_self:∀ n:Nat,chooseP n n=1
 | 0=>rfl
 | n+1=>by rw [chooseP,choose_self n,choose_big n (n+1) (by omega)]
theorem choose_mul:∀ (n k:Nat),(k+1)*chooseP (n+1) (k+1)=(n+1)*chooseP n k
 | 0,0=>rfl
 | 0,k+1=>by rw [choose_big 1 (k+1+1) (by omega),choose_big 0 (k+1) (by omega)];omega
 | n+1,0=>by
  have h:=choose_mul n 0
  have e:chooseP (n+1+1) (0+1)=chooseP (n+1) 0+chooseP (n+1) (0+1):=rfl
  rw [choose_zero] at h
  rw [e,choose_zero]
  omega
 | n+1,k+1=>by
  have h1:=choose_mul n k
  have h2:=choose_mul n (k+1)
  have e1:chooseP (n+1+1) (k+1+1)=chooseP (n+1) (k+1)+chooseP (n+1) (k+1+1):=rfl
  have e2:chooseP (n+1) (k+1)=chooseP n k+chooseP n (k+1):=rfl
  rw [e1,Nat.mul_add,h2,Nat.add_mul (k+1) 1,h1,Nat.one_mul,Nat.add_mul (n+1) 1,Nat.one_mul]
  rw [e2,Nat.mul_add]
  omega
def sumP (f:Nat→Nat):Nat→Nat
 | 0=>0
 | m+1=>sumP f m+f m
theorem sumP_congr {f g:Nat→Nat}:∀ {m:Nat},(∀ k,k<m→f k=g k)→sumP f m=sumP g m
 | 0,_=>rfl
 | m+1,h=>by rw [sumP,sumP,sumP_congr (fun k hk=>h k (by omega)),h m (by omega)]
theorem sumP_add (f g:Nat→Nat):∀ m:Nat,sumP (fun k=>f k+g k) m=sumP f m+sumP g m
 | 0=>rfl
 | m+1=>by rw [sumP,sumP,sumP,sumP_add f g m];omega
theorem sumP_mul (c:Nat) (f:Nat→Nat):∀ m:Nat,sumP (fun k=>c*f k) m=c*sumP f m
 | 0=>rfl
 | m+1=>by rw [sumP,sumP,sumP_mul c f m,Nat.mul_add]
theorem sumP_first (f:Nat→Nat):∀ m:Nat,sumP f (m+1)=f 0+sumP (fun k=>f (k+1)) m
 | 0=>by simp [sumP]
 | m+1=>by rw [sumP,sumP_first f m,sumP];omega
theorem binom (a:Nat):∀ n:Nat,(a+1) ^ n=sumP (fun k=>chooseP n k*a ^ k) (n+1)
 | 0=>by simp [sumP,chooseP]
 | n+1=>by
  rw [Nat.pow_succ,binom a n,sumP_first (fun k=>chooseP (n+1) k*a ^ k),choose_zero]
  have e1:sumP (fun k=>chooseP (n+1) (k+1)*a ^ (k+1)) (n+1)=sumP (fun k=>a*(chooseP n k*a ^ k)) (n+1)+sumP (fun k=>chooseP n (k+1)*a ^ (k+1)) (n+1):=by
   rw [← sumP_add]
   refine sumP_congr fun k _=>?_
   show (chooseP n k+chooseP n (k+1))*a ^ (k+1)=_
   rw [Nat.add_mul,Nat.pow_succ,Nat.mul_left_comm a,Nat.mul_comm a]
  have e2:sumP (fun k=>chooseP n k*a ^ k) (n+1)=chooseP n 0*a ^ 0+sumP (fun k=>chooseP n (k+1)*a ^ (k+1)) n:=sumP_first _ n
  have e3:sumP (fun k=>chooseP n (k+1)*a ^ (k+1)) (n+1)=sumP (fun k=>chooseP n (k+1)*a ^ (k+1)) n:=by
   rw [sumP,choose_big n (n+1) (by omega)];omega
  rw [e1,e3,sumP_mul,Nat.mul_add]
  rw [choose_zero] at e2
  rw [Nat.mul_comm a]
  omega
theorem cop {p:Nat} (hd:∀ d,d ∣ p→d=1∨d=p) {k:Nat} (h0:0<k) (h1:k<p):Nat.Coprime p k:=by
 rcases hd (Nat.gcd p k) (Nat.gcd_dvd_left _ _) with h | h
 ·exact h
 ·have:=Nat.le_of_dvd h0 (Nat.gcd_dvd_right p k)
  omega
section
variable {p:Nat} (hp:2≤p) (hd:∀ d,d ∣ p→d=1∨d=p)
include hp hd
theorem choose_dvd {k:Nat} (h0:0<k) (h1:k<p):p ∣ chooseP p k:=by
 obtain ⟨m,rfl⟩:∃ m,p=m+1:=⟨p - 1,by omega⟩
 obtain ⟨j,rfl⟩:∃ j,k=j+1:=⟨k - 1,by omega⟩
 have h:=choose_mul m j
 have h2:(m+1) ∣ (j+1)*chooseP (m+1) (j+1):=⟨_,h⟩
 exact (cop hd h0 h1).dvd_of_dvd_mul_left h2
theorem mid_zero (a:Nat):∀ m,m<p→p ∣ sumP (fun k=>chooseP p (k+1)*a ^ (k+1)) m
 | 0,_=>⟨0,rfl⟩
 | m+1,h=>by
  rw [sumP]
  exact Nat.dvd_add (mid_zero a m (by omega)) (Nat.dvd_mul_right_of_dvd (choose_dvd hp hd (by omega) h) _)
theorem fermat:∀ a:Nat,a ^ p % p=a % p
 | 0=>by rw [Nat.zero_pow (by omega)]
 | a+1=>by
  have ih:=fermat a
  obtain ⟨m,hm⟩:∃ m,p=m+1:=⟨p - 1,by omega⟩
  have e:(a+1) ^ p=1+(sumP (fun k=>chooseP p (k+1)*a ^ (k+1)) m+a ^ p):=by
   rw [binom,sumP_first,choose_zero]
   congr 1
   rw [show sumP (fun k=>chooseP p (k+1)*a ^ (k+1)) p=sumP (fun k=>chooseP p (k+1)*a ^ (k+1)) (m+1) from by rw [← hm],sumP,← hm,choose_self,Nat.one_mul]
  obtain ⟨c,hc⟩:=mid_zero hp hd a m (by omega)
  rw [e,hc,show 1+(p*c+a ^ p)=(a ^ p+1)+p*c by omega,Nat.add_mul_mod_self_left,Nat.add_mod,ih,← Nat.add_mod]
theorem inv_nat {b:Nat} (h0:0<b) (h1:b<p):b*b ^ (p - 2) % p=1:=by
 have hf:=fermat hp hd b
 obtain ⟨m,hm⟩:∃ m,p=m+2:=⟨p - 2,by omega⟩
 have e1:b*b ^ (p - 2)=b ^ (m+1):=by rw [show p - 2=m by omega,Nat.pow_succ,Nat.mul_comm]
 have e2:b ^ p=b*b ^ (m+1):=by rw [hm,Nat.pow_succ,Nat.mul_comm]
 rw [e1]
 have hpos:1≤b ^ (m+1):=Nat.pow_pos h0
 obtain ⟨y,hy⟩:∃ y,b ^ (m+1)=y+1:=⟨b ^ (m+1) - 1,by omega⟩
 rw [e2,hy,Nat.mul_add,Nat.mul_one] at hf
 have hdv:p ∣ b*y:=by
  have h3:(b*y+b) % p=b % p:=hf
  have h4:=Nat.mod_add_div (b*y+b) p
  have h5:=Nat.mod_add_div b p
  refine (Nat.dvd_iff_mod_eq_zero).2 ?_
  have h6:(b*y+b) % p=((b*y) % p+b % p) % p:=Nat.add_mod _ _ _
  have h7:(b*y) % p<p:=Nat.mod_lt _ (by omega)
  have h8:b % p=b:=Nat.mod_eq_of_lt h1
  rw [h8] at h3 h6
  rw [h3] at h6
  by_cases hlt:(b*y) % p+b<p
  ·rw [Nat.mod_eq_of_lt hlt] at h6;omega
  ·rw [Nat.mod_eq_sub_mod (by omega),Nat.mod_eq_of_lt (by omega)] at h6;omega
 obtain ⟨c,hc⟩:=(cop hd h0 h1).dvd_of_dvd_mul_left hdv
 rw [hy,hc,Nat.add_comm,Nat.add_mul_mod_self_left]
 exact Nat.mod_eq_of_lt (by omega)
end
theorem inv_law {b:Int} (h0:0<b) (h1:b<1000000271):b*invF b % 1000000271=1:=by
 obtain ⟨c,rfl⟩:∃ c:Nat,b=c:=⟨b.toNat,by omega⟩
 obtain ⟨E,hE⟩:∃ E:Nat,E=1000000271 - 2:=⟨_,rfl⟩
 have h:=inv_nat (p:=1000000271) (by omega) (fun d=>prime_dvd) (b:=c) (by omega) (by omega)
 rw [← hE] at h
 have hE2:(1000000269:Int).toNat=E:=by rw [hE];rfl
 have e:invF (c:Int)=((c ^ E % 1000000271:Nat):Int):=by
  unfold invF powF
  rw [if_neg (by omega),hE2]
  simp only [Int.natCast_emod,Int.natCast_pow]
  rfl
 have h2:(c*(c ^ E % 1000000271)) % 1000000271=1:=by rw [Nat.mul_mod,Nat.mod_mod,← Nat.mul_mod];exact h
 rw [e]
 omega
theorem frac_law {b:Int} (h0:0<b) (h1:b<1000000271) (x:Int):b*fracF x b % 1000000271=x % 1000000271:=by
 unfold fracF timesF
 rw [Int.mul_emod,Int.emod_emod_of_dvd _ (Int.dvd_refl _),← Int.mul_emod,Int.mul_left_comm,Int.mul_emod,inv_law h0 h1,Int.mul_one,Int.emod_emod_of_dvd _ (Int.dvd_refl _)]
end Go.Proofs.YtomgcbfcnjbofaaGreat
/- A conjugate pair is symplectic, in plain Lean. -/
namespace Go.Proofs.YtomgcbfcnjbofaaGreat
set_option linter.unusedSimpArgs false
set_option linter.unusedVariables false
theorem symJ_of {N:Nat} {b f g:List Int} {i:Nat} (h:∀ q,q<N→plusF (timesF (b.getD i 0) (g.getD (i*N+q) 0)) (timesF (b.getD q 0) (f.getD (q*N+i) 0))=timesF (b.getD i 0) (b.getD q 0)):∀ (s j:Nat),j+s≤N→symJ N b f g i s j=true
 | 0,_,_=>rfl
 | s+1,j,hj=>by
  rw [symJ,if_pos (h j (by omega))]
  exact symJ_of h s (j+1) (by omega)
theorem symI_of {N:Nat} {b f g:List Int} (h:∀ p,p<N→∀ q,q<N→plusF (timesF (b.getD p 0) (g.getD (p*N+q) 0)) (timesF (b.getD q 0) (f.getD (q*N+p) 0))=timesF (b.getD p 0) (b.getD q 0)):∀ (s i:Nat),i+s≤N→symI N b f g s i=true
 | 0,_,_=>rfl
 | s+1,i,hi=>by
  rw [symI,if_pos (symJ_of (h i (by omega)) N 0 (by omega))]
  exact symI_of h s (i+1) (by omega)
theorem conj_entry {bi bj f:Int} (h0:0<bi) (h1:bi<1000000271):plusF (timesF bi (minusF bj (fracF (timesF bj f) bi))) (timesF bj f)=timesF bi bj:=by
 have hf:=frac_law h0 h1 (timesF bj f)
 generalize hq:fracF (timesF bj f) bi=q at hf
 have e1:bi*minusF bj q % 1000000271=(bi*bj - bi*q) % 1000000271:=by
  unfold minusF
  rw [Int.mul_emod,Int.emod_emod_of_dvd _ (Int.dvd_refl _),← Int.mul_emod,Int.mul_sub]
 unfold plusF timesF at *
 omega
theorem conj_symI {k:Nat} {xs ys:List Int} (hy:ys.length=k) (hn:∀ y∈ys,0≤y∧y<1000000271) (hz:¬ (0:Int)∈ys):symI k ys xs (conjL k xs ys) k 0=true:=by
 refine symI_of (fun p hp q hq=>?_) k 0 (by omega)
 have e:(conjL k xs ys).getD (p*k+q) 0=conjAt k xs ys p q:=by rw [List.getD_eq_getElem?_getD,conjL_at k xs ys hp hq];rfl
 have hm:ys.getD p 0∈ys:=by
  rw [List.getD_eq_getElem?_getD,List.getElem?_eq_getElem (by omega)]
  exact List.getElem_mem _
 have hb:=hn _ hm
 have hne:ys.getD p 0≠0:=fun h0=>hz (by rw [← h0];exact hm)
 rw [e,conjAt]
 exact conj_entry (by omega) hb.2
end Go.Proofs.YtomgcbfcnjbofaaGreat
/- Fields and sessions: the statements' helpers on them. -/
namespace Go.Proofs.YtomgcbfcnjbofaaGreat
open Go.RowKit
set_option linter.unusedSimpArgs false
set_option linter.unusedVariables false
set_option maxRecDepth 20000
end Go.Proofs.YtomgcbfcnjbofaaGreat
/- The value of a field at polynomials in h: the reference's walk. -/
namespace Go.Proofs.YtomgcbfcnjbofaaGreat
open Go.RowKit
set_option linter.unusedSimpArgs false
set_option linter.unusedVariables false
set_option maxRecDepth 20000
end Go.Proofs.YtomgcbfcnjbofaaGreat
