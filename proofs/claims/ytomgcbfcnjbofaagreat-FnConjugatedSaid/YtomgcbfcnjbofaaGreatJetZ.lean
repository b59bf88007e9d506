/- Steps: the program's walk. -/
import Derived.Test.YtomgcbfcnjbofaaGreatMgL
namespace Go.Proofs.YtomgcbfcnjbofaaGreat
open Go.RowKit
open List renaming setIfInBounds_toArray → sTA, set_cons_zero → sC0, set_cons_succ → sC1
open Nat renaming le_refl → lR
set_option linter.unusedSimpArgs false
set_option linter.unusedVariables false
set_option maxRecDepth 20000
theorem zeros_snoc (n j:Nat):List.replicate (j+1) (zeroJ n)=List.replicate j (zeroJ n)++[zeroJ n]:=List.replicate_succ'
theorem stJ_zero (S dim n:Nat):stJ S dim (fun _ _=>zeroJ n)=List.replicate S (List.replicate dim (zeroJ n)):=by
 apply List.ext_getElem?
 intro i
 by_cases hi:i<S
 ·rw [stJ_get _ hi]
  simp only [List.getElem?_replicate,hi,if_true,Option.some.injEq]
  apply List.ext_getElem?
  intro k
  by_cases hk:k<dim <;> simp [hk]
 ·rw [List.getElem?_eq_none (by rw [stJ_len];omega),List.getElem?_eq_none (by simp;omega)]
def itJ (n S:Nat) (ps:List (List Mono)) (yss:List (List Int)) (tA:Nat→List Int) (t:Nat):Nat→Nat→List Int:=iterJ n S (fun i=>ps.getD i []) (fun i=>yss.getD i []) (fun i s=>rowJ (tA i) S s) t
theorem itJ_zero (n S:Nat) (ps:List (List Mono)) (yss:List (List Int)) (tA:Nat→List Int):itJ n S ps yss tA 0=fun _ _=>zeroJ n:=rfl
theorem val_it {n dim S:Nat} {ps:List (List Mono)} {yss:List (List Int)} (tA:Nat→List Int) (t s:Nat) (hp:ps.length=dim) (hl:yss.length=dim) :
  valL n ps (atL dim S yss (fun i s=>rowJ (tA i) S s) (itJ n S ps yss tA t) s)=(List.range dim).map fun i=>itJ n S ps yss tA (t+1) s i:=val_stage _ _ _ hp hl
theorem it_st3 (n S dim:Nat) (ps:List (List Mono)) (yss:List (List Int)) (tA:Nat→List Int) (t:Nat):St3 n dim (stJ S dim (itJ n S ps yss tA t)):=stJ_st3 fun s i=>iter_num _ _ _ _ _ _ _ _
structure Env (w wr:World) (o:Int) (P:Option Addr) (dim cP gy cy:Nat):Prop where
 low:Below w.heap.size w wr
 fld:BlkN wr w.heap.size #[.int .i64 o,.slice P dim cP]
 pth:BlkN wr (w.heap.size+1) #[.slice (some ⟨gy,0,none⟩) dim cy]
section
variable {w wr w':World} {o:Int} {P:Option Addr} {dim cP gy cy:Nat}
theorem Env.below (h:Env w wr o P dim cP gy cy) {B:Nat} (hb:Below B wr w') (hB:w.heap.size+2≤B):Env w w' o P dim cP gy cy :=
 ⟨h.low.trans (hb.mono (by omega)),h.fld.same (hb.block _ (by omega)),h.pth.same (hb.block _ (by omega))⟩
theorem Env.drew (h:Env w wr o P dim cP gy cy):Env w wr.drew o P dim cP gy cy:=⟨h.low.drew,h.fld.drew,h.pth.drew⟩
theorem Env.far (h:Env w wr o P dim cP gy cy) {p:Addr} (hp:w.heap.size+1<p.block) (u:Value):Env w (wr.setCell p u) o P dim cP gy cy :=
 ⟨h.low.setCell (p:=p) (by omega) u,h.fld.same (Below.heap_setCell _ _ _ _ (by omega)),h.pth.same (Below.heap_setCell _ _ _ _ (by omega))⟩
theorem Env.size (h:Env w wr o P dim cP gy cy):w.heap.size+1<wr.heap.size:=h.pth.lt
end
theorem kB_of {w w6 w7:World} {lo hi l h:Nat} {B:Option Addr} {n d:Nat} {xs:List Int} (hI:Ints w7 l h B n d xs∨Ints w6 lo hi B n d xs) (hb:Below w.heap.size w w6) (hh:hi≤w.heap.size):Ints w7 l h B n d xs∨Ints w lo hi B n d xs :=
 hI.imp id fun h=>h.same fun k _ h2=>(hb.block k (by omega)).symm
set_option maxRecDepth 100000 in
set_option maxHeartbeats 16000000 in
theorem impl_stepJets (gO dim cO:Nat) (o:Int) (P:Option Addr) (cP:Nat) (ps:List (List Mono)) (lo hi:Nat) (gy cy:Nat) (yss:List (List Int)) (lo2 hi2 n S:Nat) (tA tB:Nat→List Int) (lo3 hi3:Nat) (w:World)
  (ht:Tabs w lo3 hi3 gO dim S tA tB) (hgO:gO<w.heap.size) (hp:Mons2 w lo hi P dim cP ps) (hy:Ints2 w lo2 hi2 (some ⟨gy,0,none⟩) dim cy yss) (hh:hi≤w.heap.size) (hh2:hi2≤w.heap.size) (hh3:hi3≤w.heap.size)
  (hG:GoodF dim ps) (hN:JNum n yss) (hd0:0<dim) (hd6:dim≤6) (hn0:0<n) (hn:n≤1000) (hS8:S≤8) (hcO:dim≤cO) (hcO2:cO≤9223372036854775807) :
  Calls Tryz.prog 48 #[.slice (some ⟨gO,0,none⟩) dim cO,.agg #[.int .i64 o,.slice P dim cP],.slice (some ⟨gy,0,none⟩) dim cy] w fun e w'=>∃ gR cR,e = .returned (.slice (some ⟨gR,0,none⟩) dim cR)∧Ints2 w' 0 w'.heap.size (some ⟨gR,0,none⟩) dim cR (outJ n dim S ps yss tA tB)∧Below w.heap.size w w':=by
 obtain ⟨i1,hi1,hy0,hy1,hy2⟩:=info_parts info_jet
 obtain ⟨i2,hi2',hx0,hx1,hx2⟩:=info_parts info_jetsJ
 have hcp:=hp.cap
 have hmp:=hp.max
 have hcy:=hy.cap
 have hmy:=hy.max
 have hyl:=hide hy.len
 have HT:=hide ht
 have HP:=hide hp
 have HY:=hide hy
 have HG:=hide hG
 have HN:=hide hN
 obtain ⟨ay,B0,m0,d0,y0,e,hc0,hI0,_,hx0'⟩:=hy.at_ (k:=0) hd0
 injection e with e
 subst e
 obtain rfl:n=m0:=by rw [← hI0.len];exact ((hN y0 (List.mem_of_getElem? hx0'.out)).1).symm
 have hcy0:w.cell? ⟨gy,0,none⟩=some (.slice B0 n d0):=by simpa [Addr.add_lit] using hc0
 have hcd0:=hI0.cap
 have hmd0:=hI0.max
 have hcS:w.cell? ⟨gO,0,none⟩=some (.int .i64 (S:Int)):=by
  obtain ⟨_,_,_,_,h,_⟩:=ht 0 hd0
  rw [Nat.zero_mul] at h
  exact h
 have E0:Hid (Env w ((w.alloc (.cells #[.int .i64 o,.slice P dim cP] 40)).alloc (.cells #[.slice (some ⟨gy,0,none⟩) dim cy] 73)) o P dim cP gy cy):=by
  have b0:=below_alloc w (.cells #[.int .i64 o,.slice P dim cP] 40)
  have z0:(w.alloc (.cells #[.int .i64 o,.slice P dim cP] 40)).heap.size=w.heap.size+1:=by simp
  have k1:=BlkN.new (w.alloc (.cells #[.int .i64 o,.slice P dim cP] 40)) #[.slice (some ⟨gy,0,none⟩) dim cy] 73
  rw [z0] at k1
  exact ⟨b0.alloc b0.size _,(BlkN.new w #[.int .i64 o,.slice P dim cP] 40).alloc _,k1⟩
 have z0:((w.alloc (.cells #[.int .i64 o,.slice P dim cP] 40)).alloc (.cells #[.slice (some ⟨gy,0,none⟩) dim cy] 73)).heap.size=w.heap.size+2:=by simp
 have e5:=E0.out.pth.c 0 rfl
 have hgy:=World.block_lt_of_cell? w _ hcy0
 have c0:=(E0.out.low.cell (p:=⟨gO,0,none⟩) hgO).trans hcS
 have c1:=(E0.out.low.cell (p:=⟨gy,0,none⟩) hgy).trans hcy0
 have hmk:=make_jetss S (by omega) ((w.alloc (.cells #[.int .i64 o,.slice P dim cP] 40)).alloc (.cells #[.slice (some ⟨gy,0,none⟩) dim cy] 73))
 clear ht hp hy hG hN hc0 hI0 hx0' hcy0 hcS
 go_enter Tryz.func48,Tryz.ntmps48
 go_wp2_with fail
 clear hmk c0 c1 e5
 generalize (w.alloc (.cells #[.int .i64 o,.slice P dim cP] 40)).alloc (.cells #[.slice (some ⟨gy,0,none⟩) dim cy] 73)=W0 at E0 z0 ⊢
 have E1:Hid (Env w ((W0.alloc (.cells (madeCells #[.slice none 0 0] S) 73)).alloc (.cells #[.slice (some ⟨w.heap.size+2,0,none⟩) S S] 104)) o P dim cP gy cy) :=
  (E0.out.below (below_alloc W0 _) (by omega)).below (below_alloc _ _) (by simp;omega)
 have N1:Hid (Lst kII 73 (fun _=>True) ((W0.alloc (.cells (madeCells #[.slice none 0 0] S) 73)).alloc (.cells #[.slice (some ⟨w.heap.size+2,0,none⟩) S S] 104)) (w.heap.size+2) ((W0.alloc (.cells (madeCells #[.slice none 0 0] S) 73)).alloc (.cells #[.slice (some ⟨w.heap.size+2,0,none⟩) S S] 104)).heap.size (some ⟨w.heap.size+2,0,none⟩) S S (List.replicate S (.slice none 0 0)) (List.replicate S [])):=by
  have h:=Lst.nilsK (T:=73) W0 S (by omega)
  rw [z0] at h
  exact (h.below (below_alloc _ (.cells #[.slice (some ⟨w.heap.size+2,0,none⟩) S S] 104)) (by simp;omega)).wide (by simp;omega)
 have B1:Hid (BlkN ((W0.alloc (.cells (madeCells #[.slice none 0 0] S) 73)).alloc (.cells #[.slice (some ⟨w.heap.size+2,0,none⟩) S S] 104)) (w.heap.size+2+1) #[.slice (some ⟨w.heap.size+2,0,none⟩) S S]):=by
  have h:=BlkN.new (W0.alloc (.cells (madeCells #[.slice none 0 0] S) 73)) #[.slice (some ⟨w.heap.size+2,0,none⟩) S S] 104
  have e:(W0.alloc (.cells (madeCells #[.slice none 0 0] S) 73)).heap.size=w.heap.size+2+1:=by simp [z0]
  rw [e] at h
  exact h
 clear z0 E0
 generalize (W0.alloc (.cells (madeCells #[.slice none 0 0] S) 73)).alloc (.cells #[.slice (some ⟨w.heap.size+2,0,none⟩) S S] 104)=W1 at E1 N1 B1 ⊢
 obtain ⟨gv,hgv⟩:∃ gv,gv=w.heap.size+2:=⟨_,rfl⟩
 rw [← hgv] at N1 B1 ⊢
 obtain ⟨g9,hg9⟩:∃ g9,g9=gv+1:=⟨_,rfl⟩
 rw [← hg9] at B1 ⊢
 have hgvw:=hide hgv
 have hg9w:=hide hg9
 have hgvE:w.heap.size+1<gv:=by omega
 have hgv9':gv<g9:=by omega
 clear hgv hg9
 have N2:Hid (Lst kII 73 (fun _=>True) W1 gv W1.heap.size (some ⟨gv,0,none⟩) S S (List.replicate S (.slice none 0 0)) (mixQ (List.replicate S (List.replicate dim (zeroJ n))) (List.replicate S []) 0)):=by rw [mixQ_zero];exact N1.out
 have V0:Hid (∀ k,0≤k→k<S→(List.replicate S (Value.slice none 0 0))[k]? = some (Value.slice none 0 0)):=fun k _ hk=>by simp [hk]
 clear N1
 go_loopw [30] (fun z wr=>∃ (s:Nat) (vs:List Value),s≤S∧z = .int .i64 s∧Hid (Lst kII 73 (fun _=>True) wr gv wr.heap.size (some ⟨gv,0,none⟩) S S vs (mixQ (List.replicate S (List.replicate dim (zeroJ n))) (List.replicate S []) s))∧Hid (Env w wr o P dim cP gy cy)∧Hid (BlkN wr g9 #[.slice (some ⟨gv,0,none⟩) S S])∧Hid (∀ k,s≤k→k<S→vs[k]? = some (Value.slice none 0 0))) (fun z _=>S - (intOf z).toNat)
 case atStart=>exact ⟨0,_,by omega,rfl,N2.out,E1.out,B1.out,V0.out⟩
 case round =>
  clear N2 E1 B1 V0
  obtain ⟨s,vs,hs,rfl,hLs,hE,hB,hnil⟩:=hrel
  by_cases hlt:s<S
  ·have hvi:=hide (hnil.out s (lR _) hlt)
   have hH0:=hide (hLs.out.imp (P':=fun j=>j≠s) (fun _ _=>trivial))
   have hnl:=hide (fun k (hk:s+1≤k) (hk2:k<S)=>hnil.out k (by omega) hk2)
   have e5:=hE.out.pth.c 0 rfl
   have hg9h:=hB.out.lt
   have hN0:Hid (Lst kI 77 (fun _=>True) wr wr.heap.size wr.heap.size none 0 0 [] (List.replicate 0 (zeroJ n))):=Lst.nil_ _ _ _ _ _ _
   obtain ⟨hb,hhb⟩:∃ hb,hb=wr.heap.size:=⟨_,rfl⟩
   have hN1:Hid (Lst kI 77 (fun _=>True) wr hb wr.heap.size none 0 0 [] (List.replicate 0 (zeroJ n))):=by rw [hhb];exact hN0.out
   rw [← hhb] at hH0 hg9h
   have hbr0:Hid (hb≤wr.heap.size):=Nat.le_of_eq hhb
   obtain ⟨vs0,hvs0⟩:∃ v,v=vs:=⟨_,rfl⟩
   clear hhb hLs hnil hN0
   go_wp2_with fail
   clear e5
   go_loopw [35] (fun z wr2=>∃ (j:Nat) (B:Option Addr) (d:Nat) (vs vs2:List Value),j≤dim∧z = .int .i64 j∧Hid (Lst kII 73 (fun k=>k≠s) wr2 gv hb (some ⟨gv,0,none⟩) S S vs (mixQ (List.replicate S (List.replicate dim (zeroJ n))) (List.replicate S []) s))∧Hid (vs[s]? = some (.slice B j d))∧Hid (Lst kI 77 (fun _=>True) wr2 hb wr2.heap.size B j d vs2 (List.replicate j (zeroJ n)))∧Hid (Env w wr2 o P dim cP gy cy∧BlkN wr2 g9 #[.slice (some ⟨gv,0,none⟩) S S]∧hb≤wr2.heap.size∧∀ k,k≠s→vs[k]? = vs0[k]?)) (fun z _=>dim - (intOf z).toNat)
   case atStart=>exact ⟨0,none,0,vs,[],by omega,rfl,hH0.out,hvi.out,hN1.out,hE.out,hB.out,hbr0.out,fun k _=>by rw [hvs0]⟩
   case round =>
    clear hH0 hvi hN1 hE hB hbr0
    obtain ⟨j,B,d,vs,vs2,hj,rfl,hLs,hvi,hN1,hBB⟩:=hrel
    by_cases hlt2:j<dim
    ·have HVS:=hide hBB.out.2.2.2
     have HLd:=hide hLs.out.drew
     have HNd:Hid (Lst kI 77 (fun _=>True) wr.drew hb wr.drew.heap.size B j d vs2 (List.replicate j (zeroJ n))):=hN1.out.drew
     have HBd:=hide hBB.out.1.drew
     have HBV:=hide hBB.out.2.1.drew
     have hzd:hb≤wr.drew.heap.size:=hBB.out.2.2.1
     have HV:=hide hvi.out
     have hOc:=hN1.out.capb
     have hvn:=hLs.out.vlen
     have hg9b:=hide hg9h
     have hmj:=make_jet n hn wr.drew
     obtain ⟨V,hV⟩:∃ V,V=wr.drew:=⟨_,rfl⟩
     have hS0':Hid (wr.drew.cell? ⟨g9,0,none⟩=some (.slice (some ⟨gv,0,none⟩) S S)∧wr.drew.cell? ⟨gv,s,none⟩=some (.slice B j d)):=⟨HBV.out.c 0 rfl,(HLd.out.own.cellAt s (by omega)).trans HV.out⟩
     have HFX:=hide fun (w':World) (hB:Below hb wr.drew w')=>show w'.cell? ⟨g9,0,none⟩=some (.slice (some ⟨gv,0,none⟩) S S)∧w'.cell? ⟨gv,s,none⟩=some (.slice B j d) from
      ⟨(hB.cell (p:=⟨g9,0,none⟩) hg9b.out).trans hS0'.out.1,(hB.cell (p:=⟨gv,s,none⟩) (by show gv<hb;have:=hg9b.out;omega)).trans hS0'.out.2⟩
     have zn:(wr.drew.alloc (.cells (zeros n) 3)).heap.size=wr.drew.heap.size+1:=by simp
     have bz:=(below_alloc wr.drew (.cells (zeros n) 3)).mono hzd
     have HS1':=hide (HFX.out _ bz)
     have HS2':=hide (HFX.out _ (bz.alloc (by omega) (.cells #[.slice (some ⟨wr.drew.heap.size,0,none⟩) n n] 77)))
     have HZ':=hide (FillS.start wr.drew n hn).done.1.ints
     have HN1':=hide (HNd.out.below (below_alloc wr.drew (.cells (zeros n) 3)) (lR _))
     have hbw:w.heap.size+2≤hb:=by have:=hgvw.out;have:=hg9b.out;omega
     have hgv9:gv<hb:=by have:=hg9b.out;omega
     have hg9v:g9≠gv:=by omega
     clear hBB hLs hvi hN1 HNd
     go_wp2_with fail
     refine wp_region_Z (fun W'=>W'.cell? ⟨g9,0,none⟩=some (.slice (some ⟨gv,0,none⟩) S S)∧W'.cell? ⟨gv,s,none⟩=some (.slice B j d)) 11 (by kernel_rfl) ?_
     rw [← hV] at HLd HBd HBV hzd hS0' HS1' HS2' HZ' HN1' zn bz hmj ⊢
     have hS0:=hS0'.out
     have HS1:=HS1'
     have HS2:=HS2'
     have HN1:=HN1'
     have HZ:=HZ'
     have zV1:=hide zn
     have HbV1:=hide bz
     have hzV:hb≤(V.alloc (.cells (zeros n) 3)).heap.size:=by omega
     have hzV':V.heap.size≤(V.alloc (.cells (zeros n) 3)).heap.size:=by omega
     clear hS0' HS1' HS2' hV HN1' HZ' zn bz HFX hg9h
     refine wpAnyZ_take 0 (.slice (some ⟨gv,0,none⟩) S S) rfl (by kernel_rfl) (by kernel_rfl) (fun _ _ _ h=>h) (by rfl) (fun _ hS=>by have q0:=hS.1;clear hS;go_simp) hS0 ?_
     try simp only [Act.put,sTA,sC0,sC1]
     refine wpAnyZ_takeW 1 (.int .i64 (s:Int)) rfl (by kernel_rfl) (by kernel_rfl) (fun _ _ _ h=>h) (by rfl) (fun _=>by go_simp) hS0 ?_
     try simp only [Act.put,sTA,sC0,sC1]
     refine wpAnyZ_take 2 (.slice (some ⟨gv,0,none⟩) S S) rfl (by kernel_rfl) (by kernel_rfl) (fun _ _ _ h=>h) (by rfl) (fun _ hS=>by have q0:=hS.1;clear hS;go_simp) hS0 ?_
     try simp only [Act.put,sTA,sC0,sC1]
     refine wpAnyZ_takeW 3 (.int .i64 (s:Int)) rfl (by kernel_rfl) (by kernel_rfl) (fun _ _ _ h=>h) (by rfl) (fun _=>by go_simp) hS0 ?_
     try simp only [Act.put,sTA,sC0,sC1]
     refine wpAnyZ_takeW 4 (.pointer (some ⟨gv,s,none⟩)) rfl (by kernel_rfl) (by kernel_rfl) (fun _ _ _ h=>h) (by rfl) (fun _=>by go_simp) hS0 ?_
     try simp only [Act.put,sTA,sC0,sC1]
     refine wpAnyZ_take 5 (.slice B j d) rfl (by kernel_rfl) (by kernel_rfl) (fun _ _ _ h=>h) (by rfl) (fun _ hS=>by have q0:=hS.2;clear hS;go_simp) hS0 ?_
     try simp only [Act.put,sTA,sC0,sC1]
     refine wpAnyZ_takeW 6 (.int .i64 (n:Int)) rfl (by kernel_rfl) (by kernel_rfl) (fun _ _ _ h=>h) (by rfl) (fun _=>by go_simp) hS0 ?_
     try simp only [Act.put,sTA,sC0,sC1]
     refine wpAnyZ_one 7 (by kernel_rfl) rfl (by rfl) (fun K hK=>?_)
     go_simp
     refine hK.out _ _ HS1.out ?_
     clear hK K
     try simp only [Act.put,sTA,sC0,sC1]
     refine wpAnyZ_one 8 (by kernel_rfl) rfl (by rfl) (fun K hK=>?_)
     go_simp
     refine hK.out _ _ HS2.out ?_
     clear hK K
     try simp only [Act.put,sTA,sC0,sC1]
     refine wpAnyZ_one 9 (by kernel_rfl) rfl (by rfl) (fun K hK=>?_)
     refine owp_appJ (.tmp 42) (.tmp 45) 73 rfl hb 77 i1 (.slice none 0 0) 1 24 Tryz.underlying73 hi1 hy0 hy1 hy2 rfl (by omega) (V.alloc (.cells (zeros n) 3)) #[.slice (some ⟨V.heap.size,0,none⟩) n n] _ zV1.out B j d 1 _ rfl rfl HN1.out.own rfl (by simp [Value.oneCell']) (by omega) (by omega) hzV ?_
     intro A3 c3 w5 happ hlt3
     have b5:=hide (happ.low HbV1.out hzV (lR _) HN1.out.own)
     have HL5:=hide (HLd.out.below b5.out (lR _))
     have HN5:=hide (HN1.out.push (l:=V.heap.size) (h':=(V.alloc (.cells (zeros n) 3)).heap.size) (x:=zeroJ n) ⟨some ⟨V.heap.size,0,none⟩,n,n,rfl,HZ.out⟩ (lR _) (lR _) hzd hzV' happ)
     have hBV5:=hide (HBV.out.same (b5.out.block g9 hg9b))
     have hS3:w5.cell? ⟨g9,0,none⟩=some (.slice (some ⟨gv,0,none⟩) S S)∧w5.cell? ⟨gv,s,none⟩=some (.slice B j d):=⟨hBV5.out.c 0 rfl,(HL5.out.own.cellAt s (by omega)).trans HV.out⟩
     have f5:=HL5.out.own.frozenAt s
     clear happ HS1 HS2
     refine hK.out _ _ hS3 ?_
     clear hK K
     try simp only [Act.put,sTA,sC0,sC1]
     refine wpAnyZ_takeW 10 (.pointer (some ⟨gv,s,none⟩)) rfl (by kernel_rfl) (by kernel_rfl) (fun _ _ _ h=>h) (by rfl) (fun _=>by go_simp) hS3 ?_
     try simp only [Act.put,sTA,sC0,sC1]
     refine wpAnyZ_last (by kernel_rfl) rfl (by kernel_rfl) (by rfl) (fun K hK=>?_)
     go_simp
     refine hK _ _ ?_
     clear hK K
     have hvl:=HL5.out.vlen
     have HF:=hide (HL5.out.hole (.slice A3 (j+1) c3))
     have HVn:Hid ((vs.set s (Value.slice A3 (j+1) c3))[s]? = some (.slice A3 (j+1) c3)):=List.getElem?_set_self (by omega)
     have HNn:=hide (HN5.out.far (p:=⟨gv,s,none⟩) hgv9 (.slice A3 (j+1) c3))
     have sz5:(w5.setCell ⟨gv,s,none⟩ (.slice A3 (j+1) c3)).heap.size=w5.heap.size:=by simp [World.setCell]
     rw [← sz5,← zeros_snoc] at HNn
     have bn:Hid (Env w (w5.setCell ⟨gv,s,none⟩ (.slice A3 (j+1) c3)) o P dim cP gy cy∧BlkN (w5.setCell ⟨gv,s,none⟩ (.slice A3 (j+1) c3)) g9 #[.slice (some ⟨gv,0,none⟩) S S]∧hb≤(w5.setCell ⟨gv,s,none⟩ (.slice A3 (j+1) c3)).heap.size∧∀ k,k≠s→(vs.set s (Value.slice A3 (j+1) c3))[k]? = vs0[k]?):=⟨(HBd.out.below b5.out hbw).far (p:=⟨gv,s,none⟩) hgvE (.slice A3 (j+1) c3),hBV5.out.far hg9v _,by
      have h1:=b5.out.size
      omega,fun k hk=>by rw [List.getElem?_set_ne (Ne.symm hk)];exact HVS.out k hk⟩
     clear HL5 HN5 b5 hS3 f5 hBV5
     go_wp2_with fail
     go_roundw
     case rel=>exact ⟨j+1,A3,c3,_,_,by omega,by go_num,HF.out,HVn.out,HNn.out,bn.out⟩
     case measure=>simp [intOf];omega
    ·obtain rfl:dim=j:=by omega
     have hF:=hide (hLs.out.fill (P':=fun _=>True) hvi.out ⟨B,dim,d,rfl,hN1.out.ints2⟩ (lR hb) (show gv≤hb by omega) (lR _) hBB.out.2.2.1)
     rw [mixQ_set (List.length_replicate ..) (List.length_replicate ..) hlt (by simp [hlt])] at hF
     have hn2:=hide fun k (hk:s+1≤k) (hk2:k<S)=>(hBB.out.2.2.2 k (by omega)).trans (hvs0 ▸ hnl.out k hk hk2)
     have hE1:=hide hBB.out.1
     have hB1:=hide hBB.out.2.1
     clear hLs hvi hN1 hBB
     go_wp2_with fail
     go_roundw
     case rel=>exact ⟨s+1,vs,by omega,by go_num,hF.out,hE1.out,hB1.out,hn2.out⟩
     case measure=>simp [intOf];omega
  ·obtain rfl:S=s:=by omega
   have hL2:=hLs.out
   rw [mixQ_all (List.length_replicate ..) (List.length_replicate ..),← stJ_zero] at hL2
   have HI3:=hide hL2.ints3
   clear hLs hL2 hnil
   have hyl2:=hide hyl.out
   go_wp2_with fail
   rw [← itJ_zero n S ps yss tA] at HI3
   go_loopw [52] (fun z wr=>∃ (t:Nat) (A:Option Addr) (c l3:Nat),t≤n∧z = .int .i64 t∧Hid (Ints3 wr l3 wr.heap.size A S c (stJ S dim (itJ n S ps yss tA t)))∧Hid (Env w wr o P dim cP gy cy)∧Hid (BlkN wr g9 #[.slice A S c])) (fun z _=>n - (intOf z).toNat)
   case atStart=>exact ⟨0,_,_,gv,by omega,rfl,HI3.out,hE.out,hB.out⟩
   case round =>
    clear HI3 hE hB
    obtain ⟨t,A,c,l3,ht,rfl,HI3,hE,hB⟩:=hrel
    obtain ⟨wo,hwo⟩:∃ wo,wo=wr:=⟨_,rfl⟩
    subst hwo
    have hEs:=hE.out.size
    have hg9:=hB.out.lt
    have hcA:=HI3.out.cap
    have hmA:=HI3.out.max
    by_cases hlt:t<n
    ·have hb1:=hide (below_alloc wo (.cells #[] 73))
     have hL1:=hide ((Lst.empty kII 73 (fun _=>True) wo wo.heap.size (lR _)).wide (hi2:=(wo.alloc (.cells #[] 73)).heap.size) (by simp))
     have u9:=(hB.out.below hb1.out).c 0 rfl
     have htl:Hid ((stJ S dim (itJ n S ps yss tA (t+1))).length=S):=stJ_len _ _ _
     go_wp2_with fail
     clear u9
     generalize wo.alloc (.cells #[] 73)=W2 at hb1 hL1 ⊢
     go_loopw [12,57] (fun p z wr=>∃ (s:Nat) (A:Option Addr) (c:Nat) (vs:List Value),s≤S∧z = .int .i64 s∧p = .slice A s c∧Hid (Lst kII 73 (fun _=>True) wr wo.heap.size wr.heap.size A s c vs ((stJ S dim (itJ n S ps yss tA (t+1))).take s))∧Hid (Below wo.heap.size wo wr)) (fun _ z _=>S - (intOf z).toNat)
     case atStart=>exact ⟨0,_,_,[],by omega,rfl,rfl,hL1.out,hb1.out⟩
     case round =>
      clear hb1 hL1
      obtain ⟨s,A2,c2,vs,hs,rfl,rfl,hL,hb⟩:=hrel
      obtain ⟨wm,hwm⟩:∃ wm,wm=wr:=⟨_,rfl⟩
      subst hwm
      have hzm:=hb.out.size
      have hc2:=hL.out.capb
      by_cases hlt2:s<S
      ·have hEm:=hide (hE.out.below hb.out (by omega))
       have hBm:=hide (hB.out.below hb.out)
       have HI3m:=hide (HI3.out.below hb.out (lR _))
       have hT:Hid ((stJ S dim (itJ n S ps yss tA (t+1))).take s++[valL n ps (atL dim S yss (fun i s=>rowJ (tA i) S s) (itJ n S ps yss tA t) s)]=(stJ S dim (itJ n S ps yss tA (t+1))).take (s+1)):=by
        show _=_
        rw [val_it tA t s HG.out.1 hyl.out]
        exact take_snocJ (stJ_get _ hlt2)
       have hb2:=hide (below_alloc wm (.cells #[] 77))
       have hL2:=hide ((Lst.empty (kB w lo2 hi2) 77 (fun _=>True) wm wm.heap.size (lR _)).wide (hi2:=(wm.alloc (.cells #[] 77)).heap.size) (by simp))
       have u5:=(hEm.out.pth.below hb2.out).c 0 rfl
       go_wp2_with fail
       clear u5
       generalize wm.alloc (.cells #[] 77)=W3 at hb2 hL2 ⊢
       go_loopw [14,63] (fun p z wr=>∃ (q:Nat) (A:Option Addr) (c:Nat) (vs:List Value),q≤dim∧z = .int .i64 q∧p = .slice A q c∧Hid (Lst (kB w lo2 hi2) 77 (fun _=>True) wr wm.heap.size wr.heap.size A q c vs ((atL dim S yss (fun i s=>rowJ (tA i) S s) (itJ n S ps yss tA t) s).take q))∧Hid (Below wm.heap.size wm wr)) (fun _ z _=>dim - (intOf z).toNat)
       case atStart=>exact ⟨0,_,_,[],by omega,rfl,rfl,hL2.out,hb2.out⟩
       case round =>
        clear hb2 hL2
        obtain ⟨q,A4,c4,vs4,hq,rfl,rfl,hL4,hb4⟩:=hrel
        have hz4:=hb4.out.size
        have hc4:=hL4.out.capb
        by_cases hlt3:q<dim
        ·have hE4:=hide (hEm.out.below hb4.out (by omega))
         have hB4:=hide (hBm.out.same (hb4.out.block g9 (by omega)))
         have HI4:=hide (HI3m.out.below hb4.out (by omega))
         obtain ⟨AA,cA,BB,cB,t0,t1,t2,hIA,hIB,hform⟩:=HT.out q hlt3
         obtain ⟨gA,rfl⟩:=hform (by omega)
         have v0:=(hE4.out.low.cell (p:=⟨gO,q*3,none⟩) hgO).trans t0
         have v1:=(hE4.out.low.cell (p:=⟨gO,q*3+1,none⟩) hgO).trans t1
         have v2:=(hE4.out.low.cell (p:=⟨gO,q*3+2,none⟩) hgO).trans t2
         have hIAc:=hIA.cap
         have hIAm:=hIA.max
         have hsS:s*S+S≤S*S:=by
          have:(s+1)*S≤S*S:=Nat.mul_le_mul_right _ hlt2
          rwa [Nat.add_mul,Nat.one_mul] at this
         have hIR:=hide (Ints.takeJ (hIA.dropJ (k:=s*S) (by omega)) (k:=S) (by omega))
         have HR:=hide (impl_rowJ S gA (S*S) cA BB S cB s wr hS8 rfl hlt2 hIAc hIAm)
         have hyq:yss[q]? = some (yss.getD q []):=by
          have:=hyl.out
          rw [List.getD,List.getElem?_eq_getElem (by omega)];rfl
         have hTq:Hid ((atL dim S yss (fun i s=>rowJ (tA i) S s) (itJ n S ps yss tA t) s).take q++[accJ (yss.getD q []) (fun s'=>((stJ S dim (itJ n S ps yss tA t)).getD s' []).getD q []) (rowJ (tA q) S s) S]=(atL dim S yss (fun i s=>rowJ (tA i) S s) (itJ n S ps yss tA t) s).take (q+1)):=by
          show _=_
          rw [acc_congr (v':=fun s'=>itJ n S ps yss tA t s' q) _ _ _ (fun s' hs'=>stJ_at _ hs' hlt3)]
          exact take_snocJ (atL_at _ _ _ _ hlt3)
         have HAD:=hide fun (w6:World) (hB6:Below wr.heap.size wr w6) (hz6:wr.heap.size≤w6.heap.size)=>impl_add (w.heap.size+1) g9 gy dim cy yss lo2 hi2 n q (some ⟨gA,s*S,none⟩) S (cA - s*S) (rowJ (tA q) S s) lo3 hi3 A S c (stJ S dim (itJ n S ps yss tA t)) l3 wo.heap.size (yss.getD q []) w6
          ((hE4.out.pth.below hB6).c 0 rfl) ((hB4.out.below hB6).c 0 rfl) (HY.out.below (hE4.out.low.trans (hB6.mono hE4.out.low.size)) hh2) (hIR.out.below (hE4.out.low.trans (hB6.mono hE4.out.low.size)) hh3) (HI4.out.below hB6 (by omega)) (by have:=hE4.out.low.size;omega) (by have:=hE4.out.low.size;omega) (by omega) HN.out (it_st3 _ _ _ _ _ _ _) (lR _) hlt3 hd6 hn (by omega) hyq
         have hbw4:=hide hE4.out.low
         have hIAx:=hIA.len
         have hIBc:=hIB.cap
         have hIBm:=hIB.max
         clear t0 t1 t2 hIA hIB hform hIR hE4 hB4 HI4 hyq
         go_wp2_with (first
          | (go_at_call 26;refine HR.out.mono ?_;rintro e w6 ⟨rfl,hb6⟩;have hz6:=hb6.size;have HAD2:=hide (HAD.out w6 hb6 hz6);have Hb6:=hide hb6;clear HR HAD hb6)
          | (go_at_call 82;refine HAD2.out.mono ?_;rintro e w7 ⟨B7,d7,rfl,hI7,hb7⟩;have hz7:=hb7.size;have hb47:=hide (Hb6.out.trans (hb7.mono hz6));have HL7:=hide (hL4.out.below hb47.out (lR _));have HI7:=hide (kB_of (w:=w) (lo:=lo2) (hi:=hi2) hI7 (hbw4.out.trans (Hb6.out.mono hbw4.out.size)) hh2);have Hb7:=hide (hb4.out.trans (hb47.out.mono hz4));clear HAD2 hI7 hb7)
          | (at_builtin;refine wpl_app1 rfl (.tmp 66) (.tmp 76) 73 rfl wm.heap.size 77 i1 (.slice none 0 0) 1 24 Tryz.underlying73 hi1 hy0 hy1 hy2 rfl (by omega) w7 #[.slice B7 n d7] A4 q c4 1 _ rfl rfl HL7.out.own rfl (by simp [Value.oneCell']) (by omega) (by omega) (by omega) ?_;intro A5 c5 w5 happ5 hlt5;have hL5:=hide (HL7.out.push (l:=w6.heap.size) (h':=w7.heap.size) (x:=accJ (yss.getD q []) (fun s'=>((stJ S dim (itJ n S ps yss tA t)).getD s' []).getD q []) (rowJ (tA q) S s) S) ⟨B7,n,d7,rfl,HI7.out⟩ hz6 (lR _) hz4 (by omega) happ5);have hb5:=hide (happ5.low Hb7.out (by omega) (lR _) HL7.out.own);clear happ5))
         rw [hTq.out] at hL5
         refine ⟨⟨q+1,A5,c5,_,by omega,by go_num,rfl,hL5.out,hb5.out⟩,?_⟩
         simp [intOf];omega
        ·obtain rfl:dim=q:=by omega
         have hE4:=hide (hEm.out.below hb4.out (by omega))
         have hbw4:=hide hE4.out.low
         have hzw:=hbw4.out.size
         have hL42:=hL4.out
         rw [List.take_of_length_le (Nat.le_of_eq (atL_len _ _ _ _ _ _))] at hL42
         obtain ⟨ga,rfl,_,_,_⟩:=hL42.form hd0
         have hI2:=hL42.ints2B (hbw4.out.mono hh2) (by omega)
         have HFA:=hide (impl_fieldAlong o P dim cP ps lo hi ga c4 _ 0 wr.heap.size n wr (HP.out.below hbw4.out hh) hI2 (by omega) (lR _) HG.out (atL_num (fun i s=>rowJ (tA i) S s) (itJ n S ps yss tA t) s HN.out hyl.out) hd0 hd6 hn0 hn)
         have HLm:=hide (hL.out.below hb4.out (lR _))
         have u0:=hE4.out.fld.c 0 rfl
         have u1:=hE4.out.fld.c 1 rfl
         have Hb4:=hide (hb.out.trans (hb4.out.mono hzm))
         clear hL4 hL42 hI2 hL hE4
         go_wp2_with (first
          | (go_at_call 84;refine HFA.out.mono ?_;rintro e w7 ⟨g7,c7,rfl,hI7,hb7⟩;have hz7:=hb7.size;have HL7:=hide (HLm.out.below hb7 (by omega));have HI7:=hide hI7;have Hb7:=hide (Hb4.out.trans (hb7.mono (by omega)));clear HFA hI7 hb7)
          | (at_builtin;refine wpl_app1 rfl (.tmp 79) (.tmp 83) 104 rfl wo.heap.size 73 i2 (.slice none 0 0) 1 24 Tryz.underlying104 hi2' hx0 hx1 hx2 rfl (by omega) w7 #[.slice (some ⟨g7,0,none⟩) dim c7] A2 s c2 1 _ rfl rfl HL7.out.own rfl (by simp [Value.oneCell']) (by omega) (by omega) (by omega) ?_;intro A5 c5 w5 happ5 hlt5;have hL5:=hide (HL7.out.push (l:=wr.heap.size) (h':=w7.heap.size) (x:=valL n ps (atL dim S yss (fun i s=>rowJ (tA i) S s) (itJ n S ps yss tA t) s)) ⟨some ⟨g7,0,none⟩,dim,c7,rfl,HI7.out⟩ hz4 (lR _) hzm (by omega) happ5);have hb5:=hide (happ5.low Hb7.out (by omega) (lR _) HL7.out.own);clear happ5))
         rw [hT.out] at hL5
         refine ⟨⟨s+1,A5,c5,_,by omega,by go_num,rfl,hL5.out,hb5.out⟩,?_⟩
         simp [intOf];omega
      ·obtain rfl:S=s:=by omega
       have hL2:=hL.out
       rw [List.take_of_length_le (Nat.le_of_eq htl.out)] at hL2
       have hI3:=hL2.ints3
       have hB4:=hB.out.below hb.out
       have hE4:=hE.out.below hb.out (by omega)
       have HI5:=hide (hI3.same (Same.setCell (p:=⟨g9,0,none⟩) (Same.refl _ _ _) (.inl hg9) (.slice A2 S c2)))
       have sz5:(wm.setCell ⟨g9,0,none⟩ (.slice A2 S c2)).heap.size=wm.heap.size:=by simp [World.setCell]
       rw [← sz5] at HI5
       have HE5:=hide (hE4.far (p:=⟨g9,0,none⟩) (by have h1:=hg9w.out;show w.heap.size+1<g9;omega) (.slice A2 S c2))
       have HB5:Hid (BlkN (wm.setCell ⟨g9,0,none⟩ (.slice A2 S c2)) g9 #[.slice A2 S c2]):=hB4.set 0 (.slice A2 S c2)
       have u9:=hB4.c 0 rfl
       have f9:=hB4.f 0
       clear hL hL2 hI3 hB4 hE4 sz5
       go_wp2_with fail
       go_roundw
       case rel=>exact ⟨t+1,A2,c2,wo.heap.size,by omega,by go_num,HI5.out,HE5.out,HB5.out⟩
       case measure=>simp [intOf];omega
    ·obtain rfl:n=t:=by omega
     have hb2:=hide (below_alloc wo (.cells #[] 77))
     have hL2:=hide ((Lst.empty (kB w lo2 hi2) 77 (fun _=>True) wo wo.heap.size (lR _)).wide (hi2:=(wo.alloc (.cells #[] 77)).heap.size) (by simp))
     have u5:=(hE.out.pth.below hb2.out).c 0 rfl
     have htl:Hid ((outJ n dim S ps yss tA tB).length=dim):=outJ_len _ _ _ _ _ _ _
     go_wp2_with fail
     clear u5
     generalize wo.alloc (.cells #[] 77)=W3 at hb2 hL2 ⊢
     go_loopw [16,91] (fun p z wr=>∃ (q:Nat) (A:Option Addr) (c:Nat) (vs:List Value),q≤dim∧z = .int .i64 q∧p = .slice A q c∧Hid (Lst (kB w lo2 hi2) 77 (fun _=>True) wr wo.heap.size wr.heap.size A q c vs ((outJ n dim S ps yss tA tB).take q))∧Hid (Below wo.heap.size wo wr)) (fun _ z _=>dim - (intOf z).toNat)
     case atStart=>exact ⟨0,_,_,[],by omega,rfl,rfl,hL2.out,hb2.out⟩
     case round =>
      clear hb2 hL2
      obtain ⟨q,A4,c4,vs4,hq,rfl,rfl,hL4,hb4⟩:=hrel
      have hz4:=hb4.out.size
      have hc4:=hL4.out.capb
      have hE4:=hide (hE.out.below hb4.out (by omega))
      have hbw4:=hide hE4.out.low
      have hzw:=hbw4.out.size
      by_cases hlt3:q<dim
      ·have hB4:=hide (hB.out.below hb4.out)
       have HI4:=hide (HI3.out.below hb4.out (lR _))
       obtain ⟨AA,cA,BB,cB,t0,t1,t2,hIA,hIB,hform⟩:=HT.out q hlt3
       have v2:=(hbw4.out.cell (p:=⟨gO,q*3+2,none⟩) hgO).trans t2
       have hyq:yss[q]? = some (yss.getD q []):=by
        have:=hyl.out
        rw [List.getD,List.getElem?_eq_getElem (by omega)];rfl
       have hTq:Hid ((outJ n dim S ps yss tA tB).take q++[accJ (yss.getD q []) (fun s'=>((stJ S dim (itJ n S ps yss tA n)).getD s' []).getD q []) (tB q) S]=(outJ n dim S ps yss tA tB).take (q+1)):=by
        show _=_
        rw [acc_congr (v':=fun s'=>itJ n S ps yss tA n s' q) _ _ _ (fun s' hs'=>stJ_at _ hs' hlt3)]
        exact take_snocJ (outJ_at _ _ _ _ hlt3)
       have HAD2:=hide (impl_add (w.heap.size+1) g9 gy dim cy yss lo2 hi2 n q BB S cB (tB q) lo3 hi3 A S c (stJ S dim (itJ n S ps yss tA n)) l3 wo.heap.size (yss.getD q []) wr
        (hE4.out.pth.c 0 rfl) (hB4.out.c 0 rfl) (HY.out.below hbw4.out hh2) (hIB.below hbw4.out hh3) HI4.out (by omega) (by omega) hz4 HN.out (it_st3 _ _ _ _ _ _ _) (lR _) hlt3 hd6 hn (by omega) hyq)
       have hIBc:=hIB.cap
       have hIBm:=hIB.max
       clear t0 t1 t2 hIA hIB hform hE4 hB4 HI4 hyq
       go_wp2_with (first
        | (go_at_call 82;refine HAD2.out.mono ?_;rintro e w7 ⟨B7,d7,rfl,hI7,hb7⟩;have hz7:=hb7.size;have HL7:=hide (hL4.out.below hb7 (lR _));have HI7:=hide (kB_of (w:=w) (lo:=lo2) (hi:=hi2) hI7 hbw4.out hh2);have Hb7:=hide (hb4.out.trans (hb7.mono hz4));clear HAD2 hI7 hb7)
        | (at_builtin;refine wpl_app1 rfl (.tmp 94) (.tmp 103) 73 rfl wo.heap.size 77 i1 (.slice none 0 0) 1 24 Tryz.underlying73 hi1 hy0 hy1 hy2 rfl (by omega) w7 #[.slice B7 n d7] A4 q c4 1 _ rfl rfl HL7.out.own rfl (by simp [Value.oneCell']) (by omega) (by omega) (by omega) ?_;intro A5 c5 w5 happ5 hlt5;have hL5:=hide (HL7.out.push (l:=wr.heap.size) (h':=w7.heap.size) (x:=accJ (yss.getD q []) (fun s'=>((stJ S dim (itJ n S ps yss tA n)).getD s' []).getD q []) (tB q) S) ⟨B7,n,d7,rfl,HI7.out⟩ (lR _) (lR _) hz4 hz7 happ5);have hb5:=hide (happ5.low Hb7.out (by omega) (lR _) HL7.out.own);clear happ5))
       rw [hTq.out] at hL5
       refine ⟨⟨q+1,A5,c5,_,by omega,by go_num,rfl,hL5.out,hb5.out⟩,?_⟩
       simp [intOf];omega
      ·obtain rfl:dim=q:=by omega
       have hL42:=hL4.out
       rw [List.take_of_length_le (Nat.le_of_eq htl.out)] at hL42
       obtain ⟨ga,rfl,_,_,_⟩:=hL42.form hd0
       have HI2:=hide (hL42.ints2B (hbw4.out.mono hh2) (by omega))
       clear hL4 hL42
       go_wp2_with fail
       go_ret
       exact ⟨_,_,rfl,HI2.out,hbw4.out⟩
end Go.Proofs.YtomgcbfcnjbofaaGreat
