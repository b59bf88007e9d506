/- A polynomial in twice as many variables: the program's walk. -/
import Derived.Test.YtomgcbfcnjbofaaGreatCjC
import Derived.Test.YtomgcbfcnjbofaaGreatMgI
import Derived.Test.YtomgcbfcnjbofaaGreatMgN
import Derived.Test.YtomgcbfcnjbofaaGreatMgH
import Derived.Test.YtomgcbfcnjbofaaGreatMgC
namespace Go.Proofs.YtomgcbfcnjbofaaGreat
open Go.RowKit
open List renaming setIfInBounds_toArray → sTA, set_cons_zero → sC0, set_cons_succ → sC1, getElem_toArray → gTA, getElem_cons_zero → gC0, getElem_cons_succ → gC1
open Nat renaming le_refl → lR
set_option linter.unusedSimpArgs false
set_option linter.unusedVariables false
set_option maxRecDepth 20000
theorem OwnI.lowC {w:World} {lo hi n c:Nat} {A:Option Addr} {xs:List Int} (h:OwnI w lo hi A n c xs) {lo':Nat} (hl:lo'≤lo):OwnI w lo' hi A n c xs:=⟨owns_low h.own hl,h.lt,h.rng⟩
theorem newM_store2 {V w5:World} {m d3 b:Nat} {B3:Option Addr} {xs:List Int} {x0 y0:Value} (co:Int) (hO:OwnI w5 V.heap.size w5.heap.size B3 m d3 xs) (hb:Below V.heap.size V w5) (kb:BlkN w5 b #[x0,y0]) (hVb:V.heap.size≤b) (hne:∀ ad,B3=some ad→ad.block≠b) :
  Hid (NewM V ((w5.setCell ⟨b,0,none⟩ (.int .i64 co)).setCell ⟨b,1,none⟩ (.slice B3 m d3)) (.pointer (some ⟨b,0,none⟩)) co m xs):=by
 have k2:=(kb.set 0 (.int .i64 co)).set 1 (.slice B3 m d3)
 simp only [sTA,sC0,sC1] at k2
 have o1:=owns_setCell hO.own (p:=⟨b,0,none⟩) (fun ad e=>hne ad e) (.int .i64 co)
 have o2:=owns_setCell o1 (p:=⟨b,1,none⟩) (fun ad e=>hne ad e) (.slice B3 m d3)
 exact ⟨b,B3,d3,rfl,k2,⟨o2,fun ad e=>(owns_lt o2 ad e).2,hO.rng⟩,(hb.setCell (p:=⟨b,0,none⟩) hVb _).setCell (p:=⟨b,1,none⟩) hVb _,hne,hVb⟩
def wv (v:Int) (e:List Int):List Int:=if 0≤v then (e++[0,0]).set v.toNat ((e++[0,0]).getD v.toNat 0+1) else e++[0,0]
def wideL (ms:List Mono) (v:Int):List Mono:=ms.map fun m=>(m.1,wv v m.2)
theorem wideL_none (ms:List Mono):wideL ms (-1)=wide0 ms:=rfl
theorem wideL_up (ms:List Mono) (k:Nat):wideL ms (2+k:Nat)=wide1 ms k:=by
 unfold wideL wide1
 refine List.map_congr_left fun m _=>?_
 unfold wv up1
 rw [if_pos (by omega),Int.toNat_natCast]
set_option maxRecDepth 100000 in
set_option maxHeartbeats 8000000 in
theorem impl_wide (P:Option Addr) (n c:Nat) (ms:List Mono) (v:Int) (gf lo hi:Nat) (w:World) (h:Mons w lo hi P n c ms) (hh:hi≤w.heap.size) (hn:n≤549755813888) (hv0 : -1≤v) (hv4:v<4) (hf:w.cell? ⟨gf,0,none⟩=some (.int .i64 2)) (hv:∀ m∈ms,m.2.length=2∧∀ x∈m.2,0≤x∧x≤1048576) :
  Calls Tryz.prog 42 #[.slice P n c,.int .i64 v,.pointer (some ⟨gf,0,none⟩)] w fun e w'=>∃ A' c' es,e = .returned (.slice A' n c')∧LstE w' w.heap.size w'.heap.size A' n c' es∧es.map El.mono=wideL ms v∧Below w.heap.size w w':=by
 obtain ⟨i0,hi0,hz0,hz1,hz2⟩:=info_parts info_mono
 have hcp:=h.cap
 have hmx:=h.max
 have hgf:=World.block_lt_of_cell? _ _ hf
 have HP:=hide h
 have HV:=hide hv
 have HFc:=hide hf
 have hb0:=hide (below_alloc w (.cells #[] 67))
 have hE0:=hide (LstE.empty w w.heap.size (lR _))
 have hz:(w.alloc (.cells #[] 67)).heap.size=w.heap.size+1:=by simp
 rw [← hz] at hE0
 clear h hv hz hf
 go_enter Tryz.func42,Tryz.ntmps42
 go_wp2_with fail
 generalize w.alloc (.cells #[] 67)=W0 at hb0 hE0 ⊢
 go_loopw [6,13] (fun o i wr=>∃ (k c':Nat) (A':Option Addr) (es:List El),k≤n∧i = .int .i64 k∧o = .slice A' k c'∧Hid (LstE wr w.heap.size wr.heap.size A' k c' es)∧Hid (es.map El.mono=wideL (ms.take k) v)∧Hid (Below w.heap.size w wr)) (fun _ i _=>n - (intOf i).toNat)
 case atStart=>exact ⟨0,0,_,[],by omega,rfl,rfl,hE0.out,rfl,hb0.out⟩
 case round =>
  clear hE0 hb0
  obtain ⟨k,c',A',es,hk,rfl,rfl,hE,hM,hb⟩:=hrel
  have hsz:=hb.out.size
  by_cases hlt:k<n
  ·obtain ⟨ad,x,B,m,d,xs,rfl,hc1,hc2,hxr,hI,_,hx⟩:=(HP.out.below hb.out hh).at_ hlt
   obtain ⟨hml2,hxb⟩:=HV.out _ (List.mem_of_getElem? hx.out)
   simp only at hml2 hxb
   have hml3:xs.length≤2∧2≤xs.length:=by omega
   clear hml2
   obtain rfl:m=xs.length:=hI.len.symm
   have hml:xs.length≤1048576:=by omega
   have a1:=below_alloc wr (.cells #[.int .i64 x,.slice B xs.length d] 67)
   have j0:=BlkN.new wr #[.int .i64 x,.slice B xs.length d] 67
   have d1:Below wr.heap.size wr (wr.alloc (.cells #[.int .i64 x,.slice B xs.length d] 67)).drew:=a1.drew
   have z1:wr.heap.size<(wr.alloc (.cells #[.int .i64 x,.slice B xs.length d] 67)).drew.heap.size:=by show wr.heap.size<(wr.alloc (.cells #[.int .i64 x,.slice B xs.length d] 67)).heap.size;simp
   have HIV:=hide (hI.below d1 (by omega))
   have HEV:=hide (hE.out.below d1 (lR _))
   have HB0:=hide (hb.out.trans (d1.mono hsz))
   have HJV:=hide j0.drew
   have HXR:=hide hxr
   have HXB:=hide hxb
   have hfV:=(HB0.out.cell (p:=⟨gf,0,none⟩) hgf).trans HFc.out
   have hcb:=hE.out.capb
   have hdc:=hI.cap
   have hdm:=hI.max
   clear a1 j0 d1 hI hE hb hxr hxb
   go_upto_region 5 with fail
   clear hc1 hc2
   obtain ⟨V,hV⟩:∃ z,z=(wr.alloc (.cells #[.int .i64 x,.slice B xs.length d] 67)).drew:=⟨_,rfl⟩
   rw [← hV] at HIV HEV HB0 HJV hfV z1
   obtain ⟨q,hq⟩:∃ q,q=wr.heap.size:=⟨_,rfl⟩
   rw [← hq] at HEV HJV hsz z1 ⊢
   have hhq:hi≤V.heap.size:=by omega
   clear hq
   go_cut [9] (fun s9 wx=>Hid (NewM V wx s9 x (xs.length+2) (xs++[0,0])))
   case first =>
    as_aux_lemma =>
    refine wp_region_Z (fun W'=>W'.cell? ⟨q,0,none⟩=some (.int .i64 x)∧W'.cell? ⟨q,1,none⟩=some (.slice B xs.length d)∧W'.cell? ⟨gf,0,none⟩=some (.int .i64 2)) 10 (by kernel_rfl) ?_
    simp only [List.size_toArray,List.length_cons,List.length_nil,Nat.reduceAdd]
    rw [← hV]
    have hS0:V.cell? ⟨q,0,none⟩=some (.int .i64 x)∧V.cell? ⟨q,1,none⟩=some (.slice B xs.length d)∧V.cell? ⟨gf,0,none⟩=some (.int .i64 2):=⟨HJV.out.c 0 rfl,HJV.out.c 1 rfl,hfV⟩
    have HBV:Hid (Below V.heap.size V V):=Below.refl _ _
    clear hV
    refine wpAnyZ_takeW 0 (.pointer (some ⟨q,0,none⟩)) rfl (by kernel_rfl) (by kernel_rfl) (fun _ _ _ h=>h) (by rfl) (fun _=>by first | (simp [go_sem];done) | go_simp) hS0 ?_
    try simp only [Act.put,sTA,sC0,sC1,gTA,gC0,gC1]
    refine wpAnyZ_take 1 (.int .i64 x) rfl (by kernel_rfl) (by kernel_rfl) (fun _ _ _ h=>h) (by rfl) (fun _ hS=>by have q0:=hS.1;clear hS;first | (simp [go_sem,q0];done) | go_simp) hS0 ?_
    try simp only [Act.put,sTA,sC0,sC1,gTA,gC0,gC1]
    refine wpAnyZ_takeW 2 (.pointer (some ⟨q,1,none⟩)) rfl (by kernel_rfl) (by kernel_rfl) (fun _ _ _ h=>h) (by rfl) (fun _=>by first | (simp [go_sem];done) | go_simp) hS0 ?_
    try simp only [Act.put,sTA,sC0,sC1,gTA,gC0,gC1]
    refine wpAnyZ_take 3 (.slice B xs.length d) rfl (by kernel_rfl) (by kernel_rfl) (fun _ _ _ h=>h) (by rfl) (fun _ hS=>by have q0:=hS.2.1;clear hS;first | (simp [go_sem,q0];done) | go_simp) hS0 ?_
    try simp only [Act.put,sTA,sC0,sC1,gTA,gC0,gC1]
    refine wpAnyZ_takeW 5 (.pointer (some ⟨gf,0,none⟩)) rfl (by kernel_rfl) (by kernel_rfl) (fun _ _ _ h=>h) (by rfl) (fun _=>by first | (simp [go_sem];done) | go_simp) hS0 ?_
    try simp only [Act.put,sTA,sC0,sC1,gTA,gC0,gC1]
    refine wpAnyZ_take 6 (.int .i64 2) rfl (by kernel_rfl) (by kernel_rfl) (fun _ _ _ h=>h) (by rfl) (fun _ hS=>by have q0:=hS.2.2;clear hS;first | (simp [go_sem,q0];done) | go_simp) hS0 ?_
    try simp only [Act.put,sTA,sC0,sC1,gTA,gC0,gC1]
    refine wpAnyZ_two 4 9 (by kernel_rfl) rfl rfl (by rfl) (by rfl) (fun K hK=>?_) (fun K hK=>?_)
    ·
     go_simp
     refine (slices_Clone B xs.length d xs lo hi V (HIV.out.below HBV.out (by omega)) (by have:=HBV.out.size;omega) hml).mono ?_
     rintro e x2 ⟨B3,d3,rfl,o3,b3⟩
     have HO3:=hide (OwnI.lowC o3 (HBV.out.size:V.heap.size≤V.heap.size))
     have HOg:=hide o3
     have HBc:=hide (HBV.out.trans (b3.mono HBV.out.size))
     have hzc:=b3.size
     have hSc:=And.intro ((HBc.out.cell (p:=⟨q,0,none⟩) (World.block_lt_of_cell? _ _ hS0.1)).trans hS0.1) (And.intro ((HBc.out.cell (p:=⟨q,1,none⟩) (World.block_lt_of_cell? _ _ hS0.2.1)).trans hS0.2.1) ((HBc.out.cell (p:=⟨gf,0,none⟩) (World.block_lt_of_cell? _ _ hS0.2.2)).trans hS0.2.2))
     clear o3 b3
     go_wp2_with fail
     refine hK.out _ _ hSc ?_
     clear hK K
     try simp only [Act.put,sTA,sC0,sC1,gTA,gC0,gC1]
     refine wpAnyZ_two 7 9 (by kernel_rfl) rfl rfl (by rfl) (by rfl) (fun K hK=>?_) (fun K hK=>?_)
     ·
      refine owp_appZ (.tmp 21) (.tmp 23) rfl x2 V.heap.size B3 xs.length d3 _ rfl HO3.out.own 2 rfl (by omega) HBc.out.size ?_
      intro A4 c4 w5 happ
      have HB5:=hide (happ.low HBc.out HBc.out.size (lR _) HO3.out.own)
      have HO5:Hid (OwnI w5 V.heap.size w5.heap.size A4 (xs.length+2) c4 (xs++[0,0])):=⟨by rw [List.map_append];exact happ.1,fun ad e=>(owns_lt happ.1 ad e).2,fun y hy=>by
       rcases List.mem_append.1 hy with h1 | h1
       ·exact HO3.out.rng y h1
       ·obtain rfl:y=0:=(by simpa using h1)
        constructor <;> omega⟩
      have hS5:=And.intro ((HB5.out.cell (p:=⟨q,0,none⟩) (World.block_lt_of_cell? _ _ hS0.1)).trans hS0.1) (And.intro ((HB5.out.cell (p:=⟨q,1,none⟩) (World.block_lt_of_cell? _ _ hS0.2.1)).trans hS0.2.1) ((HB5.out.cell (p:=⟨gf,0,none⟩) (World.block_lt_of_cell? _ _ hS0.2.2)).trans hS0.2.2))
      clear happ
      refine hK.out _ _ hS5 ?_
      clear hK K
      try simp only [Act.put,sTA,sC0,sC1,gTA,gC0,gC1]
      refine wpAnyZ_takeW 8 (.agg #[.int .i64 x,.slice A4 (xs.length+2) c4]) rfl (by kernel_rfl) (by kernel_rfl) (fun _ _ _ h=>h) (by rfl) (fun _=>by first | (simp [go_sem];done) | go_simp) hS5 ?_
      try simp only [Act.put,sTA,sC0,sC1,gTA,gC0,gC1]
      refine wpAnyZ_one 9 (by kernel_rfl) rfl (by rfl) (fun K hK=>?_)
      go_simp
      have aE:=below_alloc w5 (.cells #[.int .i64 0,.slice none 0 0] 67)
      have HBe:=hide (HB5.out.trans (aE.mono HB5.out.size))
      have HZ:=hide (BlkN.new w5 #[.int .i64 0,.slice none 0 0] 67)
      have hzE:=HB5.out.size
      have hSe:=And.intro ((HBe.out.cell (p:=⟨q,0,none⟩) (World.block_lt_of_cell? _ _ hS0.1)).trans hS0.1) (And.intro ((HBe.out.cell (p:=⟨q,1,none⟩) (World.block_lt_of_cell? _ _ hS0.2.1)).trans hS0.2.1) ((HBe.out.cell (p:=⟨gf,0,none⟩) (World.block_lt_of_cell? _ _ hS0.2.2)).trans hS0.2.2))
      have HOe:=hide ((HO5.out.below aE (lR _)).wide (lR _) aE.size)
      have hneE:∀ ad,A4=some ad→ad.block≠w5.heap.size:=fun ad e=>by have:=HO5.out.lt ad e;omega
      clear aE
      refine hK.out _ _ hSe ?_
      obtain ⟨we,hwe⟩:∃ z,z=w5.alloc (.cells #[.int .i64 0,.slice none 0 0] 67):=⟨_,rfl⟩
      obtain ⟨b,hb0⟩:∃ z,z=w5.heap.size:=⟨_,rfl⟩
      have hVb:V.heap.size≤b:=by rw [hb0];exact hzE
      rw [← hwe] at HBe HZ hSe HOe ⊢
      rw [← hb0] at HZ hneE ⊢
      have hne5:=hneE
      clear hneE
      clear hwe hb0 hzE
      clear hK K
      try simp only [Act.put,sTA,sC0,sC1,gTA,gC0,gC1]
      have g0:=HZ.out.c 0 rfl
      have g1:=HZ.out.c 1 rfl
      have g2:=HZ.out.f 0
      have g3:=HZ.out.f 1
      have g4:=HZ.out.lt
      refine wpAnyZ_last (by kernel_rfl) rfl (by kernel_rfl) (by rfl) (fun K hK=>?_)
      go_simp
      refine hK _ _ ?_
      clear hK K
      go_wp2_with fail
      go_meet
      case rel=>exact newM_store2 x HOe.out HBe.out HZ.out hVb hne5
     ·
      go_simp
      have aE:=below_alloc x2 (.cells #[.int .i64 0,.slice none 0 0] 67)
      have HBe:=hide (HBc.out.trans (aE.mono HBc.out.size))
      have HZ:=hide (BlkN.new x2 #[.int .i64 0,.slice none 0 0] 67)
      have hzE:=HBc.out.size
      have hSe:=And.intro ((HBe.out.cell (p:=⟨q,0,none⟩) (World.block_lt_of_cell? _ _ hS0.1)).trans hS0.1) (And.intro ((HBe.out.cell (p:=⟨q,1,none⟩) (World.block_lt_of_cell? _ _ hS0.2.1)).trans hS0.2.1) ((HBe.out.cell (p:=⟨gf,0,none⟩) (World.block_lt_of_cell? _ _ hS0.2.2)).trans hS0.2.2))
      have HOe:=hide ((HO3.out.below aE (lR _)).wide (lR _) aE.size)
      have hneE:∀ ad,B3=some ad→ad.block≠x2.heap.size:=fun ad e=>by have:=HO3.out.lt ad e;omega
      clear aE
      refine hK.out _ _ hSe ?_
      obtain ⟨we,hwe⟩:∃ z,z=x2.alloc (.cells #[.int .i64 0,.slice none 0 0] 67):=⟨_,rfl⟩
      obtain ⟨b,hb0⟩:∃ z,z=x2.heap.size:=⟨_,rfl⟩
      have hVb:V.heap.size≤b:=by rw [hb0];exact hzE
      rw [← hwe] at HBe HZ hSe HOe ⊢
      rw [← hb0] at HZ hneE ⊢
      have hne3:=hneE
      clear hneE
      clear hwe hb0 hzE
      clear hK K
      try simp only [Act.put,sTA,sC0,sC1,gTA,gC0,gC1]
      refine wpAnyZ_one 7 (by kernel_rfl) rfl (by rfl) (fun K hK=>?_)
      refine owp_appZ (.tmp 21) (.tmp 23) rfl we V.heap.size B3 xs.length d3 _ rfl HOe.out.own 2 rfl (by omega) HBe.out.size ?_
      intro A4 c4 w5 happ
      have HB5:=hide (happ.low HBe.out HBe.out.size (lR _) HOe.out.own)
      have HO5:Hid (OwnI w5 V.heap.size w5.heap.size A4 (xs.length+2) c4 (xs++[0,0])):=⟨by rw [List.map_append];exact happ.1,fun ad e=>(owns_lt happ.1 ad e).2,fun y hy=>by
       rcases List.mem_append.1 hy with h1 | h1
       ·exact HOe.out.rng y h1
       ·obtain rfl:y=0:=(by simpa using h1)
        constructor <;> omega⟩
      have hS5:=And.intro ((HB5.out.cell (p:=⟨q,0,none⟩) (World.block_lt_of_cell? _ _ hS0.1)).trans hS0.1) (And.intro ((HB5.out.cell (p:=⟨q,1,none⟩) (World.block_lt_of_cell? _ _ hS0.2.1)).trans hS0.2.1) ((HB5.out.cell (p:=⟨gf,0,none⟩) (World.block_lt_of_cell? _ _ hS0.2.2)).trans hS0.2.2))
      have hblt:=HZ.out.lt
      have HZ5:=hide (HZ.out.same (happ.2.1.block b hblt (fun e=>by obtain ⟨ad,e1,e2⟩:=ownBlock_eq.1 e.symm;exact hne3 ad e1 e2)))
      have hne5:∀ ad,A4=some ad→ad.block≠b:=fun ad e=>by
       rcases happ.2.2 with h1 | h1
       ·exact hne3 ad (h1 ad e)
       ·have:=h1 ad e
        omega
      clear hblt
      clear happ
      refine hK.out _ _ hS5 ?_
      clear hK K
      try simp only [Act.put,sTA,sC0,sC1,gTA,gC0,gC1]
      refine wpAnyZ_takeW 8 (.agg #[.int .i64 x,.slice A4 (xs.length+2) c4]) rfl (by kernel_rfl) (by kernel_rfl) (fun _ _ _ h=>h) (by rfl) (fun _=>by first | (simp [go_sem];done) | go_simp) hS5 ?_
      try simp only [Act.put,sTA,sC0,sC1,gTA,gC0,gC1]
      have g0:=HZ5.out.c 0 rfl
      have g1:=HZ5.out.c 1 rfl
      have g2:=HZ5.out.f 0
      have g3:=HZ5.out.f 1
      have g4:=HZ5.out.lt
      refine wpAnyZ_last (by kernel_rfl) rfl (by kernel_rfl) (by rfl) (fun K hK=>?_)
      go_simp
      refine hK _ _ ?_
      clear hK K
      go_wp2_with fail
      go_meet
      case rel=>exact newM_store2 x HO5.out HB5.out HZ5.out hVb hne5
    ·
     go_simp
     have aE:=below_alloc V (.cells #[.int .i64 0,.slice none 0 0] 67)
     have HBe:=hide (HBV.out.trans (aE.mono HBV.out.size))
     have HZ:=hide (BlkN.new V #[.int .i64 0,.slice none 0 0] 67)
     have hzE:=HBV.out.size
     have hSe:=And.intro ((HBe.out.cell (p:=⟨q,0,none⟩) (World.block_lt_of_cell? _ _ hS0.1)).trans hS0.1) (And.intro ((HBe.out.cell (p:=⟨q,1,none⟩) (World.block_lt_of_cell? _ _ hS0.2.1)).trans hS0.2.1) ((HBe.out.cell (p:=⟨gf,0,none⟩) (World.block_lt_of_cell? _ _ hS0.2.2)).trans hS0.2.2))
     clear aE
     refine hK.out _ _ hSe ?_
     obtain ⟨we,hwe⟩:∃ z,z=V.alloc (.cells #[.int .i64 0,.slice none 0 0] 67):=⟨_,rfl⟩
     obtain ⟨b,hb0⟩:∃ z,z=V.heap.size:=⟨_,rfl⟩
     have hVb:V.heap.size≤b:=by rw [hb0];exact hzE
     rw [← hwe] at HBe HZ hSe ⊢
     rw [← hb0] at HZ ⊢
     clear hwe hb0 hzE
     clear hK K
     try simp only [Act.put,sTA,sC0,sC1,gTA,gC0,gC1]
     refine wpAnyZ_one 4 (by kernel_rfl) rfl (by rfl) (fun K hK=>?_)
     go_simp
     refine (slices_Clone B xs.length d xs lo hi we (HIV.out.below HBe.out (by omega)) (by have:=HBe.out.size;omega) hml).mono ?_
     rintro e x2 ⟨B3,d3,rfl,o3,b3⟩
     have HO3:=hide (OwnI.lowC o3 (HBe.out.size:V.heap.size≤we.heap.size))
     have HOg:=hide o3
     have HBc:=hide (HBe.out.trans (b3.mono HBe.out.size))
     have hzc:=b3.size
     have hSc:=And.intro ((HBc.out.cell (p:=⟨q,0,none⟩) (World.block_lt_of_cell? _ _ hS0.1)).trans hS0.1) (And.intro ((HBc.out.cell (p:=⟨q,1,none⟩) (World.block_lt_of_cell? _ _ hS0.2.1)).trans hS0.2.1) ((HBc.out.cell (p:=⟨gf,0,none⟩) (World.block_lt_of_cell? _ _ hS0.2.2)).trans hS0.2.2))
     have HZc:=hide (HZ.out.below b3)
     have hbW:b<we.heap.size:=HZ.out.lt
     have hne3:∀ ad,B3=some ad→ad.block≠b:=fun ad e=>by have:=(owns_lt o3.own ad e).1;omega
     clear o3 b3
     go_wp2_with fail
     refine hK.out _ _ hSc ?_
     clear hK K
     try simp only [Act.put,sTA,sC0,sC1,gTA,gC0,gC1]
     refine wpAnyZ_one 7 (by kernel_rfl) rfl (by rfl) (fun K hK=>?_)
     refine owp_appZ (.tmp 21) (.tmp 23) rfl x2 V.heap.size B3 xs.length d3 _ rfl HO3.out.own 2 rfl (by omega) HBc.out.size ?_
     intro A4 c4 w5 happ
     have HB5:=hide (happ.low HBc.out HBc.out.size (lR _) HO3.out.own)
     have HO5:Hid (OwnI w5 V.heap.size w5.heap.size A4 (xs.length+2) c4 (xs++[0,0])):=⟨by rw [List.map_append];exact happ.1,fun ad e=>(owns_lt happ.1 ad e).2,fun y hy=>by
      rcases List.mem_append.1 hy with h1 | h1
      ·exact HO3.out.rng y h1
      ·obtain rfl:y=0:=(by simpa using h1)
       constructor <;> omega⟩
     have hS5:=And.intro ((HB5.out.cell (p:=⟨q,0,none⟩) (World.block_lt_of_cell? _ _ hS0.1)).trans hS0.1) (And.intro ((HB5.out.cell (p:=⟨q,1,none⟩) (World.block_lt_of_cell? _ _ hS0.2.1)).trans hS0.2.1) ((HB5.out.cell (p:=⟨gf,0,none⟩) (World.block_lt_of_cell? _ _ hS0.2.2)).trans hS0.2.2))
     have hblt:=HZc.out.lt
     have HZ5:=hide (HZc.out.same (happ.2.1.block b hblt (fun e=>by obtain ⟨ad,e1,e2⟩:=ownBlock_eq.1 e.symm;exact hne3 ad e1 e2)))
     have hne5:∀ ad,A4=some ad→ad.block≠b:=fun ad e=>by
      rcases happ.2.2 with h1 | h1
      ·exact hne3 ad (h1 ad e)
      ·have:=h1 ad e
       omega
     clear hblt
     clear happ
     refine hK.out _ _ hS5 ?_
     clear hK K
     try simp only [Act.put,sTA,sC0,sC1,gTA,gC0,gC1]
     refine wpAnyZ_takeW 8 (.agg #[.int .i64 x,.slice A4 (xs.length+2) c4]) rfl (by kernel_rfl) (by kernel_rfl) (fun _ _ _ h=>h) (by rfl) (fun _=>by first | (simp [go_sem];done) | go_simp) hS5 ?_
     try simp only [Act.put,sTA,sC0,sC1,gTA,gC0,gC1]
     have g0:=HZ5.out.c 0 rfl
     have g1:=HZ5.out.c 1 rfl
     have g2:=HZ5.out.f 0
     have g3:=HZ5.out.f 1
     have g4:=HZ5.out.lt
     refine wpAnyZ_last (by kernel_rfl) rfl (by kernel_rfl) (by rfl) (fun K hK=>?_)
     go_simp
     refine hK _ _ ?_
     clear hK K
     go_wp2_with fail
     go_meet
     case rel=>exact newM_store2 x HO5.out HB5.out HZ5.out hVb hne5
   case rest =>
    obtain ⟨b,B3,d3,rfl,hB,hO,hbl,hne,hle⟩:=hcut.out
    clear hcut hV
    obtain ⟨g3,rfl,hg3,hg3h,hg3w⟩:=hO.form (by omega)
    have hgb:¬ b=g3:=fun e=>hne _ rfl e.symm
    have hdc3:=hO.cap
    have hdm3:=hO.max
    have HO:=hide hO
    have HB:=hide hB
    have HBL:=hide hbl
    clear hO hB hbl hne
    have hraise:∀ (W3:World) (zs:List Int),Hid (zs=wv v xs)→Hid (OwnI W3 V.heap.size W3.heap.size (some ⟨g3,0,none⟩) (xs.length+2) d3 zs)→Hid (BlkN W3 b #[.int .i64 x,.slice (some ⟨g3,0,none⟩) (xs.length+2) d3])→Hid (Below V.heap.size V W3)→True:=fun _ _ _ _ _ _=>trivial
    clear hraise
    by_cases hv1:0≤v
    ·have hvn:v=(v.toNat:Int):=by omega
     obtain ⟨vn,hvn2⟩:∃ z,z=v.toNat:=⟨_,rfl⟩
     have hvl:vn<xs.length+2:=by omega
     obtain ⟨p,hp⟩:∃ p,(xs++[0,0])[vn]? = some p:=⟨_,List.getElem?_eq_getElem (by simp;omega)⟩
     have hpb:0≤p∧p≤1048576:=by
      rcases List.mem_append.1 (List.mem_of_getElem? hp) with h1 | h1
      ·exact HXB.out p h1
      ·have:p=0:=by simpa using h1
       omega
     have hwvE:Hid (wv v xs=(xs++[0,0]).set vn (p+1)):=by
      show _=_
      rw [wv,if_pos hv1,← hvn2,List.getD_eq_getElem?_getD,hp]
      rfl
     have hvv:v=(vn:Int):=by omega
     clear hvn hvn2
     subst hvv
     have y0:=HB.out.c 1 rfl
     have y2:=(HO.out.own.cellAt vn (by simp;omega)).trans (by rw [List.getElem?_map,hp];rfl:((xs++[0,0]).map (Value.int .i64))[vn]? = some (.int .i64 p))
     have y3:=HO.out.own.frozenAt vn
     have hst:=(HO.out.own.stored vn (.int .i64 (p+1))).1
     rw [← List.map_set] at hst
     have hO2:OwnI (wc.setCell ⟨g3,vn,none⟩ (.int .i64 (p+1))) V.heap.size (wc.setCell ⟨g3,vn,none⟩ (.int .i64 (p+1))).heap.size (some ⟨g3,0,none⟩) (xs.length+2) d3 ((xs++[0,0]).set vn (p+1)) :=
      ⟨hst,fun ad e=>(owns_lt hst ad e).2,fun y hy=>by
       rcases List.mem_or_eq_of_mem_set hy with h1 | h1
       ·exact HO.out.rng y h1
       ·rw [h1];constructor <;> omega⟩
     have HO2:=hide hO2
     have HB2:=hide (HB.out.far (b:=g3) (i:=vn) hgb (.int .i64 (p+1)))
     have HBL2:=hide (HBL.out.setCell (p:=⟨g3,vn,none⟩) hg3 (.int .i64 (p+1)))
     have hw0:IntKind.i64.wrap (p+1)=p+1:=IntWalk.i64_in _ (by omega)
     have hnl:¬ ((xs.length:Int)+2≤(vn:Int)):=by omega
     clear hst hO2 hp HB HO HBL hg3w
     go_upto_region 8 with fail
     generalize wc.setCell ⟨g3,vn,none⟩ (.int .i64 (p+1))=W3 at HO2 HB2 HBL2 ⊢
     clear y0 y2 y3 hw0 hnl
     have hE3:=hide (HEV.out.below HBL2.out (by omega))
     have hb3:=hide (HB0.out.trans (HBL2.out.mono HB0.out.size))
     have z3:=HBL2.out.size
     have hw3:=hb3.out.size
     have r0:=HB2.out.c 0 rfl
     have r1:=HB2.out.c 1 rfl
     have hq3:V.heap.size≤W3.heap.size:=by omega
     have hwrV:q≤V.heap.size:=by omega
     go_wp2_with (at_builtin;refine wpl_app1b rfl (.tmp 35) (.tmp 37) 34 rfl w.heap.size 67 i0 (.agg #[.int .i64 0,.slice none 0 0]) 2 32 Tryz.underlying34 hi0 hz0 hz1 hz2 rfl (by omega) W3 #[.int .i64 x,.slice (some ⟨g3,0,none⟩) (xs.length+2) d3] _ rfl A' k c' 1 _ rfl rfl hE3.out.own rfl (by simp [Value.oneCell']) (by omega) (by omega) hw3 ?_;intro A2 c2 w4 happ hlt4)
     have hL:=hide (hE3.out.push (e:=⟨x,some ⟨g3,0,none⟩,xs.length+2,d3,(xs++[0,0]).set vn (p+1)⟩) HXR.out HO2.out.ints hwrV (lR _) hsz (by omega) happ)
     have hB4:=hide (happ.low hb3.out hw3 (lR _) hE3.out.own)
     have hM4:Hid ((es++[(⟨x,some ⟨g3,0,none⟩,xs.length+2,d3,(xs++[0,0]).set vn (p+1)⟩:El)]).map El.mono=wideL (ms.take (k+1)) (vn:Int)):=by
      show _=_
      rw [List.map_append,hM.out,List.take_add_one,hx.out,wideL,wideL,List.map_append]
      show _=_++[(x,wv (vn:Int) xs)]
      rw [hwvE.out]
      rfl
     clear happ hE3 HO2 HB2 HBL2 hb3 r0 r1 hM hx
     go_wp2_with fail
     go_roundw
     case rel=>exact ⟨k+1,c2,A2,_,by omega,by go_num,rfl,hL.out,hM4.out,hB4.out⟩
     case measure=>simp [intOf];omega
    ·have hwvE:Hid (wv v xs=xs++[0,0]):=by
      show _=_
      rw [wv,if_neg hv1]
     have HO2:=HO
     have HB2:=HB
     have HBL2:=HBL
     clear HO HB HBL
     go_upto_region 8 with fail
     obtain ⟨W3,hW3⟩:∃ z,z=wc:=⟨_,rfl⟩
     subst hW3
     have hE3:=hide (HEV.out.below HBL2.out (by omega))
     have hb3:=hide (HB0.out.trans (HBL2.out.mono HB0.out.size))
     have z3:=HBL2.out.size
     have hw3:=hb3.out.size
     have r0:=HB2.out.c 0 rfl
     have r1:=HB2.out.c 1 rfl
     have hq3:V.heap.size≤W3.heap.size:=by omega
     have hwrV:q≤V.heap.size:=by omega
     go_wp2_with (at_builtin;refine wpl_app1b rfl (.tmp 35) (.tmp 37) 34 rfl w.heap.size 67 i0 (.agg #[.int .i64 0,.slice none 0 0]) 2 32 Tryz.underlying34 hi0 hz0 hz1 hz2 rfl (by omega) W3 #[.int .i64 x,.slice (some ⟨g3,0,none⟩) (xs.length+2) d3] _ rfl A' k c' 1 _ rfl rfl hE3.out.own rfl (by simp [Value.oneCell']) (by omega) (by omega) hw3 ?_;intro A2 c2 w4 happ hlt4)
     have hL:=hide (hE3.out.push (e:=⟨x,some ⟨g3,0,none⟩,xs.length+2,d3,xs++[0,0]⟩) HXR.out HO2.out.ints hwrV (lR _) hsz (by omega) happ)
     have hB4:=hide (happ.low hb3.out hw3 (lR _) hE3.out.own)
     have hM4:Hid ((es++[(⟨x,some ⟨g3,0,none⟩,xs.length+2,d3,xs++[0,0]⟩:El)]).map El.mono=wideL (ms.take (k+1)) v):=by
      show _=_
      rw [List.map_append,hM.out,List.take_add_one,hx.out,wideL,wideL,List.map_append]
      show _=_++[(x,wv v xs)]
      rw [hwvE.out]
      rfl
     clear happ hE3 HO2 HB2 HBL2 hb3 r0 r1 hM hx
     go_wp2_with fail
     go_roundw
     case rel=>exact ⟨k+1,c2,A2,_,by omega,by go_num,rfl,hL.out,hM4.out,hB4.out⟩
     case measure=>simp [intOf];omega
  ·obtain rfl:n=k:=by omega
   have hle:es.map El.mono=wideL ms v:=by
    rw [hM.out,List.take_of_length_le (Nat.le_of_eq HP.out.len)]
   have HLE:=hide hle
   clear hle
   go_wp2_with fail
   go_ret
   exact ⟨_,_,es,rfl,hE.out,HLE.out,hb.out⟩
end Go.Proofs.YtomgcbfcnjbofaaGreat
