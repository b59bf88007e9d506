/- A tableau with random elements: the reference's walk. -/
import Derived.Test.YtomgcbfcnjbofaaGreatMgZD
import Derived.Test.YtomgcbfcnjbofaaGreatMgC
import Derived.Test.YtomgcbfcnjbofaaGreatMgH
import Derived.Test.YtomgcbfcnjbofaaGreatMgJ
namespace Go.Proofs.YtomgcbfcnjbofaaGreat
open Go.RowKit
open List renaming setIfInBounds_toArray → sTA, set_cons_zero → sC0, set_cons_succ → sC1, getElem_toArray → gTA, getElem_cons_zero → gC0, getElem_cons_succ → gC1
set_option linter.unusedSimpArgs false
set_option linter.unusedVariables false
set_option maxRecDepth 20000
theorem below_drew {B:Nat} {a w:World} (h:Below B a w):Below B a w.drew:=h.drew
theorem Cur.stored {w w':World} {hi gc B:Nat} (h:Cur w hi gc) (hb:Below B w w') (hB:gc<B):Cur w' hi gc:=h.low hb hB
set_option maxRecDepth 100000 in
set_option maxHeartbeats 8000000 in
theorem spec_dExplicit (hiC gc st:Nat) (full:Bool) (w:World) (h:Cur w hiC gc) (hst:st≤8) :
  Calls Tryz.prog 53 #[.pointer (some ⟨gc,0,none⟩),.int .i64 (st:Int),.bool full] w fun e w'=>∃ A n c xs B m d ys,e = .returned (.agg #[.int .i64 (st:Int),.slice A n c,.slice B m d])∧n≤1000∧m≤1000∧TabR w w' A n c xs B m d ys∧Cur w' hiC gc∧Touch gc (gc+1) w w':=by
 obtain ⟨i0,hi0,hz0,hz1,hz2⟩:=info_parts info_int
 obtain ⟨hgc,hgh⟩:=h.lt
 have hT0:=hide (TabS.start (w:=w) (lo:=gc) (hi:=gc+1) (BlkN.new w #[.int .i64 0,.slice none 0 0,.slice none 0 0] 26) (Nat.le_refl _) ((Touch.refl gc (gc+1) w).alloc _) (by omega) (st:Int))
 have hC0:=hide ((h.below (below_alloc w (.cells #[.int .i64 0,.slice none 0 0,.slice none 0 0] 26))).below (below_alloc _ (.cells #[.int .i64 (st:Int),.slice none 0 0,.slice none 0 0] 26)))
 clear h
 go_enter Tryz.func53,Tryz.ntmps53
 go_wp2_with fail
 rw [show (w.alloc (.cells #[.int .i64 0,.slice none 0 0,.slice none 0 0] 26)).heap.size=w.heap.size+1 from by simp] at hT0
 generalize (w.alloc (.cells #[.int .i64 0,.slice none 0 0,.slice none 0 0] 26)).alloc (.cells #[.int .i64 (st:Int),.slice none 0 0,.slice none 0 0] 26)=W1 at hT0 hC0 ⊢
 obtain ⟨gr,hgr⟩:∃ z,z=w.heap.size:=⟨_,rfl⟩
 have HGR:Hid (gr=w.heap.size):=hgr
 have hgg:w.heap.size≤gr+1:=by omega
 have hT1:Hid (TabS gc (gc+1) w W1 gr (gr+1) (st:Int) none 0 0 [] none 0 0 []):=by rw [hgr];exact hT0.out
 rw [← hgr]
 clear hgr hT0
 obtain ⟨g,hg⟩:∃ z,z=gr+1:=⟨_,rfl⟩
 rw [← hg] at hT1 hgg ⊢
 clear hg
 go_loopw [8] (fun i wr=>∃ (k:Nat) (A:Option Addr) (n cA:Nat) (za:List Int) (B:Option Addr) (m cB:Nat) (zb:List Int),k≤st∧i = .int .i64 (k:Int)∧n≤8*k∧m≤k∧Hid (TabS gc (gc+1) w wr gr g (st:Int) A n cA za B m cB zb)∧Hid (Cur wr hiC gc)) (fun i _=>st - (intOf i).toNat)
 case atStart=>exact ⟨0,_,_,_,_,_,_,_,_,by omega,rfl,by omega,by omega,hT1.out,hC0.out⟩
 case round =>
  clear hT1 hC0
  obtain ⟨k,A,n,cA,za,B,m,cB,zb,hk,rfl,hn,hm,hT,hC⟩:=hrel
  by_cases hlt:k<st
  ·go_wp2_with fail
   go_loopw [9] (fun i wr=>∃ (j:Nat) (A:Option Addr) (n cA:Nat) (za:List Int),j≤st∧i = .int .i64 (j:Int)∧n≤8*k+j∧Hid (TabS gc (gc+1) w wr gr g (st:Int) A n cA za B m cB zb)∧Hid (Cur wr hiC gc)) (fun i _=>st - (intOf i).toNat)
   case atStart=>exact ⟨0,A,n,cA,za,by omega,rfl,by omega,hT.out,hC.out⟩
   case round =>
    clear hT hC hn
    obtain ⟨j,A,n,cA,za,hj,rfl,hn,hS,hC⟩:=hrel
    by_cases hlt2:j<st
    ·have hcap:=hS.out.ha.cap
     have hmax:=hS.out.ha.max
     cases full with
     | true =>
      go_upto_region 9 with fail
      refine wp_region_Z (fun W'=>W'.cell? ⟨g,1,none⟩=some (.slice A n cA)) 7 (by kernel_rfl) ?_
      simp only [List.size_toArray,List.length_cons,List.length_nil,Nat.reduceAdd]
      have SV:=hide (hS.out.touch (Touch.refl gc (gc+1) wr).drew)
      have HC:=hide (hC.out.low (below_drew (Below.refl wr.heap.size wr)) hC.out.lt.1)
      clear hS hC
      generalize wr.drew=V at SV HC ⊢
      have hS0:=SV.out.tab.c 1 rfl
      refine wpAnyZ_takeW 0 (.pointer (some ⟨g,1,none⟩)) rfl (by kernel_rfl) (by kernel_rfl) (fun _ _ _ h=>h) (by rfl) (fun _=>by first | (simp [go_sem];done) | go_simp) hS0 ?_
      try simp only [Act.put,sTA,sC0,sC1,gTA,gC0,gC1]
      refine wpAnyZ_take 1 (.slice A n cA) rfl (by kernel_rfl) (by kernel_rfl) (fun _ _ _ h=>h) (by rfl) (fun _ hS=>by have q0:=hS;clear hS;first | (simp [go_sem,q0];done) | go_simp) hS0 ?_
      try simp only [Act.put,sTA,sC0,sC1,gTA,gC0,gC1]
      refine wpAnyZ_takeW 2 (.pointer (some ⟨gc,0,none⟩)) rfl (by kernel_rfl) (by kernel_rfl) (fun _ _ _ h=>h) (by rfl) (fun _=>by first | (simp [go_sem];done) | go_simp) hS0 ?_
      try simp only [Act.put,sTA,sC0,sC1,gTA,gC0,gC1]
      refine wpAnyZ_one 3 (by kernel_rfl) rfl (by rfl) (fun K hK=>?_)
      go_simp
      refine (spec_dNum hiC gc V HC.out).mono ?_
      rintro e x1 ⟨x,rfl,hx0,hx1,hC1,ht1⟩
      have HC1:=hide hC1
      have SV1:=hide (SV.out.touch ht1)
      have hS1:=SV1.out.tab.c 1 rfl
      clear hC1 ht1
      go_wp2_with fail
      refine hK.out _ _ hS1 ?_
      clear hK K
      try simp only [Act.put,sTA,sC0,sC1,gTA,gC0,gC1]
      refine wpAnyZ_one 4 (by kernel_rfl) rfl (by rfl) (fun K hK=>?_)
      go_simp
      have hS2:=((below_alloc x1 (.cells #[.int .i64 x] 3)).cell (World.block_lt_of_cell? _ _ hS1)).trans hS1
      refine hK.out _ _ hS2 ?_
      clear hK K
      try simp only [Act.put,sTA,sC0,sC1,gTA,gC0,gC1]
      refine wpAnyZ_one 5 (by kernel_rfl) rfl (by rfl) (fun K hK=>?_)
      refine owp_appJ (.tmp 29) (.tmp 32) 24 rfl w.heap.size 3 i0 (.int .i64 0) 1 8 Tryz.underlying24 hi0 hz0 hz1 hz2 rfl (by omega) x1 #[.int .i64 x] _ rfl A n cA 1 _ rfl rfl SV1.out.ha.own rfl (by simp [Value.oneCell']) (by omega) (by omega) SV1.out.low.size ?_
      intro R3 c3 w5 happ hlt5
      have hK5:=hide (SV1.out.midA happ).1
      have HT5:=hide (SV1.out.pushA (ys:=[x]) (k:=1) (fun y hy=>by obtain rfl:y=x:=(by simpa using hy);exact ⟨by omega,by omega⟩) happ)
      have HB5:=hide (happ.low (B:=w.heap.size) (Below.refl w.heap.size x1) SV1.out.low.size (Nat.le_refl _) SV1.out.ha.own)
      have hS4:=hK5.out.c 1 rfl
      clear happ hlt5
      refine hK.out _ _ hS4 ?_
      clear hK K
      try simp only [Act.put,sTA,sC0,sC1,gTA,gC0,gC1]
      refine wpAnyZ_takeW 6 (.pointer (some ⟨g,1,none⟩)) rfl (by kernel_rfl) (by kernel_rfl) (fun _ _ _ h=>h) (by rfl) (fun _=>by first | (simp [go_sem];done) | go_simp) hS4 ?_
      try simp only [Act.put,sTA,sC0,sC1,gTA,gC0,gC1]
      have g0:=hK5.out.c 1 rfl
      have g1:=hK5.out.f 1
      refine wpAnyZ_last (by kernel_rfl) rfl (by kernel_rfl) (by rfl) (fun K hK=>?_)
      go_simp
      refine hK _ _ ?_
      clear hK K g0 g1 hS4 hK5
      have HC6:=hide (HC1.out.low (HB5.out.setCell (p:=⟨g,1,none⟩) hgg (.slice R3 (n+1) c3)) hgc)
      clear HC1 HB5 SV1 SV
      go_wp2_with fail
      go_roundw
      case rel=>exact ⟨j+1,R3,n+1,c3,za++[x],by omega,by go_num,by omega,HT5.out,HC6.out⟩
      case measure=>simp [intOf];omega
     | false =>
      by_cases hjk:j<k
      ·have hjk2:(j:Int)<(k:Int):=by omega
       go_upto_region 9 with fail
       refine wp_region_Z (fun W'=>W'.cell? ⟨g,1,none⟩=some (.slice A n cA)) 7 (by kernel_rfl) ?_
       simp only [List.size_toArray,List.length_cons,List.length_nil,Nat.reduceAdd]
       have SV:=hide (hS.out.touch (Touch.refl gc (gc+1) wr).drew)
       have HC:=hide (hC.out.low (below_drew (Below.refl wr.heap.size wr)) hC.out.lt.1)
       clear hS hC
       generalize wr.drew=V at SV HC ⊢
       have hS0:=SV.out.tab.c 1 rfl
       refine wpAnyZ_takeW 0 (.pointer (some ⟨g,1,none⟩)) rfl (by kernel_rfl) (by kernel_rfl) (fun _ _ _ h=>h) (by rfl) (fun _=>by first | (simp [go_sem];done) | go_simp) hS0 ?_
       try simp only [Act.put,sTA,sC0,sC1,gTA,gC0,gC1]
       refine wpAnyZ_take 1 (.slice A n cA) rfl (by kernel_rfl) (by kernel_rfl) (fun _ _ _ h=>h) (by rfl) (fun _ hS=>by have q0:=hS;clear hS;first | (simp [go_sem,q0];done) | go_simp) hS0 ?_
       try simp only [Act.put,sTA,sC0,sC1,gTA,gC0,gC1]
       refine wpAnyZ_takeW 2 (.pointer (some ⟨gc,0,none⟩)) rfl (by kernel_rfl) (by kernel_rfl) (fun _ _ _ h=>h) (by rfl) (fun _=>by first | (simp [go_sem];done) | go_simp) hS0 ?_
       try simp only [Act.put,sTA,sC0,sC1,gTA,gC0,gC1]
       refine wpAnyZ_one 3 (by kernel_rfl) rfl (by rfl) (fun K hK=>?_)
       go_simp
       refine (spec_dNum hiC gc V HC.out).mono ?_
       rintro e x1 ⟨x,rfl,hx0,hx1,hC1,ht1⟩
       have HC1:=hide hC1
       have SV1:=hide (SV.out.touch ht1)
       have hS1:=SV1.out.tab.c 1 rfl
       clear hC1 ht1
       go_wp2_with fail
       refine hK.out _ _ hS1 ?_
       clear hK K
       try simp only [Act.put,sTA,sC0,sC1,gTA,gC0,gC1]
       refine wpAnyZ_one 4 (by kernel_rfl) rfl (by rfl) (fun K hK=>?_)
       go_simp
       have hS2:=((below_alloc x1 (.cells #[.int .i64 x] 3)).cell (World.block_lt_of_cell? _ _ hS1)).trans hS1
       refine hK.out _ _ hS2 ?_
       clear hK K
       try simp only [Act.put,sTA,sC0,sC1,gTA,gC0,gC1]
       refine wpAnyZ_one 5 (by kernel_rfl) rfl (by rfl) (fun K hK=>?_)
       refine owp_appJ (.tmp 29) (.tmp 32) 24 rfl w.heap.size 3 i0 (.int .i64 0) 1 8 Tryz.underlying24 hi0 hz0 hz1 hz2 rfl (by omega) x1 #[.int .i64 x] _ rfl A n cA 1 _ rfl rfl SV1.out.ha.own rfl (by simp [Value.oneCell']) (by omega) (by omega) SV1.out.low.size ?_
       intro R3 c3 w5 happ hlt5
       have hK5:=hide (SV1.out.midA happ).1
       have HT5:=hide (SV1.out.pushA (ys:=[x]) (k:=1) (fun y hy=>by obtain rfl:y=x:=(by simpa using hy);exact ⟨by omega,by omega⟩) happ)
       have HB5:=hide (happ.low (B:=w.heap.size) (Below.refl w.heap.size x1) SV1.out.low.size (Nat.le_refl _) SV1.out.ha.own)
       have hS4:=hK5.out.c 1 rfl
       clear happ hlt5
       refine hK.out _ _ hS4 ?_
       clear hK K
       try simp only [Act.put,sTA,sC0,sC1,gTA,gC0,gC1]
       refine wpAnyZ_takeW 6 (.pointer (some ⟨g,1,none⟩)) rfl (by kernel_rfl) (by kernel_rfl) (fun _ _ _ h=>h) (by rfl) (fun _=>by first | (simp [go_sem];done) | go_simp) hS4 ?_
       try simp only [Act.put,sTA,sC0,sC1,gTA,gC0,gC1]
       have g0:=hK5.out.c 1 rfl
       have g1:=hK5.out.f 1
       refine wpAnyZ_last (by kernel_rfl) rfl (by kernel_rfl) (by rfl) (fun K hK=>?_)
       go_simp
       refine hK _ _ ?_
       clear hK K g0 g1 hS4 hK5
       have HC6:=hide (HC1.out.low (HB5.out.setCell (p:=⟨g,1,none⟩) hgg (.slice R3 (n+1) c3)) hgc)
       clear HC1 HB5 SV1 SV
       go_wp2_with fail
       go_roundw
       case rel=>exact ⟨j+1,R3,n+1,c3,za++[x],by omega,by go_num,by omega,HT5.out,HC6.out⟩
       case measure=>simp [intOf];omega
      ·have hjk2:¬ ((j:Int)<(k:Int)):=by omega
       have c1:=hS.out.tab.c 1 rfl
       have hown:=hide hS.out.ha.own
       go_wp2_with (at_builtin;refine wpl_app1 rfl (.tmp 36) (.tmp 37) 24 rfl w.heap.size 3 i0 (.int .i64 0) 1 8 Tryz.underlying24 hi0 hz0 hz1 hz2 rfl (by omega) wr #[.int .i64 0] A n cA 1 _ rfl rfl hown.out rfl (by simp [Value.oneCell']) (by omega) (by omega) hS.out.low.size ?_;intro R3 c3 w5 happ hlt5;have hK5:=hide (hS.out.midA happ).1;have HT5:=hide (hS.out.pushA (ys:=[0]) (k:=1) (fun y hy=>by obtain rfl:y=0:=(by simpa using hy);constructor <;> omega) happ);have HB5:=hide (happ.low (B:=w.heap.size) (Below.refl w.heap.size wr) hS.out.low.size (Nat.le_refl _) hS.out.ha.own);have HC6:=hide (hC.out.low (HB5.out.setCell (p:=⟨g,1,none⟩) hgg (.slice R3 (n+1) c3)) hgc);have g0:=hK5.out.c 1 rfl;have g1:=hK5.out.f 1;clear happ hlt5 hS hC c1 hown)
       go_roundw
       case rel=>exact ⟨j+1,R3,n+1,c3,za++[0],by omega,by go_num,by omega,HT5.out,HC6.out⟩
       case measure=>simp [intOf];omega
    ·obtain rfl:j=st:=by omega
     have hcap:=hS.out.hb.cap
     have hmax:=hS.out.hb.max
     go_upto_region 11 with fail
     refine wp_region_Z (fun W'=>W'.cell? ⟨g,2,none⟩=some (.slice B m cB)) 7 (by kernel_rfl) ?_
     simp only [List.size_toArray,List.length_cons,List.length_nil,Nat.reduceAdd]
     have SV:=hide (hS.out.touch (Touch.refl gc (gc+1) wr).drew)
     have HC:=hide (hC.out.low (below_drew (Below.refl wr.heap.size wr)) hC.out.lt.1)
     clear hS hC
     generalize wr.drew=V at SV HC ⊢
     have hS0:=SV.out.tab.c 2 rfl
     refine wpAnyZ_takeW 0 (.pointer (some ⟨g,2,none⟩)) rfl (by kernel_rfl) (by kernel_rfl) (fun _ _ _ h=>h) (by rfl) (fun _=>by first | (simp [go_sem];done) | go_simp) hS0 ?_
     try simp only [Act.put,sTA,sC0,sC1,gTA,gC0,gC1]
     refine wpAnyZ_take 1 (.slice B m cB) rfl (by kernel_rfl) (by kernel_rfl) (fun _ _ _ h=>h) (by rfl) (fun _ hS=>by have q0:=hS;clear hS;first | (simp [go_sem,q0];done) | go_simp) hS0 ?_
     try simp only [Act.put,sTA,sC0,sC1,gTA,gC0,gC1]
     refine wpAnyZ_takeW 2 (.pointer (some ⟨gc,0,none⟩)) rfl (by kernel_rfl) (by kernel_rfl) (fun _ _ _ h=>h) (by rfl) (fun _=>by first | (simp [go_sem];done) | go_simp) hS0 ?_
     try simp only [Act.put,sTA,sC0,sC1,gTA,gC0,gC1]
     refine wpAnyZ_one 3 (by kernel_rfl) rfl (by rfl) (fun K hK=>?_)
     go_simp
     refine (spec_dNum hiC gc V HC.out).mono ?_
     rintro e x1 ⟨x,rfl,hx0,hx1,hC1,ht1⟩
     have HC1:=hide hC1
     have SV1:=hide (SV.out.touch ht1)
     have hS1:=SV1.out.tab.c 2 rfl
     clear hC1 ht1
     go_wp2_with fail
     refine hK.out _ _ hS1 ?_
     clear hK K
     try simp only [Act.put,sTA,sC0,sC1,gTA,gC0,gC1]
     refine wpAnyZ_one 4 (by kernel_rfl) rfl (by rfl) (fun K hK=>?_)
     go_simp
     have hS2:=((below_alloc x1 (.cells #[.int .i64 x] 3)).cell (World.block_lt_of_cell? _ _ hS1)).trans hS1
     refine hK.out _ _ hS2 ?_
     clear hK K
     try simp only [Act.put,sTA,sC0,sC1,gTA,gC0,gC1]
     refine wpAnyZ_one 5 (by kernel_rfl) rfl (by rfl) (fun K hK=>?_)
     refine owp_appJ (.tmp 41) (.tmp 44) 24 rfl w.heap.size 3 i0 (.int .i64 0) 1 8 Tryz.underlying24 hi0 hz0 hz1 hz2 rfl (by omega) x1 #[.int .i64 x] _ rfl B m cB 1 _ rfl rfl SV1.out.hb.own rfl (by simp [Value.oneCell']) (by omega) (by omega) SV1.out.low.size ?_
     intro R3 c3 w5 happ hlt5
     have hK5:=hide (SV1.out.midB happ).1
     have HT5:=hide (SV1.out.pushB (ys:=[x]) (k:=1) (fun y hy=>by obtain rfl:y=x:=(by simpa using hy);exact ⟨by omega,by omega⟩) happ)
     have HB5:=hide (happ.low (B:=w.heap.size) (Below.refl w.heap.size x1) SV1.out.low.size (Nat.le_refl _) SV1.out.hb.own)
     have hS4:=hK5.out.c 2 rfl
     clear happ hlt5
     refine hK.out _ _ hS4 ?_
     clear hK K
     try simp only [Act.put,sTA,sC0,sC1,gTA,gC0,gC1]
     refine wpAnyZ_takeW 6 (.pointer (some ⟨g,2,none⟩)) rfl (by kernel_rfl) (by kernel_rfl) (fun _ _ _ h=>h) (by rfl) (fun _=>by first | (simp [go_sem];done) | go_simp) hS4 ?_
     try simp only [Act.put,sTA,sC0,sC1,gTA,gC0,gC1]
     have g0:=hK5.out.c 2 rfl
     have g1:=hK5.out.f 2
     refine wpAnyZ_last (by kernel_rfl) rfl (by kernel_rfl) (by rfl) (fun K hK=>?_)
     go_simp
     refine hK _ _ ?_
     clear hK K g0 g1 hS4 hK5
     have HC6:=hide (HC1.out.low (HB5.out.setCell (p:=⟨g,2,none⟩) hgg (.slice R3 (m+1) c3)) hgc)
     clear HC1 HB5 SV1 SV
     go_wp2_with fail
     go_roundw
     case rel=>exact ⟨k+1,A,n,cA,za,R3,m+1,c3,zb++[x],by omega,by go_num,by omega,by omega,HT5.out,HC6.out⟩
     case measure=>simp [intOf];omega
  ·obtain rfl:k=st:=by omega
   have hd:=hide (hT.out.done (.int .i64 (k:Int)) (.slice A n cA) (.slice B m cB))
   have hk1:=hT.out.tab
   have hk2:=hT.out.res
   have T1:=hk1.c 0 rfl
   have T2:=hk1.c 1 rfl
   have T3:=hk1.c 2 rfl
   have U1:=hk2.c 0 rfl
   have U2:=hk2.c 1 rfl
   have U3:=hk2.c 2 rfl
   have V1:=hk2.f 0
   have V2:=hk2.f 1
   have V3:=hk2.f 2
   have zk:=hk2.lt
   have hC9:=hide (hC.out.low (((((Below.refl w.heap.size wr).setCell (p:=⟨gr,0,none⟩) (by have:=hT.out.b1;exact this) (.int .i64 (k:Int))).setCell (p:=⟨gr,1,none⟩) (by have:=hT.out.b1;exact this) (.slice A n cA)).setCell (p:=⟨gr,2,none⟩) (by have:=hT.out.b1;exact this) (.slice B m cB))) hgc)
   clear hT hC hk1 hk2
   go_wp2_with fail
   refine bodyPost_ret (v := .agg #[.int .i64 (k:Int),.slice A n cA,.slice B m cB]) (by simp [results,Tryz.results53,go_sem,U1,U2,U3,V1,V2,V3,zk]) rfl ⟨A,n,cA,za,B,m,cB,zb,rfl,by omega,by omega,hd.out.1,?_,hd.out.2⟩
   exact hC9.out
end Go.Proofs.YtomgcbfcnjbofaaGreat
