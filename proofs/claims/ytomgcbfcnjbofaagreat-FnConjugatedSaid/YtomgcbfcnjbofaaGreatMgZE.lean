/- A tableau read from any text: the reference's walk. -/
import Derived.Test.YtomgcbfcnjbofaaGreatDtF
import Derived.Test.YtomgcbfcnjbofaaGreatMgY
import Derived.Test.YtomgcbfcnjbofaaGreatMgE
namespace Go.Proofs.YtomgcbfcnjbofaaGreat
open Go.RowKit
set_option linter.unusedSimpArgs false
set_option linter.unusedVariables false
set_option maxRecDepth 20000
theorem OwnI.noneD {w:World} {lo hi:Nat} {A:Option Addr} {n c:Nat} {xs:List Int} (h:OwnI w lo hi A n c xs):A=none→n=0∧c=0:=by
 intro e
 subst e
 rcases h.own.2 with ⟨h1,h2⟩ | ⟨g,_,_,e,_⟩
 ·simpa using h1
 ·simp at e
set_option maxRecDepth 100000 in
set_option maxHeartbeats 8000000 in
theorem spec_ParseTableauA (s:ByteArray) (w:World) (hs:s.size≤100) (hne1:(s.toList == [110,111,110,101])=false) (hne2:(s.toList == [])=false) :
  Calls Tryz.prog 90 #[.string s] w fun e w'=>∃ s2 A n c xs B m d ys b,e = .returned (.tuple #[.agg #[.int .i64 s2,.slice A n c,.slice B m d],.bool b])∧n≤100000∧m≤100000∧TabR w w' A n c xs B m d ys∧Below w.heap.size w w':=by
 obtain ⟨i0,hi0,hz0,hz1,hz2⟩:=info_parts info_int
 have hT0:=hide (TabS.start (w:=w) (lo:=0) (hi:=0) (BlkN.new w #[.int .i64 0,.slice none 0 0,.slice none 0 0] 26) (Nat.le_refl _) ((Touch.refl 0 0 w).alloc _) (Nat.zero_le _) 0)
 have b0:Below w.heap.size w ((w.alloc (.cells #[.int .i64 0,.slice none 0 0,.slice none 0 0] 26)).alloc (.cells #[.int .i64 0,.slice none 0 0,.slice none 0 0] 26)):=by (repeat (first | with_reducible exact Below.refl _ _ | with_reducible exact Below.refl _ _ | with_reducible refine Below.drew ?_ | ((with_reducible refine Below.alloc ?_ ?_ _);rotate_left;· first | omega | (simp [World.setCell];done) | (simp [World.setCell];omega)) | ((with_reducible refine Below.setCell ?_ ?_ _);rotate_left;· first | exact Nat.le_refl _ | omega | (simp;done) | (simp;omega))))
 have hz:((w.alloc (.cells #[.int .i64 0,.slice none 0 0,.slice none 0 0] 26)).alloc (.cells #[.int .i64 0,.slice none 0 0,.slice none 0 0] 26)).heap.size=w.heap.size+2:=by simp
 rw [show (w.alloc (.cells #[.int .i64 0,.slice none 0 0,.slice none 0 0] 26)).heap.size=w.heap.size+1 from by simp] at hT0
 go_enter Tryz.func90,Tryz.ntmps90
 go_wp2_with fail
 generalize (w.alloc (.cells #[.int .i64 0,.slice none 0 0,.slice none 0 0] 26)).alloc (.cells #[.int .i64 0,.slice none 0 0,.slice none 0 0] 26)=W at b0 hT0 hz ⊢
 obtain ⟨gr,hgr⟩:∃ z,z=w.heap.size:=⟨_,rfl⟩
 have hgg:w.heap.size≤gr∧w.heap.size≤gr+1∧gr+1<W.heap.size:=by omega
 have hT1:Hid (TabS 0 0 w W gr (gr+1) 0 none 0 0 [] none 0 0 []):=by rw [hgr];exact hT0.out
 rw [← hgr]
 clear hgr hT0 hz
 obtain ⟨g,hg⟩:∃ z,z=gr+1:=⟨_,rfl⟩
 rw [← hg] at hT1 hgg ⊢
 refine (spec_l1Cut s 124 124 rfl W (by omega)).mono ?_
 rintro e w1 ⟨A1,n,c1,ps,rfl,hrow,hpl,b1⟩
 have hnl:ps.length=n:=by simpa using hrow.out.1
 have hnb:n≤101:=by
  rw [← hnl,← List.length_map (f:=fun p:ByteArray=>p.data.toList),hpl.out]
  have:=piecesC (x:=124) s.data.toList
  rw [list_len] at this
  omega
 have hn0:0<n:=by
  rcases Nat.eq_zero_or_pos n with h0 | h0
  ·have e:ps=[]:=List.eq_nil_of_length_eq_zero (by omega)
   have h2:=hpl.out
   rw [e] at h2
   exact absurd h2.symm (piecesF_ne _ _)
  ·exact h0
 obtain ⟨hcp1,hcp2⟩:=row_cap hrow.out
 obtain ⟨gw,rfl,hgz,hgb⟩:=ownForm hrow.out hn0
 have hcells:=hide (cutRow hrow.out)
 have HPS:Hid (∀ p∈ps,p.size≤100):=fun p hp=>by
  have hz:=mem_pieces (x:=124) (by rw [← hpl.out];exact List.mem_map.2 ⟨p,hp,rfl⟩:p.data.toList∈piecesF 124 s.data.toList)
  rw [list_len,list_len] at hz
  omega
 have hT2:=hide (hT1.out.below b1)
 have hgne:gw≠g∧gw≠gr∧w.heap.size≤gw:=by omega
 have z1:=b1.size
 have c1:=hT2.out.tab.c 0 rfl
 have f1:=hT2.out.tab.f 0
 have hw1:=IntWalk.i64_in ((n:Int) - 1) (by omega)
 clear hrow hpl b1 hT1 hg
 go_wp2_with fail
 have hT3:=hide (hT2.out.stage ((n:Int) - 1))
 have hcells3:Hid (∀ j p,ps[j]? = some p→(w1.setCell ⟨g,0,none⟩ (.int .i64 ((n:Int) - 1))).cell? ⟨gw,j,none⟩=some (.string p)):=fun j p hp=>(World.cell?_of_block (w:=w1) (a:=⟨gw,j,none⟩) (Below.heap_setCell _ _ _ _ hgne.1)).trans (hcells.out j p hp)
 have hz3:(w1.setCell ⟨g,0,none⟩ (.int .i64 ((n:Int) - 1))).heap.size=w1.heap.size:=by simp [World.setCell]
 have hgw3:gw<(w1.setCell ⟨g,0,none⟩ (.int .i64 ((n:Int) - 1))).heap.size:=by omega
 clear c1 f1 hw1 hT2 hcells hz3 z1 hgb
 generalize w1.setCell ⟨g,0,none⟩ (.int .i64 ((n:Int) - 1))=W3 at hT3 hcells3 hgw3 ⊢
 go_loopw [6,7,8,9] (fun iv _ _ _ wr=>∃ (k:Nat) (A:Option Addr) (na cA:Nat) (za:List Int) (B:Option Addr) (nb cB:Nat) (zb:List Int),k≤n∧iv = .int .i64 (k:Int)∧na≤101*k∧nb≤101∧gw<wr.heap.size∧Hid (TabS 0 0 w wr gr g ((n:Int) - 1) A na cA za B nb cB zb)∧Hid (∀ ad,A=some ad→ad.block≠gw)∧Hid (∀ j p,ps[j]? = some p→wr.cell? ⟨gw,j,none⟩=some (.string p))) (fun iv _ _ _ _=>n - (intOf iv).toNat)
 case atStart=>exact ⟨0,_,_,_,_,_,_,_,_,by omega,rfl,by omega,by omega,hgw3,hT3.out,(fun ad e=>by cases e),hcells3.out⟩
 case round =>
  clear hT3 hcells3 hgw3
  obtain ⟨k,A,na,cA,za,B,nb,cB,zb,hk,rfl,hna,hnb2,hgw,hS,hne,hcell⟩:=hrel
  by_cases hlt:k<n
  ·obtain ⟨p,hp⟩:∃ p,ps[k]? = some p:=⟨_,List.getElem?_eq_getElem (by omega)⟩
   have hck:=hcell.out k p hp
   have hps1:p.size≤100:=HPS.out p (List.mem_of_getElem? hp)
   clear hp
   have hAlt:=hide (fun ad (e:A=some ad)=>(owns_lt hS.out.ha.own ad e).2)
   have hgl:=hS.out.tab.lt
   have hgrl:=hS.out.res.lt
   have hwk:=IntWalk.i64_in ((k:Int)+1) (by omega)
   by_cases hk0:k=0
   ·subst hk0
    go_upto_region 10 with fail
    obtain ⟨p1,hp1⟩:∃ z,z=p:=⟨_,rfl⟩
    rw [← hp1] at hps1 ⊢
    clear hp1
    by_cases hlast:1<n
    ·have hlast2:(0:Int)+1<(n:Int):=by omega
     by_cases hq0:0<p1.size
     ·go_upto_region 12 with fail
      go_wp2_with fail
      refine (spec_ParseNumbersA _ wr (by first | omega | (simp only [ByteArray.size_extract];omega))).mono ?_
      rintro e w6 ⟨A6,n6,c6,xs6,ok6,rfl,hn6,o6,b6⟩
      have hn66:n6≤101:=by first | omega | (simp only [ByteArray.size_extract] at hn6;omega)
      clear hn6
      have z6:=b6.size
      have hS6:=hide (hS.out.below b6)
      have hcell6:Hid (∀ j p,ps[j]? = some p→w6.cell? ⟨gw,j,none⟩=some (.string p)):=fun j p hp=>(b6.cell (p:=⟨gw,j,none⟩) (by show gw<_;omega)).trans (hcell.out j p hp)
      have O6:=hide o6
      have hnone6:=hide (fun e=>o6.noneD e)
      have hgw6:gw<w6.heap.size:=by omega
      have hcb6:=o6.capb
      clear hS b6 o6 hck hcell
      have hcA:=hS6.out.ha.capb
      have r1:=hS6.out.tab.c 1 rfl
      have hk2:(0:Int)+1<(n:Int):=by omega
      go_wp2_with (at_builtin;refine wpl_app rfl (.tmp 66) (.tmp 67) 24 rfl w6 w.heap.size 3 i0 (.int .i64 0) 1 8 Tryz.underlying24 hi0 hz0 hz1 hz2 rfl (by omega) A na cA _ rfl hS6.out.ha.own A6 n6 c6 (xs6.map (Value.int .i64)) rfl (by rw [List.length_map,O6.out.ints.len,Nat.mul_one]) (fun ad e=>by subst e;exact O6.out.ints.news) hnone6.out (news_oneD _) (by omega) (by omega) hS6.out.low.size ?_;intro R3 c3 w5 happ;have hK5:=hide (hS6.out.midA happ).1;have HT5:=hide (hS6.out.pushA O6.out.rng happ);have hne5:Hid (∀ ad,R3=some ad→ad.block≠gw):=(fun ad e=>happ.2.2.elim (fun h=>hne.out ad (h ad e)) (fun h=>by have:=h ad e;omega));have hcell5:Hid (∀ j p,ps[j]? = some p→(w5.setCell ⟨g,1,none⟩ (.slice R3 (na+n6) c3)).cell? ⟨gw,j,none⟩=some (.string p)):=(fun j p hp=>((World.cell?_of_block (w:=w5) (a:=⟨gw,j,none⟩) (Below.heap_setCell _ _ _ _ hgne.1)).trans (World.cell?_of_block (a:=⟨gw,j,none⟩) (happ.2.1.block gw hgw6 (fun e=>by obtain ⟨ad,e1,e2⟩:=ownBlock_eq.1 e.symm;exact hne.out ad e1 e2)))).trans (hcell6.out j p hp));have hg5:gw<(w5.setCell ⟨g,1,none⟩ (.slice R3 (na+n6) c3)).heap.size:=(by have:=happ.2.1.size;simp [World.setCell];omega);have g0:=hK5.out.c 1 rfl;have g1:=hK5.out.f 1;clear happ hS6 r1 hcell6 hnone6 O6 hcA hcb6 hne)
      clear g0 g1 hK5
      go_roundw
      case rel=>exact ⟨1,R3,na+n6,c3,_,B,nb,cB,zb,by omega,by go_num,by omega,hnb2,hg5,HT5.out,hne5.out,hcell5.out⟩
      case measure=>simp [intOf];omega
     ·have hq1:p1.size=0:=by omega
      go_upto_region 12 with fail
      go_wp2_with fail
      refine (spec_ParseNumbersA _ wr (by first | omega | (simp only [ByteArray.size_extract];omega))).mono ?_
      rintro e w6 ⟨A6,n6,c6,xs6,ok6,rfl,hn6,o6,b6⟩
      have hn66:n6≤101:=by first | omega | (simp only [ByteArray.size_extract] at hn6;omega)
      clear hn6
      have z6:=b6.size
      have hS6:=hide (hS.out.below b6)
      have hcell6:Hid (∀ j p,ps[j]? = some p→w6.cell? ⟨gw,j,none⟩=some (.string p)):=fun j p hp=>(b6.cell (p:=⟨gw,j,none⟩) (by show gw<_;omega)).trans (hcell.out j p hp)
      have O6:=hide o6
      have hnone6:=hide (fun e=>o6.noneD e)
      have hgw6:gw<w6.heap.size:=by omega
      have hcb6:=o6.capb
      clear hS b6 o6 hck hcell
      have hcA:=hS6.out.ha.capb
      have r1:=hS6.out.tab.c 1 rfl
      have hk2:(0:Int)+1<(n:Int):=by omega
      go_wp2_with (at_builtin;refine wpl_app rfl (.tmp 66) (.tmp 67) 24 rfl w6 w.heap.size 3 i0 (.int .i64 0) 1 8 Tryz.underlying24 hi0 hz0 hz1 hz2 rfl (by omega) A na cA _ rfl hS6.out.ha.own A6 n6 c6 (xs6.map (Value.int .i64)) rfl (by rw [List.length_map,O6.out.ints.len,Nat.mul_one]) (fun ad e=>by subst e;exact O6.out.ints.news) hnone6.out (news_oneD _) (by omega) (by omega) hS6.out.low.size ?_;intro R3 c3 w5 happ;have hK5:=hide (hS6.out.midA happ).1;have HT5:=hide (hS6.out.pushA O6.out.rng happ);have hne5:Hid (∀ ad,R3=some ad→ad.block≠gw):=(fun ad e=>happ.2.2.elim (fun h=>hne.out ad (h ad e)) (fun h=>by have:=h ad e;omega));have hcell5:Hid (∀ j p,ps[j]? = some p→(w5.setCell ⟨g,1,none⟩ (.slice R3 (na+n6) c3)).cell? ⟨gw,j,none⟩=some (.string p)):=(fun j p hp=>((World.cell?_of_block (w:=w5) (a:=⟨gw,j,none⟩) (Below.heap_setCell _ _ _ _ hgne.1)).trans (World.cell?_of_block (a:=⟨gw,j,none⟩) (happ.2.1.block gw hgw6 (fun e=>by obtain ⟨ad,e1,e2⟩:=ownBlock_eq.1 e.symm;exact hne.out ad e1 e2)))).trans (hcell6.out j p hp));have hg5:gw<(w5.setCell ⟨g,1,none⟩ (.slice R3 (na+n6) c3)).heap.size:=(by have:=happ.2.1.size;simp [World.setCell];omega);have g0:=hK5.out.c 1 rfl;have g1:=hK5.out.f 1;clear happ hS6 r1 hcell6 hnone6 O6 hcA hcb6 hne)
      clear g0 g1 hK5
      go_roundw
      case rel=>exact ⟨1,R3,na+n6,c3,_,B,nb,cB,zb,by omega,by go_num,by omega,hnb2,hg5,HT5.out,hne5.out,hcell5.out⟩
      case measure=>simp [intOf];omega
    ·have hlast2:¬ ((0:Int)+1<(n:Int)):=by omega
     go_upto_region 12 with fail
     go_wp2_with fail
     refine (spec_ParseNumbersA _ wr (by first | omega | (simp only [ByteArray.size_extract];omega))).mono ?_
     rintro e w6 ⟨A6,n6,c6,xs6,ok6,rfl,hn6,o6,b6⟩
     have hn66:n6≤101:=by first | omega | (simp only [ByteArray.size_extract] at hn6;omega)
     clear hn6
     have z6:=b6.size
     have hS6:=hide (hS.out.below b6)
     have hcell6:Hid (∀ j p,ps[j]? = some p→w6.cell? ⟨gw,j,none⟩=some (.string p)):=fun j p hp=>(b6.cell (p:=⟨gw,j,none⟩) (by show gw<_;omega)).trans (hcell.out j p hp)
     have O6:=hide o6
     have hnone6:=hide (fun e=>o6.noneD e)
     have hgw6:gw<w6.heap.size:=by omega
     have hcb6:=o6.capb
     clear hS b6 o6 hck hcell
     have hk2:¬ ((0:Int)+1<(n:Int)):=by omega
     have r2:=hS6.out.tab.c 2 rfl
     have f2:=hS6.out.tab.f 2
     have HT5:=hide (hS6.out.newB (l:=wr.heap.size) O6.out (by omega) (by omega) (fun ad e=>hAlt.out ad e))
     have hcell5:Hid (∀ j p,ps[j]? = some p→(w6.setCell ⟨g,2,none⟩ (.slice A6 n6 c6)).cell? ⟨gw,j,none⟩=some (.string p)):=fun j p hp=>(World.cell?_of_block (w:=w6) (a:=⟨gw,j,none⟩) (Below.heap_setCell _ _ _ _ hgne.1)).trans (hcell6.out j p hp)
     have hg5:gw<(w6.setCell ⟨g,2,none⟩ (.slice A6 n6 c6)).heap.size:=by simp [World.setCell];omega
     clear hS6 hcell6 hnone6 O6
     go_wp2_with fail
     clear r2 f2
     go_roundw
     case rel=>exact ⟨1,A,na,cA,za,A6,n6,c6,_,by omega,by go_num,by omega,by omega,hg5,HT5.out,hne.out,hcell5.out⟩
     case measure=>simp [intOf];omega
   ·have hk1:0<k:=by omega
    by_cases hp0:0<p.size
    ·go_upto_region 10 with fail
     obtain ⟨p1,hp1⟩:∃ z,z=p.extract 1 p.size:=⟨_,rfl⟩
     rw [← hp1]
     have hps2:p1.size≤100:=by rw [hp1];simp only [ByteArray.size_extract];omega
     clear hp1
     by_cases hlast:k+1<n
     ·have hlast2:(k:Int)+1<(n:Int):=by omega
      by_cases hq0:0<p1.size
      ·go_upto_region 12 with fail
       go_wp2_with fail
       refine (spec_ParseNumbersA _ wr (by first | omega | (simp only [ByteArray.size_extract];omega))).mono ?_
       rintro e w6 ⟨A6,n6,c6,xs6,ok6,rfl,hn6,o6,b6⟩
       have hn66:n6≤101:=by first | omega | (simp only [ByteArray.size_extract] at hn6;omega)
       clear hn6
       have z6:=b6.size
       have hS6:=hide (hS.out.below b6)
       have hcell6:Hid (∀ j p,ps[j]? = some p→w6.cell? ⟨gw,j,none⟩=some (.string p)):=fun j p hp=>(b6.cell (p:=⟨gw,j,none⟩) (by show gw<_;omega)).trans (hcell.out j p hp)
       have O6:=hide o6
       have hnone6:=hide (fun e=>o6.noneD e)
       have hgw6:gw<w6.heap.size:=by omega
       have hcb6:=o6.capb
       clear hS b6 o6 hck hcell
       have hcA:=hS6.out.ha.capb
       have r1:=hS6.out.tab.c 1 rfl
       have hk2:(k:Int)+1<(n:Int):=by omega
       go_wp2_with (at_builtin;refine wpl_app rfl (.tmp 66) (.tmp 67) 24 rfl w6 w.heap.size 3 i0 (.int .i64 0) 1 8 Tryz.underlying24 hi0 hz0 hz1 hz2 rfl (by omega) A na cA _ rfl hS6.out.ha.own A6 n6 c6 (xs6.map (Value.int .i64)) rfl (by rw [List.length_map,O6.out.ints.len,Nat.mul_one]) (fun ad e=>by subst e;exact O6.out.ints.news) hnone6.out (news_oneD _) (by omega) (by omega) hS6.out.low.size ?_;intro R3 c3 w5 happ;have hK5:=hide (hS6.out.midA happ).1;have HT5:=hide (hS6.out.pushA O6.out.rng happ);have hne5:Hid (∀ ad,R3=some ad→ad.block≠gw):=(fun ad e=>happ.2.2.elim (fun h=>hne.out ad (h ad e)) (fun h=>by have:=h ad e;omega));have hcell5:Hid (∀ j p,ps[j]? = some p→(w5.setCell ⟨g,1,none⟩ (.slice R3 (na+n6) c3)).cell? ⟨gw,j,none⟩=some (.string p)):=(fun j p hp=>((World.cell?_of_block (w:=w5) (a:=⟨gw,j,none⟩) (Below.heap_setCell _ _ _ _ hgne.1)).trans (World.cell?_of_block (a:=⟨gw,j,none⟩) (happ.2.1.block gw hgw6 (fun e=>by obtain ⟨ad,e1,e2⟩:=ownBlock_eq.1 e.symm;exact hne.out ad e1 e2)))).trans (hcell6.out j p hp));have hg5:gw<(w5.setCell ⟨g,1,none⟩ (.slice R3 (na+n6) c3)).heap.size:=(by have:=happ.2.1.size;simp [World.setCell];omega);have g0:=hK5.out.c 1 rfl;have g1:=hK5.out.f 1;clear happ hS6 r1 hcell6 hnone6 O6 hcA hcb6 hne)
       clear g0 g1 hK5
       go_roundw
       case rel=>exact ⟨k+1,R3,na+n6,c3,_,B,nb,cB,zb,by omega,by go_num,by omega,hnb2,hg5,HT5.out,hne5.out,hcell5.out⟩
       case measure=>simp [intOf];omega
      ·have hq1:p1.size=0:=by omega
       go_upto_region 12 with fail
       go_wp2_with fail
       refine (spec_ParseNumbersA _ wr (by first | omega | (simp only [ByteArray.size_extract];omega))).mono ?_
       rintro e w6 ⟨A6,n6,c6,xs6,ok6,rfl,hn6,o6,b6⟩
       have hn66:n6≤101:=by first | omega | (simp only [ByteArray.size_extract] at hn6;omega)
       clear hn6
       have z6:=b6.size
       have hS6:=hide (hS.out.below b6)
       have hcell6:Hid (∀ j p,ps[j]? = some p→w6.cell? ⟨gw,j,none⟩=some (.string p)):=fun j p hp=>(b6.cell (p:=⟨gw,j,none⟩) (by show gw<_;omega)).trans (hcell.out j p hp)
       have O6:=hide o6
       have hnone6:=hide (fun e=>o6.noneD e)
       have hgw6:gw<w6.heap.size:=by omega
       have hcb6:=o6.capb
       clear hS b6 o6 hck hcell
       have hcA:=hS6.out.ha.capb
       have r1:=hS6.out.tab.c 1 rfl
       have hk2:(k:Int)+1<(n:Int):=by omega
       go_wp2_with (at_builtin;refine wpl_app rfl (.tmp 66) (.tmp 67) 24 rfl w6 w.heap.size 3 i0 (.int .i64 0) 1 8 Tryz.underlying24 hi0 hz0 hz1 hz2 rfl (by omega) A na cA _ rfl hS6.out.ha.own A6 n6 c6 (xs6.map (Value.int .i64)) rfl (by rw [List.length_map,O6.out.ints.len,Nat.mul_one]) (fun ad e=>by subst e;exact O6.out.ints.news) hnone6.out (news_oneD _) (by omega) (by omega) hS6.out.low.size ?_;intro R3 c3 w5 happ;have hK5:=hide (hS6.out.midA happ).1;have HT5:=hide (hS6.out.pushA O6.out.rng happ);have hne5:Hid (∀ ad,R3=some ad→ad.block≠gw):=(fun ad e=>happ.2.2.elim (fun h=>hne.out ad (h ad e)) (fun h=>by have:=h ad e;omega));have hcell5:Hid (∀ j p,ps[j]? = some p→(w5.setCell ⟨g,1,none⟩ (.slice R3 (na+n6) c3)).cell? ⟨gw,j,none⟩=some (.string p)):=(fun j p hp=>((World.cell?_of_block (w:=w5) (a:=⟨gw,j,none⟩) (Below.heap_setCell _ _ _ _ hgne.1)).trans (World.cell?_of_block (a:=⟨gw,j,none⟩) (happ.2.1.block gw hgw6 (fun e=>by obtain ⟨ad,e1,e2⟩:=ownBlock_eq.1 e.symm;exact hne.out ad e1 e2)))).trans (hcell6.out j p hp));have hg5:gw<(w5.setCell ⟨g,1,none⟩ (.slice R3 (na+n6) c3)).heap.size:=(by have:=happ.2.1.size;simp [World.setCell];omega);have g0:=hK5.out.c 1 rfl;have g1:=hK5.out.f 1;clear happ hS6 r1 hcell6 hnone6 O6 hcA hcb6 hne)
       clear g0 g1 hK5
       go_roundw
       case rel=>exact ⟨k+1,R3,na+n6,c3,_,B,nb,cB,zb,by omega,by go_num,by omega,hnb2,hg5,HT5.out,hne5.out,hcell5.out⟩
       case measure=>simp [intOf];omega
     ·have hlast2:¬ ((k:Int)+1<(n:Int)):=by omega
      go_upto_region 12 with fail
      go_wp2_with fail
      refine (spec_ParseNumbersA _ wr (by first | omega | (simp only [ByteArray.size_extract];omega))).mono ?_
      rintro e w6 ⟨A6,n6,c6,xs6,ok6,rfl,hn6,o6,b6⟩
      have hn66:n6≤101:=by first | omega | (simp only [ByteArray.size_extract] at hn6;omega)
      clear hn6
      have z6:=b6.size
      have hS6:=hide (hS.out.below b6)
      have hcell6:Hid (∀ j p,ps[j]? = some p→w6.cell? ⟨gw,j,none⟩=some (.string p)):=fun j p hp=>(b6.cell (p:=⟨gw,j,none⟩) (by show gw<_;omega)).trans (hcell.out j p hp)
      have O6:=hide o6
      have hnone6:=hide (fun e=>o6.noneD e)
      have hgw6:gw<w6.heap.size:=by omega
      have hcb6:=o6.capb
      clear hS b6 o6 hck hcell
      have hk2:¬ ((k:Int)+1<(n:Int)):=by omega
      have r2:=hS6.out.tab.c 2 rfl
      have f2:=hS6.out.tab.f 2
      have HT5:=hide (hS6.out.newB (l:=wr.heap.size) O6.out (by omega) (by omega) (fun ad e=>hAlt.out ad e))
      have hcell5:Hid (∀ j p,ps[j]? = some p→(w6.setCell ⟨g,2,none⟩ (.slice A6 n6 c6)).cell? ⟨gw,j,none⟩=some (.string p)):=fun j p hp=>(World.cell?_of_block (w:=w6) (a:=⟨gw,j,none⟩) (Below.heap_setCell _ _ _ _ hgne.1)).trans (hcell6.out j p hp)
      have hg5:gw<(w6.setCell ⟨g,2,none⟩ (.slice A6 n6 c6)).heap.size:=by simp [World.setCell];omega
      clear hS6 hcell6 hnone6 O6
      go_wp2_with fail
      clear r2 f2
      go_roundw
      case rel=>exact ⟨k+1,A,na,cA,za,A6,n6,c6,_,by omega,by go_num,by omega,by omega,hg5,HT5.out,hne.out,hcell5.out⟩
      case measure=>simp [intOf];omega
    ·have hp00:p.size=0:=by omega
     go_upto_region 10 with fail
     obtain ⟨p1,hp1⟩:∃ z,z=p:=⟨_,rfl⟩
     rw [← hp1] at hps1 ⊢
     clear hp1
     by_cases hlast:k+1<n
     ·have hlast2:(k:Int)+1<(n:Int):=by omega
      by_cases hq0:0<p1.size
      ·go_upto_region 12 with fail
       go_wp2_with fail
       refine (spec_ParseNumbersA _ wr (by first | omega | (simp only [ByteArray.size_extract];omega))).mono ?_
       rintro e w6 ⟨A6,n6,c6,xs6,ok6,rfl,hn6,o6,b6⟩
       have hn66:n6≤101:=by first | omega | (simp only [ByteArray.size_extract] at hn6;omega)
       clear hn6
       have z6:=b6.size
       have hS6:=hide (hS.out.below b6)
       have hcell6:Hid (∀ j p,ps[j]? = some p→w6.cell? ⟨gw,j,none⟩=some (.string p)):=fun j p hp=>(b6.cell (p:=⟨gw,j,none⟩) (by show gw<_;omega)).trans (hcell.out j p hp)
       have O6:=hide o6
       have hnone6:=hide (fun e=>o6.noneD e)
       have hgw6:gw<w6.heap.size:=by omega
       have hcb6:=o6.capb
       clear hS b6 o6 hck hcell
       have hcA:=hS6.out.ha.capb
       have r1:=hS6.out.tab.c 1 rfl
       have hk2:(k:Int)+1<(n:Int):=by omega
       go_wp2_with (at_builtin;refine wpl_app rfl (.tmp 66) (.tmp 67) 24 rfl w6 w.heap.size 3 i0 (.int .i64 0) 1 8 Tryz.underlying24 hi0 hz0 hz1 hz2 rfl (by omega) A na cA _ rfl hS6.out.ha.own A6 n6 c6 (xs6.map (Value.int .i64)) rfl (by rw [List.length_map,O6.out.ints.len,Nat.mul_one]) (fun ad e=>by subst e;exact O6.out.ints.news) hnone6.out (news_oneD _) (by omega) (by omega) hS6.out.low.size ?_;intro R3 c3 w5 happ;have hK5:=hide (hS6.out.midA happ).1;have HT5:=hide (hS6.out.pushA O6.out.rng happ);have hne5:Hid (∀ ad,R3=some ad→ad.block≠gw):=(fun ad e=>happ.2.2.elim (fun h=>hne.out ad (h ad e)) (fun h=>by have:=h ad e;omega));have hcell5:Hid (∀ j p,ps[j]? = some p→(w5.setCell ⟨g,1,none⟩ (.slice R3 (na+n6) c3)).cell? ⟨gw,j,none⟩=some (.string p)):=(fun j p hp=>((World.cell?_of_block (w:=w5) (a:=⟨gw,j,none⟩) (Below.heap_setCell _ _ _ _ hgne.1)).trans (World.cell?_of_block (a:=⟨gw,j,none⟩) (happ.2.1.block gw hgw6 (fun e=>by obtain ⟨ad,e1,e2⟩:=ownBlock_eq.1 e.symm;exact hne.out ad e1 e2)))).trans (hcell6.out j p hp));have hg5:gw<(w5.setCell ⟨g,1,none⟩ (.slice R3 (na+n6) c3)).heap.size:=(by have:=happ.2.1.size;simp [World.setCell];omega);have g0:=hK5.out.c 1 rfl;have g1:=hK5.out.f 1;clear happ hS6 r1 hcell6 hnone6 O6 hcA hcb6 hne)
       clear g0 g1 hK5
       go_roundw
       case rel=>exact ⟨k+1,R3,na+n6,c3,_,B,nb,cB,zb,by omega,by go_num,by omega,hnb2,hg5,HT5.out,hne5.out,hcell5.out⟩
       case measure=>simp [intOf];omega
      ·have hq1:p1.size=0:=by omega
       go_upto_region 12 with fail
       go_wp2_with fail
       refine (spec_ParseNumbersA _ wr (by first | omega | (simp only [ByteArray.size_extract];omega))).mono ?_
       rintro e w6 ⟨A6,n6,c6,xs6,ok6,rfl,hn6,o6,b6⟩
       have hn66:n6≤101:=by first | omega | (simp only [ByteArray.size_extract] at hn6;omega)
       clear hn6
       have z6:=b6.size
       have hS6:=hide (hS.out.below b6)
       have hcell6:Hid (∀ j p,ps[j]? = some p→w6.cell? ⟨gw,j,none⟩=some (.string p)):=fun j p hp=>(b6.cell (p:=⟨gw,j,none⟩) (by show gw<_;omega)).trans (hcell.out j p hp)
       have O6:=hide o6
       have hnone6:=hide (fun e=>o6.noneD e)
       have hgw6:gw<w6.heap.size:=by omega
       have hcb6:=o6.capb
       clear hS b6 o6 hck hcell
       have hcA:=hS6.out.ha.capb
       have r1:=hS6.out.tab.c 1 rfl
       have hk2:(k:Int)+1<(n:Int):=by omega
       go_wp2_with (at_builtin;refine wpl_app rfl (.tmp 66) (.tmp 67) 24 rfl w6 w.heap.size 3 i0 (.int .i64 0) 1 8 Tryz.underlying24 hi0 hz0 hz1 hz2 rfl (by omega) A na cA _ rfl hS6.out.ha.own A6 n6 c6 (xs6.map (Value.int .i64)) rfl (by rw [List.length_map,O6.out.ints.len,Nat.mul_one]) (fun ad e=>by subst e;exact O6.out.ints.news) hnone6.out (news_oneD _) (by omega) (by omega) hS6.out.low.size ?_;intro R3 c3 w5 happ;have hK5:=hide (hS6.out.midA happ).1;have HT5:=hide (hS6.out.pushA O6.out.rng happ);have hne5:Hid (∀ ad,R3=some ad→ad.block≠gw):=(fun ad e=>happ.2.2.elim (fun h=>hne.out ad (h ad e)) (fun h=>by have:=h ad e;omega));have hcell5:Hid (∀ j p,ps[j]? = some p→(w5.setCell ⟨g,1,none⟩ (.slice R3 (na+n6) c3)).cell? ⟨gw,j,none⟩=some (.string p)):=(fun j p hp=>((World.cell?_of_block (w:=w5) (a:=⟨gw,j,none⟩) (Below.heap_setCell _ _ _ _ hgne.1)).trans (World.cell?_of_block (a:=⟨gw,j,none⟩) (happ.2.1.block gw hgw6 (fun e=>by obtain ⟨ad,e1,e2⟩:=ownBlock_eq.1 e.symm;exact hne.out ad e1 e2)))).trans (hcell6.out j p hp));have hg5:gw<(w5.setCell ⟨g,1,none⟩ (.slice R3 (na+n6) c3)).heap.size:=(by have:=happ.2.1.size;simp [World.setCell];omega);have g0:=hK5.out.c 1 rfl;have g1:=hK5.out.f 1;clear happ hS6 r1 hcell6 hnone6 O6 hcA hcb6 hne)
       clear g0 g1 hK5
       go_roundw
       case rel=>exact ⟨k+1,R3,na+n6,c3,_,B,nb,cB,zb,by omega,by go_num,by omega,hnb2,hg5,HT5.out,hne5.out,hcell5.out⟩
       case measure=>simp [intOf];omega
     ·have hlast2:¬ ((k:Int)+1<(n:Int)):=by omega
      go_upto_region 12 with fail
      go_wp2_with fail
      refine (spec_ParseNumbersA _ wr (by first | omega | (simp only [ByteArray.size_extract];omega))).mono ?_
      rintro e w6 ⟨A6,n6,c6,xs6,ok6,rfl,hn6,o6,b6⟩
      have hn66:n6≤101:=by first | omega | (simp only [ByteArray.size_extract] at hn6;omega)
      clear hn6
      have z6:=b6.size
      have hS6:=hide (hS.out.below b6)
      have hcell6:Hid (∀ j p,ps[j]? = some p→w6.cell? ⟨gw,j,none⟩=some (.string p)):=fun j p hp=>(b6.cell (p:=⟨gw,j,none⟩) (by show gw<_;omega)).trans (hcell.out j p hp)
      have O6:=hide o6
      have hnone6:=hide (fun e=>o6.noneD e)
      have hgw6:gw<w6.heap.size:=by omega
      have hcb6:=o6.capb
      clear hS b6 o6 hck hcell
      have hk2:¬ ((k:Int)+1<(n:Int)):=by omega
      have r2:=hS6.out.tab.c 2 rfl
      have f2:=hS6.out.tab.f 2
      have HT5:=hide (hS6.out.newB (l:=wr.heap.size) O6.out (by omega) (by omega) (fun ad e=>hAlt.out ad e))
      have hcell5:Hid (∀ j p,ps[j]? = some p→(w6.setCell ⟨g,2,none⟩ (.slice A6 n6 c6)).cell? ⟨gw,j,none⟩=some (.string p)):=fun j p hp=>(World.cell?_of_block (w:=w6) (a:=⟨gw,j,none⟩) (Below.heap_setCell _ _ _ _ hgne.1)).trans (hcell6.out j p hp)
      have hg5:gw<(w6.setCell ⟨g,2,none⟩ (.slice A6 n6 c6)).heap.size:=by simp [World.setCell];omega
      clear hS6 hcell6 hnone6 O6
      go_wp2_with fail
      clear r2 f2
      go_roundw
      case rel=>exact ⟨k+1,A,na,cA,za,A6,n6,c6,_,by omega,by go_num,by omega,by omega,hg5,HT5.out,hne.out,hcell5.out⟩
      case measure=>simp [intOf];omega
  ·obtain rfl:n=k:=by omega
   have hd0:=hS.out.ha.ints
   have hd1:=hS.out.hb.ints
   have hfA:=hide (fun h0=>hS.out.ha.form (hn:=h0))
   have T0:=hS.out.tab.c 0 rfl
   have T1:=hS.out.tab.c 1 rfl
   have T2:=hS.out.tab.c 2 rfl
   have hHF:=hide (spec_FormatTableauA ((n:Int) - 1) A na cA za B nb cB zb wr.heap.size wr (hd0.wide (Nat.zero_le _) (Nat.le_refl _)) (hd1.wide (Nat.zero_le _) (Nat.le_refl _)) (Nat.le_refl _) (fun h0=>by obtain ⟨ga,e,_⟩:=hfA.out h0;exact ⟨ga,e⟩))
   clear hd0 hd1
   go_wp2_with fail
   refine hHF.out.mono ?_
   rintro e w7 ⟨t,rfl,b7⟩
   have hS7:=hide (hS.out.below b7)
   clear hS hHF hfA T0 T1 T2 b7 hcell hne
   have hp1:=hS7.out.tab
   have hp2:=hS7.out.res
   have T1:=hp1.c 0 rfl
   have T2:=hp1.c 1 rfl
   have T3:=hp1.c 2 rfl
   have U1:=hp2.c 0 rfl
   have U2:=hp2.c 1 rfl
   have U3:=hp2.c 2 rfl
   have V1:=hp2.f 0
   have V2:=hp2.f 1
   have V3:=hp2.f 2
   have zk:=hp2.lt
   have hbg:=hS7.out.b1
   clear hp1 hp2
   cases hts:(t.toList == s.toList) with
   | false =>
    have HB9:=hide (((hS7.out.low.toBelow.setCell (p:=⟨gr,0,none⟩) hbg (.int .i64 0)).setCell (p:=⟨gr,1,none⟩) hbg (.slice none 0 0)).setCell (p:=⟨gr,2,none⟩) hbg (.slice none 0 0))
    clear hS7
    go_wp2_with fail
    refine bodyPost_ret (v := .tuple #[.agg #[.int .i64 0,.slice none 0 0,.slice none 0 0],.bool false]) (by simp [results,Tryz.results90,go_sem,U1,U2,U3,V1,V2,V3,zk]) rfl ⟨0,none,0,0,[],none,0,0,[],false,rfl,by omega,by omega,TabR.nil_ _ _,?_⟩
    exact HB9.out
   | true =>
    have hd:=hide (hS7.out.done (.int .i64 ((n:Int) - 1)) (.slice A na cA) (.slice B nb cB))
    clear hS7
    go_wp2_with fail
    refine bodyPost_ret (v := .tuple #[.agg #[.int .i64 ((n:Int) - 1),.slice A na cA,.slice B nb cB],.bool true]) (by simp [results,Tryz.results90,go_sem,U1,U2,U3,V1,V2,V3,zk]) rfl ⟨_,A,na,cA,za,B,nb,cB,zb,true,rfl,by omega,by omega,hd.out.1,?_⟩
    exact hd.out.2.toBelow
end Go.Proofs.YtomgcbfcnjbofaaGreat
/- The systems of the nodes of Lobatto, reckoned by the kernel. -/
namespace Go.Proofs.YtomgcbfcnjbofaaGreat
open Go.RowKit
set_option linter.unusedSimpArgs false
set_option linter.unusedVariables false
set_option maxRecDepth 20000
def invK (a:Int):Int:=fpowGo 40 1 (resF a) 1000000269
def fracK (a b:Int):Int:=timesF a (invK b)
theorem inv_k (a:Int):invF a=invK a:=inv_fast a
theorem frac_k (a b:Int):fracF a b=fracK a b:=by unfold fracF fracK;rw [inv_k]
theorem pow_one {k:Int} (h:0≤k):powF 1 k=1:=by
 unfold powF
 rw [if_neg (by omega),Int.one_pow]
 rfl
def half:Int:=500000136
end Go.Proofs.YtomgcbfcnjbofaaGreat
