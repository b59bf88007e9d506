/- Derivatives of polynomials: the program's walk. -/
import Derived.Test.YtomgcbfcnjbofaaGreatMgM
import Derived.Test.YtomgcbfcnjbofaaGreatMgB
import Derived.Lib.SliceRun
namespace Go.Proofs.YtomgcbfcnjbofaaGreat
open Go.RowKit
set_option linter.unusedSimpArgs false
set_option linter.unusedVariables false
set_option maxRecDepth 20000
theorem cell_al {w:World} {p:Addr} {v:Value} {ob:Obj} (hc:w.cell? p=some v):(w.alloc ob).cell? p=some v :=
 ((below_alloc w ob).cell (p:=p) (World.block_lt_of_cell? w _ hc)).trans hc
theorem cell_far2 {w:World} {g:Nat} {p:Addr} {x y v:Value} (hc:w.cell? p=some v) (hne:¬ p.block=g):((w.setCell ⟨g,0,none⟩ x).setCell ⟨g,1,none⟩ y).cell? p=some v :=
 (World.cell?_of_block ((Below.heap_setCell _ ⟨g,1,none⟩ _ _ hne).trans (Below.heap_setCell _ ⟨g,0,none⟩ _ _ hne))).trans hc
theorem timesF_R64 (a b:Int):R64 (timesF a b):=by have:=timesF_bd a b;constructor <;> omega
def NewM (W1 wx:World) (s8:Value) (co:Int) (m:Nat) (xs:List Int):Prop :=
 ∃ (b:Nat) (B3:Option Addr) (d3:Nat),s8 = .pointer (some ⟨b,0,none⟩)∧BlkN wx b #[.int .i64 co,.slice B3 m d3]∧OwnI wx W1.heap.size wx.heap.size B3 m d3 xs∧Below W1.heap.size W1 wx∧(∀ ad,B3=some ad→ad.block≠b)∧W1.heap.size≤b
theorem newM_alloc {W1 w5:World} {L m d3:Nat} {B3:Option Addr} {xs:List Int} (co:Int) (hO:OwnI w5 L w5.heap.size B3 m d3 xs) (hL:W1.heap.size≤L) (hb:Below W1.heap.size W1 w5) (T:TypeId) :
  NewM W1 (w5.alloc (.cells #[.int .i64 co,.slice B3 m d3] T)) (.pointer (some ⟨w5.heap.size,0,none⟩)) co m xs :=
 ⟨_,B3,d3,rfl,BlkN.new _ _ _,(hO.below (below_alloc w5 _) (Nat.le_refl _)).wide hL (by simp),hb.trans ((below_alloc w5 _).mono hb.size),fun ad e=>by have:=hO.lt ad e;omega,hb.size⟩
theorem newM_store {W1 w5:World} {L m d3:Nat} {B3:Option Addr} {xs:List Int} {x0 y0:Value} (co:Int) (hO:OwnI w5 L w5.heap.size B3 m d3 xs) (hL:W1.heap.size<L) (hb:Below W1.heap.size W1 w5) (kb:BlkN w5 W1.heap.size #[x0,y0]) :
  NewM W1 ((w5.setCell ⟨W1.heap.size,0,none⟩ (.int .i64 co)).setCell ⟨W1.heap.size,1,none⟩ (.slice B3 m d3)) (.pointer (some ⟨W1.heap.size,0,none⟩)) co m xs:=by
 have k2:=(kb.set 0 (.int .i64 co)).set 1 (.slice B3 m d3)
 simp only [List.setIfInBounds_toArray,List.set_cons_zero,List.set_cons_succ] at k2
 have hs:Same L w5.heap.size w5 ((w5.setCell ⟨W1.heap.size,0,none⟩ (.int .i64 co)).setCell ⟨W1.heap.size,1,none⟩ (.slice B3 m d3)) :=
  Same.setCell (p:=⟨W1.heap.size,1,none⟩) (Same.setCell (p:=⟨W1.heap.size,0,none⟩) (Same.refl _ _ _) (.inl hL) _) (.inl hL) _
 exact ⟨_,B3,d3,rfl,k2,(hO.same hs).wide (by omega) (by simp [World.setCell]),(hb.setCell (Nat.le_refl _) _).setCell (Nat.le_refl _) _,fun ad e=>by have:=(hO.lt_size ad e).1;omega,Nat.le_refl _⟩
def partM (v:Nat) (m:Mono):Option Mono:=if 0<m.2.getD v 0 then some (timesF m.1 (m.2.getD v 0),m.2.set v (m.2.getD v 0 - 1)) else none
def partF (ms:List Mono) (v:Nat):List Mono:=ms.filterMap (partM v)
theorem part_step {ms:List Mono} {k v:Nat} {m:Mono} (h:ms[k]? = some m):partF (ms.take (k+1)) v=partF (ms.take k) v++(partM v m).toList:=by
 rw [partF,partF,List.take_add_one,h,List.filterMap_append]
 cases hp:partM v m <;> simp [hp]
set_option maxRecDepth 100000 in
set_option maxHeartbeats 8000000 in
theorem impl_partial (P:Option Addr) (n c:Nat) (ms:List Mono) (lo hi v:Nat) (w:World) (h:Mons w lo hi P n c ms) (hh:hi≤w.heap.size) (hn:n≤549755813888) (hv:∀ m∈ms,v<m.2.length∧m.2.length≤1048576) (hv0:v≤1048576) :
  Calls Tryz.prog 39 #[.slice P n c,.int .i64 v] w fun e w'=>∃ A' n' c',e = .returned (.slice A' n' c')∧Mons w' w.heap.size w'.heap.size A' n' c' (partF ms v)∧n'≤n∧Below w.heap.size w w':=by
 obtain ⟨i0,hi0,hz0,hz1,hz2⟩:=info_parts info_mono
 have hcp:=h.cap
 have hmx:=h.max
 have HP:=hide h
 have HV:=hide hv
 have hb0:=hide (below_alloc w (.cells #[] 67))
 have hE0:=hide (LstE.empty w w.heap.size (Nat.le_refl _))
 have hz:(w.alloc (.cells #[] 67)).heap.size=w.heap.size+1:=by simp
 rw [← hz] at hE0
 clear h hv hz
 go_enter Tryz.func39,Tryz.ntmps39
 go_wp2_with fail
 generalize w.alloc (.cells #[] 67)=W0 at hb0 hE0 ⊢
 go_loopw [5,12] (fun o i wr=>∃ (k n' c':Nat) (A':Option Addr) (es:List El),k≤n∧i = .int .i64 k∧o = .slice A' n' c'∧n'≤k∧Hid (LstE wr w.heap.size wr.heap.size A' n' c' es)∧Hid (es.map El.mono=partF (ms.take k) v)∧Hid (Below w.heap.size w wr)) (fun _ i _=>n - (intOf i).toNat)
 case atStart=>exact ⟨0,0,0,_,[],by omega,rfl,rfl,by omega,hE0.out,rfl,hb0.out⟩
 case round =>
  clear hE0 hb0
  obtain ⟨k,n',c',A',es,hk,rfl,rfl,hnk,hE,hM,hb⟩:=hrel
  have hsz:=hb.out.size
  by_cases hlt:k<n
  ·obtain ⟨ad,x,B,m,d,xs,rfl,hc1,hc2,hxr,hI,_,hx⟩:=(HP.out.below hb.out hh).at_ hlt
   obtain ⟨hvm,hml⟩:=HV.out _ (List.mem_of_getElem? hx.out)
   simp only at hvm hml
   obtain rfl:m=xs.length:=hI.len.symm
   have a1:=below_alloc wr (.cells #[.int .i64 x,.slice B xs.length d] 67)
   have j0:=hide (BlkN.new wr #[.int .i64 x,.slice B xs.length d] 67)
   have z1:(wr.alloc (.cells #[.int .i64 x,.slice B xs.length d] 67)).heap.size=wr.heap.size+1:=by simp
   have hI1:=hide (hI.below a1 (by omega))
   have hE1:=hide (hE.out.below a1 (Nat.le_refl _))
   have hb1:=hide (hb.out.trans (a1.mono hsz))
   have HXR:=hide hxr
   have hdc:=hI.cap
   have hdm:=hI.max
   have hpst:=hide (part_step (v:=v) hx.out)
   clear a1 hI hE hb hxr hx
   go_upto_region 5 with fail
   generalize wr.alloc (.cells #[.int .i64 x,.slice B xs.length d] 67)=W1 at j0 z1 hI1 hE1 hb1 ⊢
   clear hc1 hc2
   obtain ⟨bd,p,rfl,hcp,hpr,_,hxp⟩:=hI1.out.at_ hvm
   have hgd:xs.getD v 0=p:=by rw [List.getD,hxp.out];rfl
   obtain ⟨q,hq⟩:∃ q,q=wr.heap.size:=⟨_,rfl⟩
   rw [← hq] at j0 z1 hsz hE1 ⊢
   have hqW:q<W1.heap.size:=by omega
   clear hq z1
   have T0:W1.cell? ⟨q,0,none⟩=some (.int .i64 x)∧W1.cell? ⟨q,1,none⟩=some (.slice (some bd) xs.length d)∧W1.cell? (bd.add v)=some (.int .i64 p):=⟨j0.out.c 0 rfl,j0.out.c 1 rfl,hcp⟩
   have T1:W1.drew.cell? ⟨q,0,none⟩=some (.int .i64 x)∧W1.drew.cell? ⟨q,1,none⟩=some (.slice (some bd) xs.length d)∧W1.drew.cell? (bd.add v)=some (.int .i64 p):=T0
   have t0:=T0.2.1
   by_cases hp0:0<p
   ·have hpM:partM v (x,xs)=some (timesF x p,xs.set v (p - 1)):=by
     rw [partM];simp only [hgd];rw [if_pos hp0]
    have hpM2:Hid (partF (ms.take (k+1)) v=partF (ms.take k) v++[(timesF x p,xs.set v (p - 1))]):=by show _=_;rw [hpst.out,hpM];rfl
    have hpr64:=hide hpr
    clear hpM hpst hgd
    go_upto_region 6 with fail
    go_cut [8] (fun s8 wx=>Hid (NewM W1 wx s8 (timesF x p) xs.length xs))
    case first =>
     have hiw:hi≤W1.heap.size:=by have:=hb1.out.size;omega
     have hbdv:=World.block_lt_of_cell? _ _ hcp
     have HTC:=hide fun (w':World) (hB:Below W1.heap.size W1 w')=>show w'.cell? ⟨q,0,none⟩=some (.int .i64 x)∧w'.cell? ⟨q,1,none⟩=some (.slice (some bd) xs.length d)∧w'.cell? (bd.add v)=some (.int .i64 p) from ⟨(hB.cell (p:=⟨q,0,none⟩) hqW).trans T0.1,(hB.cell (p:=⟨q,1,none⟩) hqW).trans T0.2.1,(hB.cell (p:=bd.add v) hbdv).trans T0.2.2⟩
     have d1:Below W1.heap.size W1 W1.drew:=(Below.refl _ _).drew
     go_region_held3 (fun w'=>w'.cell? ⟨q,0,none⟩=some (.int .i64 x)∧w'.cell? ⟨q,1,none⟩=some (.slice (some bd) xs.length d)∧w'.cell? (bd.add v)=some (.int .i64 p)) (first | exact T0 | exact T1 | exact ⟨cell_al T1.1,cell_al T1.2.1,cell_al T1.2.2⟩ | exact TC | exact ⟨cell_al TC.1,cell_al TC.2.1,cell_al TC.2.2⟩ | exact ⟨cell_far2 TC.1 (Nat.ne_of_lt hqW),cell_far2 TC.2.1 (Nat.ne_of_lt hqW),cell_far2 TC.2.2 (Nat.ne_of_lt hbdv)⟩ | exact ⟨cell_far2 TC.1 (Nat.ne_of_lt hqW5),cell_far2 TC.2.1 (Nat.ne_of_lt hqW5),cell_far2 TC.2.2 (Nat.ne_of_lt hbdv5)⟩ | go_keep)
      (first
       | (go_at_call 24;refine (impl_Times x p _ HXR.out hpr64.out).mono ?_;rintro e w' ⟨rfl,rfl⟩)
       | (go_at_call 43;refine (slices_Clone (some bd) xs.length d xs lo hi _ (hI1.out.below (B:=W1.heap.size) (by (repeat (first | with_reducible exact d1 | with_reducible exact Below.refl _ _ | with_reducible refine Below.drew ?_ | ((with_reducible refine Below.alloc ?_ ?_ _);rotate_left;· first | omega | (simp [World.setCell];done) | (simp [World.setCell];omega)) | ((with_reducible refine Below.setCell ?_ ?_ _);rotate_left;· first | exact Nat.le_refl _ | omega | (simp;done) | (simp;omega))))) hiw) (by first | exact hiw | (simp;omega)) hml).mono ?_;rintro e w5 ⟨B3,d3,rfl,o3,b3⟩;have bb:Below W1.heap.size W1 w5:=(by refine Below.trans ?_ (Below.mono b3 ?_);(· (repeat (first | with_reducible exact d1 | with_reducible exact Below.refl _ _ | with_reducible refine Below.drew ?_ | ((with_reducible refine Below.alloc ?_ ?_ _);rotate_left;· first | omega | (simp [World.setCell];done) | (simp [World.setCell];omega)) | ((with_reducible refine Below.setCell ?_ ?_ _);rotate_left;· first | exact Nat.le_refl _ | omega | (simp;done) | (simp;omega)))));(· first | exact Nat.le_refl _ | simp));have szb:=bb.size;have hqW5:q<w5.heap.size:=(by omega);have hbdv5:(bd.add v).block<w5.heap.size:=(by omega);have TC:=HTC.out _ bb;(first | (have kb:BlkN w5 W1.heap.size #[.int .i64 0,.slice none 0 0]:=(BlkN.new W1.drew #[.int .i64 0,.slice none 0 0] 67).below b3) | skip);(first | (have y0:=kb.c 0 rfl;have y1:=kb.c 1 rfl;have y2:=kb.f 0;have y3:=kb.f 1;have y4:=kb.lt) | skip);have HO3:=hide o3;clear o3 b3))
     all_goals go_wp2_with fail
     all_goals go_meet
     all_goals first
      | exact newM_alloc (timesF x p) HO3.out (by first | exact Nat.le_refl _ | simp) bb _
      | exact newM_store (timesF x p) HO3.out (by simp) bb kb
    case rest =>
     obtain ⟨b,B3,d3,rfl,hB,hO,hbl,hne,hle⟩:=hcut.out
     clear hcut T0 T1 t0 hcp
     obtain ⟨g3,rfl,hg3,hg3h,hg3w⟩:=hO.form (by omega)
     have hgb:¬ b=g3:=fun e=>hne _ rfl e.symm
     have hpv:xs[v]? = some p:=hxp.out
     have y1:=hB.c 1 rfl
     have y2:=(hO.own.cellAt v (by omega)).trans (by simp [hpv]:(xs.map (Value.int .i64))[v]? = some (.int .i64 p))
     have y3:=hO.own.frozenAt v
     have hdc3:=hO.cap
     have hdm3:=hO.max
     have hst:=(hO.own.stored v (.int .i64 (p - 1))).1
     rw [show (xs.map (Value.int .i64)).set v (Value.int .i64 (p - 1))=(xs.set v (p - 1)).map (Value.int .i64) by rw [List.map_set]] at hst
     have hpr:=hpr64.out
     unfold R64 at hpr
     have hO2:OwnI (wc.setCell ⟨g3,v,none⟩ (.int .i64 (p - 1))) W1.heap.size (wc.setCell ⟨g3,v,none⟩ (.int .i64 (p - 1))).heap.size (some ⟨g3,0,none⟩) xs.length d3 (xs.set v (p - 1)) :=
      ⟨hst,fun ad e=>by have:=(owns_lt hst ad e).2;exact this,fun y hy=>by
       rcases List.mem_or_eq_of_mem_set hy with h1 | h1
       ·exact hO.rng y h1
       ·rw [h1];constructor <;> omega⟩
     have hB2:=hB.far (b:=g3) (i:=v) hgb (.int .i64 (p - 1))
     have hbl2:=hbl.setCell (p:=⟨g3,v,none⟩) hg3 (.int .i64 (p - 1))
     have HO2:=hide hO2
     have HB2:=hide hB2
     have HBL2:=hide hbl2
     clear hst hO2 hB2 hbl2 hpv hB hO hbl hne
     go_upto_region 8 with fail
     generalize wc.setCell ⟨g3,v,none⟩ (.int .i64 (p - 1))=W3 at HO2 HB2 HBL2 ⊢
     clear y1 y2 y3 hg3w
     have hE3:=hide (hE1.out.below HBL2.out (by omega))
     have hb3:=hide (hb1.out.trans (HBL2.out.mono hb1.out.size))
     have z3:=HBL2.out.size
     have hw3:=hb3.out.size
     have r0:=HB2.out.c 0 rfl
     have r1:=HB2.out.c 1 rfl
     have hq3:q≤W3.heap.size:=by omega
     go_wp2_with (at_builtin;refine wpl_app1b rfl (.tmp 41) (.tmp 43) 34 rfl w.heap.size 67 i0 (.agg #[.int .i64 0,.slice none 0 0]) 2 32 Tryz.underlying34 hi0 hz0 hz1 hz2 rfl (by omega) W3 #[.int .i64 (timesF x p),.slice (some ⟨g3,0,none⟩) xs.length d3] _ rfl A' n' c' 1 _ rfl rfl hE3.out.own rfl (by simp [Value.oneCell']) (by omega) (by omega) hw3 ?_;intro A2 c2 w4 happ hlt4)
     have hL:=hide (hE3.out.push (e:=⟨timesF x p,some ⟨g3,0,none⟩,xs.length,d3,xs.set v (p - 1)⟩) (timesF_R64 x p) HO2.out.ints (by omega) (Nat.le_refl _) hsz hq3 happ)
     have hB4:=hide (happ.low hb3.out hw3 (Nat.le_refl _) hE3.out.own)
     have hM4:Hid ((es++[(⟨timesF x p,some ⟨g3,0,none⟩,xs.length,d3,xs.set v (p - 1)⟩:El)]).map El.mono=partF (ms.take (k+1)) v):=by
      show _=_
      rw [hpM2.out,List.map_append,hM.out]
      rfl
     clear happ hE3 HO2 HB2 HBL2 hb3 r0 r1
     go_wp2_with fail
     go_roundw
     case rel=>exact ⟨k+1,n'+1,c2,A2,_,by omega,by go_num,rfl,by omega,hL.out,hM4.out,hB4.out⟩
     case measure=>simp [intOf];omega
   ·have hpM2:Hid (partF (ms.take (k+1)) v=partF (ms.take k) v):=by
     show _=_
     rw [hpst.out,partM];simp only [hgd];rw [if_neg hp0];simp
    have hM4:Hid (es.map El.mono=partF (ms.take (k+1)) v):=by show _=_;rw [hpM2.out];exact hM.out
    have hE4:=hide (hE1.out.wide (hi2:=W1.heap.size) (by omega))
    clear hpst hgd hpM2 hE1
    go_wp2_with fail
    go_roundw
    case rel=>exact ⟨k+1,n',c',A',es,by omega,by go_num,rfl,by omega,hE4.out,hM4.out,hb1.out⟩
    case measure=>simp [intOf];omega
  ·obtain rfl:n=k:=by omega
   have hle:Hid (es.map El.mono=partF ms v):=by
    show _=_
    rw [hM.out,List.take_of_length_le (Nat.le_of_eq HP.out.len)]
   have hmo:=hide hE.out.mons
   rw [hle.out] at hmo
   go_wp2_with fail
   go_ret
   exact ⟨_,_,_,rfl,hmo.out,hnk,hb.out⟩
end Go.Proofs.YtomgcbfcnjbofaaGreat
/- Rows of monomials with those left out whose number is 0: the library's walk by the program's closure. -/
namespace Go.Proofs.YtomgcbfcnjbofaaGreat
open Go.RowKit
set_option linter.unusedSimpArgs false
set_option linter.unusedVariables false
set_option maxRecDepth 20000
theorem collect_del (x:Int) (B:Option Addr) (m d:Nat) (W:World) :
  Calls Tryz.prog 80 #[.agg #[.int .i64 x,.slice B m d]] W fun r W'=>r = .returned (.bool (decide (x=0)))∧Below W.heap.size W W':=by
 by_cases hx:x=0
 ·subst hx
  go_enter Tryz.func80,Tryz.ntmps80
  go_wp2_with fail
  go_ret
  exact ⟨rfl,by (repeat (first | with_reducible exact Below.refl _ _ | with_reducible exact Below.refl _ _ | with_reducible refine Below.drew ?_ | ((with_reducible refine Below.alloc ?_ ?_ _);rotate_left;· first | omega | (simp [World.setCell];done) | (simp [World.setCell];omega)) | ((with_reducible refine Below.setCell ?_ ?_ _);rotate_left;· first | exact Nat.le_refl _ | omega | (simp;done) | (simp;omega))))⟩
 ·have hne:(x == 0)=false:=by simpa using hx
  have hF:Hid (decide (x=0)=false):=decide_eq_false hx
  clear hx
  go_enter Tryz.func80,Tryz.ntmps80
  go_wp2_with fail
  go_ret
  exact ⟨ret_bool hF.out.symm,by (repeat (first | with_reducible exact Below.refl _ _ | with_reducible exact Below.refl _ _ | with_reducible refine Below.drew ?_ | ((with_reducible refine Below.alloc ?_ ?_ _);rotate_left;· first | omega | (simp [World.setCell];done) | (simp [World.setCell];omega)) | ((with_reducible refine Below.setCell ?_ ?_ _);rotate_left;· first | exact Nat.le_refl _ | omega | (simp;done) | (simp;omega))))⟩
theorem run_clear2 {P:Program} (w:World) (t e ty:TypeId) (i:TypeInfo) (ht:P.underlying t=some (.slice e)) (hi:P.info? e=some i) (hz:i.zero=some (.agg #[.int .i64 0,.slice none 0 0])) (b o n c:Nat) (hn:0<n)
  (hc:∀ j,j<n*2→(w.cell? ⟨b,o+j,none⟩).isSome=true) (hf:∀ j,j<n*2→w.frozen? ⟨b,o+j,none⟩=false) :
  (Builtin.clear_ #[t] ty #[.slice (some ⟨b,o,none⟩) n c]).run P w = .ok (.tuple #[]) (w.setCells b o (Builtin.zeroCells #[.int .i64 0,.slice none 0 0] n).toList):=by
 have hlen:(Builtin.zeroCells #[.int .i64 0,.slice none 0 0] n).toList.length=n*2:=by simp [Builtin.zeroCells]
 have hone:∀ v∈(Builtin.zeroCells #[.int .i64 0,.slice none 0 0] n).toList,v.oneCell'=true:=by
  intro v hv
  simp only [Builtin.zeroCells,Array.toList_map,Array.toList_range,List.mem_map,List.mem_range] at hv
  obtain ⟨j,_,rfl⟩:=hv
  rcases Nat.mod_two_eq_zero_or_one j with h | h <;> simp [h,Value.oneCell']
 have hst:=run_storeCells_cells (P:=P) b o (Builtin.zeroCells #[.int .i64 0,.slice none 0 0] n).toList 0 w (by rw [hlen];simpa using hc) (by rw [hlen];simpa using hf) hone
 simp only [Nat.add_zero] at hst
 have hcl:(Value.agg #[.int .i64 0,.slice none 0 0]).cells = #[.int .i64 0,.slice none 0 0]:=rfl
 obtain ⟨m,rfl⟩:∃ m,n=m+1:=⟨n - 1,by omega⟩
 have hv:∀ w,(zeroValue e).run P w = .ok (.agg #[.int .i64 0,.slice none 0 0]) w:=fun w=>by simp [zeroValue,typeInfo,hi,hz]
 simp [Builtin.clear_,run_underlying ht,hv,hcl,hst]
theorem belowCells {B:Nat} {a:World} {b:Nat} (hb:B≤b):∀ (vs:List Value) (o:Nat) {w:World},Below B a w→Below B a (w.setCells b o vs)
 | [],_,_,h=>h
 | v :: r,o,_,h=>belowCells hb r (o+1) (h.setCell (p:=⟨b,o,none⟩) hb v)
def nz (e:El):Bool := !decide (e.x=0)
def zAt (es:List El):Nat:=(es.takeWhile nz).length
theorem takeWhile_at {es:List El} {k:Nat} (hk:(es.take k).all nz=true) {e:El} (he:es[k]? = some e) (h0:e.x=0):zAt es=k:=by
 induction es generalizing k with
 | nil=>simp at he
 | cons a r ih =>
  cases k with
  | zero =>
   simp at he
   subst he
   simp [zAt,List.takeWhile_cons,nz,h0]
  | succ k =>
   simp only [List.take_succ_cons,List.all_cons,Bool.and_eq_true] at hk
   have:=ih hk.2 (by simpa using he)
   rw [zAt,List.takeWhile_cons,if_pos hk.1,List.length_cons]
   rw [zAt] at this
   rw [this]
def idxZ (es:List El):Int:=if es.all nz=true then -1 else (zAt es:Int)
theorem all_take_step {es:List El} {k:Nat} (hk:(es.take k).all nz=true) {e:El} (he:es[k]? = some e) (h0:¬ e.x=0):(es.take (k+1)).all nz=true:=by
 rw [List.take_add_one,he,List.all_append,hk]
 simp [nz,h0]
set_option maxHeartbeats 1000000 in
theorem lib_IndexFunc (lo n c:Nat) (A:Option Addr) (es:List El) (w:World) (h:w.ownsRow lo 67 2 (.slice A n c) n (es.flatMap El.cells)) (hl:es.length=n) :
  Calls Tryz.prog 104 #[.slice A n c,.func (.func 80) #[] #[]] w fun r w'=>r = .returned (.int .i64 (idxZ es))∧Below w.heap.size w w':=by
 have hcb:n≤c∧c≤9223372036854775807:=by
  rcases h.2 with ⟨e,rfl⟩ | ⟨g',cap,cur,e,_,_,h1,h2,_⟩
  ·injection e;omega
  ·injection e with _ _ e3;unfold maxLen at h2;omega
 have HO:=hide h
 have HL:=hide hl
 clear h hl
 go_enter Tryz.func104,Tryz.ntmps104
 go_wp2_with fail
 go_loopw [8] (fun i wr=>∃ (k:Nat),k≤n∧i = .int .i64 k∧Hid ((es.take k).all nz=true)∧Hid (Below w.heap.size w wr)) (fun i _=>n - (intOf i).toNat)
 case atStart=>exact ⟨0,by omega,rfl,by show _=_;simp,Below.refl _ _⟩
 case round =>
  obtain ⟨k,hk,rfl,hA,hb⟩:=hrel
  by_cases hlt:k<n
  ·obtain ⟨⟨x,B,m,d,xs⟩,he⟩:∃ e,es[k]? = some e:=⟨_,List.getElem?_eq_getElem (by have:=HL.out;omega)⟩
   obtain ⟨g,hg⟩:∃ g,A=some ⟨g,0,none⟩:=by
    rcases HO.out.2 with ⟨_,e⟩ | ⟨g,_,_,e,_⟩
    ·omega
    ·injection e with e;exact ⟨g,e⟩
   subst hg
   have hO:=owns_below HO.out hb.out (fun ad e=>(owns_lt HO.out ad e).2)
   obtain ⟨e1,e2⟩:=elc_at es k _ he
   have c1:=(hO.cellAt (k*2) (by omega)).trans e1
   have c2:=(hO.cellAt (k*2+1) (by omega)).trans e2
   simp only at c1 c2
   have HC:=hide (collect_del x B m d wr)
   clear e1 e2 hO
   by_cases hx:x=0
   ·have hd:decide (x=0)=true:=by simpa using hx
    have hF:Hid (idxZ es=(k:Int)):=by
     show _=_
     rw [idxZ,if_neg,takeWhile_at hA.out he hx]
     intro hall
     have:=List.all_eq_true.1 hall _ (List.mem_of_getElem? he)
     simp [nz,hx] at this
    rw [hd] at HC
    clear hd hx he
    go_wp2_with fail
    refine HC.out.mono ?_
    rintro r w1 ⟨rfl,b1⟩
    have B1:=hb.out.trans (b1.mono hb.out.size)
    clear HC
    go_wp2_with fail
    go_ret
    exact ⟨ret_int hF.out.symm,B1⟩
   ·have hd:decide (x=0)=false:=by simpa using hx
    have hA2:=hide (all_take_step hA.out he hx)
    rw [hd] at HC
    clear hd hx he hA
    go_wp2_with fail
    refine HC.out.mono ?_
    rintro r w1 ⟨rfl,b1⟩
    have B1:=hide (hb.out.trans (b1.mono hb.out.size))
    clear HC b1 hb
    go_wp2_with fail
    go_roundw
    case rel=>exact ⟨k+1,by omega,by go_num,hA2.out,B1.out⟩
    case measure=>simp [intOf];omega
  ·obtain rfl:n=k:=by omega
   have hF:Hid (idxZ es = -1):=by
    have h1:=hA.out
    rw [List.take_of_length_le (Nat.le_of_eq HL.out)] at h1
    show _=_
    rw [idxZ,if_pos h1]
   go_wp2_with fail
   go_ret
   exact ⟨ret_int hF.out.symm,hb.out⟩
end Go.Proofs.YtomgcbfcnjbofaaGreat
/- Rows of monomials with those left out whose number is 0: the library's DeleteFunc. -/
namespace Go.Proofs.YtomgcbfcnjbofaaGreat
open Go.RowKit
set_option linter.unusedSimpArgs false
set_option linter.unusedVariables false
set_option maxRecDepth 20000
structure RdE (w:World) (lo:Nat) (A:Option Addr) (n c:Nat) (es:List El):Prop where
 len:es.length=n
 cap:n≤c
 max:c≤9223372036854775807
 cells:0<n→∃ g,A=some ⟨g,0,none⟩∧lo≤g∧g<w.heap.size∧∀ j e,es[j]? = some e→w.cell? ⟨g,j*2,none⟩=some (.int .i64 e.x)∧w.cell? ⟨g,j*2+1,none⟩=some (.slice e.B e.m e.d)
theorem own_capE {w:World} {lo n c:Nat} {A:Option Addr} {vs:List Value} (h:w.ownsRow lo 67 2 (.slice A n c) n vs):n≤c∧c≤9223372036854775807:=by
 rcases h.2 with ⟨e,rfl⟩ | ⟨g',cap,cur,e,_,_,h1,h2,_⟩
 ·injection e;omega
 ·injection e with _ _ e3;unfold maxLen at h2;omega
theorem own_formE {w:World} {lo n c:Nat} {A:Option Addr} {vs:List Value} (h:w.ownsRow lo 67 2 (.slice A n c) n vs) (hn:0<n):∃ g,A=some ⟨g,0,none⟩∧lo≤g∧g<w.heap.size:=by
 rcases h.2 with ⟨_,e⟩ | ⟨g,_,_,e,h1,h2,_⟩
 ·omega
 ·injection e with e
  exact ⟨g,e,h1,(Array.getElem?_eq_some_iff.1 h2).1⟩
theorem own_rdE {w:World} {lo n c:Nat} {A:Option Addr} {es:List El} (h:w.ownsRow lo 67 2 (.slice A n c) n (es.flatMap El.cells)) (hl:es.length=n):RdE w lo A n c es:=by
 have hc:=own_capE h
 refine ⟨hl,hc.1,hc.2,fun hn=>?_⟩
 obtain ⟨g,rfl,h1,h2⟩:=own_formE h hn
 refine ⟨g,rfl,h1,h2,fun j e he=>?_⟩
 have hj:=(List.getElem?_eq_some_iff.1 he).1
 obtain ⟨e1,e2⟩:=elc_at es j e he
 exact ⟨(h.cellAt (j*2) (by omega)).trans e1,(h.cellAt (j*2+1) (by omega)).trans e2⟩
theorem zAt_lt:∀ (es:List El),¬ es.all nz=true→zAt es<es.length∧(es.take (zAt es)).filter nz=es.take (zAt es)∧∃ e,es[zAt es]? = some e∧nz e=false
 | [],h=>absurd rfl h
 | a :: r,h=>by
  by_cases ha:nz a=true
  ·have hr:¬ r.all nz=true:=fun e=>h (by rw [List.all_cons,ha,e];rfl)
   obtain ⟨h1,h2,e,h3,h4⟩:=zAt_lt r hr
   have hz:zAt (a :: r)=zAt r+1:=by rw [zAt,List.takeWhile_cons,if_pos ha];rfl
   rw [hz]
   refine ⟨by simpa using h1,?_,e,by simpa using h3,h4⟩
   rw [List.take_succ_cons,List.filter_cons,if_pos ha,h2]
  ·have ha':nz a=false:=by simpa using ha
   have hz:zAt (a :: r)=0:=by rw [zAt,List.takeWhile_cons,if_neg ha];rfl
   rw [hz]
   exact ⟨by simp,rfl,a,rfl,ha'⟩
theorem filter_step {es:List El} {j:Nat} {e:El} (he:es[j]? = some e):(es.take (j+1)).filter nz=(es.take j).filter nz++(if nz e=true then [e] else []):=by
 rw [List.take_add_one,he,List.filter_append]
 by_cases h:nz e=true
 ·rw [if_pos h];simp [h]
 ·rw [if_neg h];simp [h]
theorem drop_at {α:Type} {xs ys:List α} {j:Nat} (h:xs.drop j=ys.drop j):xs[j]? = ys[j]? := by
 have:=congrArg List.head? h
 rw [List.head?_drop,List.head?_drop] at this
 exact this
theorem drop_succ_eq {α:Type} {xs ys:List α} {j:Nat} (h:xs.drop j=ys.drop j):xs.drop (j+1)=ys.drop (j+1):=by
 have:=congrArg List.tail h
 rwa [List.tail_drop,List.tail_drop] at this
set_option maxRecDepth 100000 in
set_option maxHeartbeats 4000000 in
theorem lib_DeleteFunc (lo n c:Nat) (A:Option Addr) (es:List El) (w:World) (h:w.ownsRow lo 67 2 (.slice A n c) n (es.flatMap El.cells)) (hl:es.length=n) (hlo:lo≤w.heap.size) (hn:n≤1099511627776) :
  Calls Tryz.prog 79 #[.slice A n c,.func (.func 80) #[] #[]] w fun r w'=>∃ A' n' c',r = .returned (.slice A' n' c')∧RdE w' lo A' n' c' (es.filter nz)∧Below lo w w':=by
 obtain ⟨i0,hi0,hz0,hz1,hz2⟩:=info_parts info_mono
 have hcb:=own_capE h
 have HO:=hide h
 have HL:=hide hl
 have HI:=hide (lib_IndexFunc lo n c A es w h hl)
 clear h hl
 go_enter Tryz.func79,Tryz.ntmps79
 go_wp2_with fail
 refine HI.out.mono ?_
 rintro r w1 ⟨rfl,b1⟩
 have HB:=hide (b1.mono hlo)
 have HO1:=hide (owns_below HO.out b1 (fun ad e=>(owns_lt HO.out ad e).2))
 have hlo1:lo≤w1.heap.size:=Nat.le_trans hlo b1.size
 clear HI b1
 by_cases hall:es.all nz=true
 ·have hi:idxZ es = -1:=if_pos hall
  have hf:Hid (es.filter nz=es):=List.filter_eq_self.2 (List.all_eq_true.1 hall)
  rw [hi]
  clear hall hi
  go_wp2_with fail
  go_ret
  refine ⟨A,n,c,rfl,?_,HB.out⟩
  rw [hf.out]
  exact own_rdE HO1.out HL.out
 ·obtain ⟨z1,z2,e0,z3,z4⟩:=zAt_lt es hall
  have hi:idxZ es=(zAt es:Int):=if_neg hall
  obtain ⟨k0,hk0⟩:∃ k,k=zAt es:=⟨_,rfl⟩
  rw [← hk0] at z1 z2 z3 hi
  have hst:Hid (es.take k0=(es.take (k0+1)).filter nz):=by
   show _=_
   rw [filter_step z3,z2,if_neg (by simp [z4]),List.append_nil]
  have hkn:k0<n:=by have:=HL.out;omega
  obtain ⟨g,rfl,hg1,hg2⟩:=own_formE HO1.out (by omega)
  have hne:((k0:Int) == -1)=false:=by simp
  rw [hi]
  clear hall hi z1 z2 z3 z4 hk0 hg2
  go_wp2_with fail
  go_loopw [5,6] (fun x y wr=>∃ (i j:Nat) (es':List El),i<j∧j≤n∧x = .int .i64 i∧y = .int .i64 j∧Hid (wr.ownsRow lo 67 2 (.slice (some ⟨g,0,none⟩) n c) n (es'.flatMap El.cells))∧Hid (es'.length=n)∧Hid (es'.take i=(es.take j).filter nz)∧Hid (es'.drop j=es.drop j)∧Hid (Below lo w wr)) (fun _ y _=>n - (intOf y).toNat)
  case atStart=>exact ⟨k0,k0+1,es,by omega,by omega,rfl,by go_num,HO1.out,HL.out,hst.out,rfl,HB.out⟩
  case round =>
   clear HO1 HB hst hlo1 hne
   obtain ⟨i,j,es',hij,hj,rfl,rfl,hO,hL,hT,hD,hb⟩:=hrel
   have hlw:lo≤wr.heap.size:=Nat.le_trans hlo hb.out.size
   by_cases hlt:j<n
   ·obtain ⟨⟨x,B,m,d,xs⟩,he⟩:∃ e,es'[j]? = some e:=⟨_,List.getElem?_eq_getElem (by have:=hL.out;omega)⟩
    have he0:es[j]? = some ⟨x,B,m,d,xs⟩:=by rw [← drop_at hD.out];exact he
    obtain ⟨e1,e2⟩:=elc_at es' j _ he
    have c1:=(hO.out.cellAt (j*2) (by omega)).trans e1
    have c2:=(hO.out.cellAt (j*2+1) (by omega)).trans e2
    simp only at c1 c2
    have a1:=below_alloc wr (.cells #[.int .i64 x,.slice B m d] 67)
    have j7:=hide (BlkN.new wr #[.int .i64 x,.slice B m d] 67)
    have hO1:=hide (owns_below hO.out a1 (fun ad e=>(owns_lt hO.out ad e).2))
    have hb1:=hide (hb.out.trans (a1.mono hlw))
    have hgq:g<wr.heap.size:=(hO.out.lt g rfl).2
    have hfs:=hide (filter_step he0)
    have HE:=hide he
    have hD2:=hide (drop_succ_eq hD.out)
    clear e1 e2 a1 hO hb he he0 hD
    go_upto_region 8 with fail
    generalize wr.alloc (.cells #[.int .i64 x,.slice B m d] 67)=W1 at j7 hO1 hb1 ⊢
    clear c1 c2
    obtain ⟨q,hq⟩:∃ q,q=wr.heap.size:=⟨_,rfl⟩
    rw [← hq] at j7 hgq ⊢
    clear hq hlw
    have hlw:lo≤W1.heap.size:=Nat.le_trans hlo hb1.out.size
    have t0:=j7.out.c 0 rfl
    have t1:=j7.out.c 1 rfl
    have HC:=hide (collect_del x B m d W1)
    by_cases hx:x=0
    ·have hd:decide (x=0)=true:=by simpa using hx
     have hT2:Hid (es'.take i=(es.take (j+1)).filter nz):=by
      show _=_
      rw [hfs.out,if_neg (by simp [nz,hx]),List.append_nil]
      exact hT.out
     rw [hd] at HC
     clear hd hx hfs hT
     go_wp2_with fail
     refine HC.out.mono ?_
     rintro r w2 ⟨rfl,b2⟩
     have hO2:=hide (owns_below hO1.out b2 (fun ad e=>(owns_lt hO1.out ad e).2))
     have hb2:=hide (hb1.out.trans (b2.mono hlw))
     clear HC b2 t0 t1
     go_wp2_with fail
     go_roundw
     case rel=>exact ⟨i,j+1,es',by omega,by omega,rfl,by go_num,hO2.out,hL.out,hT2.out,hD2.out,hb2.out⟩
     case measure=>simp [intOf];omega
    ·have hd:decide (x=0)=false:=by simpa using hx
     have hil:i<es'.length:=by have:=hL.out;omega
     have hT2:Hid ((es'.set i ⟨x,B,m,d,xs⟩).take (i+1)=(es.take (j+1)).filter nz):=by
      show _=_
      rw [hfs.out,if_pos (by simp [nz,hx]),← hT.out,List.take_add_one,List.getElem?_set_self hil,List.take_set_of_le (Nat.le_refl _)]
      rfl
     have hD3:Hid ((es'.set i ⟨x,B,m,d,xs⟩).drop (j+1)=es.drop (j+1)):=by
      show _=_
      rw [List.drop_set_of_lt (by omega)]
      exact hD2.out
     rw [hd] at HC
     clear hd hx hfs hT hD2
     go_wp2_with fail
     refine HC.out.mono ?_
     rintro r w2 ⟨rfl,b2⟩
     have hO2:=hide (owns_below hO1.out b2 (fun ad e=>(owns_lt hO1.out ad e).2))
     have hb2:=hide (hb1.out.trans (b2.mono hlw))
     have j8:=j7.out.below b2
     have t2:=j8.c 0 rfl
     have t3:=j8.c 1 rfl
     have hf1:=hO2.out.frozenAt (i*2)
     have hf2:=hO2.out.frozenAt (i*2+1)
     have hc1:=hO2.out.cellAt (i*2) (by omega)
     have hc2:=hO2.out.cellAt (i*2+1) (by omega)
     obtain ⟨⟨x4,B4,m4,d4,xs4⟩,he4⟩:∃ e,es'[i]? = some e:=⟨_,List.getElem?_eq_getElem hil⟩
     obtain ⟨e5,e6⟩:=elc_at es' i _ he4
     rw [e5] at hc1
     rw [e6] at hc2
     simp only at hc1 hc2
     have hst:=((hO2.out.stored (i*2) (.int .i64 x)).1.stored (i*2+1) (.slice B m d)).1
     have hset:=elc_set es' i ⟨x,B,m,d,xs⟩ hil
     simp only at hset
     rw [hset] at hst
     have hb3:=(hb2.out.setCell (p:=⟨g,i*2,none⟩) hg1 (.int .i64 x)).setCell (p:=⟨g,i*2+1,none⟩) hg1 (.slice B m d)
     have HST:=hide hst
     have HB3:=hide hb3
     have hin:i<n:=by omega
     have hL3:Hid ((es'.set i ⟨x,B,m,d,xs⟩).length=n):=by show _=_;rw [List.length_set];exact hL.out
     clear HC b2 t0 t1 j8 hst hb3 he4 e5 e6 hset hil hO2 hb2 hO1 hb1 HE
     go_wp2_with fail
     go_roundw
     case rel=>exact ⟨i+1,j+1,_,by omega,by omega,by go_num,by go_num,HST.out,hL3.out,hT2.out,hD3.out,HB3.out⟩
     case measure=>simp [intOf];omega
   ·obtain rfl:n=j:=by omega
    have hcn:¬ c=i:=by omega
    have hin:i<n:=hij
    have hcl:∀ ty,(Builtin.clear_ #[34] ty #[.slice (some ⟨g,i*2,none⟩) (n - i) (c - i)]).run Tryz.prog wr = .ok (.tuple #[]) (wr.setCells g (i*2) (Builtin.zeroCells #[.int .i64 0,.slice none 0 0] (n - i)).toList):=fun ty =>
     run_clear2 wr 34 67 ty i0 Tryz.underlying34 hi0 hz0 g (i*2) (n - i) (c - i) (by omega) (fun q hq=>by
      rw [hO.out.cellAt (i*2+q) (by omega)]
      have hlen:=elc_len es'
      have:=hL.out
      rw [List.getElem?_eq_getElem (by omega)]
      rfl) (fun q hq=>hO.out.frozenAt _)
    go_wp2_with fail
    clear hcl
    go_ret
    have hfil:es.filter nz=es'.take i:=by
     rw [hT.out,List.take_of_length_le (Nat.le_of_eq HL.out)]
    have hlt2:(es'.take i).length=i:=by rw [List.length_take,hL.out];omega
    refine ⟨some ⟨g,0,none⟩,i,c,rfl,?_,belowCells hg1 _ _ hb.out⟩
    rw [hfil]
    refine ⟨hlt2,by omega,by omega,fun h0=>⟨g,rfl,hg1,?_,fun q e he=>?_⟩⟩
    ·have h1:=(hO.out.lt g rfl).2
     have h2:=(belowCells (B:=0) (b:=g) (Nat.zero_le _) (Builtin.zeroCells #[.int .i64 0,.slice none 0 0] (n - i)).toList (i*2) (Below.refl 0 wr)).size
     omega
    ·have hq:q<i:=by
      have:=(List.getElem?_eq_some_iff.1 he).1
      omega
     have he':es'[q]? = some e:=by rwa [List.getElem?_take_of_lt hq] at he
     obtain ⟨e1,e2⟩:=elc_at es' q e he'
     have c1:=(hO.out.cellAt (q*2) (by omega)).trans e1
     have c2:=(hO.out.cellAt (q*2+1) (by omega)).trans e2
     exact ⟨(World.cell?_setCells_out g _ (i*2) wr ⟨g,q*2,none⟩ (fun _ _ => .inl (by show q*2<i*2;omega))).trans c1,(World.cell?_setCells_out g _ (i*2) wr ⟨g,q*2+1,none⟩ (fun _ _ => .inl (by show q*2+1<i*2;omega))).trans c2⟩
end Go.Proofs.YtomgcbfcnjbofaaGreat
