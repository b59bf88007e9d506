/- Polynomials put in order, with equal powers added up: the program's walk of collect. -/
import Derived.Test.YtomgcbfcnjbofaaGreatMgP
import Derived.Test.YtomgcbfcnjbofaaGreatMgN
import Derived.Test.YtomgcbfcnjbofaaGreatMgI
namespace Go.Proofs.YtomgcbfcnjbofaaGreat
open Go.RowKit
set_option linter.unusedSimpArgs false
set_option linter.unusedVariables false
set_option maxRecDepth 20000
structure OutC (w wr:World) (g:Nat) (A:Option Addr) (n c k:Nat) (es es2:List El):Prop where
 own:wr.ownsRow w.heap.size 67 2 (.slice A n c) n (es2.flatMap El.cells)
 len:es2.length=n
 col:ColE (es.take k) es2
 bel:Below w.heap.size w wr
theorem OutC.powers {w wr:World} {g n c k:Nat} {A:Option Addr} {es es2:List El} (h:OutC w wr g A n c k es es2) (hp:∀ e∈es,PowR w g e) {e:El} (he:e∈es2):∃ l q,Ints wr l q e.B e.m e.d e.xs∧q≤w.heap.size:=by
 obtain ⟨_,e',h1,h2,h3,h4,h5⟩:=h.col.num e he
 obtain ⟨l,q,hI,_,hq⟩:=hp e' (List.mem_of_mem_take h1)
 refine ⟨l,q,?_,hq⟩
 rw [h2,h3,h4,h5]
 exact hI.below h.bel hq
theorem OutC.below {w wr wr':World} {g n c k:Nat} {A:Option Addr} {es es2:List El} (h:OutC w wr g A n c k es es2) (hb:Below wr.heap.size wr wr'):OutC w wr' g A n c k es es2 :=
 ⟨owns_below h.own hb (fun ad e=>(owns_lt h.own ad e).2),h.len,h.col,h.bel.trans (hb.mono h.bel.size)⟩
theorem elc_set1 {es:List El} {j:Nat} {x:Int} {B:Option Addr} {m d:Nat} {xs:List Int} (h:es[j]? = some ⟨x,B,m,d,xs⟩) (y:Int):(es.flatMap El.cells).set (j*2) (.int .i64 y)=(es.set j ⟨y,B,m,d,xs⟩).flatMap El.cells:=by
 have hj:=(List.getElem?_eq_some_iff.1 h).1
 rw [← elc_set es j ⟨y,B,m,d,xs⟩ hj]
 obtain ⟨_,h2⟩:=elc_at es j _ h
 apply List.ext_getElem?
 intro q
 by_cases hq:j*2+1=q
 ·subst hq
  rw [List.getElem?_set_ne (by omega),h2,List.getElem?_set_self (by rw [List.length_set,elc_len];omega)]
 ·rw [List.getElem?_set_ne hq]
set_option maxRecDepth 100000 in
set_option maxHeartbeats 8000000 in
theorem impl_collect (g n c:Nat) (es:List El) (lo hi:Nat) (w:World) (h:LstE w lo hi (some ⟨g,0,none⟩) n c es) (hh:hi≤w.heap.size) (hlo:lo≤w.heap.size) (hn:n≤549755813888) (hnum:∀ e∈es,0≤e.x∧e.x<1000000271) :
  Calls Tryz.prog 44 #[.slice (some ⟨g,0,none⟩) n c] w fun r w'=>∃ A' n' c' ms',r = .returned (.slice A' n' c')∧Mons w' lo w'.heap.size A' n' c' ms'∧ColP (es.map El.mono) ms'∧Touch g (g+1) w w':=by
 obtain ⟨i0,hi0,hz0,hz1,hz2⟩:=info_parts info_mono
 have hcb:=h.capb
 have HLst:=hide h
 have HN:=hide hnum
 have HS:=hide (lib_SortStable w w lo g n c es (h.sort hh) (by omega))
 clear h hnum
 go_enter Tryz.func44,Tryz.ntmps44
 go_wp2_with fail
 refine HS.out.mono ?_
 rintro r w1 ⟨rfl,es1,hP1,hS1⟩
 have HP1:=hide hP1
 have HS1:=hide hS1
 have hgw:=hS1.glt
 have hb0:=hide (below_alloc w1 (.cells #[] 67))
 have ho0:Hid ((w1.alloc (.cells #[] 67)).ownsRow w1.heap.size 67 2 (.slice (some ⟨w1.heap.size,0,none⟩) 0 0) 0 (([]:List El).flatMap El.cells)):=by
  show World.ownsRow _ _ _ _ _ _ _
  simpa using World.ownsRow_lit (size:=2) (e:=67) w1 #[] 0 (Nat.le_refl _) (by unfold maxLen;omega) rfl
 have HNum:Hid (∀ e∈es1,0≤e.x∧e.x<1000000271):=fun e he=>HN.out e (hP1.mem_iff.1 he)
 clear hP1 hS1 HS
 go_wp2_with fail
 generalize w1.alloc (.cells #[] 67)=W0 at hb0 ho0 ⊢
 go_loopw [3,12] (fun o i wr=>∃ (k n2 c2:Nat) (A2:Option Addr) (es2:List El),k≤n∧i = .int .i64 k∧o = .slice A2 n2 c2∧n2≤k∧Hid (OutC w1 wr g A2 n2 c2 k es1 es2)) (fun _ i _=>n - (intOf i).toNat)
 case atStart=>exact ⟨0,0,0,_,[],by omega,rfl,rfl,by omega,ho0.out,rfl,by simpa using ColE.nil,hb0.out⟩
 case round =>
  clear hb0 ho0
  obtain ⟨k,n2,c2,A2,es2,hk,rfl,rfl,hnk,hC⟩:=hrel
  have hcb2:=own_capE hC.out.own
  have hbz:=hC.out.bel.size
  by_cases hlt:k<n
  ·obtain ⟨⟨x,B,m,d,xs⟩,he⟩:∃ e,es1[k]? = some e:=⟨_,List.getElem?_eq_getElem (by have:=HS1.out.len;omega)⟩
   have hO:=owns_below HS1.out.own hC.out.bel (fun ad e=>by injection e with e;subst e;exact hgw)
   obtain ⟨e1,e2⟩:=elc_at es1 k _ he
   have c1:=(hO.cellAt (k*2) (by omega)).trans e1
   have c2':=(hO.cellAt (k*2+1) (by omega)).trans e2
   simp only at c1 c2'
   have hnx:=HNum.out _ (List.mem_of_getElem? he)
   simp only at hnx
   obtain ⟨l,q,hI,hgq,hqw⟩:=(HS1.out.pow _ (List.mem_of_getElem? he)).1
   simp only at hI
   have a1:=below_alloc wr (.cells #[.int .i64 x,.slice B m d] 67)
   have j5:=hide (BlkN.new wr #[.int .i64 x,.slice B m d] 67)
   have hb1:=hC.out.bel.trans (a1.mono hbz)
   have hI1:=hide (hI.below hb1 hqw)
   have hC1:Hid (OutC w1 (wr.alloc (.cells #[.int .i64 x,.slice B m d] 67)) g A2 n2 c2 k es1 es2):=⟨owns_below hC.out.own a1 (fun ad e=>(owns_lt hC.out.own ad e).2),hC.out.len,hC.out.col,hb1⟩
   have htk:Hid (es1.take (k+1)=es1.take k++[⟨x,B,m,d,xs⟩]):=by show _=_;rw [List.take_add_one,he];rfl
   have hne5:∀ ad,A2=some ad→ad.block≠wr.heap.size:=fun ad e=>Nat.ne_of_lt (owns_lt hC.out.own ad e).2
   have HNE5:=hide hne5
   clear e1 e2 hO he hI a1 hb1 hC hgq hne5
   go_upto_region 6 with fail
   generalize wr.alloc (.cells #[.int .i64 x,.slice B m d] 67)=W1 at j5 hI1 hC1 ⊢
   clear c1 c2'
   obtain ⟨b,hb⟩:∃ q,q=wr.heap.size:=⟨_,rfl⟩
   rw [← hb] at j5 HNE5 ⊢
   have hb1w:w1.heap.size≤b:=by omega
   clear hb hbz
   have hgo:∀ (P:Prop),P→P:=fun _ h=>h
   clear hgo
   by_cases hn0:n2=0
   ·subst hn0
    have hw0:IntKind.i64.wrap (((0:Nat):Int) - 1) = -1:=by decide
    go_upto_region 7 with fail
    have hgd:decide ((0:Int) ≤ -1)=false:=by decide
    go_quiet (fail)
    rename_i nq
    have bq:=below_drewN (Below.refl W1.heap.size W1) nq
    have hC2:=hide (hC1.out.below bq)
    have j5b:=hide (j5.out.below bq)
    clear hC1 j5 bq hgd hw0
    generalize W1.drewN nq=W2 at hC2 j5b ⊢
    have r0:=j5b.out.c 0 rfl
    have r1:=j5b.out.c 1 rfl
    have hw2:=hC2.out.bel.size
    have hnn:0+1≤1099511627776:=by omega
    go_wp2_with (at_builtin;refine wpl_app1b rfl (.tmp 43) (.tmp 45) 34 rfl w1.heap.size 67 i0 (.agg #[.int .i64 0,.slice none 0 0]) 2 32 Tryz.underlying34 hi0 hz0 hz1 hz2 rfl (by omega) W2 #[.int .i64 x,.slice B m d] _ rfl A2 0 c2 1 _ rfl rfl hC2.out.own rfl (by simp [Value.oneCell']) hnn (by omega) hw2 ?_;intro A3 c3 w4 happ hlt4)
    have hC3:Hid (OutC w1 w4 g A3 (0+1) c3 (k+1) es1 (es2++[⟨x,B,m,d,xs⟩])) :=
     ⟨by rw [List.flatMap_append];exact happ.1,by simp [hC2.out.len],by rw [htk.out];exact hC2.out.col.push hnx,happ.low hC2.out.bel hw2 (Nat.le_refl _) hC2.out.own⟩
    clear happ hC2 j5b r0 r1
    go_wp2_with fail
    go_roundw
    case rel=>exact ⟨k+1,0+1,c3,A3,_,by omega,by go_num,rfl,by omega,hC3.out⟩
    case measure=>simp [intOf];omega
   ·obtain ⟨p,hp⟩:∃ p,p=n2 - 1:=⟨_,rfl⟩
    have hw0:IntKind.i64.wrap ((n2:Int) - 1)=(p:Int):=by rw [show (p:Int)=(n2:Int) - 1 by omega];exact IntWalk.i64_in _ (by omega)
    have hpn:p<n2:=by omega
    clear hp hn0
    go_upto_region 7 with fail
    obtain ⟨⟨x4,B4,m4,d4,xs4⟩,he4⟩:∃ e,es2[p]? = some e:=⟨_,List.getElem?_eq_getElem (by have:=hC1.out.len;omega)⟩
    obtain ⟨g2,rfl,hg2,hg2h⟩:=own_formE hC1.out.own (by omega)
    obtain ⟨e1,e2⟩:=elc_at es2 p _ he4
    have c1:=(hC1.out.own.cellAt (p*2) (by omega)).trans e1
    have c2':=(hC1.out.own.cellAt (p*2+1) (by omega)).trans e2
    have f1:=hC1.out.own.frozenAt (p*2)
    simp only at c1 c2'
    obtain ⟨l4,q4,hI4,hq4⟩:=hC1.out.powers (fun e he=>(HS1.out.pow e he).1) (List.mem_of_getElem? he4)
    simp only at hI4
    have hgd:decide ((0:Int)≤(p:Int))=true:=by simp
    have hp0:(0:Int)≤(p:Int):=by omega
    have T0:W1.cell? ⟨g2,p*2+1,none⟩=some (.slice B4 m4 d4)∧W1.cell? ⟨b,1,none⟩=some (.slice B m d):=⟨c2',j5.out.c 1 rfl⟩
    have T1:W1.drew.cell? ⟨g2,p*2+1,none⟩=some (.slice B4 m4 d4)∧W1.drew.cell? ⟨b,1,none⟩=some (.slice B m d):=T0
    have HC:=hide (ints_Equal B4 m4 d4 xs4 l4 q4 B m d xs l q W1.drew (hI4.same (fun _ _ _=>rfl)) (hI1.out.same (fun _ _ _=>rfl)))
    have hcb4:=hI4.cap
    have HE4:=hide he4
    have HN4:=hide (hC1.out.col.num _ (List.mem_of_getElem? he4)).1
    clear e1 e2 hI4 he4
    have HTT:=hide fun (nq:Nat)=>show (W1.drew.drewN nq).cell? ⟨g2,p*2+1,none⟩=some (.slice B4 m4 d4)∧(W1.drew.drewN nq).cell? ⟨b,1,none⟩=some (.slice B m d) from T0
    by_cases heq:xs4=xs
    ·have hd:decide (xs4=xs)=true:=by simpa using heq
     have HEQ:=hide heq
     rw [hd] at HC
     clear hd heq
     go_region_held3 (fun w'=>w'.cell? ⟨g2,p*2+1,none⟩=some (.slice B4 m4 d4)∧w'.cell? ⟨b,1,none⟩=some (.slice B m d)) (first | exact T0 | exact T1 | exact HTT.out _ | go_keep)
      (first
       | (go_at_call 68;refine HC.out.mono ?_;rintro r w5 ⟨rfl,nq,rfl⟩;clear HC))
     have bq:Below W1.heap.size W1 (W1.drewN (1+nq)):=below_drewN (Below.refl _ _) _
     have hC2:=hide (hC1.out.below bq)
     have j5b:=hide (j5.out.below bq)
     have k1:(W1.drewN (1+nq)).cell? ⟨g2,p*2,none⟩=some (.int .i64 x4):=c1
     have k2:(W1.drewN (1+nq)).frozen? ⟨g2,p*2,none⟩=false:=f1
     clear hC1 j5 bq T0 T1 HTT c1 c2' f1
     generalize W1.drewN (1+nq)=W2 at hC2 j5b k1 k2 ⊢
     have r0:=j5b.out.c 0 rfl
     have hst:=(hC2.out.own.stored (p*2) (.int .i64 (plusF x4 x))).1
     rw [elc_set1 HE4.out] at hst
     have hlw:=hC2.out.bel.size
     have hC3:Hid (OutC w1 (W2.setCell ⟨g2,p*2,none⟩ (.int .i64 (plusF x4 x))).drew g (some ⟨g2,0,none⟩) n2 c2 (k+1) es1 (es2.set p ⟨plusF x4 x,B4,m4,d4,xs4⟩)) :=
      ⟨hst,by rw [List.length_set];exact hC2.out.len,by rw [htk.out];exact hC2.out.col.add HE4.out HEQ.out,(hC2.out.bel.setCell (p:=⟨g2,p*2,none⟩) hg2 _).drew⟩
     have hx4:R64 x4:=by have:=HN4.out;constructor <;> omega
     have hx0:R64 x:=by constructor <;> omega
     have HP4:=hide fun W=>impl_Plus x4 x W hx4 hx0
     clear hst hC2 hx4 hx0
     go_wp2_with fail
     refine still_tail 12 (by kernel_rfl) (by kernel_rfl) ?_
     simp only [List.take_succ_cons,List.take_zero,List.drop_succ_cons,List.drop_zero]
     iterate 9 still_step
     still_call (still_same (HP4.out _))
     iterate 2 still_step
     refine wpStill_nil ?_
     go_wp2_with fail
     go_roundw
     case rel=>exact ⟨k+1,n2,c2,_,_,by omega,by go_num,rfl,by omega,hC3.out⟩
     case measure=>simp [intOf];omega
    ·have hd:decide (xs4=xs)=false:=by simpa using heq
     rw [hd] at HC
     clear hd heq
     go_region_held3 (fun w'=>w'.cell? ⟨g2,p*2+1,none⟩=some (.slice B4 m4 d4)∧w'.cell? ⟨b,1,none⟩=some (.slice B m d)) (first | exact T0 | exact T1 | exact HTT.out _ | go_keep)
      (first
       | (go_at_call 68;refine HC.out.mono ?_;rintro r w5 ⟨rfl,nq,rfl⟩;clear HC))
     have bq:Below W1.heap.size W1 (W1.drewN (1+nq)):=below_drewN (Below.refl _ _) _
     have hC2:=hide (hC1.out.below bq)
     have j5b:=hide (j5.out.below bq)
     clear hC1 j5 bq T0 T1 HTT c1 c2' f1 hgd hw0
     generalize W1.drewN (1+nq)=W2 at hC2 j5b ⊢
     have r0:=j5b.out.c 0 rfl
     have r1:=j5b.out.c 1 rfl
     have hw2:=hC2.out.bel.size
     have hnn:n2+1≤1099511627776:=by omega
     go_wp2_with (at_builtin;refine wpl_app1b rfl (.tmp 43) (.tmp 45) 34 rfl w1.heap.size 67 i0 (.agg #[.int .i64 0,.slice none 0 0]) 2 32 Tryz.underlying34 hi0 hz0 hz1 hz2 rfl (by omega) W2 #[.int .i64 x,.slice B m d] _ rfl (some ⟨g2,0,none⟩) n2 c2 1 _ rfl rfl hC2.out.own rfl (by simp [Value.oneCell']) hnn (by omega) hw2 ?_;intro A3 c3 w4 happ hlt4)
     have hC3:Hid (OutC w1 w4 g A3 (n2+1) c3 (k+1) es1 (es2++[⟨x,B,m,d,xs⟩])) :=
      ⟨by rw [List.flatMap_append];exact happ.1,by simp [hC2.out.len],by rw [htk.out];exact hC2.out.col.push hnx,happ.low hC2.out.bel hw2 (Nat.le_refl _) hC2.out.own⟩
     clear happ hC2 j5b r0 r1
     go_wp2_with fail
     go_roundw
     case rel=>exact ⟨k+1,n2+1,c3,A3,_,by omega,by go_num,rfl,by omega,hC3.out⟩
     case measure=>simp [intOf];omega
  ·obtain rfl:n=k:=by omega
   have hcol:=hC.out.col
   rw [List.take_of_length_le (Nat.le_of_eq HS1.out.len)] at hcol
   have HCol:=hide hcol.filter
   have hlen2:=hC.out.len
   have HD:=hide (lib_DeleteFunc w1.heap.size n2 c2 A2 es2 wr hC.out.own hC.out.len hbz (by omega))
   have HBel:=hide hC.out.bel
   clear hcol hC
   go_wp2_with fail
   refine HD.out.mono ?_
   rintro r w2 ⟨A3,n3,c3,rfl,hR,b2⟩
   have HR:=hide hR
   have hT:=hide (HS1.out.chg.trans (.of_below (HBel.out.trans b2)))
   clear hR HD HBel b2
   go_wp2_with fail
   go_ret
   have hfl:(es2.filter nz).length≤n:=Nat.le_trans (List.length_filter_le _ _) (by omega)
   refine ⟨A3,n3,c3,(es2.filter nz).map El.mono,rfl,⟨by rw [List.length_map];exact HR.out.len,HR.out.cap,HR.out.max,fun h0=>?_⟩,?_,hT.out⟩
   ·obtain ⟨g3,rfl,hg3,hg3h,hcl⟩:=HR.out.cells h0
    have hz1:=HS1.out.chg.size
    refine ⟨_,rfl,by show lo≤g3;omega,hg3h,fun j mm hm=>?_⟩
    rw [List.getElem?_map] at hm
    cases he:(es2.filter nz)[j]? with
    | none=>rw [he] at hm;cases hm
    | some e =>
     rw [he] at hm
     injection hm with hm
     subst hm
     obtain ⟨k1,k2⟩:=hcl j e he
     obtain ⟨hb,e',h1,h2,h3,h4,h5⟩:=HCol.out.num e (List.mem_of_getElem? he)
     obtain ⟨_,l,q,hl,hq,hI,hav⟩:=HLst.out.row e' (HP1.out.mem_iff.1 h1)
     have hgq:=hav _ rfl
     refine ⟨by show w2.cell? _=some (.int .i64 e.x);simpa [Addr.add_lit] using k1,⟨by show _≤e.x;omega,by show e.x≤_;omega⟩,e.B,e.m,e.d,?_,?_⟩
     ·rw [Addr.add_lit];simpa using k2
     ·show Ints w2 lo w2.heap.size e.B e.m e.d e.xs
      rw [h2,h3,h4,h5]
      have hw2:=hT.out.size
      refine (hI.same (hT.out.same ?_ (by omega))).wide hl (by omega)
      simp only at hgq
      omega
   ·refine (ColP.perm (p:=es1.map El.mono) ⟨?_,?_,?_,HCol.out.sum⟩ (HP1.out.map El.mono))
    ·rw [List.length_map,List.length_map,HS1.out.len];exact hfl
    ·intro mm hm
     obtain ⟨e,he,rfl⟩:=List.mem_map.1 hm
     exact (HCol.out.num e he).1
    ·intro mm hm
     obtain ⟨e,he,rfl⟩:=List.mem_map.1 hm
     obtain ⟨_,e',h1,_,_,_,h5⟩:=HCol.out.num e he
     exact ⟨e'.mono,List.mem_map_of_mem h1,h5.symm⟩
end Go.Proofs.YtomgcbfcnjbofaaGreat
/- Products of polynomials: the program's walk. -/
namespace Go.Proofs.YtomgcbfcnjbofaaGreat
open Go.RowKit
set_option linter.unusedSimpArgs false
set_option linter.unusedVariables false
set_option maxRecDepth 20000
theorem blk_grown {w w':World} {g:Nat} {vs:Array Value} {A:Option Addr} {n c:Nat} (h:BlkN w g vs) (hg:w.grownBy w' (Value.ownBlock (.slice A n c))) (hne:∀ ad,A=some ad→ad.block≠g):BlkN w' g vs :=
 h.same (hg.block g h.lt fun e=>by
  obtain ⟨ad,e1,e2⟩:=ownBlock_eq.1 e.symm
  exact hne ad e1 e2)
end Go.Proofs.YtomgcbfcnjbofaaGreat
/- What a field makes of a polynomial: the program's walk. -/
namespace Go.Proofs.YtomgcbfcnjbofaaGreat
open Go.RowKit
set_option linter.unusedSimpArgs false
set_option linter.unusedVariables false
set_option maxRecDepth 20000
theorem lib_insertion0 (A:Option Addr) (c:Nat) (w:World) :
  Calls Tryz.prog 115 #[.slice A 0 c,.int .i64 0,.int .i64 0,.func (.func 78) #[] #[]] w fun r w'=>r = .returned (.tuple #[])∧w=w':=by
 go_enter Tryz.func115,Tryz.ntmps115
 go_wp2_with fail
 go_loopw [8] (fun i wr=>i = .int .i64 1∧wr=w) (fun _ _=>0)
 case atStart=>exact ⟨rfl,rfl⟩
 case round =>
  obtain ⟨rfl,rfl⟩:=hrel
  go_wp2_with fail
  go_end0
  exact ⟨rfl,rfl⟩
theorem lib_stable0 (A:Option Addr) (c:Nat) (w:World) :
  Calls Tryz.prog 103 #[.slice A 0 c,.int .i64 0,.func (.func 78) #[] #[]] w fun r w'=>r = .returned (.tuple #[])∧w=w':=by
 go_enter Tryz.func103,Tryz.ntmps103
 go_wp2_with fail
 go_loopw [7,8] (fun x y wr=>x = .int .i64 0∧y = .int .i64 20∧wr=w) (fun _ _ _=>0)
 case atStart=>exact ⟨rfl,rfl,rfl⟩
 case round =>
  obtain ⟨rfl,rfl,rfl⟩:=hrel
  go_wp2_with fail
  refine (lib_insertion0 A c wr).mono ?_
  rintro r w1 ⟨rfl,rfl⟩
  go_wp2_with fail
  go_loopw [6] (fun x wr2=>x = .int .i64 20∧wr2=wr) (fun _ _=>0)
  case atStart=>exact ⟨rfl,rfl⟩
  case round =>
   obtain ⟨rfl,rfl⟩:=hrel
   go_wp2_with fail
   go_end0
   exact ⟨rfl,rfl⟩
theorem lib_SortStable0 (A:Option Addr) (c:Nat) (w:World) :
  Calls Tryz.prog 77 #[.slice A 0 c,.func (.func 78) #[] #[]] w fun r w'=>r = .returned (.tuple #[])∧w=w':=by
 go_enter Tryz.func77,Tryz.ntmps77
 go_wp2_with fail
 refine (lib_stable0 A c w).mono ?_
 rintro r w1 ⟨rfl,rfl⟩
 go_wp2_with fail
 go_end0
 exact ⟨rfl,rfl⟩
theorem impl_collect0 (A:Option Addr) (c:Nat) (w:World) :
  Calls Tryz.prog 44 #[.slice A 0 c] w fun r w'=>∃ A' n' c',r = .returned (.slice A' n' c')∧Mons w' w.heap.size w'.heap.size A' n' c' []∧Below w.heap.size w w':=by
 have ho0:(w.alloc (.cells #[] 67)).ownsRow w.heap.size 67 2 (.slice (some ⟨w.heap.size,0,none⟩) 0 0) 0 (([]:List El).flatMap El.cells):=by
  simpa using World.ownsRow_lit (size:=2) (e:=67) w #[] 0 (Nat.le_refl _) (by unfold maxLen;omega) rfl
 have HD:=hide (lib_DeleteFunc w.heap.size 0 0 (some ⟨w.heap.size,0,none⟩) [] (w.alloc (.cells #[] 67)) ho0 rfl (by simp) (by omega))
 have hb0:=hide (below_alloc w (.cells #[] 67))
 clear ho0
 go_enter Tryz.func44,Tryz.ntmps44
 go_wp2_with fail
 refine (lib_SortStable0 A c w).mono ?_
 rintro r w1 ⟨rfl,rfl⟩
 go_wp2_with fail
 go_loopw [3,12] (fun o i wr=>i = .int .i64 0∧o = .slice (some ⟨w.heap.size,0,none⟩) 0 0∧wr=w.alloc (.cells #[] 67)) (fun _ _ _=>0)
 case atStart=>exact ⟨rfl,rfl,rfl⟩
 case round =>
  obtain ⟨rfl,rfl,rfl⟩:=hrel
  go_wp2_with fail
  refine HD.out.mono ?_
  rintro r w2 ⟨A3,n3,c3,rfl,hR,b2⟩
  have hB:=hide (hb0.out.trans b2)
  have HR:=hide hR
  clear hR b2 HD hb0
  go_wp2_with fail
  go_ret
  have h0:n3=0:=by have:=HR.out.len;simpa using this.symm
  subst h0
  exact ⟨A3,0,c3,rfl,⟨rfl,HR.out.cap,HR.out.max,fun h=>absurd h (by omega)⟩,hB.out⟩
theorem Mons.across2 {w W1 W2:World} {lo hi:Nat} {A:Option Addr} {n c:Nat} {ms:List Mono} (h:Mons W1 lo hi A n c ms) {B:Nat} (b1:Below B w W1) (b2:Below B w W2) (hB:hi≤B):Mons W2 lo hi A n c ms :=
 h.same fun k _ h2=>(b2.block k (by omega)).trans (b1.block k (by omega)).symm
theorem partM_some {v:Nat} {m m':Mono} (h:partM v m=some m'):0<m.2.getD v 0∧m'=(timesF m.1 (m.2.getD v 0),m.2.set v (m.2.getD v 0 - 1)):=by
 unfold partM at h
 split at h
 ·rename_i h0
  exact ⟨h0,by injection h with h;exact h.symm⟩
 ·cases h
theorem partF_mem {ms:List Mono} {v dim:Nat} {C:Int} (hms:∀ m∈ms,m.2.length=dim∧∀ x∈m.2,0≤x∧x≤C):∀ m∈partF ms v,(m.2.length=dim∧∀ x∈m.2,0≤x∧x≤C)∧0≤m.1∧m.1<1000000271:=by
 intro m hm
 simp only [partF,List.mem_filterMap] at hm
 obtain ⟨m0,h0,h1⟩:=hm
 obtain ⟨h2,rfl⟩:=partM_some h1
 obtain ⟨h3,h4⟩:=hms m0 h0
 refine ⟨⟨by simpa using h3,fun x hx=>?_⟩,timesF_bd _ _⟩
 rcases List.mem_or_eq_of_mem_set hx with h5 | h5
 ·exact h4 x h5
 ·have hv:v<m0.2.length:=by
   rcases Nat.lt_or_ge v m0.2.length with h6 | h6
   ·exact h6
   ·rw [List.getD,List.getElem?_eq_none h6] at h2
    simp at h2
  have h7:=h4 _ (List.getElem_mem hv)
  have h8:m0.2.getD v 0=m0.2[v]:=by simp [List.getD,hv]
  rw [h8] at h2 h5
  rw [h5]
  omega
end Go.Proofs.YtomgcbfcnjbofaaGreat
