/- What the statements draw: rows of numbers, paths, polynomials of two variables: the reference's walks. -/
import Derived.Test.YtomgcbfcnjbofaaGreatDtK
import Derived.Test.YtomgcbfcnjbofaaGreatSoO
namespace Go.Proofs.YtomgcbfcnjbofaaGreat
open Go.RowKit
open List renaming setIfInBounds_toArray → sTA, set_cons_zero → sC0, set_cons_succ → sC1, getElem_toArray → gTA, getElem_cons_zero → gC0, getElem_cons_succ → gC1
open Nat renaming le_refl → lR
set_option linter.unusedSimpArgs false
set_option linter.unusedVariables false
set_option maxRecDepth 20000
set_option maxRecDepth 100000 in
set_option maxHeartbeats 4000000 in
theorem spec_dNums (hiC gc n:Nat) (w:World) (h:Cur w hiC gc) (hn:n≤1000) :
  Calls Tryz.prog 72 #[.pointer (some ⟨gc,0,none⟩),.int .i64 (n:Int)] w fun e w'=>∃ A c xs,e = .returned (.slice A n c)∧OwnI w' w.heap.size w'.heap.size A n c xs∧Hid (∀ x∈xs,0≤x∧x<1000000271)∧Cur w' hiC gc∧Touch gc (gc+1) w w':=by
 obtain ⟨i0,hi0,hz0,hz1,hz2⟩:=info_parts info_int
 obtain ⟨hgc,hgh⟩:=h.lt
 have hq0:(w.alloc (.cells #[] 3)).ownsRow w.heap.size 3 1 (.slice (some ⟨w.heap.size,0,none⟩) 0 0) 0 (([]:List Int).map (Value.int .i64)):=by
  simpa using World.ownsRow_lit (size:=1) (e:=3) (base:=w.heap.size) w #[] 0 (lR _) (by unfold maxLen;omega) rfl
 have q0:=hide hq0
 have c0:=hide (h.below (below_alloc w (.cells #[] 3)))
 have t0:=hide ((Touch.refl gc (gc+1) w).alloc (.cells #[] 3))
 clear h hq0
 go_enter Tryz.func72,Tryz.ntmps72
 go_wp2_with fail
 generalize w.alloc (.cells #[] 3)=W at q0 c0 t0 ⊢
 go_loopw [5,6] (fun l iv wr=>∃ (k:Nat) (A:Option Addr) (c:Nat) (xs:List Int),k≤n∧iv = .int .i64 (k:Int)∧l = .slice A k c∧Hid (wr.ownsRow w.heap.size 3 1 (.slice A k c) k (xs.map (Value.int .i64)))∧Hid (∀ x∈xs,0≤x∧x<1000000271)∧Hid (Cur wr hiC gc)∧Hid (Touch gc (gc+1) w wr)) (fun _ iv _=>n - (intOf iv).toNat)
 case atStart=>exact ⟨0,_,_,[],by omega,rfl,rfl,q0.out,(fun m hm=>absurd hm (by simp):∀ m∈([]:List Int),0≤m∧m<1000000271),c0.out,t0.out⟩
 case round =>
  clear q0 c0 t0
  obtain ⟨k,A,c,xs,hk,rfl,rfl,hown,hxs,hC,hT⟩:=hrel
  by_cases hlt:k<n
  ·go_wp2_with fail
   refine (spec_dNum hiC gc wr hC.out).mono ?_
   rintro e w2 ⟨x,rfl,hx0,hx1,c2,t2⟩
   have O2:=hide (owns_same hown.out fun ad e=>t2.block ad.block (owns_lt hown.out ad e).2 (.inr (by have:=(owns_lt hown.out ad e).1;omega)))
   have T2:=hide (hT.out.trans t2)
   have hcb:=(⟨O2.out,fun ad e=>(owns_lt O2.out ad e).2,fun y hy=>⟨by have:=hxs.out y hy;omega,by have:=hxs.out y hy;omega⟩⟩:OwnI w2 w.heap.size w2.heap.size A k c xs).capb
   have hz:=T2.out.size
   clear hown hT hC t2
   go_wp2_with (at_builtin;refine wpl_app1 rfl (.tmp 13) (.tmp 16) 24 rfl w.heap.size 3 i0 (.int .i64 0) 1 8 Tryz.underlying24 hi0 hz0 hz1 hz2 rfl (by omega) w2 #[.int .i64 x] A k c 1 _ rfl rfl O2.out rfl (by simp [Value.oneCell']) (by omega) (by omega) (by omega) ?_;intro A3 c3 w5 happ hlt5;have HB5:=hide (happ.low (Below.refl w.heap.size w2) (by omega) (lR _) O2.out);have HO5:Hid (w5.ownsRow w.heap.size 3 1 (.slice A3 (k+1) c3) (k+1) ((xs++[x]).map (Value.int .i64))):=(by show World.ownsRow _ _ _ _ _ _ _;rw [List.map_append];exact happ.1);have hxs5:Hid (∀ y∈xs++[x],0≤y∧y<1000000271):=(fun y hy=>(List.mem_append.1 hy).elim (fun h=>hxs.out y h) (fun h=>by rw [List.mem_singleton.1 h];exact ⟨hx0,hx1⟩));have C5:=hide (c2.low HB5.out (by omega));have T5:=hide (T2.out.then_below HB5.out (lR _));clear happ O2 T2 c2 HB5 hcb)
   go_roundw
   case rel=>exact ⟨k+1,A3,c3,xs++[x],by omega,by go_num,rfl,HO5.out,hxs5.out,C5.out,T5.out⟩
   case measure=>simp [intOf];omega
  ·obtain rfl:n=k:=by omega
   have HO:Hid (OwnI wr w.heap.size wr.heap.size A n c xs):=⟨hown.out,fun ad e=>(owns_lt hown.out ad e).2,fun y hy=>⟨by have:=hxs.out y hy;omega,by have:=hxs.out y hy;omega⟩⟩
   clear hown
   go_wp2_with fail
   go_ret
   exact ⟨A,c,xs,rfl,HO.out,hxs.out,hC.out,hT.out⟩
structure GoodD (dim:Nat) (s:List Mono):Prop where
 num:∀ q∈s,0≤q.1∧q.1<1000000271
 len:∀ q∈s,q.2.length=dim
 desc:Desc s
theorem GoodD.put {dim:Nat} {s:List Mono} (h:GoodD dim s) {m:Mono} (hm:0≤m.1∧m.1<1000000271) (hl:m.2.length=dim):GoodD dim (putF s m) :=
 ⟨fun q hq=>putR_num s m h.num hm q (List.mem_filter.1 hq).1,fun q hq=>by
  rcases putR_mem s m q (List.mem_filter.1 hq).1 with h1 | h1
  ·rw [h1];exact hl
  ·exact h.len q h1,List.Pairwise.filter _ (putR_desc s m h.desc (fun q hq=>by rw [h.len q hq,hl]))⟩
theorem GoodD.nil (dim:Nat):GoodD dim []:=⟨by simp,by simp,by simp [Desc]⟩
theorem putM_len (s:List Mono) (m:Mono):(putF s m).length≤s.length+1:=Nat.le_trans (List.length_filter_le _ _) (putR_len s m)
structure MoS (hiC gc:Nat) (w wr W:World) (P:Option Addr) (n c:Nat) (ms:List Mono):Prop where
 cur:Cur W hiC gc
 low:Touch gc (gc+1) w W
 mp:Mons W w.heap.size wr.heap.size P n c ms
 up:wr.heap.size≤W.heap.size
 hgc:gc+1≤w.heap.size
 hw:w.heap.size≤wr.heap.size
structure MoT (hiC gc:Nat) (w wr W:World) (gm gp:Nat) (x:Int) (P:Option Addr) (n c:Nat) (ms:List Mono) (a b:Int):Prop where
 s:MoS hiC gc w wr W P n c ms
 km:BlkN W gm #[.int .i64 x,.slice (some ⟨gp,0,none⟩) 2 2]
 kp:OwnI W wr.heap.size W.heap.size (some ⟨gp,0,none⟩) 2 2 [a,b]
 hm:wr.heap.size≤gm
 hp:wr.heap.size≤gp
 ne:gp≠gm
section
variable {hiC gc:Nat} {w wr W W':World} {P:Option Addr} {n c:Nat} {ms:List Mono} {gm gp:Nat} {x a b:Int}
theorem MoS.touch (h:MoS hiC gc w wr W P n c ms) (ht:Touch gc (gc+1) W W') (hc:Cur W' hiC gc):MoS hiC gc w wr W' P n c ms :=
 ⟨hc,h.low.trans ht,h.mp.same (ht.same (.inr h.hgc) h.up),Nat.le_trans h.up ht.size,h.hgc,h.hw⟩
theorem MoS.below (h:MoS hiC gc w wr W P n c ms) (hb:Below W.heap.size W W'):MoS hiC gc w wr W' P n c ms :=
 ⟨h.cur.below hb,h.low.then_below hb h.low.size,h.mp.below hb h.up,Nat.le_trans h.up hb.size,h.hgc,h.hw⟩
theorem MoS.high (h:MoS hiC gc w wr W P n c ms) {p:Addr} (hp:wr.heap.size≤p.block) (v:Value):MoS hiC gc w wr (W.setCell p v) P n c ms:=by
 have hb:Below wr.heap.size W (W.setCell p v):=(Below.refl wr.heap.size W).setCell hp v
 exact ⟨h.cur.low hb (by have:=h.hgc;have:=h.hw;omega),h.low.then_below (hb.mono h.hw) (lR _),h.mp.below hb (lR _),by simpa [World.setCell] using h.up,h.hgc,h.hw⟩
theorem MoT.touch (h:MoT hiC gc w wr W gm gp x P n c ms a b) (ht:Touch gc (gc+1) W W') (hc:Cur W' hiC gc):MoT hiC gc w wr W' gm gp x P n c ms a b:=by
 have h1:=h.s.hgc
 have h2:=h.s.hw
 have h3:=h.hm
 have h4:=h.hp
 exact ⟨h.s.touch ht hc,h.km.touch ht (.inr (by omega)),(h.kp.same (ht.same (.inr (by omega)) (lR _))).wide (lR _) ht.size,h.hm,h.hp,h.ne⟩
theorem MoT.drewM (h:MoT hiC gc w wr W gm gp x P n c ms a b):MoT hiC gc w wr W.drew gm gp x P n c ms a b :=
 h.touch (Touch.refl gc (gc+1) W).drew (h.s.cur.low (Below.refl W.heap.size W).drew h.s.cur.lt.1)
theorem MoT.setP (h:MoT hiC gc w wr W gm gp x P n c ms a b) (i:Nat) {v:Int} (hv:R64 v) {a' b':Int} (e:[a,b].set i v=[a',b']):MoT hiC gc w wr (W.setCell ⟨gp,i,none⟩ (.int .i64 v)) gm gp x P n c ms a' b':=by
 have hsz:(W.setCell ⟨gp,i,none⟩ (.int .i64 v)).heap.size=W.heap.size:=by simp [World.setCell]
 refine ⟨h.s.high (p:=⟨gp,i,none⟩) h.hp _,h.km.far (Ne.symm h.ne) _,?_,h.hm,h.hp,h.ne⟩
 rw [hsz,← e]
 refine ⟨by rw [List.map_set];exact (h.kp.own.stored i (.int .i64 v)).1,h.kp.lt,fun y hy=>?_⟩
 rcases List.mem_or_eq_of_mem_set hy with hy | rfl
 ·exact h.kp.rng y hy
 ·exact hv
theorem MoT.set0 (h:MoT hiC gc w wr W gm gp x P n c ms a b) (hv:R64 (a+1)):MoT hiC gc w wr (W.setCell ⟨gp,0,none⟩ (.int .i64 (a+1))) gm gp x P n c ms (a+1) b:=h.setP 0 hv rfl
theorem MoT.set1 (h:MoT hiC gc w wr W gm gp x P n c ms a b) (hv:R64 (b+1)):MoT hiC gc w wr (W.setCell ⟨gp,1,none⟩ (.int .i64 (b+1))) gm gp x P n c ms a (b+1):=h.setP 1 hv rfl
end
theorem mo_meet {hiC gc:Nat} {w wr W:World} {P:Option Addr} {n c:Nat} {ms:List Mono} {gm gp:Nat} {f:Int} (D:MoS hiC gc w wr W P n c ms) (km:BlkN W gm #[.int .i64 0,.slice none 0 0]) (kp:W.heap[gp]? = some (.cells (zeros 2) 3 (0,0))) (lp:gp<W.heap.size) (hgp:wr.heap.size≤gp) (hgm:wr.heap.size≤gm) (hne:gp≠gm) (hf:0≤f∧f<1000000271) :
  ∃ (gm' gp':Nat) (x:Int),Value.pointer (some ⟨gm,0,none⟩) = .pointer (some ⟨gm',0,none⟩)∧Hid (0≤x∧x<1000000271)∧Hid (MoT hiC gc w wr ((W.setCell ⟨gm,0,none⟩ (.int .i64 f)).setCell ⟨gm,1,none⟩ (.slice (some ⟨gp,0,none⟩) 2 2)) gm' gp' x P n c ms 0 0):=by
 have k2:=(km.set 0 (.int .i64 f)).set 1 (.slice (some ⟨gp,0,none⟩) 2 2)
 simp only [sTA,sC0,sC1] at k2
 have hsz:((W.setCell ⟨gm,0,none⟩ (.int .i64 f)).setCell ⟨gm,1,none⟩ (.slice (some ⟨gp,0,none⟩) 2 2)).heap.size=W.heap.size:=by simp [World.setCell]
 have hz:zeros 2=iCells [0,0]:=Array.ext' (by rw [zeros_list];rfl)
 have h1:((W.setCell ⟨gm,0,none⟩ (.int .i64 f)).setCell ⟨gm,1,none⟩ (.slice (some ⟨gp,0,none⟩) 2 2)).heap[gp]? = some (.cells (iCells [0,0]) 3 (0,0)):=by
  rw [← hz]
  exact ((Below.heap_setCell _ ⟨gm,1,none⟩ _ gp hne).trans (Below.heap_setCell _ ⟨gm,0,none⟩ _ gp hne)).trans kp
 exact ⟨gm,gp,f,rfl,hf,(D.high (p:=⟨gm,0,none⟩) hgm _).high (p:=⟨gm,1,none⟩) hgm _,k2,block_own h1 rfl hgp (by omega) (fun x hx=>by
  obtain rfl:x=0:=by simpa using hx
  constructor <;> omega),hgm,hgp,hne⟩
set_option maxRecDepth 100000 in
set_option maxHeartbeats 16000000 in
theorem spec_dMonomials (hiC gc:Nat) (w:World) (h:Cur w hiC gc) :
  Calls Tryz.prog 35 #[.pointer (some ⟨gc,0,none⟩),.int .i64 2,.int .i64 4,.int .i64 4] w fun e w'=>∃ A n c ms,e = .returned (.slice A n c)∧Mons w' w.heap.size w'.heap.size A n c ms∧Hid (∀ q∈ms,q.2.length=2)∧Cur w' hiC gc∧Touch gc (gc+1) w w':=by
 obtain ⟨hgc,hgh⟩:=h.lt
 have c0:=h.below (below_alloc w (.cells #[] 67))
 have t0:=(Touch.refl gc (gc+1) w).alloc (.cells #[] 67)
 have hgcw:gc+1≤w.heap.size:=hgc
 clear h
 go_enter Tryz.func35,Tryz.ntmps35
 go_wp2_with fail
 have m0:Mons (w.alloc (.cells #[] 67)) w.heap.size (w.alloc (.cells #[] 67)).heap.size (some ⟨w.heap.size,0,none⟩) 0 0 []:=⟨rfl,lR _,by omega,fun h0=>by omega⟩
 generalize w.alloc (.cells #[] 67)=W at c0 t0 m0 ⊢
 refine (spec_l1Below hiC gc 5 W c0 (by omega) (by omega)).mono ?_
 rintro e w1 ⟨j0,rfl,hj0,hj1,c1,t1⟩
 obtain ⟨j1,rfl⟩:∃ k:Nat,j0=k:=⟨j0.toNat,by omega⟩
 have T1:=hide (t0.trans t1)
 have M1:=hide ((m0.same (t1.same (.inr (by have:=t0.size;omega)) (lR _))).wide (lR _) t1.size)
 have C1:=hide c1
 clear c0 t0 m0 t1 c1
 go_wp2_with fail
 go_loopw [9,10,11,12,13] (fun p nv _ _ _ wr=>∃ (j:Nat) (P:Option Addr) (n c:Nat) (ms:List Mono),nv = .int .i64 (j:Int)∧p = .slice P n c∧n+j≤4∧Hid (Mons wr w.heap.size wr.heap.size P n c ms)∧Hid (GoodD 2 ms)∧Hid (Cur wr hiC gc)∧Hid (Touch gc (gc+1) w wr)) (fun _ nv _ _ _ _=>(intOf nv).toNat)
 case atStart=>exact ⟨j1,_,0,0,[],rfl,rfl,by omega,M1.out,GoodD.nil 2,C1.out,T1.out⟩
 case round =>
  clear M1 C1 T1 hj0 hj1
  obtain ⟨j,P,n,c,ms,rfl,rfl,hnj,hM,hG,hC,hT⟩:=hrel
  by_cases hpos:0<j
  ·have hwr:=hT.out.size
   have HM:=hide (MoS.mk (hiC:=hiC) (gc:=gc) (w:=w) (wr:=wr) hC.out hT.out hM.out (lR _) hgcw hwr)
   have hnb:n≤4:=by omega
   have hcp:=hM.out.cap
   have hmx:=hM.out.max
   clear hM hC hT
   go_upto_region 5 with fail
   go_cut [11] (fun s11 wx=>∃ (gm gp:Nat) (x:Int),s11 = .pointer (some ⟨gm,0,none⟩)∧Hid (0≤x∧x<1000000271)∧Hid (MoT hiC gc w wr wx gm gp x P n c ms 0 0))
   case first =>
    refine wp_region_Z (fun _=>True) 11 (by kernel_rfl) ?_
    simp only [List.size_toArray,List.length_cons,List.length_nil,Nat.reduceAdd]
    have hS0:True:=trivial
    have D0:=hide (HM.out.below (Below.refl wr.heap.size wr).drew)
    clear HM hG
    generalize wr.drew=V at D0 ⊢
    refine wpAnyZ_takeW 0 (.pointer (some ⟨gc,0,none⟩)) rfl (by kernel_rfl) (by kernel_rfl) (fun _ _ _ h=>h) (by rfl) (fun _=>by first | (simp [go_sem];done) | go_simp) hS0 ?_
    try simp only [Act.put,sTA,sC0,sC1,gTA,gC0,gC1]
    refine wpAnyZ_takeW 3 (.pointer (some ⟨gc,0,none⟩)) rfl (by kernel_rfl) (by kernel_rfl) (fun _ _ _ h=>h) (by rfl) (fun _=>by first | (simp [go_sem];done) | go_simp) hS0 ?_
    try simp only [Act.put,sTA,sC0,sC1,gTA,gC0,gC1]
    refine wpAnyZ_takeW 7 (.int .i64 2) rfl (by kernel_rfl) (by kernel_rfl) (fun _ _ _ h=>h) (by rfl) (fun _=>by first | (simp [go_sem];done) | go_simp) hS0 ?_
    try simp only [Act.put,sTA,sC0,sC1,gTA,gC0,gC1]
    refine wpAnyZ_three 1 8 10 (by kernel_rfl) rfl rfl rfl (by rfl) (by rfl) (by rfl) (fun K hK=>?_) (fun K hK=>?_) (fun K hK=>?_)
    ·
     go_simp
     refine (spec_l1Below hiC gc 9 V D0.out.cur (by omega) (by omega)).mono ?_
     rintro e z1 ⟨x,rfl,hx0,hx1,cN,tN⟩
     have D1:=hide (D0.out.touch tN cN)
     skip
     clear tN cN
     have hwx:=IntWalk.i64_in (x - 4) (by omega)
     go_wp2_with fail
     refine hK.out _ _ trivial ?_
     clear hK K
     try simp only [Act.put,sTA,sC0,sC1,gTA,gC0,gC1]
     refine wpAnyZ_takeW 2 (.int .i64 (x - 4)) rfl (by kernel_rfl) (by kernel_rfl) (fun _ _ _ h=>h) (by rfl) (fun _=>by simp [go_sem,hwx]) trivial ?_
     try simp only [Act.put,sTA,sC0,sC1,gTA,gC0,gC1]
     refine wpAnyZ_three 4 8 10 (by kernel_rfl) rfl rfl rfl (by rfl) (by rfl) (by rfl) (fun K hK=>?_) (fun K hK=>?_) (fun K hK=>?_)
     ·
      go_simp
      refine (spec_l1Below hiC gc 2 z1 D1.out.cur (by omega) (by omega)).mono ?_
      rintro e z2 ⟨y,rfl,hy0,hy1,cN,tN⟩
      have D2:=hide (D1.out.touch tN cN)
      clear D1
      clear tN cN
      have hwy:=IntWalk.i64_in (1+y) (by omega)
      go_wp2_with fail
      refine hK.out _ _ trivial ?_
      clear hK K
      try simp only [Act.put,sTA,sC0,sC1,gTA,gC0,gC1]
      refine wpAnyZ_takeW 5 (.int .i64 (1+y)) rfl (by kernel_rfl) (by kernel_rfl) (fun _ _ _ h=>h) (by rfl) (fun _=>by simp [go_sem,hwy]) trivial ?_
      try simp only [Act.put,sTA,sC0,sC1,gTA,gC0,gC1]
      refine wpAnyZ_three 6 8 10 (by kernel_rfl) rfl rfl rfl (by rfl) (by rfl) (by rfl) (fun K hK=>?_) (fun K hK=>?_) (fun K hK=>?_)
      ·
       go_simp
       refine (spec_Fraction (x - 4) (1+y) z2 (by constructor <;> omega) (by constructor <;> omega)).mono ?_
       rintro e xx ⟨rfl,rfl⟩
       have hfb:=fracF_bd (x - 4) (1+y)
       go_wp2_with fail
       refine hK.out _ _ trivial ?_
       clear hK K
       try simp only [Act.put,sTA,sC0,sC1,gTA,gC0,gC1]
       refine wpAnyZ_two 8 10 (by kernel_rfl) rfl rfl (by rfl) (by rfl) (fun K hK=>?_) (fun K hK=>?_)
       ·
        have hmk:(Instr.makeSlice 24 (.int .i64 2) (.int .i64 2)).run Tryz.prog z2 = .ok (.slice (some ⟨z2.heap.size,0,none⟩) 2 2) (z2.alloc (.cells (zeros 2) 3)):=make_ints 2 (by omega) z2
        go_simp
        clear hmk
        have aE:=below_alloc z2 (.cells (zeros 2) 3)
        have kp0:=heap_alloc_new z2 (.cells (zeros 2) 3)
        have lp0:z2.heap.size<(z2.alloc (.cells (zeros 2) 3)).heap.size:=by simp
        have hgp0:=D2.out.up
        have D3:=hide (D2.out.below aE)
        clear D2
        refine hK.out _ _ trivial ?_
        clear aE
        obtain ⟨gp,hgp⟩:∃ z,z=z2.heap.size:=⟨_,rfl⟩
        generalize z2.alloc (.cells (zeros 2) 3)=z3 at D3 kp0 lp0 ⊢
        rw [← hgp] at kp0 lp0 hgp0 ⊢
        clear hgp
        clear hK K
        try simp only [Act.put,sTA,sC0,sC1,gTA,gC0,gC1]
        refine wpAnyZ_takeW 9 (.agg #[.int .i64 (fracF (x - 4) (1+y)),.slice (some ⟨gp,0,none⟩) 2 2]) rfl (by kernel_rfl) (by kernel_rfl) (fun _ _ _ h=>h) (by rfl) (fun _=>by first | (simp [go_sem];done) | go_simp) trivial ?_
        try simp only [Act.put,sTA,sC0,sC1,gTA,gC0,gC1]
        refine wpAnyZ_one 10 (by kernel_rfl) rfl (by rfl) (fun K hK=>?_)
        go_simp
        have aE:=below_alloc z3 (.cells #[.int .i64 0,.slice none 0 0] 67)
        have km0:=BlkN.new z3 #[.int .i64 0,.slice none 0 0] 67
        have hgm0:=D3.out.up
        have hgne:=Nat.ne_of_lt lp0
        have D4:=hide (D3.out.below aE)
        have kp4:=(aE.block gp lp0).trans kp0
        have lp4:=Nat.lt_of_lt_of_le lp0 aE.size
        clear kp0 lp0
        clear D3
        refine hK.out _ _ trivial ?_
        clear aE
        obtain ⟨gm,hgm⟩:∃ z,z=z3.heap.size:=⟨_,rfl⟩
        generalize z3.alloc (.cells #[.int .i64 0,.slice none 0 0] 67)=z4 at D4 kp4 lp4 km0 ⊢
        rw [← hgm] at km0 hgm0 hgne ⊢
        clear hgm
        clear hK K
        try simp only [Act.put,sTA,sC0,sC1,gTA,gC0,gC1]
        have u1:=km0.c 0 rfl
        have u2:=km0.c 1 rfl
        have v1:=km0.f 0
        have v2:=km0.f 1
        refine wpAnyZ_last (by kernel_rfl) rfl (by kernel_rfl) (by rfl) (fun K hK=>?_)
        go_simp
        refine hK _ _ ?_
        clear hK K u1 u2 v1 v2
        go_wp2_with fail
        go_meet
        case rel=>exact mo_meet D4.out km0 kp4 lp4 hgp0 hgm0 hgne hfb
       ·
        go_simp
        have aE:=below_alloc z2 (.cells #[.int .i64 0,.slice none 0 0] 67)
        have km0:=BlkN.new z2 #[.int .i64 0,.slice none 0 0] 67
        have hgm0:=D2.out.up
        have D3:=hide (D2.out.below aE)
        clear D2
        refine hK.out _ _ trivial ?_
        clear aE
        obtain ⟨gm,hgm⟩:∃ z,z=z2.heap.size:=⟨_,rfl⟩
        generalize z2.alloc (.cells #[.int .i64 0,.slice none 0 0] 67)=z3 at D3 km0 ⊢
        rw [← hgm] at km0 hgm0 ⊢
        clear hgm
        clear hK K
        try simp only [Act.put,sTA,sC0,sC1,gTA,gC0,gC1]
        refine wpAnyZ_one 8 (by kernel_rfl) rfl (by rfl) (fun K hK=>?_)
        have hmk:(Instr.makeSlice 24 (.int .i64 2) (.int .i64 2)).run Tryz.prog z3 = .ok (.slice (some ⟨z3.heap.size,0,none⟩) 2 2) (z3.alloc (.cells (zeros 2) 3)):=make_ints 2 (by omega) z3
        go_simp
        clear hmk
        have aE:=below_alloc z3 (.cells (zeros 2) 3)
        have kp0:=heap_alloc_new z3 (.cells (zeros 2) 3)
        have lp0:z3.heap.size<(z3.alloc (.cells (zeros 2) 3)).heap.size:=by simp
        have hgp0:=D3.out.up
        have hgne:=Nat.ne_of_gt km0.lt
        have D4:=hide (D3.out.below aE)
        have km4:=km0.below aE
        clear km0
        clear D3
        refine hK.out _ _ trivial ?_
        clear aE
        obtain ⟨gp,hgp⟩:∃ z,z=z3.heap.size:=⟨_,rfl⟩
        generalize z3.alloc (.cells (zeros 2) 3)=z4 at D4 km4 kp0 lp0 ⊢
        rw [← hgp] at kp0 lp0 hgp0 hgne ⊢
        clear hgp
        clear hK K
        try simp only [Act.put,sTA,sC0,sC1,gTA,gC0,gC1]
        refine wpAnyZ_takeW 9 (.agg #[.int .i64 (fracF (x - 4) (1+y)),.slice (some ⟨gp,0,none⟩) 2 2]) rfl (by kernel_rfl) (by kernel_rfl) (fun _ _ _ h=>h) (by rfl) (fun _=>by first | (simp [go_sem];done) | go_simp) trivial ?_
        try simp only [Act.put,sTA,sC0,sC1,gTA,gC0,gC1]
        have u1:=km4.c 0 rfl
        have u2:=km4.c 1 rfl
        have v1:=km4.f 0
        have v2:=km4.f 1
        refine wpAnyZ_last (by kernel_rfl) rfl (by kernel_rfl) (by rfl) (fun K hK=>?_)
        go_simp
        refine hK _ _ ?_
        clear hK K u1 u2 v1 v2
        go_wp2_with fail
        go_meet
        case rel=>exact mo_meet D4.out km4 kp0 lp0 hgp0 hgm0 hgne hfb
      ·
       have hmk:(Instr.makeSlice 24 (.int .i64 2) (.int .i64 2)).run Tryz.prog z2 = .ok (.slice (some ⟨z2.heap.size,0,none⟩) 2 2) (z2.alloc (.cells (zeros 2) 3)):=make_ints 2 (by omega) z2
       go_simp
       clear hmk
       have aE:=below_alloc z2 (.cells (zeros 2) 3)
       have kp0:=heap_alloc_new z2 (.cells (zeros 2) 3)
       have lp0:z2.heap.size<(z2.alloc (.cells (zeros 2) 3)).heap.size:=by simp
       have hgp0:=D2.out.up
       have D3:=hide (D2.out.below aE)
       clear D2
       refine hK.out _ _ trivial ?_
       clear aE
       obtain ⟨gp,hgp⟩:∃ z,z=z2.heap.size:=⟨_,rfl⟩
       generalize z2.alloc (.cells (zeros 2) 3)=z3 at D3 kp0 lp0 ⊢
       rw [← hgp] at kp0 lp0 hgp0 ⊢
       clear hgp
       clear hK K
       try simp only [Act.put,sTA,sC0,sC1,gTA,gC0,gC1]
       refine wpAnyZ_two 6 10 (by kernel_rfl) rfl rfl (by rfl) (by rfl) (fun K hK=>?_) (fun K hK=>?_)
       ·
        go_simp
        refine (spec_Fraction (x - 4) (1+y) z3 (by constructor <;> omega) (by constructor <;> omega)).mono ?_
        rintro e xx ⟨rfl,rfl⟩
        have hfb:=fracF_bd (x - 4) (1+y)
        go_wp2_with fail
        refine hK.out _ _ trivial ?_
        clear hK K
        try simp only [Act.put,sTA,sC0,sC1,gTA,gC0,gC1]
        refine wpAnyZ_takeW 9 (.agg #[.int .i64 (fracF (x - 4) (1+y)),.slice (some ⟨gp,0,none⟩) 2 2]) rfl (by kernel_rfl) (by kernel_rfl) (fun _ _ _ h=>h) (by rfl) (fun _=>by first | (simp [go_sem];done) | go_simp) trivial ?_
        try simp only [Act.put,sTA,sC0,sC1,gTA,gC0,gC1]
        refine wpAnyZ_one 10 (by kernel_rfl) rfl (by rfl) (fun K hK=>?_)
        go_simp
        have aE:=below_alloc z3 (.cells #[.int .i64 0,.slice none 0 0] 67)
        have km0:=BlkN.new z3 #[.int .i64 0,.slice none 0 0] 67
        have hgm0:=D3.out.up
        have hgne:=Nat.ne_of_lt lp0
        have D4:=hide (D3.out.below aE)
        have kp4:=(aE.block gp lp0).trans kp0
        have lp4:=Nat.lt_of_lt_of_le lp0 aE.size
        clear kp0 lp0
        clear D3
        refine hK.out _ _ trivial ?_
        clear aE
        obtain ⟨gm,hgm⟩:∃ z,z=z3.heap.size:=⟨_,rfl⟩
        generalize z3.alloc (.cells #[.int .i64 0,.slice none 0 0] 67)=z4 at D4 kp4 lp4 km0 ⊢
        rw [← hgm] at km0 hgm0 hgne ⊢
        clear hgm
        clear hK K
        try simp only [Act.put,sTA,sC0,sC1,gTA,gC0,gC1]
        have u1:=km0.c 0 rfl
        have u2:=km0.c 1 rfl
        have v1:=km0.f 0
        have v2:=km0.f 1
        refine wpAnyZ_last (by kernel_rfl) rfl (by kernel_rfl) (by rfl) (fun K hK=>?_)
        go_simp
        refine hK _ _ ?_
        clear hK K u1 u2 v1 v2
        go_wp2_with fail
        go_meet
        case rel=>exact mo_meet D4.out km0 kp4 lp4 hgp0 hgm0 hgne hfb
       ·
        go_simp
        have aE:=below_alloc z3 (.cells #[.int .i64 0,.slice none 0 0] 67)
        have km0:=BlkN.new z3 #[.int .i64 0,.slice none 0 0] 67
        have hgm0:=D3.out.up
        have hgne:=Nat.ne_of_lt lp0
        have D4:=hide (D3.out.below aE)
        have kp4:=(aE.block gp lp0).trans kp0
        have lp4:=Nat.lt_of_lt_of_le lp0 aE.size
        clear kp0 lp0
        clear D3
        refine hK.out _ _ trivial ?_
        clear aE
        obtain ⟨gm,hgm⟩:∃ z,z=z3.heap.size:=⟨_,rfl⟩
        generalize z3.alloc (.cells #[.int .i64 0,.slice none 0 0] 67)=z4 at D4 kp4 lp4 km0 ⊢
        rw [← hgm] at km0 hgm0 hgne ⊢
        clear hgm
        clear hK K
        try simp only [Act.put,sTA,sC0,sC1,gTA,gC0,gC1]
        refine wpAnyZ_one 6 (by kernel_rfl) rfl (by rfl) (fun K hK=>?_)
        go_simp
        refine (spec_Fraction (x - 4) (1+y) z4 (by constructor <;> omega) (by constructor <;> omega)).mono ?_
        rintro e xx ⟨rfl,rfl⟩
        have hfb:=fracF_bd (x - 4) (1+y)
        go_wp2_with fail
        refine hK.out _ _ trivial ?_
        clear hK K
        try simp only [Act.put,sTA,sC0,sC1,gTA,gC0,gC1]
        refine wpAnyZ_takeW 9 (.agg #[.int .i64 (fracF (x - 4) (1+y)),.slice (some ⟨gp,0,none⟩) 2 2]) rfl (by kernel_rfl) (by kernel_rfl) (fun _ _ _ h=>h) (by rfl) (fun _=>by first | (simp [go_sem];done) | go_simp) trivial ?_
        try simp only [Act.put,sTA,sC0,sC1,gTA,gC0,gC1]
        have u1:=km0.c 0 rfl
        have u2:=km0.c 1 rfl
        have v1:=km0.f 0
        have v2:=km0.f 1
        refine wpAnyZ_last (by kernel_rfl) rfl (by kernel_rfl) (by rfl) (fun K hK=>?_)
        go_simp
        refine hK _ _ ?_
        clear hK K u1 u2 v1 v2
        go_wp2_with fail
        go_meet
        case rel=>exact mo_meet D4.out km0 kp4 lp4 hgp0 hgm0 hgne hfb
      ·
       go_simp
       have aE:=below_alloc z2 (.cells #[.int .i64 0,.slice none 0 0] 67)
       have km0:=BlkN.new z2 #[.int .i64 0,.slice none 0 0] 67
       have hgm0:=D2.out.up
       have D3:=hide (D2.out.below aE)
       clear D2
       refine hK.out _ _ trivial ?_
       clear aE
       obtain ⟨gm,hgm⟩:∃ z,z=z2.heap.size:=⟨_,rfl⟩
       generalize z2.alloc (.cells #[.int .i64 0,.slice none 0 0] 67)=z3 at D3 km0 ⊢
       rw [← hgm] at km0 hgm0 ⊢
       clear hgm
       clear hK K
       try simp only [Act.put,sTA,sC0,sC1,gTA,gC0,gC1]
       refine wpAnyZ_two 6 8 (by kernel_rfl) rfl rfl (by rfl) (by rfl) (fun K hK=>?_) (fun K hK=>?_)
       ·
        go_simp
        refine (spec_Fraction (x - 4) (1+y) z3 (by constructor <;> omega) (by constructor <;> omega)).mono ?_
        rintro e xx ⟨rfl,rfl⟩
        have hfb:=fracF_bd (x - 4) (1+y)
        go_wp2_with fail
        refine hK.out _ _ trivial ?_
        clear hK K
        try simp only [Act.put,sTA,sC0,sC1,gTA,gC0,gC1]
        refine wpAnyZ_one 8 (by kernel_rfl) rfl (by rfl) (fun K hK=>?_)
        have hmk:(Instr.makeSlice 24 (.int .i64 2) (.int .i64 2)).run Tryz.prog z3 = .ok (.slice (some ⟨z3.heap.size,0,none⟩) 2 2) (z3.alloc (.cells (zeros 2) 3)):=make_ints 2 (by omega) z3
        go_simp
        clear hmk
        have aE:=below_alloc z3 (.cells (zeros 2) 3)
        have kp0:=heap_alloc_new z3 (.cells (zeros 2) 3)
        have lp0:z3.heap.size<(z3.alloc (.cells (zeros 2) 3)).heap.size:=by simp
        have hgp0:=D3.out.up
        have hgne:=Nat.ne_of_gt km0.lt
        have D4:=hide (D3.out.below aE)
        have km4:=km0.below aE
        clear km0
        clear D3
        refine hK.out _ _ trivial ?_
        clear aE
        obtain ⟨gp,hgp⟩:∃ z,z=z3.heap.size:=⟨_,rfl⟩
        generalize z3.alloc (.cells (zeros 2) 3)=z4 at D4 km4 kp0 lp0 ⊢
        rw [← hgp] at kp0 lp0 hgp0 hgne ⊢
        clear hgp
        clear hK K
        try simp only [Act.put,sTA,sC0,sC1,gTA,gC0,gC1]
        refine wpAnyZ_takeW 9 (.agg #[.int .i64 (fracF (x - 4) (1+y)),.slice (some ⟨gp,0,none⟩) 2 2]) rfl (by kernel_rfl) (by kernel_rfl) (fun _ _ _ h=>h) (by rfl) (fun _=>by first | (simp [go_sem];done) | go_simp) trivial ?_
        try simp only [Act.put,sTA,sC0,sC1,gTA,gC0,gC1]
        have u1:=km4.c 0 rfl
        have u2:=km4.c 1 rfl
        have v1:=km4.f 0
        have v2:=km4.f 1
        refine wpAnyZ_last (by kernel_rfl) rfl (by kernel_rfl) (by rfl) (fun K hK=>?_)
        go_simp
        refine hK _ _ ?_
        clear hK K u1 u2 v1 v2
        go_wp2_with fail
        go_meet
        case rel=>exact mo_meet D4.out km4 kp0 lp0 hgp0 hgm0 hgne hfb
       ·
        have hmk:(Instr.makeSlice 24 (.int .i64 2) (.int .i64 2)).run Tryz.prog z3 = .ok (.slice (some ⟨z3.heap.size,0,none⟩) 2 2) (z3.alloc (.cells (zeros 2) 3)):=make_ints 2 (by omega) z3
        go_simp
        clear hmk
        have aE:=below_alloc z3 (.cells (zeros 2) 3)
        have kp0:=heap_alloc_new z3 (.cells (zeros 2) 3)
        have lp0:z3.heap.size<(z3.alloc (.cells (zeros 2) 3)).heap.size:=by simp
        have hgp0:=D3.out.up
        have hgne:=Nat.ne_of_gt km0.lt
        have D4:=hide (D3.out.below aE)
        have km4:=km0.below aE
        clear km0
        clear D3
        refine hK.out _ _ trivial ?_
        clear aE
        obtain ⟨gp,hgp⟩:∃ z,z=z3.heap.size:=⟨_,rfl⟩
        generalize z3.alloc (.cells (zeros 2) 3)=z4 at D4 km4 kp0 lp0 ⊢
        rw [← hgp] at kp0 lp0 hgp0 hgne ⊢
        clear hgp
        clear hK K
        try simp only [Act.put,sTA,sC0,sC1,gTA,gC0,gC1]
        refine wpAnyZ_one 6 (by kernel_rfl) rfl (by rfl) (fun K hK=>?_)
        go_simp
        refine (spec_Fraction (x - 4) (1+y) z4 (by constructor <;> omega) (by constructor <;> omega)).mono ?_
        rintro e xx ⟨rfl,rfl⟩
        have hfb:=fracF_bd (x - 4) (1+y)
        go_wp2_with fail
        refine hK.out _ _ trivial ?_
        clear hK K
        try simp only [Act.put,sTA,sC0,sC1,gTA,gC0,gC1]
        refine wpAnyZ_takeW 9 (.agg #[.int .i64 (fracF (x - 4) (1+y)),.slice (some ⟨gp,0,none⟩) 2 2]) rfl (by kernel_rfl) (by kernel_rfl) (fun _ _ _ h=>h) (by rfl) (fun _=>by first | (simp [go_sem];done) | go_simp) trivial ?_
        try simp only [Act.put,sTA,sC0,sC1,gTA,gC0,gC1]
        have u1:=km4.c 0 rfl
        have u2:=km4.c 1 rfl
        have v1:=km4.f 0
        have v2:=km4.f 1
        refine wpAnyZ_last (by kernel_rfl) rfl (by kernel_rfl) (by rfl) (fun K hK=>?_)
        go_simp
        refine hK _ _ ?_
        clear hK K u1 u2 v1 v2
        go_wp2_with fail
        go_meet
        case rel=>exact mo_meet D4.out km4 kp0 lp0 hgp0 hgm0 hgne hfb
     ·
      have hmk:(Instr.makeSlice 24 (.int .i64 2) (.int .i64 2)).run Tryz.prog z1 = .ok (.slice (some ⟨z1.heap.size,0,none⟩) 2 2) (z1.alloc (.cells (zeros 2) 3)):=make_ints 2 (by omega) z1
      go_simp
      clear hmk
      have aE:=below_alloc z1 (.cells (zeros 2) 3)
      have kp0:=heap_alloc_new z1 (.cells (zeros 2) 3)
      have lp0:z1.heap.size<(z1.alloc (.cells (zeros 2) 3)).heap.size:=by simp
      have hgp0:=D1.out.up
      have D2:=hide (D1.out.below aE)
      clear D1
      refine hK.out _ _ trivial ?_
      clear aE
      obtain ⟨gp,hgp⟩:∃ z,z=z1.heap.size:=⟨_,rfl⟩
      generalize z1.alloc (.cells (zeros 2) 3)=z2 at D2 kp0 lp0 ⊢
      rw [← hgp] at kp0 lp0 hgp0 ⊢
      clear hgp
      clear hK K
      try simp only [Act.put,sTA,sC0,sC1,gTA,gC0,gC1]
      refine wpAnyZ_two 4 10 (by kernel_rfl) rfl rfl (by rfl) (by rfl) (fun K hK=>?_) (fun K hK=>?_)
      ·
       go_simp
       refine (spec_l1Below hiC gc 2 z2 D2.out.cur (by omega) (by omega)).mono ?_
       rintro e z3 ⟨y,rfl,hy0,hy1,cN,tN⟩
       have D3:=hide (D2.out.touch tN cN)
       have kp3:=(tN.block gp lp0 (.inr (by omega))).trans kp0
       have lp3:=Nat.lt_of_lt_of_le lp0 tN.size
       clear kp0 lp0
       clear D2
       clear tN cN
       have hwy:=IntWalk.i64_in (1+y) (by omega)
       go_wp2_with fail
       refine hK.out _ _ trivial ?_
       clear hK K
       try simp only [Act.put,sTA,sC0,sC1,gTA,gC0,gC1]
       refine wpAnyZ_takeW 5 (.int .i64 (1+y)) rfl (by kernel_rfl) (by kernel_rfl) (fun _ _ _ h=>h) (by rfl) (fun _=>by simp [go_sem,hwy]) trivial ?_
       try simp only [Act.put,sTA,sC0,sC1,gTA,gC0,gC1]
       refine wpAnyZ_two 6 10 (by kernel_rfl) rfl rfl (by rfl) (by rfl) (fun K hK=>?_) (fun K hK=>?_)
       ·
        go_simp
        refine (spec_Fraction (x - 4) (1+y) z3 (by constructor <;> omega) (by constructor <;> omega)).mono ?_
        rintro e xx ⟨rfl,rfl⟩
        have hfb:=fracF_bd (x - 4) (1+y)
        go_wp2_with fail
        refine hK.out _ _ trivial ?_
        clear hK K
        try simp only [Act.put,sTA,sC0,sC1,gTA,gC0,gC1]
        refine wpAnyZ_takeW 9 (.agg #[.int .i64 (fracF (x - 4) (1+y)),.slice (some ⟨gp,0,none⟩) 2 2]) rfl (by kernel_rfl) (by kernel_rfl) (fun _ _ _ h=>h) (by rfl) (fun _=>by first | (simp [go_sem];done) | go_simp) trivial ?_
        try simp only [Act.put,sTA,sC0,sC1,gTA,gC0,gC1]
        refine wpAnyZ_one 10 (by kernel_rfl) rfl (by rfl) (fun K hK=>?_)
        go_simp
        have aE:=below_alloc z3 (.cells #[.int .i64 0,.slice none 0 0] 67)
        have km0:=BlkN.new z3 #[.int .i64 0,.slice none 0 0] 67
        have hgm0:=D3.out.up
        have hgne:=Nat.ne_of_lt lp3
        have D4:=hide (D3.out.below aE)
        have kp4:=(aE.block gp lp3).trans kp3
        have lp4:=Nat.lt_of_lt_of_le lp3 aE.size
        clear kp3 lp3
        clear D3
        refine hK.out _ _ trivial ?_
        clear aE
        obtain ⟨gm,hgm⟩:∃ z,z=z3.heap.size:=⟨_,rfl⟩
        generalize z3.alloc (.cells #[.int .i64 0,.slice none 0 0] 67)=z4 at D4 kp4 lp4 km0 ⊢
        rw [← hgm] at km0 hgm0 hgne ⊢
        clear hgm
        clear hK K
        try simp only [Act.put,sTA,sC0,sC1,gTA,gC0,gC1]
        have u1:=km0.c 0 rfl
        have u2:=km0.c 1 rfl
        have v1:=km0.f 0
        have v2:=km0.f 1
        refine wpAnyZ_last (by kernel_rfl) rfl (by kernel_rfl) (by rfl) (fun K hK=>?_)
        go_simp
        refine hK _ _ ?_
        clear hK K u1 u2 v1 v2
        go_wp2_with fail
        go_meet
        case rel=>exact mo_meet D4.out km0 kp4 lp4 hgp0 hgm0 hgne hfb
       ·
        go_simp
        have aE:=below_alloc z3 (.cells #[.int .i64 0,.slice none 0 0] 67)
        have km0:=BlkN.new z3 #[.int .i64 0,.slice none 0 0] 67
        have hgm0:=D3.out.up
        have hgne:=Nat.ne_of_lt lp3
        have D4:=hide (D3.out.below aE)
        have kp4:=(aE.block gp lp3).trans kp3
        have lp4:=Nat.lt_of_lt_of_le lp3 aE.size
        clear kp3 lp3
        clear D3
        refine hK.out _ _ trivial ?_
        clear aE
        obtain ⟨gm,hgm⟩:∃ z,z=z3.heap.size:=⟨_,rfl⟩
        generalize z3.alloc (.cells #[.int .i64 0,.slice none 0 0] 67)=z4 at D4 kp4 lp4 km0 ⊢
        rw [← hgm] at km0 hgm0 hgne ⊢
        clear hgm
        clear hK K
        try simp only [Act.put,sTA,sC0,sC1,gTA,gC0,gC1]
        refine wpAnyZ_one 6 (by kernel_rfl) rfl (by rfl) (fun K hK=>?_)
        go_simp
        refine (spec_Fraction (x - 4) (1+y) z4 (by constructor <;> omega) (by constructor <;> omega)).mono ?_
        rintro e xx ⟨rfl,rfl⟩
        have hfb:=fracF_bd (x - 4) (1+y)
        go_wp2_with fail
        refine hK.out _ _ trivial ?_
        clear hK K
        try simp only [Act.put,sTA,sC0,sC1,gTA,gC0,gC1]
        refine wpAnyZ_takeW 9 (.agg #[.int .i64 (fracF (x - 4) (1+y)),.slice (some ⟨gp,0,none⟩) 2 2]) rfl (by kernel_rfl) (by kernel_rfl) (fun _ _ _ h=>h) (by rfl) (fun _=>by first | (simp [go_sem];done) | go_simp) trivial ?_
        try simp only [Act.put,sTA,sC0,sC1,gTA,gC0,gC1]
        have u1:=km0.c 0 rfl
        have u2:=km0.c 1 rfl
        have v1:=km0.f 0
        have v2:=km0.f 1
        refine wpAnyZ_last (by kernel_rfl) rfl (by kernel_rfl) (by rfl) (fun K hK=>?_)
        go_simp
        refine hK _ _ ?_
        clear hK K u1 u2 v1 v2
        go_wp2_with fail
        go_meet
        case rel=>exact mo_meet D4.out km0 kp4 lp4 hgp0 hgm0 hgne hfb
      ·
       go_simp
       have aE:=below_alloc z2 (.cells #[.int .i64 0,.slice none 0 0] 67)
       have km0:=BlkN.new z2 #[.int .i64 0,.slice none 0 0] 67
       have hgm0:=D2.out.up
       have hgne:=Nat.ne_of_lt lp0
       have D3:=hide (D2.out.below aE)
       have kp3:=(aE.block gp lp0).trans kp0
       have lp3:=Nat.lt_of_lt_of_le lp0 aE.size
       clear kp0 lp0
       clear D2
       refine hK.out _ _ trivial ?_
       clear aE
       obtain ⟨gm,hgm⟩:∃ z,z=z2.heap.size:=⟨_,rfl⟩
       generalize z2.alloc (.cells #[.int .i64 0,.slice none 0 0] 67)=z3 at D3 kp3 lp3 km0 ⊢
       rw [← hgm] at km0 hgm0 hgne ⊢
       clear hgm
       clear hK K
       try simp only [Act.put,sTA,sC0,sC1,gTA,gC0,gC1]
       refine wpAnyZ_one 4 (by kernel_rfl) rfl (by rfl) (fun K hK=>?_)
       go_simp
       refine (spec_l1Below hiC gc 2 z3 D3.out.cur (by omega) (by omega)).mono ?_
       rintro e z4 ⟨y,rfl,hy0,hy1,cN,tN⟩
       have D4:=hide (D3.out.touch tN cN)
       have kp4:=(tN.block gp lp3 (.inr (by omega))).trans kp3
       have lp4:=Nat.lt_of_lt_of_le lp3 tN.size
       clear kp3 lp3
       have km4:=km0.touch tN (.inr (by omega))
       clear km0
       clear D3
       clear tN cN
       have hwy:=IntWalk.i64_in (1+y) (by omega)
       go_wp2_with fail
       refine hK.out _ _ trivial ?_
       clear hK K
       try simp only [Act.put,sTA,sC0,sC1,gTA,gC0,gC1]
       refine wpAnyZ_takeW 5 (.int .i64 (1+y)) rfl (by kernel_rfl) (by kernel_rfl) (fun _ _ _ h=>h) (by rfl) (fun _=>by simp [go_sem,hwy]) trivial ?_
       try simp only [Act.put,sTA,sC0,sC1,gTA,gC0,gC1]
       refine wpAnyZ_one 6 (by kernel_rfl) rfl (by rfl) (fun K hK=>?_)
       go_simp
       refine (spec_Fraction (x - 4) (1+y) z4 (by constructor <;> omega) (by constructor <;> omega)).mono ?_
       rintro e xx ⟨rfl,rfl⟩
       have hfb:=fracF_bd (x - 4) (1+y)
       go_wp2_with fail
       refine hK.out _ _ trivial ?_
       clear hK K
       try simp only [Act.put,sTA,sC0,sC1,gTA,gC0,gC1]
       refine wpAnyZ_takeW 9 (.agg #[.int .i64 (fracF (x - 4) (1+y)),.slice (some ⟨gp,0,none⟩) 2 2]) rfl (by kernel_rfl) (by kernel_rfl) (fun _ _ _ h=>h) (by rfl) (fun _=>by first | (simp [go_sem];done) | go_simp) trivial ?_
       try simp only [Act.put,sTA,sC0,sC1,gTA,gC0,gC1]
       have u1:=km4.c 0 rfl
       have u2:=km4.c 1 rfl
       have v1:=km4.f 0
       have v2:=km4.f 1
       refine wpAnyZ_last (by kernel_rfl) rfl (by kernel_rfl) (by rfl) (fun K hK=>?_)
       go_simp
       refine hK _ _ ?_
       clear hK K u1 u2 v1 v2
       go_wp2_with fail
       go_meet
       case rel=>exact mo_meet D4.out km4 kp4 lp4 hgp0 hgm0 hgne hfb
     ·
      go_simp
      have aE:=below_alloc z1 (.cells #[.int .i64 0,.slice none 0 0] 67)
      have km0:=BlkN.new z1 #[.int .i64 0,.slice none 0 0] 67
      have hgm0:=D1.out.up
      have D2:=hide (D1.out.below aE)
      clear D1
      refine hK.out _ _ trivial ?_
      clear aE
      obtain ⟨gm,hgm⟩:∃ z,z=z1.heap.size:=⟨_,rfl⟩
      generalize z1.alloc (.cells #[.int .i64 0,.slice none 0 0] 67)=z2 at D2 km0 ⊢
      rw [← hgm] at km0 hgm0 ⊢
      clear hgm
      clear hK K
      try simp only [Act.put,sTA,sC0,sC1,gTA,gC0,gC1]
      refine wpAnyZ_two 4 8 (by kernel_rfl) rfl rfl (by rfl) (by rfl) (fun K hK=>?_) (fun K hK=>?_)
      ·
       go_simp
       refine (spec_l1Below hiC gc 2 z2 D2.out.cur (by omega) (by omega)).mono ?_
       rintro e z3 ⟨y,rfl,hy0,hy1,cN,tN⟩
       have D3:=hide (D2.out.touch tN cN)
       have km3:=km0.touch tN (.inr (by omega))
       clear km0
       clear D2
       clear tN cN
       have hwy:=IntWalk.i64_in (1+y) (by omega)
       go_wp2_with fail
       refine hK.out _ _ trivial ?_
       clear hK K
       try simp only [Act.put,sTA,sC0,sC1,gTA,gC0,gC1]
       refine wpAnyZ_takeW 5 (.int .i64 (1+y)) rfl (by kernel_rfl) (by kernel_rfl) (fun _ _ _ h=>h) (by rfl) (fun _=>by simp [go_sem,hwy]) trivial ?_
       try simp only [Act.put,sTA,sC0,sC1,gTA,gC0,gC1]
       refine wpAnyZ_two 6 8 (by kernel_rfl) rfl rfl (by rfl) (by rfl) (fun K hK=>?_) (fun K hK=>?_)
       ·
        go_simp
        refine (spec_Fraction (x - 4) (1+y) z3 (by constructor <;> omega) (by constructor <;> omega)).mono ?_
        rintro e xx ⟨rfl,rfl⟩
        have hfb:=fracF_bd (x - 4) (1+y)
        go_wp2_with fail
        refine hK.out _ _ trivial ?_
        clear hK K
        try simp only [Act.put,sTA,sC0,sC1,gTA,gC0,gC1]
        refine wpAnyZ_one 8 (by kernel_rfl) rfl (by rfl) (fun K hK=>?_)
        have hmk:(Instr.makeSlice 24 (.int .i64 2) (.int .i64 2)).run Tryz.prog z3 = .ok (.slice (some ⟨z3.heap.size,0,none⟩) 2 2) (z3.alloc (.cells (zeros 2) 3)):=make_ints 2 (by omega) z3
        go_simp
        clear hmk
        have aE:=below_alloc z3 (.cells (zeros 2) 3)
        have kp0:=heap_alloc_new z3 (.cells (zeros 2) 3)
        have lp0:z3.heap.size<(z3.alloc (.cells (zeros 2) 3)).heap.size:=by simp
        have hgp0:=D3.out.up
        have hgne:=Nat.ne_of_gt km3.lt
        have D4:=hide (D3.out.below aE)
        have km4:=km3.below aE
        clear km3
        clear D3
        refine hK.out _ _ trivial ?_
        clear aE
        obtain ⟨gp,hgp⟩:∃ z,z=z3.heap.size:=⟨_,rfl⟩
        generalize z3.alloc (.cells (zeros 2) 3)=z4 at D4 km4 kp0 lp0 ⊢
        rw [← hgp] at kp0 lp0 hgp0 hgne ⊢
        clear hgp
        clear hK K
        try simp only [Act.put,sTA,sC0,sC1,gTA,gC0,gC1]
        refine wpAnyZ_takeW 9 (.agg #[.int .i64 (fracF (x - 4) (1+y)),.slice (some ⟨gp,0,none⟩) 2 2]) rfl (by kernel_rfl) (by kernel_rfl) (fun _ _ _ h=>h) (by rfl) (fun _=>by first | (simp [go_sem];done) | go_simp) trivial ?_
        try simp only [Act.put,sTA,sC0,sC1,gTA,gC0,gC1]
        have u1:=km4.c 0 rfl
        have u2:=km4.c 1 rfl
        have v1:=km4.f 0
        have v2:=km4.f 1
        refine wpAnyZ_last (by kernel_rfl) rfl (by kernel_rfl) (by rfl) (fun K hK=>?_)
        go_simp
        refine hK _ _ ?_
        clear hK K u1 u2 v1 v2
        go_wp2_with fail
        go_meet
        case rel=>exact mo_meet D4.out km4 kp0 lp0 hgp0 hgm0 hgne hfb
       ·
        have hmk:(Instr.makeSlice 24 (.int .i64 2) (.int .i64 2)).run Tryz.prog z3 = .ok (.slice (some ⟨z3.heap.size,0,none⟩) 2 2) (z3.alloc (.cells (zeros 2) 3)):=make_ints 2 (by omega) z3
        go_simp
        clear hmk
        have aE:=below_alloc z3 (.cells (zeros 2) 3)
        have kp0:=heap_alloc_new z3 (.cells (zeros 2) 3)
        have lp0:z3.heap.size<(z3.alloc (.cells (zeros 2) 3)).heap.size:=by simp
        have hgp0:=D3.out.up
        have hgne:=Nat.ne_of_gt km3.lt
        have D4:=hide (D3.out.below aE)
        have km4:=km3.below aE
        clear km3
        clear D3
        refine hK.out _ _ trivial ?_
        clear aE
        obtain ⟨gp,hgp⟩:∃ z,z=z3.heap.size:=⟨_,rfl⟩
        generalize z3.alloc (.cells (zeros 2) 3)=z4 at D4 km4 kp0 lp0 ⊢
        rw [← hgp] at kp0 lp0 hgp0 hgne ⊢
        clear hgp
        clear hK K
        try simp only [Act.put,sTA,sC0,sC1,gTA,gC0,gC1]
        refine wpAnyZ_one 6 (by kernel_rfl) rfl (by rfl) (fun K hK=>?_)
        go_simp
        refine (spec_Fraction (x - 4) (1+y) z4 (by constructor <;> omega) (by constructor <;> omega)).mono ?_
        rintro e xx ⟨rfl,rfl⟩
        have hfb:=fracF_bd (x - 4) (1+y)
        go_wp2_with fail
        refine hK.out _ _ trivial ?_
        clear hK K
        try simp only [Act.put,sTA,sC0,sC1,gTA,gC0,gC1]
        refine wpAnyZ_takeW 9 (.agg #[.int .i64 (fracF (x - 4) (1+y)),.slice (some ⟨gp,0,none⟩) 2 2]) rfl (by kernel_rfl) (by kernel_rfl) (fun _ _ _ h=>h) (by rfl) (fun _=>by first | (simp [go_sem];done) | go_simp) trivial ?_
        try simp only [Act.put,sTA,sC0,sC1,gTA,gC0,gC1]
        have u1:=km4.c 0 rfl
        have u2:=km4.c 1 rfl
        have v1:=km4.f 0
        have v2:=km4.f 1
        refine wpAnyZ_last (by kernel_rfl) rfl (by kernel_rfl) (by rfl) (fun K hK=>?_)
        go_simp
        refine hK _ _ ?_
        clear hK K u1 u2 v1 v2
        go_wp2_with fail
        go_meet
        case rel=>exact mo_meet D4.out km4 kp0 lp0 hgp0 hgm0 hgne hfb
      ·
       have hmk:(Instr.makeSlice 24 (.int .i64 2) (.int .i64 2)).run Tryz.prog z2 = .ok (.slice (some ⟨z2.heap.size,0,none⟩) 2 2) (z2.alloc (.cells (zeros 2) 3)):=make_ints 2 (by omega) z2
       go_simp
       clear hmk
       have aE:=below_alloc z2 (.cells (zeros 2) 3)
       have kp0:=heap_alloc_new z2 (.cells (zeros 2) 3)
       have lp0:z2.heap.size<(z2.alloc (.cells (zeros 2) 3)).heap.size:=by simp
       have hgp0:=D2.out.up
       have hgne:=Nat.ne_of_gt km0.lt
       have D3:=hide (D2.out.below aE)
       have km3:=km0.below aE
       clear km0
       clear D2
       refine hK.out _ _ trivial ?_
       clear aE
       obtain ⟨gp,hgp⟩:∃ z,z=z2.heap.size:=⟨_,rfl⟩
       generalize z2.alloc (.cells (zeros 2) 3)=z3 at D3 km3 kp0 lp0 ⊢
       rw [← hgp] at kp0 lp0 hgp0 hgne ⊢
       clear hgp
       clear hK K
       try simp only [Act.put,sTA,sC0,sC1,gTA,gC0,gC1]
       refine wpAnyZ_one 4 (by kernel_rfl) rfl (by rfl) (fun K hK=>?_)
       go_simp
       refine (spec_l1Below hiC gc 2 z3 D3.out.cur (by omega) (by omega)).mono ?_
       rintro e z4 ⟨y,rfl,hy0,hy1,cN,tN⟩
       have D4:=hide (D3.out.touch tN cN)
       have kp4:=(tN.block gp lp0 (.inr (by omega))).trans kp0
       have lp4:=Nat.lt_of_lt_of_le lp0 tN.size
       clear kp0 lp0
       have km4:=km3.touch tN (.inr (by omega))
       clear km3
       clear D3
       clear tN cN
       have hwy:=IntWalk.i64_in (1+y) (by omega)
       go_wp2_with fail
       refine hK.out _ _ trivial ?_
       clear hK K
       try simp only [Act.put,sTA,sC0,sC1,gTA,gC0,gC1]
       refine wpAnyZ_takeW 5 (.int .i64 (1+y)) rfl (by kernel_rfl) (by kernel_rfl) (fun _ _ _ h=>h) (by rfl) (fun _=>by simp [go_sem,hwy]) trivial ?_
       try simp only [Act.put,sTA,sC0,sC1,gTA,gC0,gC1]
       refine wpAnyZ_one 6 (by kernel_rfl) rfl (by rfl) (fun K hK=>?_)
       go_simp
       refine (spec_Fraction (x - 4) (1+y) z4 (by constructor <;> omega) (by constructor <;> omega)).mono ?_
       rintro e xx ⟨rfl,rfl⟩
       have hfb:=fracF_bd (x - 4) (1+y)
       go_wp2_with fail
       refine hK.out _ _ trivial ?_
       clear hK K
       try simp only [Act.put,sTA,sC0,sC1,gTA,gC0,gC1]
       refine wpAnyZ_takeW 9 (.agg #[.int .i64 (fracF (x - 4) (1+y)),.slice (some ⟨gp,0,none⟩) 2 2]) rfl (by kernel_rfl) (by kernel_rfl) (fun _ _ _ h=>h) (by rfl) (fun _=>by first | (simp [go_sem];done) | go_simp) trivial ?_
       try simp only [Act.put,sTA,sC0,sC1,gTA,gC0,gC1]
       have u1:=km4.c 0 rfl
       have u2:=km4.c 1 rfl
       have v1:=km4.f 0
       have v2:=km4.f 1
       refine wpAnyZ_last (by kernel_rfl) rfl (by kernel_rfl) (by rfl) (fun K hK=>?_)
       go_simp
       refine hK _ _ ?_
       clear hK K u1 u2 v1 v2
       go_wp2_with fail
       go_meet
       case rel=>exact mo_meet D4.out km4 kp4 lp4 hgp0 hgm0 hgne hfb
    ·
     have hmk:(Instr.makeSlice 24 (.int .i64 2) (.int .i64 2)).run Tryz.prog V = .ok (.slice (some ⟨V.heap.size,0,none⟩) 2 2) (V.alloc (.cells (zeros 2) 3)):=make_ints 2 (by omega) V
     go_simp
     clear hmk
     have aE:=below_alloc V (.cells (zeros 2) 3)
     have kp0:=heap_alloc_new V (.cells (zeros 2) 3)
     have lp0:V.heap.size<(V.alloc (.cells (zeros 2) 3)).heap.size:=by simp
     have hgp0:=D0.out.up
     have D1:=hide (D0.out.below aE)
     skip
     refine hK.out _ _ trivial ?_
     clear aE
     obtain ⟨gp,hgp⟩:∃ z,z=V.heap.size:=⟨_,rfl⟩
     generalize V.alloc (.cells (zeros 2) 3)=z1 at D1 kp0 lp0 ⊢
     rw [← hgp] at kp0 lp0 hgp0 ⊢
     clear hgp
     clear hK K
     try simp only [Act.put,sTA,sC0,sC1,gTA,gC0,gC1]
     refine wpAnyZ_two 1 10 (by kernel_rfl) rfl rfl (by rfl) (by rfl) (fun K hK=>?_) (fun K hK=>?_)
     ·
      go_simp
      refine (spec_l1Below hiC gc 9 z1 D1.out.cur (by omega) (by omega)).mono ?_
      rintro e z2 ⟨x,rfl,hx0,hx1,cN,tN⟩
      have D2:=hide (D1.out.touch tN cN)
      have kp2:=(tN.block gp lp0 (.inr (by omega))).trans kp0
      have lp2:=Nat.lt_of_lt_of_le lp0 tN.size
      clear kp0 lp0
      clear D1
      clear tN cN
      have hwx:=IntWalk.i64_in (x - 4) (by omega)
      go_wp2_with fail
      refine hK.out _ _ trivial ?_
      clear hK K
      try simp only [Act.put,sTA,sC0,sC1,gTA,gC0,gC1]
      refine wpAnyZ_takeW 2 (.int .i64 (x - 4)) rfl (by kernel_rfl) (by kernel_rfl) (fun _ _ _ h=>h) (by rfl) (fun _=>by simp [go_sem,hwx]) trivial ?_
      try simp only [Act.put,sTA,sC0,sC1,gTA,gC0,gC1]
      refine wpAnyZ_two 4 10 (by kernel_rfl) rfl rfl (by rfl) (by rfl) (fun K hK=>?_) (fun K hK=>?_)
      ·
       go_simp
       refine (spec_l1Below hiC gc 2 z2 D2.out.cur (by omega) (by omega)).mono ?_
       rintro e z3 ⟨y,rfl,hy0,hy1,cN,tN⟩
       have D3:=hide (D2.out.touch tN cN)
       have kp3:=(tN.block gp lp2 (.inr (by omega))).trans kp2
       have lp3:=Nat.lt_of_lt_of_le lp2 tN.size
       clear kp2 lp2
       clear D2
       clear tN cN
       have hwy:=IntWalk.i64_in (1+y) (by omega)
       go_wp2_with fail
       refine hK.out _ _ trivial ?_
       clear hK K
       try simp only [Act.put,sTA,sC0,sC1,gTA,gC0,gC1]
       refine wpAnyZ_takeW 5 (.int .i64 (1+y)) rfl (by kernel_rfl) (by kernel_rfl) (fun _ _ _ h=>h) (by rfl) (fun _=>by simp [go_sem,hwy]) trivial ?_
       try simp only [Act.put,sTA,sC0,sC1,gTA,gC0,gC1]
       refine wpAnyZ_two 6 10 (by kernel_rfl) rfl rfl (by rfl) (by rfl) (fun K hK=>?_) (fun K hK=>?_)
       ·
        go_simp
        refine (spec_Fraction (x - 4) (1+y) z3 (by constructor <;> omega) (by constructor <;> omega)).mono ?_
        rintro e xx ⟨rfl,rfl⟩
        have hfb:=fracF_bd (x - 4) (1+y)
        go_wp2_with fail
        refine hK.out _ _ trivial ?_
        clear hK K
        try simp only [Act.put,sTA,sC0,sC1,gTA,gC0,gC1]
        refine wpAnyZ_takeW 9 (.agg #[.int .i64 (fracF (x - 4) (1+y)),.slice (some ⟨gp,0,none⟩) 2 2]) rfl (by kernel_rfl) (by kernel_rfl) (fun _ _ _ h=>h) (by rfl) (fun _=>by first | (simp [go_sem];done) | go_simp) trivial ?_
        try simp only [Act.put,sTA,sC0,sC1,gTA,gC0,gC1]
        refine wpAnyZ_one 10 (by kernel_rfl) rfl (by rfl) (fun K hK=>?_)
        go_simp
        have aE:=below_alloc z3 (.cells #[.int .i64 0,.slice none 0 0] 67)
        have km0:=BlkN.new z3 #[.int .i64 0,.slice none 0 0] 67
        have hgm0:=D3.out.up
        have hgne:=Nat.ne_of_lt lp3
        have D4:=hide (D3.out.below aE)
        have kp4:=(aE.block gp lp3).trans kp3
        have lp4:=Nat.lt_of_lt_of_le lp3 aE.size
        clear kp3 lp3
        clear D3
        refine hK.out _ _ trivial ?_
        clear aE
        obtain ⟨gm,hgm⟩:∃ z,z=z3.heap.size:=⟨_,rfl⟩
        generalize z3.alloc (.cells #[.int .i64 0,.slice none 0 0] 67)=z4 at D4 kp4 lp4 km0 ⊢
        rw [← hgm] at km0 hgm0 hgne ⊢
        clear hgm
        clear hK K
        try simp only [Act.put,sTA,sC0,sC1,gTA,gC0,gC1]
        have u1:=km0.c 0 rfl
        have u2:=km0.c 1 rfl
        have v1:=km0.f 0
        have v2:=km0.f 1
        refine wpAnyZ_last (by kernel_rfl) rfl (by kernel_rfl) (by rfl) (fun K hK=>?_)
        go_simp
        refine hK _ _ ?_
        clear hK K u1 u2 v1 v2
        go_wp2_with fail
        go_meet
        case rel=>exact mo_meet D4.out km0 kp4 lp4 hgp0 hgm0 hgne hfb
       ·
        go_simp
        have aE:=below_alloc z3 (.cells #[.int .i64 0,.slice none 0 0] 67)
        have km0:=BlkN.new z3 #[.int .i64 0,.slice none 0 0] 67
        have hgm0:=D3.out.up
        have hgne:=Nat.ne_of_lt lp3
        have D4:=hide (D3.out.below aE)
        have kp4:=(aE.block gp lp3).trans kp3
        have lp4:=Nat.lt_of_lt_of_le lp3 aE.size
        clear kp3 lp3
        clear D3
        refine hK.out _ _ trivial ?_
        clear aE
        obtain ⟨gm,hgm⟩:∃ z,z=z3.heap.size:=⟨_,rfl⟩
        generalize z3.alloc (.cells #[.int .i64 0,.slice none 0 0] 67)=z4 at D4 kp4 lp4 km0 ⊢
        rw [← hgm] at km0 hgm0 hgne ⊢
        clear hgm
        clear hK K
        try simp only [Act.put,sTA,sC0,sC1,gTA,gC0,gC1]
        refine wpAnyZ_one 6 (by kernel_rfl) rfl (by rfl) (fun K hK=>?_)
        go_simp
        refine (spec_Fraction (x - 4) (1+y) z4 (by constructor <;> omega) (by constructor <;> omega)).mono ?_
        rintro e xx ⟨rfl,rfl⟩
        have hfb:=fracF_bd (x - 4) (1+y)
        go_wp2_with fail
        refine hK.out _ _ trivial ?_
        clear hK K
        try simp only [Act.put,sTA,sC0,sC1,gTA,gC0,gC1]
        refine wpAnyZ_takeW 9 (.agg #[.int .i64 (fracF (x - 4) (1+y)),.slice (some ⟨gp,0,none⟩) 2 2]) rfl (by kernel_rfl) (by kernel_rfl) (fun _ _ _ h=>h) (by rfl) (fun _=>by first | (simp [go_sem];done) | go_simp) trivial ?_
        try simp only [Act.put,sTA,sC0,sC1,gTA,gC0,gC1]
        have u1:=km0.c 0 rfl
        have u2:=km0.c 1 rfl
        have v1:=km0.f 0
        have v2:=km0.f 1
        refine wpAnyZ_last (by kernel_rfl) rfl (by kernel_rfl) (by rfl) (fun K hK=>?_)
        go_simp
        refine hK _ _ ?_
        clear hK K u1 u2 v1 v2
        go_wp2_with fail
        go_meet
        case rel=>exact mo_meet D4.out km0 kp4 lp4 hgp0 hgm0 hgne hfb
      ·
       go_simp
       have aE:=below_alloc z2 (.cells #[.int .i64 0,.slice none 0 0] 67)
       have km0:=BlkN.new z2 #[.int .i64 0,.slice none 0 0] 67
       have hgm0:=D2.out.up
       have hgne:=Nat.ne_of_lt lp2
       have D3:=hide (D2.out.below aE)
       have kp3:=(aE.block gp lp2).trans kp2
       have lp3:=Nat.lt_of_lt_of_le lp2 aE.size
       clear kp2 lp2
       clear D2
       refine hK.out _ _ trivial ?_
       clear aE
       obtain ⟨gm,hgm⟩:∃ z,z=z2.heap.size:=⟨_,rfl⟩
       generalize z2.alloc (.cells #[.int .i64 0,.slice none 0 0] 67)=z3 at D3 kp3 lp3 km0 ⊢
       rw [← hgm] at km0 hgm0 hgne ⊢
       clear hgm
       clear hK K
       try simp only [Act.put,sTA,sC0,sC1,gTA,gC0,gC1]
       refine wpAnyZ_one 4 (by kernel_rfl) rfl (by rfl) (fun K hK=>?_)
       go_simp
       refine (spec_l1Below hiC gc 2 z3 D3.out.cur (by omega) (by omega)).mono ?_
       rintro e z4 ⟨y,rfl,hy0,hy1,cN,tN⟩
       have D4:=hide (D3.out.touch tN cN)
       have kp4:=(tN.block gp lp3 (.inr (by omega))).trans kp3
       have lp4:=Nat.lt_of_lt_of_le lp3 tN.size
       clear kp3 lp3
       have km4:=km0.touch tN (.inr (by omega))
       clear km0
       clear D3
       clear tN cN
       have hwy:=IntWalk.i64_in (1+y) (by omega)
       go_wp2_with fail
       refine hK.out _ _ trivial ?_
       clear hK K
       try simp only [Act.put,sTA,sC0,sC1,gTA,gC0,gC1]
       refine wpAnyZ_takeW 5 (.int .i64 (1+y)) rfl (by kernel_rfl) (by kernel_rfl) (fun _ _ _ h=>h) (by rfl) (fun _=>by simp [go_sem,hwy]) trivial ?_
       try simp only [Act.put,sTA,sC0,sC1,gTA,gC0,gC1]
       refine wpAnyZ_one 6 (by kernel_rfl) rfl (by rfl) (fun K hK=>?_)
       go_simp
       refine (spec_Fraction (x - 4) (1+y) z4 (by constructor <;> omega) (by constructor <;> omega)).mono ?_
       rintro e xx ⟨rfl,rfl⟩
       have hfb:=fracF_bd (x - 4) (1+y)
       go_wp2_with fail
       refine hK.out _ _ trivial ?_
       clear hK K
       try simp only [Act.put,sTA,sC0,sC1,gTA,gC0,gC1]
       refine wpAnyZ_takeW 9 (.agg #[.int .i64 (fracF (x - 4) (1+y)),.slice (some ⟨gp,0,none⟩) 2 2]) rfl (by kernel_rfl) (by kernel_rfl) (fun _ _ _ h=>h) (by rfl) (fun _=>by first | (simp [go_sem];done) | go_simp) trivial ?_
       try simp only [Act.put,sTA,sC0,sC1,gTA,gC0,gC1]
       have u1:=km4.c 0 rfl
       have u2:=km4.c 1 rfl
       have v1:=km4.f 0
       have v2:=km4.f 1
       refine wpAnyZ_last (by kernel_rfl) rfl (by kernel_rfl) (by rfl) (fun K hK=>?_)
       go_simp
       refine hK _ _ ?_
       clear hK K u1 u2 v1 v2
       go_wp2_with fail
       go_meet
       case rel=>exact mo_meet D4.out km4 kp4 lp4 hgp0 hgm0 hgne hfb
     ·
      go_simp
      have aE:=below_alloc z1 (.cells #[.int .i64 0,.slice none 0 0] 67)
      have km0:=BlkN.new z1 #[.int .i64 0,.slice none 0 0] 67
      have hgm0:=D1.out.up
      have hgne:=Nat.ne_of_lt lp0
      have D2:=hide (D1.out.below aE)
      have kp2:=(aE.block gp lp0).trans kp0
      have lp2:=Nat.lt_of_lt_of_le lp0 aE.size
      clear kp0 lp0
      clear D1
      refine hK.out _ _ trivial ?_
      clear aE
      obtain ⟨gm,hgm⟩:∃ z,z=z1.heap.size:=⟨_,rfl⟩
      generalize z1.alloc (.cells #[.int .i64 0,.slice none 0 0] 67)=z2 at D2 kp2 lp2 km0 ⊢
      rw [← hgm] at km0 hgm0 hgne ⊢
      clear hgm
      clear hK K
      try simp only [Act.put,sTA,sC0,sC1,gTA,gC0,gC1]
      refine wpAnyZ_one 1 (by kernel_rfl) rfl (by rfl) (fun K hK=>?_)
      go_simp
      refine (spec_l1Below hiC gc 9 z2 D2.out.cur (by omega) (by omega)).mono ?_
      rintro e z3 ⟨x,rfl,hx0,hx1,cN,tN⟩
      have D3:=hide (D2.out.touch tN cN)
      have kp3:=(tN.block gp lp2 (.inr (by omega))).trans kp2
      have lp3:=Nat.lt_of_lt_of_le lp2 tN.size
      clear kp2 lp2
      have km3:=km0.touch tN (.inr (by omega))
      clear km0
      clear D2
      clear tN cN
      have hwx:=IntWalk.i64_in (x - 4) (by omega)
      go_wp2_with fail
      refine hK.out _ _ trivial ?_
      clear hK K
      try simp only [Act.put,sTA,sC0,sC1,gTA,gC0,gC1]
      refine wpAnyZ_takeW 2 (.int .i64 (x - 4)) rfl (by kernel_rfl) (by kernel_rfl) (fun _ _ _ h=>h) (by rfl) (fun _=>by simp [go_sem,hwx]) trivial ?_
      try simp only [Act.put,sTA,sC0,sC1,gTA,gC0,gC1]
      refine wpAnyZ_one 4 (by kernel_rfl) rfl (by rfl) (fun K hK=>?_)
      go_simp
      refine (spec_l1Below hiC gc 2 z3 D3.out.cur (by omega) (by omega)).mono ?_
      rintro e z4 ⟨y,rfl,hy0,hy1,cN,tN⟩
      have D4:=hide (D3.out.touch tN cN)
      have kp4:=(tN.block gp lp3 (.inr (by omega))).trans kp3
      have lp4:=Nat.lt_of_lt_of_le lp3 tN.size
      clear kp3 lp3
      have km4:=km3.touch tN (.inr (by omega))
      clear km3
      clear D3
      clear tN cN
      have hwy:=IntWalk.i64_in (1+y) (by omega)
      go_wp2_with fail
      refine hK.out _ _ trivial ?_
      clear hK K
      try simp only [Act.put,sTA,sC0,sC1,gTA,gC0,gC1]
      refine wpAnyZ_takeW 5 (.int .i64 (1+y)) rfl (by kernel_rfl) (by kernel_rfl) (fun _ _ _ h=>h) (by rfl) (fun _=>by simp [go_sem,hwy]) trivial ?_
      try simp only [Act.put,sTA,sC0,sC1,gTA,gC0,gC1]
      refine wpAnyZ_one 6 (by kernel_rfl) rfl (by rfl) (fun K hK=>?_)
      go_simp
      refine (spec_Fraction (x - 4) (1+y) z4 (by constructor <;> omega) (by constructor <;> omega)).mono ?_
      rintro e xx ⟨rfl,rfl⟩
      have hfb:=fracF_bd (x - 4) (1+y)
      go_wp2_with fail
      refine hK.out _ _ trivial ?_
      clear hK K
      try simp only [Act.put,sTA,sC0,sC1,gTA,gC0,gC1]
      refine wpAnyZ_takeW 9 (.agg #[.int .i64 (fracF (x - 4) (1+y)),.slice (some ⟨gp,0,none⟩) 2 2]) rfl (by kernel_rfl) (by kernel_rfl) (fun _ _ _ h=>h) (by rfl) (fun _=>by first | (simp [go_sem];done) | go_simp) trivial ?_
      try simp only [Act.put,sTA,sC0,sC1,gTA,gC0,gC1]
      have u1:=km4.c 0 rfl
      have u2:=km4.c 1 rfl
      have v1:=km4.f 0
      have v2:=km4.f 1
      refine wpAnyZ_last (by kernel_rfl) rfl (by kernel_rfl) (by rfl) (fun K hK=>?_)
      go_simp
      refine hK _ _ ?_
      clear hK K u1 u2 v1 v2
      go_wp2_with fail
      go_meet
      case rel=>exact mo_meet D4.out km4 kp4 lp4 hgp0 hgm0 hgne hfb
    ·
     go_simp
     have aE:=below_alloc V (.cells #[.int .i64 0,.slice none 0 0] 67)
     have km0:=BlkN.new V #[.int .i64 0,.slice none 0 0] 67
     have hgm0:=D0.out.up
     have D1:=hide (D0.out.below aE)
     skip
     refine hK.out _ _ trivial ?_
     clear aE
     obtain ⟨gm,hgm⟩:∃ z,z=V.heap.size:=⟨_,rfl⟩
     generalize V.alloc (.cells #[.int .i64 0,.slice none 0 0] 67)=z1 at D1 km0 ⊢
     rw [← hgm] at km0 hgm0 ⊢
     clear hgm
     clear hK K
     try simp only [Act.put,sTA,sC0,sC1,gTA,gC0,gC1]
     refine wpAnyZ_two 1 8 (by kernel_rfl) rfl rfl (by rfl) (by rfl) (fun K hK=>?_) (fun K hK=>?_)
     ·
      go_simp
      refine (spec_l1Below hiC gc 9 z1 D1.out.cur (by omega) (by omega)).mono ?_
      rintro e z2 ⟨x,rfl,hx0,hx1,cN,tN⟩
      have D2:=hide (D1.out.touch tN cN)
      have km2:=km0.touch tN (.inr (by omega))
      clear km0
      clear D1
      clear tN cN
      have hwx:=IntWalk.i64_in (x - 4) (by omega)
      go_wp2_with fail
      refine hK.out _ _ trivial ?_
      clear hK K
      try simp only [Act.put,sTA,sC0,sC1,gTA,gC0,gC1]
      refine wpAnyZ_takeW 2 (.int .i64 (x - 4)) rfl (by kernel_rfl) (by kernel_rfl) (fun _ _ _ h=>h) (by rfl) (fun _=>by simp [go_sem,hwx]) trivial ?_
      try simp only [Act.put,sTA,sC0,sC1,gTA,gC0,gC1]
      refine wpAnyZ_two 4 8 (by kernel_rfl) rfl rfl (by rfl) (by rfl) (fun K hK=>?_) (fun K hK=>?_)
      ·
       go_simp
       refine (spec_l1Below hiC gc 2 z2 D2.out.cur (by omega) (by omega)).mono ?_
       rintro e z3 ⟨y,rfl,hy0,hy1,cN,tN⟩
       have D3:=hide (D2.out.touch tN cN)
       have km3:=km2.touch tN (.inr (by omega))
       clear km2
       clear D2
       clear tN cN
       have hwy:=IntWalk.i64_in (1+y) (by omega)
       go_wp2_with fail
       refine hK.out _ _ trivial ?_
       clear hK K
       try simp only [Act.put,sTA,sC0,sC1,gTA,gC0,gC1]
       refine wpAnyZ_takeW 5 (.int .i64 (1+y)) rfl (by kernel_rfl) (by kernel_rfl) (fun _ _ _ h=>h) (by rfl) (fun _=>by simp [go_sem,hwy]) trivial ?_
       try simp only [Act.put,sTA,sC0,sC1,gTA,gC0,gC1]
       refine wpAnyZ_two 6 8 (by kernel_rfl) rfl rfl (by rfl) (by rfl) (fun K hK=>?_) (fun K hK=>?_)
       ·
        go_simp
        refine (spec_Fraction (x - 4) (1+y) z3 (by constructor <;> omega) (by constructor <;> omega)).mono ?_
        rintro e xx ⟨rfl,rfl⟩
        have hfb:=fracF_bd (x - 4) (1+y)
        go_wp2_with fail
        refine hK.out _ _ trivial ?_
        clear hK K
        try simp only [Act.put,sTA,sC0,sC1,gTA,gC0,gC1]
        refine wpAnyZ_one 8 (by kernel_rfl) rfl (by rfl) (fun K hK=>?_)
        have hmk:(Instr.makeSlice 24 (.int .i64 2) (.int .i64 2)).run Tryz.prog z3 = .ok (.slice (some ⟨z3.heap.size,0,none⟩) 2 2) (z3.alloc (.cells (zeros 2) 3)):=make_ints 2 (by omega) z3
        go_simp
        clear hmk
        have aE:=below_alloc z3 (.cells (zeros 2) 3)
        have kp0:=heap_alloc_new z3 (.cells (zeros 2) 3)
        have lp0:z3.heap.size<(z3.alloc (.cells (zeros 2) 3)).heap.size:=by simp
        have hgp0:=D3.out.up
        have hgne:=Nat.ne_of_gt km3.lt
        have D4:=hide (D3.out.below aE)
        have km4:=km3.below aE
        clear km3
        clear D3
        refine hK.out _ _ trivial ?_
        clear aE
        obtain ⟨gp,hgp⟩:∃ z,z=z3.heap.size:=⟨_,rfl⟩
        generalize z3.alloc (.cells (zeros 2) 3)=z4 at D4 km4 kp0 lp0 ⊢
        rw [← hgp] at kp0 lp0 hgp0 hgne ⊢
        clear hgp
        clear hK K
        try simp only [Act.put,sTA,sC0,sC1,gTA,gC0,gC1]
        refine wpAnyZ_takeW 9 (.agg #[.int .i64 (fracF (x - 4) (1+y)),.slice (some ⟨gp,0,none⟩) 2 2]) rfl (by kernel_rfl) (by kernel_rfl) (fun _ _ _ h=>h) (by rfl) (fun _=>by first | (simp [go_sem];done) | go_simp) trivial ?_
        try simp only [Act.put,sTA,sC0,sC1,gTA,gC0,gC1]
        have u1:=km4.c 0 rfl
        have u2:=km4.c 1 rfl
        have v1:=km4.f 0
        have v2:=km4.f 1
        refine wpAnyZ_last (by kernel_rfl) rfl (by kernel_rfl) (by rfl) (fun K hK=>?_)
        go_simp
        refine hK _ _ ?_
        clear hK K u1 u2 v1 v2
        go_wp2_with fail
        go_meet
        case rel=>exact mo_meet D4.out km4 kp0 lp0 hgp0 hgm0 hgne hfb
       ·
        have hmk:(Instr.makeSlice 24 (.int .i64 2) (.int .i64 2)).run Tryz.prog z3 = .ok (.slice (some ⟨z3.heap.size,0,none⟩) 2 2) (z3.alloc (.cells (zeros 2) 3)):=make_ints 2 (by omega) z3
        go_simp
        clear hmk
        have aE:=below_alloc z3 (.cells (zeros 2) 3)
        have kp0:=heap_alloc_new z3 (.cells (zeros 2) 3)
        have lp0:z3.heap.size<(z3.alloc (.cells (zeros 2) 3)).heap.size:=by simp
        have hgp0:=D3.out.up
        have hgne:=Nat.ne_of_gt km3.lt
        have D4:=hide (D3.out.below aE)
        have km4:=km3.below aE
        clear km3
        clear D3
        refine hK.out _ _ trivial ?_
        clear aE
        obtain ⟨gp,hgp⟩:∃ z,z=z3.heap.size:=⟨_,rfl⟩
        generalize z3.alloc (.cells (zeros 2) 3)=z4 at D4 km4 kp0 lp0 ⊢
        rw [← hgp] at kp0 lp0 hgp0 hgne ⊢
        clear hgp
        clear hK K
        try simp only [Act.put,sTA,sC0,sC1,gTA,gC0,gC1]
        refine wpAnyZ_one 6 (by kernel_rfl) rfl (by rfl) (fun K hK=>?_)
        go_simp
        refine (spec_Fraction (x - 4) (1+y) z4 (by constructor <;> omega) (by constructor <;> omega)).mono ?_
        rintro e xx ⟨rfl,rfl⟩
        have hfb:=fracF_bd (x - 4) (1+y)
        go_wp2_with fail
        refine hK.out _ _ trivial ?_
        clear hK K
        try simp only [Act.put,sTA,sC0,sC1,gTA,gC0,gC1]
        refine wpAnyZ_takeW 9 (.agg #[.int .i64 (fracF (x - 4) (1+y)),.slice (some ⟨gp,0,none⟩) 2 2]) rfl (by kernel_rfl) (by kernel_rfl) (fun _ _ _ h=>h) (by rfl) (fun _=>by first | (simp [go_sem];done) | go_simp) trivial ?_
        try simp only [Act.put,sTA,sC0,sC1,gTA,gC0,gC1]
        have u1:=km4.c 0 rfl
        have u2:=km4.c 1 rfl
        have v1:=km4.f 0
        have v2:=km4.f 1
        refine wpAnyZ_last (by kernel_rfl) rfl (by kernel_rfl) (by rfl) (fun K hK=>?_)
        go_simp
        refine hK _ _ ?_
        clear hK K u1 u2 v1 v2
        go_wp2_with fail
        go_meet
        case rel=>exact mo_meet D4.out km4 kp0 lp0 hgp0 hgm0 hgne hfb
      ·
       have hmk:(Instr.makeSlice 24 (.int .i64 2) (.int .i64 2)).run Tryz.prog z2 = .ok (.slice (some ⟨z2.heap.size,0,none⟩) 2 2) (z2.alloc (.cells (zeros 2) 3)):=make_ints 2 (by omega) z2
       go_simp
       clear hmk
       have aE:=below_alloc z2 (.cells (zeros 2) 3)
       have kp0:=heap_alloc_new z2 (.cells (zeros 2) 3)
       have lp0:z2.heap.size<(z2.alloc (.cells (zeros 2) 3)).heap.size:=by simp
       have hgp0:=D2.out.up
       have hgne:=Nat.ne_of_gt km2.lt
       have D3:=hide (D2.out.below aE)
       have km3:=km2.below aE
       clear km2
       clear D2
       refine hK.out _ _ trivial ?_
       clear aE
       obtain ⟨gp,hgp⟩:∃ z,z=z2.heap.size:=⟨_,rfl⟩
       generalize z2.alloc (.cells (zeros 2) 3)=z3 at D3 km3 kp0 lp0 ⊢
       rw [← hgp] at kp0 lp0 hgp0 hgne ⊢
       clear hgp
       clear hK K
       try simp only [Act.put,sTA,sC0,sC1,gTA,gC0,gC1]
       refine wpAnyZ_one 4 (by kernel_rfl) rfl (by rfl) (fun K hK=>?_)
       go_simp
       refine (spec_l1Below hiC gc 2 z3 D3.out.cur (by omega) (by omega)).mono ?_
       rintro e z4 ⟨y,rfl,hy0,hy1,cN,tN⟩
       have D4:=hide (D3.out.touch tN cN)
       have kp4:=(tN.block gp lp0 (.inr (by omega))).trans kp0
       have lp4:=Nat.lt_of_lt_of_le lp0 tN.size
       clear kp0 lp0
       have km4:=km3.touch tN (.inr (by omega))
       clear km3
       clear D3
       clear tN cN
       have hwy:=IntWalk.i64_in (1+y) (by omega)
       go_wp2_with fail
       refine hK.out _ _ trivial ?_
       clear hK K
       try simp only [Act.put,sTA,sC0,sC1,gTA,gC0,gC1]
       refine wpAnyZ_takeW 5 (.int .i64 (1+y)) rfl (by kernel_rfl) (by kernel_rfl) (fun _ _ _ h=>h) (by rfl) (fun _=>by simp [go_sem,hwy]) trivial ?_
       try simp only [Act.put,sTA,sC0,sC1,gTA,gC0,gC1]
       refine wpAnyZ_one 6 (by kernel_rfl) rfl (by rfl) (fun K hK=>?_)
       go_simp
       refine (spec_Fraction (x - 4) (1+y) z4 (by constructor <;> omega) (by constructor <;> omega)).mono ?_
       rintro e xx ⟨rfl,rfl⟩
       have hfb:=fracF_bd (x - 4) (1+y)
       go_wp2_with fail
       refine hK.out _ _ trivial ?_
       clear hK K
       try simp only [Act.put,sTA,sC0,sC1,gTA,gC0,gC1]
       refine wpAnyZ_takeW 9 (.agg #[.int .i64 (fracF (x - 4) (1+y)),.slice (some ⟨gp,0,none⟩) 2 2]) rfl (by kernel_rfl) (by kernel_rfl) (fun _ _ _ h=>h) (by rfl) (fun _=>by first | (simp [go_sem];done) | go_simp) trivial ?_
       try simp only [Act.put,sTA,sC0,sC1,gTA,gC0,gC1]
       have u1:=km4.c 0 rfl
       have u2:=km4.c 1 rfl
       have v1:=km4.f 0
       have v2:=km4.f 1
       refine wpAnyZ_last (by kernel_rfl) rfl (by kernel_rfl) (by rfl) (fun K hK=>?_)
       go_simp
       refine hK _ _ ?_
       clear hK K u1 u2 v1 v2
       go_wp2_with fail
       go_meet
       case rel=>exact mo_meet D4.out km4 kp4 lp4 hgp0 hgm0 hgne hfb
     ·
      have hmk:(Instr.makeSlice 24 (.int .i64 2) (.int .i64 2)).run Tryz.prog z1 = .ok (.slice (some ⟨z1.heap.size,0,none⟩) 2 2) (z1.alloc (.cells (zeros 2) 3)):=make_ints 2 (by omega) z1
      go_simp
      clear hmk
      have aE:=below_alloc z1 (.cells (zeros 2) 3)
      have kp0:=heap_alloc_new z1 (.cells (zeros 2) 3)
      have lp0:z1.heap.size<(z1.alloc (.cells (zeros 2) 3)).heap.size:=by simp
      have hgp0:=D1.out.up
      have hgne:=Nat.ne_of_gt km0.lt
      have D2:=hide (D1.out.below aE)
      have km2:=km0.below aE
      clear km0
      clear D1
      refine hK.out _ _ trivial ?_
      clear aE
      obtain ⟨gp,hgp⟩:∃ z,z=z1.heap.size:=⟨_,rfl⟩
      generalize z1.alloc (.cells (zeros 2) 3)=z2 at D2 km2 kp0 lp0 ⊢
      rw [← hgp] at kp0 lp0 hgp0 hgne ⊢
      clear hgp
      clear hK K
      try simp only [Act.put,sTA,sC0,sC1,gTA,gC0,gC1]
      refine wpAnyZ_one 1 (by kernel_rfl) rfl (by rfl) (fun K hK=>?_)
      go_simp
      refine (spec_l1Below hiC gc 9 z2 D2.out.cur (by omega) (by omega)).mono ?_
      rintro e z3 ⟨x,rfl,hx0,hx1,cN,tN⟩
      have D3:=hide (D2.out.touch tN cN)
      have kp3:=(tN.block gp lp0 (.inr (by omega))).trans kp0
      have lp3:=Nat.lt_of_lt_of_le lp0 tN.size
      clear kp0 lp0
      have km3:=km2.touch tN (.inr (by omega))
      clear km2
      clear D2
      clear tN cN
      have hwx:=IntWalk.i64_in (x - 4) (by omega)
      go_wp2_with fail
      refine hK.out _ _ trivial ?_
      clear hK K
      try simp only [Act.put,sTA,sC0,sC1,gTA,gC0,gC1]
      refine wpAnyZ_takeW 2 (.int .i64 (x - 4)) rfl (by kernel_rfl) (by kernel_rfl) (fun _ _ _ h=>h) (by rfl) (fun _=>by simp [go_sem,hwx]) trivial ?_
      try simp only [Act.put,sTA,sC0,sC1,gTA,gC0,gC1]
      refine wpAnyZ_one 4 (by kernel_rfl) rfl (by rfl) (fun K hK=>?_)
      go_simp
      refine (spec_l1Below hiC gc 2 z3 D3.out.cur (by omega) (by omega)).mono ?_
      rintro e z4 ⟨y,rfl,hy0,hy1,cN,tN⟩
      have D4:=hide (D3.out.touch tN cN)
      have kp4:=(tN.block gp lp3 (.inr (by omega))).trans kp3
      have lp4:=Nat.lt_of_lt_of_le lp3 tN.size
      clear kp3 lp3
      have km4:=km3.touch tN (.inr (by omega))
      clear km3
      clear D3
      clear tN cN
      have hwy:=IntWalk.i64_in (1+y) (by omega)
      go_wp2_with fail
      refine hK.out _ _ trivial ?_
      clear hK K
      try simp only [Act.put,sTA,sC0,sC1,gTA,gC0,gC1]
      refine wpAnyZ_takeW 5 (.int .i64 (1+y)) rfl (by kernel_rfl) (by kernel_rfl) (fun _ _ _ h=>h) (by rfl) (fun _=>by simp [go_sem,hwy]) trivial ?_
      try simp only [Act.put,sTA,sC0,sC1,gTA,gC0,gC1]
      refine wpAnyZ_one 6 (by kernel_rfl) rfl (by rfl) (fun K hK=>?_)
      go_simp
      refine (spec_Fraction (x - 4) (1+y) z4 (by constructor <;> omega) (by constructor <;> omega)).mono ?_
      rintro e xx ⟨rfl,rfl⟩
      have hfb:=fracF_bd (x - 4) (1+y)
      go_wp2_with fail
      refine hK.out _ _ trivial ?_
      clear hK K
      try simp only [Act.put,sTA,sC0,sC1,gTA,gC0,gC1]
      refine wpAnyZ_takeW 9 (.agg #[.int .i64 (fracF (x - 4) (1+y)),.slice (some ⟨gp,0,none⟩) 2 2]) rfl (by kernel_rfl) (by kernel_rfl) (fun _ _ _ h=>h) (by rfl) (fun _=>by first | (simp [go_sem];done) | go_simp) trivial ?_
      try simp only [Act.put,sTA,sC0,sC1,gTA,gC0,gC1]
      have u1:=km4.c 0 rfl
      have u2:=km4.c 1 rfl
      have v1:=km4.f 0
      have v2:=km4.f 1
      refine wpAnyZ_last (by kernel_rfl) rfl (by kernel_rfl) (by rfl) (fun K hK=>?_)
      go_simp
      refine hK _ _ ?_
      clear hK K u1 u2 v1 v2
      go_wp2_with fail
      go_meet
      case rel=>exact mo_meet D4.out km4 kp4 lp4 hgp0 hgm0 hgne hfb
   case rest =>
    obtain ⟨gm,gp,x,rfl,hx,hT⟩:=hcut
    clear HM
    obtain ⟨wo,hwo⟩:∃ z,z=wr:=⟨_,rfl⟩
    rw [← hwo] at hT hwr
    clear hwo
    go_wp2_with fail
    refine (spec_l1Below hiC gc 5 wc hT.out.s.cur (by omega) (by omega)).mono ?_
    rintro e w3 ⟨q0,rfl,hq0,hq1,c3,t3⟩
    obtain ⟨q1,rfl⟩:∃ k:Nat,q0=k:=⟨q0.toNat,by omega⟩
    have hT3:=hide (hT.out.touch t3 c3)
    clear hT c3 t3
    go_wp2_with fail
    go_loopw [12,13] (fun kv _ W=>∃ (k:Nat) (a b:Int),kv = .int .i64 (k:Int)∧0≤a∧0≤b∧a+b+k≤4∧Hid (MoT hiC gc w wo W gm gp x P n c ms a b)) (fun kv _ _=>(intOf kv).toNat)
    case atStart=>exact ⟨q1,0,0,rfl,by omega,by omega,by omega,hT3.out⟩
    case round =>
     clear hT3 hq0 hq1
     obtain ⟨k,a,b,rfl,ha,hb,hab,hTT⟩:=hrel
     by_cases hk:0<k
     ·go_wp2_with fail
      refine (spec_l1Below hiC gc 2 wr hTT.out.s.cur (by omega) (by omega)).mono ?_
      rintro e w5 ⟨i0,rfl,hi0,hi1,c5,t5⟩
      have hT2:=hide (hTT.out.touch t5 c5)
      clear hTT c5 t5
      by_cases e0:i0=0
      ·subst e0
       have hwv:=IntWalk.i64_in (a+1) (by omega)
       go_upto_region 10 with fail
       refine wp_region_Z (fun W'=>W'.cell? ⟨gm,1,none⟩=some (.slice (some ⟨gp,0,none⟩) 2 2)∧W'.cell? ⟨gp,0,none⟩=some (.int .i64 a)) 10 (by kernel_rfl) ?_
       simp only [List.size_toArray,List.length_cons,List.length_nil,Nat.reduceAdd]
       have HT:=hide (hT2.out.drewM)
       clear hT2
       generalize w5.drew=V at HT ⊢
       have hS0:=And.intro (HT.out.km.c 1 rfl) (cellI HT.out.kp.ints (j:=0) rfl)
       refine wpAnyZ_takeW 0 (.pointer (some ⟨gm,1,none⟩)) rfl (by kernel_rfl) (by kernel_rfl) (fun _ _ _ h=>h) (by rfl) (fun _=>by first | (simp [go_sem];done) | go_simp) hS0 ?_
       try simp only [Act.put,sTA,sC0,sC1,gTA,gC0,gC1]
       refine wpAnyZ_take 1 (.slice (some ⟨gp,0,none⟩) 2 2) rfl (by kernel_rfl) (by kernel_rfl) (fun _ _ _ h=>h) (by rfl) (fun _ hS=>by have q0:=hS.1;clear hS;first | (simp [go_sem,q0];done) | go_simp) hS0 ?_
       try simp only [Act.put,sTA,sC0,sC1,gTA,gC0,gC1]
       refine wpAnyZ_takeW 2 (.int .i64 0) rfl (by kernel_rfl) (by kernel_rfl) (fun _ _ _ h=>h) (by rfl) (fun _=>by first | (simp [go_sem];done) | go_simp) hS0 ?_
       try simp only [Act.put,sTA,sC0,sC1,gTA,gC0,gC1]
       refine wpAnyZ_takeW 3 (.pointer (some ⟨gm,1,none⟩)) rfl (by kernel_rfl) (by kernel_rfl) (fun _ _ _ h=>h) (by rfl) (fun _=>by first | (simp [go_sem];done) | go_simp) hS0 ?_
       try simp only [Act.put,sTA,sC0,sC1,gTA,gC0,gC1]
       refine wpAnyZ_take 4 (.slice (some ⟨gp,0,none⟩) 2 2) rfl (by kernel_rfl) (by kernel_rfl) (fun _ _ _ h=>h) (by rfl) (fun _ hS=>by have q0:=hS.1;clear hS;first | (simp [go_sem,q0];done) | go_simp) hS0 ?_
       try simp only [Act.put,sTA,sC0,sC1,gTA,gC0,gC1]
       refine wpAnyZ_takeW 5 (.int .i64 0) rfl (by kernel_rfl) (by kernel_rfl) (fun _ _ _ h=>h) (by rfl) (fun _=>by first | (simp [go_sem];done) | go_simp) hS0 ?_
       try simp only [Act.put,sTA,sC0,sC1,gTA,gC0,gC1]
       refine wpAnyZ_takeW 6 (.pointer (some ⟨gp,0,none⟩)) rfl (by kernel_rfl) (by kernel_rfl) (fun _ _ _ h=>h) (by rfl) (fun _=>by first | (simp [go_sem];done) | go_simp) hS0 ?_
       try simp only [Act.put,sTA,sC0,sC1,gTA,gC0,gC1]
       refine wpAnyZ_take 7 (.int .i64 a) rfl (by kernel_rfl) (by kernel_rfl) (fun _ _ _ h=>h) (by rfl) (fun _ hS=>by have q0:=hS.2;clear hS;first | (simp [go_sem,q0];done) | go_simp) hS0 ?_
       try simp only [Act.put,sTA,sC0,sC1,gTA,gC0,gC1]
       refine wpAnyZ_takeW 8 (.int .i64 (a+1)) rfl (by kernel_rfl) (by kernel_rfl) (fun _ _ _ h=>h) (by rfl) (fun _=>by simp [go_sem,hwv]) hS0 ?_
       try simp only [Act.put,sTA,sC0,sC1,gTA,gC0,gC1]
       refine wpAnyZ_takeW 9 (.pointer (some ⟨gp,0,none⟩)) rfl (by kernel_rfl) (by kernel_rfl) (fun _ _ _ h=>h) (by rfl) (fun _=>by first | (simp [go_sem];done) | go_simp) hS0 ?_
       try simp only [Act.put,sTA,sC0,sC1,gTA,gC0,gC1]
       have g0:=hS0.2
       have g1:V.frozen? ⟨gp,0,none⟩=false:=HT.out.kp.own.frozenAt 0
       refine wpAnyZ_last (by kernel_rfl) rfl (by kernel_rfl) (by rfl) (fun K hK=>?_)
       go_simp
       refine hK _ _ ?_
       clear hK K g0 g1
       have HT3:=hide (HT.out.set0 (by constructor <;> omega))
       clear HT
       go_wp2_with fail
       go_roundw
       case rel=>exact ⟨k - 1,a+1,b,by go_num,by omega,by omega,by omega,HT3.out⟩
       case measure=>simp [intOf];omega
      ·obtain rfl:i0=1:=by omega
       have hwv:=IntWalk.i64_in (b+1) (by omega)
       go_upto_region 10 with fail
       refine wp_region_Z (fun W'=>W'.cell? ⟨gm,1,none⟩=some (.slice (some ⟨gp,0,none⟩) 2 2)∧W'.cell? ⟨gp,1,none⟩=some (.int .i64 b)) 10 (by kernel_rfl) ?_
       simp only [List.size_toArray,List.length_cons,List.length_nil,Nat.reduceAdd]
       have HT:=hide (hT2.out.drewM)
       clear hT2
       generalize w5.drew=V at HT ⊢
       have hS0:=And.intro (HT.out.km.c 1 rfl) (cellI HT.out.kp.ints (j:=1) rfl)
       refine wpAnyZ_takeW 0 (.pointer (some ⟨gm,1,none⟩)) rfl (by kernel_rfl) (by kernel_rfl) (fun _ _ _ h=>h) (by rfl) (fun _=>by first | (simp [go_sem];done) | go_simp) hS0 ?_
       try simp only [Act.put,sTA,sC0,sC1,gTA,gC0,gC1]
       refine wpAnyZ_take 1 (.slice (some ⟨gp,0,none⟩) 2 2) rfl (by kernel_rfl) (by kernel_rfl) (fun _ _ _ h=>h) (by rfl) (fun _ hS=>by have q0:=hS.1;clear hS;first | (simp [go_sem,q0];done) | go_simp) hS0 ?_
       try simp only [Act.put,sTA,sC0,sC1,gTA,gC0,gC1]
       refine wpAnyZ_takeW 2 (.int .i64 1) rfl (by kernel_rfl) (by kernel_rfl) (fun _ _ _ h=>h) (by rfl) (fun _=>by first | (simp [go_sem];done) | go_simp) hS0 ?_
       try simp only [Act.put,sTA,sC0,sC1,gTA,gC0,gC1]
       refine wpAnyZ_takeW 3 (.pointer (some ⟨gm,1,none⟩)) rfl (by kernel_rfl) (by kernel_rfl) (fun _ _ _ h=>h) (by rfl) (fun _=>by first | (simp [go_sem];done) | go_simp) hS0 ?_
       try simp only [Act.put,sTA,sC0,sC1,gTA,gC0,gC1]
       refine wpAnyZ_take 4 (.slice (some ⟨gp,0,none⟩) 2 2) rfl (by kernel_rfl) (by kernel_rfl) (fun _ _ _ h=>h) (by rfl) (fun _ hS=>by have q0:=hS.1;clear hS;first | (simp [go_sem,q0];done) | go_simp) hS0 ?_
       try simp only [Act.put,sTA,sC0,sC1,gTA,gC0,gC1]
       refine wpAnyZ_takeW 5 (.int .i64 1) rfl (by kernel_rfl) (by kernel_rfl) (fun _ _ _ h=>h) (by rfl) (fun _=>by first | (simp [go_sem];done) | go_simp) hS0 ?_
       try simp only [Act.put,sTA,sC0,sC1,gTA,gC0,gC1]
       refine wpAnyZ_takeW 6 (.pointer (some ⟨gp,1,none⟩)) rfl (by kernel_rfl) (by kernel_rfl) (fun _ _ _ h=>h) (by rfl) (fun _=>by first | (simp [go_sem];done) | go_simp) hS0 ?_
       try simp only [Act.put,sTA,sC0,sC1,gTA,gC0,gC1]
       refine wpAnyZ_take 7 (.int .i64 b) rfl (by kernel_rfl) (by kernel_rfl) (fun _ _ _ h=>h) (by rfl) (fun _ hS=>by have q0:=hS.2;clear hS;first | (simp [go_sem,q0];done) | go_simp) hS0 ?_
       try simp only [Act.put,sTA,sC0,sC1,gTA,gC0,gC1]
       refine wpAnyZ_takeW 8 (.int .i64 (b+1)) rfl (by kernel_rfl) (by kernel_rfl) (fun _ _ _ h=>h) (by rfl) (fun _=>by simp [go_sem,hwv]) hS0 ?_
       try simp only [Act.put,sTA,sC0,sC1,gTA,gC0,gC1]
       refine wpAnyZ_takeW 9 (.pointer (some ⟨gp,1,none⟩)) rfl (by kernel_rfl) (by kernel_rfl) (fun _ _ _ h=>h) (by rfl) (fun _=>by first | (simp [go_sem];done) | go_simp) hS0 ?_
       try simp only [Act.put,sTA,sC0,sC1,gTA,gC0,gC1]
       have g0:=hS0.2
       have g1:V.frozen? ⟨gp,1,none⟩=false:=HT.out.kp.own.frozenAt 1
       refine wpAnyZ_last (by kernel_rfl) rfl (by kernel_rfl) (by rfl) (fun K hK=>?_)
       go_simp
       refine hK _ _ ?_
       clear hK K g0 g1
       have HT3:=hide (HT.out.set1 (by constructor <;> omega))
       clear HT
       go_wp2_with fail
       go_roundw
       case rel=>exact ⟨k - 1,a,b+1,by go_num,by omega,by omega,by omega,HT3.out⟩
       case measure=>simp [intOf];omega
     ·obtain rfl:k=0:=by omega
      have km:=hTT.out.km
      have d0:=km.c 0 rfl
      have d1:=km.c 1 rfl
      clear km
      have hup:=hTT.out.s.up
      have M7:=hide (hTT.out.s.mp.wide (lR _) hup)
      have hlow:=hTT.out.s.low.size
      by_cases hx0:x=0
      ·subst hx0
       have C7:=hide hTT.out.s.cur
       have T7:=hide hTT.out.s.low
       clear hTT
       go_wp2_with fail
       go_roundw
       case rel=>exact ⟨j - 1,P,n,c,ms,by go_num,rfl,by omega,M7.out,hG.out,C7.out,T7.out⟩
       case measure=>simp [intOf];omega
      ·have hxb:(x != 0)=true:=by simpa using hx0
       have I7:=hide (hTT.out.kp.ints.wide (lo':=w.heap.size) hwr (lR _))
       have HS:=hide hTT.out.s
       clear hx0 hTT
       go_wp2_with fail
       refine (spec_l9Put P n c ms w.heap.size x (some ⟨gp,0,none⟩) 2 2 [a,b] wr M7.out I7.out hlow (by omega) hG.out.num hx.out hG.out.desc).mono ?_
       rintro e w8 ⟨P8,n8,c8,rfl,M8,b8⟩
       have hnl:n8≤n+1:=by rw [← M8.len,← M7.out.len];exact putM_len _ _
       have C8:=hide (HS.out.cur.below b8)
       have T8:=hide (HS.out.low.then_below b8 hlow)
       have M8':=hide M8
       have G8:=hide (hG.out.put (m:=(x,[a,b])) hx.out rfl)
       clear M8 b8 HS I7 M7 d0 d1
       go_wp2_with fail
       go_roundw
       case rel=>exact ⟨j - 1,P8,n8,c8,_,by go_num,rfl,by omega,M8'.out,G8.out,C8.out,T8.out⟩
       case measure=>simp [intOf];omega
  ·obtain rfl:j=0:=by omega
   go_wp2_with fail
   go_ret
   exact ⟨P,n,c,ms,rfl,hM.out,hG.out.len,hC.out,hT.out⟩
end Go.Proofs.YtomgcbfcnjbofaaGreat
