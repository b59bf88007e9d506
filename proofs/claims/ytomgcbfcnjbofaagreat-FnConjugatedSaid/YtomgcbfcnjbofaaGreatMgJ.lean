/- Polynomials in h: the program's product. -/
import Derived.Test.YtomgcbfcnjbofaaGreatMgI
import Derived.Test.YtomgcbfcnjbofaaGreatMgF
import Derived.Test.YtomgcbfcnjbofaaGreatMgB
namespace Go.Proofs.YtomgcbfcnjbofaaGreat
open Go.RowKit
set_option linter.unusedSimpArgs false
set_option linter.unusedVariables false
set_option maxRecDepth 20000
theorem mulP_zero {xs ys:List Int} {n:Nat} (h:xs.length=n):jmulP xs ys 0=zeroJ n:=by
 refine tabJ_eq (n:=n) (by rw [jmulP,tabJ_len,h]) (zero_len n) fun j hj=>?_
 rw [jmulP,tabJ_get _ (by omega)]
 simp [psum,zeroJ,hj]
theorem mulP_len (xs ys:List Int) (i:Nat):(jmulP xs ys i).length=xs.length:=tabJ_len _ _
theorem mulP_at (xs ys:List Int) {i q:Nat} (h:q<xs.length):(jmulP xs ys i)[q]? = some (psum xs ys i q % 1000000271):=tabJ_at _ h
theorem psum_step {xs ys:List Int} {i j:Nat} {x y:Int} (hx:xs[i]? = some x) (hy:ys[j]? = some y):psum xs ys (i+1) (i+j) % 1000000271=(psum xs ys i (i+j) % 1000000271+x*y) % 1000000271:=by
 rw [psum,if_pos (by omega),show i+j - i=j by omega]
 simp only [List.getD,hx,hy,Option.getD_some]
 rw [Int.emod_add_emod]
theorem mul_begin {xs ys:List Int} {i n:Nat} (h:xs.length=n) (hi:i≤n):mixJ (jmulP xs ys (i+1)) (jmulP xs ys i) i=jmulP xs ys i:=by
 refine tabJ_eq (n:=n) ?_ (by rw [mulP_len,h]) fun j hj=>?_
 ·simp [mixJ,mulP_len,h];omega
 ·unfold mixJ
  by_cases hji:j<i
  ·rw [List.getD_eq_getElem?_getD,List.getElem?_append_left (by simp [mulP_len,h];omega),List.getElem?_take_of_lt hji,mulP_at _ _ (by omega),List.getD_eq_getElem?_getD,mulP_at _ _ (by omega)]
   simp only [Option.getD_some]
   rw [psum,if_neg (by omega),Int.add_zero]
  ·rw [List.getD_eq_getElem?_getD,List.getElem?_append_right (by simp [mulP_len,h];omega)]
   simp only [List.length_take,mulP_len,h,List.getElem?_drop,Nat.min_eq_left hi]
   rw [show i+(j - i)=j by omega,← List.getD_eq_getElem?_getD]
theorem mul_zero_row {xs ys:List Int} {i:Nat} (hx:xs[i]? = some 0):jmulP xs ys (i+1)=jmulP xs ys i:=by
 unfold jmulP tabJ
 refine List.map_congr_left fun k _=>?_
 rw [psum]
 simp [List.getD,hx]
set_option maxRecDepth 100000 in
set_option maxHeartbeats 8000000 in
theorem impl_times (A:Option Addr) (n c:Nat) (xs:List Int) (lo hi:Nat) (B:Option Addr) (d:Nat) (ys:List Int) (lo' hi':Nat) (w:World) (h:Ints w lo hi A n c xs) (g:Ints w lo' hi' B n d ys) (hh:hi≤w.heap.size) (hh':hi'≤w.heap.size) (hn:n≤1000) (hx:∀ x∈xs,0≤x∧x<1000000271) (hy:∀ y∈ys,0≤y∧y<1000000271) :
  Calls Tryz.prog 52 #[.slice A n c,.slice B n d] w fun e w'=>∃ gR,e = .returned (.slice (some ⟨gR,0,none⟩) n n)∧OwnI w' w.heap.size w'.heap.size (some ⟨gR,0,none⟩) n n (jmul xs ys)∧Below w.heap.size w w':=by
 have hcA:=h.cap
 have hmA:=h.max
 have hcB:=g.cap
 have hmB:=g.max
 have hmk:=make_jet n hn w
 have HX:=hide h
 have HY:=hide g
 have hlx:=hide h.len
 have HXN:=hide hx
 have HYN:=hide hy
 have s0:=hide (FillS.start w n hn)
 rw [← mulP_zero (ys:=ys) hlx.out] at s0
 clear h g hx hy
 go_enter Tryz.func52,Tryz.ntmps52
 go_wp2_with fail
 clear hmk
 go_loopw [14] (fun i wr=>∃ (j:Nat),j≤n∧i = .int .i64 j∧Hid (FillS w wr w.heap.size n (jmulP xs ys j))) (fun i _=>n - (intOf i).toNat)
 case atStart=>exact ⟨0,by omega,rfl,s0⟩
 case round =>
  clear s0
  obtain ⟨i,hi,rfl,hS⟩:=hrel
  by_cases hlt:i<n
  ·obtain ⟨ad,x,rfl,hcx,hxr,_,hxx⟩:=(HX.out.below hS.out.low hh).at_ hlt
   have hxb:=HXN.out x (List.mem_of_getElem? hxx.out)
   by_cases hx0:x=0
   ·subst hx0
    have hN:=hS.out
    rw [← mul_zero_row (ys:=ys) hxx.out] at hN
    have HN:=hide hN
    clear hxx hS hN
    go_wp2_with fail
    go_roundw
    case rel=>exact ⟨i+1,by omega,by go_num,HN.out⟩
    case measure=>simp [intOf];omega
   ·have hxne:(x == 0)=false:=by simpa using hx0
    clear hx0
    go_wp2_with fail
    go_loopw [8] (fun v wr=>∃ (j:Nat),i+j≤n∧v = .int .i64 j∧Hid (FillS w wr w.heap.size n (mixJ (jmulP xs ys (i+1)) (jmulP xs ys i) (i+j)))) (fun v _=>n - (intOf v).toNat)
    case atStart=>exact ⟨0,by omega,rfl,by show Hid (FillS w wr w.heap.size n (mixJ (jmulP xs ys (i+1)) (jmulP xs ys i) i));rw [mul_begin hlx.out (by omega)];exact hS⟩
    case round =>
     clear hS hcx
     obtain ⟨j,hj,rfl,hS⟩:=hrel
     have hw0:IntKind.i64.wrap ((i:Int)+(j:Int))=((i+j:Nat):Int):=by rw [show ((i+j:Nat):Int)=(i:Int)+j by simp];exact IntWalk.i64_in _ (by omega)
     by_cases hlt2:i+j<n
     ·obtain ⟨ae,y,rfl,hcy,hyr,_,hyy⟩:=(HY.out.below hS.out.low hh').at_ (show j<n by omega)
      have hyb:=HYN.out y (List.mem_of_getElem? hyy.out)
      obtain ⟨q,hq⟩:∃ q,q=i+j:=⟨_,rfl⟩
      rw [← hq] at hw0 hlt2 hS
      obtain ⟨v,hcv,hzv,hvr,hfv⟩:=hS.out.cell hlt2
      rw [mixJ_at (by rw [mulP_len,hlx.out]) hlt2,mulP_at _ _ (by rw [hlx.out];exact hlt2)] at hzv
      injection hzv with hzv
      have hvb:0≤v∧v<1000000271:=by rw [← hzv];exact ⟨Int.emod_nonneg _ (by omega),Int.emod_lt_of_pos _ (by omega)⟩
      have hst:=psum_step (j:=j) hxx.out hyy.out
      rw [← hq,hzv] at hst
      have hmb:=mul_bd hxb.1 hxb.2 hyb.1 hyb.2
      obtain ⟨p,hp⟩:∃ p,p=x*y:=⟨_,rfl⟩
      rw [← hp] at hst hmb
      have hw1:IntKind.i64.wrap (x*y)=p:=by rw [← hp];exact IntWalk.i64_in _ (by omega)
      obtain ⟨s,hs⟩:∃ s,s=v+p:=⟨_,rfl⟩
      have hw2:IntKind.i64.wrap (v+p)=s:=by rw [← hs];exact IntWalk.i64_in _ (by omega)
      obtain ⟨r,hr⟩:∃ r,r=s % 1000000271:=⟨_,rfl⟩
      have hs0:0≤s:=by omega
      have hrb:0≤r∧r<1000000271:=by omega
      have ht:s.tmod 1000000271=r:=by rw [hr];exact Int.tmod_eq_emod_of_nonneg hs0
      have hw3:IntKind.i64.wrap r=r:=IntWalk.i64_in _ (by omega)
      have hat:(jmulP xs ys (i+1))[q]? = some r:=by rw [mulP_at _ _ (by rw [hlx.out];exact hlt2),hst,← hs,hr]
      have hN:=hS.out.set q (x:=r) (by constructor <;> omega)
      rw [mixJ_set (by rw [mulP_len,hlx.out]) (by rw [mulP_len,hlx.out]) hlt2 hat] at hN
      have HN:=hide hN.drew
      have hqs:Hid (q+1=i+(j+1)):=by show _=_;omega
      have hjn:j<n:=by omega
      clear hyy hzv hst hp hs hr hat hN hS hvb hq
      go_wp2_with fail
      refine still_tail 19 (by kernel_rfl) (by kernel_rfl) ?_
      simp only [List.take_succ_cons,List.take_zero,List.drop_succ_cons,List.drop_zero]
      iterate 19 still_step
      refine wpStill_nil ?_
      go_wp2_with fail
      go_roundw
      case rel=>exact ⟨j+1,by have:=hqs.out;omega,by go_num,by rw [← hqs.out];exact HN.out⟩
      case measure=>simp [intOf];omega
     ·have hqn:i+j=n:=by omega
      rw [hqn] at hS hw0
      rw [mixJ_all (by rw [mulP_len,hlx.out]) (by rw [mulP_len,hlx.out])] at hS
      have hqn2:=hide hqn
      clear hqn
      go_wp2_with fail
      go_roundw
      case rel=>exact ⟨i+1,by omega,by go_num,hS.out⟩
      case measure=>simp [intOf];omega
  ·obtain rfl:n=i:=by omega
   have hE:Hid (jmul xs ys=jmulP xs ys n):=by show _=_;rw [jmul,hlx.out]
   go_wp2_with fail
   go_ret
   exact ⟨_,rfl,by rw [hE.out];exact hS.out.done⟩
end Go.Proofs.YtomgcbfcnjbofaaGreat
/- Polynomials in h: the reference's product. -/
namespace Go.Proofs.YtomgcbfcnjbofaaGreat
open Go.RowKit
set_option linter.unusedSimpArgs false
set_option linter.unusedVariables false
set_option maxRecDepth 20000
end Go.Proofs.YtomgcbfcnjbofaaGreat
/- Polynomials in h: one power later; the reference's sum. -/
namespace Go.Proofs.YtomgcbfcnjbofaaGreat
open Go.RowKit
set_option linter.unusedSimpArgs false
set_option linter.unusedVariables false
set_option maxRecDepth 20000
theorem mixJ_big {new old:List Int} {k j:Nat} (h1:new.length=k) (h2:old.length=k) (hj:k≤j):mixJ new old j=new:=by
 simp [mixJ,List.take_of_length_le (show new.length≤j by omega),List.drop_eq_nil_of_le (show old.length≤j by omega)]
theorem later_at {xs:List Int} {j:Nat} {x:Int} (hx:xs[j]? = some x) (hj:j+1<xs.length):(later1 xs)[j+1]? = some x:=by
 rw [later1,tabJ_at _ hj,if_neg (by omega)]
 simp [List.getD,hx]
theorem later_start {xs:List Int} {n:Nat} (h:xs.length=n):mixJ (later1 xs) (zeroJ n) 1=zeroJ n:=by
 refine tabJ_eq (n:=n) ?_ (zero_len n) fun j hj=>?_
 ·simp [mixJ,later_len,h,zero_len];omega
 ·unfold mixJ
  by_cases h0:j=0
  ·subst h0
   rw [List.getD_eq_getElem?_getD,List.getElem?_append_left (by simp [later_len,h];omega),List.getElem?_take_of_lt (by omega),later1,tabJ_at _ (by omega)]
   simp [zeroJ,List.getD,hj]
  ·rw [List.getD_eq_getElem?_getD,List.getElem?_append_right (by simp [later_len,h];omega)]
   simp only [List.length_take,later_len,h,List.getElem?_drop]
   rw [show 1+(j - min 1 n)=j by omega,← List.getD_eq_getElem?_getD]
set_option maxRecDepth 100000 in
set_option maxHeartbeats 4000000 in
theorem impl_later (A:Option Addr) (n c:Nat) (xs:List Int) (lo hi:Nat) (w:World) (h:Ints w lo hi A n c xs) (hh:hi≤w.heap.size) (hn:n≤1000) :
  Calls Tryz.prog 83 #[.slice A n c,.int .i64 1] w fun e w'=>∃ gR,e = .returned (.slice (some ⟨gR,0,none⟩) n n)∧OwnI w' w.heap.size w'.heap.size (some ⟨gR,0,none⟩) n n (later1 xs)∧Below w.heap.size w w':=by
 have hcA:=h.cap
 have hmA:=h.max
 have hmk:=make_jet n hn w
 have HX:=hide h
 have hlx:=hide h.len
 have hll:Hid ((later1 xs).length=n):=by show _=_;rw [later_len,h.len]
 have s0:=hide (FillS.start w n hn)
 clear h
 go_enter Tryz.func83,Tryz.ntmps83
 go_wp2_with fail
 clear hmk
 go_loopw [12] (fun i wr=>∃ (j:Nat),j≤n∧i = .int .i64 j∧Hid (FillS w wr w.heap.size n (mixJ (later1 xs) (zeroJ n) (j+1)))) (fun i _=>n - (intOf i).toNat)
 case atStart=>exact ⟨0,by omega,rfl,by show Hid (FillS w _ w.heap.size n (mixJ (later1 xs) (zeroJ n) 1));rw [later_start hlx.out];exact s0⟩
 case round =>
  clear s0
  obtain ⟨j,hj,rfl,hS⟩:=hrel
  by_cases hlt:j<n
  ·obtain ⟨ad,x,rfl,hcx,hxr,_,hxx⟩:=(HX.out.below hS.out.low hh).at_ hlt
   by_cases hlt2:j+1<n
   ·obtain ⟨v,hcv,_,_,hfv⟩:=hS.out.cell hlt2
    have hat:=later_at hxx.out (by rw [hlx.out];exact hlt2)
    have hN:=hS.out.set (j+1) hxr
    rw [mixJ_set hll.out (zero_len n) hlt2 hat] at hN
    have HN:=hide hN
    clear hxx hat hN hS
    go_wp2_with fail
    go_roundw
    case rel=>exact ⟨j+1,by omega,by go_num,HN.out⟩
    case measure=>simp [intOf];omega
   ·have hN:=hS.out
    rw [mixJ_big hll.out (zero_len n) (by omega),← mixJ_big (j:=j+1+1) hll.out (zero_len n) (by omega)] at hN
    have HN:=hide hN
    clear hxx hN hS
    go_wp2_with fail
    go_roundw
    case rel=>exact ⟨j+1,by omega,by go_num,HN.out⟩
    case measure=>simp [intOf];omega
  ·obtain rfl:n=j:=by omega
   rw [mixJ_big hll.out (zero_len n) (by omega)] at hS
   go_wp2_with fail
   go_ret
   exact ⟨_,rfl,hS.out.done⟩
theorem take_snocJ {α:Type} {xs:List α} {k:Nat} {x:α} (hx:xs[k]? = some x):xs.take k++[x]=xs.take (k+1):=by
 rw [List.take_add_one,hx];rfl
theorem jplus_rng (xs ys:List Int) (k:Int):∀ z∈jplus xs ys k,0≤z∧z<1000000271:=tabJ_num fun j=>plusF_bd _ _
theorem jmul_rng (xs ys:List Int):∀ z∈jmul xs ys,0≤z∧z<1000000271:=tabJ_num fun j=>⟨Int.emod_nonneg _ (by omega),Int.emod_lt_of_pos _ (by omega)⟩
end Go.Proofs.YtomgcbfcnjbofaaGreat
/- The value of a polynomial at polynomials in h: the program's walk. -/
namespace Go.Proofs.YtomgcbfcnjbofaaGreat
open Go.RowKit
set_option linter.unusedSimpArgs false
set_option linter.unusedVariables false
set_option maxRecDepth 20000
theorem info_jet:(Tryz.prog.info? 77).map (fun i=>(i.zero,i.size,i.bytes))=some (some (.slice none 0 0),1,24):=by kernel_rfl
theorem made_one:madeCells #[Value.slice none 0 0] 1 = #[Value.slice none 0 0]:=by
 apply Array.ext'
 simp [madeCells,List.range_succ]
theorem make_jets (n:Nat) (hn:n≤1000) (W:World) :
  (Instr.makeSlice 73 (.int .i64 (n:Int)) (.int .i64 (n:Int))).run Tryz.prog W = .ok (.slice (some ⟨W.heap.size,0,none⟩) n n) (W.alloc (.cells (madeCells #[.slice none 0 0] n) 77)):=by
 obtain ⟨i0,hi0,hz0,hz1,hz2⟩:=info_parts info_jet
 have h:=run_make (P:=Tryz.prog) W 73 77 i0 (.slice none 0 0) Tryz.underlying73 hi0 hz0 .i64 .i64 n n (by omega) (by omega) (by rw [hz2];omega) (by omega)
 simp only [Int.toNat_natCast,hz1,Nat.mul_one] at h
 exact h
def JNum (n:Nat) (yss:List (List Int)):Prop:=∀ r∈yss,r.length=n∧∀ x∈r,0≤x∧x<1000000271
def GoodM (dim:Nat) (ms:List Mono):Prop:=∀ m∈ms,(0≤m.1∧m.1<1000000271)∧m.2.length=dim∧0≤degGo 0 m.2
structure NowS (w wr:World) (g11 gN go gj n:Nat) (co:Int) (Pw:Value) (o cur:List Int):Prop where
 mono:BlkN wr g11 #[.int .i64 co,Pw]
 now:BlkN wr gN #[.slice (some ⟨gj,0,none⟩) n n]
 out:Ints wr w.heap.size g11 (some ⟨go,0,none⟩) n n o
 cur:Ints wr (gN+1) wr.heap.size (some ⟨gj,0,none⟩) n n cur
 low:Below w.heap.size w wr
 ord:g11<gN∧w.heap.size≤g11
section
variable {w wr w':World} {g11 gN go gj n:Nat} {co:Int} {Pw:Value} {o cur:List Int}
theorem NowS.below (h:NowS w wr g11 gN go gj n co Pw o cur) (hb:Below wr.heap.size wr w'):NowS w w' g11 gN go gj n co Pw o cur:=by
 have hz:=h.low.size
 have hm:=h.mono.lt
 exact ⟨h.mono.below hb,h.now.below hb,h.out.below hb (by omega),(h.cur.below hb (Nat.le_refl _)).wide (Nat.le_refl _) hb.size,h.low.trans (hb.mono hz),h.ord⟩
theorem NowS.next (h:NowS w wr g11 gN go gj n co Pw o cur) (hb:Below wr.heap.size wr w') {gj2:Nat} {cur2:List Int} (hj:Ints w' wr.heap.size w'.heap.size (some ⟨gj2,0,none⟩) n n cur2) :
  NowS w (w'.setCell ⟨gN,0,none⟩ (.slice (some ⟨gj2,0,none⟩) n n)) g11 gN go gj2 n co Pw o cur2:=by
 have hz:=h.low.size
 have hm:=h.mono.lt
 have hn:=h.now.lt
 have ho:=h.ord
 have hs:(w'.setCell ⟨gN,0,none⟩ (.slice (some ⟨gj2,0,none⟩) n n)).heap.size=w'.heap.size:=by simp [World.setCell]
 have kV:=(h.now.below hb).set 0 (.slice (some ⟨gj2,0,none⟩) n n)
 simp only [List.setIfInBounds_toArray,List.set_cons_zero] at kV
 refine ⟨(h.mono.below hb).far (by omega) _,kV,(h.out.below hb (by omega)).same (Same.setCell (p:=⟨gN,0,none⟩) (Same.refl _ _ _) (.inr (by show g11≤gN;omega)) _),?_,(h.low.trans (hb.mono hz)).setCell (p:=⟨gN,0,none⟩) (by show w.heap.size≤gN;omega) _,ho⟩
 rw [hs]
 exact (hj.same (Same.setCell (p:=⟨gN,0,none⟩) (Same.refl _ _ _) (.inl (by show gN<wr.heap.size;omega)) _)).wide (by omega) (Nat.le_refl _)
end
theorem unit_set {n:Nat} (hn:0<n) (c:Int):(zeroJ n).set 0 c=unitJ n c:=by
 refine tabJ_eq (n:=n) (by simp [zeroJ]) (unit_len n c) fun j hj=>?_
 rw [unitJ,tabJ_get _ hj]
 by_cases h:j=0
 ·subst h
  rw [if_pos rfl,List.getD_eq_getElem?_getD,List.getElem?_set_self (by simp [zeroJ];omega)]
  rfl
 ·rw [if_neg h,List.getD_eq_getElem?_getD,List.getElem?_set_ne (by omega)]
  simp [zeroJ,hj]
theorem NowS.start {w wr:World} {go n:Nat} {co:Int} {Pw:Value} {o:List Int} (hn0:0<n) (hn:n≤1000) (hO:Ints wr w.heap.size wr.heap.size (some ⟨go,0,none⟩) n n o) (hb:Below w.heap.size w wr) (hc:R64 co) :
  NowS w ((((wr.alloc (.cells #[.int .i64 co,Pw] 67)).alloc (.cells #[.slice (some ⟨wr.heap.size+1+1,0,none⟩) n n] 77)).alloc (.cells (zeros n) 3)).setCell ⟨wr.heap.size+1+1,0,none⟩ (.int .i64 co)).drew wr.heap.size (wr.heap.size+1) go (wr.heap.size+1+1) n co Pw o (unitJ n co):=by
 have z1:(wr.alloc (.cells #[.int .i64 co,Pw] 67)).heap.size=wr.heap.size+1:=by simp
 have k1:=BlkN.new wr #[.int .i64 co,Pw] 67
 have b1:=below_alloc wr (.cells #[.int .i64 co,Pw] 67)
 generalize wr.alloc (.cells #[.int .i64 co,Pw] 67)=W1 at z1 k1 b1 ⊢
 have k2:=BlkN.new W1 #[.slice (some ⟨wr.heap.size+1+1,0,none⟩) n n] 77
 have b2:=below_alloc W1 (.cells #[.slice (some ⟨wr.heap.size+1+1,0,none⟩) n n] 77)
 have z2:(W1.alloc (.cells #[.slice (some ⟨wr.heap.size+1+1,0,none⟩) n n] 77)).heap.size=wr.heap.size+1+1:=by simp [z1]
 rw [z1] at k2
 generalize W1.alloc (.cells #[.slice (some ⟨wr.heap.size+1+1,0,none⟩) n n] 77)=W2 at z2 k2 b2 ⊢
 have f:=((FillS.start W2 n hn).set 0 hc).drew
 rw [z2,unit_set hn0] at f
 have b3:Below W2.heap.size W2 ((W2.alloc (.cells (zeros n) 3)).setCell ⟨wr.heap.size+1+1,0,none⟩ (.int .i64 co)).drew:=by
  have:=f.low
  exact this
 have bb:Below wr.heap.size wr ((W2.alloc (.cells (zeros n) 3)).setCell ⟨wr.heap.size+1+1,0,none⟩ (.int .i64 co)).drew:=b1.trans ((b2.mono (by omega)).trans (b3.mono (by omega)))
 exact ⟨(k1.below b2).below b3,k2.below b3,hO.below bb (Nat.le_refl _),(f.own.wide (lo':=wr.heap.size+1+1) (hi':=((W2.alloc (.cells (zeros n) 3)).setCell ⟨wr.heap.size+1+1,0,none⟩ (.int .i64 co)).drew.heap.size) (Nat.le_refl _) (by have:=(f.own.lt_size _ rfl).2;exact this)).ints,hb.trans (bb.mono hb.size),by omega,hb.size⟩
set_option maxRecDepth 100000 in
set_option maxHeartbeats 8000000 in
theorem impl_derived (P:Option Addr) (np cp:Nat) (ms:List Mono) (lo hi:Nat) (gy dim cy:Nat) (yss:List (List Int)) (lo2 hi2 n:Nat) (w:World) (hp:Mons w lo hi P np cp ms) (hy:Ints2 w lo2 hi2 (some ⟨gy,0,none⟩) dim cy yss) (hh:hi≤w.heap.size) (hh2:hi2≤w.heap.size)
  (hG:GoodM dim ms) (hN:JNum n yss) (hd0:0<dim) (hd6:dim≤6) (hn0:0<n) (hn:n≤1000) :
  Calls Tryz.prog 105 #[.slice P np cp,.slice (some ⟨gy,0,none⟩) dim cy,.slice none 0 0] w fun e w'=>∃ R cR,e = .returned (.slice R n cR)∧Ints w' w.heap.size w'.heap.size R n cR (polyJ n ms fun v=>yss.getD v [])∧Below w.heap.size w w':=by
 have hcp:=hp.cap
 have hmp:=hp.max
 have hcy:=hy.cap
 have hmy:=hy.max
 have HP:=hide hp
 have HY:=hide hy
 have HG:=hide hG
 have HN:=hide hN
 obtain ⟨ad,B0,m0,d0,y0,e,hc0,hI0,_,hx0⟩:=hy.at_ (k:=0) hd0
 injection e with e
 subst e
 obtain rfl:n=m0:=by rw [← hI0.len];exact ((hN y0 (List.mem_of_getElem? hx0.out)).1).symm
 have hcy0:w.cell? ⟨gy,0,none⟩=some (.slice B0 n d0):=by simpa [Addr.add_lit] using hc0
 have hcd0:=hI0.cap
 have hmd0:=hI0.max
 have hmk:=make_jet n hn
 have s0:=FillS.start w n hn
 have hs0:=hide (show Ints (w.alloc (.cells (zeros n) 3)) w.heap.size (w.alloc (.cells (zeros n) 3)).heap.size (some ⟨w.heap.size,0,none⟩) n n (zeroJ n) from s0.done.1.ints)
 have hb0:=hide s0.low
 clear hp hy hG hN hI0 hx0 hc0 s0
 go_enter Tryz.func105,Tryz.ntmps105
 go_wp2_with fail
 clear hcy0
 generalize w.alloc (.cells (zeros n) 3)=W at hs0 hb0 ⊢
 go_loopw [8,30] (fun p i wr=>∃ (k go:Nat) (o:List Int),k≤np∧i = .int .i64 k∧p = .slice (some ⟨go,0,none⟩) n n∧Hid (Ints wr w.heap.size wr.heap.size (some ⟨go,0,none⟩) n n o)∧Hid (Below w.heap.size w wr)∧Hid (polyJ n ms (fun v=>yss.getD v [])=derJ n (fun v=>yss.getD v []) (ms.drop k) o)) (fun _ i _=>np - (intOf i).toNat)
 case atStart=>exact ⟨0,_,zeroJ n,by omega,rfl,rfl,hs0.out,hb0.out,rfl⟩
 case round =>
  clear hs0 hb0
  obtain ⟨k,go,o,hk,rfl,rfl,hO,hb,hE⟩:=hrel
  have hsz:=hb.out.size
  by_cases hlt:k<np
  ·obtain ⟨ad,co,B,m,d,pw,rfl,hc1w,hc2w,hcr,hI,hdr,hat⟩:=HP.out.at_ hlt
   have hc1:=(hb.out.cell (p:=ad.add (k*2)) (World.block_lt_of_cell? w _ hc1w)).trans hc1w
   have hc2:=(hb.out.cell (p:=⟨(ad.add (k*2)).block,(ad.add (k*2)).off+1,none⟩) (World.block_lt_of_cell? w _ hc2w)).trans hc2w
   have hgm:=HG.out _ (List.mem_of_getElem? hat.out)
   simp only at hgm
   obtain rfl:dim=m:=by rw [← hI.len];exact hgm.2.1.symm
   have hE2:Hid (polyJ n ms (fun v=>yss.getD v [])=derJ n (fun v=>yss.getD v []) (ms.drop (k+1)) (jplus o (prodJ (fun v=>yss.getD v []) pw 0 (unitJ n co)) 1)):=by
    show _=_
    rw [hE.out,hdr.out,derJ,mono_coef hgm.1.1 hgm.1.2 _ _ _ hO.out.len]
   have hcm:=hI.cap
   have hmm:=hI.max
   have hdeg:=degGo_bd pw 0 (by omega)
   have hdg:¬ degGo 0 pw<0:=by have:=hgm.2.2;omega
   have ha1:=below_alloc wr (.cells #[.int .i64 co,.slice B dim d] 67)
   have hk1:=hide (BlkN.new wr #[.int .i64 co,.slice B dim d] 67)
   have HDG:=hide (impl_degree B dim d pw lo hi _ ((hI.below hb.out hh).below ha1 (by omega)) (by omega))
   have HI:=hide hI
   have HGM:=hide hgm
   have hmj:∀ W,(Instr.makeSlice 73 (.int .i64 1) (.int .i64 1)).run Tryz.prog W = .ok (.slice (some ⟨W.heap.size,0,none⟩) 1 1) (W.alloc (.cells #[.slice none 0 0] 77)):=fun W=>by
    have h:=make_jets 1 (by omega) W
    rw [show madeCells #[Value.slice none 0 0] 1 = #[Value.slice none 0 0] from made_one] at h
    exact h
   clear hE hdr hat hI hgm hc1w hc2w
   go_wp2_with (go_at_call 74;refine HDG.out.mono ?_;rintro e w' ⟨rfl,rfl⟩)
   refine wp_loop_rounds 2 ?_
   rw [rounds_succ]
   go_wp2_with fail
   rw [rounds_succ]
   go_wp2_with fail
   have hNS:=hide (NowS.start (Pw := .slice B dim d) hn0 hn hO.out hb.out hcr)
   have q0:=((((BlkN.new wr #[.int .i64 co,.slice B dim d] 67).alloc (.cells #[.slice (some ⟨wr.heap.size+1+1,0,none⟩) n n] 77)).alloc (.cells (zeros n) 3)).c 0 rfl)
   have q1:=((BlkN.new (wr.alloc (.cells #[.int .i64 co,.slice B dim d] 67)) #[.slice (some ⟨wr.heap.size+1+1,0,none⟩) n n] 77).alloc (.cells (zeros n) 3)).c 0 rfl
   have z1:(wr.alloc (.cells #[.int .i64 co,.slice B dim d] 67)).heap.size=wr.heap.size+1:=by simp
   rw [z1] at q1
   have f2:=FillS.start ((wr.alloc (.cells #[.int .i64 co,.slice B dim d] 67)).alloc (.cells #[.slice (some ⟨wr.heap.size+1+1,0,none⟩) n n] 77)) n hn
   have z2:((wr.alloc (.cells #[.int .i64 co,.slice B dim d] 67)).alloc (.cells #[.slice (some ⟨wr.heap.size+1+1,0,none⟩) n n] 77)).heap.size=wr.heap.size+1+1:=by simp
   rw [z2] at f2
   obtain ⟨v0,hv0,_,_,hfv⟩:=f2.cell hn0
   generalize (((wr.alloc (.cells #[.int .i64 co,.slice B dim d] 67)).alloc (.cells #[.slice (some ⟨wr.heap.size+1+1,0,none⟩) n n] 77)).alloc (.cells (zeros n) 3))=W3 at hNS q0 q1 hv0 hfv ⊢
   clear f2 z1 z2 ha1 hk1 hmj hO
   have q2:=hNS.out.mono.c 1 rfl
   refine still_tail 6 (by kernel_rfl) (by kernel_rfl) ?_
   simp only [List.take_succ_cons,List.take_zero,List.drop_succ_cons,List.drop_zero]
   iterate 6 still_step
   refine wpStill_nil ?_
   go_wp2_with fail
   have hkn:=hlt
   clear q0 q1 q2 hv0 hfv hc1 hc2 hb hlt
   obtain ⟨T,hT⟩:∃ T,T=prodJ (fun v=>yss.getD v []) pw 0 (unitJ n co):=⟨_,rfl⟩
   rw [← hT] at hE2
   have HT:=hide hT
   have hcn:Hid (∀ x∈unitJ n co,0≤x∧x<1000000271):=tabJ_num fun j=>by
    have:=HGM.out.1
    split <;> omega
   clear hT
   have hgg:Hid (wr.heap.size=wr.heap.size):=rfl
   generalize wr.heap.size=g11 at hNS hsz hgg ⊢
   generalize (W3.setCell ⟨g11+1+1,0,none⟩ (.int .i64 co)).drew=W4 at hNS ⊢
   go_loopw [62] (fun i wr3=>∃ (v gj:Nat) (cur:List Int),v≤dim∧i = .int .i64 v∧Hid (NowS w wr3 g11 (g11+1) go gj n co (.slice B dim d) o cur)∧Hid (∀ x∈cur,0≤x∧x<1000000271)∧Hid (T=prodJ (fun v=>yss.getD v []) (pw.drop v) v cur)) (fun i _=>dim - (intOf i).toNat)
   case atStart=>exact ⟨0,_,_,by omega,rfl,hNS.out,hcn.out,HT.out⟩
   case round =>
    clear hNS hcn HT
    obtain ⟨v,gj,cur,hv,rfl,hS,hcN,hT⟩:=hrel
    by_cases hlt:v<dim
    ·obtain ⟨bd,p,rfl,hcp1,hpr,hdp,hxp⟩:=(HI.out.below hS.out.low hh).at_ hlt
     obtain ⟨ae,Bv,mv,dv,yv,e,hcy,hIv,_,hxv⟩:=HY.out.at_ hlt
     injection e with e
     subst e
     have hyv:=HN.out yv (List.mem_of_getElem? hxv.out)
     obtain rfl:n=mv:=by rw [← hIv.len];exact hyv.1.symm
     have hcy1:w.cell? ⟨gy,v,none⟩=some (.slice Bv n dv):=by simpa [Addr.add_lit] using hcy
     have hgy:=World.block_lt_of_cell? w _ hcy1
     have HCY:=hide fun (w':World) (hB:Below w.heap.size w w')=>(hB.cell (p:=⟨gy,v,none⟩) hgy).trans hcy1
     have hyd:Hid (yss.getD v []=yv):=by show yss.getD v []=yv;rw [List.getD,hxv.out];rfl
     have hT2:Hid (T=prodJ (fun v=>yss.getD v []) (pw.drop (v+1)) (v+1) (powJ p.toNat cur yv)):=by
      show _=_
      rw [hT.out,hdp.out,prodJ,hyd.out]
     have HIV:=hide hIv
     have HYV:=hide hyv.2
     have hmv:=hIv.cap
     have hmv2:=hIv.max
     unfold R64 at hpr
     clear hT hdp hxp hcy hIv hxv hyv hcy1 hyd
     go_wp2_with fail
     clear hcp1
     go_loopw [15] (fun z wr4=>∃ (zi:Int) (gj:Nat) (cur:List Int),(-9223372036854775808≤zi∧zi≤9223372036854775807)∧z = .int .i64 zi∧Hid (NowS w wr4 g11 (g11+1) go gj n co (.slice (some bd) dim d) o cur)∧Hid (∀ x∈cur,0≤x∧x<1000000271)∧Hid (T=prodJ (fun v=>yss.getD v []) (pw.drop (v+1)) (v+1) (powJ zi.toNat cur yv))) (fun z _=>(intOf z).toNat)
     case atStart=>exact ⟨p,gj,cur,hpr,rfl,hS.out,hcN.out,hT2.out⟩
     case round =>
      clear hS hcN hT2
      obtain ⟨zi,gj,cur,hz,rfl,hS,hcN,hT⟩:=hrel
      have hszS:=hS.out.low.size
      by_cases hz0:0<zi
      ·obtain ⟨q,hq⟩:∃ q:Nat,zi.toNat=q+1:=⟨zi.toNat - 1,by omega⟩
       have hT2:Hid (T=prodJ (fun v=>yss.getD v []) (pw.drop (v+1)) (v+1) (powJ (zi - 1).toNat (jmul cur yv) yv)):=by
        show _=_
        rw [hT.out,hq,powJ,show (zi - 1).toNat=q by omega]
       have hw4:=HCY.out _ hS.out.low
       have hn4:=hS.out.now.c 0 rfl
       have hSd:=hide (hS.out.below ((Below.refl _ _).drew))
       have HTM:=hide (impl_times (some ⟨gj,0,none⟩) n n cur (g11+1+1) wr.drew.heap.size Bv dv yv lo2 hi2 wr.drew hSd.out.cur (HIV.out.below hSd.out.low hh2) (Nat.le_refl _) (by have:=hSd.out.low.size;omega) hn hcN.out HYV.out)
       clear hq hT
       go_wp2_with fail
       refine wp_loop_rounds 2 ?_
       rw [rounds_succ]
       go_wp2_with fail
       refine still_tail 8 (by kernel_rfl) (by kernel_rfl) ?_
       simp only [List.take_succ_cons,List.take_zero,List.drop_succ_cons,List.drop_zero]
       iterate 8 still_step
       refine wpStill_nil ?_
       go_wp2_with fail
       refine HTM.out.mono ?_
       rintro e w5 ⟨gj2,rfl,hO5,hb5⟩
       have hb6:Below wr.heap.size wr w5:=((Below.refl wr.heap.size wr).drew).trans hb5
       have hN5:=hide (hS.out.next hb6 (hO5.ints:Ints w5 wr.heap.size w5.heap.size (some ⟨gj2,0,none⟩) n n (jmul cur yv)))
       have hnow:=(hS.out.below hb6).now
       have c5:=hnow.c 0 rfl
       have f5:=hnow.f 0
       clear hS hSd HTM hO5 hb5 hb6 hnow hw4 hn4
       go_wp2_with fail
       refine wp_loop_rounds 1 ?_
       rw [rounds_succ]
       go_wp2_with fail
       clear c5 f5
       rw [rounds_succ]
       go_wp2_with fail
       go_roundw
       case rel=>exact ⟨zi - 1,gj2,_,by omega,by go_num,hN5.out,jmul_rng _ _,hT2.out⟩
       case measure=>simp [intOf];omega
      ·have hT2:Hid (T=prodJ (fun v=>yss.getD v []) (pw.drop (v+1)) (v+1) cur):=by
        show _=_
        rw [hT.out,show zi.toNat=0 by omega,powJ]
       clear hT
       go_wp2_with fail
       go_roundw
       case rel=>exact ⟨v+1,gj,cur,by omega,by go_num,hS.out,hcN.out,hT2.out⟩
       case measure=>simp [intOf];omega
    ·obtain rfl:dim=v:=by omega
     have hTc:Hid (T=cur):=by
      show _=_
      rw [hT.out,List.drop_eq_nil_of_le (Nat.le_of_eq HI.out.len),prodJ]
     rw [hTc.out] at hE2
     have n0:=hS.out.now.c 0 rfl
     have HPL:=hide (impl_plus (some ⟨go,0,none⟩) n n o w.heap.size g11 (some ⟨gj,0,none⟩) n cur (g11+1+1) wr.heap.size 1 wr hS.out.out hS.out.cur (by have:=hS.out.mono.lt;omega) (Nat.le_refl _) hn (by constructor <;> omega))
     have hlow:=hide hS.out.low
     have hszS:=hS.out.low.size
     clear hT hTc hS hcN
     go_wp2_with (go_at_call 51;refine HPL.out.mono ?_;rintro e w6 ⟨gR,rfl,hO6,hb6⟩;have hI6:=hide (hO6.ints.wide (lo':=w.heap.size) hszS (Nat.le_refl _));have hb7:=hide (hlow.out.trans (hb6.mono hszS));clear hO6 hb6)
     refine ⟨⟨k+1,gR,_,by omega,by go_num,rfl,hI6.out,hb7.out,hE2.out⟩,?_⟩
     simp [intOf];omega
  ·obtain rfl:k=np:=by omega
   rw [List.drop_eq_nil_of_le (Nat.le_of_eq HP.out.len),derJ] at hE
   go_wp2_with fail
   go_ret
   exact ⟨_,_,rfl,by rw [hE.out];exact hO.out,hb.out⟩
end Go.Proofs.YtomgcbfcnjbofaaGreat
