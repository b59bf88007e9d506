/- A row of monomials of the call's own while it is put in order: what it holds, exchanges, and the comparing closure. -/
import Derived.Test.YtomgcbfcnjbofaaGreatMgF
import Derived.WalkSpells
import Derived.BigRegion
import Derived.Test.YtomgcbfcnjbofaaGreatMgH
namespace Go.Proofs.YtomgcbfcnjbofaaGreat
open Go.RowKit
set_option linter.unusedSimpArgs false
set_option linter.unusedVariables false
set_option maxRecDepth 20000
structure El where
 x:Int
 B:Option Addr
 m:Nat
 d:Nat
 xs:List Int
def El.cells (e:El):List Value:=[.int .i64 e.x,.slice e.B e.m e.d]
def El.agg (e:El):Value := .agg #[.int .i64 e.x,.slice e.B e.m e.d]
def El.mono (e:El):Mono:=(e.x,e.xs)
instance:Inhabited El:=⟨⟨0,none,0,0,[]⟩⟩
theorem elc_len (es:List El):(es.flatMap El.cells).length=es.length*2:=by
 induction es with
 | nil=>rfl
 | cons m r ih=>rw [List.flatMap_cons,List.length_append,ih,List.length_cons,show m.cells.length=2 from rfl];omega
theorem elc_at (es:List El):∀ (j:Nat) (e:El),es[j]? = some e→(es.flatMap El.cells)[j*2]? = some (.int .i64 e.x)∧(es.flatMap El.cells)[j*2+1]? = some (.slice e.B e.m e.d):=by
 induction es with
 | nil=>intro j m h;simp at h
 | cons q r ih =>
  intro j m h
  cases j with
  | zero =>
   simp at h
   subst h
   simp [List.flatMap_cons,El.cells]
  | succ j =>
   have:=ih j m (by simpa using h)
   rw [List.flatMap_cons,show (j+1)*2=2+j*2 from by omega,show 2+j*2+1=2+(j*2+1) from by omega]
   rw [show q.cells=[.int .i64 q.x,.slice q.B q.m q.d] from rfl]
   rw [List.getElem?_append_right (by simp),List.getElem?_append_right (by simp)]
   simpa using this
theorem elc_set (es:List El):∀ (j:Nat) (e:El),j<es.length→((es.flatMap El.cells).set (j*2) (.int .i64 e.x)).set (j*2+1) (.slice e.B e.m e.d)=(es.set j e).flatMap El.cells:=by
 induction es with
 | nil=>intro j e h;simp at h
 | cons q r ih =>
  intro j e h
  cases j with
  | zero=>simp [List.flatMap_cons,El.cells]
  | succ j =>
   have:=ih j e (by simpa using h)
   rw [List.flatMap_cons,List.set_cons_succ,List.flatMap_cons,← this,show (j+1)*2=(j*2+1)+1 from by omega]
   simp [El.cells]
theorem elc_one (es:List El):∀ u∈es.flatMap El.cells,u.oneCell'=true:=by
 intro u hu
 simp only [List.mem_flatMap,El.cells] at hu
 obtain ⟨m,_,hm⟩:=hu
 rcases List.mem_cons.1 hm with rfl | hm
 ·rfl
 ·rw [List.mem_singleton] at hm
  rw [hm];rfl
def PowR (W:World) (g:Nat) (e:El):Prop:=∃ l h,Ints W l h e.B e.m e.d e.xs∧(h≤g∨g<l)∧h≤W.heap.size
theorem PowR.same {W W':World} {g:Nat} {e:El} (h:PowR W g e) (hs:W.heap.size≤W'.heap.size) (hb:∀ k,k<W.heap.size→k≠g→W'.heap[k]? = W.heap[k]?):PowR W' g e:=by
 obtain ⟨l,h,hI,hg,hw⟩:=h
 exact ⟨l,h,hI.same (fun k h1 h2=>hb k (by omega) (by omega)),hg,by omega⟩
structure SortC (w W:World) (lo g n c:Nat) (es:List El):Prop where
 own:W.ownsRow lo 67 2 (.slice (some ⟨g,0,none⟩) n c) n (es.flatMap El.cells)
 len:es.length=n
 pow:∀ e∈es,PowR W g e∧R64 e.x
 chg:Touch g (g+1) w W
section
variable {w W W':World} {lo g n c:Nat} {es:List El}
theorem SortC.glt (h:SortC w W lo g n c es):g<W.heap.size:=(h.own.lt g rfl).2
theorem SortC.below (h:SortC w W lo g n c es) (hb:Below W.heap.size W W'):SortC w W' lo g n c es :=
 ⟨owns_below h.own hb (fun ad e=>by injection e with e;subst e;exact h.glt),h.len,fun e he=>⟨(h.pow e he).1.same hb.size (fun k hk _=>hb.block k hk),(h.pow e he).2⟩,h.chg.trans (.of_below hb)⟩
theorem SortC.drew (h:SortC w W lo g n c es):SortC w W.drew lo g n c es:=h.below ((Below.refl _ _).drew)
theorem SortC.capb (h:SortC w W lo g n c es):n≤c∧c≤9223372036854775807:=by
 rcases h.own.2 with ⟨e,rfl⟩ | ⟨g',cap,cur,e,_,_,h1,h2,_⟩
 ·injection e;omega
 ·injection e with _ _ e3;unfold maxLen at h2;omega
theorem SortC.at_ (h:SortC w W lo g n c es) {k:Nat} (hk:k<n):∃ e,Hid (es[k]? = some e)∧W.cell? ⟨g,k*2,none⟩=some (.int .i64 e.x)∧W.cell? ⟨g,k*2+1,none⟩=some (.slice e.B e.m e.d)∧W.frozen? ⟨g,k*2,none⟩=false∧W.frozen? ⟨g,k*2+1,none⟩=false∧Hid (PowR W g e):=by
 have hl:=h.len
 have he:es[k]? = some es[k]:=List.getElem?_eq_getElem (by omega)
 have hc:=elc_at es k _ he
 exact ⟨_,he,(h.own.cellAt (k*2) (by omega)).trans hc.1,(h.own.cellAt (k*2+1) (by omega)).trans hc.2,h.own.frozenAt _,h.own.frozenAt _,(h.pow _ (List.getElem_mem _)).1⟩
theorem SortC.set (h:SortC w W lo g n c es) {k:Nat} (hk:k<n) (e:El) (he:PowR W g e∧R64 e.x) :
  SortC w ((W.setCell ⟨g,k*2,none⟩ (.int .i64 e.x)).setCell ⟨g,k*2+1,none⟩ (.slice e.B e.m e.d)) lo g n c (es.set k e):=by
 have hl:=h.len
 have t1:=h.own.stored (k*2) (.int .i64 e.x)
 have t2:=t1.1.stored (k*2+1) (.slice e.B e.m e.d)
 rw [elc_set es k e (by omega)] at t2
 have hsz:((W.setCell ⟨g,k*2,none⟩ (.int .i64 e.x)).setCell ⟨g,k*2+1,none⟩ (.slice e.B e.m e.d)).heap.size=W.heap.size:=by simp [World.setCell]
 have hbl:∀ q,q≠g→((W.setCell ⟨g,k*2,none⟩ (.int .i64 e.x)).setCell ⟨g,k*2+1,none⟩ (.slice e.B e.m e.d)).heap[q]? = W.heap[q]? := fun q hq =>
  (Below.heap_setCell _ _ _ _ hq).trans (Below.heap_setCell _ _ _ _ hq)
 refine ⟨t2.1,by simpa using hl,fun e' he'=>?_,(h.chg.setCell (.inl ⟨Nat.le_refl _,Nat.lt_succ_self _⟩) _).setCell (.inl ⟨Nat.le_refl _,Nat.lt_succ_self _⟩) _⟩
 have hp:PowR W g e'∧R64 e'.x:=by
  rcases List.mem_or_eq_of_mem_set he' with h1 | h1
  ·exact h.pow e' h1
  ·rw [h1];exact he
 exact ⟨hp.1.same (by omega) (fun q hq hne=>hbl q hne),hp.2⟩
end
theorem perm_swap {es:List El} {i j:Nat} {a b:El} (ha:es[i]? = some a) (hb:es[j]? = some b):((es.set i b).set j a).Perm es:=by
 obtain ⟨hi,rfl⟩:=List.getElem?_eq_some_iff.1 ha
 obtain ⟨hj,rfl⟩:=List.getElem?_eq_some_iff.1 hb
 exact List.set_set_perm hi hj
theorem SortC.swap {w W:World} {lo g n c:Nat} {es:List El} (h:SortC w W lo g n c es) {i j:Nat} (hi:i<n) (hj:j<n) {a b:El} (ha:es[i]? = some a) (hb:es[j]? = some b) :
  SortC w ((((W.setCell ⟨g,i*2,none⟩ (.int .i64 b.x)).setCell ⟨g,i*2+1,none⟩ (.slice b.B b.m b.d)).setCell ⟨g,j*2,none⟩ (.int .i64 a.x)).setCell ⟨g,j*2+1,none⟩ (.slice a.B a.m a.d)) lo g n c ((es.set i b).set j a):=by
 have h1:=h.set hi b (h.pow b (List.mem_of_getElem? hb))
 refine h1.set hj a ?_
 have ha2:=h.pow a (List.mem_of_getElem? ha)
 refine ⟨ha2.1.same (by simp [World.setCell]) (fun q _ hq=>?_),ha2.2⟩
 exact (Below.heap_setCell _ _ _ _ hq).trans (Below.heap_setCell _ _ _ _ hq)
theorem SortC.mem {w W:World} {lo g n c:Nat} {es:List El} (h:SortC w W lo g n c es) {k:Nat} {e:El} (he:es[k]? = some e):PowR W g e:=(h.pow e (List.mem_of_getElem? he)).1
theorem cmpF_bd:∀ (a b:List Int),-1≤cmpF a b∧cmpF a b≤1
 | [],[]=>by simp [cmpF]
 | [],_ :: _=>by simp [cmpF]
 | _ :: _,[]=>by simp [cmpF]
 | a :: x,b :: y=>by
  rw [cmpF]
  split
  ·unfold cmpI;split
   ·omega
   ·split <;> omega
  ·exact cmpF_bd x y
theorem collect_cmp (x1:Int) (B1:Option Addr) (m1 d1:Nat) (xs1:List Int) (x2:Int) (B2:Option Addr) (m2 d2:Nat) (xs2:List Int) (g:Nat) (W:World) (h1:PowR W g ⟨x1,B1,m1,d1,xs1⟩) (h2:PowR W g ⟨x2,B2,m2,d2,xs2⟩) :
  Calls Tryz.prog 78 #[.agg #[.int .i64 x1,.slice B1 m1 d1],.agg #[.int .i64 x2,.slice B2 m2 d2]] W fun r W'=>∃ z:Int,r = .returned (.int .i64 z)∧R64 z∧Below W.heap.size W W':=by
 obtain ⟨l1,q1,I1,_,s1⟩:=h1
 obtain ⟨l2,q2,I2,_,s2⟩:=h2
 have c1:=I1.cap
 have c2:=I1.max
 have c3:=I2.cap
 have c4:=I2.max
 have H1:=hide I1
 have H2:=hide I2
 clear I1 I2
 go_enter Tryz.func78,Tryz.ntmps78
 go_wp2_with fail
 refine (slices_Compare B2 m2 d2 xs2 l2 q2 B1 m1 d1 xs1 l1 q1 _ (H2.out.below (B:=W.heap.size) (by (repeat (first | with_reducible exact Below.refl _ _ | with_reducible exact Below.refl _ _ | with_reducible refine Below.drew ?_ | ((with_reducible refine Below.alloc ?_ ?_ _);rotate_left;· first | omega | (simp [World.setCell];done) | (simp [World.setCell];omega)) | ((with_reducible refine Below.setCell ?_ ?_ _);rotate_left;· first | exact Nat.le_refl _ | omega | (simp;done) | (simp;omega))))) s2) (H1.out.below (B:=W.heap.size) (by (repeat (first | with_reducible exact Below.refl _ _ | with_reducible exact Below.refl _ _ | with_reducible refine Below.drew ?_ | ((with_reducible refine Below.alloc ?_ ?_ _);rotate_left;· first | omega | (simp [World.setCell];done) | (simp [World.setCell];omega)) | ((with_reducible refine Below.setCell ?_ ?_ _);rotate_left;· first | exact Nat.le_refl _ | omega | (simp;done) | (simp;omega))))) s1)).mono ?_
 rintro e w1 ⟨rfl,rfl⟩
 go_wp2_with fail
 go_ret
 have hb:=cmpF_bd xs2 xs1
 exact ⟨_,rfl,⟨by omega,by omega⟩,by (repeat (first | with_reducible exact Below.refl _ _ | with_reducible exact Below.refl _ _ | with_reducible refine Below.drew ?_ | ((with_reducible refine Below.alloc ?_ ?_ _);rotate_left;· first | omega | (simp [World.setCell];done) | (simp [World.setCell];omega)) | ((with_reducible refine Below.setCell ?_ ?_ _);rotate_left;· first | exact Nat.le_refl _ | omega | (simp;done) | (simp;omega))))⟩
set_option maxHeartbeats 4000000 in
theorem lib_swapRange (w W:World) (lo g n c:Nat) (es:List El) (h:SortC w W lo g n c es) (a b k:Nat) (hab:a+k≤b) (hb:b+k≤n) (cl:Value) :
  Calls Tryz.prog 123 #[.slice (some ⟨g,0,none⟩) n c,.int .i64 a,.int .i64 b,.int .i64 k,cl] W fun r W'=>r = .returned (.tuple #[])∧∃ es',List.Perm es' es∧SortC w W' lo g n c es':=by
 have hcb:=h.capb
 have HS:=hide h
 clear h
 go_enter Tryz.func123,Tryz.ntmps123
 go_wp2_with fail
 go_loopw [10] (fun i wr=>∃ (j:Nat) (es':List El),j≤k∧i = .int .i64 j∧Hid (List.Perm es' es)∧Hid (SortC w wr lo g n c es')) (fun i _=>k - (intOf i).toNat)
 case atStart=>exact ⟨0,es,by omega,rfl,List.Perm.refl _,HS.out⟩
 case round =>
  clear HS
  obtain ⟨j,es',hj,rfl,hP,hS⟩:=hrel
  by_cases hlt:j<k
  ·have hw0:IntKind.i64.wrap ((a:Int)+(j:Int))=((a+j:Nat):Int):=by rw [show ((a+j:Nat):Int)=(a:Int)+j by simp];exact IntWalk.i64_in _ (by omega)
   have hw1:IntKind.i64.wrap ((b:Int)+(j:Int))=((b+j:Nat):Int):=by rw [show ((b+j:Nat):Int)=(b:Int)+j by simp];exact IntWalk.i64_in _ (by omega)
   obtain ⟨p,hp⟩:∃ p,p=a+j:=⟨_,rfl⟩
   obtain ⟨q,hq⟩:∃ q,q=b+j:=⟨_,rfl⟩
   rw [← hp] at hw0
   rw [← hq] at hw1
   have hpn:p<n:=by omega
   have hqn:q<n:=by omega
   have hpq:p<q:=by omega
   obtain ⟨e1,he1,c1,c2,f1,f2,_⟩:=hS.out.at_ hpn
   obtain ⟨e2,he2,c3,c4,f3,f4,_⟩:=hS.out.at_ hqn
   have n1:¬ p*2=q*2:=by omega
   have n2:¬ p*2=q*2+1:=by omega
   have n3:¬ p*2+1=q*2:=by omega
   have n4:¬ p*2+1=q*2+1:=by omega
   have g1:=hide (hS.out.swap hpn hqn he1.out he2.out).drew
   have g2:Hid (List.Perm ((es'.set p e2).set q e1) es):=(perm_swap he1.out he2.out).trans hP.out
   clear he1 he2 hS hP hp hq
   go_wp2_with fail
   go_region
   go_wp2_with fail
   go_roundw
   case rel=>exact ⟨j+1,_,by omega,by go_num,g2.out,g1.out⟩
   case measure=>simp [intOf];omega
  ·go_wp2_with fail
   go_end0
   exact ⟨rfl,es',hP.out,hS.out⟩
end Go.Proofs.YtomgcbfcnjbofaaGreat
/- Rows of monomials under construction: elements with powers of their own; copies of powers. -/
namespace Go.Proofs.YtomgcbfcnjbofaaGreat
open Go.RowKit
set_option linter.unusedSimpArgs false
set_option linter.unusedVariables false
set_option maxRecDepth 20000
theorem Ints.src {w:World} {lo hi:Nat} {A:Option Addr} {n c:Nat} {xs:List Int} (h:Ints w lo hi A n c xs):∀ ad,A=some ad→∀ j u,(xs.map (Value.int .i64))[j]? = some u→w.cell? (ad.add j)=some u:=by
 intro ad e j u hu
 rw [List.getElem?_map] at hu
 cases hx:xs[j]? with
 | none=>rw [hx] at hu;cases hu
 | some x =>
  rw [hx] at hu
  injection hu with hu
  subst hu
  have hn:0<n:=by
   have:=(List.getElem?_eq_some_iff.1 hx).1
   have:=h.len
   omega
  obtain ⟨ad',e',_,_,hc⟩:=h.cells hn
  obtain rfl:ad=ad':=by rw [e] at e';injection e'
  exact hc j x hx
set_option maxHeartbeats 1000000 in
theorem slices_Clone (A:Option Addr) (n c:Nat) (xs:List Int) (lo hi:Nat) (w:World) (h:Ints w lo hi A n c xs) (hh:hi≤w.heap.size) (hn:n≤1048576) :
  Calls Tryz.prog 43 #[.slice A n c] w fun e w'=>∃ A' c',e = .returned (.slice A' n c')∧OwnI w' w.heap.size w'.heap.size A' n c' xs∧Below w.heap.size w w':=by
 obtain ⟨i0,hi0,hz0,hz1,hz2⟩:=info_parts info_int
 have heq:=fun W:World=>Lib.run_eql_slice_nil (P:=Tryz.prog) W 24 3 A n c 0 0 Tryz.underlying24
 cases A with
 | none =>
  have hn0:n=0:=by
   rcases Nat.eq_zero_or_pos n with h0 | h0
   ·exact h0
   ·obtain ⟨ad,e,_⟩:=h.cells h0
    cases e
  subst hn0
  have hms:xs=[]:=List.eq_nil_of_length_eq_zero h.len
  go_enter Tryz.func43,Tryz.ntmps43
  go_wp2_with fail
  go_ret
  subst hms
  exact ⟨_,_,rfl,OwnI.nil_ _ _ _,Below.refl _ _⟩
 | some ad =>
  have hown:(w.alloc (.cells #[] 3)).ownsRow w.heap.size 3 1 (.slice (some ⟨w.heap.size,0,none⟩) 0 0) 0 []:=by
   simpa using World.ownsRow_lit (size:=1) (e:=3) w #[] 0 (Nat.le_refl _) (by unfold maxLen;omega) rfl
  have h2:=hide ((h.below (below_alloc w (.cells #[] 3)) hh).src)
  have hl:=hide h.len
  have hr:=hide h.rng
  go_enter Tryz.func43,Tryz.ntmps43
  go_wp2_with (at_builtin;refine wpl_app rfl (.tmp 5) (.tmp 6) 24 rfl _ w.heap.size 3 i0 (.int .i64 0) 1 8 Tryz.underlying24 hi0 hz0 hz1 hz2 rfl (by omega) (some ⟨w.heap.size,0,none⟩) 0 0 [] rfl hown (some ad) n c (xs.map (Value.int .i64)) rfl (by simp [hl.out]) (fun ad' e=>h2.out ad' e) (fun e=>by cases e) (by intro u hu;obtain ⟨x,_,rfl⟩:=List.mem_map.1 hu;rfl) (by omega) (by omega) (by simp) ?_;intro A2 c2 w2 happ)
  have e:0+n=n:=by omega
  rw [e] at happ
  have h3:=happ.1
  rw [List.nil_append] at h3
  have hb:Below w.heap.size w w2:=happ.below (below_alloc w _) (by simp) (by intro ad e;cases e;exact Nat.le_refl _)
  clear happ
  go_wp2_with fail
  go_ret
  exact ⟨_,_,rfl,⟨h3,fun ad e=>(owns_lt h3 ad e).2,hr.out⟩,hb⟩
structure LstE (w:World) (lo hi:Nat) (A:Option Addr) (n c:Nat) (es:List El):Prop where
 own:w.ownsRow lo 67 2 (.slice A n c) n (es.flatMap El.cells)
 lt:∀ ad,A=some ad→ad.block<hi
 len:es.length=n
 row:∀ e∈es,R64 e.x∧∃ l h,lo≤l∧h≤hi∧Ints w l h e.B e.m e.d e.xs∧∀ ad,A=some ad→h≤ad.block∨ad.block<l
section
variable {w w':World} {lo hi:Nat} {A:Option Addr} {n c:Nat} {es:List El}
theorem LstE.capb (h:LstE w lo hi A n c es):n≤c∧c≤9223372036854775807:=by
 rcases h.own.2 with ⟨e,rfl⟩ | ⟨g,cap,cur,e,_,_,h1,h2,_⟩
 ·injection e;omega
 ·injection e with _ _ e3;unfold maxLen at h2;omega
theorem LstE.nil_cap (h:LstE w lo hi A n c es):A=none→n=0∧c=0:=by
 rintro rfl
 rcases h.own.2 with ⟨e,e2⟩ | ⟨g,cap,cur,e,_⟩
 ·injection e with _ _ e3
  exact ⟨e2,e3⟩
 ·injection e with e
  cases e
theorem LstE.form (h:LstE w lo hi A n c es) (hn:0<n):∃ g,A=some ⟨g,0,none⟩∧lo≤g∧g<hi∧g<w.heap.size:=by
 rcases h.own.2 with ⟨_,e⟩ | ⟨g,_,_,e,h1,h2,_⟩
 ·omega
 ·injection e with e
  exact ⟨g,e,h1,h.lt _ e,(Array.getElem?_eq_some_iff.1 h2).1⟩
theorem LstE.below (h:LstE w lo hi A n c es) {B:Nat} (hb:Below B w w') (hB:hi≤B):LstE w' lo hi A n c es :=
 ⟨owns_below h.own hb fun ad e=>by have:=h.lt ad e;omega,h.lt,h.len,fun e he=>by
  obtain ⟨r,l,q,e1,e2,e3,e4⟩:=h.row e he
  exact ⟨r,l,q,e1,e2,e3.same (.of_below hb (by omega)),e4⟩⟩
theorem LstE.wide (h:LstE w lo hi A n c es) {hi2:Nat} (h2:hi≤hi2):LstE w lo hi2 A n c es :=
 ⟨h.own,fun ad e=>by have:=h.lt ad e;omega,h.len,fun e he=>by
  obtain ⟨r,l,q,e1,e2,e3,e4⟩:=h.row e he
  exact ⟨r,l,q,e1,by omega,e3,e4⟩⟩
theorem LstE.empty (w:World) (lo:Nat) (h:lo≤w.heap.size):LstE (w.alloc (.cells #[] 67)) lo (w.heap.size+1) (some ⟨w.heap.size,0,none⟩) 0 0 [] :=
 ⟨by simpa using World.ownsRow_lit (size:=2) (e:=67) w #[] 0 h (by unfold maxLen;omega) (by simp),fun ad e=>by injection e with e;subst e;exact Nat.lt_succ_self _,rfl,by simp⟩
theorem LstE.keep (h:LstE w lo hi A n c es) (hhi:hi≤w.heap.size) {A':Option Addr} {m c':Nat} {xs:List Value} (hap:Appended w lo 67 2 A n c A' m c' xs w') :
  ∀ (l q:Nat),q≤w.heap.size→(∀ ad,A=some ad→q≤ad.block∨ad.block<l)→Same l q w w'∧∀ ad,A'=some ad→q≤ad.block∨ad.block<l:=by
 obtain ⟨h1,h2,h3⟩:=hap
 intro l q hw hA
 refine ⟨fun k hk1 hk2=>h2.block k (by omega) fun e=>?_,fun ad e=>?_⟩
 ·obtain ⟨ad,e1,e2⟩:=ownBlock_eq.1 e.symm
  have:=hA ad e1
  omega
 ·rcases h3 with h3 | h3
  ·exact hA ad (h3 ad e)
  ·exact .inl (by have:=h3 ad e;omega)
theorem LstE.cat (h:LstE w lo hi A n c es) {l q:Nat} {fs:List El} (hf:∀ e∈fs,R64 e.x∧Ints w l q e.B e.m e.d e.xs) (hl:hi≤l) (hq:q≤w.heap.size) (hlo:lo≤hi) (hhi:hi≤w.heap.size) {A':Option Addr} {c':Nat}
  (hap:Appended w lo 67 2 A n c A' (n+fs.length) c' (es.flatMap El.cells++fs.flatMap El.cells) w'):LstE w' lo w'.heap.size A' (n+fs.length) c' (es++fs):=by
 have kp:=h.keep hhi hap
 obtain ⟨h1,h2,h3⟩:=hap
 have hsz:=h2.size
 refine ⟨by rw [List.flatMap_append];exact h1,fun ad e=>(owns_lt h1 ad e).2,by simp [h.len],fun e he=>?_⟩
 rcases List.mem_append.1 he with he | he
 ·obtain ⟨r,l1,q1,e1,e2,e3,e4⟩:=h.row e he
  have kk:=kp l1 q1 (by omega) e4
  exact ⟨r,l1,q1,e1,by omega,e3.same kk.1,kk.2⟩
 ·obtain ⟨r,hI⟩:=hf e he
  have kk:=kp l q hq (fun ad e => .inr (by have:=h.lt ad e;omega))
  exact ⟨r,l,q,by omega,by omega,hI.same kk.1,kk.2⟩
theorem LstE.push (h:LstE w lo hi A n c es) {l q:Nat} {e:El} (hr:R64 e.x) (hI:Ints w l q e.B e.m e.d e.xs) (hl:hi≤l) (hq:q≤w.heap.size) (hlo:lo≤hi) (hhi:hi≤w.heap.size) {A':Option Addr} {c':Nat}
  (hap:Appended w lo 67 2 A n c A' (n+1) c' (es.flatMap El.cells++e.cells) w'):LstE w' lo w'.heap.size A' (n+1) c' (es++[e]):=by
 refine h.cat (fs:=[e]) (l:=l) (q:=q) (fun e' he=>?_) hl hq hlo hhi (by simpa using hap)
 obtain rfl:e'=e:=by simpa using he
 exact ⟨hr,hI⟩
theorem LstE.mons (h:LstE w lo hi A n c es):Mons w lo hi A n c (es.map El.mono):=by
 have hc:=h.capb
 refine ⟨by simpa using h.len,hc.1,hc.2,fun hn=>?_⟩
 obtain ⟨g,rfl,h1,h2,_⟩:=h.form hn
 refine ⟨_,rfl,h1,h2,fun j m hm=>?_⟩
 rw [List.getElem?_map] at hm
 cases he:es[j]? with
 | none=>rw [he] at hm;cases hm
 | some e =>
  rw [he] at hm
  injection hm with hm
  subst hm
  have hj:=(List.getElem?_eq_some_iff.1 he).1
  have hl:=h.len
  obtain ⟨c1,c2⟩:=elc_at es j e he
  obtain ⟨r,l,q,e1,e2,e3,_⟩:=h.row e (List.mem_of_getElem? he)
  have k1:=(h.own.cellAt (j*2) (by omega)).trans c1
  have k2:=(h.own.cellAt (j*2+1) (by omega)).trans c2
  refine ⟨by show w.cell? _=some (.int .i64 e.x);simpa [Addr.add_lit] using k1,r,e.B,e.m,e.d,?_,e3.wide e1 e2⟩
  rw [Addr.add_lit]
  simpa using k2
theorem LstE.sort {g:Nat} (h:LstE w lo hi (some ⟨g,0,none⟩) n c es) (hh:hi≤w.heap.size):SortC w w lo g n c es :=
 ⟨h.own,h.len,fun e he=>by
  obtain ⟨r,l,q,e1,e2,e3,e4⟩:=h.row e he
  exact ⟨⟨l,q,e3,e4 _ rfl,by omega⟩,r⟩,.refl _ _ _⟩
end
theorem Mons.els {w:World} {lo hi:Nat} {A:Option Addr} {n c:Nat} {ms:List Mono} (h:Mons w lo hi A n c ms):∃ es:List El,es.map El.mono=ms∧(∀ e∈es,R64 e.x∧Ints w lo hi e.B e.m e.d e.xs)∧∀ ad,A=some ad→∀ j u,(es.flatMap El.cells)[j]? = some u→w.cell? (ad.add j)=some u:=by
 rcases Nat.eq_zero_or_pos n with h0 | h0
 ·have hms:ms=[]:=List.eq_nil_of_length_eq_zero (by rw [h.len,h0])
  exact ⟨[],by simp [hms],by simp,by simp⟩
 ·obtain ⟨ad,rfl,h1,h2,hc⟩:=h.cells h0
  have key:∀ (k:Nat) (r:List Mono),ms.drop k=r→∃ es:List El,es.map El.mono=r∧(∀ e∈es,R64 e.x∧Ints w lo hi e.B e.m e.d e.xs)∧∀ j e,es[j]? = some e→w.cell? (ad.add ((k+j)*2))=some (.int .i64 e.x)∧w.cell? ⟨(ad.add ((k+j)*2)).block,(ad.add ((k+j)*2)).off+1,none⟩=some (.slice e.B e.m e.d):=by
   intro k r
   induction r generalizing k with
   | nil=>exact fun _=>⟨[],rfl,by simp,by simp⟩
   | cons m r ih =>
    intro hd
    have hm:ms[k]? = some m:=by
     have:=congrArg List.head? hd
     rw [List.head?_drop] at this
     simpa using this
    have hd2:ms.drop (k+1)=r:=by
     have:=congrArg List.tail hd
     rw [List.tail_drop] at this
     simpa using this
    obtain ⟨es,e1,e2,e3⟩:=ih (k+1) hd2
    obtain ⟨c1,r1,B,kk,d,c2,hI⟩:=hc k m hm
    refine ⟨⟨m.1,B,kk,d,m.2⟩ :: es,by rw [List.map_cons,e1];rfl,fun e he=>?_,fun j e he=>?_⟩
    ·rcases List.mem_cons.1 he with rfl | he
     ·exact ⟨r1,hI⟩
     ·exact e2 e he
    ·cases j with
     | zero =>
      simp at he
      subst he
      exact ⟨c1,c2⟩
     | succ j =>
      have:=e3 j e (by simpa using he)
      rw [show k+1+j=k+(j+1) by omega] at this
      exact this
  obtain ⟨es,e1,e2,e3⟩:=key 0 ms (by simp)
  refine ⟨es,e1,e2,fun ad' e j u hu=>?_⟩
  injection e with e
  subst e
  have hj:j<es.length*2:=by
   have:=(List.getElem?_eq_some_iff.1 hu).1
   rwa [elc_len] at this
  obtain ⟨e,he⟩:∃ e,es[j / 2]? = some e:=⟨_,List.getElem?_eq_getElem (by omega)⟩
  obtain ⟨c1,c2⟩:=elc_at es (j / 2) e he
  obtain ⟨k1,k2⟩:=e3 (j / 2) e he
  rw [Nat.zero_add] at k1 k2
  rcases Nat.mod_two_eq_zero_or_one j with h0 | h0
  ·have e4:j / 2*2=j:=by omega
   rw [e4] at c1 k1
   rw [c1] at hu
   injection hu with hu
   rw [← hu];exact k1
  ·have e4:j / 2*2+1=j:=by omega
   rw [e4] at c2
   rw [c2] at hu
   injection hu with hu
   rw [← hu]
   have e5:(⟨(ad.add (j / 2*2)).block,(ad.add (j / 2*2)).off+1,none⟩:Addr)=ad.add j:=by
    unfold Addr.add
    have hj0:j≠0:=by omega
    by_cases hk:j / 2*2=0
    ·have hj1:j=1:=by omega
     subst hj1
     simp
    ·simp [hk,hj0]
     omega
   rw [← e5];exact k2
end Go.Proofs.YtomgcbfcnjbofaaGreat
