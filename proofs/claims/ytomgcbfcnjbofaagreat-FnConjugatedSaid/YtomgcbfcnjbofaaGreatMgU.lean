/- Own slices whose elements own their memory, one behind the other: copies, marks. -/
import Derived.Test.YtomgcbfcnjbofaaGreatMgH
import Derived.Test.YtomgcbfcnjbofaaGreatMgB
import Derived.Test.YtomgcbfcnjbofaaGreatMgK
namespace Go.Proofs.YtomgcbfcnjbofaaGreat
open Go.RowKit
set_option linter.unusedSimpArgs false
set_option linter.unusedVariables false
set_option maxRecDepth 20000
def kO:Kd (List Int):=⟨fun w l h v xs=>∃ B m d,v = .slice B m d∧OwnI w l h B m d xs,fun ⟨B,m,d,e,hI⟩ hs=>⟨B,m,d,e,hI.same hs⟩,fun ⟨_,_,_,e,_⟩=>by rw [e];rfl⟩
def Stk {α:Type} (K:Kd α) (w:World):Nat→Nat→List Value→List α→Prop
 | lo,hi,[],[]=>lo≤hi
 | lo,hi,v :: vs,x :: xs=>∃ l m,lo≤l∧l≤m∧K.rd w l m v x∧Stk K w m hi vs xs
 | _,_,_,_=>False
section
variable {α:Type} {K:Kd α} {w w':World}
theorem Stk.le:∀ {vs:List Value} {xs:List α} {lo hi:Nat},Stk K w lo hi vs xs→lo≤hi
 | [],[],_,_,h=>h
 | v :: vs,x :: xs,_,_,⟨_,_,h1,h1',_,h2⟩=>Nat.le_trans (Nat.le_trans h1 h1') h2.le
 | [],_ :: _,_,_,h=>by cases h
 | _ :: _,[],_,_,h=>by cases h
theorem Stk.len:∀ {vs:List Value} {xs:List α} {lo hi:Nat},Stk K w lo hi vs xs→vs.length=xs.length
 | [],[],_,_,_=>rfl
 | v :: vs,x :: xs,_,_,⟨_,_,_,_,_,h2⟩=>by simp [h2.len]
 | [],_ :: _,_,_,h=>by cases h
 | _ :: _,[],_,_,h=>by cases h
theorem Stk.same:∀ {vs:List Value} {xs:List α} {lo hi:Nat},Stk K w lo hi vs xs→Same lo hi w w'→Stk K w' lo hi vs xs
 | [],[],_,_,h,_=>h
 | v :: vs,x :: xs,_,_,⟨l,m,h1,h1',h2,h3⟩,hs=>⟨l,m,h1,h1',K.same h2 (fun k a b=>hs k (Nat.le_trans h1 a) (Nat.lt_of_lt_of_le b h3.le)),h3.same (fun k a b=>hs k (Nat.le_trans (Nat.le_trans h1 h1') a) b)⟩
 | [],_ :: _,_,_,h,_=>by cases h
 | _ :: _,[],_,_,h,_=>by cases h
theorem Stk.wide:∀ {vs:List Value} {xs:List α} {lo lo' hi hi':Nat},Stk K w lo hi vs xs→lo'≤lo→hi≤hi'→Stk K w lo' hi' vs xs
 | [],[],_,_,_,_,h,h1,h2=>Nat.le_trans (Nat.le_trans h1 h) h2
 | v :: vs,x :: xs,_,_,_,_,⟨l,m,h1,h1',h2,h3⟩,a,b=>⟨l,m,Nat.le_trans a h1,h1',h2,h3.wide (Nat.le_refl _) b⟩
 | [],_ :: _,_,_,_,_,h,_,_=>by cases h
 | _ :: _,[],_,_,_,_,h,_,_=>by cases h
theorem Stk.snoc:∀ {vs:List Value} {xs:List α} {lo m l hi:Nat} {v:Value} {x:α},Stk K w lo m vs xs→K.rd w l hi v x→m≤l→l≤hi→Stk K w lo hi (vs++[v]) (xs++[x])
 | [],[],_,_,l,hi,v,x,h,hr,hm,hl=>⟨l,hi,Nat.le_trans h hm,hl,hr,Nat.le_refl _⟩
 | u :: vs,y :: xs,_,_,_,_,_,_,⟨q,q',h1,h1',h2,h3⟩,hr,hm,hl=>⟨q,q',h1,h1',h2,h3.snoc hr hm hl⟩
 | [],_ :: _,_,_,_,_,_,_,h,_,_,_=>by cases h
 | _ :: _,[],_,_,_,_,_,_,h,_,_,_=>by cases h
theorem Stk.append:∀ {vs us:List Value} {xs ys:List α} {lo m hi:Nat},Stk K w lo m vs xs→Stk K w m hi us ys→Stk K w lo hi (vs++us) (xs++ys)
 | [],_,[],_,_,_,_,h,h2=>h2.wide h (Nat.le_refl _)
 | u :: vs,_,y :: xs,_,_,_,_,⟨q,q',h1,h1',h2,h3⟩,h4=>⟨q,q',h1,h1',h2,h3.append h4⟩
 | [],_,_ :: _,_,_,_,_,h,_=>by cases h
 | _ :: _,_,[],_,_,_,_,h,_=>by cases h
theorem Stk.get:∀ {vs:List Value} {xs:List α} {lo hi:Nat},Stk K w lo hi vs xs→∀ {j:Nat} {x:α},xs[j]? = some x→∃ v l m,vs[j]? = some v∧K.rd w l m v x∧lo≤l∧l≤m∧m≤hi
 | [],[],_,_,_,j,x,hx=>by simp at hx
 | v :: vs,y :: xs,_,_,⟨l,m,h1,h1',h2,h3⟩,0,x,hx=>by
  obtain rfl:y=x:=by simpa using hx
  exact ⟨v,l,m,rfl,h2,h1,h1',h3.le⟩
 | v :: vs,y :: xs,_,_,⟨l,m,h1,h1',h2,h3⟩,j+1,x,hx=>by
  obtain ⟨u,l2,m2,e,r,a,b,c⟩:=h3.get (j:=j) (x:=x) (by simpa using hx)
  exact ⟨u,l2,m2,by simpa using e,r,by omega,b,c⟩
 | [],_ :: _,_,_,h,_,_,_=>by cases h
 | _ :: _,[],_,_,h,_,_,_=>by cases h
theorem Stk.below {vs:List Value} {xs:List α} {lo hi B:Nat} (h:Stk K w lo hi vs xs) (hb:Below B w w') (hB:hi≤B):Stk K w' lo hi vs xs:=h.same (.of_below hb hB)
end
structure OutS {α:Type} (K:Kd α) (w:World) (lo mid:Nat) (T:TypeId) (g n c i:Nat) (vs:List Value) (xs:List α):Prop where
 own:w.ownsRow lo T 1 (.slice (some ⟨g,0,none⟩) n c) n vs
 stk:Stk K w (g+1) mid (vs.take i) (xs.take i)
 len:xs.length=n
section
variable {α:Type} {K:Kd α} {T:TypeId} {w w':World} {lo mid g n c i:Nat} {vs:List Value} {xs:List α}
theorem OutS.vlen (h:OutS K w lo mid T g n c i vs xs):vs.length=n:=own_len h.own
theorem OutS.lt (h:OutS K w lo mid T g n c i vs xs):g<mid:=h.stk.le
theorem OutS.below (h:OutS K w lo mid T g n c i vs xs) {B:Nat} (hb:Below B w w') (hB:mid≤B):OutS K w' lo mid T g n c i vs xs :=
 ⟨owns_below h.own hb fun ad e=>by injection e with e;subst e;have:=h.lt;show g<B;omega,h.stk.below hb hB,h.len⟩
theorem OutS.drew (h:OutS K w lo mid T g n c i vs xs):OutS K w.drew lo mid T g n c i vs xs:=⟨h.own,h.stk.same (fun _ _ _=>rfl),h.len⟩
theorem OutS.wide (h:OutS K w lo mid T g n c i vs xs) {mid':Nat} (h2:mid≤mid'):OutS K w lo mid' T g n c i vs xs:=⟨h.own,h.stk.wide (Nat.le_refl _) h2,h.len⟩
theorem OutS.hole (h:OutS K w lo mid T g n c i vs xs) (v:Value):OutS K (w.setCell ⟨g,i,none⟩ v) lo mid T g n c i (vs.set i v) xs :=
 ⟨(h.own.stored i v).1,by
  rw [List.take_set_of_le (Nat.le_refl i)]
  exact h.stk.same ((Same.refl _ _ _).setCell (p:=⟨g,i,none⟩) (.inl (Nat.lt_succ_self g)) v),h.len⟩
theorem OutS.fill (h:OutS K w lo mid T g n c i vs xs) {l h':Nat} {v:Value} {x:α} (hv:vs[i]? = some v) (hx:xs[i]? = some x) (hr:K.rd w l h' v x) (hl:mid≤l) (hl2:l≤h'):OutS K w lo h' T g n c (i+1) vs xs :=
 ⟨h.own,by rw [List.take_add_one,List.take_add_one,hv,hx];exact h.stk.snoc hr hl hl2,h.len⟩
theorem OutS.at_ (h:OutS K w lo mid T g n c i vs xs) {k:Nat} (hk:k<n):∃ v,w.cell? ⟨g,k,none⟩=some v∧vs[k]? = some v∧w.frozen? ⟨g,k,none⟩=false:=by
 have hvl:=h.vlen
 exact ⟨vs[k],(h.own.cellAt k (by omega)).trans (List.getElem?_eq_getElem (by omega)),List.getElem?_eq_getElem (by omega),h.own.frozenAt k⟩
theorem OutS.capb (h:OutS K w lo mid T g n c i vs xs):n≤c∧c≤9223372036854775807:=by
 rcases h.own.2 with ⟨e,rfl⟩ | ⟨g',cap,cur,e,_,_,h1,h2,_⟩
 ·injection e;omega
 ·injection e with _ _ e3;unfold maxLen at h2;omega
end
theorem OutS.nils {α:Type} (K:Kd α) (T:TypeId) (w:World) (n:Nat) {xs:List α} (hl:xs.length=n) (hn:n≤9223372036854775807) (v:Value) (hv:v.oneCell'=true):OutS K (w.alloc (.cells (madeCells #[v] n) T)) w.heap.size (w.heap.size+1) T w.heap.size n n 0 (List.replicate n v) xs:=by
 have e:(madeCells #[v] n).toList=List.replicate n v:=by
  apply List.ext_getElem?
  intro j
  simp only [madeCells]
  by_cases hj:j<n
  ·simp [hj,Nat.mod_one]
  ·simp [hj]
 have ho:=World.ownsRow_lit (size:=1) (e:=T) (base:=w.heap.size) w (madeCells #[v] n) n (Nat.le_refl _) (by unfold maxLen;omega) (by rw [← Array.length_toList,e];simp)
 rw [e] at ho
 exact ⟨ho,Nat.le_refl _,hl⟩
def Ros {α:Type} (K:Kd α) (T:TypeId) (w:World) (lo hi:Nat) (A:Option Addr) (n c:Nat) (xs:List α):Prop :=
 (A=none∧n=0∧c=0∧xs=[]∧lo≤hi)∨∃ g vs,A=some ⟨g,0,none⟩∧OutS K w lo hi T g n c n vs xs
theorem Ros.same {α:Type} {K:Kd α} {T:TypeId} {w w':World} {lo hi:Nat} {A:Option Addr} {n c:Nat} {xs:List α} (h:Ros K T w lo hi A n c xs) (hs:Same lo hi w w'):Ros K T w' lo hi A n c xs:=by
 rcases h with h | ⟨g,vs,e,h⟩
 ·exact .inl h
 ·have h1:=(h.own.lt g rfl).1
  have h2:=h.lt
  exact .inr ⟨g,vs,e,owns_same h.own (fun ad e=>by injection e with e;subst e;exact hs g h1 h2),h.stk.same (fun k a b=>hs k (by omega) b),h.len⟩
theorem Ros.below {α:Type} {K:Kd α} {T:TypeId} {w w':World} {lo hi B:Nat} {A:Option Addr} {n c:Nat} {xs:List α} (h:Ros K T w lo hi A n c xs) (hb:Below B w w') (hB:hi≤B):Ros K T w' lo hi A n c xs:=h.same (.of_below hb hB)
theorem Ros.wide {α:Type} {K:Kd α} {T:TypeId} {w:World} {lo hi lo' hi':Nat} {A:Option Addr} {n c:Nat} {xs:List α} (h:Ros K T w lo hi A n c xs) (h1:lo'≤lo) (h2:hi≤hi'):Ros K T w lo' hi' A n c xs:=by
 rcases h with ⟨a,b,c,d,e⟩ | ⟨g,vs,e,h⟩
 ·exact .inl ⟨a,b,c,d,by omega⟩
 ·exact .inr ⟨g,vs,e,owns_low h.own h1,h.stk.wide (Nat.le_refl _) h2,h.len⟩
theorem Ros.len {α:Type} {K:Kd α} {T:TypeId} {w:World} {lo hi:Nat} {A:Option Addr} {n c:Nat} {xs:List α} (h:Ros K T w lo hi A n c xs):xs.length=n:=by
 rcases h with ⟨_,rfl,_,rfl,_⟩ | ⟨_,_,_,h⟩
 ·rfl
 ·exact h.len
theorem Ros.capb {α:Type} {K:Kd α} {T:TypeId} {w:World} {lo hi:Nat} {A:Option Addr} {n c:Nat} {xs:List α} (h:Ros K T w lo hi A n c xs):n≤c∧c≤9223372036854775807:=by
 rcases h with ⟨_,rfl,rfl,_⟩ | ⟨_,_,_,h⟩
 ·omega
 ·exact h.capb
theorem Ros.le {α:Type} {K:Kd α} {T:TypeId} {w:World} {lo hi:Nat} {A:Option Addr} {n c:Nat} {xs:List α} (h:Ros K T w lo hi A n c xs):lo≤hi:=by
 rcases h with ⟨_,_,_,_,h⟩ | ⟨g,_,_,h⟩
 ·exact h
 ·have h1:=(h.own.lt g rfl).1
  have h2:=h.lt
  omega
theorem Ros.ints2 {T:TypeId} {w:World} {lo hi:Nat} {A:Option Addr} {n c:Nat} {xss:List (List Int)} (h:Ros kO T w lo hi A n c xss):Ints2 w lo hi A n c xss:=by
 rcases h with ⟨rfl,rfl,rfl,rfl,_⟩ | ⟨g,vs,rfl,h⟩
 ·exact Ints2.nil_ _ _ _
 ·have h1:=(h.own.lt g rfl).1
  have h2:=h.lt
  have hvl:=h.vlen
  have hs:=h.stk
  rw [List.take_of_length_le (by omega),List.take_of_length_le (Nat.le_of_eq h.len)] at hs
  refine ⟨h.len,h.capb.1,h.capb.2,fun hn=>⟨_,rfl,h1,h2,fun j xs hj=>?_⟩⟩
  obtain ⟨v,l,m,e,⟨B,k,d,rfl,hO⟩,a,b,c⟩:=hs.get hj
  refine ⟨B,k,d,?_,hO.ints.wide (by omega) c⟩
  have hj2:=(List.getElem?_eq_some_iff.1 e).1
  simpa [Addr.add_lit] using (h.own.cellAt j (by omega)).trans e
end Go.Proofs.YtomgcbfcnjbofaaGreat
/- Paths: own copies, marks. -/
namespace Go.Proofs.YtomgcbfcnjbofaaGreat
open Go.RowKit
set_option linter.unusedSimpArgs false
set_option linter.unusedVariables false
set_option maxRecDepth 20000
theorem Kd.setCell {α:Type} (K:Kd α) {w:World} {l h:Nat} {v:Value} {x:α} (hr:K.rd w l h v x) {p:Addr} (hp:p.block<l∨h≤p.block) (u:Value):K.rd (w.setCell p u) l h v x:=K.same hr ((Same.refl _ _ _).setCell hp u)
end Go.Proofs.YtomgcbfcnjbofaaGreat
/- Polynomials turned back into paths, each row its own: the program's walk. -/
namespace Go.Proofs.YtomgcbfcnjbofaaGreat
open Go.RowKit
open List renaming setIfInBounds_toArray → sTA, set_cons_zero → sC0, set_cons_succ → sC1
set_option linter.unusedSimpArgs false
set_option linter.unusedVariables false
set_option maxRecDepth 20000
set_option maxRecDepth 100000 in
set_option maxHeartbeats 8000000 in
theorem impl_pointsO (P:Option Addr) (np cp:Nat) (xss:List (List Int)) (lo hi dim:Nat) (w:World) (hp:Ints2 w lo hi P np cp xss) (hh:hi≤w.heap.size) (hL:∀ r∈xss,dim≤r.length) (hd0:0<dim) (hd6:dim≤1000) (hn:np≤1000) :
  Calls Tryz.prog 47 #[.slice P np cp,.int .i64 (dim:Int)] w fun e w'=>∃ gR cR,e = .returned (.slice (some ⟨gR,0,none⟩) dim cR)∧Ros kO 24 w' w.heap.size w'.heap.size (some ⟨gR,0,none⟩) dim cR (turnL xss dim)∧Below w.heap.size w w':=by
 obtain ⟨i0,hi0,hz0,hz1,hz2⟩:=info_parts info_int
 have hcp:=hp.cap
 have hmp:=hp.max
 have HP:=hide hp
 have HLn:=hide hL
 have hmk:=make_rows dim hd6 w
 have hN:=hide ((OutS.nils kO 24 w dim (turn_len xss dim) (by omega) (.slice none 0 0) rfl).wide (mid':=(w.alloc (.cells (madeCells #[.slice none 0 0] dim) 24)).heap.size) (by simp))
 have hbN:=hide (below_alloc w (.cells (madeCells #[.slice none 0 0] dim) 24))
 have htl:=hide (turn_len xss dim)
 clear hp hL
 go_enter Tryz.func47,Tryz.ntmps47
 go_wp2_with fail
 clear hmk
 obtain ⟨g,hg⟩:∃ g,g=w.heap.size:=⟨_,rfl⟩
 have hgw:Hid (g=w.heap.size):=hg
 generalize w.alloc (.cells (madeCells #[.slice none 0 0] dim) 24)=W0 at hN hbN ⊢
 have hN2:Hid (OutS kO W0 w.heap.size W0.heap.size 24 g dim dim 0 (List.replicate dim (.slice none 0 0)) (turnL xss dim)):=by rw [hg];exact hN.out
 have hV0:Hid (∀ k,0≤k→k<dim→(List.replicate dim (Value.slice none 0 0))[k]? = some (Value.slice none 0 0)):=fun k _ hk=>by simp [hk]
 rw [← hg]
 clear hN hg
 go_loopw [13] (fun z wr=>∃ (i:Nat) (vs:List Value),i≤dim∧z = .int .i64 i∧Hid (OutS kO wr w.heap.size wr.heap.size 24 g dim dim i vs (turnL xss dim))∧Hid (Below w.heap.size w wr)∧Hid (∀ k,i≤k→k<dim→vs[k]? = some (Value.slice none 0 0))) (fun z _=>dim - (intOf z).toNat)
 case atStart=>exact ⟨0,_,by omega,rfl,hN2.out,hbN.out,hV0.out⟩
 case round =>
  clear hN2 hbN hV0
  obtain ⟨i,vs,hi,rfl,hLs,hbw0,hnil⟩:=hrel
  have hszw:=hbw0.out.size
  by_cases hlt:i<dim
  ·obtain ⟨row,hrow⟩:∃ row,row=xss.map fun r=>r.getD i 0:=⟨_,rfl⟩
   have hrl:Hid (row.length=np):=by show _=_;rw [hrow,List.length_map,HP.out.len]
   have hta:Hid ((turnL xss dim)[i]? = some row):=by show _=_;rw [hrow];exact turn_at xss hlt
   have hvi:=hide (hnil.out i (Nat.le_refl _) hlt)
   have hO0:Hid (wr.ownsRow wr.heap.size 3 1 (.slice none 0 0) 0 ((row.take 0).map (Value.int .i64))):=by
    show World.ownsRow _ _ _ _ _ _ _
    simpa using World.ownsRow_nil _ _ _ _
   have hH0:=hLs
   have hnl:=hide (fun k (hk:i+1≤k) (hk2:k<dim)=>hnil.out k (by omega) hk2)
   obtain ⟨hb,hhb⟩:∃ hb,hb=wr.heap.size:=⟨_,rfl⟩
   rw [← hhb] at hO0 hH0
   have hbw:w.heap.size≤hb:=by omega
   have hbr0:Hid (hb≤wr.heap.size):=Nat.le_of_eq hhb
   clear hhb hLs hnil
   have vsR:=hide (show ∀ k,k≠i→vs[k]? = vs[k]? from fun _ _=>rfl)
   obtain ⟨vs0,hvs0⟩:∃ v,v=vs:=⟨_,rfl⟩
   go_wp2_with fail
   go_loopw [18] (fun z wr2=>∃ (j:Nat) (B:Option Addr) (d:Nat) (vs:List Value),j≤np∧z = .int .i64 j∧Hid (OutS kO wr2 w.heap.size hb 24 g dim dim i vs (turnL xss dim))∧Hid (vs[i]? = some (.slice B j d))∧Hid (wr2.ownsRow hb 3 1 (.slice B j d) j ((row.take j).map (Value.int .i64)))∧Hid (Below w.heap.size w wr2∧hb≤wr2.heap.size∧∀ k,k≠i→vs[k]? = vs0[k]?)) (fun z _=>np - (intOf z).toNat)
   case atStart=>exact ⟨0,none,0,vs,by omega,rfl,hH0.out,hvi.out,hO0.out,hbw0.out,hbr0.out,fun k _=>by rw [hvs0]⟩
   case round =>
    clear hH0 hvi hO0 hbw0 hbr0
    obtain ⟨j,B,d,vs,hj,rfl,hLs,hvi,hO,hB⟩:=hrel
    by_cases hlt2:j<np
    ·obtain ⟨ap,Br,m2,d2,r,rfl,hcr,hIr,_,hxr⟩:=HP.out.at_ hlt2
     have hrd:=HLn.out r (List.mem_of_getElem? hxr.out)
     have hrl2:=hIr.len
     have hcr2:=hIr.cap
     have hmr2:=hIr.max
     obtain ⟨bd,x,rfl,hcx,hx64,_,hxx⟩:=hIr.at_ (k:=i) (by omega)
     have hgr:=World.block_lt_of_cell? w _ hcr
     have hgx:=World.block_lt_of_cell? w _ hcx
     have HCR:=hide fun (w':World) (hB:Below w.heap.size w w')=>(hB.cell (p:=ap.add j) hgr).trans hcr
     have HCX:=hide fun (w':World) (hB:Below w.heap.size w w')=>(hB.cell (p:=bd.add i) hgx).trans hcx
     have hT:Hid (row.take j++[x]=row.take (j+1)):=take_snocJ (by rw [hrow,List.getElem?_map,hxr.out];simp [List.getD,hxx.out])
     have hc4:=HCR.out _ hB.out.1
     have HVS:=hide hB.out.2.2
     have HLd:=hide hLs.out.drew
     have HOd:Hid (wr.drew.ownsRow hb 3 1 (.slice B j d) j ((row.take j).map (Value.int .i64))):=hO.out
     have HBd:=hide hB.out.1.drew
     have hzd:hb≤wr.drew.heap.size:=hB.out.2.1
     have HV:=hide hvi.out
     have hOc:j≤d∧d≤9223372036854775807:=by
      rcases hO.out.2 with ⟨e,rfl⟩ | ⟨_,_,_,e,_,_,h1,h2,_⟩
      ·injection e;omega
      ·injection e with _ _ e3;unfold maxLen at h2;omega
     have hvn:=hLs.out.vlen
     have him:i<m2:=by omega
     have him2:¬ m2≤i:=by omega
     have hS0':Hid (wr.drew.cell? ⟨g,i,none⟩=some (.slice B j d)∧wr.drew.cell? (bd.add i)=some (.int .i64 x)):=⟨(HLd.out.own.cellAt i (by omega)).trans HV.out,HCX.out _ HBd.out⟩
     have HS1':Hid ((wr.drew.alloc (.cells #[.int .i64 x] 3)).cell? ⟨g,i,none⟩=some (.slice B j d)∧(wr.drew.alloc (.cells #[.int .i64 x] 3)).cell? (bd.add i)=some (.int .i64 x)) :=
      ⟨((below_alloc wr.drew (.cells #[.int .i64 x] 3)).cell (p:=⟨g,i,none⟩) (World.block_lt_of_cell? _ _ hS0'.out.1)).trans hS0'.out.1,HCX.out _ (HBd.out.alloc (by show w.heap.size≤wr.drew.heap.size;omega) _)⟩
     clear hcr hcx hIr hxr hxx hO hB hLs hvi hrd
     go_wp2_with fail
     refine wp_region_Z (fun W'=>W'.cell? ⟨g,i,none⟩=some (.slice B j d)∧W'.cell? (bd.add i)=some (.int .i64 x)) 13 (by kernel_rfl) ?_
     obtain ⟨V,hV⟩:∃ V,V=wr.drew:=⟨_,rfl⟩
     rw [← hV] at HLd HOd HBd hzd hS0' HS1' ⊢
     have hS0:=hS0'.out
     have HS1:=HS1'
     clear hS0' HS1' hV hc4
     refine wpAnyZ_takeW 0 (.slice (some ⟨g,0,none⟩) dim dim) rfl (by kernel_rfl) (by kernel_rfl) (fun _ _ _ h=>h) (by rfl) (fun _=>by go_simp) hS0 ?_
     try simp only [Act.put,sTA,sC0,sC1]
     refine wpAnyZ_takeW 1 (.int .i64 (i:Int)) rfl (by kernel_rfl) (by kernel_rfl) (fun _ _ _ h=>h) (by rfl) (fun _=>by go_simp) hS0 ?_
     try simp only [Act.put,sTA,sC0,sC1]
     refine wpAnyZ_takeW 2 (.slice (some ⟨g,0,none⟩) dim dim) rfl (by kernel_rfl) (by kernel_rfl) (fun _ _ _ h=>h) (by rfl) (fun _=>by go_simp) hS0 ?_
     try simp only [Act.put,sTA,sC0,sC1]
     refine wpAnyZ_takeW 3 (.int .i64 (i:Int)) rfl (by kernel_rfl) (by kernel_rfl) (fun _ _ _ h=>h) (by rfl) (fun _=>by go_simp) hS0 ?_
     try simp only [Act.put,sTA,sC0,sC1]
     refine wpAnyZ_takeW 4 (.pointer (some ⟨g,i,none⟩)) rfl (by kernel_rfl) (by kernel_rfl) (fun _ _ _ h=>h) (by rfl) (fun _=>by go_simp) hS0 ?_
     try simp only [Act.put,sTA,sC0,sC1]
     refine wpAnyZ_take 5 (.slice B j d) rfl (by kernel_rfl) (by kernel_rfl) (fun _ _ _ h=>h) (by rfl) (fun _ hS=>by have q0:=hS.1;clear hS;go_simp) hS0 ?_
     try simp only [Act.put,sTA,sC0,sC1]
     refine wpAnyZ_takeW 6 (.slice (some bd) m2 d2) rfl (by kernel_rfl) (by kernel_rfl) (fun _ _ _ h=>h) (by rfl) (fun _=>by go_simp) hS0 ?_
     try simp only [Act.put,sTA,sC0,sC1]
     refine wpAnyZ_takeW 7 (.int .i64 (i:Int)) rfl (by kernel_rfl) (by kernel_rfl) (fun _ _ _ h=>h) (by rfl) (fun _=>by go_simp) hS0 ?_
     try simp only [Act.put,sTA,sC0,sC1]
     refine wpAnyZ_takeW 8 (.pointer (some (bd.add i))) rfl (by kernel_rfl) (by kernel_rfl) (fun _ _ _ h=>h) (by rfl) (fun _=>by go_simp) hS0 ?_
     try simp only [Act.put,sTA,sC0,sC1]
     refine wpAnyZ_take 9 (.int .i64 x) rfl (by kernel_rfl) (by kernel_rfl) (fun _ _ _ h=>h) (by rfl) (fun _ hS=>by have q0:=hS.2;clear hS;go_simp) hS0 ?_
     try simp only [Act.put,sTA,sC0,sC1]
     refine wpAnyZ_one 10 (by kernel_rfl) rfl (by rfl) (fun K hK=>?_)
     go_simp
     refine hK.out _ _ HS1.out ?_
     clear hK K
     try simp only [Act.put,sTA,sC0,sC1]
     refine wpAnyZ_one 11 (by kernel_rfl) rfl (by rfl) (fun K hK=>?_)
     refine owp_appJ (.tmp 27) (.tmp 32) 24 rfl hb 3 i0 (.int .i64 0) 1 8 Tryz.underlying24 hi0 hz0 hz1 hz2 rfl (by omega) V #[.int .i64 x] _ rfl B j d 1 _ rfl rfl HOd.out rfl (by simp [Value.oneCell']) (by omega) (by omega) hzd ?_
     intro A3 c3 w5 happ hlt3
     have b5:=hide (happ.low (Below.refl hb V) hzd (Nat.le_refl _) HOd.out)
     have HL5:=hide (HLd.out.below b5.out (Nat.le_refl _))
     have hO5:Hid (w5.ownsRow hb 3 1 (.slice A3 (j+1) c3) (j+1) ((row.take (j+1)).map (Value.int .i64))):=by
      show World.ownsRow _ _ _ _ _ _ _
      rw [← hT.out,List.map_append]
      exact happ.1
     have hS2:w5.cell? ⟨g,i,none⟩=some (.slice B j d)∧w5.cell? (bd.add i)=some (.int .i64 x):=⟨(HL5.out.own.cellAt i (by omega)).trans HV.out,HCX.out _ (HBd.out.trans (b5.out.mono hbw))⟩
     have f5:=HL5.out.own.frozenAt i
     clear happ HS1
     refine hK.out _ _ hS2 ?_
     clear hK K
     try simp only [Act.put,sTA,sC0,sC1]
     refine wpAnyZ_takeW 12 (.pointer (some ⟨g,i,none⟩)) rfl (by kernel_rfl) (by kernel_rfl) (fun _ _ _ h=>h) (by rfl) (fun _=>by go_simp) hS2 ?_
     try simp only [Act.put,sTA,sC0,sC1]
     refine wpAnyZ_last (by kernel_rfl) rfl (by kernel_rfl) (by rfl) (fun K hK=>?_)
     go_simp
     refine hK _ _ ?_
     clear hK K
     have hvl:=HL5.out.vlen
     have HF:=hide (HL5.out.hole (.slice A3 (j+1) c3))
     have HVn:Hid ((vs.set i (Value.slice A3 (j+1) c3))[i]? = some (.slice A3 (j+1) c3)):=List.getElem?_set_self (by omega)
     have hOn:Hid ((w5.setCell ⟨g,i,none⟩ (.slice A3 (j+1) c3)).ownsRow hb 3 1 (.slice A3 (j+1) c3) (j+1) ((row.take (j+1)).map (Value.int .i64))):=owns_setCell hO5.out (p:=⟨g,i,none⟩) (fun ad e=>by
      have h1:=(owns_lt hO5.out ad e).1
      have h2:=HL5.out.lt
      show ad.block≠g
      omega) _
     have bn:Hid (Below w.heap.size w (w5.setCell ⟨g,i,none⟩ (.slice A3 (j+1) c3))∧hb≤(w5.setCell ⟨g,i,none⟩ (.slice A3 (j+1) c3)).heap.size∧∀ k,k≠i→(vs.set i (Value.slice A3 (j+1) c3))[k]? = vs0[k]?):=⟨(HBd.out.trans (b5.out.mono hbw)).setCell (p:=⟨g,i,none⟩) (by have:=(HL5.out.own.lt g rfl).1;exact this) (.slice A3 (j+1) c3),by
      have h1:=b5.out.size
      have h2:(w5.setCell ⟨g,i,none⟩ (.slice A3 (j+1) c3)).heap.size=w5.heap.size:=by simp [World.setCell]
      omega,fun k hk=>by rw [List.getElem?_set_ne (Ne.symm hk)];exact HVS.out k hk⟩
     clear HL5 hO5 b5 hS2 f5
     go_wp2_with fail
     go_roundw
     case rel=>exact ⟨j+1,A3,c3,_,by omega,by go_num,HF.out,HVn.out,hOn.out,bn.out⟩
     case measure=>simp [intOf];omega
    ·obtain rfl:np=j:=by omega
     have hOw:=hO.out
     rw [List.take_of_length_le (Nat.le_of_eq hrl.out)] at hOw
     have hrng:∀ y∈row,R64 y:=fun y hy=>by
      rw [hrow] at hy
      obtain ⟨r,hr,rfl⟩:=List.mem_map.1 hy
      obtain ⟨q,hq⟩:=List.mem_iff_getElem?.1 hr
      have hq2:=(List.getElem?_eq_some_iff.1 hq).1
      obtain ⟨_,_,_,_,r2,_,_,hIr,_,hx2⟩:=HP.out.at_ (k:=q) (by have:=HP.out.len;omega)
      have h3:=hx2.out
      rw [hq] at h3
      injection h3 with h3
      subst h3
      exact r64_getDJ hIr.rng i
     have hI:OwnI wr hb wr.heap.size B np d row:=⟨hOw,fun ad e=>(owns_lt hOw ad e).2,hrng⟩
     have hF:=hide (hLs.out.fill hvi.out hta.out (⟨B,np,d,rfl,hI⟩:kO.rd wr hb wr.heap.size _ _) (Nat.le_refl hb) hB.out.2.1)
     have hn2:=hide fun k (hk:i+1≤k) (hk2:k<dim)=>(hB.out.2.2 k (by omega)).trans (hvs0 ▸ hnl.out k hk hk2)
     have hB1:=hide hB.out.1
     clear hLs hvi hO hB hI hOw hrng
     go_wp2_with fail
     go_roundw
     case rel=>exact ⟨i+1,vs,by omega,by go_num,hF.out,hB1.out,hn2.out⟩
     case measure=>simp [intOf];omega
  ·obtain rfl:dim=i:=by omega
   have HE:Hid (Ros kO 24 wr w.heap.size wr.heap.size (some ⟨g,0,none⟩) dim dim (turnL xss dim)) := .inr ⟨_,_,rfl,hLs.out⟩
   clear hLs
   go_wp2_with fail
   go_ret
   exact ⟨_,_,rfl,HE.out,hbw0.out⟩
end Go.Proofs.YtomgcbfcnjbofaaGreat
