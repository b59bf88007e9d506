/- Polynomials of the reference: one more monomial put into its place. -/
import Derived.Test.YtomgcbfcnjbofaaGreatMgM
import Derived.Test.YtomgcbfcnjbofaaGreatMgN
import Derived.Test.YtomgcbfcnjbofaaGreatMgP
import Derived.Test.YtomgcbfcnjbofaaGreatMgR
namespace Go.Proofs.YtomgcbfcnjbofaaGreat
open Go.RowKit
set_option linter.unusedSimpArgs false
set_option linter.unusedVariables false
set_option maxRecDepth 20000
theorem less_same (xs ys:List Int):(!lessF xs ys && !lessF ys xs)=decide (xs=ys):=by
 induction xs generalizing ys with
 | nil=>cases ys <;> rfl
 | cons x xs ih =>
  cases ys with
  | nil=>rfl
  | cons y ys =>
   rw [lessF,lessF]
   by_cases h:x=y
   ·subst h
    rw [if_neg (by simp),if_neg (by simp),ih]
    simp
   ·rw [if_pos h,if_pos (Ne.symm h)]
    have:decide (x :: xs=y :: ys)=false:=by simp [h]
    rw [this]
    by_cases h2:x<y
    ·simp [h2]
    ·have h3:y<x:=by omega
     simp [h2,h3]
set_option maxHeartbeats 1000000 in
theorem ints_l2Same (A:Option Addr) (n c:Nat) (xs:List Int) (lo hi:Nat) (B:Option Addr) (m d:Nat) (ys:List Int) (lo' hi':Nat) (w:World) (h:Ints w lo hi A n c xs) (g:Ints w lo' hi' B m d ys) :
  Calls Tryz.prog 100 #[.slice A n c,.slice B m d] w fun e w'=>e = .returned (.bool (decide (xs=ys)))∧∃ q,w'=w.drewN q:=by
 go_enter Tryz.func100,Tryz.ntmps100
 go_wp2_with fail
 refine (spec_l2Less A n c xs lo hi B m d ys lo' hi' w h g).mono ?_
 rintro e w1 ⟨rfl,q,rfl⟩
 cases hx:lessF xs ys with
 | true =>
  go_wp2_with fail
  go_ret
  exact ⟨ret_bool (by rw [← less_same,hx];rfl),_,rfl⟩
 | false =>
  go_wp2_with fail
  refine (spec_l2Less B m d ys lo' hi' A n c xs lo hi (w.drewN q) (g.same (fun _ _ _=>rfl)) (h.same (fun _ _ _=>rfl))).mono ?_
  rintro e w1 ⟨rfl,q2,rfl⟩
  go_wp2_with fail
  go_ret
  exact ⟨ret_bool (by rw [← less_same,hx];simp),_,by first | exact rfl | exact World.drewN_drewN _ _ _⟩
def putR:List Mono→Mono→List Mono
 | [],m=>[m]
 | p :: r,m=>if p.2=m.2 then putR r (plusF m.1 p.1,m.2) else if lessF p.2 m.2=true then m :: p :: r else p :: putR r m
def nzM (m:Mono):Bool := !decide (m.1=0)
def putF (ps:List Mono) (m:Mono):List Mono:=(putR ps m).filter nzM
def Desc (ps:List Mono):Prop:=ps.Pairwise fun a b=>lessF b.2 a.2=true
theorem lessF_irr:∀ a:List Int,lessF a a=false
 | []=>rfl
 | a :: r=>by rw [lessF,if_neg (by simp)];exact lessF_irr r
theorem lessF_tr:∀ (a b c:List Int),lessF a b=true→lessF b c=true→lessF a c=true
 | _,_,[],_,h=>by cases ‹List Int› <;> simp [lessF] at h
 | [],_,_ :: _,_,_=>rfl
 | _ :: _,[],_ :: _,h,_=>by simp [lessF] at h
 | a :: x,b :: y,c :: z,h1,h2=>by
  rw [lessF] at h1 h2 ⊢
  by_cases hab:a=b
  ·subst hab
   rw [if_neg (by simp)] at h1
   by_cases hac:a=c
   ·subst hac
    rw [if_neg (by simp)] at h2
    rw [if_neg (by simp)]
    exact lessF_tr x y z h1 h2
   ·rw [if_pos hac] at h2
    rw [if_pos hac]
    exact h2
  ·rw [if_pos hab] at h1
   have h1':a<b:=by simpa using h1
   by_cases hbc:b=c
   ·subst hbc
    rw [if_pos hab]
    simpa using h1'
   ·rw [if_pos hbc] at h2
    have h2':b<c:=by simpa using h2
    rw [if_pos (by omega)]
    simp;omega
theorem lessF_tot:∀ (a b:List Int),a.length=b.length→lessF a b=false→a=b∨lessF b a=true
 | [],[],_,_ => .inl rfl
 | [],_ :: _,h,_=>by simp at h
 | _ :: _,[],h,_=>by simp at h
 | a :: x,b :: y,h,h1=>by
  rw [lessF] at h1
  by_cases hab:a=b
  ·subst hab
   rw [if_neg (by simp)] at h1
   rcases lessF_tot x y (by simpa using h) h1 with h2 | h2
   ·exact .inl (by rw [h2])
   ·right
    rw [lessF,if_neg (by simp)]
    exact h2
  ·rw [if_pos hab] at h1
   have h1':¬ a<b:=by simpa using h1
   right
   rw [lessF,if_pos (Ne.symm hab)]
   simp;omega
theorem putR_mem:∀ (ps:List Mono) (m:Mono),∀ q∈putR ps m,q.2=m.2∨q∈ps
 | [],m,q,h=>by simp [putR] at h;exact .inl (by rw [h])
 | p :: r,m,q,h=>by
  rw [putR] at h
  split at h
  ·rcases putR_mem r _ q h with h1 | h1
   ·exact .inl h1
   ·exact .inr (List.mem_cons_of_mem _ h1)
  ·split at h
   ·rcases List.mem_cons.1 h with h1 | h1
    ·exact .inl (by rw [h1])
    ·exact .inr h1
   ·rcases List.mem_cons.1 h with h1 | h1
    ·exact .inr (by rw [h1];exact List.mem_cons_self)
    ·rcases putR_mem r m q h1 with h2 | h2
     ·exact .inl h2
     ·exact .inr (List.mem_cons_of_mem _ h2)
theorem putR_num:∀ (ps:List Mono) (m:Mono),(∀ q∈ps,0≤q.1∧q.1<1000000271)→(0≤m.1∧m.1<1000000271)→∀ q∈putR ps m,0≤q.1∧q.1<1000000271
 | [],m,_,hm,q,h=>by simp [putR] at h;rw [h];exact hm
 | p :: r,m,hp,hm,q,h=>by
  rw [putR] at h
  split at h
  ·exact putR_num r _ (fun q hq=>hp q (List.mem_cons_of_mem _ hq)) (plusF_bd _ _) q h
  ·split at h
   ·rcases List.mem_cons.1 h with h1 | h1
    ·rw [h1];exact hm
    ·exact hp q h1
   ·rcases List.mem_cons.1 h with h1 | h1
    ·exact hp q (by rw [h1];exact List.mem_cons_self)
    ·exact putR_num r m (fun q hq=>hp q (List.mem_cons_of_mem _ hq)) hm q h1
theorem putR_len:∀ (ps:List Mono) (m:Mono),(putR ps m).length≤ps.length+1
 | [],m=>by simp [putR]
 | p :: r,m=>by
  rw [putR]
  split
  ·have:=putR_len r (plusF m.1 p.1,m.2)
   simp only [List.length_cons];omega
  ·split
   ·simp
   ·have:=putR_len r m
    simp only [List.length_cons];omega
theorem putR_desc:∀ (ps:List Mono) (m:Mono),Desc ps→(∀ q∈ps,q.2.length=m.2.length)→Desc (putR ps m)
 | [],m,_,_=>by simp [putR,Desc]
 | p :: r,m,h,hl=>by
  obtain ⟨h1,h2⟩:=List.pairwise_cons.1 h
  have hl2:∀ q∈r,q.2.length=m.2.length:=fun q hq=>hl q (List.mem_cons_of_mem _ hq)
  rw [putR]
  split
  ·exact putR_desc r _ h2 hl2
  ·rename_i hne
   split
   ·rename_i hlt
    refine List.pairwise_cons.2 ⟨fun q hq=>?_,h⟩
    rcases List.mem_cons.1 hq with h3 | h3
    ·rw [h3];exact hlt
    ·exact lessF_tr _ _ _ (h1 q h3) hlt
   ·rename_i hlt
    have hgt:lessF m.2 p.2=true:=by
     rcases lessF_tot p.2 m.2 (hl p List.mem_cons_self) (by simpa using hlt) with h3 | h3
     ·exact absurd h3 hne
     ·exact h3
    refine List.pairwise_cons.2 ⟨fun q hq=>?_,putR_desc r m h2 hl2⟩
    rcases putR_mem r m q hq with h3 | h3
    ·rw [h3];exact hgt
    ·exact h1 q h3
structure OutL (w wr:World) (lo:Nat) (A:Option Addr) (n c:Nat) (es:List El):Prop where
 own:wr.ownsRow w.heap.size 67 2 (.slice A n c) n (es.flatMap El.cells)
 len:es.length=n
 pow:∀ e∈es,(0≤e.x∧e.x<1000000271)∧Ints w lo w.heap.size e.B e.m e.d e.xs
 bel:Below w.heap.size w wr
section
variable {w wr wr':World} {lo n c:Nat} {A:Option Addr} {es:List El}
theorem OutL.below (h:OutL w wr lo A n c es) (hb:Below wr.heap.size wr wr'):OutL w wr' lo A n c es :=
 ⟨owns_below h.own hb (fun ad e=>(owns_lt h.own ad e).2),h.len,h.pow,h.bel.trans (hb.mono h.bel.size)⟩
theorem OutL.push (h:OutL w wr lo A n c es) {e:El} (he:(0≤e.x∧e.x<1000000271)∧Ints w lo w.heap.size e.B e.m e.d e.xs) {A':Option Addr} {c':Nat} (hap:Appended wr w.heap.size 67 2 A n c A' (n+1) c' (es.flatMap El.cells++e.cells) wr') :
  OutL w wr' lo A' (n+1) c' (es++[e]) :=
 ⟨by rw [List.flatMap_append];simpa using hap.1,by simp [h.len],fun e' he'=>by
  rcases List.mem_append.1 he' with h1 | h1
  ·exact h.pow e' h1
  ·obtain rfl:e'=e:=by simpa using h1
   exact he,hap.low h.bel h.bel.size (Nat.le_refl _) h.own⟩
theorem OutL.empty (w wr:World) (lo:Nat) (hb:Below w.heap.size w wr):OutL w (wr.alloc (.cells #[] 67)) lo (some ⟨wr.heap.size,0,none⟩) 0 0 [] :=
 ⟨by simpa using World.ownsRow_lit (size:=2) (e:=67) wr #[] 0 hb.size (by unfold maxLen;omega) (by simp),rfl,by simp,hb.trans ((below_alloc wr _).mono hb.size)⟩
theorem OutL.mons (h:OutL w wr lo A n c es) (hlo:lo≤w.heap.size):Mons wr lo wr.heap.size A n c (es.map El.mono):=by
 have hc:=own_capE h.own
 refine ⟨by simpa using h.len,hc.1,hc.2,fun hn=>?_⟩
 obtain ⟨g,rfl,h1,h2⟩:=own_formE h.own hn
 refine ⟨_,rfl,Nat.le_trans hlo h1,h2,fun j m hm=>?_⟩
 rw [List.getElem?_map] at hm
 cases he:es[j]? with
 | none=>rw [he] at hm;cases hm
 | some e =>
  rw [he] at hm
  injection hm with hm
  subst hm
  have hj:=(List.getElem?_eq_some_iff.1 he).1
  have hl:=h.len
  obtain ⟨c1,c2⟩:=elc_at es j e he
  obtain ⟨r,e3⟩:=h.pow e (List.mem_of_getElem? he)
  have k1:=(h.own.cellAt (j*2) (by omega)).trans c1
  have k2:=(h.own.cellAt (j*2+1) (by omega)).trans c2
  refine ⟨by show wr.cell? _=some (.int .i64 e.x);simpa [Addr.add_lit] using k1,⟨by show _≤e.x;omega,by show e.x≤_;omega⟩,e.B,e.m,e.d,?_,(e3.below h.bel (Nat.le_refl _)).wide (Nat.le_refl _) h.bel.size⟩
  rw [Addr.add_lit]
  simpa using k2
end
theorem filter_mono (es:List El):(es.filter nz).map El.mono=(es.map El.mono).filter nzM:=by
 induction es with
 | nil=>rfl
 | cons a r ih =>
  rw [List.filter_cons,List.map_cons,List.filter_cons]
  have:nz a=nzM a.mono:=rfl
  rw [← this]
  split
  ·rw [List.map_cons,ih]
  ·exact ih
set_option maxRecDepth 100000 in
set_option maxHeartbeats 16000000 in
theorem spec_l9Put (P:Option Addr) (n c:Nat) (ms:List Mono) (lo:Nat) (x0:Int) (B:Option Addr) (m d:Nat) (xs:List Int) (w:World) (h:Mons w lo w.heap.size P n c ms) (g:Ints w lo w.heap.size B m d xs) (hlo:lo≤w.heap.size) (hn:n≤274877906944)
  (hnum:∀ q∈ms,0≤q.1∧q.1<1000000271) (hx0:0≤x0∧x0<1000000271) (hds:Desc ms) :
  Calls Tryz.prog 70 #[.slice P n c,.agg #[.int .i64 x0,.slice B m d]] w fun r w'=>∃ A' n' c',r = .returned (.slice A' n' c')∧Mons w' lo w'.heap.size A' n' c' (putF ms (x0,xs))∧Below w.heap.size w w':=by
 obtain ⟨i0,hi0,hz0,hz1,hz2⟩:=info_parts info_mono
 have hcp:=h.cap
 have hmx:=h.max
 have gcp:=g.cap
 have gmx:=g.max
 obtain ⟨ps,hps,hpe,hpc⟩:=h.els
 have HP:=hide h
 have HG:=hide g
 have HN:=hide hnum
 have HD:=hide hds
 have a1:=below_alloc w (.cells #[.int .i64 x0,.slice B m d] 67)
 have j3:=BlkN.new w #[.int .i64 x0,.slice B m d] 67
 have z1:(w.alloc (.cells #[.int .i64 x0,.slice B m d] 67)).heap.size=w.heap.size+1:=by simp
 have O0:=OutL.empty w (w.alloc (.cells #[.int .i64 x0,.slice B m d] 67)) lo a1
 rw [z1] at O0
 have hO0:=hide O0
 have hj0:=hide (j3.alloc (.cells #[] 67))
 have hne0:=hide fun (ad:Addr) (e:some (⟨w.heap.size+1,0,none⟩:Addr)=some ad)=>(show ad.block≠w.heap.size by injection e with e;subst e;show w.heap.size+1≠_;omega)
 have HX0:=hide hx0
 clear h g hnum hds a1 j3 z1 O0 hpe hpc hps hx0
 go_enter Tryz.func70,Tryz.ntmps70
 go_wp2_with fail
 generalize (w.alloc (.cells #[.int .i64 x0,.slice B m d] 67)).alloc (.cells #[] 67)=W0 at hO0 hj0 ⊢
 go_loopw [5,6,7] (fun o pl i wr=>∃ (k n2 c2:Nat) (A2:Option Addr) (es:List El) (x:Int) (placed:Bool),k≤n∧i = .int .i64 k∧pl = .bool placed∧o = .slice A2 n2 c2∧n2≤2*k∧Hid (0≤x∧x<1000000271)∧Hid (OutL w wr lo A2 n2 c2 es)∧Hid (BlkN wr w.heap.size #[.int .i64 x,.slice B m d])∧Hid (∀ ad,A2=some ad→ad.block≠w.heap.size)
   ∧ Hid (es.map El.mono++(if placed=true then ms.drop k else putR (ms.drop k) (x,xs))=putR ms (x0,xs))∧Hid (placed=true→∀ q∈ms.drop k,q.2≠xs)) (fun _ _ i _=>n - (intOf i).toNat)
 case atStart=>exact ⟨0,0,0,_,[],x0,false,by omega,rfl,rfl,rfl,by omega,HX0.out,hO0.out,hj0.out,hne0.out,by show _=_;simp,fun h=>by cases h⟩
 case round =>
  clear hO0 hj0 hne0
  obtain ⟨k,n2,c2,A2,es,x,placed,hk,rfl,rfl,rfl,hnk,hx,hC,hj,hne,hT,hpl⟩:=hrel
  have hsz:=hC.out.bel.size
  have hlw:w.heap.size<wr.heap.size:=hj.out.lt
  by_cases hlt:k<n
  ·obtain ⟨ad,y,B2,m2,d2,ys,rfl,hc1,hc2,hyr,hI,hd,hy⟩:=(HP.out.below hC.out.bel (Nat.le_refl _)).at_ hlt
   obtain ⟨ad',y',B2',m2',d2',ys',e',hc1',hc2',_,hI0,_,hy'⟩:=HP.out.at_ hlt
   obtain rfl:ad=ad':=by injection e'
   have hq1:=(hC.out.bel.cell (p:=ad.add (k*2)) (World.block_lt_of_cell? _ _ hc1')).trans hc1'
   have hq2:=(hC.out.bel.cell (p:=⟨(ad.add (k*2)).block,(ad.add (k*2)).off+1,none⟩) (World.block_lt_of_cell? _ _ hc2')).trans hc2'
   rw [hc1] at hq1
   rw [hc2] at hq2
   injection hq1 with hq1
   injection hq1 with _ hq1
   injection hq2 with hq2
   injection hq2 with hqa hqb hqc
   subst hq1 hqa hqb hqc
   obtain rfl:ys=ys':=by have:=hy.out;rw [hy'.out] at this;injection this with this;injection this with _ this;exact this.symm
   have hyn:=HN.out _ (List.mem_of_getElem? hy.out)
   simp only at hyn
   have hdc:=hI.cap
   have hdm:=hI.max
   have HI:=hide hI
   have HI0:=hide hI0
   have HCL:=hide fun (W:World) (hB:Below w.heap.size w W)=>show W.cell? (ad.add (k*2))=some (.int .i64 y)∧W.cell? ⟨(ad.add (k*2)).block,(ad.add (k*2)).off+1,none⟩=some (.slice B2 m2 d2) from ⟨(hB.cell (p:=ad.add (k*2)) (World.block_lt_of_cell? _ _ hc1')).trans hc1',(hB.cell (p:=⟨(ad.add (k*2)).block,(ad.add (k*2)).off+1,none⟩) (World.block_lt_of_cell? _ _ hc2')).trans hc2'⟩
   have T0:wr.cell? ⟨(ad.add (k*2)).block,(ad.add (k*2)).off+1,none⟩=some (.slice B2 m2 d2)∧wr.cell? ⟨w.heap.size,1,none⟩=some (.slice B m d):=⟨hc2,hj.out.c 1 rfl⟩
   have T1:wr.drew.cell? ⟨(ad.add (k*2)).block,(ad.add (k*2)).off+1,none⟩=some (.slice B2 m2 d2)∧wr.drew.cell? ⟨w.heap.size,1,none⟩=some (.slice B m d):=T0
   have HTT:=hide fun (nq:Nat)=>show (wr.drew.drewN nq).cell? ⟨(ad.add (k*2)).block,(ad.add (k*2)).off+1,none⟩=some (.slice B2 m2 d2)∧(wr.drew.drewN nq).cell? ⟨w.heap.size,1,none⟩=some (.slice B m d) from T0
   have HGr:=hide (HG.out.below hC.out.bel (Nat.le_refl _))
   have HC:=hide (ints_l2Same B2 m2 d2 ys lo w.heap.size B m d xs lo w.heap.size wr.drew (hI.same (fun _ _ _=>rfl)) (HGr.out.same (fun _ _ _=>rfl)))
   clear hI hI0 hc1' hc2' hy hy' hyr
   by_cases heq:ys=xs
   ·have hdd:decide (ys=xs)=true:=by simpa using heq
    rw [hdd] at HC
    have hplf:placed=false:=by
     cases placed with
     | false=>rfl
     | true=>exact absurd heq (hpl.out rfl _ (by rw [hd.out];exact List.mem_cons_self))
    subst hplf
    have hT2:Hid (es.map El.mono++(if false=true then ms.drop (k+1) else putR (ms.drop (k+1)) (plusF x y,xs))=putR ms (x0,xs)):=by
     show _=_
     have t:=hT.out
     rw [hd.out,if_neg (by simp),putR,if_pos heq] at t
     rw [if_neg (by simp)]
     exact t
    clear hdd heq hT hd hpl
    go_wp2_with fail
    go_region_held3 (fun w'=>w'.cell? ⟨(ad.add (k*2)).block,(ad.add (k*2)).off+1,none⟩=some (.slice B2 m2 d2)∧w'.cell? ⟨w.heap.size,1,none⟩=some (.slice B m d)) (first | exact T0 | exact T1 | exact HTT.out _ | go_keep)
     (first
      | (go_at_call 100;refine HC.out.mono ?_;rintro r w5 ⟨rfl,nq,rfl⟩;clear HC))
    have bq:Below wr.heap.size wr (wr.drewN (1+nq)):=below_drewN (Below.refl _ _) _
    have hC2:=hide (hC.out.below bq)
    have hj2:=hide (hj.out.below bq)
    have k1:(wr.drewN (1+nq)).cell? (ad.add (k*2))=some (.int .i64 y):=hc1
    clear T0 T1 HTT bq hC hj hc1 hc2 HGr HI HI0
    generalize wr.drewN (1+nq)=W2 at hC2 hj2 k1 ⊢
    have r0:=hj2.out.c 0 rfl
    have r1:=hj2.out.f 0
    have hb2:=(hC2.out.bel.setCell (p:=⟨w.heap.size,0,none⟩) (Nat.le_refl _) (.int .i64 (plusF x y))).drew
    have hC3:Hid (OutL w (W2.setCell ⟨w.heap.size,0,none⟩ (.int .i64 (plusF x y))).drew lo A2 n2 c2 es) :=
     ⟨owns_setCell hC2.out.own (p:=⟨w.heap.size,0,none⟩) (fun ad e=>hne.out ad e) _,hC2.out.len,hC2.out.pow,hb2⟩
    have hj3:Hid (BlkN (W2.setCell ⟨w.heap.size,0,none⟩ (.int .i64 (plusF x y))).drew w.heap.size #[.int .i64 (plusF x y),.slice B m d]):=by
     have:=(hj2.out.set 0 (.int .i64 (plusF x y))).drew
     simp only [List.setIfInBounds_toArray,List.set_cons_zero] at this
     exact this
    have hxx:=hx.out
    have HPl:=hide fun W=>spec_Plus x y W (by constructor <;> omega) (by constructor <;> omega)
    have hpb:=hide (plusF_bd x y)
    have hnp:Hid (false=true→∀ q∈ms.drop (k+1),q.2≠xs):=fun h=>by cases h
    clear hC2 hj2 hb2 hxx hyn hx
    go_wp2_with fail
    refine still_tail 9 (by kernel_rfl) (by kernel_rfl) ?_
    simp only [List.take_succ_cons,List.take_zero,List.drop_succ_cons,List.drop_zero]
    iterate 7 still_step
    still_call (still_same (HPl.out _))
    still_step
    refine wpStill_nil ?_
    go_wp2_with fail
    go_roundw
    case rel=>exact ⟨k+1,n2,c2,A2,es,_,false,by omega,by go_num,rfl,rfl,by omega,hpb.out,hC3.out,hj3.out,hne.out,hT2.out,hnp.out⟩
    case measure=>simp [intOf];omega
   ·have hdd:decide (ys=xs)=false:=by simpa using heq
    rw [hdd] at HC
    clear hdd
    go_wp2_with fail
    go_region_held3 (fun w'=>w'.cell? ⟨(ad.add (k*2)).block,(ad.add (k*2)).off+1,none⟩=some (.slice B2 m2 d2)∧w'.cell? ⟨w.heap.size,1,none⟩=some (.slice B m d)) (first | exact T0 | exact T1 | exact HTT.out _ | go_keep)
     (first
      | (go_at_call 100;refine HC.out.mono ?_;rintro r w5 ⟨rfl,nq,rfl⟩;clear HC))
    have bq:Below wr.heap.size wr (wr.drewN (1+nq)):=below_drewN (Below.refl _ _) _
    have hC2:=hide (hC.out.below bq)
    have hj2:=hide (hj.out.below bq)
    have k1:(wr.drewN (1+nq)).cell? (ad.add (k*2))=some (.int .i64 y):=hc1
    have k2:(wr.drewN (1+nq)).cell? ⟨(ad.add (k*2)).block,(ad.add (k*2)).off+1,none⟩=some (.slice B2 m2 d2):=hc2
    have HI2:=hide (HI.out.same (w':=wr.drewN (1+nq)) (fun _ _ _=>rfl))
    have HG2:=hide (HGr.out.same (w':=wr.drewN (1+nq)) (fun _ _ _=>rfl))
    have hlw2:w.heap.size<(wr.drewN (1+nq)).heap.size:=hlw
    clear T0 T1 HTT bq hC hj hc1 hc2 HGr HI hsz hlw
    generalize wr.drewN (1+nq)=W2 at hC2 hj2 k1 k2 HI2 HG2 hlw2 ⊢
    have hT':Hid (es.map El.mono++(if placed=true then (y,ys) :: ms.drop (k+1) else if lessF ys xs=true then (x,xs) :: (y,ys) :: ms.drop (k+1) else (y,ys) :: putR (ms.drop (k+1)) (x,xs))=putR ms (x0,xs)):=by
     show _=_
     have t:=hT.out
     rw [hd.out,putR,if_neg heq] at t
     exact t
    have hds:Hid (∀ q∈ms.drop (k+1),lessF q.2 ys=true):=by
     have t:Desc (ms.drop k):=List.Pairwise.drop HD.out
     rw [hd.out] at t
     exact (List.pairwise_cons.1 t).1
    have hpl2:Hid (placed=true→∀ q∈ms.drop (k+1),q.2≠xs):=fun h q hq=>hpl.out h q (by rw [hd.out];exact List.mem_cons_of_mem _ hq)
    clear hT hd hpl heq k1 k2
    cases placed with
    | true =>
     have hT2:Hid ((es++[(⟨y,B2,m2,d2,ys⟩:El)]).map El.mono++(if true=true then ms.drop (k+1) else putR (ms.drop (k+1)) (x,xs))=putR ms (x0,xs)):=by
      show _=_
      rw [← hT'.out];simp [El.mono]
     clear hT' HG2 HI2
     go_wp2_with fail
     go_quiet (fail)
     have hnq2:∃ q,q=nq:=⟨_,rfl⟩
     obtain ⟨nq2,hnq2⟩:=hnq2
     rw [← hnq2]
     clear hnq2
     have bq:=below_drewN (Below.refl W2.heap.size W2) nq2
     replace hC2:=hide (hC2.out.below bq)
     replace hj2:=hide (hj2.out.below bq)
     replace hlw2:w.heap.size<(W2.drewN nq2).heap.size:=hlw2
     clear bq
     generalize W2.drewN nq2=W2 at hC2 hj2 hlw2 ⊢
     obtain ⟨k1,k2⟩:=HCL.out _ hC2.out.bel
     have hwa:=hC2.out.bel.size
     go_wp2_with (at_builtin;refine wpl_app1b rfl (.tmp 50) (.tmp 55) 34 rfl w.heap.size 67 i0 (.agg #[.int .i64 0,.slice none 0 0]) 2 32 Tryz.underlying34 hi0 hz0 hz1 hz2 rfl (by omega) _ #[.int .i64 y,.slice B2 m2 d2] _ rfl A2 n2 c2 1 _ rfl rfl hC2.out.own rfl (by simp [Value.oneCell']) (by omega) (by omega) hwa ?_;intro Aa ca wa happ hlta)
     have hCa:=hide (hC2.out.push (e:=⟨y,B2,m2,d2,ys⟩) ⟨hyn,HI0.out⟩ happ)
     have hja:=hide (blk_grown hj2.out happ.2.1 hne.out)
     have hnea:Hid (∀ ad,Aa=some ad→ad.block≠w.heap.size):=fun ad e=>by
      rcases happ.2.2 with h1 | h1
      ·exact hne.out ad (h1 ad e)
      ·have:=h1 ad e
       omega
     have hlwa:w.heap.size<wa.heap.size:=by omega
     clear happ
     clear hC2 hj2 k1 k2
     go_wp2_with fail
     go_roundw
     case rel=>exact ⟨k+1,n2+1,ca,Aa,es++[(⟨y,B2,m2,d2,ys⟩:El)],x,true,by omega,by go_num,rfl,rfl,by omega,hx.out,hCa.out,hja.out,hnea.out,hT2.out,hide (fun _=>hpl2.out trivial)⟩
     case measure=>simp [intOf];omega
    | false =>
     have HLs:=hide (spec_l2Less B2 m2 d2 ys lo w.heap.size B m d xs lo w.heap.size W2.drew (HI2.out.same (fun _ _ _=>rfl)) (HG2.out.same (fun _ _ _=>rfl)))
     have k2:=(HCL.out _ hC2.out.bel).2
     have T0:W2.cell? ⟨(ad.add (k*2)).block,(ad.add (k*2)).off+1,none⟩=some (.slice B2 m2 d2)∧W2.cell? ⟨w.heap.size,1,none⟩=some (.slice B m d):=⟨k2,hj2.out.c 1 rfl⟩
     have T1:W2.drew.cell? ⟨(ad.add (k*2)).block,(ad.add (k*2)).off+1,none⟩=some (.slice B2 m2 d2)∧W2.drew.cell? ⟨w.heap.size,1,none⟩=some (.slice B m d):=T0
     have HTT:=hide fun (nq:Nat)=>show (W2.drew.drewN nq).cell? ⟨(ad.add (k*2)).block,(ad.add (k*2)).off+1,none⟩=some (.slice B2 m2 d2)∧(W2.drew.drewN nq).cell? ⟨w.heap.size,1,none⟩=some (.slice B m d) from T0
     cases hlf:lessF ys xs with
     | true =>
      rw [hlf] at HLs
      have hT2:Hid ((es++[(⟨x,B,m,d,xs⟩:El)]++[(⟨y,B2,m2,d2,ys⟩:El)]).map El.mono++(if true=true then ms.drop (k+1) else putR (ms.drop (k+1)) (x,xs))=putR ms (x0,xs)):=by
       show _=_
       rw [← hT'.out];simp [hlf,El.mono]
      have hpl3:Hid (true=true→∀ q∈ms.drop (k+1),q.2≠xs):=fun _ q hq e=>by
       have h1:=hds.out q hq
       rw [e] at h1
       have h2:=lessF_tr _ _ _ h1 hlf
       rw [lessF_irr] at h2
       cases h2
      clear hT' hlf hds hpl2
      go_wp2_with fail
      go_region_held3 (fun w'=>w'.cell? ⟨(ad.add (k*2)).block,(ad.add (k*2)).off+1,none⟩=some (.slice B2 m2 d2)∧w'.cell? ⟨w.heap.size,1,none⟩=some (.slice B m d)) (first | exact T0 | exact T1 | exact HTT.out _ | go_keep)
       (first
        | (go_at_call 101;refine HLs.out.mono ?_;rintro r w5 ⟨rfl,nq,rfl⟩;clear HLs))
      have bq:Below W2.heap.size W2 (W2.drewN (1+nq)):=below_drewN (Below.refl _ _) _
      replace hC2:=hide (hC2.out.below bq)
      replace hj2:=hide (hj2.out.below bq)
      replace hlw2:w.heap.size<(W2.drewN (1+nq)).heap.size:=hlw2
      clear T0 T1 HTT bq k2 HG2 HI2
      generalize W2.drewN (1+nq)=W2 at hC2 hj2 hlw2 ⊢
      have r0:=hj2.out.c 0 rfl
      have r1:=hj2.out.c 1 rfl
      have hwa:=hC2.out.bel.size
      go_upto_region 11 with (at_builtin;refine wpl_app1b rfl (.tmp 46) (.tmp 48) 34 rfl w.heap.size 67 i0 (.agg #[.int .i64 0,.slice none 0 0]) 2 32 Tryz.underlying34 hi0 hz0 hz1 hz2 rfl (by omega) W2 #[.int .i64 x,.slice B m d] _ rfl A2 n2 c2 1 _ rfl rfl hC2.out.own rfl (by simp [Value.oneCell']) (by omega) (by omega) hwa ?_;intro Aa ca wa happ hlta)
      have hCa:=hide (hC2.out.push (e:=⟨x,B,m,d,xs⟩) ⟨hx.out,HG.out⟩ happ)
      have hja:=hide (blk_grown hj2.out happ.2.1 hne.out)
      have hnea:Hid (∀ ad,Aa=some ad→ad.block≠w.heap.size):=fun ad e=>by
       rcases happ.2.2 with h1 | h1
       ·exact hne.out ad (h1 ad e)
       ·have:=h1 ad e
        omega
      have hlwa:w.heap.size<wa.heap.size:=by omega
      clear happ
      replace hne:=hnea
      replace hC2:=hCa
      replace hj2:=hja
      replace hlw2:=hlwa
      have A2e:A2=A2:=rfl
      clear r0 r1 hCa hja hnea hlwa A2e
      obtain ⟨k1,k2⟩:=HCL.out _ hC2.out.bel
      have hwb:=hC2.out.bel.size
      go_wp2_with (at_builtin;refine wpl_app1b rfl (.tmp 50) (.tmp 55) 34 rfl w.heap.size 67 i0 (.agg #[.int .i64 0,.slice none 0 0]) 2 32 Tryz.underlying34 hi0 hz0 hz1 hz2 rfl (by omega) _ #[.int .i64 y,.slice B2 m2 d2] _ rfl Aa (n2+1) ca 1 _ rfl rfl hC2.out.own rfl (by simp [Value.oneCell']) (by omega) (by omega) hwb ?_;intro Ab cb wb happ hltb)
      have hCb:=hide (hC2.out.push (e:=⟨y,B2,m2,d2,ys⟩) ⟨hyn,HI0.out⟩ happ)
      have hjb:=hide (blk_grown hj2.out happ.2.1 hne.out)
      have hneb:Hid (∀ ad,Ab=some ad→ad.block≠w.heap.size):=fun ad e=>by
       rcases happ.2.2 with h1 | h1
       ·exact hne.out ad (h1 ad e)
       ·have:=h1 ad e
        omega
      have hlwb:w.heap.size<wb.heap.size:=by omega
      clear happ
      clear hC2 hj2 k1 k2
      go_wp2_with fail
      go_roundw
      case rel=>exact ⟨k+1,(n2+1)+1,cb,Ab,(es++[(⟨x,B,m,d,xs⟩:El)])++[(⟨y,B2,m2,d2,ys⟩:El)],x,true,by omega,by go_num,rfl,rfl,by omega,hx.out,hCb.out,hjb.out,hneb.out,hT2.out,hide (fun _=>hpl3.out trivial)⟩
      case measure=>simp [intOf];omega
     | false =>
      rw [hlf] at HLs
      have hT2:Hid ((es++[(⟨y,B2,m2,d2,ys⟩:El)]).map El.mono++(if false=true then ms.drop (k+1) else putR (ms.drop (k+1)) (x,xs))=putR ms (x0,xs)):=by
       show _=_
       rw [← hT'.out];simp [hlf,El.mono]
      clear hT' hlf hds
      go_wp2_with fail
      go_region_held3 (fun w'=>w'.cell? ⟨(ad.add (k*2)).block,(ad.add (k*2)).off+1,none⟩=some (.slice B2 m2 d2)∧w'.cell? ⟨w.heap.size,1,none⟩=some (.slice B m d)) (first | exact T0 | exact T1 | exact HTT.out _ | go_keep)
       (first
        | (go_at_call 101;refine HLs.out.mono ?_;rintro r w5 ⟨rfl,nq,rfl⟩;clear HLs))
      have bq:Below W2.heap.size W2 (W2.drewN (1+nq)):=below_drewN (Below.refl _ _) _
      replace hC2:=hide (hC2.out.below bq)
      replace hj2:=hide (hj2.out.below bq)
      replace hlw2:w.heap.size<(W2.drewN (1+nq)).heap.size:=hlw2
      clear T0 T1 HTT bq k2 HG2 HI2
      generalize W2.drewN (1+nq)=W2 at hC2 hj2 hlw2 ⊢
      obtain ⟨k1,k2⟩:=HCL.out _ hC2.out.bel
      have hwa:=hC2.out.bel.size
      go_wp2_with (at_builtin;refine wpl_app1b rfl (.tmp 50) (.tmp 55) 34 rfl w.heap.size 67 i0 (.agg #[.int .i64 0,.slice none 0 0]) 2 32 Tryz.underlying34 hi0 hz0 hz1 hz2 rfl (by omega) _ #[.int .i64 y,.slice B2 m2 d2] _ rfl A2 n2 c2 1 _ rfl rfl hC2.out.own rfl (by simp [Value.oneCell']) (by omega) (by omega) hwa ?_;intro Aa ca wa happ hlta)
      have hCa:=hide (hC2.out.push (e:=⟨y,B2,m2,d2,ys⟩) ⟨hyn,HI0.out⟩ happ)
      have hja:=hide (blk_grown hj2.out happ.2.1 hne.out)
      have hnea:Hid (∀ ad,Aa=some ad→ad.block≠w.heap.size):=fun ad e=>by
       rcases happ.2.2 with h1 | h1
       ·exact hne.out ad (h1 ad e)
       ·have:=h1 ad e
        omega
      have hlwa:w.heap.size<wa.heap.size:=by omega
      clear happ
      clear hC2 hj2 k1 k2
      go_wp2_with fail
      go_roundw
      case rel=>exact ⟨k+1,n2+1,ca,Aa,es++[(⟨y,B2,m2,d2,ys⟩:El)],x,false,by omega,by go_num,rfl,rfl,by omega,hx.out,hCa.out,hja.out,hnea.out,hT2.out,hpl2.out⟩
      case measure=>simp [intOf];omega
  ·obtain rfl:n=k:=by omega
   have hnil:ms.drop n=[]:=List.drop_eq_nil_of_le (Nat.le_of_eq HP.out.len)
   rw [hnil] at hT
   cases placed with
   | true =>
    have hT2:Hid (es.map El.mono=putR ms (x0,xs)):=by show _=_;rw [← hT.out,if_pos rfl,List.append_nil]
    clear hT hpl hnil
    have hC2:=hC
    have hlw2:=hlw
    clear hC hlw hsz
    obtain ⟨W2,hW2⟩:∃ W2,W2=wr:=⟨_,rfl⟩
    rw [← hW2] at hC2 hlw2 hj ⊢
    clear hW2
    have hcb2:=own_capE hC2.out.own
    have hES:=hide fun j (e:El) (he:es[j]? = some e)=>hC2.out.pow e (List.mem_of_getElem? he)
    have a5:=below_alloc W2 (.cells #[] 67)
    have o5:(W2.alloc (.cells #[] 67)).ownsRow W2.heap.size 67 2 (.slice (some ⟨W2.heap.size,0,none⟩) 0 0) 0 (([]:List El).flatMap El.cells):=by
     simpa using World.ownsRow_lit (size:=2) (e:=67) W2 #[] 0 (Nat.le_refl _) (by unfold maxLen;omega) rfl
    have A5:=hide a5
    have O5:=hide o5
    clear a5 o5
    go_wp2_with fail
    generalize W2.alloc (.cells #[] 67)=W5 at A5 O5 ⊢
    go_loopw [8,9] (fun o i wr=>∃ (j n3 c3:Nat) (A3:Option Addr) (es3:List El),j≤n2∧i = .int .i64 j∧o = .slice A3 n3 c3∧n3≤j∧Hid (wr.ownsRow W2.heap.size 67 2 (.slice A3 n3 c3) n3 (es3.flatMap El.cells))∧Hid (es3.length=n3)∧Hid (Below W2.heap.size W2 wr)∧Hid (es3=(es.take j).filter nz)) (fun _ i _=>n2 - (intOf i).toNat)
    case atStart=>exact ⟨0,0,0,_,[],by omega,rfl,rfl,by omega,O5.out,rfl,A5.out,rfl⟩
    case round =>
     clear O5 A5
     obtain ⟨j,n3,c3,A3,es3,hj,rfl,rfl,hnj,hO3,hL3,hB3,hE3⟩:=hrel
     have hb3z:=hB3.out.size
     by_cases hlt3:j<n2
     ·obtain ⟨⟨x4,B4,m4,d4,xs4⟩,he4⟩:∃ e,es[j]? = some e:=⟨_,List.getElem?_eq_getElem (by have:=hC2.out.len;omega)⟩
      obtain ⟨g2,rfl,hg2,hg2h⟩:=own_formE hC2.out.own (by omega)
      have hOw:=owns_below hC2.out.own hB3.out (fun ad e=>(owns_lt hC2.out.own ad e).2)
      obtain ⟨e1,e2⟩:=elc_at es j _ he4
      have c1:=(hOw.cellAt (j*2) (by omega)).trans e1
      have c2':=(hOw.cellAt (j*2+1) (by omega)).trans e2
      simp only at c1 c2'
      have hfs:=hide (filter_step he4)
      clear e1 e2 hOw he4
      by_cases hz:x4=0
      ·have hE4:Hid (es3=(es.take (j+1)).filter nz):=by
        show _=_
        rw [hfs.out,if_neg (by simp [nz,hz]),List.append_nil]
        exact hE3.out
       subst hz
       clear hfs hE3
       go_wp2_with fail
       go_roundw
       case rel=>exact ⟨j+1,n3,c3,A3,es3,by omega,by go_num,rfl,by omega,hO3.out,hL3.out,hB3.out,hE4.out⟩
       case measure=>simp [intOf];omega
      ·have hne0:(x4 != 0)=true:=by simpa using hz
       have hE4:Hid (es3++[(⟨x4,B4,m4,d4,xs4⟩:El)]=(es.take (j+1)).filter nz):=by
        show _=_
        rw [hfs.out,if_pos (by simp [nz,hz]),← hE3.out]
       clear hfs hE3 hz
       go_wp2_with (at_builtin;refine wpl_app1b rfl (.tmp 76) (.tmp 81) 34 rfl W2.heap.size 67 i0 (.agg #[.int .i64 0,.slice none 0 0]) 2 32 Tryz.underlying34 hi0 hz0 hz1 hz2 rfl (by omega) _ #[.int .i64 x4,.slice B4 m4 d4] _ rfl A3 n3 c3 1 _ rfl rfl hO3.out rfl (by simp [Value.oneCell']) (by omega) (by omega) hb3z ?_;intro A6 c6 w6 happ hlt6)
       have hO6:Hid (w6.ownsRow W2.heap.size 67 2 (.slice A6 (n3+1) c6) (n3+1) ((es3++[(⟨x4,B4,m4,d4,xs4⟩:El)]).flatMap El.cells)):=by
        show World.ownsRow _ _ _ _ _ _ _
        rw [List.flatMap_append]
        exact happ.1
       have hB6:=hide (happ.low hB3.out hb3z (Nat.le_refl _) hO3.out)
       have hL6:Hid ((es3++[(⟨x4,B4,m4,d4,xs4⟩:El)]).length=n3+1):=by show _=_;rw [List.length_append,hL3.out];rfl
       clear happ hO3 hB3 hL3 c1 c2'
       go_wp2_with fail
       go_roundw
       case rel=>exact ⟨j+1,n3+1,c6,A6,_,by omega,by go_num,rfl,by omega,hO6.out,hL6.out,hB6.out,hE4.out⟩
       case measure=>simp [intOf];omega
     ·obtain rfl:n2=j:=by omega
      have hfin:Hid (es3.map El.mono=putF ms (x0,xs)):=by
       show _=_
       rw [putF,← hT2.out,hE3.out,List.take_of_length_le (Nat.le_of_eq hC2.out.len)]
       exact filter_mono es
      have hOut:Hid (OutL w wr lo A3 n3 c3 es3):=⟨owns_low hO3.out (Nat.le_of_lt hlw2),hL3.out,fun e he=>by
       rw [hE3.out] at he
       have h1:=(List.mem_filter.1 he).1
       exact hC2.out.pow e (List.mem_of_mem_take h1),hC2.out.bel.trans (hB3.out.mono (Nat.le_of_lt hlw2))⟩
      clear hE3 hO3 hL3 hB3
      go_wp2_with fail
      go_ret
      have hm:=hOut.out.mons hlo
      rw [hfin.out] at hm
      exact ⟨A3,n3,c3,rfl,hm,hOut.out.bel⟩
   | false =>
    have hT2:Hid ((es++[(⟨x,B,m,d,xs⟩:El)]).map El.mono=putR ms (x0,xs)):=by
     show _=_
     rw [← hT.out,if_neg (by simp),putR,List.map_append];rfl
    clear hT hpl hnil
    have r0:=hj.out.c 0 rfl
    have r1:=hj.out.c 1 rfl
    have hwa:=hC.out.bel.size
    go_wp2_with (at_builtin;refine wpl_app1b rfl (.tmp 59) (.tmp 61) 34 rfl w.heap.size 67 i0 (.agg #[.int .i64 0,.slice none 0 0]) 2 32 Tryz.underlying34 hi0 hz0 hz1 hz2 rfl (by omega) wr #[.int .i64 x,.slice B m d] _ rfl A2 n2 c2 1 _ rfl rfl hC.out.own rfl (by simp [Value.oneCell']) (by omega) (by omega) hwa ?_;intro Aa ca wa happ hlta)
    have hCa:=hide (hC.out.push (e:=⟨x,B,m,d,xs⟩) ⟨hx.out,HG.out⟩ happ)
    have hja:=hide (blk_grown hj.out happ.2.1 hne.out)
    have hnea:Hid (∀ ad,Aa=some ad→ad.block≠w.heap.size):=fun ad e=>by
     rcases happ.2.2 with h1 | h1
     ·exact hne.out ad (h1 ad e)
     ·have:=h1 ad e
      omega
    have hlwa:w.heap.size<wa.heap.size:=by omega
    clear happ
    have hC2:=hCa
    have hlw2:=hlwa
    clear hC hj hCa hja hnea hlwa r0 r1 hlw hsz hlta hwa hne
    obtain ⟨es',hes'⟩:∃ es',es'=es++[(⟨x,B,m,d,xs⟩:El)]:=⟨_,rfl⟩
    rw [← hes'] at hC2 hT2
    clear hes'
    obtain ⟨N2,hN2⟩:∃ N2,N2=n2+1:=⟨_,rfl⟩
    rw [← hN2] at hC2 ⊢
    have hN2b:N2≤2*n+1:=by omega
    clear hN2 hnk
    obtain ⟨W2,hW2⟩:∃ W2,W2=wa:=⟨_,rfl⟩
    rw [← hW2] at hC2 hlw2 ⊢
    clear hW2
    have hcb2:=own_capE hC2.out.own
    have hES:=hide fun j (e:El) (he:es'[j]? = some e)=>hC2.out.pow e (List.mem_of_getElem? he)
    have a5:=below_alloc W2 (.cells #[] 67)
    have o5:(W2.alloc (.cells #[] 67)).ownsRow W2.heap.size 67 2 (.slice (some ⟨W2.heap.size,0,none⟩) 0 0) 0 (([]:List El).flatMap El.cells):=by
     simpa using World.ownsRow_lit (size:=2) (e:=67) W2 #[] 0 (Nat.le_refl _) (by unfold maxLen;omega) rfl
    have A5:=hide a5
    have O5:=hide o5
    clear a5 o5
    go_wp2_with fail
    generalize W2.alloc (.cells #[] 67)=W5 at A5 O5 ⊢
    go_loopw [8,9] (fun o i wr=>∃ (j n3 c3:Nat) (A3:Option Addr) (es3:List El),j≤N2∧i = .int .i64 j∧o = .slice A3 n3 c3∧n3≤j∧Hid (wr.ownsRow W2.heap.size 67 2 (.slice A3 n3 c3) n3 (es3.flatMap El.cells))∧Hid (es3.length=n3)∧Hid (Below W2.heap.size W2 wr)∧Hid (es3=(es'.take j).filter nz)) (fun _ i _=>N2 - (intOf i).toNat)
    case atStart=>exact ⟨0,0,0,_,[],by omega,rfl,rfl,by omega,O5.out,rfl,A5.out,rfl⟩
    case round =>
     clear O5 A5
     obtain ⟨j,n3,c3,A3,es3,hj,rfl,rfl,hnj,hO3,hL3,hB3,hE3⟩:=hrel
     have hb3z:=hB3.out.size
     by_cases hlt3:j<N2
     ·obtain ⟨⟨x4,B4,m4,d4,xs4⟩,he4⟩:∃ e,es'[j]? = some e:=⟨_,List.getElem?_eq_getElem (by have:=hC2.out.len;omega)⟩
      obtain ⟨g2,rfl,hg2,hg2h⟩:=own_formE hC2.out.own (by omega)
      have hOw:=owns_below hC2.out.own hB3.out (fun ad e=>(owns_lt hC2.out.own ad e).2)
      obtain ⟨e1,e2⟩:=elc_at es' j _ he4
      have c1:=(hOw.cellAt (j*2) (by omega)).trans e1
      have c2':=(hOw.cellAt (j*2+1) (by omega)).trans e2
      simp only at c1 c2'
      have hfs:=hide (filter_step he4)
      clear e1 e2 hOw he4
      by_cases hz:x4=0
      ·have hE4:Hid (es3=(es'.take (j+1)).filter nz):=by
        show _=_
        rw [hfs.out,if_neg (by simp [nz,hz]),List.append_nil]
        exact hE3.out
       subst hz
       clear hfs hE3
       go_wp2_with fail
       go_roundw
       case rel=>exact ⟨j+1,n3,c3,A3,es3,by omega,by go_num,rfl,by omega,hO3.out,hL3.out,hB3.out,hE4.out⟩
       case measure=>simp [intOf];omega
      ·have hne0:(x4 != 0)=true:=by simpa using hz
       have hE4:Hid (es3++[(⟨x4,B4,m4,d4,xs4⟩:El)]=(es'.take (j+1)).filter nz):=by
        show _=_
        rw [hfs.out,if_pos (by simp [nz,hz]),← hE3.out]
       clear hfs hE3 hz
       go_wp2_with (at_builtin;refine wpl_app1b rfl (.tmp 76) (.tmp 81) 34 rfl W2.heap.size 67 i0 (.agg #[.int .i64 0,.slice none 0 0]) 2 32 Tryz.underlying34 hi0 hz0 hz1 hz2 rfl (by omega) _ #[.int .i64 x4,.slice B4 m4 d4] _ rfl A3 n3 c3 1 _ rfl rfl hO3.out rfl (by simp [Value.oneCell']) (by omega) (by omega) hb3z ?_;intro A6 c6 w6 happ hlt6)
       have hO6:Hid (w6.ownsRow W2.heap.size 67 2 (.slice A6 (n3+1) c6) (n3+1) ((es3++[(⟨x4,B4,m4,d4,xs4⟩:El)]).flatMap El.cells)):=by
        show World.ownsRow _ _ _ _ _ _ _
        rw [List.flatMap_append]
        exact happ.1
       have hB6:=hide (happ.low hB3.out hb3z (Nat.le_refl _) hO3.out)
       have hL6:Hid ((es3++[(⟨x4,B4,m4,d4,xs4⟩:El)]).length=n3+1):=by show _=_;rw [List.length_append,hL3.out];rfl
       clear happ hO3 hB3 hL3 c1 c2'
       go_wp2_with fail
       go_roundw
       case rel=>exact ⟨j+1,n3+1,c6,A6,_,by omega,by go_num,rfl,by omega,hO6.out,hL6.out,hB6.out,hE4.out⟩
       case measure=>simp [intOf];omega
     ·obtain rfl:N2=j:=by omega
      have hfin:Hid (es3.map El.mono=putF ms (x0,xs)):=by
       show _=_
       rw [putF,← hT2.out,hE3.out,List.take_of_length_le (Nat.le_of_eq hC2.out.len)]
       exact filter_mono es'
      have hOut:Hid (OutL w wr lo A3 n3 c3 es3):=⟨owns_low hO3.out (Nat.le_of_lt hlw2),hL3.out,fun e he=>by
       rw [hE3.out] at he
       have h1:=(List.mem_filter.1 he).1
       exact hC2.out.pow e (List.mem_of_mem_take h1),hC2.out.bel.trans (hB3.out.mono (Nat.le_of_lt hlw2))⟩
      clear hE3 hO3 hL3 hB3
      go_wp2_with fail
      go_ret
      have hm:=hOut.out.mons hlo
      rw [hfin.out] at hm
      exact ⟨A3,n3,c3,rfl,hm,hOut.out.bel⟩
end Go.Proofs.YtomgcbfcnjbofaaGreat
