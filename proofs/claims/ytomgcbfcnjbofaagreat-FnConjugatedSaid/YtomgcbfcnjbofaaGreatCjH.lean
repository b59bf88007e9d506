/- The field of the tangents of a field of two variables: the program's walk. -/
import Derived.Test.YtomgcbfcnjbofaaGreatCjF
import Derived.Test.YtomgcbfcnjbofaaGreatMgQ
import Derived.Test.YtomgcbfcnjbofaaGreatMgR
import Derived.Test.YtomgcbfcnjbofaaGreatMgI
import Derived.Test.YtomgcbfcnjbofaaGreatMgG
namespace Go.Proofs.YtomgcbfcnjbofaaGreat
open Go.RowKit
open List renaming setIfInBounds_toArray → sTA, set_cons_zero → sC0, set_cons_succ → sC1, getElem_toArray → gTA, getElem_cons_zero → gC0, getElem_cons_succ → gC1
open Nat renaming le_refl → lR
set_option linter.unusedSimpArgs false
set_option linter.unusedVariables false
set_option maxRecDepth 20000
theorem owp_appM {P:Program} {o:Oper} {a:Act} {K:Act→World→Prop} {Q:Exit→Act→World→Prop} (s x:Operand) (t:TypeId)
  (ho:o.op = .call { callee := .builtin .append,args := #[s,x],argTypes := #[t,t] }) (w:World)
  (base:Nat) (e:TypeId) (i:TypeInfo) (z:Value) (size bytes:Nat) (ht:P.underlying t=some (.slice e)) (hi:P.info? e=some i) (hz:i.zero=some z)
  (hsize:i.size=size) (hby:i.bytes=bytes) (hzs:z.cells.size=size) (hsz:0<size)
  (A:Option Addr) (n c:Nat) (xs:List Value) (hs:a.eval s = .slice A n c) (hown:w.ownsRow base e size (.slice A n c) n xs)
  (B:Option Addr) (m d:Nat) (news:List Value) (hx:a.eval x = .slice B m d) (hl:news.length=m*size) (hnews:∀ ad,B=some ad→∀ j u,news[j]? = some u→w.cell? (ad.add j)=some u) (hB:B=none→m=0∧d=0) (h1:∀ u∈news,u.oneCell'=true)
  (h63:n+m≤1099511627776) (hbytes:bytes≤128) (hbase:base≤w.heap.size)
  (h:∀ A' c' w',Appended w base e size A n c A' (n+m) c' (xs++news) w'→K (a.put o.dst (.slice A' (n+m) c')) w'):Oper.wp P o a w K Q:=by
 cases B with
 | some ad =>
  obtain ⟨A',c',w',hrun,h2⟩:=run_app (P:=P) w base t o.type e i z size bytes ht hi hz hsize hby hzs hsz A n c xs hown ad m d news hl (hnews ad rfl) h1 h63 hbytes hbase
  exact Lib.wp_append_run w s x _ _ ho _ _ hs hx _ _ hrun (h A' c' w' h2)
 | none =>
  obtain ⟨rfl,rfl⟩:=hB rfl
  obtain rfl:news=[]:=List.eq_nil_of_length_eq_zero (by simpa using hl)
  have hrun:=run_append_owned_none (P:=P) w base t o.type e i size ht hi (.slice A n c) n xs hown
  exact Lib.wp_append_run w s x _ _ ho _ _ hs hx _ _ hrun (h A c w ⟨by simpa using hown,World.grownBy.refl _ _,.inl fun _ h=>h⟩)
theorem LstE.cellsAll {w:World} {lo hi n c:Nat} {ad:Addr} {es:List El} (h:LstE w lo hi (some ad) n c es):∀ j u,(es.flatMap El.cells)[j]? = some u→w.cell? (ad.add j)=some u:=by
 rcases h.own.2 with ⟨e,_⟩ | ⟨g,cap,cur,e,_⟩
 ·injection e with e;cases e
 ·injection e with e
  injection e with e
  subst e
  exact h.own.cells (g:=g) rfl
theorem part_two {ms:List Mono} {k:Nat} (h:∀ m∈ms,m.2.length=2∧∀ x∈m.2,0≤x∧x≤1048576):∀ m∈partF ms k,m.2.length=2∧∀ x∈m.2,0≤x∧x≤1048576:=fun m hm=>(partF_mem h m hm).1
theorem impl_collectU (A:Option Addr) (n c:Nat) (es:List El) (lo hi:Nat) (w:World) (h:LstE w lo hi A n c es) (hh:hi≤w.heap.size) (hlo:lo≤w.heap.size) (hn:n≤549755813888) (hnum:∀ e∈es,0≤e.x∧e.x<1000000271) :
  Calls Tryz.prog 44 #[.slice A n c] w fun r w'=>∃ A' n' c' ms',r = .returned (.slice A' n' c')∧Mons w' lo w'.heap.size A' n' c' ms'∧ColP (es.map El.mono) ms'∧Below lo w w':=by
 by_cases hn0:n=0
 ·subst hn0
  have hes:es=[]:=List.eq_nil_of_length_eq_zero h.len
  subst hes
  refine (impl_collect0 A c w).mono ?_
  rintro r w1 ⟨A1,n1,c1,rfl,hP1,hb1⟩
  exact ⟨A1,n1,c1,[],rfl,hP1.wide hlo (lR _),⟨lR _,by simp,by simp,fun _=>rfl⟩,hb1.mono hlo⟩
 ·obtain ⟨ga,rfl,hg1,hg2,hg3⟩:=h.form (by omega)
  refine (impl_collect ga n c es lo hi w h hh hlo hn hnum).mono ?_
  rintro r w1 ⟨A1,n1,c1,ms',rfl,hP1,hcol,ht⟩
  exact ⟨A1,n1,c1,ms',rfl,hP1,hcol,ht.below hg1 hlo⟩
def tanT (p:List Mono):Nat→List Mono
 | 0=>[]
 | k+1=>tanT p k++wideL (partF p k) (2+k:Nat)
theorem tanT_succ (p:List Mono) (k:Nat):tanT p (k+1)=tanT p k++wideL (partF p k) (2+k:Nat):=rfl
theorem tanT_two (p:List Mono):tanT p 2=wide1 (partF p 0) 0++wide1 (partF p 1) 1:=by
 rw [tanT,tanT,tanT,wideL_up,wideL_up]
 rfl
structure TanS (w wr:World) (gO hi:Nat) (F:Option Addr) (ef:Nat) (A:Option Addr) (n c:Nat) (vs:List Value) (made:List (List Mono)):Prop where
 jF:BlkN wr w.heap.size #[.int .i64 2,.slice F 2 ef]
 jR:BlkN wr (w.heap.size+1) #[.int .i64 0,.slice none 0 0]
 jO:BlkN wr gO #[.int .i64 4,.slice A n c]
 lst:Lst kMo 34 (fun _=>True) wr (gO+1) hi A n c vs made
 low:Below w.heap.size w wr
 gOb:w.heap.size+1<gO
 gl:gO<hi
 hw:hi≤wr.heap.size
theorem TanS.below {w wr w':World} {gO hi:Nat} {F:Option Addr} {ef:Nat} {A:Option Addr} {n c:Nat} {vs:List Value} {made:List (List Mono)} (h:TanS w wr gO hi F ef A n c vs made) {B:Nat} (hb:Below B wr w') (hB:hi≤B):TanS w w' gO hi F ef A n c vs made:=by
 have h1:=h.gOb
 have h2:=h.gl
 exact ⟨h.jF.same (hb.block _ (by omega)),h.jR.same (hb.block _ (by omega)),h.jO.same (hb.block _ (by omega)),h.lst.below hb hB,h.low.trans (hb.mono (by omega)),h.gOb,h.gl,by have:=hb.size;have:=h.hw;omega⟩
theorem TanS.up {w wr:World} {gO hi:Nat} {F:Option Addr} {ef:Nat} {A:Option Addr} {n c:Nat} {vs:List Value} {made:List (List Mono)} (h:TanS w wr gO hi F ef A n c vs made):TanS w wr gO wr.heap.size F ef A n c vs made :=
 ⟨h.jF,h.jR,h.jO,h.lst.wide h.hw,h.low,h.gOb,by have:=h.gl;have:=h.hw;omega,lR _⟩
theorem wideL_len {p:List Mono} {v:Int} (h:∀ m∈p,m.2.length=2):∀ m∈wideL p v,m.2.length=4:=by
 intro m hm
 obtain ⟨a,ha,rfl⟩:=List.mem_map.1 hm
 show (wv v a.2).length=4
 unfold wv
 split <;> simp [h a ha]
theorem tanT_len {p:List Mono} (h:∀ m∈p,m.2.length=2):∀ k,∀ m∈tanT p k,m.2.length=4
 | 0,m,hm=>by simp [tanT] at hm
 | k+1,m,hm=>by
  rw [tanT_succ] at hm
  rcases List.mem_append.1 hm with h1 | h1
  ·exact tanT_len h k m h1
  ·refine wideL_len (fun m hm=>?_) m h1
   simp only [partF,List.mem_filterMap] at hm
   obtain ⟨m0,h0,h1⟩:=hm
   obtain ⟨h2,rfl⟩:=partM_some h1
   simp [h m0 h0]
theorem impl_Tangent0 (w:World) :
  Calls Tryz.prog 11 #[.agg #[.int .i64 0,.slice none 0 0]] w fun e w'=>Below w.heap.size w w'∧e = .returned (.tuple #[.agg #[.int .i64 0,.slice none 0 0],.bool false]):=by
 have a1:=below_alloc w (.cells #[.int .i64 0,.slice none 0 0] 40)
 have z1:(w.alloc (.cells #[.int .i64 0,.slice none 0 0] 40)).heap.size=w.heap.size+1:=by simp
 have j1:=BlkN.new w #[.int .i64 0,.slice none 0 0] 40
 have a2:=below_alloc (w.alloc (.cells #[.int .i64 0,.slice none 0 0] 40)) (.cells #[.int .i64 0,.slice none 0 0] 40)
 have j2:=BlkN.new (w.alloc (.cells #[.int .i64 0,.slice none 0 0] 40)) #[.int .i64 0,.slice none 0 0] 40
 rw [z1] at j2
 have k1:=j1.below a2
 have b2:=a1.trans (a2.mono a1.size)
 have hz2:w.heap.size+1<((w.alloc (.cells #[.int .i64 0,.slice none 0 0] 40)).alloc (.cells #[.int .i64 0,.slice none 0 0] 40)).heap.size:=by simp
 have HFo:=hide (impl_FieldOk 0 none 0 0 [] 0 w.heap.size ((w.alloc (.cells #[.int .i64 0,.slice none 0 0] 40)).alloc (.cells #[.int .i64 0,.slice none 0 0] 40)) ⟨rfl,lR _,by omega,fun h=>absurd h (by omega)⟩ b2.size (by simp))
 have HJ:=hide j2
 have HB:=hide b2
 have c0:=k1.c 0 rfl
 have c1:=k1.c 1 rfl
 clear a1 z1 j1 a2 j2 k1 b2
 go_enter Tryz.func11,Tryz.ntmps11
 go_upto_region 1 with fail
 go_wp2_with fail
 refine HFo.out.mono ?_
 rintro e w2 ⟨rfl,hb2⟩
 have hf0:fieldF 0 []=false:=rfl
 rw [hf0]
 have HJ2:=HJ.out.below hb2
 have g0:=HJ2.c 0 rfl
 have g1:=HJ2.c 1 rfl
 have g2:=HJ2.f 0
 have g3:=HJ2.f 1
 have g4:=HJ2.lt
 have HB2:=hide (HB.out.trans (hb2.mono HB.out.size))
 clear HFo HJ HB hb2 c0 c1
 go_wp2_with fail
 refine bodyPost_ret (v := .tuple #[.agg #[.int .i64 0,.slice none 0 0],.bool false]) (by simp [results,Tryz.results11,go_sem,g0,g1,g2,g3,g4]) rfl ⟨?_,rfl⟩
 exact (HB2.out.setCell (p:=⟨w.heap.size+1,0,none⟩) (Nat.le_succ _) _).setCell (p:=⟨w.heap.size+1,1,none⟩) (Nat.le_succ _) _
set_option maxRecDepth 100000 in
set_option maxHeartbeats 16000000 in
theorem impl_Tangent (F:Option Addr) (ef:Nat) (f0 f1:List Mono) (lo hi:Nat) (w:World) (h:Mons2 w lo hi F 2 ef [f0,f1]) (hh:hi≤w.heap.size) (hlen:∀ p∈[f0,f1],∀ m∈p,m.2.length≤1048576) :
  Calls Tryz.prog 11 #[.agg #[.int .i64 2,.slice F 2 ef]] w fun e w'=>Below w.heap.size w w'∧(e = .returned (.tuple #[.agg #[.int .i64 0,.slice none 0 0],.bool false])∨∃ g cP qs,e = .returned (.tuple #[.agg #[.int .i64 4,.slice (some ⟨g,0,none⟩) 4 cP],.bool true])∧Mons2 w' w.heap.size w'.heap.size (some ⟨g,0,none⟩) 4 cP qs∧TanP f0 f1 qs∧fieldF 4 qs=true):=by
 obtain ⟨i0,hi0,hz0,hz1',hz2'⟩:=info_parts info_mono
 obtain ⟨i1,hi1,hy0,hy1,hy2⟩:=info_parts info_monosC
 have hcp:=h.cap
 have hmx:=h.max
 have HP:=hide h
 have a1:=below_alloc w (.cells #[.int .i64 2,.slice F 2 ef] 40)
 have z1:(w.alloc (.cells #[.int .i64 2,.slice F 2 ef] 40)).heap.size=w.heap.size+1:=by simp
 have j1:=BlkN.new w #[.int .i64 2,.slice F 2 ef] 40
 have a2:=below_alloc (w.alloc (.cells #[.int .i64 2,.slice F 2 ef] 40)) (.cells #[.int .i64 0,.slice none 0 0] 40)
 have j2:=BlkN.new (w.alloc (.cells #[.int .i64 2,.slice F 2 ef] 40)) #[.int .i64 0,.slice none 0 0] 40
 rw [z1] at j2
 have HJF:=hide (j1.below a2)
 have HB0:=hide (a1.trans (a2.mono a1.size))
 have HJR:=hide j2
 have hz2:w.heap.size+1<((w.alloc (.cells #[.int .i64 2,.slice F 2 ef] 40)).alloc (.cells #[.int .i64 0,.slice none 0 0] 40)).heap.size:=by simp
 have HFo:=hide (impl_FieldOk 2 F 2 ef [f0,f1] lo hi ((w.alloc (.cells #[.int .i64 2,.slice F 2 ef] 40)).alloc (.cells #[.int .i64 0,.slice none 0 0] 40)) (h.below HB0.out hh) (by have:=HB0.out.size;omega) hlen)
 have c0:=HJF.out.c 0 rfl
 have c1:=HJF.out.c 1 rfl
 have hw4:IntKind.i64.wrap 4=4:=by decide
 clear h a1 z1 j1 a2 j2
 go_enter Tryz.func11,Tryz.ntmps11
 go_upto_region 1 with fail
 generalize (w.alloc (.cells #[.int .i64 2,.slice F 2 ef] 40)).alloc (.cells #[.int .i64 0,.slice none 0 0] 40)=W1 at HJF HB0 HJR hz2 HFo c0 c1 ⊢
 go_wp2_with fail
 refine HFo.out.mono ?_
 rintro e w2 ⟨rfl,hb2⟩
 have HF2:=hide (HJF.out.below hb2)
 have HR2:=hide (HJR.out.below hb2)
 have HB2:=hide (HB0.out.trans (hb2.mono HB0.out.size))
 have hz3:=hb2.size
 clear HFo HJF HJR HB0 hb2 c0 c1
 have k0:=HF2.out.c 0 rfl
 have k1:=HF2.out.c 1 rfl
 cases hf:fieldF 2 [f0,f1] with
 | false =>
  have g0:=HR2.out.c 0 rfl
  have g1:=HR2.out.c 1 rfl
  have g2:=HR2.out.f 0
  have g3:=HR2.out.f 1
  have g4:=HR2.out.lt
  go_wp2_with fail
  refine bodyPost_ret (v := .tuple #[.agg #[.int .i64 0,.slice none 0 0],.bool false]) (by simp [results,Tryz.results11,go_sem,g0,g1,g2,g3,g4]) rfl ⟨?_,.inl rfl⟩
  exact (HB2.out.setCell (p:=⟨w.heap.size+1,0,none⟩) (Nat.le_succ _) _).setCell (p:=⟨w.heap.size+1,1,none⟩) (Nat.le_succ _) _
 | true =>
  obtain ⟨dd,hdd,hfp,_,_,_⟩:=fld_of hf
  obtain rfl:dd=2:=by omega
  have HFP:=hide hfp
  have HPL:Hid (∀ p∈[f0,f1],p.length≤12∧∀ m∈p,m.2.length=2∧∀ x∈m.2,0≤x∧x≤1048576):=fun p hp=>⟨(HFP.out.part p hp).1,fun m hm=>⟨((HFP.out.part p hp).2 m hm).1,fun x hx=>by have:=((HFP.out.part p hp).2 m hm).2 x hx;omega⟩⟩
  clear hf hdd hfp hlen
  have aO:=below_alloc w2 (.cells #[.int .i64 4,.slice none 0 0] 40)
  have SO:Hid (TanS w (w2.alloc (.cells #[.int .i64 4,.slice none 0 0] 40)) w2.heap.size (w2.alloc (.cells #[.int .i64 4,.slice none 0 0] 40)).heap.size F ef none 0 0 [] []) :=
   ⟨HF2.out.below aO,HR2.out.below aO,BlkN.new _ _ _,⟨World.ownsRow_nil _ _ _ 1,fun ad e=>(by cases e),rfl,fun j x hx _=>(by simp at hx)⟩,HB2.out.trans (aO.mono HB2.out.size),by omega,by simp,lR _⟩
  clear aO
  go_upto_region 5 with fail
  generalize w2.alloc (.cells #[.int .i64 4,.slice none 0 0] 40)=W3 at SO ⊢
  obtain ⟨gO,hgO⟩:∃ z,z=w2.heap.size:=⟨_,rfl⟩
  rw [← hgO] at SO hz3 ⊢
  clear hgO k0 k1 HF2 HR2 HB2
  have k0:=SO.out.jF.c 0 rfl
  have k1:=SO.out.jF.c 1 rfl
  have hgo:=SO.out.gOb
  go_wp2_with fail
  clear k0 k1
  go_loopw [30] (fun i wr=>∃ (j n c:Nat) (A:Option Addr) (vs:List Value) (made:List (List Mono)),j≤2∧i = .int .i64 j∧(j≤n∧n≤j)∧Hid (made=([f0,f1].take j).map wide0)∧Hid (TanS w wr gO wr.heap.size F ef A n c vs made)) (fun i _=>2 - (intOf i).toNat)
  case atStart=>exact ⟨0,0,0,none,[],[],by omega,rfl,by omega,rfl,SO.out⟩
  case round =>
   clear SO
   obtain ⟨j,n,c,A,vs,made,hj,rfl,hnj,hmade,hS⟩:=hrel
   by_cases hlt:j<2
   ·obtain ⟨ad,B,m,d,p,rfl,hc1,hp,_,hx⟩:=(HP.out.below hS.out.low hh).at_ hlt
    obtain ⟨hpl,hpv⟩:=HPL.out p (List.mem_of_getElem? hx.out)
    have hml:m≤12:=by rw [← hp.len];exact hpl
    have hpc:=hp.cap
    have hpm:=hp.max
    have HPp:=hide (hp.across2 hS.out.low (Below.refl w.heap.size w) hh)
    have HPl:=hide hpv
    have hcb:=hS.out.lst.capb
    have hwl:=hS.out.low.size
    have SV:=hide (hS.out.below (Below.refl wr.heap.size wr).drew (lR _))
    clear hp hpv hpl hS
    go_upto_region 8 with fail
    clear hc1
    refine wp_region_Z (fun W'=>W'.cell? ⟨gO,1,none⟩=some (.slice A n c)) 8 (by kernel_rfl) ?_
    simp only [List.size_toArray,List.length_cons,List.length_nil,Nat.reduceAdd]
    have hS0:wr.drew.cell? ⟨gO,1,none⟩=some (.slice A n c):=SV.out.jO.c 1 rfl
    have hVw:wr.heap.size≤wr.drew.heap.size∧wr.drew.heap.size≤wr.heap.size:=⟨lR _,lR _⟩
    generalize wr.drew=V at SV hS0 hVw ⊢
    refine wpAnyZ_takeW 0 (.pointer (some ⟨gO,1,none⟩)) rfl (by kernel_rfl) (by kernel_rfl) (fun _ _ _ h=>h) (by rfl) (fun _=>by first | (simp [go_sem];done) | go_simp) hS0 ?_
    try simp only [Act.put,sTA,sC0,sC1,gTA,gC0,gC1]
    refine wpAnyZ_take 1 (.slice A n c) rfl (by kernel_rfl) (by kernel_rfl) (fun _ _ _ h=>h) (by rfl) (fun _ hS=>by have q0:=hS;clear hS;first | (simp [go_sem,q0];done) | go_simp) hS0 ?_
    try simp only [Act.put,sTA,sC0,sC1,gTA,gC0,gC1]
    refine wpAnyZ_takeW 2 (.func (.func 42) #[] #[.pointer (some ⟨w.heap.size,0,none⟩)]) rfl (by kernel_rfl) (by kernel_rfl) (fun _ _ _ h=>h) (by rfl) (fun _=>by first | (simp [go_sem];done) | go_simp) hS0 ?_
    try simp only [Act.put,sTA,sC0,sC1,gTA,gC0,gC1]
    refine wpAnyZ_takeW 3 (.slice B m d) rfl (by kernel_rfl) (by kernel_rfl) (fun _ _ _ h=>h) (by rfl) (fun _=>by first | (simp [go_sem];done) | go_simp) hS0 ?_
    try simp only [Act.put,sTA,sC0,sC1,gTA,gC0,gC1]
    refine wpAnyZ_one 4 (by kernel_rfl) rfl (by rfl) (fun K hK=>?_)
    go_simp
    refine (impl_wide B m d p (-1) w.heap.size lo hi V (HPp.out.below (SV.out.low.mono (lR _)) hh) (by have:=SV.out.low.size;omega) (by omega) (by omega) (by omega) (SV.out.jF.c 0 rfl) HPl.out).mono ?_
    rintro e x1 ⟨A1,c1,es1,rfl,hE1,hM1,hb1⟩
    have HE1:=hide hE1
    have HM1:=hide hM1
    have SV1:=hide (SV.out.below hb1 (by omega))
    have HB1:=hide hb1
    have hz1:=hb1.size
    have hS1:=SV1.out.jO.c 1 rfl
    clear hE1 hM1 hb1
    go_wp2_with fail
    refine hK.out _ _ hS1 ?_
    clear hK K
    try simp only [Act.put,sTA,sC0,sC1,gTA,gC0,gC1]
    refine wpAnyZ_one 5 (by kernel_rfl) rfl (by rfl) (fun K hK=>?_)
    go_simp
    have hS2:=((below_alloc x1 (.cells #[.slice A1 m c1] 34)).cell (p:=⟨gO,1,none⟩) (World.block_lt_of_cell? _ _ hS1)).trans hS1
    refine hK.out _ _ hS2 ?_
    clear hK K
    try simp only [Act.put,sTA,sC0,sC1,gTA,gC0,gC1]
    refine wpAnyZ_one 6 (by kernel_rfl) rfl (by rfl) (fun K hK=>?_)
    refine owp_appJ (.tmp 35) (.tmp 39) 38 rfl (gO+1) 34 i1 (.slice none 0 0) 1 24 Tryz.underlying38 hi1 hy0 hy1 hy2 rfl (by omega) x1 #[.slice A1 m c1] _ rfl A n c 1 _ rfl rfl SV1.out.lst.own rfl (by simp [Value.oneCell']) (by omega) (by omega) (by have:=SV1.out.gl;have:=SV1.out.hw;omega) ?_
    intro A3 c3 w5 happ hlt5
    have hL5:=hide (SV1.out.lst.push (show kMo.rd x1 V.heap.size x1.heap.size (.slice A1 m c1) (es1.map El.mono) from ⟨_,_,_,rfl,HE1.out.mons⟩) (by have:=SV1.out.hw;omega) (lR _) (by have:=SV1.out.gl;omega) SV1.out.hw happ)
    have hB5:=hide (happ.low (B:=gO+1) (Below.refl (gO+1) x1) (by have:=SV1.out.gl;have:=SV1.out.hw;omega) (lR _) SV1.out.lst.own)
    have hO5:=hide (SV1.out.jO.same (hB5.out.block gO (by omega)))
    have hS4:=hO5.out.c 1 rfl
    clear happ hS2
    refine hK.out _ _ hS4 ?_
    clear hK K
    try simp only [Act.put,sTA,sC0,sC1,gTA,gC0,gC1]
    refine wpAnyZ_takeW 7 (.pointer (some ⟨gO,1,none⟩)) rfl (by kernel_rfl) (by kernel_rfl) (fun _ _ _ h=>h) (by rfl) (fun _=>by first | (simp [go_sem];done) | go_simp) hS4 ?_
    try simp only [Act.put,sTA,sC0,sC1,gTA,gC0,gC1]
    have g0:=hO5.out.c 1 rfl
    have g1:=hO5.out.f 1
    refine wpAnyZ_last (by kernel_rfl) rfl (by kernel_rfl) (by rfl) (fun K hK=>?_)
    go_simp
    refine hK _ _ ?_
    clear hK K g0 g1 hS4
    have S6:Hid (TanS w (w5.setCell ⟨gO,1,none⟩ (.slice A3 (n+1) c3)) gO (w5.setCell ⟨gO,1,none⟩ (.slice A3 (n+1) c3)).heap.size (some ad) ef A3 (n+1) c3 (vs++[.slice A1 m c1]) (made++[es1.map El.mono])):=by
     have hsx:(w5.setCell ⟨gO,1,none⟩ (.slice A3 (n+1) c3)).heap.size=w5.heap.size:=by simp [World.setCell]
     have t1:=hO5.out.set 1 (.slice A3 (n+1) c3)
     simp only [sTA,sC0,sC1] at t1
     refine ⟨(SV1.out.jF.same (hB5.out.block _ (by have:=SV1.out.gOb;omega))).far (b:=gO) (i:=1) (by have:=SV1.out.gOb;omega) _,(SV1.out.jR.same (hB5.out.block _ (by have:=SV1.out.gOb;omega))).far (b:=gO) (i:=1) (by have:=SV1.out.gOb;omega) _,t1,?_,?_,SV1.out.gOb,?_,lR _⟩
     ·rw [hsx]
      exact hL5.out.setLow (p:=⟨gO,1,none⟩) (Nat.lt_succ_self _) _
     ·exact (SV1.out.low.trans (hB5.out.mono (by have:=SV1.out.gOb;omega))).setCell (p:=⟨gO,1,none⟩) (by show w.heap.size≤gO;have:=SV1.out.gOb;omega) _
     ·rw [hsx]
      have:=SV1.out.gl
      have:=SV1.out.hw
      omega
    clear hL5 hB5 hO5
    have hmk:Hid (made++[es1.map El.mono]=([f0,f1].take (j+1)).map wide0):=by
     show _=_
     rw [hmade.out,HM1.out,wideL_none,List.take_add_one,hx.out,List.map_append]
     rfl
    clear hmade HM1
    go_wp2_with fail
    go_roundw
    case rel=>exact ⟨j+1,n+1,c3,A3,_,_,by omega,by go_num,by omega,hmk.out,S6.out⟩
    case measure=>simp [intOf];omega
   ·obtain rfl:j=2:=by omega
    have k1:=hS.out.jF.c 1 rfl
    go_wp2_with fail
    clear k1
    simp only [Int.cast_ofNat_Int]
    go_loopw [46] (fun i wr=>∃ (j n c:Nat) (A:Option Addr) (vs:List Value) (made:List (List Mono)),j≤2∧i = .int .i64 j∧(2+j≤n∧n≤2+j)∧Hid (∃ made2:List (List Mono),made=[wide0 f0,wide0 f1]++made2∧made2.length=j∧(∀ p∈made2,∀ m∈p,m.2.length=4)∧∀ (q:Nat) (p ms:List Mono),[f0,f1][q]? = some p→made2[q]? = some ms→∀ φ,sumM φ ms % 1000000271=sumM φ (tanT p 2) % 1000000271)∧Hid (TanS w wr gO wr.heap.size F ef A n c vs made)) (fun i _=>2 - (intOf i).toNat)
    case atStart=>exact ⟨0,n,c,A,vs,made,by omega,rfl,by omega,⟨[],by rw [hmade.out];rfl,rfl,by simp,fun q p ms _ hq=>by simp at hq⟩,hS.out⟩
    case round =>
     clear hmade hS hnj
     obtain ⟨j,n,c,A,vs,made,hj,rfl,hnj,hmade,hS⟩:=hrel
     by_cases hlt:j<2
     ·obtain ⟨ad,B,m,d,p,rfl,hc1,hp,_,hx⟩:=(HP.out.below hS.out.low hh).at_ hlt
      obtain ⟨hpl,hpv⟩:=HPL.out p (List.mem_of_getElem? hx.out)
      have hml:m≤12:=by rw [← hp.len];exact hpl
      have hpc:=hp.cap
      have hpm:=hp.max
      have HPp:=hide (hp.across2 hS.out.low (Below.refl w.heap.size w) hh)
      have HPl:=hide hpv
      have hcb:=hS.out.lst.capb
      have hwl:=hS.out.low.size
      have aQ:=below_alloc wr (.cells #[] 67)
      have SQ:=hide (hS.out.below aQ (lR _))
      have EQ0:=hide ((LstE.empty wr wr.heap.size (lR _)).wide (hi2:=(wr.alloc (.cells #[] 67)).heap.size) (by simp))
      have hzq:wr.heap.size<(wr.alloc (.cells #[] 67)).heap.size:=by simp
      have k0:=SQ.out.jF.c 0 rfl
      have hgl:=hS.out.gl
      clear hp hpv hpl hS aQ
      go_upto_region 14 with fail
      clear hc1
      generalize wr.alloc (.cells #[] 67)=WQ at SQ EQ0 hzq k0 ⊢
      obtain ⟨Lq,hLq⟩:∃ z,z=wr.heap.size:=⟨_,rfl⟩
      rw [← hLq] at SQ EQ0 hzq hgl hwl ⊢
      have hLqs:gO<Lq:=hgl
      clear hLq hgl
      go_wp2_with fail
      clear k0
      have hdj:decide ((j:Int)<2)=true:=by simp;omega
      simp only [hdj,Int.cast_ofNat_Int]
      clear hdj
      go_loopw [10,53] (fun u i wr=>∃ (k nq cq:Nat) (Aq:Option Addr) (es:List El),k≤2∧i = .int .i64 k∧u = .slice Aq nq cq∧nq≤k*12∧Hid (LstE wr Lq wr.heap.size Aq nq cq es)∧Hid (es.map El.mono=tanT p k)∧Hid (∀ e∈es,0≤e.x∧e.x<1000000271)∧Hid (TanS w wr gO Lq (some ad) ef A n c vs made)) (fun _ i _=>2 - (intOf i).toNat)
      case atStart=>exact ⟨0,0,0,_,[],by omega,rfl,rfl,by omega,EQ0.out,rfl,(fun e he=>absurd he (by simp):∀ e∈([]:List El),0≤e.x∧e.x<1000000271),SQ.out⟩
      case round =>
       clear SQ EQ0 hzq
       obtain ⟨k,nq,cq,Aq,es,hk,rfl,rfl,hnq,hE,HMq,HX,hS⟩:=hrel
       have hcq:=hE.out.capb
       have hLw:=hS.out.hw
       have SV:=hide (hS.out.below (Below.refl wr.heap.size wr).drew hLw)
       have HQV:=hide (hE.out.below (Below.refl wr.heap.size wr).drew (lR _))
       have hVw:wr.heap.size≤wr.drew.heap.size∧wr.drew.heap.size≤wr.heap.size:=⟨lR _,lR _⟩
       have hLqV:Lq≤wr.drew.heap.size:=hLw
       have hLqh:Lq≤Lq:=lR _
       by_cases hlt2:k<2
       ·have hw2k:IntKind.i64.wrap (2+(k:Int))=((2+k:Nat):Int):=by rw [show ((2+k:Nat):Int)=2+(k:Int) by simp];exact IntWalk.i64_in _ (by omega)
        have hS0:wr.drew.cell? ⟨w.heap.size,0,none⟩=some (.int .i64 2):=SV.out.jF.c 0 rfl
        clear hE hS
        go_upto_region 17 with fail
        refine wp_region_Z (fun W'=>W'.cell? ⟨w.heap.size,0,none⟩=some (.int .i64 2)) 11 (by kernel_rfl) ?_
        simp only [List.size_toArray,List.length_cons,List.length_nil,Nat.reduceAdd]
        have HQ0:Hid (LstE wr.drew Lq wr.drew.heap.size Aq nq cq es):=HQV.out
        clear HQV
        have HQV:=HQ0
        clear HQ0
        generalize wr.drew=V at SV HQV hVw hLqV hS0 ⊢
        refine wpAnyZ_takeW 0 ((.slice Aq nq cq)) rfl (by kernel_rfl) (by kernel_rfl) (fun _ _ _ h=>h) (by rfl) (fun _=>by first | (simp [go_sem];done) | go_simp) hS0 ?_
        try simp only [Act.put,sTA,sC0,sC1,gTA,gC0,gC1]
        refine wpAnyZ_takeW 1 (.func (.func 42) #[] #[.pointer (some ⟨w.heap.size,0,none⟩)]) rfl (by kernel_rfl) (by kernel_rfl) (fun _ _ _ h=>h) (by rfl) (fun _=>by first | (simp [go_sem];done) | go_simp) hS0 ?_
        try simp only [Act.put,sTA,sC0,sC1,gTA,gC0,gC1]
        refine wpAnyZ_takeW 2 (.slice B m d) rfl (by kernel_rfl) (by kernel_rfl) (fun _ _ _ h=>h) (by rfl) (fun _=>by first | (simp [go_sem];done) | go_simp) hS0 ?_
        try simp only [Act.put,sTA,sC0,sC1,gTA,gC0,gC1]
        refine wpAnyZ_takeW 3 (.int .i64 k) rfl (by kernel_rfl) (by kernel_rfl) (fun _ _ _ h=>h) (by rfl) (fun _=>by first | (simp [go_sem];done) | go_simp) hS0 ?_
        try simp only [Act.put,sTA,sC0,sC1,gTA,gC0,gC1]
        refine wpAnyZ_takeW 5 (.pointer (some ⟨w.heap.size,0,none⟩)) rfl (by kernel_rfl) (by kernel_rfl) (fun _ _ _ h=>h) (by rfl) (fun _=>by first | (simp [go_sem];done) | go_simp) hS0 ?_
        try simp only [Act.put,sTA,sC0,sC1,gTA,gC0,gC1]
        refine wpAnyZ_take 6 (.int .i64 2) rfl (by kernel_rfl) (by kernel_rfl) (fun _ _ _ h=>h) (by rfl) (fun _ hS=>by have q0:=hS;clear hS;first | (simp [go_sem,q0];done) | go_simp) hS0 ?_
        try simp only [Act.put,sTA,sC0,sC1,gTA,gC0,gC1]
        refine wpAnyZ_takeW 7 (.int .i64 k) rfl (by kernel_rfl) (by kernel_rfl) (fun _ _ _ h=>h) (by rfl) (fun _=>by first | (simp [go_sem];done) | go_simp) hS0 ?_
        try simp only [Act.put,sTA,sC0,sC1,gTA,gC0,gC1]
        refine wpAnyZ_takeW 8 (.int .i64 (2+k:Nat)) rfl (by kernel_rfl) (by kernel_rfl) (fun _ _ _ h=>h) (by rfl) (fun _=>by simp [go_sem,hw2k]) hS0 ?_
        try simp only [Act.put,sTA,sC0,sC1,gTA,gC0,gC1]
        refine wpAnyZ_one 4 (by kernel_rfl) rfl (by rfl) (fun K hK=>?_)
        go_simp
        refine (impl_partial B m d p lo hi k V (HPp.out.below SV.out.low hh) (by have:=SV.out.low.size;omega) (by omega) (fun q hq=>by have:=HPl.out q hq;omega) (by omega)).mono ?_
        rintro e x1 ⟨A1,n1,c1,rfl,hM1,hn1,hb1⟩
        have HM1:=hide hM1
        have HB1:=hide hb1
        have hz1:=hb1.size
        have hS1:=(hb1.cell (p:=⟨w.heap.size,0,none⟩) (World.block_lt_of_cell? _ _ hS0)).trans hS0
        clear hM1 hb1
        go_wp2_with fail
        refine hK.out _ _ hS1 ?_
        clear hK K
        try simp only [Act.put,sTA,sC0,sC1,gTA,gC0,gC1]
        refine wpAnyZ_one 9 (by kernel_rfl) rfl (by rfl) (fun K hK=>?_)
        go_simp
        refine (impl_wide A1 n1 c1 (partF p k) (2+k:Nat) w.heap.size V.heap.size x1.heap.size x1 HM1.out (lR _) (by omega) (by omega) (by omega) hS1 (fun q hq=>part_two HPl.out q hq)).mono ?_
        rintro e x2 ⟨A2,c2,es2,rfl,hE2,hM2,hb2⟩
        have HE2:=hide hE2
        have HM2:=hide hM2
        have HB2:=hide (HB1.out.trans (hb2.mono hz1))
        have hz2:=HB2.out.size
        have hz12:=hb2.size
        have hS2:=(hb2.cell (p:=⟨w.heap.size,0,none⟩) (World.block_lt_of_cell? _ _ hS1)).trans hS1
        have hcb2:=hE2.capb
        have hnc2:=hE2.nil_cap
        clear hE2 hM2 hb2
        go_wp2_with fail
        refine hK.out _ _ hS2 ?_
        clear hK K
        try simp only [Act.put,sTA,sC0,sC1,gTA,gC0,gC1]
        refine wpAnyZ_one 10 (by kernel_rfl) rfl (by rfl) (fun K hK=>?_)
        have HQ2:=hide (HQV.out.below HB2.out (lR _))
        refine owp_appM (.tmp 56) (.tmp 65) 34 rfl x2 Lq 67 i0 (.agg #[.int .i64 0,.slice none 0 0]) 2 32 Tryz.underlying34 hi0 hz0 hz1' hz2' rfl (by omega) Aq nq cq (es.flatMap El.cells) rfl HQ2.out.own A2 n1 c2 (es2.flatMap El.cells) rfl (by rw [elc_len,HE2.out.len]) (fun ad e=>by subst e;exact HE2.out.cellsAll) hnc2 (elc_one es2) (by omega) (by omega) (by omega) ?_
        intro A5 c5 w5 happ
        have hE5:Hid (LstE w5 Lq w5.heap.size A5 (nq+n1) c5 (es++es2)):=by
         have e:=happ
         rw [← HE2.out.len] at e
         have t1:=HQ2.out.cat (fs:=es2) (l:=x1.heap.size) (q:=x2.heap.size) (fun e0 he=>by obtain ⟨r,l,q,e1,e2,e3,_⟩:=HE2.out.row e0 he;exact ⟨r,e3.wide (by omega) (by omega)⟩) hz1 (lR _) (by omega) (by omega) e
         rw [HE2.out.len] at t1
         exact t1
        have hB5:=hide (happ.low (B:=Lq) (HB2.out.mono (by omega)) (by omega) (lR _) HQ2.out.own)
        have hS4:=(hB5.out.cell (p:=⟨w.heap.size,0,none⟩) (by show w.heap.size<Lq;omega)).trans hS0
        clear happ hS2 HQ2
        refine hK.out _ _ hS4 ?_
        clear hK K
        try simp only [Act.put,sTA,sC0,sC1,gTA,gC0,gC1]
        refine wpAnyZ_last (by kernel_rfl) rfl (by kernel_rfl) (by rfl) (fun K hK=>?_)
        clear hS4
        go_simp
        refine hK _ _ ?_
        clear hK K
        have S5:=hide (SV.out.below hB5.out hLqh)
        have hM5:Hid ((es++es2).map El.mono=tanT p (k+1)):=by
         show _=_
         rw [List.map_append,HMq.out,HM2.out,tanT_succ]
        have hX5:Hid (∀ e∈es++es2,0≤e.x∧e.x<1000000271):=fun e he=>by
         rcases List.mem_append.1 he with h1 | h1
         ·exact HX.out e h1
         ·have h2:e.mono∈wideL (partF p k) (2+k:Nat):=by rw [← HM2.out];exact List.mem_map_of_mem h1
          obtain ⟨a,ha,h3⟩:=List.mem_map.1 h2
          have h4:e.x=a.1:=by rw [show e.x=e.mono.1 from rfl,← h3]
          rw [h4]
          exact (partF_mem HPl.out a ha).2
        clear hB5
        go_wp2_with fail
        go_roundw
        case rel=>exact ⟨k+1,nq+n1,c5,A5,es++es2,by omega,by go_num,rfl,by omega,hE5.out,hM5.out,hX5.out,S5.out⟩
        case measure=>simp [intOf];omega
       ·obtain rfl:k=2:=by omega
        have hS0:wr.drew.cell? ⟨gO,1,none⟩=some (.slice A n c):=SV.out.jO.c 1 rfl
        clear hE hS
        go_upto_region 19 with fail
        refine wp_region_Z (fun W'=>W'.cell? ⟨gO,1,none⟩=some (.slice A n c)) 7 (by kernel_rfl) ?_
        simp only [List.size_toArray,List.length_cons,List.length_nil,Nat.reduceAdd]
        have HQ0:Hid (LstE wr.drew Lq wr.drew.heap.size Aq nq cq es):=HQV.out
        clear HQV
        have HQV:=HQ0
        clear HQ0
        generalize wr.drew=V at SV HQV hVw hLqV hS0 ⊢
        refine wpAnyZ_takeW 0 (.pointer (some ⟨gO,1,none⟩)) rfl (by kernel_rfl) (by kernel_rfl) (fun _ _ _ h=>h) (by rfl) (fun _=>by first | (simp [go_sem];done) | go_simp) hS0 ?_
        try simp only [Act.put,sTA,sC0,sC1,gTA,gC0,gC1]
        refine wpAnyZ_take 1 (.slice A n c) rfl (by kernel_rfl) (by kernel_rfl) (fun _ _ _ h=>h) (by rfl) (fun _ hS=>by have q0:=hS;clear hS;first | (simp [go_sem,q0];done) | go_simp) hS0 ?_
        try simp only [Act.put,sTA,sC0,sC1,gTA,gC0,gC1]
        refine wpAnyZ_takeW 2 ((.slice Aq nq cq)) rfl (by kernel_rfl) (by kernel_rfl) (fun _ _ _ h=>h) (by rfl) (fun _=>by first | (simp [go_sem];done) | go_simp) hS0 ?_
        try simp only [Act.put,sTA,sC0,sC1,gTA,gC0,gC1]
        refine wpAnyZ_one 3 (by kernel_rfl) rfl (by rfl) (fun K hK=>?_)
        go_simp
        refine (impl_collectU Aq nq cq es Lq V.heap.size V HQV.out (lR _) hLqV (by omega) HX.out).mono ?_
        rintro e x1 ⟨A1,n1,c1,ms1,rfl,hM1,hC1,hb1⟩
        have HM1:=hide hM1
        have HC1:=hide hC1
        have SV1:=hide (SV.out.below hb1 hLqh)
        have hz1:=hb1.size
        have hS1:=SV1.out.jO.c 1 rfl
        have hcb1:=hM1.cap
        have hcb1b:=hM1.max
        clear hM1 hC1 hb1
        go_wp2_with fail
        refine hK.out _ _ hS1 ?_
        clear hK K
        try simp only [Act.put,sTA,sC0,sC1,gTA,gC0,gC1]
        refine wpAnyZ_one 4 (by kernel_rfl) rfl (by rfl) (fun K hK=>?_)
        go_simp
        have hS2:=((below_alloc x1 (.cells #[.slice A1 n1 c1] 34)).cell (p:=⟨gO,1,none⟩) (World.block_lt_of_cell? _ _ hS1)).trans hS1
        refine hK.out _ _ hS2 ?_
        clear hK K
        try simp only [Act.put,sTA,sC0,sC1,gTA,gC0,gC1]
        refine wpAnyZ_one 5 (by kernel_rfl) rfl (by rfl) (fun K hK=>?_)
        refine owp_appJ (.tmp 69) (.tmp 72) 38 rfl (gO+1) 34 i1 (.slice none 0 0) 1 24 Tryz.underlying38 hi1 hy0 hy1 hy2 rfl (by omega) x1 #[.slice A1 n1 c1] _ rfl A n c 1 _ rfl rfl SV1.out.lst.own rfl (by simp [Value.oneCell']) (by omega) (by omega) (by have:=SV1.out.gl;have:=SV1.out.hw;omega) ?_
        intro A3 c3 w5 happ hlt5
        have hL5:=hide (SV1.out.lst.push (show kMo.rd x1 Lq x1.heap.size (.slice A1 n1 c1) ms1 from ⟨_,_,_,rfl,HM1.out⟩) (by have:=SV1.out.hw;omega) (lR _) (by have:=SV1.out.gl;omega) SV1.out.hw happ)
        have hB5:=hide (happ.low (B:=gO+1) (Below.refl (gO+1) x1) (by have:=SV1.out.gl;have:=SV1.out.hw;omega) (lR _) SV1.out.lst.own)
        have hO5:=hide (SV1.out.jO.same (hB5.out.block gO (by omega)))
        have hS4:=hO5.out.c 1 rfl
        clear happ hS2
        refine hK.out _ _ hS4 ?_
        clear hK K
        try simp only [Act.put,sTA,sC0,sC1,gTA,gC0,gC1]
        refine wpAnyZ_takeW 6 (.pointer (some ⟨gO,1,none⟩)) rfl (by kernel_rfl) (by kernel_rfl) (fun _ _ _ h=>h) (by rfl) (fun _=>by first | (simp [go_sem];done) | go_simp) hS4 ?_
        try simp only [Act.put,sTA,sC0,sC1,gTA,gC0,gC1]
        have g0:=hO5.out.c 1 rfl
        have g1:=hO5.out.f 1
        refine wpAnyZ_last (by kernel_rfl) rfl (by kernel_rfl) (by rfl) (fun K hK=>?_)
        go_simp
        refine hK _ _ ?_
        clear hK K g0 g1 hS4
        have S6:Hid (TanS w (w5.setCell ⟨gO,1,none⟩ (.slice A3 (n+1) c3)) gO (w5.setCell ⟨gO,1,none⟩ (.slice A3 (n+1) c3)).heap.size (some ad) ef A3 (n+1) c3 (vs++[.slice A1 n1 c1]) (made++[ms1])):=by
         have hsx:(w5.setCell ⟨gO,1,none⟩ (.slice A3 (n+1) c3)).heap.size=w5.heap.size:=by simp [World.setCell]
         have t1:=hO5.out.set 1 (.slice A3 (n+1) c3)
         simp only [sTA,sC0,sC1] at t1
         refine ⟨(SV1.out.jF.same (hB5.out.block _ (by have:=SV1.out.gOb;omega))).far (b:=gO) (i:=1) (by have:=SV1.out.gOb;omega) _,(SV1.out.jR.same (hB5.out.block _ (by have:=SV1.out.gOb;omega))).far (b:=gO) (i:=1) (by have:=SV1.out.gOb;omega) _,t1,?_,?_,SV1.out.gOb,?_,lR _⟩
         ·rw [hsx]
          exact hL5.out.setLow (p:=⟨gO,1,none⟩) (Nat.lt_succ_self _) _
         ·exact (SV1.out.low.trans (hB5.out.mono (by have:=SV1.out.gOb;omega))).setCell (p:=⟨gO,1,none⟩) (by show w.heap.size≤gO;have:=SV1.out.gOb;omega) _
         ·rw [hsx]
          have:=SV1.out.gl
          have:=SV1.out.hw
          omega
        clear hL5 hB5 hO5
        have hmk:Hid (∃ made2:List (List Mono),made++[ms1]=[wide0 f0,wide0 f1]++made2∧made2.length=j+1∧(∀ p∈made2,∀ m∈p,m.2.length=4)∧∀ (q:Nat) (p ms:List Mono),[f0,f1][q]? = some p→made2[q]? = some ms→∀ φ,sumM φ ms % 1000000271=sumM φ (tanT p 2) % 1000000271):=by
         obtain ⟨m2,e1,e2,e4,e3⟩:=hmade.out
         refine ⟨m2++[ms1],by rw [e1,List.append_assoc],by simp [e2],fun p' hp' m hm=>?_,fun q p' ms hq hms=>?_⟩
         ·rcases List.mem_append.1 hp' with h1 | h1
          ·exact e4 p' h1 m hm
          ·rw [List.mem_singleton] at h1
           subst h1
           obtain ⟨m',h2,h3⟩:=HC1.out.src m hm
           rw [HMq.out] at h2
           rw [← h3]
           exact tanT_len (fun m hm=>(HPl.out m hm).1) 2 m' h2
         by_cases hq2:q<m2.length
         ·rw [List.getElem?_append_left hq2] at hms
          exact e3 q p' ms hq hms
         ·have hq3:=(List.getElem?_eq_some_iff.1 hms).1
          simp at hq3
          obtain rfl:q=j:=by omega
          rw [List.getElem?_append_right (by omega),e2] at hms
          obtain rfl:ms1=ms:=by simpa using hms
          rw [hx.out] at hq
          injection hq with hq
          subst hq
          intro φ
          rw [← HMq.out]
          exact HC1.out.sum φ
        clear hmade HC1 HMq
        go_wp2_with fail
        go_roundw
        case rel=>exact ⟨j+1,n+1,c3,A3,_,_,by omega,by go_num,by omega,hmk.out,S6.out⟩
        case measure=>simp [intOf];omega
     ·obtain rfl:j=2:=by omega
      obtain ⟨ga,rfl,hga1,hga2,hga3⟩:=hS.out.lst.form (by omega)
      have hTP:Hid (TanP f0 f1 made):=by
       obtain ⟨m2,e1,e2,e4,e3⟩:=hmade.out
       obtain ⟨u,v,rfl⟩:∃ u v,m2=[u,v]:=by
        match m2,e2 with
        | [u,v],_=>exact ⟨u,v,rfl⟩
       subst e1
       exact ⟨rfl,rfl,fun φ=>by rw [← tanT_two];exact e3 0 f0 u rfl rfl φ,fun φ=>by rw [← tanT_two];exact e3 1 f1 v rfl rfl φ,fun m hm=>((HPL.out f0 (by simp)).2 m hm).1,fun m hm=>((HPL.out f1 (by simp)).2 m hm).1⟩
      have hM2:Mons2 wr (gO+1) wr.heap.size (some ⟨ga,0,none⟩) n c made:=by
       have hcb:=hS.out.lst.capb
       refine ⟨hS.out.lst.len,hcb.1,hcb.2,fun _=>⟨_,rfl,hga1,hga2,fun q ms hq=>?_⟩⟩
       obtain ⟨v,l,h',e1,e2,e3,e4,_⟩:=hS.out.lst.row q ms hq trivial
       obtain ⟨B,m,d,rfl,hm⟩:=e2
       refine ⟨B,m,d,?_,hm.wide e3 e4⟩
       have hvl:=hS.out.lst.vlen
       have hql:=(List.getElem?_eq_some_iff.1 e1).1
       have:=(hS.out.lst.own.cellAt q (by omega)).trans e1
       simpa [Addr.add_lit] using this
      have hml:∀ p∈made,∀ m∈p,m.2.length=4:=by
       obtain ⟨m2,e1,e2,e4,_⟩:=hmade.out
       intro p hp m hm
       rw [e1] at hp
       simp only [List.cons_append,List.nil_append,List.mem_cons] at hp
       rcases hp with rfl | rfl | hp
       ·exact wideL_len (p:=f0) (v := -1) (fun m hm=>((HPL.out f0 (by simp)).2 m hm).1) m (by rw [wideL_none];exact hm)
       ·exact wideL_len (p:=f1) (v := -1) (fun m hm=>((HPL.out f1 (by simp)).2 m hm).1) m (by rw [wideL_none];exact hm)
       ·exact e4 p hp m hm
      have hnb:4≤n∧n≤4:=by omega
      obtain rfl:n=4:=by omega
      have HM2:=hide hM2
      have HFo2:=hide (impl_FieldOk 4 (some ⟨ga,0,none⟩) 4 c made (gO+1) wr.heap.size wr hM2 (lR _) (fun p hp m hm=>by rw [hml p hp m hm];omega))
      have q0:=hS.out.jO.c 0 rfl
      have q1:=hS.out.jO.c 1 rfl
      clear hM2 hml hmade hnj hnb
      go_wp2_with fail
      refine HFo2.out.mono ?_
      rintro e w6 ⟨rfl,hb6⟩
      have S6:=hide (hS.out.below hb6 (lR _))
      have M6:=hide (HM2.out.below hb6 (lR _))
      have hz6:=hb6.size
      have hgo:=hS.out.gOb
      have hgw:=hS.out.gl
      clear hb6 q0 q1 HFo2 hS HM2
      have g0:=S6.out.jR.c 0 rfl
      have g1:=S6.out.jR.c 1 rfl
      have g2:=S6.out.jR.f 0
      have g3:=S6.out.jR.f 1
      have g4:=S6.out.jR.lt
      have q0:=S6.out.jO.c 0 rfl
      have q1:=S6.out.jO.c 1 rfl
      cases hf4:fieldF 4 made with
      | false =>
       go_wp2_with fail
       refine bodyPost_ret (v := .tuple #[.agg #[.int .i64 0,.slice none 0 0],.bool false]) (by simp [results,Tryz.results11,go_sem,g0,g1,g2,g3,g4]) rfl ⟨?_,.inl rfl⟩
       exact (S6.out.low.setCell (p:=⟨w.heap.size+1,0,none⟩) (Nat.le_succ _) _).setCell (p:=⟨w.heap.size+1,1,none⟩) (Nat.le_succ _) _
      | true =>
       have HF4:=hide hf4
       clear hf4
       have HFin:Hid (Mons2 ((w6.setCell ⟨w.heap.size+1,0,none⟩ (.int .i64 4)).setCell ⟨w.heap.size+1,1,none⟩ (.slice (some ⟨ga,0,none⟩) 4 c)) w.heap.size ((w6.setCell ⟨w.heap.size+1,0,none⟩ (.int .i64 4)).setCell ⟨w.heap.size+1,1,none⟩ (.slice (some ⟨ga,0,none⟩) 4 c)).heap.size (some ⟨ga,0,none⟩) 4 c made):=by
        have hsame:Same (gO+1) wr.heap.size w6 ((w6.setCell ⟨w.heap.size+1,0,none⟩ (.int .i64 4)).setCell ⟨w.heap.size+1,1,none⟩ (.slice (some ⟨ga,0,none⟩) 4 c)) :=
         Same.setCell (p:=⟨w.heap.size+1,1,none⟩) (Same.setCell (p:=⟨w.heap.size+1,0,none⟩) (Same.refl _ _ _) (.inl (by show w.heap.size+1<gO+1;omega)) _) (.inl (by show w.heap.size+1<gO+1;omega)) _
        have hsz:wr.heap.size≤((w6.setCell ⟨w.heap.size+1,0,none⟩ (.int .i64 4)).setCell ⟨w.heap.size+1,1,none⟩ (.slice (some ⟨ga,0,none⟩) 4 c)).heap.size:=by simp [World.setCell];omega
        exact (M6.out.same hsame).wide (by omega) hsz
       go_wp2_with fail
       refine bodyPost_ret (v := .tuple #[.agg #[.int .i64 4,.slice (some ⟨ga,0,none⟩) 4 c],.bool true]) (by simp [results,Tryz.results11,go_sem,g0,g1,g2,g3,g4]) rfl ⟨?_,.inr ⟨ga,c,made,rfl,HFin.out,hTP.out,HF4.out⟩⟩
       exact (S6.out.low.setCell (p:=⟨w.heap.size+1,0,none⟩) (Nat.le_succ _) _).setCell (p:=⟨w.heap.size+1,1,none⟩) (Nat.le_succ _) _
end Go.Proofs.YtomgcbfcnjbofaaGreat
