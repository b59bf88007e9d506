/- Steps of pairs along paths: what is computed, in plain Lean. -/
import Derived.Test.YtomgcbfcnjbofaaGreatJetZ
import Derived.Test.YtomgcbfcnjbofaaGreatMgU
import Derived.Test.YtomgcbfcnjbofaaGreatMgK
import Derived.Test.YtomgcbfcnjbofaaGreatMgT
import Derived.Test.YtomgcbfcnjbofaaGreatMgF
import Derived.Test.YtomgcbfcnjbofaaGreatMgB
namespace Go.Proofs.YtomgcbfcnjbofaaGreat
open Go.RowKit
set_option linter.unusedSimpArgs false
set_option linter.unusedVariables false
set_option maxRecDepth 20000
theorem poly_good {dim:Nat}:∀ (ms:List Mono) (prev:Option (List Int)),polyGo (dim:Int) prev ms=true→GoodM dim ms
 | [],_,_=>fun m hm=>absurd hm (by simp)
 | m :: r,prev,h=>by
  rw [polyGo] at h
  split at h
  ·rename_i hm
   intro y hy
   rcases List.mem_cons.1 hy with rfl | hy
   ·unfold monoOk at hm
    simp only [Bool.and_eq_true,decide_eq_true_eq] at hm
    obtain ⟨⟨⟨⟨⟨_,h1⟩,h2⟩,h3⟩,_⟩,_⟩:=hm
    exact ⟨(isNumF_iff _).1 h1,by omega,h3⟩
   ·exact poly_good r _ h y hy
  ·cases h
theorem field_good {dim:Nat} {ps:List (List Mono)} (h:fieldF (dim:Int) ps=true):GoodF dim ps∧1≤dim∧dim≤6:=by
 unfold fieldF at h
 simp only [Bool.and_eq_true,decide_eq_true_eq] at h
 obtain ⟨⟨⟨h1,h2⟩,h3⟩,h4⟩:=h
 refine ⟨⟨by omega,?_⟩,by omega,by omega⟩
 have go:∀ (qs:List (List Mono)),fieldGo (dim:Int) qs=true→∀ ms∈qs,GoodM dim ms:=by
  intro qs
  induction qs with
  | nil=>intro _ ms hm;exact absurd hm (by simp)
  | cons p r ih =>
   intro hq ms hm
   rw [fieldGo] at hq
   split at hq
   ·rename_i hp
    rcases List.mem_cons.1 hm with rfl | hm
    ·unfold polyF at hp
     simp only [Bool.and_eq_true] at hp
     exact poly_good _ _ hp.2
    ·exact ih hq ms hm
   ·cases hq
 exact go ps h4
theorem path_good {dim:Nat} {xss:List (List Int)} (h:pathOkF xss (dim:Int)=true):(1≤xss.length∧xss.length≤7)∧∀ r∈xss,r.length=dim∧∀ x∈r,0≤x∧x<1000000271:=by
 unfold pathOkF at h
 simp only [Bool.and_eq_true,decide_eq_true_eq] at h
 refine ⟨h.1,?_⟩
 have go:∀ (qs:List (List Int)),pathGo (dim:Int) qs=true→∀ r∈qs,r.length=dim∧∀ x∈r,0≤x∧x<1000000271:=by
  intro qs
  induction qs with
  | nil=>intro _ ms hm;exact absurd hm (by simp)
  | cons p r ih =>
   intro hq ms hm
   rw [pathGo] at hq
   split at hq
   ·rename_i hp
    simp only [Bool.and_eq_true,decide_eq_true_eq] at hp
    rcases List.mem_cons.1 hm with rfl | hm
    ·exact ⟨by omega,allNumF_mem hp.2⟩
    ·exact ih hq ms hm
   ·cases hq
 exact go xss h.2
theorem turn_num {dim:Nat} {xss:List (List Int)} (h:∀ r∈xss,r.length=dim∧∀ x∈r,0≤x∧x<1000000271):JNum xss.length (turnL xss dim):=by
 intro r hr
 simp only [turnL,List.mem_map,List.mem_range] at hr
 obtain ⟨i,hi,rfl⟩:=hr
 refine ⟨by simp,fun x hx=>?_⟩
 obtain ⟨q,hq,rfl⟩:=List.mem_map.1 hx
 have h1:=h q hq
 exact h1.2 _ (by rw [List.getD,List.getElem?_eq_getElem (by omega)];exact List.getElem_mem _)
def pairAlOk (s:Int) (xs ys:List Int) (s':Int) (xs' ys':List Int) (o:Int) (ps:List (List Mono)) (cs:List Int) (xss:List (List Int)):Bool:=colOkF o ps cs xss && pairOkF s xs ys s' xs' ys'
def pairAl (s:Int) (xs ys:List Int) (s':Int) (xs' ys':List Int) (o:Int) (ps:List (List Mono)) (cs:List Int) (xss:List (List Int)):List (List Int) :=
 if pairAlOk s xs ys s' xs' ys' o ps cs xss=true then turnL (outJ xss.length o.toNat s.toNat ps (turnL xss o.toNat) (fun i=>if cs.getD i 0=0 then xs else xs') (fun i=>if cs.getD i 0=0 then ys else ys')) xss.length else []
structure AlOk (S dim n:Nat) (xs ys xs' ys':List Int) (ps:List (List Mono)) (cs:List Int) (xss:List (List Int)):Prop where
 s8:S≤8
 xl:xs.length=S*S
 yl:ys.length=S
 xl':xs'.length=S*S
 yl':ys'.length=S
 gf:GoodF dim ps
 d0:1≤dim
 d6:dim≤6
 n0:1≤n
 n7:n≤7
 nl:xss.length=n
 rw':∀ r∈xss,r.length=dim∧∀ x∈r,0≤x∧x<1000000271
 cl:cs.length=dim
 cc:∀ c∈cs,c=0∨c=1
theorem pairAlOk_iff {s:Int} {xs ys:List Int} {s':Int} {xs' ys':List Int} {o:Int} {ps:List (List Mono)} {cs:List Int} {xss:List (List Int)} (h:pairAlOk s xs ys s' xs' ys' o ps cs xss=true) :
  ∃ S dim n:Nat,s=S∧s'=S∧o=dim∧AlOk S dim n xs ys xs' ys' ps cs xss:=by
 unfold pairAlOk colOkF pairOkF tabOkF at h
 simp only [Bool.and_eq_true,decide_eq_true_eq,beq_iff_eq] at h
 obtain ⟨⟨⟨h1,h2⟩,h3,h4⟩,⟨⟨⟨a1,a2⟩,a3,a4,_,_⟩,⟨⟨_,_⟩,b3,b4,_,_⟩,rfl⟩⟩:=h
 obtain ⟨dim,rfl⟩:∃ d:Nat,o=d:=⟨cs.length,h3.symm⟩
 obtain ⟨S,rfl⟩:∃ d:Nat,s=d:=⟨s.toNat,by omega⟩
 obtain ⟨g1,g2,g3⟩:=field_good h1
 obtain ⟨p1,p2⟩:=path_good h2
 have e:((S:Int)*(S:Int))=((S*S:Nat):Int):=by simp
 rw [e] at a3 b3
 exact ⟨S,dim,xss.length,rfl,rfl,rfl,by omega,by omega,by omega,by omega,by omega,g1,g2,g3,p1.1,p1.2,rfl,p2,by omega,colGo_mem _ h4⟩
theorem pairAl_ok {S dim n:Nat} {xs ys xs' ys':List Int} {ps:List (List Mono)} {cs:List Int} {xss:List (List Int)} (h:pairAlOk (S:Int) xs ys (S:Int) xs' ys' (dim:Int) ps cs xss=true) (hn:xss.length=n) :
  pairAl (S:Int) xs ys (S:Int) xs' ys' (dim:Int) ps cs xss=turnL (outJ n dim S ps (turnL xss dim) (fun i=>if cs.getD i 0=0 then xs else xs') (fun i=>if cs.getD i 0=0 then ys else ys')) n:=by
 unfold pairAl
 rw [if_pos h,hn]
 rfl
theorem pairAl_bad {s:Int} {xs ys:List Int} {s':Int} {xs' ys':List Int} {o:Int} {ps:List (List Mono)} {cs:List Int} {xss:List (List Int)} (h:pairAlOk s xs ys s' xs' ys' o ps cs xss=false):pairAl s xs ys s' xs' ys' o ps cs xss=[]:=by
 unfold pairAl
 rw [h]
 rfl
end Go.Proofs.YtomgcbfcnjbofaaGreat
/- Steps of pairs along paths: the program's walk. -/
namespace Go.Proofs.YtomgcbfcnjbofaaGreat
open Go.RowKit
set_option linter.unusedSimpArgs false
set_option linter.unusedVariables false
set_option maxRecDepth 20000
theorem info_tabJ:(Tryz.prog.info? 26).map (fun i=>(i.zero,i.size,i.bytes))=some (some (.agg #[.int .i64 0,.slice none 0 0,.slice none 0 0]),3,56):=by kernel_rfl
theorem flat_at (tri:Int→List Value) (h3:∀ c,(tri c).length=3):∀ (cs:List Int) (j i:Nat) (c:Int),cs[j]? = some c→i<3→(cs.flatMap tri)[j*3+i]? = (tri c)[i]?
 | [],j,i,c,h,_=>by simp at h
 | d :: r,0,i,c,h,hi=>by
  obtain rfl:d=c:=by simpa using h
  rw [List.flatMap_cons,List.getElem?_append_left (by rw [h3];omega)]
  simp
 | d :: r,j+1,i,c,h,hi=>by
  rw [List.flatMap_cons,List.getElem?_append_right (by rw [h3];omega),h3,show (j+1)*3+i - 3=j*3+i by omega]
  exact flat_at tri h3 r j i c (by simpa using h) hi
theorem flat_len (tri:Int→List Value) (h3:∀ c,(tri c).length=3) (cs:List Int):(cs.flatMap tri).length=cs.length*3:=by
 induction cs with
 | nil=>rfl
 | cons c r ih=>rw [List.flatMap_cons,List.length_append,h3,ih,List.length_cons];omega
theorem own_formJ {w:World} {base T size:Nat} {A:Option Addr} {n c:Nat} {vs:List Value} (h:w.ownsRow base T size (.slice A n c) n vs) (hn:0<n):∃ g,A=some ⟨g,0,none⟩∧base≤g∧g<w.heap.size:=by
 rcases h.2 with ⟨_,e⟩ | ⟨g,_,_,e,h1,h2,_⟩
 ·omega
 ·injection e with e
  exact ⟨g,e,h1,(Array.getElem?_eq_some_iff.1 h2).1⟩
theorem Tabs.below {w w':World} {lo hi g dim S B:Nat} {tA tB:Nat→List Int} (h:Tabs w lo hi g dim S tA tB) (hb:Below B w w') (hB:hi≤B) (hg:g<B):Tabs w' lo hi g dim S tA tB:=by
 intro j hj
 obtain ⟨AA,cA,BB,cB,t0,t1,t2,hA,hB',hf⟩:=h j hj
 exact ⟨AA,cA,BB,cB,(hb.cell (p:=⟨g,j*3,none⟩) hg).trans t0,(hb.cell (p:=⟨g,j*3+1,none⟩) hg).trans t1,(hb.cell (p:=⟨g,j*3+2,none⟩) hg).trans t2,hA.below hb hB,hB'.below hb hB,hf⟩
theorem outJ_rows {n dim S:Nat} (ps:List (List Mono)) {yss:List (List Int)} (tA tB:Nat→List Int) (h:JNum n yss) (hl:yss.length=dim):∀ r∈outJ n dim S ps yss tA tB,r.length=n∧∀ x∈r,0≤x∧x<1000000271:=by
 intro r hr
 simp only [outJ,List.mem_map,List.mem_range] at hr
 obtain ⟨i,hi,rfl⟩:=hr
 have:=h yss[i] (List.getElem_mem (by omega))
 rw [show yss.getD i []=yss[i] by simp [List.getD,show i<yss.length by omega]]
 exact ⟨by rw [acc_len];exact this.1,acc_num _ _ this.2 _⟩
def tri2 (a b:List Value) (c:Int):List Value:=if c=0 then a else b
set_option maxRecDepth 100000 in
set_option maxHeartbeats 8000000 in
theorem impl_PairAlong_bad (s:Int) (A:Option Addr) (n c:Nat) (xs:List Int) (B:Option Addr) (m d:Nat) (ys:List Int) (s':Int) (A':Option Addr) (n' c':Nat) (xs':List Int) (B':Option Addr) (m' d':Nat) (ys':List Int) (o:Int) (P:Option Addr) (k e:Nat) (ps:List (List Mono)) (C:Option Addr) (nC cC:Nat) (cs:List Int) (X:Option Addr) (x f:Nat) (xss:List (List Int)) (lo hi:Nat) (w:World)
  (h:Ints w lo hi A n c xs) (g:Ints w lo hi B m d ys) (h':Ints w lo hi A' n' c' xs') (g':Ints w lo hi B' m' d' ys') (hp:Mons2 w lo hi P k e ps) (hc:Ints w lo hi C nC cC cs) (hx:Ints2 w lo hi X x f xss) (hh:hi≤w.heap.size) (hlen:∀ p∈ps,∀ m∈p,m.2.length≤1048576)
  (hbad:pairAlOk s xs ys s' xs' ys' o ps cs xss=false) :
  Calls Tryz.prog 12 #[.agg #[.int .i64 s,.slice A n c,.slice B m d,.int .i64 s',.slice A' n' c',.slice B' m' d'],.agg #[.int .i64 o,.slice P k e],.slice C nC cC,.slice X x f] w fun r w'=>r = .returned (.slice none 0 0)∧Below w.heap.size w w':=by
 have b0:=below_alloc w (.cells #[.int .i64 s,.slice A n c,.slice B m d,.int .i64 s',.slice A' n' c',.slice B' m' d'] 30)
 have k0:=BlkN.new w #[.int .i64 s,.slice A n c,.slice B m d,.int .i64 s',.slice A' n' c',.slice B' m' d'] 30
 have z0:(w.alloc (.cells #[.int .i64 s,.slice A n c,.slice B m d,.int .i64 s',.slice A' n' c',.slice B' m' d'] 30)).heap.size=w.heap.size+1:=by simp
 go_enter Tryz.func12,Tryz.ntmps12
 go_wp2_with fail
 generalize w.alloc (.cells #[.int .i64 s,.slice A n c,.slice B m d,.int .i64 s',.slice A' n' c',.slice B' m' d'] 30)=W0 at b0 k0 z0 ⊢
 have k1:=BlkN.new W0 #[.int .i64 o,.slice P k e] 40
 rw [z0] at k1
 have b1:=b0.alloc (by omega) (.cells #[.int .i64 o,.slice P k e] 40)
 have k2:=k0.alloc (.cells #[.int .i64 o,.slice P k e] 40)
 generalize W0.alloc (.cells #[.int .i64 o,.slice P k e] 40)=W1 at b1 k1 k2 ⊢
 clear b0 k0 z0
 have z1:=b1.size
 refine (impl_coloursOk o P k e ps C nC cC cs X x f xss lo hi W1 (hp.below b1 hh) (hc.below b1 hh) (hx.below b1 hh) (by omega) hlen).mono ?_
 rintro r w2 ⟨rfl,hb2⟩
 have b2:=b1.trans (hb2.mono z1)
 have k3:=k2.below hb2
 have z2:=b2.size
 cases ht:colOkF o ps cs xss with
 | false =>
  clear ht k1 k2 k3
  go_wp2_with fail
  go_ret
  exact ⟨rfl,b2⟩
 | true =>
  have hP:pairOkF s xs ys s' xs' ys'=false:=by
   unfold pairAlOk at hbad
   rw [ht] at hbad
   simpa using hbad
  have u0:=k3.c 0 rfl
  have u1:=k3.c 1 rfl
  have u2:=k3.c 2 rfl
  have u3:=k3.c 3 rfl
  have u4:=k3.c 4 rfl
  have u5:=k3.c 5 rfl
  clear ht k1 k2 k3
  go_wp2_with fail
  clear u0 u1 u2 u3 u4 u5
  refine (impl_PairOk s A n c xs B m d ys s' A' n' c' xs' B' m' d' ys' lo hi w2 (h.below b2 hh) (g.below b2 hh) (h'.below b2 hh) (g'.below b2 hh) (by omega)).mono ?_
  rw [hP]
  rintro r w3 ⟨rfl,hb3⟩
  have b3:=b2.trans (hb3.mono z2)
  go_wp2_with fail
  go_ret
  exact ⟨rfl,b3⟩
set_option maxRecDepth 100000 in
set_option maxHeartbeats 16000000 in
theorem impl_PairAlong_good (S dim np:Nat) (A:Option Addr) (c:Nat) (xs:List Int) (B:Option Addr) (d:Nat) (ys:List Int) (A':Option Addr) (c':Nat) (xs':List Int) (B':Option Addr) (d':Nat) (ys':List Int) (P:Option Addr) (e:Nat) (ps:List (List Mono)) (C:Option Addr) (cC:Nat) (cs:List Int) (X:Option Addr) (f:Nat) (xss:List (List Int)) (lo hi:Nat) (w:World)
  (h:Ints w lo hi A (S*S) c xs) (g:Ints w lo hi B S d ys) (h':Ints w lo hi A' (S*S) c' xs') (g':Ints w lo hi B' S d' ys') (hp:Mons2 w lo hi P dim e ps) (hc:Ints w lo hi C dim cC cs) (hx:Ints2 w lo hi X np f xss) (hh:hi≤w.heap.size) (hlen:∀ p∈ps,∀ m∈p,m.2.length≤1048576)
  (hA:0<S→∃ gA,A=some ⟨gA,0,none⟩) (hA':0<S→∃ gA,A'=some ⟨gA,0,none⟩) (hok:AlOk S dim np xs ys xs' ys' ps cs xss) (hgood:pairAlOk (S:Int) xs ys (S:Int) xs' ys' (dim:Int) ps cs xss=true) :
  Calls Tryz.prog 12 #[.agg #[.int .i64 (S:Int),.slice A (S*S) c,.slice B S d,.int .i64 (S:Int),.slice A' (S*S) c',.slice B' S d'],.agg #[.int .i64 (dim:Int),.slice P dim e],.slice C dim cC,.slice X np f] w fun r w'=>∃ gR cR,r = .returned (.slice (some ⟨gR,0,none⟩) np cR)∧Ros kO 24 w' w.heap.size w'.heap.size (some ⟨gR,0,none⟩) np cR (pairAl (S:Int) xs ys (S:Int) xs' ys' (dim:Int) ps cs xss)∧Below w.heap.size w w':=by
 obtain ⟨i0,hi0,hz0,hz1,hz2⟩:=info_parts info_tabJ
 have hS8:=hok.s8
 have hd0:=hok.d0
 have hd6:=hok.d6
 have hn0:=hok.n0
 have hn7:=hok.n7
 have HK:=hide hok
 have hcp:=hc.cap
 have hcm:=hc.max
 have hxp:=hx.cap
 have hxm:=hx.max
 have HC:=hide hc
 have HX:=hide hx
 have HP:=hide hp
 have HA:=hide h
 have HB:=hide g
 have HA':=hide h'
 have HB':=hide g'
 have hfA:=hide hA
 have hfA':=hide hA'
 have b0:=below_alloc w (.cells #[.int .i64 (S:Int),.slice A (S*S) c,.slice B S d,.int .i64 (S:Int),.slice A' (S*S) c',.slice B' S d'] 30)
 have k0:=BlkN.new w #[.int .i64 (S:Int),.slice A (S*S) c,.slice B S d,.int .i64 (S:Int),.slice A' (S*S) c',.slice B' S d'] 30
 have z0:(w.alloc (.cells #[.int .i64 (S:Int),.slice A (S*S) c,.slice B S d,.int .i64 (S:Int),.slice A' (S*S) c',.slice B' S d'] 30)).heap.size=w.heap.size+1:=by simp
 obtain ⟨q0,hq0⟩:∃ q,q=S*S:=⟨_,rfl⟩
 have hqs:=hide hq0
 have hq64:q0≤64:=by rw [hq0];exact Nat.mul_le_mul hS8 hS8
 rw [← hq0] at h h' b0 k0 z0 HA HA' ⊢
 have hac:=h.cap
 have ham:=h.max
 have hac':=h'.cap
 have ham':=h'.max
 have hbc:=g.cap
 have hbm:=g.max
 have hbc':=g'.cap
 have hbm':=g'.max
 clear hq0 hA hA' hok
 go_enter Tryz.func12,Tryz.ntmps12
 go_wp2_with fail
 generalize w.alloc (.cells #[.int .i64 (S:Int),.slice A q0 c,.slice B S d,.int .i64 (S:Int),.slice A' q0 c',.slice B' S d'] 30)=W0 at b0 k0 z0 ⊢
 have k1:=BlkN.new W0 #[.int .i64 (dim:Int),.slice P dim e] 40
 rw [z0] at k1
 have b1:=b0.alloc (by omega) (.cells #[.int .i64 (dim:Int),.slice P dim e] 40)
 have k2:=k0.alloc (.cells #[.int .i64 (dim:Int),.slice P dim e] 40)
 generalize W0.alloc (.cells #[.int .i64 (dim:Int),.slice P dim e] 40)=W1 at b1 k1 k2 ⊢
 clear b0 k0 z0
 have z1:=b1.size
 refine (impl_coloursOk (dim:Int) P dim e ps C dim cC cs X np f xss lo hi W1 (hp.below b1 hh) (hc.below b1 hh) (hx.below b1 hh) (by omega) hlen).mono ?_
 have ht:colOkF (dim:Int) ps cs xss=true:=by unfold pairAlOk at hgood;rw [Bool.and_eq_true] at hgood;exact hgood.1
 have htp:pairOkF (S:Int) xs ys (S:Int) xs' ys'=true:=by unfold pairAlOk at hgood;rw [Bool.and_eq_true] at hgood;exact hgood.2
 rw [ht]
 rintro r w2 ⟨rfl,hb2⟩
 have b2:=b1.trans (hb2.mono z1)
 have k3:=k2.below hb2
 have k4:=k1.below hb2
 have z2:=b2.size
 have u0:=k3.c 0 rfl
 have u1:=k3.c 1 rfl
 have u2:=k3.c 2 rfl
 have u3:=k3.c 3 rfl
 have u4:=k3.c 4 rfl
 have u5:=k3.c 5 rfl
 clear ht k1 k2 hb2 b1 z1
 go_wp2_with fail
 clear u0 u1 u2 u3 u4 u5
 refine (impl_PairOk (S:Int) A q0 c xs B S d ys (S:Int) A' q0 c' xs' B' S d' ys' lo hi w2 (h.below b2 hh) (g.below b2 hh) (h'.below b2 hh) (g'.below b2 hh) (by omega)).mono ?_
 rw [htp]
 rintro r w3 ⟨rfl,hb3⟩
 have b3:=hide (b2.trans (hb3.mono z2))
 have k5:=hide (k3.below hb3)
 have k6:=hide (k4.below hb3)
 have z3:=b3.out.size
 have hk5:=k5.out.lt
 have hk6:=k6.out.lt
 clear htp hp hc hx h g h' g' k3 k4 hb3 b2 z2 W0
 have o0:Hid ((w3.alloc (.cells #[] 26)).ownsRow w3.heap.size 26 3 (.slice (some ⟨w3.heap.size,0,none⟩) 0 0) 0 ((cs.take 0).flatMap (tri2 [.int .i64 (S:Int),.slice A q0 c,.slice B S d] [.int .i64 (S:Int),.slice A' q0 c',.slice B' S d']))):=by
  show World.ownsRow _ _ _ _ _ _ _
  simpa using World.ownsRow_lit (size:=3) (e:=26) (base:=w3.heap.size) w3 #[] 0 (Nat.le_refl _) (by unfold maxLen;omega) rfl
 have bo:=hide (below_alloc w3 (.cells #[] 26))
 go_wp2_with fail
 generalize w3.alloc (.cells #[] 26)=W4 at o0 bo ⊢
 go_loopw [9,25] (fun p z wr=>∃ (q:Nat) (R:Option Addr) (cR:Nat),q≤dim∧z = .int .i64 q∧p = .slice R q cR∧Hid (wr.ownsRow w3.heap.size 26 3 (.slice R q cR) q ((cs.take q).flatMap (tri2 [.int .i64 (S:Int),.slice A q0 c,.slice B S d] [.int .i64 (S:Int),.slice A' q0 c',.slice B' S d'])))∧Hid (Below w3.heap.size w3 wr)) (fun _ z _=>dim - (intOf z).toNat)
 case atStart=>exact ⟨0,_,_,by omega,rfl,rfl,o0.out,bo.out⟩
 case round =>
  clear o0 bo
  obtain ⟨q,R,cR,hq,rfl,rfl,hO,hb⟩:=hrel
  have hsz:=hb.out.size
  have hbw:=hide (b3.out.trans (hb.out.mono z3))
  have hj5:=hide (k5.out.below hb.out)
  have hj6:=hide (k6.out.below hb.out)
  by_cases hlt:q<dim
  ·obtain ⟨ac,cq,rfl,hcc,hcr,_,hcx⟩:=(HC.out.below hbw.out hh).at_ hlt
   have hq01:=HK.out.cc cq (List.mem_of_getElem? hcx.out)
   have hOF:=hide (impl_of (S:Int) A q0 c B S d (S:Int) A' q0 c' B' S d' cq wr hq01)
   have hT:Hid ((cs.take q).flatMap (tri2 [.int .i64 (S:Int),.slice A q0 c,.slice B S d] [.int .i64 (S:Int),.slice A' q0 c',.slice B' S d'])++tri2 [.int .i64 (S:Int),.slice A q0 c,.slice B S d] [.int .i64 (S:Int),.slice A' q0 c',.slice B' S d'] cq=(cs.take (q+1)).flatMap (tri2 [.int .i64 (S:Int),.slice A q0 c,.slice B S d] [.int .i64 (S:Int),.slice A' q0 c',.slice B' S d'])):=by
    show _=_
    rw [← take_snocJ hcx.out,List.flatMap_append]
    simp
   have u0:=hj5.out.c 0 rfl
   have u1:=hj5.out.c 1 rfl
   have u2:=hj5.out.c 2 rfl
   have u3:=hj5.out.c 3 rfl
   have u4:=hj5.out.c 4 rfl
   have u5:=hj5.out.c 5 rfl
   have hOl:=hO.out
   have hOc:q≤cR∧cR≤9223372036854775807:=by
    rcases hO.out.2 with ⟨e,rfl⟩ | ⟨_,_,_,e,_,_,h1,h2,_⟩
    ·injection e;omega
    ·injection e with _ _ e3;unfold maxLen at h2;omega
   clear hcx hj5 hj6 hOl
   rcases hq01 with rfl | rfl
   ·rw [if_pos rfl] at hOF
    go_wp2_with fail
    clear u0 u1 u2 u3 u4 u5
    refine hOF.out.mono ?_
    rintro r w6 ⟨rfl,hb6⟩
    have hO6:=hide (owns_below hO.out hb6 fun ad e=>(owns_lt hO.out ad e).2)
    have hb7:=hide (hb.out.trans (hb6.mono hsz))
    have z6:=hb7.out.size
    clear hOF hO hb hb6 hbw hcc
    go_wp2_with (at_builtin;refine wpl_app1 rfl (.tmp 29) (.tmp 33) 71 rfl w3.heap.size 26 i0 (.agg #[.int .i64 0,.slice none 0 0,.slice none 0 0]) 3 56 Tryz.underlying71 hi0 hz0 hz1 hz2 rfl (by omega) w6 #[.int .i64 (S:Int),.slice A q0 c,.slice B S d] R q cR 1 _ rfl rfl hO6.out rfl (by simp [Value.oneCell']) (by omega) (by omega) (by omega) ?_;intro A5 c5 w5 happ5 hlt5;have hb5:=hide (happ5.low hb7.out (by omega) (Nat.le_refl _) hO6.out);have hO5:=hide happ5.1;clear happ5)
    refine ⟨⟨q+1,A5,c5,by omega,by go_num,rfl,by rw [← hT.out];exact hO5.out,hb5.out⟩,?_⟩
    simp [intOf];omega
   ·rw [if_neg (by omega)] at hOF
    go_wp2_with fail
    clear u0 u1 u2 u3 u4 u5
    refine hOF.out.mono ?_
    rintro r w6 ⟨rfl,hb6⟩
    have hO6:=hide (owns_below hO.out hb6 fun ad e=>(owns_lt hO.out ad e).2)
    have hb7:=hide (hb.out.trans (hb6.mono hsz))
    have z6:=hb7.out.size
    clear hOF hO hb hb6 hbw hcc
    go_wp2_with (at_builtin;refine wpl_app1 rfl (.tmp 29) (.tmp 33) 71 rfl w3.heap.size 26 i0 (.agg #[.int .i64 0,.slice none 0 0,.slice none 0 0]) 3 56 Tryz.underlying71 hi0 hz0 hz1 hz2 rfl (by omega) w6 #[.int .i64 (S:Int),.slice A' q0 c',.slice B' S d'] R q cR 1 _ rfl rfl hO6.out rfl (by simp [Value.oneCell']) (by omega) (by omega) (by omega) ?_;intro A5 c5 w5 happ5 hlt5;have hb5:=hide (happ5.low hb7.out (by omega) (Nat.le_refl _) hO6.out);have hO5:=hide happ5.1;clear happ5)
    refine ⟨⟨q+1,A5,c5,by omega,by go_num,rfl,by rw [← hT.out];exact hO5.out,hb5.out⟩,?_⟩
    simp [intOf];omega
  ·obtain rfl:dim=q:=by omega
   have hOw:=hO.out
   rw [List.take_of_length_le (Nat.le_of_eq HK.out.cl)] at hOw
   have h3:∀ z,(tri2 [Value.int .i64 (S:Int),.slice A q0 c,.slice B S d] [.int .i64 (S:Int),.slice A' q0 c',.slice B' S d'] z).length=3:=fun _=>by unfold tri2;split <;> rfl
   obtain ⟨gO,rfl,hg1,hg2⟩:=own_formJ hOw (by omega)
   have hOc:dim≤cR∧cR≤9223372036854775807:=by
    rcases hOw.2 with ⟨e,rfl⟩ | ⟨_,_,_,e,_,_,h1,h2,_⟩
    ·injection e;omega
    ·injection e with _ _ e3;unfold maxLen at h2;omega
   have hTb:Hid (Tabs wr lo hi gO dim S (fun i=>if cs.getD i 0=0 then xs else xs') (fun i=>if cs.getD i 0=0 then ys else ys')):=by
    intro j hj
    have hcl:=HK.out.cl
    have hcj:cs[j]? = some (cs[j]'(by omega)):=List.getElem?_eq_getElem (by omega)
    have hgd:cs.getD j 0=cs[j]'(by omega):=by rw [List.getD,hcj];rfl
    have hfl:=flat_len _ h3 cs
    have e0:=hOw.cellAt (j*3) (by omega)
    have e1:=hOw.cellAt (j*3+1) (by omega)
    have e2:=hOw.cellAt (j*3+2) (by omega)
    have f0:=flat_at _ h3 cs j 0 _ hcj (by omega)
    have f1:=flat_at _ h3 cs j 1 _ hcj (by omega)
    have f2:=flat_at _ h3 cs j 2 _ hcj (by omega)
    rw [Nat.add_zero] at f0
    rw [f0] at e0
    rw [f1] at e1
    rw [f2] at e2
    rw [← hqs.out]
    rcases HK.out.cc _ (List.mem_of_getElem? hcj) with hz | hz
    ·rw [hz] at e0 e1 e2
     refine ⟨A,c,B,d,e0,e1,e2,?_,?_,hfA.out⟩
     ·simp only [hgd,hz,if_true]
      exact HA.out.below hbw.out hh
     ·simp only [hgd,hz,if_true]
      exact HB.out.below hbw.out hh
    ·rw [hz] at e0 e1 e2
     refine ⟨A',c',B',d',e0,e1,e2,?_,?_,hfA'.out⟩
     ·simp only [hgd,hz,if_neg (show ¬ (1:Int)=0 by omega)]
      exact HA'.out.below hbw.out hh
     ·simp only [hgd,hz,if_neg (show ¬ (1:Int)=0 by omega)]
      exact HB'.out.below hbw.out hh
   have hnl:=hide HK.out.nl
   have hNum:Hid (JNum np (turnL xss dim)):=by have:=turn_num HK.out.rw';rw [hnl.out] at this;exact this
   have hbd:=hide hbw.out.drew
   have zwd:w.heap.size≤wr.drew.heap.size:=hbw.out.size
   have HJ:=hide (impl_jets X np f xss lo hi dim wr.drew (HX.out.below hbd.out hh) (by omega) (fun r hr=>Nat.le_of_eq (HK.out.rw' r hr).1.symm) (by omega) (by omega) (by omega))
   have hj7:=hide hj6.out.drew
   have hTd:=hide (hTb.out.below ((Below.refl wr.heap.size wr).drew) (by omega) hg2)
   have hgz:gO<wr.drew.heap.size:=hg2
   have hE:Hid (pairAl (S:Int) xs ys (S:Int) xs' ys' (dim:Int) ps cs xss=turnL (outJ np dim S ps (turnL xss dim) (fun i=>if cs.getD i 0=0 then xs else xs') (fun i=>if cs.getD i 0=0 then ys else ys')) np):=pairAl_ok hgood hnl.out
   have u0:=hj6.out.c 0 rfl
   have u1:=hj6.out.c 1 rfl
   have y0:=hj7.out.c 0 rfl
   have y1:=hj7.out.c 1 rfl
   have hb9:=Below.refl wr.heap.size wr
   clear hOw hO hb hj5 hb9
   go_wp2_with fail
   go_region_held3 (fun w'=>w'.cell? ⟨w.heap.size+1,0,none⟩=some (.int .i64 (dim:Int))∧w'.cell? ⟨w.heap.size+1,1,none⟩=some (.slice P dim e)) (first | exact ⟨u0,u1⟩ | exact ⟨y0,y1⟩ | exact T6 | exact T7 | exact T8 | go_keep)
    (first
     | (go_at_call 49;refine HJ.out.mono ?_;rintro r w6 ⟨g6,c6,rfl,hI6,hb6⟩;have z6:=hb6.size;have hB6:=hide (hbd.out.trans (hb6.mono zwd));have k6':=hide (hj7.out.below hb6);have T6:w6.cell? ⟨w.heap.size+1,0,none⟩=some (.int .i64 (dim:Int))∧w6.cell? ⟨w.heap.size+1,1,none⟩=some (.slice P dim e):=⟨k6'.out.c 0 rfl,k6'.out.c 1 rfl⟩;have HST:=hide (impl_stepJets gO dim cR (dim:Int) P e ps lo hi g6 c6 (turnL xss dim) wr.drew.heap.size w6.heap.size np S (fun i=>if cs.getD i 0=0 then xs else xs') (fun i=>if cs.getD i 0=0 then ys else ys') lo hi w6 (hTd.out.below hb6 (by omega) hgz) (by omega) (HP.out.below hB6.out hh) hI6 (by omega) (Nat.le_refl _) (by omega) HK.out.gf hNum.out (by omega) hd6 (by omega) (by omega) hS8 hOc.1 hOc.2);clear HJ)
     | (go_at_call 48;refine HST.out.mono ?_;rintro r w7 ⟨g7,c7,rfl,hI7,hb7⟩;have z7:=hb7.size;have hB7:=hide (hB6.out.trans (hb7.mono (by omega)));have k7:=hide (k6'.out.below hb7);have T7:w7.cell? ⟨w.heap.size+1,0,none⟩=some (.int .i64 (dim:Int))∧w7.cell? ⟨w.heap.size+1,1,none⟩=some (.slice P dim e):=⟨k7.out.c 0 rfl,k7.out.c 1 rfl⟩;have HPT:=hide (impl_pointsO (some ⟨g7,0,none⟩) dim c7 _ 0 w7.heap.size np w7 hI7 (Nat.le_refl _) (fun r hr=>Nat.le_of_eq (outJ_rows ps _ _ hNum.out (turn_len xss dim) r hr).1.symm) (by omega) (by omega) (by omega));clear HST)
     | (go_at_call 47;refine HPT.out.mono ?_;rintro r w8 ⟨g8,c8,rfl,hI8,hb8⟩;have z8:=hb8.size;have hB8:=hide (hB7.out.trans (hb8.mono (by omega)));have k8:=hide (k7.out.below hb8);have T8:w8.cell? ⟨w.heap.size+1,0,none⟩=some (.int .i64 (dim:Int))∧w8.cell? ⟨w.heap.size+1,1,none⟩=some (.slice P dim e):=⟨k8.out.c 0 rfl,k8.out.c 1 rfl⟩;have HI8:=hide (hI8.wide (lo':=w.heap.size) (by omega) (Nat.le_refl _));clear HPT))
   rw [← hE.out] at HI8
   clear T6 T7 T8 u0 u1 y0 y1
   go_wp2_with fail
   go_ret
   exact ⟨_,_,rfl,HI8.out,hB8.out⟩
end Go.Proofs.YtomgcbfcnjbofaaGreat
/- Steps of pairs along paths: the reference's walk. -/
namespace Go.Proofs.YtomgcbfcnjbofaaGreat
open Go.RowKit
set_option linter.unusedSimpArgs false
set_option linter.unusedVariables false
set_option maxRecDepth 20000
structure EnvP (w wr:World) (vp vf:Array Value):Prop where
 low:Below w.heap.size w wr
 par:BlkN wr w.heap.size vp
 fld:BlkN wr (w.heap.size+1) vf
theorem EnvP.below {w wr w':World} {vp vf:Array Value} (h:EnvP w wr vp vf) {B:Nat} (hb:Below B wr w') (hB:w.heap.size+2≤B):EnvP w w' vp vf :=
 ⟨h.low.trans (hb.mono (by omega)),h.par.same (hb.block _ (by omega)),h.fld.same (hb.block _ (by omega))⟩
theorem EnvP.drew {w wr:World} {vp vf:Array Value} (h:EnvP w wr vp vf):EnvP w wr.drew vp vf:=⟨h.low.drew,h.par.drew,h.fld.drew⟩
theorem EnvP.size {w wr:World} {vp vf:Array Value} (h:EnvP w wr vp vf):w.heap.size+2≤wr.heap.size:=h.fld.lt
end Go.Proofs.YtomgcbfcnjbofaaGreat
/- Fields: own copies, marks. -/
namespace Go.Proofs.YtomgcbfcnjbofaaGreat
open Go.RowKit
set_option linter.unusedSimpArgs false
set_option linter.unusedVariables false
set_option maxRecDepth 20000
structure OutM (w:World) (lo mid g n c k:Nat) (vs pws:List Value) (ms:List Mono):Prop where
 own:w.ownsRow lo 67 2 (.slice (some ⟨g,0,none⟩) n c) n vs
 len:ms.length=n
 pair:∀ j m,j<k→ms[j]? = some m→vs[j*2]? = some (.int .i64 m.1)∧R64 m.1∧vs[j*2+1]? = pws[j]?
 stk:Stk kO w (g+1) mid pws ((ms.take k).map Prod.snd)
section
variable {w w':World} {lo mid g n c k:Nat} {vs pws:List Value} {ms:List Mono}
theorem OutM.lt (h:OutM w lo mid g n c k vs pws ms):g<mid:=h.stk.le
theorem OutM.vlen (h:OutM w lo mid g n c k vs pws ms):vs.length=n*2:=by simpa using h.own.1
theorem OutM.same (h:OutM w lo mid g n c k vs pws ms) (hs:Same lo mid w w'):OutM w' lo mid g n c k vs pws ms:=by
 have h1:=(h.own.lt g rfl).1
 have h2:=h.lt
 exact ⟨owns_same h.own (fun ad e=>by injection e with e;subst e;exact hs g h1 h2),h.len,h.pair,h.stk.same (fun q a b=>hs q (by omega) b)⟩
theorem OutM.below (h:OutM w lo mid g n c k vs pws ms) {B:Nat} (hb:Below B w w') (hB:mid≤B):OutM w' lo mid g n c k vs pws ms:=h.same (.of_below hb hB)
theorem OutM.capb (h:OutM w lo mid g n c k vs pws ms):n≤c∧c≤9223372036854775807:=by
 rcases h.own.2 with ⟨e,rfl⟩ | ⟨g',cap,cur,e,_,_,h1,h2,_⟩
 ·injection e;omega
 ·injection e with _ _ e3;unfold maxLen at h2;omega
theorem OutM.put (h:OutM w lo mid g n c k vs pws ms) (hk:k<n) {m:Mono} (hm:ms[k]? = some m) (hr:R64 m.1) {B:Option Addr} {mm d l h':Nat} (hO:OwnI w l h' B mm d m.2) (hl:mid≤l) (hl2:l≤h') :
  OutM ((w.setCell ⟨g,k*2,none⟩ (.int .i64 m.1)).setCell ⟨g,k*2+1,none⟩ (.slice B mm d)) lo h' g n c (k+1) ((vs.set (k*2) (.int .i64 m.1)).set (k*2+1) (.slice B mm d)) (pws++[.slice B mm d]) ms:=by
 have hvl:=h.vlen
 have hpl:=h.stk.len
 have hml:=h.len
 have hgm:=h.lt
 simp only [List.length_map,List.length_take] at hpl
 have hsame:∀ a b,g<a→Same a b w ((w.setCell ⟨g,k*2,none⟩ (.int .i64 m.1)).setCell ⟨g,k*2+1,none⟩ (.slice B mm d)):=fun a b hg=>Same.setCell (p:=⟨g,k*2+1,none⟩) (Same.setCell (p:=⟨g,k*2,none⟩) (Same.refl _ _ _) (.inl hg) _) (.inl hg) _
 refine ⟨((h.own.stored (k*2) (.int .i64 m.1)).1.stored (k*2+1) (.slice B mm d)).1,h.len,fun j m' hj hm'=>?_,?_⟩
 ·by_cases e:j=k
  ·subst e
   obtain rfl:m=m':=by rw [hm] at hm';injection hm'
   refine ⟨?_,hr,?_⟩
   ·rw [List.getElem?_set_ne (by omega),List.getElem?_set_self (by omega)]
   ·rw [List.getElem?_set_self (by simp;omega),List.getElem?_append_right (by omega)]
    simp [show j - pws.length=0 by omega]
  ·obtain ⟨a,b,e2⟩:=h.pair j m' (by omega) hm'
   refine ⟨?_,b,?_⟩
   ·rw [List.getElem?_set_ne (by omega),List.getElem?_set_ne (by omega)];exact a
   ·rw [List.getElem?_set_ne (by omega),List.getElem?_set_ne (by omega),List.getElem?_append_left (by omega)];exact e2
 ·rw [List.take_add_one,hm,List.map_append]
  exact (h.stk.same (hsame _ _ (Nat.lt_succ_self g))).snoc (⟨B,mm,d,rfl,hO.same (hsame _ _ (by omega))⟩:kO.rd _ l h' _ _) hl hl2
end
theorem OutM.mons {w:World} {lo hi g n c:Nat} {vs pws:List Value} {ms:List Mono} (h:OutM w lo hi g n c n vs pws ms):Mons w lo hi (some ⟨g,0,none⟩) n c ms:=by
 have hl:=h.len
 have hc:=h.capb
 refine ⟨hl,hc.1,hc.2,fun hn=>⟨_,rfl,(h.own.lt g rfl).1,h.lt,fun j m hm=>?_⟩⟩
 have hj:=(List.getElem?_eq_some_iff.1 hm).1
 obtain ⟨a,b,e⟩:=h.pair j m (by omega) hm
 have hs:=h.stk
 rw [List.take_of_length_le (by omega)] at hs
 obtain ⟨v,l,q,e2,⟨B,kk,d,rfl,hO⟩,x,y,z⟩:=hs.get (j:=j) (x:=m.2) (by rw [List.getElem?_map,hm];rfl)
 have e1:=h.own.cells (g:=g) rfl (j*2) _ a
 have e3:=h.own.cells (g:=g) rfl (j*2+1) _ (e.trans e2)
 have h1:=(h.own.lt g rfl).1
 refine ⟨e1,b,B,kk,d,?_,hO.ints.wide (by omega) z⟩
 rw [Addr.add_lit] at e3
 rw [Addr.add_lit]
 exact e3
end Go.Proofs.YtomgcbfcnjbofaaGreat
/- Fields: marks. -/
namespace Go.Proofs.YtomgcbfcnjbofaaGreat
open Go.RowKit
set_option linter.unusedSimpArgs false
set_option linter.unusedVariables false
set_option maxRecDepth 20000
end Go.Proofs.YtomgcbfcnjbofaaGreat
