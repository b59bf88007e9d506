/- A step of a symplectic pair along the tangents of an energy's field keeps their form, in plain Lean. -/
import Derived.Test.YtomgcbfcnjbofaaGreatMgP
import Derived.Test.YtomgcbfcnjbofaaGreatMgL
import Derived.Test.YtomgcbfcnjbofaaGreatMgC
namespace Go.Proofs.YtomgcbfcnjbofaaGreat
set_option linter.unusedSimpArgs false
set_option linter.unusedVariables false
def wide0 (ms:List Mono):List Mono:=ms.map fun m=>(m.1,m.2++[0,0])
def up1 (e:List Int) (k:Nat):List Int:=(e++[0,0]).set (2+k) ((e++[0,0]).getD (2+k) 0+1)
def wide1 (ms:List Mono) (k:Nat):List Mono:=ms.map fun m=>(m.1,up1 m.2 k)
structure TanP (f0 f1:List Mono) (ps:List (List Mono)):Prop where
 p0:ps.getD 0 []=wide0 f0
 p1:ps.getD 1 []=wide0 f1
 p2:∀ φ,sumM φ (ps.getD 2 []) % 1000000271=sumM φ (wide1 (partF f0 0) 0++wide1 (partF f0 1) 1) % 1000000271
 p3:∀ φ,sumM φ (ps.getD 3 []) % 1000000271=sumM φ (wide1 (partF f1 0) 0++wide1 (partF f1 1) 1) % 1000000271
 l0:∀ m∈f0,m.2.length=2
 l1:∀ m∈f1,m.2.length=2
theorem len_two {e:List Int} (h:e.length=2):∃ a b,e=[a,b]:=by
 match e,h with
 | [a,b],_=>exact ⟨a,b,rfl⟩
theorem part_len {d:Nat} {ms:List Mono} {v:Nat} (h:∀ m∈ms,m.2.length=d):∀ m∈partF ms v,m.2.length=d:=by
 intro m hm
 obtain ⟨a,ha,he⟩:=List.mem_filterMap.1 hm
 unfold partM at he
 split at he
 ·injection he with he
  subst he
  simpa using h a ha
 ·cases he
namespace Jr
variable {n:Nat}
theorem ev_up0 (Y:Nat→Jr n) {e:List Int} (h:e.length=2):ev Y 0 (up1 e 0)=ev Y 0 e*Y 2:=by
 obtain ⟨a,b,rfl⟩:=len_two h
 have e:(Y 2*1)*(1*1)=Y 2:=by rw [one_mul,mul_comm,one_mul,mul_comm,one_mul]
 show pow (Y 0) a.toNat*(pow (Y 1) b.toNat*((Y 2*1)*(1*1)))=pow (Y 0) a.toNat*(pow (Y 1) b.toNat*1)*Y 2
 rw [e,mul_comm (pow (Y 1) b.toNat) 1,one_mul]
 ac_rfl
theorem ev_up1 (Y:Nat→Jr n) {e:List Int} (h:e.length=2):ev Y 0 (up1 e 1)=ev Y 0 e*Y 3:=by
 obtain ⟨a,b,rfl⟩:=len_two h
 have e:(1:Jr n)*((Y 3*1)*1)=Y 3:=by rw [one_mul,mul_comm,one_mul,mul_comm,one_mul]
 show pow (Y 0) a.toNat*(pow (Y 1) b.toNat*(1*((Y 3*1)*1)))=pow (Y 0) a.toNat*(pow (Y 1) b.toNat*1)*Y 3
 rw [e,mul_comm (pow (Y 1) b.toNat) 1,one_mul]
 ac_rfl
theorem sumR_tan (Y:Nat→Jr n) {f:List Mono} (h:∀ m∈f,m.2.length=2):sumR (ev Y 0) (wide1 (partF f 0) 0++wide1 (partF f 1) 1)=sumR (ev Y 0) (partF f 0)*Y 2+sumR (ev Y 0) (partF f 1)*Y 3:=by
 rw [sumR_app,wide1,wide1,sumR_map _ (fun e=>up1 e 0),sumR_map _ (fun e=>up1 e 1),sumR_mul,sumR_mul]
 congr 1
 ·exact sumR_congr fun m hm=>ev_up0 Y (part_len h m hm)
 ·exact sumR_congr fun m hm=>ev_up1 Y (part_len h m hm)
theorem ev_base {Y Z:Nat→Jr n} (h0:Y 0=Z 0) (h1:Y 1=Z 1) {e:List Int} (h:e.length=2):ev Y 0 e=ev Z 0 e:=by
 obtain ⟨a,b,rfl⟩:=len_two h
 show pow (Y 0) a.toNat*(pow (Y 1) b.toNat*1)=pow (Z 0) a.toNat*(pow (Z 1) b.toNat*1)
 rw [h0,h1]
theorem sumR_base {Y Z:Nat→Jr n} (h0:Y 0=Z 0) (h1:Y 1=Z 1) {f:List Mono} (h:∀ m∈f,m.2.length=2):sumR (ev Y 0) f=sumR (ev Z 0) f:=sumR_congr fun m hm=>ev_base h0 h1 (h m hm)
end Jr
theorem der_wide {n:Nat} {Y Z:Nat→List Int} (h0:Y 0=Z 0) (h1:Y 1=Z 1):∀ (f:List Mono) (o:List Int),(∀ m∈f,m.2.length=2)→derJ n Y (wide0 f) o=derJ n Z (wide0 f) o
 | [],_,_=>rfl
 | m :: r,o,h=>by
  obtain ⟨c,e⟩:=m
  obtain ⟨a,b,rfl⟩:=len_two (h _ List.mem_cons_self)
  show derJ n Y (wide0 r) (jplus o (powJ b.toNat (powJ a.toNat (unitJ n 1) (Y 0)) (Y 1)) c)=derJ n Z (wide0 r) (jplus o (powJ b.toNat (powJ a.toNat (unitJ n 1) (Z 0)) (Z 1)) c)
  rw [h0,h1]
  exact der_wide h0 h1 r _ (fun q hq=>h q (List.mem_cons_of_mem _ hq))
theorem rowJ_at {xs:List Int} {S s j:Nat} (hj:j<S):(rowJ xs S s).getD j 0=xs.getD (s*S+j) 0:=by
 rw [rowJ,List.getD_eq_getElem?_getD,List.getElem?_take_of_lt hj,List.getElem?_drop,← List.getD_eq_getElem?_getD]
theorem symJ_spec {N:Nat} {b f g:List Int} {i:Nat}:∀ (s j:Nat),symJ N b f g i s j=true→∀ q,j≤q→q<j+s→plusF (timesF (b.getD i 0) (g.getD (i*N+q) 0)) (timesF (b.getD q 0) (f.getD (q*N+i) 0))=timesF (b.getD i 0) (b.getD q 0)
 | 0,_,_,_,_,_=>by omega
 | s+1,j,h,q,h1,h2=>by
  rw [symJ] at h
  split at h
  ·rename_i h3
   by_cases h4:q=j
   ·rw [h4];exact h3
   ·exact symJ_spec s (j+1) h q (by omega) (by omega)
  ·cases h
theorem symI_spec {N:Nat} {b f g:List Int}:∀ (s i:Nat),symI N b f g s i=true→∀ p,i≤p→p<i+s→∀ q,q<N→plusF (timesF (b.getD p 0) (g.getD (p*N+q) 0)) (timesF (b.getD q 0) (f.getD (q*N+p) 0))=timesF (b.getD p 0) (b.getD q 0)
 | 0,_,_,_,_,_=>by omega
 | s+1,i,h,p,h1,h2=>by
  rw [symI] at h
  split at h
  ·rename_i h3
   by_cases h4:p=i
   ·rw [h4];exact fun q hq=>symJ_spec N 0 h3 q (by omega) (by omega)
   ·exact symI_spec s (i+1) h p (by omega) (by omega)
  ·cases h
def formJ (n:Nat) (a0 a1 b0 b1:List Int):List Int:=jplus (jplus (zeroJ n) (jmul a0 b1) 1) (jmul a1 b0) (-1)
theorem of_form {n:Nat} {a0 a1 b0 b1:List Int} (h0:a0.length=n) (h1:a1.length=n):(Jr.of (formJ n a0 a1 b0 b1):Jr n)=Jr.of a0*Jr.of b1+Jr.cst (-1)*(Jr.of a1*Jr.of b0):=by
 rw [formJ,Jr.of_plus (by rw [jplus_len,zero_len]),Jr.of_plus (zero_len n),Jr.of_zero,Jr.zero_add,Jr.cst_one,Jr.one_mul,Jr.of_mul h0,Jr.of_mul h1]
theorem form_num (n:Nat) (a0 a1 b0 b1:List Int):∀ x∈formJ n a0 a1 b0 b1,0≤x∧x<1000000271:=tabJ_num fun _=>plusF_bd _ _
theorem form_len (n:Nat) (a0 a1 b0 b1:List Int):(formJ n a0 a1 b0 b1).length=n:=by rw [formJ,jplus_len,jplus_len,zero_len]
section
variable {n S:Nat} {h f0 f1:List Mono} {ps:List (List Mono)} {ys zs:List (List Int)} {xs xs' bs:List Int} (tA tB:Nat→List Int)
def vJ (n S:Nat) (ps:List (List Mono)) (ys:List (List Int)) (tA:Nat→List Int) (t:Nat):Nat→Nat→List Int:=iterJ n S (fun i=>ps.getD i []) (fun i=>ys.getD i []) (fun i s=>rowJ (tA i) S s) t
def yJ (n S:Nat) (ps:List (List Mono)) (ys:List (List Int)) (tA:Nat→List Int) (s i:Nat):List Int:=accJ (ys.getD i []) (fun s'=>vJ n S ps ys tA n s' i) (rowJ (tA i) S s) S
theorem vJ_len (n S:Nat) (ps:List (List Mono)) (ys:List (List Int)) (tA:Nat→List Int) (t s i:Nat):(vJ n S ps ys tA t s i).length=n:=iter_len _ _ _ _ _ _ _ _
theorem vJ_fix (n S:Nat) (ps:List (List Mono)) (ys:List (List Int)) (tA:Nat→List Int) (s i:Nat):vJ n S ps ys tA n s i=polyJ n (ps.getD i []) (fun i'=>yJ n S ps ys tA s i'):=by
 have e:=iter_rest n S (fun i=>ps.getD i []) (fun i=>ys.getD i []) (fun i s=>rowJ (tA i) S s)
 have e2:=congrFun (congrFun e s) i
 exact e2.symm
theorem of_vJ (n S:Nat) (ps:List (List Mono)) (ys:List (List Int)) (tA:Nat→List Int) (s i:Nat):(Jr.of (vJ n S ps ys tA n s i):Jr n)=Jr.sumR (Jr.ev (fun i'=>Jr.of (yJ n S ps ys tA s i')) 0) (ps.getD i []):=by
 rw [vJ_fix,Jr.of_poly]
theorem of_yJ {n S:Nat} {ps:List (List Mono)} {ys:List (List Int)} {tA:Nat→List Int} {i:Nat} (hy:(ys.getD i []).length=n) (s:Nat):(Jr.of (yJ n S ps ys tA s i):Jr n)=Jr.of (ys.getD i [])+Jr.sum (fun j=>Jr.cst ((tA i).getD (s*S+j) 0)*(Jr.x*Jr.of (vJ n S ps ys tA n j i))) S:=by
 rw [yJ,Jr.of_acc hy (fun s'=>vJ_len _ _ _ _ _ _ _ _)]
 congr 1
 exact Jr.sum_congr fun j hj=>by rw [rowJ_at hj]
theorem base_same (h0:ys.getD 0 []=zs.getD 0 []) (h1:ys.getD 1 []=zs.getD 1 []) (hp0:ps.getD 0 []=wide0 f0) (hp1:ps.getD 1 []=wide0 f1) (l0:∀ m∈f0,m.2.length=2) (l1:∀ m∈f1,m.2.length=2) :
  ∀ t s,vJ n S ps ys tA t s 0=vJ n S ps zs tA t s 0∧vJ n S ps ys tA t s 1=vJ n S ps zs tA t s 1
 | 0,_=>⟨rfl,rfl⟩
 | t+1,s=>by
  have ih:=base_same h0 h1 hp0 hp1 l0 l1 t
  have a0:accJ (ys.getD 0 []) (fun s'=>vJ n S ps ys tA t s' 0) (rowJ (tA 0) S s) S=accJ (zs.getD 0 []) (fun s'=>vJ n S ps zs tA t s' 0) (rowJ (tA 0) S s) S:=by
   rw [h0,show (fun s'=>vJ n S ps ys tA t s' 0)=fun s'=>vJ n S ps zs tA t s' 0 from funext fun s'=>(ih s').1]
  have a1:accJ (ys.getD 1 []) (fun s'=>vJ n S ps ys tA t s' 1) (rowJ (tA 1) S s) S=accJ (zs.getD 1 []) (fun s'=>vJ n S ps zs tA t s' 1) (rowJ (tA 1) S s) S:=by
   rw [h1,show (fun s'=>vJ n S ps ys tA t s' 1)=fun s'=>vJ n S ps zs tA t s' 1 from funext fun s'=>(ih s').2]
  constructor
  ·show polyJ n (ps.getD 0 []) _=polyJ n (ps.getD 0 []) _
   rw [hp0]
   exact der_wide (Y:=fun i=>accJ (ys.getD i []) (fun s'=>vJ n S ps ys tA t s' i) (rowJ (tA i) S s) S) (Z:=fun i=>accJ (zs.getD i []) (fun s'=>vJ n S ps zs tA t s' i) (rowJ (tA i) S s) S) a0 a1 f0 _ l0
  ·show polyJ n (ps.getD 1 []) _=polyJ n (ps.getD 1 []) _
   rw [hp1]
   exact der_wide (Y:=fun i=>accJ (ys.getD i []) (fun s'=>vJ n S ps ys tA t s' i) (rowJ (tA i) S s) S) (Z:=fun i=>accJ (zs.getD i []) (fun s'=>vJ n S ps zs tA t s' i) (rowJ (tA i) S s) S) a0 a1 f1 _ l1
def outA (n S:Nat) (ps:List (List Mono)) (ys:List (List Int)) (tA tB:Nat→List Int) (i:Nat):List Int:=accJ (ys.getD i []) (fun s=>vJ n S ps ys tA n s i) (tB i) S
theorem outA_len {i:Nat} (hy:(ys.getD i []).length=n):(outA n S ps ys tA tB i).length=n:=by rw [outA,acc_len,hy]
theorem of_outA {i:Nat} (hy:(ys.getD i []).length=n):(Jr.of (outA n S ps ys tA tB i):Jr n)=Jr.of (ys.getD i [])+Jr.sum (fun s=>Jr.cst ((tB i).getD s 0)*(Jr.x*Jr.of (vJ n S ps ys tA n s i))) S:=by
 rw [outA,Jr.of_acc hy (fun s'=>vJ_len _ _ _ _ _ _ _ _)]
theorem form_kept (hT:TanP (partF h 1) (Jr.scaledF (partF h 0) (-1)) ps) (hh:∀ m∈h,m.2.length=2)
  (hy:∀ i,i<4→(ys.getD i []).length=n) (hz:∀ i,i<4→(zs.getD i []).length=n) (h0:ys.getD 0 []=zs.getD 0 []) (h1:ys.getD 1 []=zs.getD 1 [])
  (a2:tA 2=xs) (a3:tA 3=xs') (b2:tB 2=bs) (b3:tB 3=bs) (hs:symI S bs xs xs' S 0=true) :
  formJ n (outA n S ps ys tA tB 2) (outA n S ps ys tA tB 3) (outA n S ps zs tA tB 2) (outA n S ps zs tA tB 3)=formJ n (ys.getD 2 []) (ys.getD 3 []) (zs.getD 2 []) (zs.getD 3 []):=by
 refine Jr.of_inj (form_len _ _ _ _ _) (form_len _ _ _ _ _) (form_num _ _ _ _ _) (form_num _ _ _ _ _) ?_
 rw [of_form (outA_len tA tB (hy 2 (by omega))) (outA_len tA tB (hy 3 (by omega))),of_form (hy 2 (by omega)) (hy 3 (by omega))]
 rw [of_outA tA tB (hy 2 (by omega)),of_outA tA tB (hy 3 (by omega)),of_outA tA tB (hz 2 (by omega)),of_outA tA tB (hz 3 (by omega)),b2,b3]
 have hb:=base_same (n:=n) (S:=S) tA h0 h1 hT.p0 hT.p1 hT.l0 hT.l1 n
 have q0:∀ s,(Jr.of (yJ n S ps zs tA s 0):Jr n)=Jr.of (yJ n S ps ys tA s 0):=fun s=>by
  rw [yJ,yJ,h0,show (fun s'=>vJ n S ps ys tA n s' 0)=fun s'=>vJ n S ps zs tA n s' 0 from funext fun s'=>(hb s').1]
 have q1:∀ s,(Jr.of (yJ n S ps zs tA s 1):Jr n)=Jr.of (yJ n S ps ys tA s 1):=fun s=>by
  rw [yJ,yJ,h1,show (fun s'=>vJ n S ps ys tA n s' 1)=fun s'=>vJ n S ps zs tA n s' 1 from funext fun s'=>(hb s').2]
 have val2:∀ (us:List (List Int)) s,(Jr.of (vJ n S ps us tA n s 2):Jr n)=Jr.sumR (Jr.ev (fun i'=>Jr.of (yJ n S ps us tA s i')) 0) (partF (partF h 1) 0)*Jr.of (yJ n S ps us tA s 2)+Jr.sumR (Jr.ev (fun i'=>Jr.of (yJ n S ps us tA s i')) 0) (partF (partF h 1) 1)*Jr.of (yJ n S ps us tA s 3):=fun us s=>by
  rw [of_vJ,Jr.sumR_eqv _ hT.p2,Jr.sumR_tan _ hT.l0]
 have val3:∀ (us:List (List Int)) s,(Jr.of (vJ n S ps us tA n s 3):Jr n)=Jr.sumR (Jr.ev (fun i'=>Jr.of (yJ n S ps us tA s i')) 0) (partF (Jr.scaledF (partF h 0) (-1)) 0)*Jr.of (yJ n S ps us tA s 2)+Jr.sumR (Jr.ev (fun i'=>Jr.of (yJ n S ps us tA s i')) 0) (partF (Jr.scaledF (partF h 0) (-1)) 1)*Jr.of (yJ n S ps us tA s 3):=fun us s=>by
  rw [of_vJ,Jr.sumR_eqv _ hT.p3,Jr.sumR_tan _ hT.l1]
 have bs0:∀ (g:List Mono) (_:∀ m∈g,m.2.length=2) s,Jr.sumR (Jr.ev (fun i'=>(Jr.of (yJ n S ps zs tA s i'):Jr n)) 0) g=Jr.sumR (Jr.ev (fun i'=>Jr.of (yJ n S ps ys tA s i')) 0) g:=fun g hg s=>Jr.sumR_base (q0 s) (q1 s) hg
 refine Jr.symp (a:=fun s j=>Jr.cst (xs.getD (s*S+j) 0)) (ah:=fun s j=>Jr.cst (xs'.getD (s*S+j) 0))
  (Us:=fun s=>Jr.of (yJ n S ps ys tA s 2)) (Vs:=fun s=>Jr.of (yJ n S ps ys tA s 3)) (Us':=fun s=>Jr.of (yJ n S ps zs tA s 2)) (Vs':=fun s=>Jr.of (yJ n S ps zs tA s 3))
  (al:=fun s=>Jr.sumR (Jr.ev (fun i'=>Jr.of (yJ n S ps ys tA s i')) 0) (partF (partF h 1) 0)) (be:=fun s=>Jr.sumR (Jr.ev (fun i'=>Jr.of (yJ n S ps ys tA s i')) 0) (partF (partF h 1) 1))
  (ga:=fun s=>Jr.sumR (Jr.ev (fun i'=>Jr.of (yJ n S ps ys tA s i')) 0) (partF (Jr.scaledF (partF h 0) (-1)) 0)) (de:=fun s=>Jr.sumR (Jr.ev (fun i'=>Jr.of (yJ n S ps ys tA s i')) 0) (partF (Jr.scaledF (partF h 0) (-1)) 1))
  ?_ ?_ ?_ ?_ ?_ ?_ ?_ ?_ ?_ ?_
 ·exact fun s _=>by rw [of_yJ (hy 2 (by omega)),a2]
 ·exact fun s _=>by rw [of_yJ (hy 3 (by omega)),a3]
 ·exact fun s _=>by rw [of_yJ (hz 2 (by omega)),a2]
 ·exact fun s _=>by rw [of_yJ (hz 3 (by omega)),a3]
 ·exact fun s _=>by rw [val2]
 ·exact fun s _=>by rw [val3]
 ·exact fun s _=>by rw [val2,bs0 _ (part_len hT.l0),bs0 _ (part_len hT.l0)]
 ·exact fun s _=>by rw [val3,bs0 _ (part_len hT.l1),bs0 _ (part_len hT.l1)]
 ·exact fun s _=>Jr.ham_zero _ h
 ·intro s hs1 j hj1
  have e:=symI_spec S 0 hs s (by omega) (by omega) j hj1
  have e2:((bs.getD s 0*bs.getD j 0:Int)) % 1000000271=(bs.getD j 0*xs.getD (j*S+s) 0+bs.getD s 0*xs'.getD (s*S+j) 0) % 1000000271:=by
   unfold plusF timesF at e
   omega
  show Jr.cst _*Jr.cst _=Jr.cst _*Jr.cst _+Jr.cst _*Jr.cst _
  rw [← Jr.cst_cst,← Jr.cst_cst,← Jr.cst_cst,← Jr.cst_add]
  exact Jr.cst_mod e2
end
end Go.Proofs.YtomgcbfcnjbofaaGreat
