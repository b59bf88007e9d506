/- A system of equations whose rows are killed by no vector but zero is solved: in plain Lean. -/
import Derived.Test.YtomgcbfcnjbofaaGreatMgX
import Derived.Test.YtomgcbfcnjbofaaGreatMgT
import Derived.Test.YtomgcbfcnjbofaaGreatMgY
namespace Go.Proofs.YtomgcbfcnjbofaaGreat
set_option linter.unusedSimpArgs false
set_option linter.unusedVariables false
def dotK:Nat→List Int→(Nat→Int)→Int
 | 0,_,_=>0
 | k+1,r,v=>dotK k r v+r.getD k 0*v k
theorem dot_scal (x:Int) (r:List Int) (v:Nat→Int):∀ k,dotK k (scalRowF x r) v % 1000000271=(x*dotK k r v) % 1000000271
 | 0=>by rw [dotK,dotK,Int.mul_zero]
 | k+1=>by
  have ih:=dot_scal x r v k
  have e:(scalRowF x r).getD k 0=timesF (r.getD k 0) x:=by
   unfold scalRowF
   rw [List.getD_eq_getElem?_getD,List.getD_eq_getElem?_getD,List.getElem?_map]
   cases r[k]? <;> simp [timesF]
  have e2:(timesF (r.getD k 0) x*v k) % 1000000271=(x*(r.getD k 0*v k)) % 1000000271:=by
   unfold timesF
   rw [Int.mul_emod,Int.emod_emod_of_dvd _ (Int.dvd_refl _),← Int.mul_emod]
   congr 1
   grind
  rw [dotK,dotK,e,Int.mul_add]
  omega
theorem dot_elim (m:Int) {r t:List Int} {K:Nat} (hr:r.length=K) (ht:t.length=K) (v:Nat→Int):∀ k,k≤K→dotK k (elimF m r t) v % 1000000271=(dotK k r v - m*dotK k t v) % 1000000271
 | 0,_=>by rw [dotK,dotK,dotK,Int.mul_zero,Int.sub_zero]
 | k+1,hk=>by
  have ih:=dot_elim m hr ht v k (by omega)
  have e:(elimF m r t).getD k 0=minusF (r.getD k 0) (m*t.getD k 0):=by
   unfold elimF
   rw [List.getD_eq_getElem?_getD,List.getElem?_zipWith,List.getD_eq_getElem?_getD,List.getD_eq_getElem?_getD,List.getElem?_eq_getElem (show k<r.length by omega),List.getElem?_eq_getElem (show k<t.length by omega)]
   rfl
  have e2:(minusF (r.getD k 0) (m*t.getD k 0)*v k) % 1000000271=(r.getD k 0*v k - m*(t.getD k 0*v k)) % 1000000271:=by
   unfold minusF
   rw [Int.mul_emod,Int.emod_emod_of_dvd _ (Int.dvd_refl _),← Int.mul_emod]
   congr 1
   grind
  rw [dotK,dotK,dotK,e,Int.mul_add]
  omega
theorem piv_spec (M:List (List Int)) (c:Nat):∀ (f a:Nat),(pivF M c f a=a+f∧∀ i,a≤i→i<a+f→atM M i c=0)∨(a≤pivF M c f a∧pivF M c f a<a+f∧atM M (pivF M c f a) c≠0)
 | 0,a => .inl ⟨rfl,fun i h1 h2=>by omega⟩
 | f+1,a=>by
  rw [pivF]
  by_cases h:atM M a c=0
  ·rw [if_pos h]
   rcases piv_spec M c f (a+1) with ⟨h1,h2⟩ | ⟨h1,h2,h3⟩
   ·refine .inl ⟨by omega,fun i h3 h4=>?_⟩
    by_cases h5:i=a
    ·rw [h5];exact h
    ·exact h2 i (by omega) (by omega)
   ·exact .inr ⟨by omega,by omega,h3⟩
  ·rw [if_neg h]
   exact .inr ⟨Nat.le_refl _,by omega,h⟩
theorem getD_set {α:Type} (l:List α) (i j:Nat) (x d:α) (hi:i<l.length):(l.set i x).getD j d=if i=j then x else l.getD j d:=by
 rw [List.getD_eq_getElem?_getD]
 by_cases h:i=j
 ·subst h
  rw [List.getElem?_set_self hi,if_pos rfl]
  rfl
 ·rw [List.getElem?_set_ne h,if_neg h,← List.getD_eq_getElem?_getD]
theorem elimsQ_row (c top:Nat):∀ (f i:Nat) (M:List (List Int)),i+f≤M.length→∀ q,(elimsF c top f i M).getD q []=if i≤q∧q<i+f∧q≠top∧atM M q c≠0 then elimF (atM M q c) (M.getD q []) (M.getD top []) else M.getD q []
 | 0,i,M,_,q=>by rw [elimsF,if_neg (by omega)]
 | f+1,i,M,h,q=>by
  rw [elimsF]
  by_cases h1:i=top∨atM M i c=0
  ·rw [if_pos h1,elimsQ_row c top f (i+1) M (by omega) q]
   by_cases h2:i+1≤q∧q<i+1+f∧q≠top∧atM M q c≠0
   ·rw [if_pos h2,if_pos ⟨by omega,by omega,h2.2.2⟩]
   ·rw [if_neg h2,if_neg]
    rintro ⟨g1,g2,g3,g4⟩
    by_cases h3:q=i
    ·subst h3
     rcases h1 with h1 | h1
     ·exact g3 h1
     ·exact g4 h1
    ·exact h2 ⟨by omega,by omega,g3,g4⟩
  ·have hi:i<M.length:=by omega
   have hne:i≠top∧atM M i c≠0:=⟨fun e=>h1 (.inl e),fun e=>h1 (.inr e)⟩
   rw [if_neg h1,elimsQ_row c top f (i+1) _ (by simpa using (by omega:i+1+f≤M.length)) q]
   have t1:(M.set i (elimF (atM M i c) (M.getD i []) (M.getD top []))).getD top []=M.getD top []:=by rw [getD_set _ _ _ _ _ hi,if_neg hne.1]
   by_cases h3:q=i
   ·subst h3
    rw [if_neg (by omega),getD_set _ _ _ _ _ hi,if_pos rfl,if_pos ⟨by omega,by omega,hne.1,hne.2⟩]
   ·have t2:(M.set i (elimF (atM M i c) (M.getD i []) (M.getD top []))).getD q []=M.getD q []:=by rw [getD_set _ _ _ _ _ hi,if_neg (Ne.symm h3)]
    have t3:atM (M.set i (elimF (atM M i c) (M.getD i []) (M.getD top []))) q c=atM M q c:=congrArg (fun r=>r.getD c 0) t2
    rw [t1,t2,t3]
    by_cases h2:i+1≤q∧q<i+1+f∧q≠top∧atM M q c≠0
    ·rw [if_pos h2,if_pos ⟨by omega,by omega,h2.2.2⟩]
    ·rw [if_neg h2,if_neg]
     rintro ⟨g1,g2,g3,g4⟩
     exact h2 ⟨by omega,by omega,g3,g4⟩
theorem elims_len (c top:Nat):∀ (f i:Nat) (M:List (List Int)),(elimsF c top f i M).length=M.length
 | 0,_,_=>rfl
 | f+1,i,M=>by
  rw [elimsF,elims_len c top f]
  split
  ·rfl
  ·simp
theorem swap_row {M:List (List Int)} {a c:Nat} (ha:a<M.length) (hc:c<M.length) (q:Nat):(swapF M a c).getD q []=if q=c then M.getD a [] else if q=a then M.getD c [] else M.getD q []:=by
 unfold swapF
 rw [getD_set _ _ _ _ _ (by simpa using hc)]
 by_cases h:c=q
 ·rw [if_pos h,if_pos h.symm]
 ·rw [if_neg h,if_neg (Ne.symm h),getD_set _ _ _ _ _ ha]
  by_cases h2:a=q
  ·rw [if_pos h2,if_pos h2.symm]
  ·rw [if_neg h2,if_neg (Ne.symm h2)]
structure RedI (k c:Nat) (M:List (List Int)) (piv:List Int):Prop where
 len:M.length=k
 row:∀ i,i<k→(M.getD i []).length=k+1
 num:∀ i,i<k→∀ j,0≤atM M i j∧atM M i j<1000000271
 piv:piv=(List.range c).map fun i:Nat=>(i:Int)
 unit:∀ j,j<c→∀ i,i<k→atM M i j=if i=j then 1 else 0
 ker:∀ v:Nat→Int,(∀ i,i<k→dotK k (M.getD i []) v % 1000000271=0)→∀ j,j<k→v j % 1000000271=0
def kerV (M:List (List Int)) (c:Nat) (j:Nat):Int:=if j<c then -(atM M j c) else if j=c then 1 else 0
theorem ker_dot {M:List (List Int)} {c i:Nat} (hu:∀ j,j<c→atM M i j=if i=j then 1 else 0):∀ n,dotK n (M.getD i []) (kerV M c)=(if i<n∧i<c then -(atM M i c) else 0)+(if c<n then atM M i c else 0)
 | 0=>by rw [dotK,if_neg (by omega),if_neg (by omega)];rfl
 | n+1=>by
  rw [dotK,ker_dot hu n]
  show _+atM M i n*kerV M c n=_
  unfold kerV
  by_cases h1:n<c
  ·rw [if_pos h1,hu n h1,if_neg (show ¬ c<n by omega),if_neg (show ¬ c<n+1 by omega)]
   by_cases h2:i=n
   ·subst h2
    rw [if_pos rfl,if_neg (show ¬ (i<i∧i<c) by omega),if_pos (show i<i+1∧i<c by omega)]
    omega
   ·rw [if_neg h2]
    by_cases h3:i<n∧i<c
    ·rw [if_pos h3,if_pos (show i<n+1∧i<c by omega)];omega
    ·rw [if_neg h3,if_neg (show ¬ (i<n+1∧i<c) by omega)];omega
  ·rw [if_neg h1]
   have h4:(i<n∧i<c)↔(i<n+1∧i<c):=by omega
   by_cases h2:n=c
   ·subst h2
    rw [if_pos rfl,if_neg (show ¬ n<n by omega),if_pos (show n<n+1 by omega),Int.mul_one]
    simp only [h4]
    omega
   ·rw [if_neg h2,if_pos (show c<n by omega),if_pos (show c<n+1 by omega),Int.mul_zero]
    simp only [h4]
    omega
theorem redI_step {k c:Nat} {M:List (List Int)} {piv:List Int} (h:RedI k c M piv) (hc:c<k):RedI k (c+1) (stepF c M piv).1 (stepF c M piv).2:=by
 have hl:=h.len
 have hp:piv.length=c:=by rw [h.piv];simp
 unfold stepF
 simp only [hp,hl]
 rcases piv_spec M c (k - c) c with ⟨h1,h2⟩ | ⟨h1,h2,h3⟩
 ·exfalso
  have hz:=h.ker (kerV M c) (fun i hi=>by
   rw [ker_dot (c:=c) (fun j hj=>h.unit j hj i hi) k,if_pos hc]
   by_cases hic:i<c
   ·rw [if_pos ⟨hi,hic⟩];omega
   ·rw [if_neg (by omega),h2 i (by omega) (by omega)];rfl) c hc
  unfold kerV at hz
  rw [if_neg (by omega),if_pos rfl] at hz
  omega
 ·generalize pivF M c (k - c) c=a at h1 h2 h3
  have hak:a<k:=by omega
  rw [if_neg (by omega)]
  have r1:∀ q,(swapF M a c).getD q []=if q=c then M.getD a [] else if q=a then M.getD c [] else M.getD q []:=swap_row (by omega) (by omega)
  have l1:(swapF M a c).length=k:=by simp [swapF,hl]
  generalize hM1:swapF M a c=M1 at r1 l1
  have hp1:atM M1 c c=atM M a c:=by unfold atM;rw [r1,if_pos rfl]
  obtain ⟨p,hpe⟩:∃ p,p=atM M a c:=⟨_,rfl⟩
  have hpn:=h.num a hak c
  rw [hp1,← hpe]
  rw [← hpe] at hpn h3
  have hinv:=inv_law (b:=p) (by omega) hpn.2
  generalize invF p=x at hinv
  have r2:∀ q,(M1.set c (scalRowF x (M1.getD c []))).getD q []=if q=c then scalRowF x (M.getD a []) else M1.getD q []:=fun q=>by
   rw [getD_set _ _ _ _ _ (by omega)]
   by_cases hq:c=q
   ·rw [if_pos hq,if_pos hq.symm,r1,if_pos rfl]
   ·rw [if_neg hq,if_neg (Ne.symm hq)]
  have l2:(M1.set c (scalRowF x (M1.getD c []))).length=k:=by simpa using l1
  generalize hM2:M1.set c (scalRowF x (M1.getD c []))=M2 at r2 l2
  have r3:∀ q,q<k→(elimsF c c k 0 M2).getD q []=if q≠c∧atM M2 q c≠0 then elimF (atM M2 q c) (M2.getD q []) (M2.getD c []) else M2.getD q []:=fun q hq=>by
   rw [elimsQ_row c c k 0 M2 (by omega) q]
   by_cases h4:q≠c∧atM M2 q c≠0
   ·rw [if_pos h4,if_pos ⟨by omega,by omega,h4⟩]
   ·rw [if_neg h4,if_neg (fun g=>h4 g.2.2)]
  have l3:(elimsF c c k 0 M2).length=k:=by rw [elims_len,l2]
  generalize elimsF c c k 0 M2=M3 at r3 l3
  have tl:(scalRowF x (M.getD a [])).length=k+1:=by rw [scalRowF,List.length_map];exact h.row a hak
  have w1:∀ q,q<k→(M1.getD q []).length=k+1:=fun q hq=>by
   rw [r1]
   split
   ·exact h.row a hak
   ·split
    ·exact h.row c hc
    ·exact h.row q hq
  have w2:∀ q,q<k→(M2.getD q []).length=k+1:=fun q hq=>by
   rw [r2]
   split
   ·exact tl
   ·exact w1 q hq
  have n1:∀ q,q<k→∀ j,0≤atM M1 q j∧atM M1 q j<1000000271:=fun q hq j=>by
   unfold atM
   rw [r1]
   split
   ·exact h.num a hak j
   ·split
    ·exact h.num c hc j
    ·exact h.num q hq j
  have sc:∀ j,(scalRowF x (M.getD a [])).getD j 0=timesF (atM M a j) x:=fun j=>by
   unfold scalRowF atM
   rw [List.getD_eq_getElem?_getD,List.getD_eq_getElem?_getD (l:=M.getD a []),List.getElem?_map]
   cases (M.getD a [])[j]? <;> simp [timesF]
  have n2:∀ q,q<k→∀ j,0≤atM M2 q j∧atM M2 q j<1000000271:=fun q hq j=>by
   unfold atM
   rw [r2]
   split
   ·rw [sc];exact timesF_bd _ _
   ·exact n1 q hq j
  have cc:atM M2 c c=1:=by
   unfold atM
   rw [r2,if_pos rfl,sc,← hpe]
   unfold timesF
   omega
  have u2:∀ j,j<c→∀ i,i<k→atM M2 i j=if i=j then 1 else 0:=fun j hj i hi=>by
   unfold atM
   rw [r2]
   by_cases hic:i=c
   ·rw [if_pos hic,sc,h.unit j hj a hak,if_neg (by omega),if_neg (by omega)]
    exact timesF_zero' x
   ·rw [if_neg hic,r1,if_neg hic]
    by_cases hia:i=a
    ·rw [if_pos hia]
     show atM M c j=_
     rw [h.unit j hj c hc,if_neg (by omega),if_neg (by omega)]
    ·rw [if_neg hia]
     exact h.unit j hj i hi
  have el:∀ q,q<k→∀ j,j<k+1→(elimF (atM M2 q c) (M2.getD q []) (M2.getD c [])).getD j 0=minusF (atM M2 q j) (atM M2 q c*atM M2 c j):=fun q hq j hj=>by
   have z1:=w2 q hq
   have z2:=w2 c hc
   unfold elimF
   rw [List.getD_eq_getElem?_getD,List.getElem?_zipWith,List.getElem?_eq_getElem (show j<(M2.getD q []).length by omega),List.getElem?_eq_getElem (show j<(M2.getD c []).length by omega)]
   show minusF _ _=minusF ((M2.getD q []).getD j 0) (_*(M2.getD c []).getD j 0)
   rw [List.getD_eq_getElem?_getD (l:=M2.getD q []),List.getD_eq_getElem?_getD (l:=M2.getD c []),List.getElem?_eq_getElem (show j<(M2.getD q []).length by omega),List.getElem?_eq_getElem (show j<(M2.getD c []).length by omega)]
   rfl
  have lenE:∀ q,q<k→(elimF (atM M2 q c) (M2.getD q []) (M2.getD c [])).length=k+1:=fun q hq=>by
   unfold elimF
   rw [List.length_zipWith,w2 q hq,w2 c hc]
   exact Nat.min_self _
  refine ⟨l3,fun q hq=>?_,fun q hq j=>?_,?_,fun j hj i hi=>?_,fun v hv=>?_⟩
  ·rw [r3 q hq]
   split
   ·exact lenE q hq
   ·exact w2 q hq
  ·unfold atM
   rw [r3 q hq]
   split
   ·by_cases hj:j<k+1
    ·rw [el q hq j hj];exact minusF_bd _ _
    ·rw [List.getD_eq_getElem?_getD,List.getElem?_eq_none (by rw [lenE q hq];omega)]
     exact ⟨Int.le_refl 0,by decide⟩
   ·exact n2 q hq j
  ·rw [h.piv,List.range_succ,List.map_append]
   rfl
  ·unfold atM
   rw [r3 i hi]
   by_cases hjc:j=c
   ·subst hjc
    by_cases h4:i≠j∧atM M2 i j≠0
    ·rw [if_pos h4,el i hi j (by omega),cc,Int.mul_one,if_neg h4.1]
     unfold minusF
     rw [Int.sub_self]
     rfl
    ·rw [if_neg h4]
     by_cases h5:i=j
     ·rw [if_pos h5,h5];exact cc
     ·rw [if_neg h5]
      exact Classical.byContradiction fun h6=>h4 ⟨h5,h6⟩
   ·have hjl:j<c:=by omega
    by_cases h4:i≠c∧atM M2 i c≠0
    ·rw [if_pos h4,el i hi j (by omega),u2 j hjl c hc,if_neg (by omega:¬ c=j),Int.mul_zero,u2 j hjl i hi]
     unfold minusF
     by_cases h5:i=j
     ·rw [if_pos h5];rfl
     ·rw [if_neg h5];rfl
    ·rw [if_neg h4]
     exact u2 j hjl i hi
  ·have k2c:dotK k (M2.getD c []) v % 1000000271=0:=by
    have:=hv c hc
    rw [r3 c hc,if_neg (fun g=>g.1 rfl)] at this
    exact this
   have k2:∀ q,q<k→dotK k (M2.getD q []) v % 1000000271=0:=fun q hq=>by
    have h5:=hv q hq
    rw [r3 q hq] at h5
    split at h5
    ·rw [dot_elim _ (w2 q hq) (w2 c hc) v k (by omega)] at h5
     have h6:(atM M2 q c*dotK k (M2.getD c []) v) % 1000000271=0:=by rw [Int.mul_emod,k2c,Int.mul_zero];rfl
     omega
    ·exact h5
   have ka:dotK k (M.getD a []) v % 1000000271=0:=by
    have h5:=k2 c hc
    rw [r2,if_pos rfl,dot_scal] at h5
    have h6:(p*(x*dotK k (M.getD a []) v)) % 1000000271=0:=by rw [Int.mul_emod,h5,Int.mul_zero];rfl
    rw [← Int.mul_assoc,Int.mul_emod,hinv,Int.one_mul,Int.emod_emod_of_dvd _ (Int.dvd_refl _)] at h6
    exact h6
   refine h.ker v fun i hi=>?_
   by_cases hia:i=a
   ·rw [hia];exact ka
   ·by_cases hic:i=c
    ·have h5:=k2 a hak
     have hac:a≠c:=fun e=>hia (by rw [hic,e])
     rw [r2,if_neg hac,r1,if_neg hac,if_pos rfl] at h5
     rw [hic];exact h5
    ·have h5:=k2 i hi
     rw [r2,if_neg hic,r1,if_neg hic,if_neg hia] at h5
     exact h5
theorem red_all {k:Nat}:∀ (f c:Nat) (M:List (List Int)) (piv:List Int),RedI k c M piv→c+f=k→RedI k k (redF f c M piv).1 (redF f c M piv).2
 | 0,c,M,piv,h,e=>by
  obtain rfl:c=k:=by omega
  exact h
 | f+1,c,M,piv,h,e=>by
  rw [redF]
  exact red_all f (c+1) _ _ (redI_step h (by omega)) (by omega)
theorem dot_aug {r:List Int} {k:Nat} (h:r.length=k) (y:Int) (v:Nat→Int):∀ j,j≤k→dotK j (r++[y]) v=dotK j r v
 | 0,_=>rfl
 | j+1,hj=>by
  rw [dotK,dotK,dot_aug h y v j (by omega),List.getD_eq_getElem?_getD,List.getElem?_append_left (by omega),← List.getD_eq_getElem?_getD]
theorem full_of {k:Nat} {M:List (List Int)} {r:List Int} (hN:NumM k M) (hl:M.length=k) (hr:r.length=k) (hn:∀ y∈r,0≤y∧y<1000000271)
  (hker:∀ v:Nat→Int,(∀ i,i<k→dotK k (M.getD i []) v % 1000000271=0)→∀ j,j<k→v j % 1000000271=0):FullF k M r:=by
 have hrow:∀ i,i<k→(augF M r).getD i []=M.getD i []++[r.getD i 0]:=fun i hi=>by
  unfold augF
  rw [List.getD_eq_getElem?_getD,List.getElem?_zipWith,List.getD_eq_getElem?_getD,List.getD_eq_getElem?_getD,List.getElem?_eq_getElem (show i<M.length by omega),List.getElem?_eq_getElem (show i<r.length by omega)]
  rfl
 have h0:RedI k 0 (augF M r) []:=by
  refine ⟨by simp [augF,hl,hr],fun i hi=>?_,fun i hi j=>?_,rfl,fun j hj=>by omega,fun v hv=>hker v fun i hi=>?_⟩
  ·rw [hrow i hi,List.length_append,(hN.row (by omega)).1];rfl
  ·unfold atM
   rw [hrow i hi,List.getD_eq_getElem?_getD]
   by_cases hj:j<k+1
   ·have hlt:j<(M.getD i []++[r.getD i 0]).length:=by rw [List.length_append,(hN.row (show i<M.length by omega)).1];exact hj
    rw [List.getElem?_eq_getElem hlt]
    show 0≤(M.getD i []++[r.getD i 0])[j]∧_
    rcases List.mem_append.1 (List.getElem_mem hlt) with h1 | h1
    ·exact (hN.row (by omega)).2 _ h1
    ·have e:(M.getD i []++[r.getD i 0])[j]=r.getD i 0:=by simpa using h1
     rw [e,List.getD_eq_getElem?_getD,List.getElem?_eq_getElem (show i<r.length by omega)]
     exact hn _ (List.getElem_mem _)
   ·rw [List.getElem?_eq_none (by rw [List.length_append,(hN.row (show i<M.length by omega)).1];simp;omega)]
    exact ⟨Int.le_refl 0,by decide⟩
  ·have:=hv i hi
   rw [hrow i hi,dot_aug (hN.row (by omega)).1 _ v k (Nat.le_refl _)] at this
   exact this
 exact (red_all k 0 _ _ h0 (by omega)).piv
theorem prime_mul {a b:Int} (h:a*b % 1000000271=0):a % 1000000271=0∨b % 1000000271=0:=by
 have hd:(1000000271:Int) ∣ a*b:=Int.dvd_of_emod_eq_zero h
 have hn:1000000271 ∣ a.natAbs*b.natAbs:=by
  rw [← Int.natAbs_mul]
  exact Int.natAbs_dvd_natAbs.2 hd
 by_cases ha:1000000271 ∣ a.natAbs
 ·exact .inl (Int.emod_eq_zero_of_dvd (Int.natAbs_dvd_natAbs.1 ha))
 ·refine .inr (Int.emod_eq_zero_of_dvd (Int.natAbs_dvd_natAbs.1 ?_))
  have hc:Nat.Coprime 1000000271 a.natAbs:=by
   rcases prime_dvd (Nat.gcd_dvd_left 1000000271 a.natAbs) with h1 | h1
   ·exact h1
   ·exact absurd (by rw [← h1];exact Nat.gcd_dvd_right _ _) ha
  exact hc.dvd_of_dvd_mul_left hn
end Go.Proofs.YtomgcbfcnjbofaaGreat
/- Nodes that differ make a system that is solved, and so does the one of a tableau of order four: in plain Lean. -/
namespace Go.Proofs.YtomgcbfcnjbofaaGreat
set_option linter.unusedSimpArgs false
set_option linter.unusedVariables false
def vsum (x v:Nat→Int) (q:Nat):Nat→Int
 | 0=>0
 | m+1=>vsum x v q m+x m ^ q*v m
theorem vsum_step (x v:Nat→Int) (a:Int) (q:Nat):∀ m,vsum x v (q+1) m - a*vsum x v q m=vsum x (fun j=>(x j - a)*v j) q m
 | 0=>by simp [vsum]
 | m+1=>by
  rw [vsum,vsum,vsum,← vsum_step x v a q m,Int.pow_succ]
  generalize x m ^ q=p
  have e1:p*((x m - a)*v m)=p*x m*v m - a*(p*v m):=by
   rw [Int.sub_mul,Int.mul_sub,Int.mul_assoc,Int.mul_left_comm p a]
  rw [e1,Int.mul_add]
  omega
theorem vsum_zero (x v:Nat→Int):∀ m,(∀ j,j<m→v j % 1000000271=0)→vsum x v 0 m % 1000000271=0
 | 0,_=>rfl
 | m+1,h=>by
  have h1:=vsum_zero x v m (fun j hj=>h j (by omega))
  have h2:=h m (by omega)
  rw [vsum,Int.pow_zero]
  omega
theorem van_reg (x:Nat→Int):∀ (m:Nat),(∀ i j,i<m→j<i→(x j - x i) % 1000000271≠0)→∀ v:Nat→Int,(∀ q,q<m→vsum x v q m % 1000000271=0)→∀ j,j<m→v j % 1000000271=0
 | 0,_,_,_,j,hj=>by omega
 | m+1,hx,v,h,j,hj=>by
  have hz:∀ j,j<m→v j % 1000000271=0:=fun j hj=>by
   have h1:((x j - x m)*v j) % 1000000271=0:=by
    refine van_reg x m (fun i j hi hj=>hx i j (by omega) hj) (fun j=>(x j - x m)*v j) (fun q hq=>?_) j hj
    have e:=vsum_step x v (x m) q (m+1)
    rw [vsum.eq_2 x (fun j=>(x j - x m)*v j),Int.sub_self,Int.zero_mul,Int.mul_zero,Int.add_zero] at e
    rw [← e]
    have a1:=h (q+1) (by omega)
    have a2:=h q (by omega)
    rw [Int.sub_emod,a1,Int.mul_emod,a2,Int.mul_zero]
    rfl
   rcases prime_mul h1 with h2 | h2
   ·exact absurd h2 (hx m j (by omega) hj)
   ·exact h2
  by_cases e:j=m
  ·subst e
   have h1:=h 0 (by omega)
   have h2:=vsum_zero x v j hz
   rw [vsum,Int.pow_zero] at h1
   omega
  ·exact hz j (by omega)
theorem dot_van (xs:List Int) (q:Nat) (v:Nat→Int):∀ k,k≤xs.length→dotK k (powRow xs (q:Int)) v % 1000000271=vsum (fun j=>xs.getD j 0) v q k % 1000000271
 | 0,_=>rfl
 | k+1,hk=>by
  have ih:=dot_van xs q v k (by omega)
  have e:(powRow xs (q:Int)).getD k 0=xs.getD k 0 ^ q % 1000000271:=by
   rw [List.getD_eq_getElem?_getD,powRow_at (List.getElem?_eq_getElem (show k<xs.length by omega)),List.getD_eq_getElem?_getD,List.getElem?_eq_getElem (show k<xs.length by omega)]
   show powF xs[k] (q:Int)=_
   unfold powF
   rw [if_neg (by omega)]
   rfl
  rw [dotK,vsum,e,Int.add_emod,ih,Int.mul_emod,Int.emod_emod_of_dvd _ (Int.dvd_refl _),← Int.mul_emod,← Int.add_emod]
theorem nd_diff {xs:List Int} (hd:xs.Nodup) (hx:∀ x∈xs,0≤x∧x<1000000271) {i j:Nat} (hi:i<xs.length) (hj:j<i):(xs.getD j 0 - xs.getD i 0) % 1000000271≠0:=by
 have e1:xs.getD j 0=xs[j]:=by rw [List.getD_eq_getElem?_getD,List.getElem?_eq_getElem (show j<xs.length by omega)];rfl
 have e2:xs.getD i 0=xs[i]:=by rw [List.getD_eq_getElem?_getD,List.getElem?_eq_getElem hi];rfl
 rw [e1,e2]
 have h1:=hx _ (List.getElem_mem (show j<xs.length by omega))
 have h2:=hx _ (List.getElem_mem hi)
 have h3:xs[j]≠xs[i]:=fun e=>by
  have:=(List.getElem_inj (h₀:=show j<xs.length by omega) (h₁:=hi) hd).1 e
  omega
 omega
theorem van_full {n:Nat} {xs r:List Int} (hl:xs.length=n) (hd:xs.Nodup) (hx:∀ x∈xs,0≤x∧x<1000000271) (hr:r.length=n) (hn:∀ y∈r,0≤y∧y<1000000271):FullF n (vanM xs n) r:=by
 subst hl
 refine full_of (van_num xs _) (van_len xs _) hr hn fun v hv j hj=>?_
 refine van_reg (fun j=>xs.getD j 0) xs.length (fun i j hi hj=>nd_diff hd hx hi hj) v (fun q hq=>?_) j hj
 have h1:=hv q hq
 rw [List.getD_eq_getElem?_getD,van_at hq] at h1
 rw [← dot_van xs q v _ (Nat.le_refl _)]
 exact h1
theorem goal_rng (a:Int) (n:Nat):∀ y∈goalL (powGoal a) n,0≤y∧y<1000000271:=fun y hy=>by
 simp only [goalL,List.mem_map] at hy
 obtain ⟨q,_,rfl⟩:=hy
 exact fracF_bd _ _
theorem van_goal {n:Nat} {xs:List Int} (hl:xs.length=n) (hd:xs.Nodup) (hx:∀ x∈xs,0≤x∧x<1000000271) (a:Int):FullF n (vanM xs n) (goalL (powGoal a) n) :=
 van_full hl hd hx (goal_len _ _) (goal_rng a n)
theorem four_full {b2 b3 c2 c3 y z:Int} (h2:0<b2∧b2<1000000271) (h3:0<b3∧b3<1000000271) (hc:0<c2∧c2<1000000271) (hc3:0≤c3∧c3<1000000271) (hc1:c3≠1) (hy:0≤y∧y<1000000271) (hz:0≤z∧z<1000000271) :
  FullF 2 [[b2,b3],[timesF b2 (timesF c3 c2),timesF b3 c2]] [y,z]:=by
 refine full_of ?_ rfl rfl ?_ fun v hv=>?_
 ·intro r hr
  simp only [List.mem_cons,List.not_mem_nil,or_false] at hr
  rcases hr with rfl | rfl
  ·refine ⟨rfl,fun x hx=>?_⟩
   simp only [List.mem_cons,List.not_mem_nil,or_false] at hx
   rcases hx with rfl | rfl <;> omega
  ·refine ⟨rfl,fun x hx=>?_⟩
   simp only [List.mem_cons,List.not_mem_nil,or_false] at hx
   rcases hx with rfl | rfl <;> exact timesF_bd _ _
 ·intro x hx
  simp only [List.mem_cons,List.not_mem_nil,or_false] at hx
  rcases hx with rfl | rfl <;> assumption
 ·have r0:=hv 0 (by omega)
  have r1:=hv 1 (by omega)
  have e0:(b2*v 0+b3*v 1) % 1000000271=0:=by
   simpa [dotK] using r0
  have e1:(b2*(c3*c2)*v 0+b3*c2*v 1) % 1000000271=0:=by
   have:(timesF b2 (timesF c3 c2)*v 0+timesF b3 c2*v 1) % 1000000271=0:=by simpa [dotK] using r1
   unfold timesF at this
   rw [← this,Int.add_emod,Int.mul_emod (b2*(c3*c2)),Int.mul_emod (b3*c2),Int.mul_emod b2 (c3*c2)]
   simp [Int.add_emod,Int.mul_emod]
  have e2:(b2*c2*(c3 - 1)*v 0) % 1000000271=0:=by
   have:b2*c2*(c3 - 1)*v 0=(b2*(c3*c2)*v 0+b3*c2*v 1) - c2*(b2*v 0+b3*v 1):=by
    rw [Int.mul_sub,Int.sub_mul,Int.mul_add,Int.mul_one,← Int.mul_assoc c2 b2,← Int.mul_assoc c2 b3,Int.mul_comm c2 b2,Int.mul_comm c2 b3,Int.mul_assoc b2 c2 c3,Int.mul_comm c2 c3]
    omega
   rw [this,Int.sub_emod,e1,Int.mul_emod,e0,Int.mul_zero]
   rfl
  have v0:v 0 % 1000000271=0:=by
   rcases prime_mul e2 with h | h
   ·rcases prime_mul h with h | h
    ·rcases prime_mul h with h | h <;> omega
    ·omega
   ·exact h
  have e3:(b3*v 1) % 1000000271=0:=by
   have:b2*v 0 % 1000000271=0:=by rw [Int.mul_emod,v0,Int.mul_zero];rfl
   omega
  have v1:v 1 % 1000000271=0:=by
   rcases prime_mul e3 with h | h
   ·omega
   ·exact h
  intro j hj
  match j,hj with
  | 0,_=>exact v0
  | 1,_=>exact v1
theorem elims_numV {k c top:Nat}:∀ (f i:Nat) (M:List (List Int)),NumM k M→top<M.length→NumM k (elimsF c top f i M)
 | 0,_,_,h,_=>h
 | f+1,i,M,h,ht=>by
  rw [elimsF]
  split
  ·exact elims_numV f (i+1) M h ht
  ·refine elims_numV f (i+1) _ ?_ (by simpa using ht)
   by_cases hi:i<M.length
   ·exact h.set (num_elim _ (h.row hi).1 (h.row ht).1) i
   ·rw [List.set_eq_of_length_le (by omega)]
    exact h
theorem red_numV {k:Nat}:∀ (f c:Nat) (M:List (List Int)) (p:List Int),NumM k M→p.length≤M.length→NumM k (redF f c M p).1
 | 0,_,_,_,h,_=>h
 | f+1,c,M,p,h,hp=>by
  rw [redF]
  unfold stepF
  simp only []
  split
  ·exact red_numV f (c+1) M p h hp
  ·rename_i hne
   have hpv:=piv_spec M c (M.length - p.length) p.length
   have ha:p.length≤pivF M c (M.length - p.length) p.length∧pivF M c (M.length - p.length) p.length<M.length:=by
    rcases hpv with h1 | h1
    ·exact absurd (by rw [h1.1];omega) hne
    ·exact ⟨h1.1,by have:=h1.2.1;omega⟩
   have hpl:p.length<M.length:=by omega
   have hs:=h.swap ha.2 hpl
   have hsl:(swapF M (pivF M c (M.length - p.length) p.length) p.length).length=M.length:=by simp [swapF]
   have h2:=hs.set (num_scale (invF (atM (swapF M (pivF M c (M.length - p.length) p.length) p.length) p.length c)) (hs.row (by omega:p.length<(swapF M (pivF M c (M.length - p.length) p.length) p.length).length)).1) p.length
   refine red_numV f (c+1) _ _ (elims_numV _ _ _ h2 (by simp [hsl];exact hpl)) ?_
   rw [elims_len]
   simp [hsl]
   omega
theorem sol_rngV {k:Nat} {M:List (List Int)} {r:List Int} (hN:NumM k M) (hl:M.length=k) (hr:r.length=k) (hn:∀ y∈r,0≤y∧y<1000000271):∀ y∈solF k M r,0≤y∧y<1000000271:=by
 intro y hy
 unfold solF at hy
 obtain ⟨row,hrow,rfl⟩:=List.mem_map.1 hy
 have h1:=red_numV (k:=k+1) k 0 (augF M r) [] (aug_num hN hl hr hn) (Nat.zero_le _) row hrow
 by_cases hk:k<row.length
 ·rw [List.getD_eq_getElem?_getD,List.getElem?_eq_getElem hk]
  exact h1.2 _ (List.getElem_mem hk)
 ·rw [List.getD_eq_getElem?_getD,List.getElem?_eq_none (by omega)]
  constructor <;> decide
end Go.Proofs.YtomgcbfcnjbofaaGreat
