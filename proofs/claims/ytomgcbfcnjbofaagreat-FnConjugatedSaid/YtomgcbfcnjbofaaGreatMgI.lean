/- Fields as the law needs them, and lists of polynomials in memory (texts of mine for another seat, without its words). -/
import Derived.Test.YtomgcbfcnjbofaaGreatMgG
import Derived.Test.YtomgcbfcnjbofaaGreatMgH
import Derived.Test.YtomgcbfcnjbofaaGreatMgA
import Derived.Lib.AppendZeros
import Derived.Test.YtomgcbfcnjbofaaGreatMgF
import Derived.Test.YtomgcbfcnjbofaaGreatMgB
import Derived.Test.YtomgcbfcnjbofaaGreatMgC
namespace Go.Proofs.YtomgcbfcnjbofaaGreat
open Go.RowKit
set_option linter.unusedSimpArgs false
set_option linter.unusedVariables false
set_option maxRecDepth 20000
structure FldP (dim:Nat) (ps:List (List Mono)):Prop where
 len:ps.length=dim
 part:∀ p∈ps,p.length≤12∧∀ m∈p,m.2.length=dim∧∀ x∈m.2,0≤x∧x≤5
theorem deg_entries:∀ (l:List Int) (s:Int),0≤s→0≤degGo s l→∀ x∈l,0≤x∧x≤5
 | [],_,_,_=>by simp
 | p :: r,s,hs,h=>by
  rw [degGo] at h
  split at h
  ·omega
  ·intro x hx
   rcases List.mem_cons.1 hx with h1 | h1
   ·rw [h1];omega
   ·exact deg_entries r (s+p) (by omega) h x h1
theorem poly_fld {dim:Nat}:∀ (ms:List Mono) (prev:Option (List Int)),polyGo (dim:Int) prev ms=true→∀ m∈ms,m.2.length=dim∧(∀ x∈m.2,0≤x∧x≤5)∧(0≤m.1∧m.1<1000000271)
 | [],_,_=>by simp
 | a :: r,prev,h=>by
  rw [polyGo] at h
  split at h
  ·rename_i hm
   intro m hm2
   rcases List.mem_cons.1 hm2 with h1 | h1
   ·rw [h1]
    simp only [monoOk,Bool.and_eq_true,decide_eq_true_eq] at hm
    obtain ⟨⟨⟨⟨⟨_,hnum⟩,hlen⟩,hd0⟩,_⟩,_⟩:=hm
    exact ⟨by omega,deg_entries a.2 0 (by omega) hd0,(isNumF_iff _).1 hnum⟩
   ·exact poly_fld r _ h m h1
  ·cases h
theorem fieldGo_mem {dim:Int}:∀ (ps:List (List Mono)),fieldGo dim ps=true→∀ p∈ps,polyF p dim=true
 | [],_=>by simp
 | a :: r,h=>by
  rw [fieldGo] at h
  split at h
  ·rename_i hp
   intro p hp2
   rcases List.mem_cons.1 hp2 with h1 | h1
   ·rw [h1];exact hp
   ·exact fieldGo_mem r h p h1
  ·cases h
theorem fld_of {dim:Int} {ps:List (List Mono)} (h:fieldF dim ps=true):∃ d:Nat,dim=d∧FldP d ps∧1≤d∧d≤6∧∀ p∈ps,∀ m∈p,0≤m.1∧m.1<1000000271:=by
 simp only [fieldF,Bool.and_eq_true,decide_eq_true_eq] at h
 obtain ⟨⟨⟨h1,h2⟩,h3⟩,h4⟩:=h
 obtain ⟨d,rfl⟩:∃ d:Nat,dim=d:=⟨dim.toNat,by omega⟩
 refine ⟨d,rfl,⟨by omega,fun p hp=>?_⟩,by omega,by omega,fun p hp=>?_⟩
 ·have hpf:=fieldGo_mem ps h4 p hp
  simp only [polyF,Bool.and_eq_true,decide_eq_true_eq] at hpf
  obtain ⟨⟨_,h6⟩,h7⟩:=hpf
  exact ⟨h6,fun m hm=>⟨(poly_fld p _ h7 m hm).1,(poly_fld p _ h7 m hm).2.1⟩⟩
 ·have hpf:=fieldGo_mem ps h4 p hp
  simp only [polyF,Bool.and_eq_true,decide_eq_true_eq] at hpf
  exact fun m hm=>(poly_fld p _ hpf.2 m hm).2.2
def kMo:Kd (List Mono):=⟨fun w l h v ms=>∃ B m d,v = .slice B m d∧Mons w l h B m d ms,fun ⟨B,m,d,e,hI⟩ hs=>⟨B,m,d,e,hI.same hs⟩,fun ⟨_,_,_,e,_⟩=>by rw [e];rfl⟩
theorem Lst.setLow {α:Type} {K:Kd α} {T:TypeId} {P:Nat→Prop} {w:World} {lo hi:Nat} {A:Option Addr} {n c:Nat} {vs:List Value} {xs:List α} (h:Lst K T P w lo hi A n c vs xs) {p:Addr} (hp:p.block<lo) (u:Value):Lst K T P (w.setCell p u) lo hi A n c vs xs :=
 ⟨owns_setCell h.own (p:=p) (fun ad e=>by have:=(owns_lt h.own ad e).1;omega) u,h.lt,h.len,fun j x hx hP=>by
  obtain ⟨v,l,h',e1,e2,e3,e4,e5⟩:=h.row j x hx hP
  exact ⟨v,l,h',e1,K.same e2 ((Same.refl _ _ _).setCell (.inl (by omega)) u),e3,e4,e5⟩⟩
end Go.Proofs.YtomgcbfcnjbofaaGreat
/- Zeros appended to an own slice of integers: 'append(s, make([]int, n)...)'. -/
namespace Go.Proofs.YtomgcbfcnjbofaaGreat
open Go.RowKit
set_option linter.unusedSimpArgs false
set_option linter.unusedVariables false
set_option maxRecDepth 20000
theorem zeroCells_len (m:Nat):(Builtin.zeroCells (Value.int .i64 0).cells m).toList=List.replicate m (Value.int .i64 0):=by
 apply List.ext_getElem?
 intro j
 simp [Builtin.zeroCells,Value.cells]
 by_cases h:j<m
 ·have e:j % 1=0:=Nat.mod_one j
  simp [h,e]
 ·simp [h]
theorem run_appZ (w:World) (base:Nat) (ty:TypeId) (A:Option Addr) (n c:Nat) (xs:List Value) (hown:w.ownsRow base 3 1 (.slice A n c) n xs) (m:Nat) (h63:n+m≤1099511627776) (hbase:base≤w.heap.size) :
  ∃ A' c' w',(Builtin.append_ #[24,3] ty #[.slice A n c,.int .i64 (m:Int)]).run Tryz.prog w = .ok (.slice A' (n+m) c') w'∧Appended w base 3 1 A n c A' (n+m) c' (xs++List.replicate m (.int .i64 0)) w':=by
 obtain ⟨i0,hi,hz,hsize,hby⟩:=info_parts info_int
 have ht:Tryz.prog.underlying 24=some (.slice 3):=Tryz.underlying24
 have htn:Tryz.prog.underlying 3=some (.int .i64):=Tryz.underlying3
 have hxl:xs.length=n:=by simpa using hown.1
 have hw:IntKind.i64.wrap (m:Int)=m:=IntWalk.i64_in _ (by omega)
 have hneg:¬ ((m:Int)<0):=by omega
 have h48i:¬ (281474976710656<(m:Int)*(i0.bytes:Int)):=by rw [hby];omega
 have grown:∀ old:Nat,old<n+m→∀ row:Option Nat,
   (w.drew.alloc (.cells (xs.toArray++(List.replicate m (Value.int .i64 0)).toArray++Builtin.zeroCells (Value.int .i64 0).cells (grownCap w (n+m) old 3 - (n+m))) 3)).ownsRow base 3 1 (.slice (some ⟨w.heap.size,0,none⟩) (n+m) (grownCap w (n+m) old 3)) (n+m) (xs++List.replicate m (.int .i64 0)) ∧
   w.grownBy (w.drew.alloc (.cells (xs.toArray++(List.replicate m (Value.int .i64 0)).toArray++Builtin.zeroCells (Value.int .i64 0).cells (grownCap w (n+m) old 3 - (n+m))) 3)) row:=by
  intro old ho row
  have hge:=grownCap_ge w (n+m) old 3
  have hcm:=grownCap_le_maxLen w (n+m) old 3 (by unfold maxLen;omega)
  refine ⟨⟨by simp [hxl],.inr ⟨w.heap.size,_,_,rfl,hbase,heap_alloc_new w.drew _,hge,hcm,?_,?_⟩⟩,⟨rfl,rfl,rfl,by simp,fun k hk _=>heap_alloc_old w.drew _ hk⟩⟩
  ·simp only [Array.size_append,List.size_toArray,size_zeroCells,List.length_replicate,hxl]
   show n+m+(grownCap w (n+m) old 3 - (n+m))*1=_
   omega
  ·simp only [Array.toList_append,List.append_assoc]
   rw [← List.append_assoc,show (n+m)*1=(xs++List.replicate m (Value.int .i64 0)).length by simp [hxl]]
   exact List.take_left
 rcases hown.2 with ⟨e,rfl⟩ | ⟨g,cap,cur,e,hbg,hg,hnc,hcm,hcs,htake⟩
 ·injection e with e1 e2 e3
  subst e1 e3
  have hx:xs=[]:=List.eq_nil_of_length_eq_zero hxl
  subst hx
  by_cases hm:m=0
  ·subst hm
   refine ⟨none,0,w,?_,⟨World.ownsRow_nil w base _ 1,⟨rfl,rfl,rfl,Nat.le_refl _,fun _ _ _=>rfl⟩,.inl fun ad h=>h⟩⟩
   have hw0:IntKind.i64.wrap 0=0:=by decide
   simp [Builtin.append_,run_underlying ht,run_underlying htn,sizeOf,typeInfo,hi,asInt,asIntOf,hsize,hby,hw0]
  ·have hr:=Lib.run_append_nil_zeros (P:=Tryz.prog) w 24 3 ty 3 i0 (.int .i64 0) .i64 .i64 ht htn hi hz m (by omega) (by omega) (by omega) (by rw [hby];omega)
   have hgr:=grown 0 (by omega) (Value.ownBlock (.slice none 0 0))
   simp only [Nat.zero_add,List.nil_append,Array.empty_append] at hgr ⊢
   have hzc:Builtin.zeroCells (Value.int .i64 0).cells m=(List.replicate m (Value.int .i64 0)).toArray:=by
    apply Array.ext'
    simpa using zeroCells_len m
   rw [hzc] at hr
   exact ⟨_,_,_,hr,hgr.1,hgr.2,.inr fun ad h=>by injection h with h;subst h;exact Nat.le_refl _⟩
 ·injection e with e1 e2 e3
  subst e1 e3
  have h48j:¬ (281474976710656<(m:Int)*8):=by omega
  have hle:n≤cur.size:=by omega
  by_cases hroom:n+m≤c
  ·have hst:=run_storeCells_at Tryz.prog g n 3 (List.replicate m (Value.int .i64 0)) 0 cur w hg (by simp;omega) (by intro v hv;obtain rfl:=(List.mem_replicate.1 hv).2;rfl)
   simp only [Nat.add_zero] at hst
   have hr:(Builtin.append_ #[24,3] ty #[.slice (some ⟨g,0,none⟩) n c,.int .i64 (m:Int)]).run Tryz.prog w = .ok (.slice (some ⟨g,0,none⟩) (n+m) c) (w.setRow g (cur.toList.take n++List.replicate m (Value.int .i64 0)++cur.toList.drop (n+(List.replicate m (Value.int .i64 0)).length)).toArray):=by
    by_cases hm:m=0
    ·subst hm
     have hw0:IntKind.i64.wrap 0=0:=by decide
     simp [storeCells] at hst
     simp [Builtin.append_,run_underlying ht,run_underlying htn,sizeOf,typeInfo,hi,asInt,asIntOf,hsize,hby,hw0,hnc,storeCells]
     rw [← hst]
    ·simp [Builtin.append_,run_underlying ht,run_underlying htn,sizeOf,typeInfo,zeroValue,hi,hz,asInt,asIntOf,hsize,hby,hw,hneg,h48j,hm,hroom,Addr.add_lit,zeroCells_len,hst]
   refine ⟨_,_,_,hr,⟨⟨by simp [hxl],.inr ⟨g,c,_,rfl,hbg,setRow_heap w g cur _ _ _ hg,hroom,hcm,?_,?_⟩⟩,⟨rfl,rfl,rfl,by simp,fun k hk hk2=>setRow_other w g k _ (fun e=>hk2 (by simp [Value.ownBlock,e]))⟩,.inl fun ad h=>h⟩⟩
   ·simp
    omega
   ·simp only [Nat.mul_one] at htake ⊢
    rw [htake,show n+m=(xs++List.replicate m (Value.int .i64 0)).length by simp [hxl]]
    exact List.take_left
  ·have hm:m≠0:=by omega
   have holds:∀ j u,xs[j]? = some u→w.cell? ((⟨g,0,none⟩:Addr).add j)=some u:=hown.cells (g:=g) rfl
   have hfo:=run_firstCells_some (P:=Tryz.prog) w.drew 1 n ⟨g,0,none⟩ n c xs (by simpa using hxl) (by simpa using holds)
   have h63':¬ (9223372036854775807<((n:Int)+(m:Int))):=by omega
   have hns:¬ (281474976710656<Builtin.nextslicecap (n+m) c*8):=by
    have:=growslice_fits (need:=n+m) (old:=c) (bytes:=8) (by omega) (by omega)
    omega
   have hr:(Builtin.append_ #[24,3] ty #[.slice (some ⟨g,0,none⟩) n c,.int .i64 (m:Int)]).run Tryz.prog w = .ok (.slice (some ⟨w.heap.size,0,none⟩) (n+m) (grownCap w (n+m) c 3)) (w.drew.alloc (.cells (xs.toArray++(List.replicate m (Value.int .i64 0)).toArray++Builtin.zeroCells (Value.int .i64 0).cells (grownCap w (n+m) c 3 - (n+m))) 3)):=by
    have hzc:Builtin.zeroCells (Value.int .i64 0).cells m=(List.replicate m (Value.int .i64 0)).toArray:=by
     apply Array.ext'
     simpa using zeroCells_len m
    simp [Builtin.append_,run_underlying ht,run_underlying htn,sizeOf,typeInfo,zeroValue,hi,hz,asInt,asIntOf,hsize,hby,hw,hneg,h48j,hm,hroom,h63',hns,Question.forced,hfo,newRow,grownCap,hzc]
   have hgr:=grown c (by omega) (Value.ownBlock (.slice (some ⟨g,0,none⟩) n c))
   exact ⟨_,_,_,hr,hgr.1,hgr.2,.inr fun ad h=>by injection h with h;subst h;exact Nat.le_refl _⟩
theorem owp_appZ {o:Oper} {a:Act} {K:Act→World→Prop} {Q:Exit→Act→World→Prop} (s x:Operand) (ho:o.op = .call { callee := .builtin .append,args := #[s,x],argTypes := #[24,3] }) (w:World) (base:Nat)
  (A:Option Addr) (n c:Nat) (xs:List Value) (hs:a.eval s = .slice A n c) (hown:w.ownsRow base 3 1 (.slice A n c) n xs) (m:Nat) (hx:a.eval x = .int .i64 (m:Int)) (h63:n+m≤1099511627776) (hbase:base≤w.heap.size)
  (h:∀ A' c' w',Appended w base 3 1 A n c A' (n+m) c' (xs++List.replicate m (.int .i64 0)) w'→K (a.put o.dst (.slice A' (n+m) c')) w'):Oper.wp Tryz.prog o a w K Q:=by
 obtain ⟨A',c',w',hr,hap⟩:=run_appZ w base o.type A n c xs hown m h63 hbase
 exact Lib.wp_append_run w s x _ _ ho _ _ hs hx _ _ hr (h A' c' w' hap)
end Go.Proofs.YtomgcbfcnjbofaaGreat
/- Polynomials in h of a fixed length in plain Lean: products, sums, the rounds of a step, and that the rounds come to rest. -/
namespace Go.Proofs.YtomgcbfcnjbofaaGreat
def tabJ (n:Nat) (f:Nat→Int):List Int:=(List.range n).map f
theorem tabJ_len (n:Nat) (f:Nat→Int):(tabJ n f).length=n:=by simp [tabJ]
theorem tabJ_get {n j:Nat} (f:Nat→Int) (h:j<n):(tabJ n f).getD j 0=f j:=by simp [tabJ,h]
theorem tabJ_at {n j:Nat} (f:Nat→Int) (h:j<n):(tabJ n f)[j]? = some (f j):=by simp [tabJ,h]
theorem tabJ_out {n j:Nat} (f:Nat→Int) (h:n≤j):(tabJ n f).getD j 0=0:=by simp [tabJ,h]
theorem tabJ_num {n:Nat} {f:Nat→Int} (h:∀ j,0≤f j∧f j<1000000271):∀ x∈tabJ n f,0≤x∧x<1000000271:=by
 intro x hx
 simp only [tabJ,List.mem_map] at hx
 obtain ⟨j,_,rfl⟩:=hx
 exact h j
theorem tabJ_self {n:Nat} {a:List Int} (h:a.length=n):tabJ n (fun j=>a.getD j 0)=a:=by
 apply List.ext_getElem?
 intro j
 by_cases hj:j<n
 ·rw [tabJ_at _ hj,List.getElem?_eq_getElem (by omega)]
  simp [show j<a.length by omega]
 ·rw [List.getElem?_eq_none (by rw [tabJ_len];omega),List.getElem?_eq_none (by omega)]
theorem tabJ_eq {n:Nat} {a b:List Int} (ha:a.length=n) (hb:b.length=n) (h:∀ j,j<n→a.getD j 0=b.getD j 0):a=b:=by
 rw [← tabJ_self ha,← tabJ_self hb]
 unfold tabJ
 exact List.map_congr_left fun j hj=>h j (List.mem_range.1 hj)
def jplus (a b:List Int) (k:Int):List Int:=tabJ a.length fun j=>plusF (a.getD j 0) (timesF (b.getD j 0) k)
def psum (a b:List Int):Nat→Nat→Int
 | 0,_=>0
 | i+1,k=>psum a b i k+(if i≤k then a.getD i 0*b.getD (k - i) 0 else 0)
def jmulP (a b:List Int) (i:Nat):List Int:=tabJ a.length fun k=>psum a b i k % 1000000271
def jmul (a b:List Int):List Int:=jmulP a b a.length
def later1 (v:List Int):List Int:=tabJ v.length fun j=>if j=0 then 0 else v.getD (j - 1) 0
def unitJ (n:Nat) (c:Int):List Int:=tabJ n fun j=>if j=0 then c else 0
def zeroJ (n:Nat):List Int:=List.replicate n 0
def powJ:Nat→List Int→List Int→List Int
 | 0,o,_=>o
 | n+1,o,y=>powJ n (jmul o y) y
def prodJ (ys:Nat→List Int):List Int→Nat→List Int→List Int
 | [],_,o=>o
 | p :: r,v,o=>prodJ ys r (v+1) (powJ p.toNat o (ys v))
def derJ (n:Nat) (ys:Nat→List Int):List Mono→List Int→List Int
 | [],o=>o
 | m :: r,o=>derJ n ys r (jplus o (prodJ ys m.2 0 (unitJ n 1)) m.1)
def polyJ (n:Nat) (ms:List Mono) (ys:Nat→List Int):List Int:=derJ n ys ms (zeroJ n)
def accJ (y:List Int) (v:Nat→List Int) (row:List Int):Nat→List Int
 | 0=>y
 | s+1=>jplus (accJ y v row s) (later1 (v s)) (row.getD s 0)
def nextJ (n S:Nat) (ps:Nat→List Mono) (y:Nat→List Int) (row:Nat→Nat→List Int) (V:Nat→Nat→List Int) (s i:Nat):List Int :=
 polyJ n (ps i) fun i'=>accJ (y i') (fun s'=>V s' i') (row i' s) S
def iterJ (n S:Nat) (ps:Nat→List Mono) (y:Nat→List Int) (row:Nat→Nat→List Int):Nat→Nat→Nat→List Int
 | 0=>fun _ _=>zeroJ n
 | t+1=>nextJ n S ps y row (iterJ n S ps y row t)
def Agr (t:Nat) (a b:List Int):Prop:=∀ j,j<t→a.getD j 0=b.getD j 0
theorem Agr.refl (t:Nat) (a:List Int):Agr t a a:=fun _ _=>rfl
theorem jplus_len (a b:List Int) (k:Int):(jplus a b k).length=a.length:=tabJ_len _ _
theorem jmul_len (a b:List Int):(jmul a b).length=a.length:=tabJ_len _ _
theorem later_len (v:List Int):(later1 v).length=v.length:=tabJ_len _ _
theorem unit_len (n:Nat) (c:Int):(unitJ n c).length=n:=tabJ_len _ _
theorem zero_len (n:Nat):(zeroJ n).length=n:=by simp [zeroJ]
theorem pow_len:∀ (k:Nat) (o y:List Int),(powJ k o y).length=o.length
 | 0,_,_=>rfl
 | k+1,o,y=>by rw [powJ,pow_len k,jmul_len]
theorem prod_len (ys:Nat→List Int):∀ (p:List Int) (v:Nat) (o:List Int),(prodJ ys p v o).length=o.length
 | [],_,_=>rfl
 | p :: r,v,o=>by rw [prodJ,prod_len ys r,pow_len]
theorem der_len (n:Nat) (ys:Nat→List Int):∀ (ms:List Mono) (o:List Int),(derJ n ys ms o).length=o.length
 | [],_=>rfl
 | m :: r,o=>by rw [derJ,der_len n ys r,jplus_len]
theorem poly_len (n:Nat) (ms:List Mono) (ys:Nat→List Int):(polyJ n ms ys).length=n:=by rw [polyJ,der_len,zero_len]
theorem acc_len (y:List Int) (v:Nat→List Int) (row:List Int):∀ s,(accJ y v row s).length=y.length
 | 0=>rfl
 | s+1=>by rw [accJ,jplus_len,acc_len y v row s]
theorem iter_len (n S:Nat) (ps:Nat→List Mono) (y:Nat→List Int) (row:Nat→Nat→List Int) (t s i:Nat):(iterJ n S ps y row t s i).length=n:=by
 cases t with
 | zero=>exact zero_len n
 | succ t=>exact poly_len _ _ _
theorem Agr.plus {t:Nat} {a a' b b':List Int} (h:Agr t a a') (hl:a.length=a'.length) (g:Agr t b b') (k:Int):Agr t (jplus a b k) (jplus a' b' k):=by
 intro j hj
 by_cases hn:j<a.length
 ·rw [jplus,jplus,tabJ_get _ hn,tabJ_get _ (by omega),h j hj,g j hj]
 ·rw [jplus,jplus,tabJ_out _ (by omega),tabJ_out _ (by omega)]
theorem psum_agr {t:Nat} {a a' b b':List Int} (h:Agr t a a') (g:Agr t b b') {k:Nat} (hk:k<t):∀ i,psum a b i k=psum a' b' i k
 | 0=>rfl
 | i+1=>by
  rw [psum,psum,psum_agr h g hk i]
  by_cases hi:i≤k
  ·rw [if_pos hi,if_pos hi,h i (by omega),g (k - i) (by omega)]
  ·rw [if_neg hi,if_neg hi]
theorem Agr.mul {t:Nat} {a a' b b':List Int} (h:Agr t a a') (hl:a.length=a'.length) (g:Agr t b b'):Agr t (jmul a b) (jmul a' b'):=by
 intro j hj
 by_cases hn:j<a.length
 ·rw [jmul,jmul,jmulP,jmulP,tabJ_get _ hn,tabJ_get _ (by omega),psum_agr h g hj,hl]
 ·rw [jmul,jmul,jmulP,jmulP,tabJ_out _ (by omega),tabJ_out _ (by omega)]
theorem Agr.later {t:Nat} {a a':List Int} (h:Agr t a a') (hl:a.length=a'.length):Agr (t+1) (later1 a) (later1 a'):=by
 intro j hj
 by_cases hn:j<a.length
 ·rw [later1,later1,tabJ_get _ hn,tabJ_get _ (by omega)]
  by_cases h0:j=0
  ·rw [if_pos h0,if_pos h0]
  ·rw [if_neg h0,if_neg h0,h (j - 1) (by omega)]
 ·rw [later1,later1,tabJ_out _ (by omega),tabJ_out _ (by omega)]
theorem Agr.pow {t:Nat} {y y':List Int} (hy:Agr t y y'):∀ (k:Nat) {o o':List Int},Agr t o o'→o.length=o'.length→Agr t (powJ k o y) (powJ k o' y')
 | 0,_,_,h,_=>h
 | k+1,o,o',h,hl=>Agr.pow hy k (h.mul hl hy) (by rw [jmul_len,jmul_len,hl])
theorem Agr.prod {t:Nat} {ys ys':Nat→List Int} (hy:∀ v,Agr t (ys v) (ys' v)):∀ (p:List Int) (v:Nat) {o o':List Int},Agr t o o'→o.length=o'.length→Agr t (prodJ ys p v o) (prodJ ys' p v o')
 | [],_,_,_,h,_=>h
 | p :: r,v,_,_,h,hl=>Agr.prod hy r (v+1) (Agr.pow (hy v) p.toNat h hl) (by rw [pow_len,pow_len,hl])
theorem Agr.der {t n:Nat} {ys ys':Nat→List Int} (hy:∀ v,Agr t (ys v) (ys' v)):∀ (ms:List Mono) {o o':List Int},Agr t o o'→o.length=o'.length→Agr t (derJ n ys ms o) (derJ n ys' ms o')
 | [],_,_,h,_=>h
 | m :: r,o,o',h,hl=>Agr.der hy r (h.plus hl (Agr.prod hy m.2 0 (Agr.refl t _) rfl) m.1) (by rw [jplus_len,jplus_len,hl])
theorem Agr.acc {t:Nat} (y:List Int) {v v':Nat→List Int} (h:∀ s,Agr t (v s) (v' s)) (hl:∀ s,(v s).length=(v' s).length) (row:List Int):∀ s,Agr (t+1) (accJ y v row s) (accJ y v' row s)
 | 0=>Agr.refl _ _
 | s+1=>(Agr.acc y h hl row s).plus (by rw [acc_len,acc_len]) ((h s).later (hl s)) _
theorem iter_agr (n S:Nat) (ps:Nat→List Mono) (y:Nat→List Int) (row:Nat→Nat→List Int):∀ (t s i:Nat),Agr t (iterJ n S ps y row (t+1) s i) (iterJ n S ps y row t s i)
 | 0,_,_=>fun j hj=>by omega
 | t+1,s,i=>by
  have ih:=iter_agr n S ps y row t
  show Agr (t+1) (nextJ n S ps y row (iterJ n S ps y row (t+1)) s i) (nextJ n S ps y row (iterJ n S ps y row t) s i)
  unfold nextJ polyJ
  exact Agr.der (fun i'=>Agr.acc (y i') (fun s'=>ih s' i') (fun s'=>by rw [iter_len,iter_len]) (row i' s) S) _ (Agr.refl _ _) rfl
theorem iter_rest (n S:Nat) (ps:Nat→List Mono) (y:Nat→List Int) (row:Nat→Nat→List Int):iterJ n S ps y row (n+1)=iterJ n S ps y row n:=by
 funext s i
 exact tabJ_eq (iter_len ..) (iter_len ..) (iter_agr n S ps y row n s i)
def jscale (c:Int) (a:List Int):List Int:=tabJ a.length fun j=>timesF (a.getD j 0) c
theorem psum_scale (c:Int) (a b:List Int) (k:Nat):∀ i,i≤a.length→psum (jscale c a) b i k % 1000000271=(c*psum a b i k) % 1000000271
 | 0,_=>by simp [psum]
 | i+1,hi=>by
  have ih:=psum_scale c a b k i (by omega)
  rw [psum,psum,Int.mul_add,Int.add_emod,ih,Int.add_emod (c*psum a b i k)]
  congr 2
  by_cases h:i≤k
  ·rw [if_pos h,if_pos h,jscale,tabJ_get _ (by omega)]
   unfold timesF
   rw [Int.mul_emod,Int.emod_emod_of_dvd _ (Int.dvd_refl _),← Int.mul_emod,Int.mul_comm (a.getD i 0) c,Int.mul_assoc]
  ·rw [if_neg h,if_neg h,Int.mul_zero]
theorem mul_scale (c:Int) (a b:List Int):jmul (jscale c a) b=jscale c (jmul a b):=by
 have hl:(jscale c a).length=a.length:=tabJ_len _ _
 refine tabJ_eq (n:=a.length) (by rw [jmul_len,hl]) (by rw [jscale,tabJ_len,jmul_len]) fun j hj=>?_
 rw [jmul,jmulP,tabJ_get _ (by omega),hl,psum_scale c a b j a.length (Nat.le_refl _),jscale,tabJ_get _ (by rw [jmul_len];exact hj),jmul,jmulP,tabJ_get _ hj]
 unfold timesF
 rw [Int.mul_comm (_ % _) c,Int.mul_emod c (_ % _),Int.emod_emod_of_dvd _ (Int.dvd_refl _),← Int.mul_emod]
theorem pow_scale (c:Int) (y:List Int):∀ (k:Nat) (o:List Int),powJ k (jscale c o) y=jscale c (powJ k o y)
 | 0,_=>rfl
 | k+1,o=>by rw [powJ,mul_scale,pow_scale c y k,powJ]
theorem prod_scale (c:Int) (ys:Nat→List Int):∀ (p:List Int) (v:Nat) (o:List Int),prodJ ys p v (jscale c o)=jscale c (prodJ ys p v o)
 | [],_,_=>rfl
 | p :: r,v,o=>by rw [prodJ,pow_scale,prod_scale c ys r,prodJ]
theorem unit_scale {c:Int} (h0:0≤c) (h1:c<1000000271) (n:Nat):unitJ n c=jscale c (unitJ n 1):=by
 refine tabJ_eq (n:=n) (unit_len _ _) (by rw [jscale,tabJ_len,unit_len]) fun j hj=>?_
 rw [jscale,tabJ_get _ (by rw [unit_len];exact hj),unitJ,unitJ,tabJ_get _ hj,tabJ_get _ hj]
 unfold timesF
 by_cases h:j=0
 ·rw [if_pos h,if_pos h,Int.one_mul];omega
 ·rw [if_neg h,if_neg h,Int.zero_mul];rfl
theorem plus_scale (o p:List Int) (c:Int) (h:p.length=o.length):jplus o (jscale c p) 1=jplus o p c:=by
 refine tabJ_eq (n:=o.length) (jplus_len ..) (jplus_len ..) fun j hj=>?_
 rw [jplus,jplus,tabJ_get _ hj,tabJ_get _ hj,jscale,tabJ_get _ (by omega)]
 congr 1
 unfold timesF
 rw [Int.mul_one,Int.emod_emod_of_dvd _ (Int.dvd_refl _)]
theorem mono_coef {c:Int} (h0:0≤c) (h1:c<1000000271) {n:Nat} (ys:Nat→List Int) (p o:List Int) (h:o.length=n):jplus o (prodJ ys p 0 (unitJ n c)) 1=jplus o (prodJ ys p 0 (unitJ n 1)) c:=by
 rw [unit_scale h0 h1,prod_scale]
 exact plus_scale _ _ _ (by rw [prod_len,unit_len,h])
end Go.Proofs.YtomgcbfcnjbofaaGreat
/- Polynomials in h: the program's plus, times, later. -/
namespace Go.Proofs.YtomgcbfcnjbofaaGreat
open Go.RowKit
set_option linter.unusedSimpArgs false
set_option linter.unusedVariables false
set_option maxRecDepth 20000
structure FillS (w wr:World) (g n:Nat) (zs:List Int):Prop where
 own:OwnI wr g (g+1) (some ⟨g,0,none⟩) n n zs
 low:Below w.heap.size w wr
 glo:w.heap.size≤g
section
variable {w wr:World} {g n:Nat} {zs:List Int}
theorem FillS.drew (h:FillS w wr g n zs):FillS w wr.drew g n zs:=⟨h.own.same (fun _ _ _=>rfl),h.low.drew,h.glo⟩
theorem FillS.set (h:FillS w wr g n zs) (i:Nat) {x:Int} (hx:R64 x):FillS w (wr.setCell ⟨g,i,none⟩ (.int .i64 x)) g n (zs.set i x) :=
 ⟨⟨by rw [List.map_set];exact (h.own.own.stored i (.int .i64 x)).1,h.own.lt,fun y hy=>by
  rcases List.mem_or_eq_of_mem_set hy with hy | rfl
  ·exact h.own.rng y hy
  ·exact hx⟩,h.low.setCell (p:=⟨g,i,none⟩) h.glo _,h.glo⟩
theorem FillS.cell (h:FillS w wr g n zs) {i:Nat} (hi:i<n):∃ v,wr.cell? ⟨g,i,none⟩=some (.int .i64 v)∧zs[i]? = some v∧R64 v∧wr.frozen? ⟨g,i,none⟩=false:=by
 have hl:=h.own.len
 refine ⟨zs[i],?_,List.getElem?_eq_getElem (by omega),h.own.rng _ (List.getElem_mem _),h.own.own.frozenAt i⟩
 rw [h.own.own.cellAt i (by omega),List.getElem?_map,List.getElem?_eq_getElem (by omega)]
 rfl
theorem FillS.done (h:FillS w wr g n zs):OwnI wr w.heap.size wr.heap.size (some ⟨g,0,none⟩) n n zs∧Below w.heap.size w wr :=
 ⟨h.own.wide h.glo (by have:=(h.own.lt_size _ rfl).2;exact this),h.low⟩
end
theorem FillS.start (w:World) (n:Nat) (hn:n≤1000):FillS w (w.alloc (.cells (zeros n) 3)) w.heap.size n (zeroJ n) :=
 ⟨⟨owns_zeros w n (by omega) (Nat.le_refl _),fun ad e=>by injection e with e;subst e;exact Nat.lt_succ_self _,fun x hx=>by have:=(List.mem_replicate.1 hx).2;subst this;constructor <;> omega⟩,below_alloc _ _,Nat.le_refl _⟩
theorem make_jet (n:Nat) (hn:n≤1000) (W:World) :
  (Instr.makeSlice 77 (.int .i64 (n:Int)) (.int .i64 (n:Int))).run Tryz.prog W = .ok (.slice (some ⟨W.heap.size,0,none⟩) n n) (W.alloc (.cells (zeros n) 3)):=by
 obtain ⟨i0,hi0,hz0,hz1,hz2⟩:=info_parts info_int
 have h:=run_make (P:=Tryz.prog) W 77 3 i0 (.int .i64 0) Tryz.underlying77 hi0 hz0 .i64 .i64 n n (by omega) (by omega) (by rw [hz2];omega) (by omega)
 simp only [Int.toNat_natCast,hz1,Nat.mul_one] at h
 exact h
def mixJ (new old:List Int) (j:Nat):List Int:=new.take j++old.drop j
theorem mixJ_zero (new old:List Int):mixJ new old 0=old:=by simp [mixJ]
theorem mixJ_all {new old:List Int} {k:Nat} (h1:new.length=k) (h2:old.length=k):mixJ new old k=new:=by simp [mixJ,List.take_of_length_le (Nat.le_of_eq h1),List.drop_eq_nil_of_le (Nat.le_of_eq h2)]
theorem mixJ_at {new old:List Int} {k j:Nat} (h1:new.length=k) (hj:j<k):(mixJ new old j)[j]? = old[j]? := by
 unfold mixJ
 rw [List.getElem?_append_right (by simp;omega)]
 simp [h1,Nat.min_eq_left (Nat.le_of_lt hj)]
theorem mixJ_set {new old:List Int} {k j:Nat} {x:Int} (h1:new.length=k) (h2:old.length=k) (hj:j<k) (hx:new[j]? = some x):(mixJ new old j).set j x=mixJ new old (j+1):=by
 unfold mixJ
 apply List.ext_getElem?
 intro i
 by_cases e:i=j
 ·subst e
  rw [List.getElem?_set_self (by simp [h1,h2];omega),List.getElem?_append_left (by simp;omega),List.getElem?_take_of_lt (by omega),hx]
 ·rw [List.getElem?_set_ne (by omega)]
  by_cases e2:i<j
  ·rw [List.getElem?_append_left (by simp;omega),List.getElem?_append_left (by simp;omega),List.getElem?_take_of_lt e2,List.getElem?_take_of_lt (by omega)]
  ·rw [List.getElem?_append_right (by simp;omega),List.getElem?_append_right (by simp;omega)]
   simp [h1]
   congr 1
   omega
theorem jplus_at {xs ys:List Int} {k:Int} {j:Nat} {x y:Int} (hx:xs[j]? = some x) (hy:ys[j]? = some y):(jplus xs ys k)[j]? = some (plusF x (timesF y k)):=by
 have h1:=(List.getElem?_eq_some_iff.1 hx).1
 rw [jplus,tabJ_at _ h1]
 simp [List.getD,hx,hy]
set_option maxRecDepth 100000 in
set_option maxHeartbeats 4000000 in
theorem impl_plus (A:Option Addr) (n c:Nat) (xs:List Int) (lo hi:Nat) (B:Option Addr) (d:Nat) (ys:List Int) (lo' hi':Nat) (k:Int) (w:World) (h:Ints w lo hi A n c xs) (g:Ints w lo' hi' B n d ys) (hh:hi≤w.heap.size) (hh':hi'≤w.heap.size) (hn:n≤1000) (hk:R64 k) :
  Calls Tryz.prog 51 #[.slice A n c,.slice B n d,.int .i64 k] w fun e w'=>∃ gR,e = .returned (.slice (some ⟨gR,0,none⟩) n n)∧OwnI w' w.heap.size w'.heap.size (some ⟨gR,0,none⟩) n n (jplus xs ys k)∧Below w.heap.size w w':=by
 have hcA:=h.cap
 have hmA:=h.max
 have hcB:=g.cap
 have hmB:=g.max
 have hmk:=make_jet n hn w
 have HX:=hide h
 have HY:=hide g
 have HK:=hide hk
 have hlx:Hid ((jplus xs ys k).length=n):=by show _=_;rw [jplus_len,h.len]
 have s0:=hide (FillS.start w n hn)
 clear h g hk
 go_enter Tryz.func51,Tryz.ntmps51
 go_wp2_with fail
 clear hmk
 go_loopw [14] (fun i wr=>∃ (j:Nat),j≤n∧i = .int .i64 j∧Hid (FillS w wr w.heap.size n (mixJ (jplus xs ys k) (zeroJ n) j))) (fun i _=>n - (intOf i).toNat)
 case atStart=>exact ⟨0,by omega,rfl,by rw [mixJ_zero];exact s0⟩
 case round =>
  clear s0
  obtain ⟨j,hj,rfl,hS⟩:=hrel
  by_cases hlt:j<n
  ·obtain ⟨ad,x,rfl,hcx,hxr,_,hxx⟩:=(HX.out.below hS.out.low hh).at_ hlt
   obtain ⟨ae,y,rfl,hcy,hyr,_,hyy⟩:=(HY.out.below hS.out.low hh').at_ hlt
   obtain ⟨v,hcv,_,_,hfv⟩:=hS.out.cell hlt
   have hat:=jplus_at (k:=k) hxx.out hyy.out
   have HT:=hide fun W=>impl_Times y k W hyr HK.out
   have htb:=timesF_bd y k
   have HP:=hide fun W=>impl_Plus x (timesF y k) W hxr (by constructor <;> omega)
   have hpb:=plusF_bd x (timesF y k)
   have hN:=hS.out.set j (x:=plusF x (timesF y k)) (by constructor <;> omega)
   rw [mixJ_set hlx.out (zero_len n) hlt hat] at hN
   have HN:=hide hN.drew
   clear hxx hyy hat hN hS
   go_wp2_with fail
   refine still_tail 14 (by kernel_rfl) (by kernel_rfl) ?_
   simp only [List.take_succ_cons,List.take_zero,List.drop_succ_cons,List.drop_zero]
   iterate 11 still_step
   still_call (still_same (HT.out _))
   still_call (still_same (HP.out _))
   still_step
   refine wpStill_nil ?_
   go_wp2_with fail
   go_roundw
   case rel=>exact ⟨j+1,by omega,by go_num,HN.out⟩
   case measure=>simp [intOf];omega
  ·obtain rfl:n=j:=by omega
   rw [mixJ_all hlx.out (zero_len n)] at hS
   go_wp2_with fail
   go_ret
   exact ⟨_,rfl,hS.out.done⟩
end Go.Proofs.YtomgcbfcnjbofaaGreat
