/- append in an operation that is guarded and wanted. -/
import Derived.Test.YtomgcbfcnjbofaaGreatMgA
import Derived.Test.YtomgcbfcnjbofaaGreatMgH
import Derived.Test.YtomgcbfcnjbofaaGreatMgB
import Derived.Test.YtomgcbfcnjbofaaGreatMgC
namespace Go.Proofs.YtomgcbfcnjbofaaGreat
open Go.RowKit
set_option linter.unusedSimpArgs false
set_option linter.unusedVariables false
set_option maxRecDepth 20000
section
variable {P:Program}
end
end Go.Proofs.YtomgcbfcnjbofaaGreat
/- Systems of equations in plain Lean; rows that lie in memory and are changed in place. -/
namespace Go.Proofs.YtomgcbfcnjbofaaGreat
open Go.RowKit
set_option linter.unusedSimpArgs false
set_option linter.unusedVariables false
set_option maxRecDepth 20000
def atM (M:List (List Int)) (i j:Nat):Int:=(M.getD i []).getD j 0
def pivF (M:List (List Int)) (c:Nat):Nat→Nat→Nat
 | 0,a=>a
 | f+1,a=>if atM M a c=0 then pivF M c f (a+1) else a
def swapF (M:List (List Int)) (i j:Nat):List (List Int):=(M.set i (M.getD j [])).set j (M.getD i [])
def scalRowF (x:Int) (r:List Int):List Int:=r.map (fun y=>timesF y x)
def elimF (m:Int) (r top:List Int):List Int:=r.zipWith (fun y t=>minusF y (m*t)) top
def elimsF (c top:Nat):Nat→Nat→List (List Int)→List (List Int)
 | 0,_,M=>M
 | f+1,i,M=>elimsF c top f (i+1) (if i=top∨atM M i c=0 then M else M.set i (elimF (atM M i c) (M.getD i []) (M.getD top [])))
def stepF (c:Nat) (M:List (List Int)) (piv:List Int):List (List Int)×List Int :=
 let a:=pivF M c (M.length - piv.length) piv.length
 if a=M.length then (M,piv)
 else
  let M1:=swapF M a piv.length
  let M2:=M1.set piv.length (scalRowF (invF (atM M1 piv.length c)) (M1.getD piv.length []))
  (elimsF c piv.length M.length 0 M2,piv++[(c:Int)])
def redF:Nat→Nat→List (List Int)→List Int→List (List Int)×List Int
 | 0,_,M,piv=>(M,piv)
 | f+1,c,M,piv=>redF f (c+1) (stepF c M piv).1 (stepF c M piv).2
def NumM (k:Nat) (M:List (List Int)):Prop:=∀ r∈M,r.length=k∧∀ x∈r,0≤x∧x<1000000271
theorem NumM.row {k:Nat} {M:List (List Int)} (h:NumM k M) {i:Nat} (hi:i<M.length):(M.getD i []).length=k∧∀ x∈M.getD i [],0≤x∧x<1000000271:=by
 have e:M.getD i []=M[i]:=by simp [hi]
 rw [e]
 exact h _ (List.getElem_mem hi)
theorem getM? {M:List (List Int)} {i:Nat} (hi:i<M.length):M[i]? = some (M.getD i []):=by simp [hi]
theorem NumM.set {k:Nat} {M:List (List Int)} (h:NumM k M) {r:List Int} (hr:r.length=k∧∀ x∈r,0≤x∧x<1000000271) (i:Nat):NumM k (M.set i r):=by
 intro s hs
 rcases List.mem_or_eq_of_mem_set hs with hs | rfl
 ·exact h s hs
 ·exact hr
theorem NumM.swap {k:Nat} {M:List (List Int)} (h:NumM k M) {i j:Nat} (hi:i<M.length) (hj:j<M.length):NumM k (swapF M i j):=(h.set (h.row hj) i).set (h.row hi) j
theorem at_num {k:Nat} {M:List (List Int)} (h:NumM k M) {i j:Nat} (hi:i<M.length) (hj:j<k):(M.getD i [])[j]? = some (atM M i j)∧0≤atM M i j∧atM M i j<1000000271:=by
 obtain ⟨h1,h2⟩:=h.row hi
 have e:(M.getD i [])[j]? = some (atM M i j):=by
  unfold atM
  rw [List.getD_eq_getElem?_getD (l:=M.getD i []),List.getElem?_eq_getElem (by omega)]
  rfl
 exact ⟨e,h2 _ (List.mem_of_getElem? e)⟩
theorem num_scale (x:Int) {k:Nat} {r:List Int} (h:r.length=k):(scalRowF x r).length=k∧∀ y∈scalRowF x r,0≤y∧y<1000000271:=by
 refine ⟨by simpa [scalRowF] using h,fun y hy=>?_⟩
 obtain ⟨z,_,rfl⟩:=List.mem_map.1 hy
 unfold timesF
 exact ⟨Int.emod_nonneg _ (by omega),Int.emod_lt_of_pos _ (by omega)⟩
theorem num_elim (m:Int) {k:Nat} {r t:List Int} (h:r.length=k) (ht:t.length=k):(elimF m r t).length=k∧∀ y∈elimF m r t,0≤y∧y<1000000271:=by
 refine ⟨by simp [elimF,h,ht],fun y hy=>?_⟩
 unfold elimF at hy
 obtain ⟨j,hj,e⟩:=List.getElem_of_mem hy
 rw [List.getElem_zipWith] at e
 rw [← e]
 unfold minusF
 exact ⟨Int.emod_nonneg _ (by omega),Int.emod_lt_of_pos _ (by omega)⟩
section
variable {w w':World} {lo:Nat} {A:Option Addr} {n c:Nat} {vs:List Value} {xss:List (List Int)}
theorem RowsO.rowAt (h:RowsO w lo A n c vs xss) {k:Nat} {xs:List Int} (hk:xss[k]? = some xs) (hx:0<xs.length):∃ b d,vs[k]? = some (.slice (some ⟨b,0,none⟩) xs.length d)∧w.ownsRow lo 3 1 (.slice (some ⟨b,0,none⟩) xs.length d) xs.length (xs.map (Value.int .i64))∧(∀ x∈xs,R64 x)∧xs.length≤d∧d≤9223372036854775807∧lo≤b∧b<w.heap.size∧(∀ g,A=some ⟨g,0,none⟩→b≠g):=by
 obtain ⟨B,m,d,e1,e2,e3⟩:=h.row k xs hk
 obtain rfl:xs.length=m:=by have:=own_len e2;simpa using this
 have hs:=h.sep k _ e1
 rcases e2.2 with ⟨_,e⟩ | ⟨b,cap,cur,e,h1,h2,h3,h4,_⟩
 ·omega
 ·injection e with e4 e5 e6
  subst e4 e6
  refine ⟨b,d,e1,e2,e3,h3,by unfold maxLen at h4;omega,h1,(Array.getElem?_eq_some_iff.1 h2).1,fun g hg=>?_⟩
  subst hg
  rcases hs with hs | hs
  ·simp [Value.ownBlock] at hs
  ·simpa [Value.ownBlock] using hs
theorem RowsO.setIn {g:Nat} (h:RowsO w lo (some ⟨g,0,none⟩) n c vs xss) {k:Nat} {xs:List Int} (hk:xss[k]? = some xs) {b m d:Nat} (hv:vs[k]? = some (.slice (some ⟨b,0,none⟩) m d)) (j:Nat) {x:Int} (hr:R64 x) :
  RowsO (w.setCell ⟨b,j,none⟩ (.int .i64 x)) lo (some ⟨g,0,none⟩) n c vs (xss.set k (xs.set j x)):=by
 have hvl:=h.vlen
 have hxl:=h.len
 have hkn:=(List.getElem?_eq_some_iff.1 hv).1
 have hne:∀ b',b'≠b→(w.setCell ⟨b,j,none⟩ (.int .i64 x)).heap[b']? = w.heap[b']? := fun b' hb=>Below.heap_setCell _ _ _ _ hb
 have hbg:g≠b:=by
  rcases h.sep k _ hv with e | e
  ·simp [Value.ownBlock] at e
  ·intro e2;subst e2;exact e rfl
 refine ⟨owns_same h.own (fun ad e=>by injection e with e;subst e;exact hne g hbg),by simpa using hxl,fun i ys hi=>?_,h.sep,h.sep2⟩
 by_cases e:i=k
 ·subst e
  rw [List.getElem?_set_self (by omega)] at hi
  injection hi with hi
  subst hi
  obtain ⟨B,m',d',e1,e2,e3⟩:=h.row i xs hk
  rw [hv] at e1
  injection e1 with e1
  injection e1 with e4 e5 e6
  subst e4 e5 e6
  refine ⟨_,_,_,hv,?_,fun y hy=>?_⟩
  ·rw [List.map_set]
   exact (e2.stored j (.int .i64 x)).1
  ·rcases List.mem_or_eq_of_mem_set hy with hy | rfl
   ·exact e3 y hy
   ·exact hr
 ·rw [List.getElem?_set_ne (by omega)] at hi
  obtain ⟨B,m',d',e1,e2,e3⟩:=h.row i ys hi
  refine ⟨B,m',d',e1,owns_same e2 (fun ad e4=>hne ad.block ?_),e3⟩
  subst e4
  rcases h.sep2 i k _ _ e e1 hv with e5 | e5
  ·simp [Value.ownBlock] at e5
  ·intro e6
   exact e5 (by simp [Value.ownBlock,e6])
theorem RowsO.swap {g:Nat} (h:RowsO w lo (some ⟨g,0,none⟩) n c vs xss) {i j:Nat} {u v:Value} (hi:vs[i]? = some u) (hj:vs[j]? = some v) :
  RowsO ((w.setCell ⟨g,i,none⟩ v).setCell ⟨g,j,none⟩ u) lo (some ⟨g,0,none⟩) n c ((vs.set i v).set j u) (swapF xss i j):=by
 have hvl:=h.vlen
 have hxl:=h.len
 have hin:=(List.getElem?_eq_some_iff.1 hi).1
 have hjn:=(List.getElem?_eq_some_iff.1 hj).1
 have st1:=h.own.stored i v
 have st2:=st1.1.stored j u
 have hne:∀ b',b'≠g→((w.setCell ⟨g,i,none⟩ v).setCell ⟨g,j,none⟩ u).heap[b']? = w.heap[b']? := fun b' hb=>(Below.heap_setCell _ _ _ _ hb).trans (Below.heap_setCell _ _ _ _ hb)
 let s:Nat→Nat:=fun k=>if k=j then i else if k=i then j else k
 have hvs:∀ k,((vs.set i v).set j u)[k]? = vs[s k]? := by
  intro k
  show _=vs[if k=j then i else if k=i then j else k]?
  by_cases e1:k=j
  ·subst e1
   rw [if_pos rfl,List.getElem?_set_self (by simpa using hjn),hi]
  ·rw [if_neg e1,List.getElem?_set_ne (by omega)]
   by_cases e2:k=i
   ·subst e2
    rw [if_pos rfl,List.getElem?_set_self hin,hj]
   ·rw [if_neg e2,List.getElem?_set_ne (by omega)]
 have hxs:∀ k,(swapF xss i j)[k]? = xss[s k]? := by
  intro k
  show ((xss.set i (xss.getD j [])).set j (xss.getD i []))[k]? = xss[if k=j then i else if k=i then j else k]?
  by_cases e1:k=j
  ·subst e1
   rw [if_pos rfl,List.getElem?_set_self (by simp;omega),List.getElem?_eq_getElem (by omega)]
   simp [show i<xss.length by omega]
  ·rw [if_neg e1,List.getElem?_set_ne (by omega)]
   by_cases e2:k=i
   ·subst e2
    rw [if_pos rfl,List.getElem?_set_self (by omega),List.getElem?_eq_getElem (by omega)]
    simp [show j<xss.length by omega]
   ·rw [if_neg e2,List.getElem?_set_ne (by omega)]
 have hinj:∀ a b,a≠b→s a≠s b:=by
  intro a b hab
  show (if a=j then i else if a=i then j else a)≠(if b=j then i else if b=i then j else b)
  split <;> split <;> (try split) <;> (try split) <;> omega
 refine ⟨st2.1,by simpa [swapF] using hxl,fun k ys hk=>?_,fun k z hk=>?_,fun a b y z hab ha hb=>?_⟩
 ·rw [hxs] at hk
  obtain ⟨B,m',d',e1,e2,e3⟩:=h.row _ ys hk
  refine ⟨B,m',d',(hvs k).trans e1,owns_same e2 (fun ad e4=>hne ad.block ?_),e3⟩
  subst e4
  rcases h.sep _ _ e1 with e5 | e5
  ·simp [Value.ownBlock] at e5
  ·intro e6
   exact e5 (by simp [Value.ownBlock,e6])
 ·rw [hvs] at hk
  exact h.sep _ z hk
 ·rw [hvs] at ha hb
  exact h.sep2 _ _ y z (hinj a b hab) ha hb
end
end Go.Proofs.YtomgcbfcnjbofaaGreat
/- A matrix of numbers in memory, changed in place: what a walk needs of it. -/
namespace Go.Proofs.YtomgcbfcnjbofaaGreat
open Go.RowKit
set_option linter.unusedSimpArgs false
set_option linter.unusedVariables false
set_option maxRecDepth 20000
structure MatB (w0 w:World) (lo hi g n c k:Nat) (vs:List Value) (M:List (List Int)):Prop where
 rows:RowsO w lo (some ⟨g,0,none⟩) n c vs M
 lt:∀ (j:Nat) (v:Value),vs[j]? = some v→∀ b,v.ownBlock=some b→b<hi
 glt:g<hi
 num:NumM k M
 low:Below lo w0 w
def mixL (new old:List Int) (j:Nat):List Int:=new.take j++old.drop j
theorem mixL_zero (new old:List Int):mixL new old 0=old:=by simp [mixL]
theorem mixL_all {new old:List Int} {k:Nat} (h1:new.length=k) (h2:old.length=k):mixL new old k=new:=by simp [mixL,List.take_of_length_le (Nat.le_of_eq h1),List.drop_eq_nil_of_le (Nat.le_of_eq h2)]
theorem mixL_len {new old:List Int} {k j:Nat} (h1:new.length=k) (h2:old.length=k) (hj:j≤k):(mixL new old j).length=k:=by simp [mixL,h1,h2];omega
theorem mixL_at {new old:List Int} {k j:Nat} (h1:new.length=k) (hj:j<k):(mixL new old j)[j]? = old[j]? := by
 unfold mixL
 rw [List.getElem?_append_right (by simp;omega)]
 simp [h1,Nat.min_eq_left (Nat.le_of_lt hj)]
theorem mixL_set {new old:List Int} {k j:Nat} {x:Int} (h1:new.length=k) (h2:old.length=k) (hj:j<k) (hx:new[j]? = some x):(mixL new old j).set j x=mixL new old (j+1):=by
 unfold mixL
 apply List.ext_getElem?
 intro i
 by_cases e:i=j
 ·subst e
  rw [List.getElem?_set_self (by simp [h1,h2];omega),List.getElem?_append_left (by simp;omega),List.getElem?_take_of_lt (by omega),hx]
 ·rw [List.getElem?_set_ne (by omega)]
  by_cases e2:i<j
  ·rw [List.getElem?_append_left (by simp;omega),List.getElem?_append_left (by simp;omega),List.getElem?_take_of_lt e2,List.getElem?_take_of_lt (by omega)]
  ·rw [List.getElem?_append_right (by simp;omega),List.getElem?_append_right (by simp;omega)]
   simp [h1]
   congr 1
   omega
section
variable {w0 w w':World} {lo hi g n c k:Nat} {vs:List Value} {M:List (List Int)}
theorem MatB.len (h:MatB w0 w lo hi g n c k vs M):M.length=n:=h.rows.len
theorem MatB.drew (h:MatB w0 w lo hi g n c k vs M):MatB w0 w.drew lo hi g n c k vs M:=⟨h.rows.drew,h.lt,h.glt,h.num,h.low.drew⟩
theorem MatB.keep (h:MatB w0 w lo hi g n c k vs M) (hs:∀ b,b<hi→w'.heap[b]? = w.heap[b]?) (hb:Below lo w w'):MatB w0 w' lo hi g n c k vs M:=by
 refine ⟨⟨owns_same h.rows.own (fun ad e=>by injection e with e;subst e;exact hs g h.glt),h.rows.len,fun j xs hj=>?_,h.rows.sep,h.rows.sep2⟩,h.lt,h.glt,h.num,h.low.trans hb⟩
 obtain ⟨B,m,d,e1,e2,e3⟩:=h.rows.row j xs hj
 refine ⟨B,m,d,e1,owns_same e2 (fun ad e=>hs ad.block (h.lt j _ e1 ad.block ?_)),e3⟩
 subst e
 rfl
theorem MatB.row (h:MatB w0 w lo hi g n c k vs M) {i:Nat} (hi':i<n) (hk:0<k):∃ b d,w.cell? ⟨g,i,none⟩=some (.slice (some ⟨b,0,none⟩) k d)∧vs[i]? = some (.slice (some ⟨b,0,none⟩) k d)∧k≤d∧d≤9223372036854775807∧b<hi∧lo≤b∧b≠g:=by
 have hl:=h.len
 have hr:=h.num.row (i:=i) (by omega)
 obtain ⟨b,d,e1,e2,e3,e4,e5,e6,e7,e8⟩:=h.rows.rowAt (getM? (M:=M) (i:=i) (by omega)) (by rw [hr.1];exact hk)
 rw [hr.1] at e1 e4
 exact ⟨b,d,h.rows.cell e1,e1,e4,e5,h.lt i _ e1 b rfl,e6,e8 g rfl⟩
theorem MatB.cell (h:MatB w0 w lo hi g n c k vs M) {i j b d:Nat} (hv:vs[i]? = some (.slice (some ⟨b,0,none⟩) k d)) (hi':i<n) (hj:j<k):w.cell? ⟨b,j,none⟩=some (.int .i64 (atM M i j))∧w.frozen? ⟨b,j,none⟩=false∧0≤atM M i j∧atM M i j<1000000271:=by
 have hl:=h.len
 have hr:=h.num.row (i:=i) (by omega)
 have ha:=at_num h.num (i:=i) (by omega) hj
 obtain ⟨B,m,d',e1,e2,_⟩:=h.rows.row i _ (getM? (M:=M) (i:=i) (by omega))
 rw [hv] at e1
 injection e1 with e1
 injection e1 with e4 e5 e6
 subst e4 e5 e6
 refine ⟨?_,e2.frozenAt j,ha.2⟩
 rw [e2.cellAt j (by omega),List.getElem?_map,ha.1]
 rfl
theorem MatB.setIn (h:MatB w0 w lo hi g n c k vs M) {i j b d:Nat} (hv:vs[i]? = some (.slice (some ⟨b,0,none⟩) k d)) (hi':i<n) (hlo:lo≤b) {x:Int} (hx:0≤x∧x<1000000271) :
  MatB w0 (w.setCell ⟨b,j,none⟩ (.int .i64 x)) lo hi g n c k vs (M.set i ((M.getD i []).set j x)):=by
 have hl:=h.len
 have hr:=h.num.row (i:=i) (by omega)
 refine ⟨h.rows.setIn (getM? (by omega)) hv j (by constructor <;> omega),h.lt,h.glt,h.num.set ⟨by simpa using hr.1,fun y hy=>?_⟩ i,h.low.setCell hlo _⟩
 rcases List.mem_or_eq_of_mem_set hy with hy | rfl
 ·exact hr.2 y hy
 ·exact hx
theorem MatB.swap (h:MatB w0 w lo hi g n c k vs M) {i j:Nat} {u v:Value} (hu:vs[i]? = some u) (hv:vs[j]? = some v) (hi':i<n) (hj:j<n) (hlo:lo≤g) :
  MatB w0 ((w.setCell ⟨g,i,none⟩ v).setCell ⟨g,j,none⟩ u) lo hi g n c k ((vs.set i v).set j u) (swapF M i j):=by
 have hl:=h.len
 refine ⟨h.rows.swap hu hv,fun a y ha b hb=>?_,h.glt,h.num.swap (by omega) (by omega),(h.low.setCell hlo _).setCell hlo _⟩
 rcases List.mem_or_eq_of_mem_set (List.mem_of_getElem? ha) with hy | rfl
 ·rcases List.mem_or_eq_of_mem_set hy with hy | rfl
  ·obtain ⟨p,hp,e⟩:=List.getElem_of_mem hy
   exact h.lt p y (by rw [← e];exact List.getElem?_eq_getElem hp) b hb
  ·exact h.lt j _ hv b hb
 ·exact h.lt i _ hu b hb
end
theorem MatB.fro {w0 w:World} {lo hi g n c k:Nat} {vs:List Value} {M:List (List Int)} (h:MatB w0 w lo hi g n c k vs M) (i:Nat):w.frozen? ⟨g,i,none⟩=false:=h.rows.own.frozenAt i
theorem piv_step {M:List (List Int)} {c n a:Nat} (ha:a<n) (h:atM M a c=0):pivF M c (n - a) a=pivF M c (n - (a+1)) (a+1):=by
 obtain ⟨f,hf⟩:∃ f,n - a=f+1:=⟨n - a - 1,by omega⟩
 rw [hf,pivF,if_pos h,show n - (a+1)=f by omega]
theorem piv_hit {M:List (List Int)} {c n a:Nat} (ha:a<n) (h:¬ atM M a c=0):pivF M c (n - a) a=a:=by
 obtain ⟨f,hf⟩:∃ f,n - a=f+1:=⟨n - a - 1,by omega⟩
 rw [hf,pivF,if_neg h]
theorem piv_end {M:List (List Int)} {c n:Nat}:pivF M c (n - n) n=n:=by rw [Nat.sub_self,pivF]
theorem red_step {cols c:Nat} {M:List (List Int)} {p:List Int} (h:c<cols):redF (cols - c) c M p=redF (cols - (c+1)) (c+1) (stepF c M p).1 (stepF c M p).2:=by
 obtain ⟨f,hf⟩:∃ f,cols - c=f+1:=⟨cols - c - 1,by omega⟩
 rw [hf,redF,show cols - (c+1)=f by omega]
theorem red_end {cols:Nat} {M:List (List Int)} {p:List Int}:redF (cols - cols) cols M p=(M,p):=by rw [Nat.sub_self,redF]
theorem step_none {c n m:Nat} {M:List (List Int)} {p:List Int} (hl:M.length=n) (hm:p.length=m) (h:pivF M c (n - m) m=n):stepF c M p=(M,p):=by
 unfold stepF
 rw [hl,hm,h]
 simp
theorem step_some {c n m a:Nat} {M:List (List Int)} {p:List Int} (hl:M.length=n) (hm:p.length=m) (h:pivF M c (n - m) m=a) (ha:a<n) :
  stepF c M p=(elimsF c m n 0 ((swapF M a m).set m (scalRowF (invF (atM (swapF M a m) m c)) ((swapF M a m).getD m []))),p++[(c:Int)]):=by
 unfold stepF
 rw [hl,hm,h]
 simp only []
 rw [if_neg (by omega)]
theorem elims_skip {c top n i:Nat} {M:List (List Int)} (hi:i<n) (h:i=top∨atM M i c=0):elimsF c top (n - i) i M=elimsF c top (n - (i+1)) (i+1) M:=by
 obtain ⟨f,hf⟩:∃ f,n - i=f+1:=⟨n - i - 1,by omega⟩
 rw [hf,elimsF,if_pos h,show n - (i+1)=f by omega]
theorem elims_row {c top n i:Nat} {M:List (List Int)} (hi:i<n) (h1:i≠top) (h2:¬ atM M i c=0):elimsF c top (n - i) i M=elimsF c top (n - (i+1)) (i+1) (M.set i (elimF (atM M i c) (M.getD i []) (M.getD top []))):=by
 obtain ⟨f,hf⟩:∃ f,n - i=f+1:=⟨n - i - 1,by omega⟩
 rw [hf,elimsF,if_neg (by rintro (h | h);exact h1 h;exact h2 h),show n - (i+1)=f by omega]
theorem elims_end {c top n:Nat} {M:List (List Int)}:elimsF c top (n - n) n M=M:=by rw [Nat.sub_self,elimsF]
theorem mat_step {M:List (List Int)} {i j k:Nat} {new old:List Int} {x:Int} (hi:i<M.length) (h1:new.length=k) (h2:old.length=k) (hj:j<k) (hx:new[j]? = some x) :
  (M.set i (mixL new old j)).set i (((M.set i (mixL new old j)).getD i []).set j x)=M.set i (mixL new old (j+1)):=by
 have e:(M.set i (mixL new old j)).getD i []=mixL new old j:=by simp [hi]
 rw [e,mixL_set h1 h2 hj hx,List.set_set]
theorem mat_at {M:List (List Int)} {i j k:Nat} {new old:List Int} (hi:i<M.length) (h1:new.length=k) (hj:j<k):atM (M.set i (mixL new old j)) i j=old.getD j 0:=by
 have e:(M.set i (mixL new old j)).getD i []=mixL new old j:=by simp [hi]
 unfold atM
 rw [e,List.getD_eq_getElem?_getD,mixL_at h1 hj,List.getD_eq_getElem?_getD]
theorem mat_other {M:List (List Int)} {i i' j:Nat} {r:List Int} (h:i'≠i):atM (M.set i r) i' j=atM M i' j:=by
 unfold atM
 rw [List.getD_eq_getElem?_getD (l:=M.set i r),List.getElem?_set_ne (Ne.symm h),← List.getD_eq_getElem?_getD]
theorem mat_self {M:List (List Int)} {i:Nat} (h:i<M.length):M.set i (M.getD i [])=M:=by
 apply List.ext_getElem?
 intro j
 by_cases e:j=i
 ·subst e
  rw [List.getElem?_set_self h,getM? h]
 ·rw [List.getElem?_set_ne (Ne.symm e)]
theorem scale_at {x:Int} {r:List Int} {j k:Nat} (h:r.length=k) (hj:j<k):(scalRowF x r)[j]? = some (timesF (r.getD j 0) x):=by
 unfold scalRowF
 rw [List.getElem?_map,List.getElem?_eq_getElem (by omega)]
 simp [show j<r.length by omega]
theorem elim_at {m:Int} {r t:List Int} {j k:Nat} (h:r.length=k) (ht:t.length=k) (hj:j<k):(elimF m r t)[j]? = some (minusF (r.getD j 0) (m*t.getD j 0)):=by
 unfold elimF
 rw [List.getElem?_eq_getElem (by simp;omega)]
 simp [show j<r.length by omega,show j<t.length by omega]
end Go.Proofs.YtomgcbfcnjbofaaGreat
/- Systems of equations: the program's walks. -/
namespace Go.Proofs.YtomgcbfcnjbofaaGreat
open Go.RowKit
set_option linter.unusedSimpArgs false
set_option linter.unusedVariables false
set_option maxRecDepth 20000
theorem RowsO.ints2 {w:World} {lo g n c:Nat} {vs:List Value} {xss:List (List Int)} (h:RowsO w lo (some ⟨g,0,none⟩) n c vs xss):Ints2 w lo w.heap.size (some ⟨g,0,none⟩) n c xss:=by
 have hc:=h.capb
 have gl:=h.own.lt g rfl
 refine ⟨h.len,hc.1,hc.2,fun _=>⟨_,rfl,gl.1,gl.2,fun j xs hj=>?_⟩⟩
 obtain ⟨B,m,d,e1,e2,e3⟩:=h.row j xs hj
 refine ⟨B,m,d,?_,?_⟩
 ·simpa [Addr.add_lit] using h.cell e1
 ·exact (OwnI.mk e2 (fun ad e=>(owns_lt e2 ad e).2) e3:OwnI w lo w.heap.size B m d xs).ints
theorem numF_row {k:Nat} {M:List (List Int)} (h:NumM k M) {i:Nat} {xs:List Int} (hx:M[i]? = some xs):xs.length=k∧allNumF xs=true:=by
 have:=h xs (List.mem_of_getElem? hx)
 exact ⟨this.1,allNumF_of this.2⟩
end Go.Proofs.YtomgcbfcnjbofaaGreat
/- The reduction of a system: the program's walk. -/
namespace Go.Proofs.YtomgcbfcnjbofaaGreat
open Go.RowKit
set_option linter.unusedSimpArgs false
set_option linter.unusedVariables false
set_option maxRecDepth 20000
structure RedS (w wr:World) (lo hi g n c k:Nat) (vs:List Value) (M:List (List Int)) (sz:Nat) (A:Option Addr) (m d:Nat) (pc:List Int):Prop where
 mat:MatB w wr lo hi g n c k vs M
 own:OwnI wr w.heap.size sz A m d pc
 siz:wr.heap.size=sz
 hh:hi≤w.heap.size
section
variable {w wr:World} {lo hi g n c k:Nat} {vs:List Value} {M:List (List Int)} {sz:Nat} {A:Option Addr} {m d:Nat} {pc:List Int}
theorem RedS.drew (h:RedS w wr lo hi g n c k vs M sz A m d pc):RedS w wr.drew lo hi g n c k vs M sz A m d pc:=⟨h.mat.drew,h.own.same (fun _ _ _=>rfl),h.siz,h.hh⟩
theorem RedS.setIn (h:RedS w wr lo hi g n c k vs M sz A m d pc) {i j b e:Nat} (hv:vs[i]? = some (.slice (some ⟨b,0,none⟩) k e)) (hi':i<n) (hlo:lo≤b) (hb:b<hi) {x:Int} (hx:0≤x∧x<1000000271) :
  RedS w (wr.setCell ⟨b,j,none⟩ (.int .i64 x)) lo hi g n c k vs (M.set i ((M.getD i []).set j x)) sz A m d pc :=
 ⟨h.mat.setIn hv hi' hlo hx,h.own.same (Same.setCell (p:=⟨b,j,none⟩) (Same.refl _ _ _) (.inl (by have:=h.hh;show b<w.heap.size;omega)) _),by simpa [World.setCell] using h.siz,h.hh⟩
theorem RedS.swap (h:RedS w wr lo hi g n c k vs M sz A m d pc) {i j:Nat} {u v:Value} (hu:vs[i]? = some u) (hv:vs[j]? = some v) (hi':i<n) (hj:j<n) (hlo:lo≤g) :
  RedS w ((wr.setCell ⟨g,i,none⟩ v).setCell ⟨g,j,none⟩ u) lo hi g n c k ((vs.set i v).set j u) (swapF M i j) sz A m d pc:=by
 have hg:g<w.heap.size:=by have:=h.hh;have:=h.mat.glt;omega
 exact ⟨h.mat.swap hu hv hi' hj hlo,h.own.same (Same.setCell (p:=⟨g,j,none⟩) (Same.setCell (p:=⟨g,i,none⟩) (Same.refl _ _ _) (.inl hg) _) (.inl hg) _),by simpa [World.setCell] using h.siz,h.hh⟩
theorem RedS.push (h:RedS w wr lo hi g n c k vs M sz A m d pc) {A':Option Addr} {d':Nat} {x:Int} {w':World} (hap:Appended wr w.heap.size 3 1 A m d A' (m+1) d' (pc.map (Value.int .i64)++(#[Value.int .i64 x]:Array Value).toList) w') (hx:R64 x) (hlo:lo≤g) :
  RedS w w' lo hi g n c k vs M w'.heap.size A' (m+1) d' (pc++[x]):=by
 have hg:=h.mat.glt
 have hh:=h.hh
 have hb:=hap.low (Below.refl lo wr) (by have:=h.mat.low.size;omega) (by omega) h.own.own
 refine ⟨h.mat.keep (fun b hb'=>hap.2.1.block b (by have:=h.mat.low.size;omega) (fun e=>?_)) hb,⟨by simpa using hap.1,fun ad e=>(owns_lt hap.1 ad e).2,fun y hy=>?_⟩,rfl,hh⟩
 ·have:=(h.own.own.lt b e.symm).1
  omega
 ·rcases List.mem_append.1 hy with hy | hy
  ·exact h.own.rng y hy
  ·obtain rfl:y=x:=by simpa using hy
   exact hx
end
end Go.Proofs.YtomgcbfcnjbofaaGreat
