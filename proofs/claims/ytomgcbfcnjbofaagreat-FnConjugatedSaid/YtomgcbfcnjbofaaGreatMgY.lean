/- Weights of nodes: the systems of quadratures, built row by row. -/
import Derived.Test.YtomgcbfcnjbofaaGreatMgX
import Derived.Test.YtomgcbfcnjbofaaGreatMgB
import Derived.Test.YtomgcbfcnjbofaaGreatMgC
import Derived.Laws.CopyOwn
namespace Go.Proofs.YtomgcbfcnjbofaaGreat
open Go.RowKit
set_option linter.unusedSimpArgs false
set_option linter.unusedVariables false
set_option maxRecDepth 20000
def powRow (xs:List Int) (k:Int):List Int:=xs.map fun x=>powF x k
def vanM (xs:List Int) (n:Nat):List (List Int):=(List.range n).map fun q:Nat=>powRow xs (q:Int)
def goalL (f:Int→Int) (n:Nat):List Int:=(List.range n).map fun q:Nat=>f ((q:Int)+1)
theorem van_at {xs:List Int} {n q:Nat} (h:q<n):(vanM xs n)[q]? = some (powRow xs (q:Int)):=by simp [vanM,h]
theorem goal_at {f:Int→Int} {n q:Nat} (h:q<n):(goalL f n)[q]? = some (f ((q:Int)+1)):=by simp [goalL,h]
theorem van_num (xs:List Int) (n:Nat):NumM xs.length (vanM xs n):=by
 intro r hr
 simp only [vanM,List.mem_map] at hr
 obtain ⟨q,_,rfl⟩:=hr
 refine ⟨by simp [powRow],fun x hx=>?_⟩
 simp only [powRow,List.mem_map] at hx
 obtain ⟨y,_,rfl⟩:=hx
 exact powF_bd _ _
theorem van_len (xs:List Int) (n:Nat):(vanM xs n).length=n:=by simp [vanM]
theorem goal_len (f:Int→Int) (n:Nat):(goalL f n).length=n:=by simp [goalL]
theorem powRow_at {xs:List Int} {k:Int} {j:Nat} {x:Int} (h:xs[j]? = some x):(powRow xs k)[j]? = some (powF x k):=by simp [powRow,h]
theorem powRow_rng (xs:List Int) (k:Int):∀ y∈powRow xs k,R64 y:=by
 intro y hy
 simp only [powRow,List.mem_map] at hy
 obtain ⟨x,_,rfl⟩:=hy
 have:=powF_bd x k
 constructor <;> omega
theorem RowsO.kept {w w':World} {lo n c:Nat} {A:Option Addr} {vs:List Value} {xss:List (List Int)} {k:Option Nat} (h:RowsO w lo A n c vs xss) (hg:w.grownBy w' k) (h1:(oBlk A n c=none∨oBlk A n c≠k)) (h2:∀ (j:Nat) (v:Value),vs[j]? = some v→v.ownBlock=none∨v.ownBlock≠k):RowsO w' lo A n c vs xss:=by
 refine ⟨h.own.kept hg h1,h.len,fun j xs hj=>?_,h.sep,h.sep2⟩
 obtain ⟨B,m,d,e1,e2,e3⟩:=h.row j xs hj
 exact ⟨B,m,d,e1,e2.kept hg (h2 j _ e1),e3⟩
structure QuS (w0 w:World) (lo:Nat) (A:Option Addr) (q c:Nat) (vs:List Value) (M:List (List Int)) (G:Option Addr) (p d:Nat) (gs:List Int):Prop where
 rows:RowsO w lo A q c vs M
 goal:OwnI w lo w.heap.size G p d gs
 sep1:∀ k,oBlk G p d=some k→oBlk A q c≠some k
 sep2:∀ (j:Nat) (v:Value),vs[j]? = some v→∀ k,v.ownBlock=some k→oBlk G p d≠some k
 low:Below lo w0 w
section
variable {w0 w w':World} {lo:Nat} {A:Option Addr} {q c:Nat} {vs:List Value} {M:List (List Int)} {G:Option Addr} {p d:Nat} {gs:List Int}
theorem OwnI.kept {k:Option Nat} {xs:List Int} {hi:Nat} (h:OwnI w lo hi A q c xs) (hg:w.grownBy w' k) (h1:oBlk A q c=none∨oBlk A q c≠k):OwnI w' lo w'.heap.size A q c xs :=
 ⟨h.own.kept hg h1,fun ad e=>(owns_lt (h.own.kept hg h1) ad e).2,h.rng⟩
theorem QuS.below (h:QuS w0 w lo A q c vs M G p d gs) (hlo:lo≤w.heap.size) (hb:Below w.heap.size w w'):QuS w0 w' lo A q c vs M G p d gs :=
 ⟨h.rows.below hb,(h.goal.below hb (Nat.le_refl _)).wide (Nat.le_refl _) hb.size,h.sep1,h.sep2,h.low.trans (hb.mono hlo)⟩
theorem new_blk {A':Option Addr} {q' c':Nat} {xs:List Value} {e s:Nat} (hap:Appended w lo e s A q c A' q' c' xs w'):∀ k,oBlk A' q' c'=some k→oBlk A q c=some k∨w.heap.size≤k:=by
 intro k hk
 obtain ⟨ad,rfl,had⟩:=ownBlock_eq.1 hk
 rcases hap.2.2 with h3 | h3
 ·have:=h3 ad rfl
  subst this
  exact .inl (by simp [Value.ownBlock,had])
 ·exact .inr (by have:=h3 ad rfl;omega)
theorem QuS.pushRow (h:QuS w0 w lo A q c vs M G p d gs) (hlo:lo≤w.heap.size) {B:Option Addr} {m d':Nat} {xs:List Int} {hb:Nat}
  (hr:w.ownsRow hb 3 1 (.slice B m d') m (xs.map (Value.int .i64))) (hR:∀ x∈xs,R64 x) (hlb:lo≤hb)
  (hold:∀ k,(oBlk A q c=some k∨oBlk G p d=some k∨∃ (j:Nat) (v:Value),vs[j]? = some v∧v.ownBlock=some k)→k<hb)
  {A':Option Addr} {c':Nat} (hap:Appended w lo 24 1 A q c A' (q+1) c' (vs++[.slice B m d']) w') :
  QuS w0 w' lo A' (q+1) c' (vs++[.slice B m d']) (M++[xs]) G p d gs:=by
 have hGk:oBlk G p d=none∨oBlk G p d≠oBlk A q c:=by
  cases hk:oBlk G p d with
  | none=>exact .inl rfl
  | some k=>exact .inr fun e=>h.sep1 k hk e.symm
 have hG:=h.goal.kept hap.2.1 hGk
 refine ⟨h.rows.pushRow (owns_low hr hlb) hR (fun ad e=>(owns_lt hr ad e).1) (fun ad e=>hold _ (.inl (ownBlock_eq.2 ⟨ad,e,rfl⟩))) (fun j v hv b hb=>hold _ (.inr (.inr ⟨j,v,hv,hb⟩))) hap,hG,fun k hk e=>?_,fun j v hv k hk e=>?_,hap.low h.low hlo (Nat.le_refl _) h.rows.own⟩
 ·rcases new_blk hap k e with e2 | e2
  ·exact h.sep1 k hk e2
  ·obtain ⟨ad,e3,e4⟩:=ownBlock_eq.1 hk
   have:=h.goal.lt ad e3
   omega
 ·by_cases hj:j<vs.length
  ·rw [List.getElem?_append_left hj] at hv
   exact h.sep2 j v hv k hk e
  ·rw [List.getElem?_append_right (by omega)] at hv
   have hv2:Value.slice B m d'=v:=by
    cases hjj:j - vs.length with
    | zero=>rw [hjj] at hv;simpa using hv
    | succ j2=>rw [hjj] at hv;simp at hv
   subst hv2
   obtain ⟨ad,e3,e4⟩:=ownBlock_eq.1 hk
   have h1:=(owns_lt hr ad e3).1
   have h2:=hold k (.inr (.inl e))
   omega
theorem QuS.pushGoal (h:QuS w0 w lo A q c vs M G p d gs) (hlo:lo≤w.heap.size) {x:Int} (hx:R64 x) {G':Option Addr} {d':Nat} (hap:Appended w lo 3 1 G p d G' (p+1) d' (gs.map (Value.int .i64)++(#[Value.int .i64 x]:Array Value).toList) w') :
  QuS w0 w' lo A q c vs M G' (p+1) d' (gs++[x]):=by
 have hAk:oBlk A q c=none∨oBlk A q c≠oBlk G p d:=by
  cases hk:oBlk A q c with
  | none=>exact .inl rfl
  | some k=>exact .inr fun e=>h.sep1 k e.symm hk
 have hrow:∀ (j:Nat) (v:Value),vs[j]? = some v→v.ownBlock=none∨v.ownBlock≠oBlk G p d:=by
  intro j v hv
  cases hk:v.ownBlock with
  | none=>exact .inl rfl
  | some k=>exact .inr fun e=>h.sep2 j v hv k hk e.symm
 refine ⟨h.rows.kept hap.2.1 hAk hrow,⟨by simpa using hap.1,fun ad e=>(owns_lt hap.1 ad e).2,fun y hy=>?_⟩,fun k hk e=>?_,fun j v hv k hk e=>?_,hap.low h.low hlo (Nat.le_refl _) h.goal.own⟩
 ·rcases List.mem_append.1 hy with hy | hy
  ·exact h.goal.rng y hy
  ·obtain rfl:y=x:=by simpa using hy
   exact hx
 ·rcases new_blk hap k hk with e2 | e2
  ·exact h.sep1 k e2 e
  ·obtain ⟨ad,e3,e4⟩:=ownBlock_eq.1 e
   have:=h.rows.olt2 ad e3
   omega
 ·rcases new_blk hap k e with e2 | e2
  ·exact h.sep2 j v hv k hk e2
  ·have:=(h.rows.olt j v hv k hk).2
   omega
theorem QuS.old (h:QuS w0 w lo A q c vs M G p d gs):∀ k,(oBlk A q c=some k∨oBlk G p d=some k∨∃ (j:Nat) (v:Value),vs[j]? = some v∧v.ownBlock=some k)→k<w.heap.size:=by
 rintro k (e | e | ⟨j,v,hv,e⟩)
 ·obtain ⟨ad,e1,e2⟩:=ownBlock_eq.1 e
  have:=h.rows.olt2 ad e1
  omega
 ·obtain ⟨ad,e1,e2⟩:=ownBlock_eq.1 e
  have:=h.goal.lt ad e1
  omega
 ·exact (h.rows.olt j v hv k e).2
end
theorem QuS.start (w:World):QuS w ((w.alloc (.cells #[] 24)).alloc (.cells #[] 3)) w.heap.size (some ⟨w.heap.size,0,none⟩) 0 0 [] [] (some ⟨w.heap.size+1,0,none⟩) 0 0 []:=by
 have b1:=below_alloc w (.cells #[] 24)
 have b2:=below_alloc (w.alloc (.cells #[] 24)) (.cells #[] 3)
 refine ⟨(RowsO.empty w w.heap.size (Nat.le_refl _)).below b2,⟨?_,fun ad e=>by injection e with e;subst e;simp,by simp⟩,fun k hk e=>?_,by simp,b1.trans (b2.mono b1.size)⟩
 ·simpa using World.ownsRow_lit (size:=1) (e:=3) (base:=w.heap.size) (w.alloc (.cells #[] 24)) #[] 0 (by simp) (by unfold maxLen;omega) rfl
 ·simp [Value.ownBlock] at hk e
  omega
def powGoal (a0:Int) (k:Int):Int:=fracF (powF a0 k) k
theorem goal_num {f:Int→Int} {n:Nat} (h:∀ k,0≤f k∧f k<1000000271):∀ y∈goalL f n,0≤y∧y<1000000271:=by
 intro y hy
 simp only [goalL,List.mem_map] at hy
 obtain ⟨q,_,rfl⟩:=hy
 exact h _
end Go.Proofs.YtomgcbfcnjbofaaGreat
/- Numbers that are all different: both walks. -/
namespace Go.Proofs.YtomgcbfcnjbofaaGreat
open Go.RowKit
set_option linter.unusedSimpArgs false
set_option linter.unusedVariables false
set_option maxRecDepth 20000
theorem nd_ne {xs:List Int} (h:xs.Nodup) {i j:Nat} {x y:Int} (hij:j<i) (hx:xs[i]? = some x) (hy:xs[j]? = some y):¬ x=y:=by
 intro e
 subst e
 have h1:=(List.getElem?_eq_some_iff.1 hx).1
 have h2:=(List.getElem?_eq_some_iff.1 hy).1
 rw [List.getElem?_eq_getElem h1] at hx
 rw [List.getElem?_eq_getElem h2] at hy
 injection hx with hx
 injection hy with hy
 exact List.pairwise_iff_getElem.1 h j i h2 h1 hij (hy.trans hx.symm)
set_option maxHeartbeats 1000000 in
theorem spec_l7Different (g n c:Nat) (xs:List Int) (lo hi:Nat) (w:World) (h:Ints w lo hi (some ⟨g,0,none⟩) n c xs) (hd:xs.Nodup) (hN:allNumF xs=true) :
  Calls Tryz.prog 85 #[.slice (some ⟨g,0,none⟩) n c] w fun e w'=>e = .returned (.bool true)∧∃ q,w'=w.drewN q:=by
 have hm:=h.max
 have hcp:=h.cap
 have HI:=hide h
 have HD:=hide hd
 have HA:=hide fun W (hW:∃ q,W=w.drewN q)=>spec_l1All (some ⟨g,0,none⟩) n c xs lo hi W (by obtain ⟨q,rfl⟩:=hW;exact h.same (fun _ _ _=>rfl))
 rw [hN] at HA
 clear h hd hN
 go_enter Tryz.func85,Tryz.ntmps85
 go_wp2_with fail
 go_loopw [3] (fun i wr=>∃ (k q:Nat),k≤n∧i = .int .i64 k∧wr=w.drewN q) (fun i _=>n - (intOf i).toNat)
 case atStart=>exact ⟨0,0,by omega,rfl,rfl⟩
 case round =>
  obtain ⟨k,q0,hk,rfl,rfl⟩:=hrel
  by_cases hlt:k<n
  ·obtain ⟨ad,x,e,hc,hxr,_,hx⟩:=HI.out.at_ hlt
   injection e with e
   subst e
   have hcx:w.cell? ⟨g,k,none⟩=some (.int .i64 x):=by simpa [Addr.add_lit] using hc
   clear hc
   go_wp2_with fail
   go_loopw [4] (fun i wr=>∃ (j q:Nat),j≤k∧i = .int .i64 j∧wr=w.drewN q) (fun i _=>k - (intOf i).toNat)
   case atStart=>exact ⟨0,q0,by omega,rfl,rfl⟩
   case round =>
    obtain ⟨j,q1,hj,rfl,rfl⟩:=hrel
    by_cases hlt2:j<k
    ·obtain ⟨ad,y,e,hc,hyr,_,hy⟩:=HI.out.at_ (show j<n by omega)
     injection e with e
     subst e
     have hcy:w.cell? ⟨g,j,none⟩=some (.int .i64 y):=by simpa [Addr.add_lit] using hc
     have hne:(y == x)=false:=by simpa using fun e=>nd_ne HD.out hlt2 hx.out hy.out e.symm
     clear hc hx hy
     go_wp2_with fail
     go_quiet (fail)
     go_wp2_with fail
     go_roundw
     case rel=>exact ⟨j+1,_,by omega,by go_num,rfl⟩
     case measure=>simp [intOf];omega
    ·obtain rfl:k=j:=by omega
     go_wp2_with fail
     go_roundw
     case rel=>exact ⟨k+1,q1,by omega,by go_num,rfl⟩
     case measure=>simp [intOf];omega
  ·obtain rfl:k=n:=by omega
   go_wp2_with (go_at_call 65;refine (HA.out _ ⟨_,rfl⟩).mono ?_;rintro e w' ⟨rfl,rfl⟩)
   go_ret
   exact ⟨rfl,_,rfl⟩
end Go.Proofs.YtomgcbfcnjbofaaGreat
/- Tableaus of collocation: helpers. -/
namespace Go.Proofs.YtomgcbfcnjbofaaGreat
open Go.RowKit
set_option linter.unusedSimpArgs false
set_option linter.unusedVariables false
set_option maxRecDepth 20000
def iCells (zs:List Int):Array Value:=(zs.map (Value.int .i64)).toArray
theorem OwnI.block {w:World} {g n:Nat} {lo hi:Nat} {zs:List Int} (h:OwnI w lo hi (some ⟨g,0,none⟩) n n zs):w.heap[g]? = some (.cells (iCells zs) 3 (0,0)):=by
 have hl:=h.len
 rcases h.own.2 with ⟨e,_⟩ | ⟨g',cap,cur,e,h1,h2,h3,h4,h5,h6⟩
 ·cases e
 ·injection e with e1 e2 e3
  injection e1 with e1
  injection e1 with e1
  subst e1 e3
  rw [h2]
  congr 2
  have h7:cur.toList.take (n*1)=zs.map (Value.int .i64):=by simpa [hl] using h6
  have h8:cur.toList.length=n:=by simpa using h5
  rw [List.take_of_length_le (by omega)] at h7
  rw [iCells,← h7]
theorem block_own {w:World} {g n lo:Nat} {zs:List Int} (h:w.heap[g]? = some (.cells (iCells zs) 3 (0,0))) (hl:zs.length=n) (hlo:lo≤g) (hn:n≤1099511627776) (hr:∀ x∈zs,R64 x):OwnI w lo w.heap.size (some ⟨g,0,none⟩) n n zs:=by
 have hg:=(Array.getElem?_eq_some_iff.1 h).1
 refine ⟨⟨by simp [hl],.inr ⟨g,n,_,rfl,hlo,h,Nat.le_refl _,by unfold maxLen;omega,by simp [iCells,hl],by simp only [iCells,Nat.mul_one];exact List.take_of_length_le (by simp [hl])⟩⟩,fun ad e=>by injection e with e;subst e;exact hg,hr⟩
def catF (xs:List Int) (i:Nat):List Int:=((xs.take i).map fun x=>solF xs.length (vanM xs xs.length) (goalL (powGoal x) xs.length)).flatten
theorem cat_step {xs:List Int} {i:Nat} {x:Int} (h:xs[i]? = some x):catF xs (i+1)=catF xs i++solF xs.length (vanM xs xs.length) (goalL (powGoal x) xs.length):=by
 unfold catF
 rw [List.take_add_one,h]
 simp
end Go.Proofs.YtomgcbfcnjbofaaGreat
/- Solutions of systems: the reference's walk. -/
namespace Go.Proofs.YtomgcbfcnjbofaaGreat
open Go.RowKit
open List renaming setIfInBounds_toArray → sTA, set_cons_zero → sC0, set_cons_succ → sC1
set_option linter.unusedSimpArgs false
set_option linter.unusedVariables false
set_option maxRecDepth 20000
set_option maxHeartbeats 1000000 in
theorem spec_l1Rows (gr n c:Nat) (xss:List (List Int)) (lo hi k:Nat) (w:World) (h:Ints2 w lo hi (some ⟨gr,0,none⟩) n c xss) (hN:NumM k xss) (hn:0<n) (hn2:n≤8) (hk:0<k) (hk2:k≤8) :
  Calls Tryz.prog 107 #[.slice (some ⟨gr,0,none⟩) n c] w fun e w'=>e = .returned (.bool true)∧∃ q,w'=w.drewN q:=by
 have hcp:=h.cap
 have hm:=h.max
 have HN:=hide hN
 obtain ⟨ad,B0,m0,d0,xs0,e,hc0',hi0,_,hx0⟩:=h.at_ hn
 injection e with e
 subst e
 have hc0:w.cell? ⟨gr,0,none⟩=some (.slice B0 m0 d0):=by simpa [Addr.add_lit] using hc0'
 have hm0:=hi0.max
 obtain rfl:k=m0:=by rw [← hi0.len];exact ((numF_row hN hx0.out).1).symm
 have hcm0:=hi0.cap
 have HI:=hide h
 clear hN hi0 hx0 hc0' h
 have t1:(decide ((1:Int)≤n) && decide ((n:Int)≤40))=true:=by simp;omega
 have t2:(decide ((1:Int)≤k) && decide ((k:Int)≤40))=true:=by simp;omega
 go_enter Tryz.func107,Tryz.ntmps107
 go_wp2_with (go_at_call 64;refine (spec_l1In _ _ _ _).mono ?_;rintro e w' ⟨rfl,rfl⟩)
 go_loopw [3] (fun i wr=>∃ (j q:Nat),j≤n∧i = .int .i64 j∧wr=w.drewN q) (fun i _=>n - (intOf i).toNat)
 case atStart=>exact ⟨0,0,by omega,rfl,rfl⟩
 case round =>
  obtain ⟨j,q,hj,rfl,rfl⟩:=hrel
  by_cases hlt:j<n
  ·obtain ⟨ad',B,m,d,xs,e,hc',hi,_,hx⟩:=HI.out.at_ hlt
   injection e with e
   subst e
   have hc:w.cell? ⟨gr,j,none⟩=some (.slice B m d):=by simpa [Addr.add_lit] using hc'
   have hmm:=hi.max
   have hcm:=hi.cap
   obtain rfl:k=m:=by rw [← hi.len];exact ((numF_row HN.out hx.out).1).symm
   have hr:=(numF_row HN.out hx.out).2
   have HE:=hide fun W (hW:∃ q,W=w.drewN q)=>spec_l1All B k d xs lo _ W (by obtain ⟨q,rfl⟩:=hW;exact hi.same (fun _ _ _=>rfl))
   rw [hr] at HE
   have hq1:((k:Int) != (k:Int))=false:=by simp
   clear hi hx hc' hr
   go_wp2_with fail
   go_quiet ((go_at_call 65;first | exact Calls.quiet_of (HE.out _ ⟨_,rfl⟩) | exact quiet_add (HE.out _ ⟨_,rfl⟩) | exact quiet_left (HE.out _ ⟨_,rfl⟩) | exact quiet_add_left (HE.out _ ⟨_,rfl⟩)))
   go_wp2_with fail
   go_roundw
   case rel=>exact ⟨j+1,_,by omega,by go_num,rfl⟩
   case measure=>simp [intOf];omega
  ·obtain rfl:j=n:=by omega
   go_wp2_with fail
   go_ret
   exact ⟨rfl,_,rfl⟩
set_option maxRecDepth 100000 in
set_option maxHeartbeats 4000000 in
theorem spec_l1Copy (gr n rc k:Nat) (xss:List (List Int)) (lo hi:Nat) (w:World) (h:Ints2 w lo hi (some ⟨gr,0,none⟩) n rc xss) (hN:NumM k xss) (hh:hi≤w.heap.size) (hn2:n≤8) (hk:0<k) (hk2:k≤8) :
  Calls Tryz.prog 108 #[.slice (some ⟨gr,0,none⟩) n rc] w fun e w'=>∃ A c vs,e = .returned (.slice A n c)∧RowsO w' w.heap.size A n c vs xss∧Below w.heap.size w w':=by
 obtain ⟨i0,hi0,hz0,hz1,hz2⟩:=info_parts info_int
 obtain ⟨i1,hi1,hy0,hy1,hy2⟩:=info_parts info_ints
 have hcr:=h.cap
 have hmr:=h.max
 have HI:=hide h
 have HN:=hide hN
 have hlx:=hide h.len
 clear h hN
 have s0:=hide (RowsO.empty w w.heap.size (Nat.le_refl _))
 have b0:=hide (below_alloc w (.cells #[] 24))
 go_enter Tryz.func108,Tryz.ntmps108
 go_wp2_with fail
 go_loopw [3,4] (fun p i wr=>∃ (j:Nat) (A:Option Addr) (c':Nat) (vs:List Value),j≤n∧i = .int .i64 j∧p = .slice A j c'∧Hid (RowsO wr w.heap.size A j c' vs (xss.take j))∧Hid (Below w.heap.size w wr)) (fun _ i _=>n - (intOf i).toNat)
 case atStart=>exact ⟨0,_,0,[],by omega,rfl,rfl,s0.out,b0.out⟩
 case round =>
  obtain ⟨j,A,c',vs,hj,rfl,rfl,hO,hb⟩:=hrel
  have hsz:=hb.out.size
  have hcb:=hO.out.capb
  by_cases hlt:j<n
  ·obtain ⟨ad0,B,m,d,xs,e,hc,hI,hdx,hx⟩:=(HI.out.below hb.out hh).at_ hlt
   injection e with e
   subst e
   obtain rfl:k=m:=by rw [← hI.len];exact ((numF_row HN.out hx.out).1).symm
   obtain ⟨ad,rfl,had1,had2,_⟩:=hI.cells hk
   have hrc:wr.cell? ⟨gr,j,none⟩=some (.slice (some ad) k d):=by simpa [Addr.add_lit] using hc
   have hrc1:=(below_alloc wr (.cells #[] 3)).cell (p:=⟨gr,j,none⟩) (World.block_lt_of_cell? wr _ hrc) |>.trans hrc
   have hcd:=hI.cap
   have hmd:=hI.max
   have HM2:Hid (xss.take j++[xs]=xss.take (j+1)):=take_snoc0 hx.out
   have HXS:=hide (HN.out xs (List.mem_of_getElem? hx.out))
   have hb1:=below_alloc wr (.cells #[] 3)
   have own1:(wr.alloc (.cells #[] 3)).ownsRow wr.heap.size 3 1 (.slice (some ⟨wr.heap.size,0,none⟩) 0 0) 0 []:=by
    simpa using World.ownsRow_lit (size:=1) (e:=3) wr #[] 0 (Nat.le_refl _) (by unfold maxLen;omega) rfl
   have hI1:=hI.below hb1 (by omega)
   have hsz1:wr.heap.size≤(wr.alloc (.cells #[] 3)).heap.size:=hb1.size
   have hl1:(xs.map (Value.int .i64)).length=k*1:=by simpa using hI.len
   have hone:∀ z∈xs.map (Value.int .i64),z.oneCell'=true:=by
    intro z hz
    simp only [List.mem_map] at hz
    obtain ⟨z',_,rfl⟩:=hz
    rfl
   have hnews:∀ ad',some ad=some ad'→∀ (q:Nat) u,(xs.map (Value.int .i64))[q]? = some u→(wr.alloc (.cells #[] 3)).cell? (ad'.add q)=some u:=by
    intro ad' e q u hu
    injection e with e
    subst e
    rw [List.getElem?_map] at hu
    cases hy:xs[q]? with
    | none=>rw [hy] at hu;cases hu
    | some y =>
     rw [hy] at hu
     injection hu with hu
     subst hu
     obtain ⟨ad',e,_,_,hcc⟩:=hI1.cells hk
     injection e with e
     subst e
     exact hcc q y hy
   have HNW:=hide hnews
   have HON:=hide hone
   clear hc hI hdx hx had1 had2 hnews hone
   go_wp2_with (first
    | (at_builtin;refine wpl_app rfl (.tmp 13) (.tmp 17) 24 rfl _ wr.heap.size 3 i0 (.int .i64 0) 1 8 Tryz.underlying24 hi0 hz0 hz1 hz2 rfl (by omega) (some ⟨wr.heap.size,0,none⟩) 0 0 [] rfl own1 (some ad) k d (xs.map (Value.int .i64)) rfl hl1 HNW.out (by intro e;cases e) HON.out (by omega) (by omega) hsz1 ?_;intro A2 c2 v2 happ2;simp only [Nat.zero_add] at happ2 ⊢;have BY:=hide (happ2.low hb1 hsz1 (Nat.le_refl _) own1);have hown2:=hide happ2.1;have HOv:=hide (hO.out.below BY.out);have szv:=BY.out.size;clear happ2)
    | (at_builtin;refine wpl_app1 rfl (.tmp 12) (.tmp 19) 35 rfl w.heap.size 24 i1 (.slice none 0 0) 1 24 Tryz.underlying35 hi1 hy0 hy1 hy2 rfl (by omega) v2 #[.slice A2 k c2] A j c' 1 _ rfl rfl HOv.out.own rfl (by simp [Value.oneCell']) (by omega) (by omega) (by omega) ?_;intro A3 c3 w5 happ hlt3))
   have hP:=hide (HOv.out.pushRow (hb:=wr.heap.size) (xs:=xs) (owns_low hown2.out hsz) (fun y hy=>by
    have:=HXS.out.2 y hy
    constructor <;> omega) (fun ad e=>(owns_lt hown2.out ad e).1) hO.out.olt2 (fun j v hv b hb=>(hO.out.olt j v hv b hb).2) happ)
   rw [HM2.out] at hP
   have BZ:=happ.low (hb.out.trans (BY.out.mono hsz)) (by omega) (Nat.le_refl _) HOv.out.own
   refine ⟨⟨j+1,A3,c3,_,by omega,by go_num,rfl,hP.out,BZ⟩,?_⟩
   simp [intOf];omega
  ·obtain rfl:n=j:=by omega
   have hO2:=hO.out
   rw [List.take_of_length_le (Nat.le_of_eq hlx.out)] at hO2
   have HO:=hide hO2
   clear hO hO2
   go_wp2_with fail
   go_ret
   exact ⟨A,c',vs,rfl,HO.out,hb.out⟩
set_option maxRecDepth 100000 in
set_option maxHeartbeats 16000000 in
theorem spec_SolveSystem (gr n rc:Nat) (xss:List (List Int)) (gt tc:Nat) (ys:List Int) (lo hi lo' hi':Nat) (w:World) (h:Ints2 w lo hi (some ⟨gr,0,none⟩) n rc xss) (hN:NumM n xss) (ht:Ints w lo' hi' (some ⟨gt,0,none⟩) n tc ys)
  (hy:∀ y∈ys,0≤y∧y<1000000271) (hh:hi≤w.heap.size) (hh':hi'≤w.heap.size) (hn:0<n) (hn2:n≤8) (hf:FullF n xss ys) :
  Calls Tryz.prog 87 #[.slice (some ⟨gr,0,none⟩) n rc,.slice (some ⟨gt,0,none⟩) n tc] w fun e w'=>∃ C cc,e = .returned (.tuple #[.slice C n cc,.bool true])∧OwnI w' w.heap.size w'.heap.size C n cc (solF n xss ys)∧Below w.heap.size w w':=by
 obtain ⟨i0,hi0,hz0,hz1,hz2⟩:=info_parts info_int
 have hcr:=h.cap
 have hmr:=h.max
 have hct:=ht.cap
 have hmt:=ht.max
 have HAL:=hide fun W (hW:∃ q,W=w.drewN q)=>spec_l1All (some ⟨gt,0,none⟩) n tc ys lo' hi' W (by obtain ⟨q,rfl⟩:=hW;exact ht.same (fun _ _ _=>rfl))
 have hay:allNumF ys=true:=allNumF_of hy
 rw [hay] at HAL
 obtain ⟨ad,B0,m0,d0,xs0,e,hc0,hI0,hd0,hx0⟩:=h.at_ (k:=0) hn
 injection e with e
 subst e
 obtain rfl:n=m0:=by rw [← hI0.len];exact ((numF_row hN hx0.out).1).symm
 have hc0':w.cell? ⟨gr,0,none⟩=some (.slice B0 n d0):=by simpa [Addr.add_lit] using hc0
 have hcd0:=hI0.cap
 have hmd0:=hI0.max
 have HL1:=hide (spec_l1Rows gr n rc xss lo hi n w h hN hn hn2 hn hn2)
 have HCP:=hide fun (W:World) (hW:∃ q,W=w.drewN q)=>spec_l1Copy gr n rc n xss lo hi W (h.same (by obtain ⟨q,rfl⟩:=hW;exact fun _ _ _=>rfl)) hN (by obtain ⟨q,rfl⟩:=hW;exact hh) hn2 hn hn2
 have HI:=hide h
 have HT:=hide ht
 have HN:=hide hN
 have HY:=hide hy
 have hlx:=hide h.len
 have hly:=hide ht.len
 have hnb:((n:Int) != (n:Int))=false:=by simp
 clear h ht hN hy hI0 hd0 hx0 hc0 hay
 go_enter Tryz.func87,Tryz.ntmps87
 go_wp2_with (first
  | (go_at_call 107;refine HL1.out.mono ?_;rintro e w' ⟨rfl,q1,rfl⟩)
  | (go_at_call 65;refine (HAL.out _ ⟨_,rfl⟩).mono ?_;rintro e w' ⟨rfl,rfl⟩)
  | (go_at_call 108;refine (HCP.out _ ⟨_,rfl⟩).mono ?_;rintro e W0 ⟨A0,c0,vs0,rfl,hO0,hb0⟩;obtain ⟨g,rfl,hg1,hg2⟩:=hO0.form hn;have hcb0:=hO0.capb;have hO1:Hid (RowsO W0 w.heap.size (some ⟨g,0,none⟩) n c0 vs0 xss):=hO0;have hb1:Hid (Below w.heap.size w W0):=(below_drewN (Below.refl _ _) q1).trans hb0;have hg1':w.heap.size≤g:=hg1;clear hO0 hb0 hg1))
 clear HL1 HCP HAL hc0' hg2
 have hly':=hly.out
 go_loopw [8] (fun i wr=>∃ (j:Nat) (vs:List Value),j≤n∧i = .int .i64 j∧Hid (RowsO wr w.heap.size (some ⟨g,0,none⟩) n c0 vs (mixR (augF xss ys) xss j))∧Hid (Below w.heap.size w wr)) (fun i _=>n - (intOf i).toNat)
 case atStart=>exact ⟨0,vs0,by omega,rfl,by rw [mixR_zero];exact hO1.out,hb1.out⟩
 case round =>
  clear hO1 hb1
  obtain ⟨j,vs,hj,rfl,hO,hb⟩:=hrel
  have hsz:=hb.out.size
  have hal:=hide (aug_len hlx.out hly.out)
  by_cases hlt:j<n
  ·obtain ⟨ad1,x,e,hcx0,hxr,hdy,hyx⟩:=(HT.out.below hb.out hh').at_ hlt
   injection e with e
   subst e
   have hcx:wr.cell? ⟨gt,j,none⟩=some (.int .i64 x):=by simpa [Addr.add_lit] using hcx0
   have hx:(mixR (augF xss ys) xss j)[j]? = some (xss.getD j []):=by rw [mixR_at hal.out hlt];exact getM? (by rw [hlx.out];exact hlt)
   obtain ⟨xs,hxs⟩:∃ xs,xs=xss.getD j []:=⟨_,rfl⟩
   have hxN:=HN.out.row (i:=j) (by rw [hlx.out];exact hlt)
   rw [← hxs] at hx hxN
   have hAug:(augF xss ys)[j]? = some (xs++[x]):=aug_at (by rw [hxs];exact getM? (by rw [hlx.out];exact hlt)) hyx.out
   obtain ⟨b,d,r1,r2,r3,r4,r5,r6,r7,r8⟩:=hO.out.rowAt hx (by omega)
   obtain ⟨kx,hkx⟩:∃ kx,kx=xs.length:=⟨_,rfl⟩
   have hkn:kx=n:=by omega
   rw [← hkx] at r1 r2 r4
   obtain rfl:n=kx:=hkn.symm
   have hset:=mixR_set hal.out hlx.out hlt hAug
   have hrc:=hO.out.cell r1
   have hOd:=hide hO.out.drew
   have hXd:=hide hx
   have hR1:=hide r1
   have hSET:=hide hset
   have hg8:=r8 g rfl
   obtain ⟨adt,e,_,hgt,_⟩:=HT.out.cells hn
   injection e with e
   subst e
   simp only at hgt
   have hgtw:gt<wr.heap.size:=by omega
   have hgw:g<wr.heap.size:=hO.out.olt2 _ rfl
   have hLc:∀ W,Below wr.heap.size wr W→W.cell? ⟨g,j,none⟩=some (.slice (some ⟨b,0,none⟩) n d)∧W.cell? ⟨gt,j,none⟩=some (.int .i64 x):=fun W hW=>⟨(hW.cell (p:=⟨g,j,none⟩) hgw).trans hrc,(hW.cell (p:=⟨gt,j,none⟩) hgtw).trans hcx⟩
   have HSET:=hide hset
   have hS0':=hLc _ ((Below.refl _ _).drew)
   have HS1':=hide (hLc _ (((Below.refl wr.heap.size wr).drew).alloc (Nat.le_refl _) (.cells #[.int .i64 x] 3)))
   have HRo:Hid (wr.drew.ownsRow w.heap.size 3 1 (.slice (some ⟨b,0,none⟩) n d) n (xs.map (Value.int .i64))):=r2
   have hszd:w.heap.size≤wr.drew.heap.size:=hsz
   have hbd:=hide hb.out.drew
   have HCX:=hide fun (v1:World) (hB:Below w.heap.size w v1)=>(((hB.cell (p:=⟨gt,j,none⟩) (by show gt<_;omega)).trans (hb.out.cell (p:=⟨gt,j,none⟩) (by show gt<_;omega)).symm).trans hcx:v1.cell? ⟨gt,j,none⟩=some (.int .i64 x))
   clear hcx0 hdy hyx hx hxN hAug r1 r2 r3 r8 hset hLc hxs hkx hkn
   go_wp2_with fail
   refine wp_region_Z (fun W'=>W'.cell? ⟨g,j,none⟩=some (.slice (some ⟨b,0,none⟩) n d)∧W'.cell? ⟨gt,j,none⟩=some (.int .i64 x)) 13 (by kernel_rfl) ?_
   obtain ⟨V,hV⟩:∃ V,V=wr.drew:=⟨_,rfl⟩
   rw [← hV] at hOd hS0' HS1' HRo hszd hbd ⊢
   have hS0:=hS0'
   have HS1:=HS1'
   clear hS0' HS1' hV hO hb hrc hcx hgtw hgw
   refine wpAnyZ_takeW 0 (.slice (some ⟨g,0,none⟩) n c0) rfl (by kernel_rfl) (by kernel_rfl) (fun _ _ _ h=>h) (by rfl) (fun _=>by go_simp) hS0 ?_
   try simp only [Act.put,sTA,sC0,sC1]
   refine wpAnyZ_takeW 1 (.int .i64 (j:Int)) rfl (by kernel_rfl) (by kernel_rfl) (fun _ _ _ h=>h) (by rfl) (fun _=>by go_simp) hS0 ?_
   try simp only [Act.put,sTA,sC0,sC1]
   refine wpAnyZ_takeW 2 (.slice (some ⟨g,0,none⟩) n c0) rfl (by kernel_rfl) (by kernel_rfl) (fun _ _ _ h=>h) (by rfl) (fun _=>by go_simp) hS0 ?_
   try simp only [Act.put,sTA,sC0,sC1]
   refine wpAnyZ_takeW 3 (.int .i64 (j:Int)) rfl (by kernel_rfl) (by kernel_rfl) (fun _ _ _ h=>h) (by rfl) (fun _=>by go_simp) hS0 ?_
   try simp only [Act.put,sTA,sC0,sC1]
   refine wpAnyZ_takeW 4 (.pointer (some ⟨g,j,none⟩)) rfl (by kernel_rfl) (by kernel_rfl) (fun _ _ _ h=>h) (by rfl) (fun _=>by go_simp) hS0 ?_
   try simp only [Act.put,sTA,sC0,sC1]
   refine wpAnyZ_take 5 (.slice (some ⟨b,0,none⟩) n d) rfl (by kernel_rfl) (by kernel_rfl) (fun _ _ _ h=>h) (by rfl) (fun _ hS=>by have q0:=hS.1;clear hS;go_simp) hS0 ?_
   try simp only [Act.put,sTA,sC0,sC1]
   refine wpAnyZ_takeW 6 (.slice (some ⟨gt,0,none⟩) n tc) rfl (by kernel_rfl) (by kernel_rfl) (fun _ _ _ h=>h) (by rfl) (fun _=>by go_simp) hS0 ?_
   try simp only [Act.put,sTA,sC0,sC1]
   refine wpAnyZ_takeW 7 (.int .i64 (j:Int)) rfl (by kernel_rfl) (by kernel_rfl) (fun _ _ _ h=>h) (by rfl) (fun _=>by go_simp) hS0 ?_
   try simp only [Act.put,sTA,sC0,sC1]
   refine wpAnyZ_takeW 8 (.pointer (some ⟨gt,j,none⟩)) rfl (by kernel_rfl) (by kernel_rfl) (fun _ _ _ h=>h) (by rfl) (fun _=>by go_simp) hS0 ?_
   try simp only [Act.put,sTA,sC0,sC1]
   refine wpAnyZ_take 9 (.int .i64 x) rfl (by kernel_rfl) (by kernel_rfl) (fun _ _ _ h=>h) (by rfl) (fun _ hS=>by have q0:=hS.2;clear hS;go_simp) hS0 ?_
   try simp only [Act.put,sTA,sC0,sC1]
   refine wpAnyZ_one 10 (by kernel_rfl) rfl (by rfl) (fun K hK=>?_)
   go_simp
   refine hK.out _ _ HS1.out ?_
   clear hK K
   try simp only [Act.put,sTA,sC0,sC1]
   refine wpAnyZ_one 11 (by kernel_rfl) rfl (by rfl) (fun K hK=>?_)
   refine owp_appS (.tmp 44) (.tmp 49) 24 rfl w.heap.size 3 i0 (.int .i64 0) 1 8 Tryz.underlying24 hi0 hz0 hz1 hz2 rfl (by omega) V #[.int .i64 x] _ rfl (some ⟨b,0,none⟩) n d 1 (xs.map (Value.int .i64)) rfl rfl HRo.out rfl (by simp [Value.oneCell']) (by omega) (by omega) hszd ?_
   intro A3 c3 w5 happ hlt3
   obtain ⟨mc,mf⟩:=hOd.out.mid hR1.out happ
   have HG:=hide (hOd.out.grow hXd.out hR1.out happ hxr)
   rw [HSET.out] at HG
   have b5:=hide (happ.low hbd.out hszd (Nat.le_refl _) HRo.out)
   have hS2:=And.intro mc (HCX.out _ b5.out)
   clear happ HS1
   refine hK.out _ _ hS2 ?_
   clear hK K
   try simp only [Act.put,sTA,sC0,sC1]
   refine wpAnyZ_takeW 12 (.pointer (some ⟨g,j,none⟩)) rfl (by kernel_rfl) (by kernel_rfl) (fun _ _ _ h=>h) (by rfl) (fun _=>by go_simp) hS2 ?_
   try simp only [Act.put,sTA,sC0,sC1]
   refine wpAnyZ_last (by kernel_rfl) rfl (by kernel_rfl) (by rfl) (fun K hK=>?_)
   go_simp
   refine hK _ _ ?_
   clear hK K
   go_wp2_with fail
   go_roundw
   case rel=>exact ⟨j+1,_,by omega,by go_num,HG.out,b5.out.setCell hg1' _⟩
   case measure=>simp [intOf];omega
  ·obtain rfl:n=j:=by omega
   have hO2:=hO.out
   rw [mixR_all hal.out hlx.out] at hO2
   have hcb:=hO2.capb
   have HRR:=hide (spec_l1Reduce w.heap.size wr.heap.size g n c0 (n+1) n vs _ wr (hO2.mat (aug_num HN.out hlx.out hly.out HY.out)) hg1' (Nat.le_refl _) hn2 (by omega) (by omega) (by omega))
   have hmk:=make_ints n (by omega)
   have hMl:=hide ((red_len n 0 (augF xss ys) []).trans (aug_len hlx.out hly.out))
   obtain ⟨sol,hsol⟩:∃ v,v=solF n xss ys:=⟨_,rfl⟩
   have hsl:Hid (sol.length=n):=by rw [hsol];exact sol_len hlx.out hly.out
   have HS0:=hide hsol
   have HSOL:Hid (sol=(redF n 0 (augF xss ys) []).1.map fun x=>x.getD n 0):=hsol
   have HF:=hide hf
   clear hO hO2 hsol hf hly' hal
   go_wp2_with (go_at_call 109;refine HRR.out.mono ?_;rintro e w1 ⟨A1,m1,d1,vs1,rfl,hR⟩;obtain ⟨rfl,hS⟩:=SolS.start hR HF.out hn2 rfl;have hcb1:=hR.own.capb;have HS:=hide hS;have hw1:=hide (hR.mat.low.size);clear hR hS)
   generalize (redF n 0 (augF xss ys) []).1=Mr at HS hMl HSOL
   clear HRR HF hmk
   go_loopw [11] (fun i wr2=>∃ (q:Nat),q≤n∧i = .int .i64 q∧SolS wr wr2 w.heap.size wr.heap.size g n c0 (n+1) vs1 Mr w1.heap.size A1 d1 (mixL sol (List.replicate n 0) q)) (fun i _=>n - (intOf i).toNat)
   case atStart=>exact ⟨0,by omega,rfl,by rw [mixL_zero];exact HS.out⟩
   case round =>
    obtain ⟨q,hq,rfl,hS⟩:=hrel
    by_cases hlt2:q<n
    ·obtain ⟨b,db,r1,r2,r3,r4,r5,r6,r7⟩:=hS.mat.row hlt2 (Nat.succ_pos n)
     obtain ⟨e1,e2,e3,e4⟩:=hS.mat.cell r2 hlt2 (Nat.lt_succ_self n)
     obtain ⟨ad,x,e,hpc0,hpr,_,hpx⟩:=hS.piv.ints.at_ hlt2
     obtain ⟨ga,hA1,hga1,hga2,_⟩:=hS.piv.form hn
     subst hA1
     injection e with e
     subst e
     obtain rfl:(q:Int)=x:=by have:=hpx.out;rw [idxL_at hlt2] at this;injection this
     have hpc:wr.cell? ⟨ga,q,none⟩=some (.int .i64 (q:Int)):=by simpa [Addr.add_lit] using hpc0
     have hfo:=hS.out.own.frozenAt q
     obtain ⟨ov,hov⟩:∃ v,((mixL sol (List.replicate n 0) q).map (Value.int .i64))[q]? = some v:=⟨_,List.getElem?_eq_getElem (by have:=mixL_len hsl.out (List.length_replicate (n:=n) (a:=(0:Int))) (Nat.le_of_lt hlt2);simp;omega)⟩
     have hco:=(hS.out.own.cellAt q (by omega)).trans hov
     clear hov
     have hsx:=sol_at (n:=n) (i:=q) (M:=Mr) (by rw [hMl.out];exact hlt2)
     have hsx2:sol[q]? = some (atM Mr q n):=by rw [HSOL.out];exact hsx
     have hSn:=hS.set (i:=q) (x:=atM Mr q n) (Nat.le_trans hb.out.size hw1.out) (by constructor <;> omega)
     rw [mixL_set hsl.out (List.length_replicate ..) hlt2 hsx2] at hSn
     have HSN:=hide hSn.drew
     obtain ⟨k1,hk1,hlk⟩:∃ k1,k1=n+1∧n<k1:=⟨_,rfl,Nat.lt_succ_self n⟩
     rw [← hk1] at r1 r3
     clear hpc0 hpx hpr hsx hsx2 hSn hS HS r2 e2 e3 e4 hk1
     go_wp2_with fail
     refine still_tail 13 (by kernel_rfl) (by kernel_rfl) ?_
     simp only [List.take_succ_cons,List.take_zero,List.drop_succ_cons,List.drop_zero]
     repeat still_step
     refine wpStill_nil ?_
     go_wp2_with fail
     go_roundw
     case rel=>exact ⟨q+1,by omega,by go_num,HSN.out⟩
     case measure=>simp [intOf];omega
    ·obtain rfl:n=q:=by omega
     rw [mixL_all hsl.out (List.length_replicate ..)] at hS
     have hbw:=hb.out.trans hS.mat.low
     have hge:=Nat.le_trans hb.out.size hw1.out
     have hO:=hS.out.wide (lo':=w.heap.size) (hi':=wr.heap.size) hge (by obtain ⟨_,e,_,_,h3⟩:=hS.out.form hn;injection e with e;injection e with e;subst e;exact h3)
     rw [HS0.out] at hO
     clear hS HS
     have HO:=hide hO
     clear hO
     go_wp2_with fail
     refine bodyPost_ret (v := .tuple #[.slice (some ⟨w1.heap.size,0,none⟩) n n,.bool true]) (by simp [results,Tryz.results87,go_sem]) rfl ⟨_,_,rfl,HO.out,hbw⟩
end Go.Proofs.YtomgcbfcnjbofaaGreat
