/- Conjugate pairs: the reference's choice of all stages. -/
import Derived.Test.YtomgcbfcnjbofaaGreatMgD
import Derived.Test.YtomgcbfcnjbofaaGreatMgC
import Derived.Test.YtomgcbfcnjbofaaGreatMgA
namespace Go.Proofs.YtomgcbfcnjbofaaGreat
open Go.RowKit
open List renaming setIfInBounds_toArray → sTA, set_cons_zero → sC0, set_cons_succ → sC1
set_option linter.unusedSimpArgs false
set_option linter.unusedVariables false
set_option maxRecDepth 20000
theorem step_app1I {o:Oper} {a:Act} {K:Act→World→Prop} {Q:Exit→Act→World→Prop} (s x:Operand) (ho:o.op = .call { callee := .builtin .append,args := #[s,x],argTypes := #[24,24] }) (w0:World)
  (base:Nat) (A:Option Addr) (n c d:Nat) (xs:List Value) (y:Int) (hs:a.eval s = .slice A n c) (hx:a.eval x = .slice (some ⟨w0.heap.size,0,none⟩) 1 d) (hown:w0.ownsRow base 3 1 (.slice A n c) n xs) (hn:n+1≤1099511627776) (hbase:base≤w0.heap.size)
  (h:∀ A' c' w',Appended w0 base 3 1 A n c A' (n+1) c' (xs++[.int .i64 y]) w'→K (a.put o.dst (.slice A' (n+1) c')) w'):Oper.wp Tryz.prog o a (w0.alloc (.cells #[.int .i64 y] 3)) K Q:=by
 obtain ⟨i0,hi0,hz0,hz1,hz2⟩:=info_parts info_int
 obtain ⟨A',c',w',hrun,h2,_⟩:=run_app1 (P:=Tryz.prog) w0 base 24 o.type 3 i0 (.int .i64 0) 1 8 Tryz.underlying24 hi0 hz0 hz1 hz2 rfl (by omega) A n c xs hown #[.int .i64 y] d rfl (by simp [Value.oneCell']) hn (by omega) hbase
 unfold Oper.wp
 simp [execOp,ho,resolve,invoke,builtin,hs,hx,hrun,Result.andThen]
 exact h A' c' w' h2
theorem grown_blk {w w':World} {row:Option Nat} {g:Nat} {vs:Array Value} (h:BlkN w g vs) (hg:w.grownBy w' row) (hne:row≠some g):BlkN w' g vs:=h.same (hg.block g h.lt (fun e=>hne e.symm))
theorem grown_cell {w w':World} {row:Option Nat} {p:Addr} {v:Value} (h:w.cell? p=some v) (hg:w.grownBy w' row) (hne:row≠some p.block):w'.cell? p=some v:=hg.cell h (fun e=>hne e.symm)
theorem grown_drew (w:World) (row:Option Nat):w.grownBy w.drew row:=⟨rfl,rfl,rfl,Nat.le_refl _,fun _ _ _=>rfl⟩
theorem ownB_ne {A:Option Addr} {n c g:Nat} (h:∀ ad,A=some ad→ad.block≠g):Value.ownBlock (.slice A n c)≠some g:=by
 cases A with
 | none=>simp [Value.ownBlock]
 | some ad=>simp only [Value.ownBlock];exact fun e=>h ad rfl (by injection e)
theorem keep_ne {A B:Option Addr} {n c m d:Nat} (h:∀ ad ae,A=some ad→B=some ae→ad.block≠ae.block):Value.ownBlock (.slice B m d)=none∨Value.ownBlock (.slice B m d)≠Value.ownBlock (.slice A n c):=by
 cases B with
 | none=>exact .inl rfl
 | some ae =>
  cases A with
  | none=>exact .inr (by simp [Value.ownBlock])
  | some ad=>exact .inr (by simp only [Value.ownBlock];intro e;injection e with e;exact h ad ae rfl rfl e.symm)
theorem own_geL {w:World} {base e size:Nat} {A:Option Addr} {n c:Nat} {xs:List Value} (h:w.ownsRow base e size (.slice A n c) n xs) {b:Nat} (hb:b≤base):∀ q,Value.ownBlock (.slice A n c)=some q→b≤q:=by
 intro q hq
 cases A with
 | none=>simp [Value.ownBlock] at hq
 | some ad =>
  simp only [Value.ownBlock] at hq
  injection hq with hq
  subst hq
  exact Nat.le_trans hb (owns_lt h ad rfl).1
theorem take_snocI {xs:List Int} {k:Nat} {x:Int} (h:xs[k]? = some x):(xs.take (k+1)).map (Value.int .i64)=(xs.take k).map (Value.int .i64)++[.int .i64 x]:=by
 rw [List.take_add_one,h];simp
theorem app_ne {w0:World} {base e size:Nat} {A:Option Addr} {n c:Nat} {A':Option Addr} {m c':Nat} {xs:List Value} {w':World} (h:Appended w0 base e size A n c A' m c' xs w') {g:Nat} (hg:g<w0.heap.size) (hne:∀ ad,A=some ad→ad.block≠g):∀ ad,A'=some ad→ad.block≠g:=by
 intro ad e1
 rcases h.2.2 with h1 | h1
 ·exact hne ad (h1 ad e1)
 ·have:=h1 ad e1
  omega
def idL (k:Nat):List Int:=(List.range k).map fun i:Nat=>(i:Int)
theorem idL_at {k i:Nat} (h:i<k):(idL k)[i]? = some (i:Int):=by simp [idL,h]
set_option maxRecDepth 100000 in
set_option maxHeartbeats 4000000 in
theorem spec_l6Choose (k:Nat) (A:Option Addr) (n c:Nat) (xs:List Int) (B:Option Addr) (d:Nat) (ys:List Int) (L:Option Addr) (lc:Nat) (hi hi2:Nat) (w:World) (h:Ints w 0 hi A n c xs) (g:Ints w 0 hi B k d ys) (l:Ints w 0 hi2 L k lc (idL k)) (hh:hi≤w.heap.size) (hh2:hi2≤w.heap.size) (hk:k≤8) (hn:n=k*k) :
  Calls Tryz.prog 29 #[.agg #[.int .i64 (k:Int),.slice A n c,.slice B k d],.slice L k lc] w fun e w'=>∃ A' c' B' d',e = .returned (.agg #[.int .i64 (k:Int),.slice A' n c',.slice B' k d'])∧OwnI w' w.heap.size w'.heap.size A' n c' xs∧OwnI w' w.heap.size w'.heap.size B' k d' ys∧Below w.heap.size w w':=by
 have hcp:=h.cap
 have hmx:=h.max
 have gcp:=g.cap
 have gmx:=g.max
 have lcp:=l.cap
 have lmx:=l.max
 have h64:n≤64:=by rw [hn];exact Nat.mul_le_mul hk hk
 have hnH:=hide hn
 clear hn
 have hlx:=hide h.len
 have hly:=hide g.len
 go_enter Tryz.func29,Tryz.ntmps29
 go_wp2_with fail
 have a1:=below_alloc w (.cells #[.int .i64 (k:Int),.slice A n c,.slice B k d] 26)
 have j0:=BlkN.new w #[.int .i64 (k:Int),.slice A n c,.slice B k d] 26
 have z1:(w.alloc (.cells #[.int .i64 (k:Int),.slice A n c,.slice B k d] 26)).heap.size=w.heap.size+1:=by simp
 generalize w.alloc (.cells #[.int .i64 (k:Int),.slice A n c,.slice B k d] 26)=w1 at a1 j0 z1 ⊢
 have a2:=below_alloc w1 (.cells #[.int .i64 0,.slice none 0 0,.slice none 0 0] 26)
 have j0a:=j0.below a2
 have j1:=BlkN.new w1 #[.int .i64 0,.slice none 0 0,.slice none 0 0] 26
 rw [z1] at j1
 have z2:(w1.alloc (.cells #[.int .i64 0,.slice none 0 0,.slice none 0 0] 26)).heap.size=w.heap.size+1+1:=by simp;omega
 generalize w1.alloc (.cells #[.int .i64 0,.slice none 0 0,.slice none 0 0] 26)=w2 at a2 j0a j1 z2 ⊢
 have a3:=below_alloc w2 (.cells #[.int .i64 (k:Int),.slice none 0 0,.slice none 0 0] 26)
 have j0b:=j0a.below a3
 have j1b:=j1.below a3
 have j2:=BlkN.new w2 #[.int .i64 (k:Int),.slice none 0 0,.slice none 0 0] 26
 rw [z2] at j2
 have z3:(w2.alloc (.cells #[.int .i64 (k:Int),.slice none 0 0,.slice none 0 0] 26)).heap.size=w.heap.size+1+1+1:=by simp;omega
 have bW:Below w.heap.size w (w2.alloc (.cells #[.int .i64 (k:Int),.slice none 0 0,.slice none 0 0] 26)):=(a1.trans (a2.mono (by omega))).trans (a3.mono (by omega))
 generalize w2.alloc (.cells #[.int .i64 (k:Int),.slice none 0 0,.slice none 0 0] 26)=W at a3 j0b j1b j2 z3 bW ⊢
 have zW:w.heap.size+3≤W.heap.size:=by omega
 clear a1 a2 a3 j0 j0a j1 z1 z2 z3
 go_loopw [6,7] (fun i _ wr=>∃ (a:Nat) (A':Option Addr) (c':Nat) (B':Option Addr) (d':Nat),a≤k∧i = .int .i64 a∧BlkN wr w.heap.size #[.int .i64 (k:Int),.slice A n c,.slice B k d]∧BlkN wr (w.heap.size+1) #[.int .i64 0,.slice none 0 0,.slice none 0 0]∧BlkN wr (w.heap.size+1+1) #[.int .i64 (k:Int),.slice A' (a*k) c',.slice B' a d'] ∧
   wr.ownsRow (w.heap.size+3) 3 1 (.slice A' (a*k) c') (a*k) ((xs.take (a*k)).map (Value.int .i64))∧wr.ownsRow (w.heap.size+3) 3 1 (.slice B' a d') a ((ys.take a).map (Value.int .i64))∧(∀ ad ae,A'=some ad→B'=some ae→ad.block≠ae.block)∧Below w.heap.size w wr∧Hid (w.heap.size+3≤wr.heap.size))
  (fun i _ _=>k - (intOf i).toNat)
 case atStart=>exact ⟨0,none,0,none,0,by omega,rfl,j0b,j1b,by simpa using j2,by simpa using World.ownsRow_nil _ _ _ _,by simpa using World.ownsRow_nil _ _ _ _,(by intro ad ae e;cases e),bW,zW⟩
 case round =>
  clear j0b j1b j2 bW zW
  obtain ⟨a,A',c',B',d',ha,rfl,m0,m1,m2,hA,hB,hAB,hb,hzr⟩:=hrel
  have hz3:=hzr.out
  by_cases hlt:a<k
  ·obtain ⟨p0,hp0⟩:∃ p0:Nat,p0=a*k:=⟨_,rfl⟩
   have hp0H:=hide hp0
   have hpb:p0+k≤n:=by
    rw [hp0,hnH.out]
    have:(a+1)*k≤k*k:=Nat.mul_le_mul_right _ hlt
    rwa [Nat.add_mul,Nat.one_mul] at this
   have hpi:(a:Int)*(k:Int)=(p0:Int):=by rw [hp0];simp
   have w1a:=IntWalk.i64_in (p0:Int) (by omega)
   rw [← hp0] at m2 hA
   clear hp0
   go_wp2_with fail
   go_loopw [7] (fun j wr=>∃ (b:Nat) (A':Option Addr) (c':Nat),b≤k∧j = .int .i64 b∧BlkN wr w.heap.size #[.int .i64 (k:Int),.slice A n c,.slice B k d]∧BlkN wr (w.heap.size+1) #[.int .i64 0,.slice none 0 0,.slice none 0 0]∧BlkN wr (w.heap.size+1+1) #[.int .i64 (k:Int),.slice A' (p0+b) c',.slice B' a d'] ∧
     wr.ownsRow (w.heap.size+3) 3 1 (.slice A' (p0+b) c') (p0+b) ((xs.take (p0+b)).map (Value.int .i64))∧wr.ownsRow (w.heap.size+3) 3 1 (.slice B' a d') a ((ys.take a).map (Value.int .i64))∧(∀ ad ae,A'=some ad→B'=some ae→ad.block≠ae.block)∧Below w.heap.size w wr∧Hid (w.heap.size+3≤wr.heap.size))
    (fun j _=>k - (intOf j).toNat)
   case atStart=>exact ⟨0,A',c',by omega,rfl,m0,m1,m2,hA,hB,hAB,hb,hzr⟩
   case round =>
    clear m0 m1 m2 hA hB hAB hb hzr hz3
    clear A' c'
    obtain ⟨b,A',c',hb8,rfl,m0,m1,m2,hA,hB,hAB,hb,hzr⟩:=hrel
    have hz3:=hzr.out
    by_cases hlt2:b<k
    ·obtain ⟨la,va,rfl,hla,_,_,hva⟩:=(l.below hb hh2).at_ hlt
     obtain rfl:va=(a:Int):=by have:=hva.out;rw [idL_at hlt] at this;injection this with this;exact this.symm
     obtain ⟨lb,vb,hlb0,hlb,_,_,hvb⟩:=(l.below hb hh2).at_ hlt2
     obtain rfl:la=lb:=by injection hlb0
     obtain rfl:vb=(b:Int):=by have:=hvb.out;rw [idL_at hlt2] at this;injection this with this;exact this.symm
     obtain ⟨ax,x,rfl,hcx,_,_,hx⟩:=(h.below hb hh).at_ (k:=p0+b) (by omega)
     have hxH:=hide hx.out
     have bl1:la.block<w.heap.size:=by
      obtain ⟨q,e,_,hq,_⟩:=l.cells (by omega)
      injection e with e;subst e;omega
     have bx1:ax.block<w.heap.size:=by
      obtain ⟨q,e,_,hq,_⟩:=h.cells (by omega)
      injection e with e;subst e;omega
     have hfar:∀ g,g<w.heap.size+3→∀ ad,A'=some ad→ad.block≠g:=fun g hg ad e=>by have:=(owns_lt hA ad e).1;omega
     have w2a:=IntWalk.i64_in ((p0:Int)+(b:Int)) (by omega)
     have l1:(p0:Int)+(b:Int)<(n:Int):=by omega
     have l0:(0:Int)≤(p0:Int)+(b:Int):=by omega
     have e1:((p0:Int)+(b:Int)).toNat=p0+b:=by omega
     have ob0:Value.ownBlock (.slice A' (p0+b) c')≠some w.heap.size:=ownB_ne (hfar _ (by omega))
     have ob2:Value.ownBlock (.slice A' (p0+b) c')≠some (w.heap.size+1+1):=ownB_ne (hfar _ (by omega))
     have obl:∀ j,Value.ownBlock (.slice A' (p0+b) c')≠some (la.add j).block:=fun j=>ownB_ne (hfar _ (by rw [block_of_add];omega))
     have obx:∀ j,Value.ownBlock (.slice A' (p0+b) c')≠some (ax.add j).block:=fun j=>ownB_ne (hfar _ (by rw [block_of_add];omega))
     clear hlb0 hva hvb hx
     go_wp2_with fail
     have hS0:wr.grownBy wr.drew (Value.ownBlock (.slice A' (p0+b) c')):=grown_drew _ _
     refine wp_region_Z (fun w'=>wr.grownBy w' (Value.ownBlock (.slice A' (p0+b) c'))) 21 (by kernel_rfl) ?_
     refine wpAnyZ_takeW 0 (.pointer (some ⟨w.heap.size+1+1,1,none⟩)) rfl (by kernel_rfl) (by kernel_rfl) (fun _ _ _ h=>h) (by rfl) (fun _=>by go_simp) hS0 ?_
     try simp only [Act.put,sTA,sC0,sC1]
     refine wpAnyZ_take 1 (.slice A' (p0+b) c') rfl (by kernel_rfl) (by kernel_rfl) (fun _ _ _ h=>h) (by rfl) (fun _ hS=>by have q0:=(grown_blk m2 hS ob2).c 1 rfl;clear hS;go_simp) hS0 ?_
     try simp only [Act.put,sTA,sC0,sC1]
     refine wpAnyZ_takeW 2 (.pointer (some ⟨w.heap.size,1,none⟩)) rfl (by kernel_rfl) (by kernel_rfl) (fun _ _ _ h=>h) (by rfl) (fun _=>by go_simp) hS0 ?_
     try simp only [Act.put,sTA,sC0,sC1]
     refine wpAnyZ_take 3 (.slice (some ax) n c) rfl (by kernel_rfl) (by kernel_rfl) (fun _ _ _ h=>h) (by rfl) (fun _ hS=>by have q0:=(grown_blk m0 hS ob0).c 1 rfl;clear hS;go_simp) hS0 ?_
     try simp only [Act.put,sTA,sC0,sC1]
     refine wpAnyZ_takeW 4 (.slice (some la) k lc) rfl (by kernel_rfl) (by kernel_rfl) (fun _ _ _ h=>h) (by rfl) (fun _=>by go_simp) hS0 ?_
     try simp only [Act.put,sTA,sC0,sC1]
     refine wpAnyZ_takeW 5 (.int .i64 (a:Int)) rfl (by kernel_rfl) (by kernel_rfl) (fun _ _ _ h=>h) (by rfl) (fun _=>by go_simp) hS0 ?_
     try simp only [Act.put,sTA,sC0,sC1]
     refine wpAnyZ_takeW 6 (.pointer (some (la.add a))) rfl (by kernel_rfl) (by kernel_rfl) (fun _ _ _ h=>h) (by rfl) (fun _=>by go_simp) hS0 ?_
     try simp only [Act.put,sTA,sC0,sC1]
     refine wpAnyZ_take 7 (.int .i64 (a:Int)) rfl (by kernel_rfl) (by kernel_rfl) (fun _ _ _ h=>h) (by rfl) (fun _ hS=>by have q0:=grown_cell hla hS (obl a);clear hS;go_simp) hS0 ?_
     try simp only [Act.put,sTA,sC0,sC1]
     refine wpAnyZ_takeW 8 (.pointer (some ⟨w.heap.size,0,none⟩)) rfl (by kernel_rfl) (by kernel_rfl) (fun _ _ _ h=>h) (by rfl) (fun _=>by go_simp) hS0 ?_
     try simp only [Act.put,sTA,sC0,sC1]
     refine wpAnyZ_take 9 (.int .i64 (k:Int)) rfl (by kernel_rfl) (by kernel_rfl) (fun _ _ _ h=>h) (by rfl) (fun _ hS=>by have q0:=(grown_blk m0 hS ob0).c 0 rfl;clear hS;go_simp) hS0 ?_
     try simp only [Act.put,sTA,sC0,sC1]
     refine wpAnyZ_takeW 10 (.int .i64 (p0:Int)) rfl (by kernel_rfl) (by kernel_rfl) (fun _ _ _ h=>h) (by rfl) (fun _=>by go_simp) hS0 ?_
     try simp only [Act.put,sTA,sC0,sC1]
     refine wpAnyZ_takeW 11 (.slice (some la) k lc) rfl (by kernel_rfl) (by kernel_rfl) (fun _ _ _ h=>h) (by rfl) (fun _=>by go_simp) hS0 ?_
     try simp only [Act.put,sTA,sC0,sC1]
     refine wpAnyZ_takeW 12 (.int .i64 (b:Int)) rfl (by kernel_rfl) (by kernel_rfl) (fun _ _ _ h=>h) (by rfl) (fun _=>by go_simp) hS0 ?_
     try simp only [Act.put,sTA,sC0,sC1]
     refine wpAnyZ_takeW 13 (.pointer (some (la.add b))) rfl (by kernel_rfl) (by kernel_rfl) (fun _ _ _ h=>h) (by rfl) (fun _=>by go_simp) hS0 ?_
     try simp only [Act.put,sTA,sC0,sC1]
     refine wpAnyZ_take 14 (.int .i64 (b:Int)) rfl (by kernel_rfl) (by kernel_rfl) (fun _ _ _ h=>h) (by rfl) (fun _ hS=>by have q0:=grown_cell hlb hS (obl b);clear hS;go_simp) hS0 ?_
     try simp only [Act.put,sTA,sC0,sC1]
     refine wpAnyZ_takeW 15 (.int .i64 ((p0:Int)+(b:Int))) rfl (by kernel_rfl) (by kernel_rfl) (fun _ _ _ h=>h) (by rfl) (fun _=>by go_simp) hS0 ?_
     try simp only [Act.put,sTA,sC0,sC1]
     refine wpAnyZ_takeW 16 (.pointer (some (ax.add (p0+b)))) rfl (by kernel_rfl) (by kernel_rfl) (fun _ _ _ h=>h) (by rfl) (fun _=>by go_simp) hS0 ?_
     try simp only [Act.put,sTA,sC0,sC1]
     refine wpAnyZ_take 17 (.int .i64 x) rfl (by kernel_rfl) (by kernel_rfl) (fun _ _ _ h=>h) (by rfl) (fun _ hS=>by have q0:=grown_cell hcx hS (obx (p0+b));clear hS;go_simp) hS0 ?_
     try simp only [Act.put,sTA,sC0,sC1]
     refine wpAnyZ_one 18 (by kernel_rfl) rfl (by rfl) (fun K hK=>?_)
     go_simp
     have hS1:wr.grownBy ((wr.alloc (.cells #[.int .i64 x] 3)).drew) (Value.ownBlock (.slice A' (p0+b) c')):=(grown_drew wr _).trans (World.grownBy_alloc wr.drew _ _)
     refine hK.out _ _ hS1 ?_
     clear hK K
     try simp only [Act.put,sTA,sC0,sC1]
     refine wpAnyZ_one 19 (by kernel_rfl) rfl (by rfl) (fun K hK=>?_)
     have hAd:=owns_same hA (w':=wr.drew) (fun _ _=>rfl)
     refine step_app1I (.tmp 24) (.tmp 41) rfl wr.drew (w.heap.size+3) A' (p0+b) c' 1 _ x rfl rfl hAd (by omega) hz3 ?_
     intro A2 c2 w2 happ
     have hS2:wr.grownBy w2 (Value.ownBlock (.slice A' (p0+b) c')):=(grown_drew wr _).trans happ.2.1
     refine hK.out _ _ hS2 ?_
     clear hK K
     try simp only [Act.put,sTA,sC0,sC1]
     refine wpAnyZ_takeW 20 (.pointer (some ⟨w.heap.size+1+1,1,none⟩)) rfl (by kernel_rfl) (by kernel_rfl) (fun _ _ _ h=>h) (by rfl) (fun _=>by go_simp) hS2 ?_
     try simp only [Act.put,sTA,sC0,sC1]
     have u2:=grown_blk m2 hS2 ob2
     have u0:=grown_blk m0 hS2 ob0
     have u1:=grown_blk m1 hS2 (ownB_ne (hfar _ (by omega)))
     have hneA:∀ g,g<w.heap.size+3→∀ ad,A2=some ad→ad.block≠g:=fun g hg=>app_ne happ (show g<wr.heap.size by omega) (hfar g hg)
     have hBn:=hB.kept hS2 (keep_ne hAB)
     have hABn:∀ ad ae,A2=some ad→B'=some ae→ad.block≠ae.block:=fun ad ae e1 e2=>app_ne happ (show ae.block<wr.heap.size from (owns_lt hB ae e2).2) (fun ad' e3=>hAB ad' ae e3 e2) ad e1
     have hbn:Below w.heap.size w w2:=hb.grown hS2 (by omega) (own_geL hA (by omega))
     have v2:=u2.set 1 (.slice A2 (p0+b+1) c2)
     simp only [sTA,sC0,sC1] at v2
     have v0:=u0.far (b:=w.heap.size+1+1) (i:=1) (by omega) (.slice A2 (p0+b+1) c2)
     have v1:=u1.far (b:=w.heap.size+1+1) (i:=1) (by omega) (.slice A2 (p0+b+1) c2)
     have hA4:=owns_setCell happ.1 (p:=⟨w.heap.size+1+1,1,none⟩) (hneA _ (by show w.heap.size+1+1<_;omega)) (.slice A2 (p0+b+1) c2)
     have hB4:=owns_setCell hBn (p:=⟨w.heap.size+1+1,1,none⟩) (fun ad e=>by have:=(owns_lt hB ad e).1;show ad.block≠w.heap.size+1+1;omega) (.slice A2 (p0+b+1) c2)
     have hb4:=hbn.setCell (p:=⟨w.heap.size+1+1,1,none⟩) (by show w.heap.size≤w.heap.size+1+1;omega) (.slice A2 (p0+b+1) c2)
     have hz4:Hid (w.heap.size+3≤(w2.setCell ⟨w.heap.size+1+1,1,none⟩ (.slice A2 (p0+b+1) c2)).heap.size):=by show _≤_;have:=hS2.size;simp [World.setCell];omega
     have HS:=hide (And.intro v0 (And.intro v1 (And.intro v2 (And.intro hA4 (And.intro hB4 (And.intro hABn (And.intro hb4 hz4)))))))
     have r1:=u2.c 1 rfl
     have r2:=u2.f 1
     have r3:=u2.lt
     clear u0 u1 v0 v1 v2 hA4 hB4 hABn hb4 hz4 hBn hbn hneA happ hAd hA hB hAB hb m0 m1 m2 hS0 hS1 hS2
     refine wpAnyZ_last (by kernel_rfl) rfl (by kernel_rfl) (by rfl) (fun K hK=>?_)
     go_simp
     refine hK _ _ ?_
     clear hK K u2 r1 r2 r3
     go_wp2_with fail
     go_roundw
     case rel=>exact ⟨b+1,A2,c2,by omega,by go_num,HS.out.1,HS.out.2.1,HS.out.2.2.1,by rw [show p0+(b+1)=p0+b+1 by omega,take_snocI hxH.out];exact HS.out.2.2.2.1,HS.out.2.2.2.2.1,HS.out.2.2.2.2.2.1,HS.out.2.2.2.2.2.2.1,HS.out.2.2.2.2.2.2.2⟩
     case measure=>simp [intOf];omega
    ·obtain rfl:b=k:=by omega
     obtain ⟨la,va,rfl,hla,_,_,hva⟩:=(l.below hb hh2).at_ hlt
     obtain rfl:va=(a:Int):=by have:=hva.out;rw [idL_at hlt] at this;injection this with this;exact this.symm
     obtain ⟨ay,y,rfl,hcy,_,_,hy⟩:=(g.below hb hh).at_ hlt
     have hyH:=hide hy.out
     have bl1:la.block<w.heap.size:=by
      obtain ⟨q,e,_,hq,_⟩:=l.cells (by omega)
      injection e with e;subst e;omega
     have by1:ay.block<w.heap.size:=by
      obtain ⟨q,e,_,hq,_⟩:=g.cells (by omega)
      injection e with e;subst e;omega
     have hfar:∀ g,g<w.heap.size+3→∀ ad,B'=some ad→ad.block≠g:=fun g hg ad e=>by have:=(owns_lt hB ad e).1;omega
     have ob0:Value.ownBlock (.slice B' a d')≠some w.heap.size:=ownB_ne (hfar _ (by omega))
     have ob2:Value.ownBlock (.slice B' a d')≠some (w.heap.size+1+1):=ownB_ne (hfar _ (by omega))
     have obl:∀ j,Value.ownBlock (.slice B' a d')≠some (la.add j).block:=fun j=>ownB_ne (hfar _ (by rw [block_of_add];omega))
     have oby:∀ j,Value.ownBlock (.slice B' a d')≠some (ay.add j).block:=fun j=>ownB_ne (hfar _ (by rw [block_of_add];omega))
     have ha1:Hid ((a+1)*b=p0+b):=by show _=_;rw [Nat.add_mul,Nat.one_mul,hp0H.out]
     have hlt3:=hlt
     clear hva hy
     go_wp2_with fail
     have hS0:wr.grownBy wr.drew (Value.ownBlock (.slice B' a d')):=grown_drew _ _
     refine wp_region_Z (fun w'=>wr.grownBy w' (Value.ownBlock (.slice B' a d'))) 13 (by kernel_rfl) ?_
     refine wpAnyZ_takeW 0 (.pointer (some ⟨w.heap.size+1+1,2,none⟩)) rfl (by kernel_rfl) (by kernel_rfl) (fun _ _ _ h=>h) (by rfl) (fun _=>by go_simp) hS0 ?_
     try simp only [Act.put,sTA,sC0,sC1]
     refine wpAnyZ_take 1 (.slice B' a d') rfl (by kernel_rfl) (by kernel_rfl) (fun _ _ _ h=>h) (by rfl) (fun _ hS=>by have q0:=(grown_blk m2 hS ob2).c 2 rfl;clear hS;go_simp) hS0 ?_
     try simp only [Act.put,sTA,sC0,sC1]
     refine wpAnyZ_takeW 2 (.pointer (some ⟨w.heap.size,2,none⟩)) rfl (by kernel_rfl) (by kernel_rfl) (fun _ _ _ h=>h) (by rfl) (fun _=>by go_simp) hS0 ?_
     try simp only [Act.put,sTA,sC0,sC1]
     refine wpAnyZ_take 3 (.slice (some ay) b d) rfl (by kernel_rfl) (by kernel_rfl) (fun _ _ _ h=>h) (by rfl) (fun _ hS=>by have q0:=(grown_blk m0 hS ob0).c 2 rfl;clear hS;go_simp) hS0 ?_
     try simp only [Act.put,sTA,sC0,sC1]
     refine wpAnyZ_takeW 4 (.slice (some la) b lc) rfl (by kernel_rfl) (by kernel_rfl) (fun _ _ _ h=>h) (by rfl) (fun _=>by go_simp) hS0 ?_
     try simp only [Act.put,sTA,sC0,sC1]
     refine wpAnyZ_takeW 5 (.int .i64 (a:Int)) rfl (by kernel_rfl) (by kernel_rfl) (fun _ _ _ h=>h) (by rfl) (fun _=>by go_simp) hS0 ?_
     try simp only [Act.put,sTA,sC0,sC1]
     refine wpAnyZ_takeW 6 (.pointer (some (la.add a))) rfl (by kernel_rfl) (by kernel_rfl) (fun _ _ _ h=>h) (by rfl) (fun _=>by go_simp) hS0 ?_
     try simp only [Act.put,sTA,sC0,sC1]
     refine wpAnyZ_take 7 (.int .i64 (a:Int)) rfl (by kernel_rfl) (by kernel_rfl) (fun _ _ _ h=>h) (by rfl) (fun _ hS=>by have q0:=grown_cell hla hS (obl a);clear hS;go_simp) hS0 ?_
     try simp only [Act.put,sTA,sC0,sC1]
     refine wpAnyZ_takeW 8 (.pointer (some (ay.add a))) rfl (by kernel_rfl) (by kernel_rfl) (fun _ _ _ h=>h) (by rfl) (fun _=>by go_simp) hS0 ?_
     try simp only [Act.put,sTA,sC0,sC1]
     refine wpAnyZ_take 9 (.int .i64 y) rfl (by kernel_rfl) (by kernel_rfl) (fun _ _ _ h=>h) (by rfl) (fun _ hS=>by have q0:=grown_cell hcy hS (oby a);clear hS;go_simp) hS0 ?_
     try simp only [Act.put,sTA,sC0,sC1]
     refine wpAnyZ_one 10 (by kernel_rfl) rfl (by rfl) (fun K hK=>?_)
     go_simp
     have hS1:wr.grownBy ((wr.alloc (.cells #[.int .i64 y] 3)).drew) (Value.ownBlock (.slice B' a d')):=(grown_drew wr _).trans (World.grownBy_alloc wr.drew _ _)
     refine hK.out _ _ hS1 ?_
     clear hK K
     try simp only [Act.put,sTA,sC0,sC1]
     refine wpAnyZ_one 11 (by kernel_rfl) rfl (by rfl) (fun K hK=>?_)
     have hBd:=owns_same hB (w':=wr.drew) (fun _ _=>rfl)
     refine step_app1I (.tmp 45) (.tmp 54) rfl wr.drew (w.heap.size+3) B' a d' 1 _ y rfl rfl hBd (by omega) hz3 ?_
     intro B2 d2 w2 happ
     have hS2:wr.grownBy w2 (Value.ownBlock (.slice B' a d')):=(grown_drew wr _).trans happ.2.1
     refine hK.out _ _ hS2 ?_
     clear hK K
     try simp only [Act.put,sTA,sC0,sC1]
     refine wpAnyZ_takeW 12 (.pointer (some ⟨w.heap.size+1+1,2,none⟩)) rfl (by kernel_rfl) (by kernel_rfl) (fun _ _ _ h=>h) (by rfl) (fun _=>by go_simp) hS2 ?_
     try simp only [Act.put,sTA,sC0,sC1]
     have u2:=grown_blk m2 hS2 ob2
     have u0:=grown_blk m0 hS2 ob0
     have u1:=grown_blk m1 hS2 (ownB_ne (hfar _ (by omega)))
     have hneB:∀ g,g<w.heap.size+3→∀ ad,B2=some ad→ad.block≠g:=fun g hg=>app_ne happ (show g<wr.heap.size by omega) (hfar g hg)
     have hAn:=hA.kept hS2 (keep_ne (fun ae ad e1 e2=>(hAB ad ae e2 e1).symm))
     have hABn:∀ ad ae,A'=some ad→B2=some ae→ad.block≠ae.block:=fun ad ae e1 e2=>fun e=>app_ne happ (show ad.block<wr.heap.size from (owns_lt hA ad e1).2) (fun ae' e3 e4=>hAB ad ae' e1 e3 e4.symm) ae e2 e.symm
     have hbn:Below w.heap.size w w2:=hb.grown hS2 (by omega) (own_geL hB (by omega))
     have v2:=u2.set 2 (.slice B2 (a+1) d2)
     simp only [sTA,sC0,sC1] at v2
     have v0:=u0.far (b:=w.heap.size+1+1) (i:=2) (by omega) (.slice B2 (a+1) d2)
     have v1:=u1.far (b:=w.heap.size+1+1) (i:=2) (by omega) (.slice B2 (a+1) d2)
     have hB4:=owns_setCell happ.1 (p:=⟨w.heap.size+1+1,2,none⟩) (hneB _ (by show w.heap.size+1+1<_;omega)) (.slice B2 (a+1) d2)
     have hA4:=owns_setCell hAn (p:=⟨w.heap.size+1+1,2,none⟩) (fun ad e=>by have:=(owns_lt hA ad e).1;show ad.block≠w.heap.size+1+1;omega) (.slice B2 (a+1) d2)
     have hb4:=hbn.setCell (p:=⟨w.heap.size+1+1,2,none⟩) (by show w.heap.size≤w.heap.size+1+1;omega) (.slice B2 (a+1) d2)
     have hz4:Hid (w.heap.size+3≤(w2.setCell ⟨w.heap.size+1+1,2,none⟩ (.slice B2 (a+1) d2)).heap.size):=by show _≤_;have:=hS2.size;simp [World.setCell];omega
     have HS:=hide (And.intro v0 (And.intro v1 (And.intro v2 (And.intro hA4 (And.intro hB4 (And.intro hABn (And.intro hb4 hz4)))))))
     have r1:=u2.c 2 rfl
     have r2:=u2.f 2
     have r3:=u2.lt
     clear u0 u1 v0 v1 v2 hA4 hB4 hABn hb4 hz4 hAn hbn hneB happ hBd hA hB hAB hb m0 m1 m2 hS0 hS1 hS2
     refine wpAnyZ_last (by kernel_rfl) rfl (by kernel_rfl) (by rfl) (fun K hK=>?_)
     go_simp
     refine hK _ _ ?_
     clear hK K u2 r1 r2 r3
     go_wp2_with fail
     go_roundw
     case rel=>exact ⟨a+1,A',c',B2,d2,by omega,by go_num,HS.out.1,HS.out.2.1,by rw [ha1.out];exact HS.out.2.2.1,by rw [ha1.out];exact HS.out.2.2.2.1,by rw [take_snocI hyH.out];exact HS.out.2.2.2.2.1,HS.out.2.2.2.2.2.1,HS.out.2.2.2.2.2.2.1,HS.out.2.2.2.2.2.2.2⟩
     case measure=>simp [intOf];omega
  ·obtain rfl:a=k:=by omega
   have hF:Hid (wr.ownsRow (w.heap.size+3) 3 1 (.slice A' n c') n (xs.map (Value.int .i64))∧wr.ownsRow (w.heap.size+3) 3 1 (.slice B' a d') a (ys.map (Value.int .i64))∧Below w.heap.size w wr):=by
    rw [← hnH.out,List.take_of_length_le (Nat.le_of_eq hlx.out)] at hA
    rw [List.take_of_length_le (Nat.le_of_eq hly.out)] at hB
    exact ⟨hA,hB,hb⟩
   rw [← hnH.out] at m2
   have p0:=m2.c 0 rfl
   have p1:=m2.c 1 rfl
   have p2:=m2.c 2 rfl
   have e0:=m1.c 0 rfl
   have e1:=m1.c 1 rfl
   have e2:=m1.c 2 rfl
   have f0:=m1.f 0
   have f1:=m1.f 1
   have f2:=m1.f 2
   have lt1:=m1.lt
   clear hA hB hAB hb
   go_wp2_with fail
   refine bodyPost_ret (v := .agg #[.int .i64 (a:Int),.slice A' n c',.slice B' a d']) (by simp [results,Tryz.results29,go_sem,e0,e1,e2,lt1]) rfl ⟨A',c',B',d',rfl,⟨owns_same (owns_low hF.out.1 (by omega)) (fun ad e=>?_),fun ad e=>?_,h.rng⟩,⟨owns_same (owns_low hF.out.2.1 (by omega)) (fun ad e=>?_),fun ad e=>?_,g.rng⟩,?_⟩
   ·have:=(owns_lt hF.out.1 ad e).1
    simp [World.setCell,Array.getElem?_modify,show ¬ (w.heap.size+1=ad.block) by omega]
   ·have:=(owns_lt hF.out.1 ad e).2
    simpa [World.setCell] using this
   ·have:=(owns_lt hF.out.2.1 ad e).1
    simp [World.setCell,Array.getElem?_modify,show ¬ (w.heap.size+1=ad.block) by omega]
   ·have:=(owns_lt hF.out.2.1 ad e).2
    simpa [World.setCell] using this
   ·(repeat (first | with_reducible exact hF.out.2.2 | with_reducible exact Below.refl _ _ | with_reducible refine Below.drew ?_ | ((with_reducible refine Below.alloc ?_ ?_ _);rotate_left;· first | omega | (simp [World.setCell];done) | (simp [World.setCell];omega)) | ((with_reducible refine Below.setCell ?_ ?_ _);rotate_left;· first | exact Nat.le_refl _ | omega | (simp;done) | (simp;omega))))
end Go.Proofs.YtomgcbfcnjbofaaGreat
