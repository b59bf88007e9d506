/- What the statements draw out of bytes: a cursor over them, numbers, words, moves: every draw is well formed. -/
import Derived.Test.YtomgcbfcnjbofaaGreatMgB
import Derived.WalkLawsBesides
import Derived.Test.YtomgcbfcnjbofaaGreatMgY
namespace Go.Proofs.YtomgcbfcnjbofaaGreat
open Go.RowKit
set_option linter.unusedSimpArgs false
set_option linter.unusedVariables false
set_option maxRecDepth 20000
structure Bytes (w:World) (lo hi:Nat) (A:Option Addr) (n c:Nat):Prop where
 cap:n≤c
 max:c≤9223372036854775807
 cells:0<n→∃ ad,A=some ad∧lo≤ad.block∧ad.block<hi∧∀ j,j<n→∃ x:Int,w.cell? (ad.add j)=some (.int .u8 x)∧0≤x∧x≤255
section
variable {w w':World} {lo hi:Nat} {A:Option Addr} {n c:Nat}
theorem Bytes.at_ (h:Bytes w lo hi A n c) {k:Nat} (hk:k<n):∃ ad x,A=some ad∧w.cell? (ad.add k)=some (.int .u8 x)∧0≤x∧x≤255:=by
 obtain ⟨ad,e,_,_,hc⟩:=h.cells (by omega)
 obtain ⟨x,h1,h2,h3⟩:=hc k hk
 exact ⟨ad,x,e,h1,h2,h3⟩
theorem Bytes.same (h:Bytes w lo hi A n c) (hs:Same lo hi w w'):Bytes w' lo hi A n c :=
 ⟨h.cap,h.max,fun hn=>by
  obtain ⟨ad,e,h1,h2,hc⟩:=h.cells hn
  refine ⟨ad,e,h1,h2,fun j hj=>?_⟩
  obtain ⟨x,h3,h4⟩:=hc j hj
  exact ⟨x,(hs.cell (by rw [block_of_add];exact h1) (by rw [block_of_add];exact h2)).trans h3,h4⟩⟩
theorem Bytes.below {B:Nat} (h:Bytes w lo hi A n c) (hb:Below B w w') (hB:hi≤B):Bytes w' lo hi A n c:=h.same (.of_below hb hB)
end
def Cur (w:World) (hi g:Nat):Prop:=∃ A n c i h,BlkN w g #[.slice A n c,.int .i64 i,.int .i64 h]∧Bytes w 0 hi A n c∧0≤i∧i≤(n:Int)∧hi≤g
theorem Cur.touch {w w':World} {hi g lo' hi':Nat} (h:Cur w hi g) (ht:Touch lo' hi' w w') (hd:g<lo'∨hi'≤g) (hd2:hi≤lo'):Cur w' hi g:=by
 obtain ⟨A,n,c,i,x,h1,h2,h3,h4,h5⟩:=h
 have:=h1.lt
 exact ⟨A,n,c,i,x,h1.touch ht hd,h2.same (ht.same (.inl hd2) (by omega)),h3,h4,h5⟩
theorem Cur.below {w w':World} {hi g:Nat} (h:Cur w hi g) (hb:Below w.heap.size w w'):Cur w' hi g:=by
 obtain ⟨A,n,c,i,x,h1,h2,h3,h4,h5⟩:=h
 have:=h1.lt
 exact ⟨A,n,c,i,x,h1.below hb,h2.below hb (by omega),h3,h4,h5⟩
theorem Cur.low {w w':World} {hi g B:Nat} (h:Cur w hi g) (hb:Below B w w') (hB:g<B):Cur w' hi g:=by
 obtain ⟨A,n,c,i,x,h1,h2,h3,h4,h5⟩:=h
 exact ⟨A,n,c,i,x,h1.same (hb.block g hB),h2.below hb (by omega),h3,h4,h5⟩
theorem Touch.then_below {lo hi B:Nat} {a b c:World} (h:Touch lo hi a b) (hb:Below B b c) (hB:a.heap.size≤B):Touch lo hi a c :=
 ⟨hb.os.trans h.os,hb.tape.trans h.tape,hb.output.trans h.output,Nat.le_trans h.size hb.size,fun k hk hd=>(hb.block k (by omega)).trans (h.block k hk hd)⟩
theorem Cur.lt {w:World} {hi g:Nat} (h:Cur w hi g):g<w.heap.size∧hi≤g:=by
 obtain ⟨A,n,c,i,x,h1,h2,h3,h4,h5⟩:=h
 exact ⟨h1.lt,h5⟩
theorem and255 (n:Int):0≤bits BinOp.and .i64 n 255∧bits BinOp.and .i64 n 255≤255:=by
 have h:bits BinOp.and .i64 n 255=IntKind.i64.wrap ((BitVec.ofInt 64 n &&& BitVec.ofInt 64 255).toNat:Int):=rfl
 have h2:(BitVec.ofInt 64 n &&& BitVec.ofInt 64 255).toNat≤255:=by
  have e:(BitVec.ofInt 64 (255:Int)).toNat=255:=by simp
  rw [BitVec.toNat_and,e]
  generalize (BitVec.ofInt 64 n).toNat=q
  have hq:=Nat.and_le_right (n:=q) (m:=255)
  omega
 rw [h]
 generalize (BitVec.ofInt 64 n &&& BitVec.ofInt 64 255).toNat=m at h2
 have h3:IntKind.i64.wrap (m:Int)=m:=by
  rw [IntKind.wrap_i64]
  omega
 rw [h3]
 omega
set_option maxHeartbeats 1000000 in
theorem spec_l1Byte (hi g:Nat) (w:World) (h:Cur w hi g) :
  Calls Tryz.prog 71 #[.pointer (some ⟨g,0,none⟩)] w fun e w'=>∃ x:Int,e = .returned (.int .i64 x)∧0≤x∧x≤255∧Cur w' hi g∧Touch g (g+1) w w':=by
 obtain ⟨A,n,c,i,h0,hB,hby,hi0,hi1,hg⟩:=h
 have c0:=hB.c 0 rfl
 have c1:=hB.c 1 rfl
 have c2:=hB.c 2 rfl
 have f1:=hB.f 1
 have f2:=hB.f 2
 go_enter Tryz.func71,Tryz.ntmps71
 go_wp2_with fail
 obtain ⟨h1,hh1⟩:∃ h1:Int,h1=wrap64 (wrap64 (h0*6364136223846793005)+1442695040888963407):=⟨_,rfl⟩
 rw [← hh1]
 clear hh1 c0 c1 c2
 have hB2:=hB.set 2 (.int .i64 h1)
 simp only [List.setIfInBounds_toArray,List.set_cons_zero,List.set_cons_succ] at hB2
 have t2:=(Touch.refl g (g+1) w).setCell (p:=⟨g,2,none⟩) (.inl ⟨Nat.le_refl _,Nat.lt_succ_self _⟩) (.int .i64 h1)
 have glt:=hB.lt
 have hby2:=hby.same (t2.same (.inl hg) (by omega))
 clear hB f1 f2 hby
 generalize w.setCell ⟨g,2,none⟩ (.int .i64 h1)=W at hB2 t2 hby2 ⊢
 have c0:=hB2.c 0 rfl
 have c1:=hB2.c 1 rfl
 have c2:=hB2.c 2 rfl
 go_quiet (fail)
 have hx:=and255 (bits BinOp.xor IntKind.i64 (h1 / 8589934592) (h1 / 35184372088832))
 generalize bits BinOp.and IntKind.i64 (bits BinOp.xor IntKind.i64 (h1 / 8589934592) (h1 / 35184372088832)) 255=x0 at hx ⊢
 obtain ⟨hx0,hx1⟩:=hx
 have hcp:=hby2.cap
 have hmx:=hby2.max
 by_cases hlt:i<(n:Int)
 ·obtain ⟨k,rfl⟩:∃ k:Nat,i=k:=⟨i.toNat,by omega⟩
  obtain ⟨ad,b,rfl,hb,hb0,hb1⟩:=hby2.at_ (k:=k) (by omega)
  go_wp2_with fail
  go_quiet (fail)
  go_wp2_with fail
  go_quiet (fail)
  have hy:=and255 (x0+b)
  generalize bits BinOp.and IntKind.i64 (x0+b) 255=x2 at hy ⊢
  have f1:=hB2.f 1
  have lt2:=hB2.lt
  go_wp2_with fail
  go_ret
  have hB3:=hB2.set 1 (.int .i64 ((k:Int)+1))
  simp only [List.setIfInBounds_toArray,List.set_cons_zero,List.set_cons_succ] at hB3
  have t3:=(Touch.refl g (g+1) W).setCell (p:=⟨g,1,none⟩) (.inl ⟨Nat.le_refl _,Nat.lt_succ_self _⟩) (.int .i64 ((k:Int)+1))
  have hby3:=hby2.same (t3.same (.inl hg) (by omega))
  exact ⟨x2,rfl,hy.1,hy.2,⟨some ad,n,c,(k:Int)+1,h1,hB3.same rfl,hby3.same (fun _ _ _=>rfl),by omega,by omega,hg⟩,(t2.drewN _).setCell (p:=⟨g,1,none⟩) (.inl ⟨Nat.le_refl _,Nat.lt_succ_self _⟩) _⟩
 ·go_wp2_with fail
  go_quiet (fail)
  go_wp2_with fail
  go_ret
  exact ⟨x0,rfl,hx0,hx1,⟨A,n,c,i,h1,hB2.same rfl,hby2.same (fun _ _ _=>rfl),hi0,hi1,hg⟩,(t2.drewN _).drewN _⟩
theorem spec_l1Below (hi g:Nat) (k:Int) (w:World) (h:Cur w hi g) (hk0:0<k) (hk1:k≤1000000271) :
  Calls Tryz.prog 36 #[.pointer (some ⟨g,0,none⟩),.int .i64 k] w fun e w'=>∃ x:Int,e = .returned (.int .i64 x)∧0≤x∧x<k∧Cur w' hi g∧Touch g (g+1) w w':=by
 by_cases h256:k≤256
 ·go_enter Tryz.func36,Tryz.ntmps36
  go_wp2_with fail
  refine (spec_l1Byte hi g w h).mono ?_
  rintro e w1 ⟨x,rfl,hx0,hx1,c1,t1⟩
  have hm:=Int.tmod_eq_emod_of_nonneg (b:=k) hx0
  have hm0:=Int.emod_nonneg x (show k≠0 by omega)
  have hm1:=Int.emod_lt_of_pos x hk0
  go_wp2_with fail
  go_ret
  exact ⟨_,rfl,by omega,by omega,c1,t1⟩
 ·go_enter Tryz.func36,Tryz.ntmps36
  go_wp2_with fail
  refine (spec_l1Byte hi g w h).mono ?_
  rintro e w1 ⟨x,rfl,hx0,hx1,c1,t1⟩
  go_wp2_with fail
  refine (spec_l1Byte hi g w1 c1).mono ?_
  rintro e w2 ⟨y,rfl,hy0,hy1,c2,t2⟩
  go_wp2_with fail
  refine (spec_l1Byte hi g w2 c2).mono ?_
  rintro e w3 ⟨z,rfl,hz0,hz1,c3,t3⟩
  go_wp2_with fail
  refine (spec_l1Byte hi g w3 c3).mono ?_
  rintro e w4 ⟨u,rfl,hu0,hu1,c4,t4⟩
  have hs:0≤x*16777216+y*65536+z*256+u:=by omega
  have hm:=Int.tmod_eq_emod_of_nonneg (b:=k) hs
  have hm0:=Int.emod_nonneg (x*16777216+y*65536+z*256+u) (show k≠0 by omega)
  have hm1:=Int.emod_lt_of_pos (x*16777216+y*65536+z*256+u) hk0
  go_wp2_with fail
  go_ret
  exact ⟨_,rfl,by omega,by omega,c4,((t1.trans t2).trans t3).trans t4⟩
theorem spec_dNum (hi g:Nat) (w:World) (h:Cur w hi g) :
  Calls Tryz.prog 55 #[.pointer (some ⟨g,0,none⟩)] w fun e w'=>∃ x:Int,e = .returned (.int .i64 x)∧0≤x∧x<1000000271∧Cur w' hi g∧Touch g (g+1) w w':=by
 have f12:=fracF_bd 1 2
 go_enter Tryz.func55,Tryz.ntmps55
 go_wp2_with fail
 refine (spec_l1Below hi g 8 w h (by omega) (by omega)).mono ?_
 rintro e w1 ⟨x,rfl,hx0,hx1,c1,t1⟩
 by_cases e0:x=0
 ·subst e0
  go_wp2_with fail
  go_ret
  exact ⟨_,rfl,by omega,by omega,c1,t1⟩
 by_cases e1:x=1
 ·subst e1
  go_wp2_with fail
  go_ret
  exact ⟨_,rfl,by omega,by omega,c1,t1⟩
 by_cases e2:x=2
 ·subst e2
  go_wp2_with fail
  refine (spec_Fraction 1 2 w1 (by constructor <;> omega) (by constructor <;> omega)).mono ?_
  rintro e w2 ⟨rfl,rfl⟩
  go_wp2_with fail
  go_ret
  exact ⟨_,rfl,by omega,by omega,c1,t1⟩
 by_cases e3:x=3
 ·subst e3
  go_wp2_with fail
  refine (spec_l1Below hi g 1000000271 w1 c1 (by omega) (by omega)).mono ?_
  rintro e w2 ⟨y,rfl,hy0,hy1,c2,t2⟩
  go_wp2_with fail
  go_ret
  exact ⟨_,rfl,by omega,by omega,c2,t1.trans t2⟩
 go_wp2_with fail
 refine (spec_l1Below hi g 13 w1 c1 (by omega) (by omega)).mono ?_
 rintro e w2 ⟨y,rfl,hy0,hy1,c2,t2⟩
 go_wp2_with fail
 refine (spec_l1Below hi g 6 w2 c2 (by omega) (by omega)).mono ?_
 rintro e w3 ⟨z,rfl,hz0,hz1,c3,t3⟩
 have fyz:=fracF_bd (y - 6) (1+z)
 go_wp2_with fail
 refine (spec_Fraction (y - 6) (1+z) w3 (by constructor <;> omega) (by constructor <;> omega)).mono ?_
 rintro e w4 ⟨rfl,rfl⟩
 go_wp2_with fail
 go_ret
 exact ⟨_,rfl,by omega,by omega,c3,(t1.trans t2).trans t3⟩
end Go.Proofs.YtomgcbfcnjbofaaGreat
/- Tableaus that the reference builds: what lies in memory while it does. -/
namespace Go.Proofs.YtomgcbfcnjbofaaGreat
open Go.RowKit
open Nat renaming le_refl → lR
set_option linter.unusedSimpArgs false
set_option linter.unusedVariables false
set_option maxRecDepth 20000
structure TabS (lo hi:Nat) (w0 w:World) (gr g:Nat) (s:Int) (A:Option Addr) (n cA:Nat) (za:List Int) (B:Option Addr) (m cB:Nat) (zb:List Int):Prop where
 res:BlkN w gr #[.int .i64 0,.slice none 0 0,.slice none 0 0]
 tab:BlkN w g #[.int .i64 s,.slice A n cA,.slice B m cB]
 ha:OwnI w w0.heap.size w.heap.size A n cA za
 hb:OwnI w w0.heap.size w.heap.size B m cB zb
 low:Touch lo hi w0 w
 dA:∀ b,oBlk A n cA=some b→oBlk B m cB≠some b∧b≠g∧b≠gr
 dB:∀ b,oBlk B m cB=some b→b≠g∧b≠gr
 d:g≠gr
 b1:w0.heap.size≤gr
 b2:w0.heap.size≤g
 hl:hi≤w0.heap.size
structure TabR (w w':World) (A:Option Addr) (n cA:Nat) (za:List Int) (B:Option Addr) (m cB:Nat) (zb:List Int):Prop where
 ha:OwnI w' w.heap.size w'.heap.size A n cA za
 hb:OwnI w' w.heap.size w'.heap.size B m cB zb
theorem TabR.nil_ (w w':World):TabR w w' none 0 0 [] none 0 0 []:=⟨OwnI.nil_ _ _ _,OwnI.nil_ _ _ _⟩
section
variable {w a w':World} {A:Option Addr} {n cA:Nat} {za:List Int} {B:Option Addr} {m cB:Nat} {zb:List Int}
theorem TabR.up (h:TabR w w' A n cA za B m cB zb) (hs:a.heap.size≤w.heap.size):TabR a w' A n cA za B m cB zb:=⟨h.ha.wide hs (lR _),h.hb.wide hs (lR _)⟩
theorem TabR.touch {lo hi:Nat} {w2:World} (h:TabR w w' A n cA za B m cB zb) (ht:Touch lo hi w' w2) (hh:hi≤w.heap.size):TabR w w2 A n cA za B m cB zb :=
 ⟨(h.ha.same (ht.same (.inr hh) (lR _))).wide (lR _) ht.size,(h.hb.same (ht.same (.inr hh) (lR _))).wide (lR _) ht.size⟩
theorem TabR.below {w2:World} (h:TabR w w' A n cA za B m cB zb) (hb:Below w'.heap.size w' w2):TabR w w2 A n cA za B m cB zb :=
 h.touch (lo:=0) (hi:=0) (.of_below hb) (Nat.zero_le _)
theorem TabR.setCell (h:TabR w w' A n cA za B m cB zb) {p:Addr} (h1:∀ ad,A=some ad→ad.block≠p.block) (h2:∀ ad,B=some ad→ad.block≠p.block) (u:Value):TabR w (w'.setCell p u) A n cA za B m cB zb:=by
 have hsz:(w'.setCell p u).heap.size=w'.heap.size:=by simp [World.setCell]
 constructor
 ·rw [hsz];exact ⟨owns_setCell h.ha.own h1 u,h.ha.lt,h.ha.rng⟩
 ·rw [hsz];exact ⟨owns_setCell h.hb.own h2 u,h.hb.lt,h.hb.rng⟩
end
section
variable {lo hi:Nat} {w0 w w':World} {gr g:Nat} {s:Int} {A:Option Addr} {n cA:Nat} {za:List Int} {B:Option Addr} {m cB:Nat} {zb:List Int}
theorem TabS.touch (h:TabS lo hi w0 w gr g s A n cA za B m cB zb) (ht:Touch lo hi w w'):TabS lo hi w0 w' gr g s A n cA za B m cB zb :=
 ⟨h.res.touch ht (.inr (by have:=h.hl;have:=h.b1;omega)),h.tab.touch ht (.inr (by have:=h.hl;have:=h.b2;omega)),(h.ha.same (ht.same (.inr h.hl) (lR _))).wide (lR _) ht.size,(h.hb.same (ht.same (.inr h.hl) (lR _))).wide (lR _) ht.size,h.low.trans ht,h.dA,h.dB,h.d,h.b1,h.b2,h.hl⟩
theorem TabS.below (h:TabS lo hi w0 w gr g s A n cA za B m cB zb) (hb:Below w.heap.size w w'):TabS lo hi w0 w' gr g s A n cA za B m cB zb:=h.touch (.of_below hb)
theorem TabS.midA (h:TabS lo hi w0 w gr g s A n cA za B m cB zb) {A':Option Addr} {n' cA':Nat} {xs:List Value} (hap:Appended w w0.heap.size 3 1 A n cA A' n' cA' xs w'):BlkN w' g #[.int .i64 s,.slice A n cA,.slice B m cB]∧BlkN w' gr #[.int .i64 0,.slice none 0 0,.slice none 0 0] :=
 ⟨h.tab.same (hap.2.1.block g h.tab.lt fun e=>(h.dA g e.symm).2.1 rfl),h.res.same (hap.2.1.block gr h.res.lt fun e=>(h.dA gr e.symm).2.2 rfl)⟩
theorem TabS.midB (h:TabS lo hi w0 w gr g s A n cA za B m cB zb) {B':Option Addr} {m' cB':Nat} {xs:List Value} (hap:Appended w w0.heap.size 3 1 B m cB B' m' cB' xs w'):BlkN w' g #[.int .i64 s,.slice A n cA,.slice B m cB]∧BlkN w' gr #[.int .i64 0,.slice none 0 0,.slice none 0 0] :=
 ⟨h.tab.same (hap.2.1.block g h.tab.lt fun e=>(h.dB g e.symm).1 rfl),h.res.same (hap.2.1.block gr h.res.lt fun e=>(h.dB gr e.symm).2 rfl)⟩
theorem TabS.lowA (h:TabS lo hi w0 w gr g s A n cA za B m cB zb) {A':Option Addr} {n' cA':Nat} {xs:List Value} (hap:Appended w w0.heap.size 3 1 A n cA A' n' cA' xs w'):Touch lo hi w0 w' :=
 h.low.then_below (hap.low (Below.refl w0.heap.size w) h.low.size (lR _) h.ha.own) (lR _)
theorem TabS.lowB (h:TabS lo hi w0 w gr g s A n cA za B m cB zb) {B':Option Addr} {m' cB':Nat} {xs:List Value} (hap:Appended w w0.heap.size 3 1 B m cB B' m' cB' xs w'):Touch lo hi w0 w' :=
 h.low.then_below (hap.low (Below.refl w0.heap.size w) h.low.size (lR _) h.hb.own) (lR _)
theorem TabS.pushA (h:TabS lo hi w0 w gr g s A n cA za B m cB zb) {ys:List Int} {k:Nat} (hr:∀ y∈ys,R64 y) {A':Option Addr} {cA':Nat} (hap:Appended w w0.heap.size 3 1 A n cA A' (n+k) cA' (za.map (Value.int .i64)++ys.map (Value.int .i64)) w') :
  TabS lo hi w0 (w'.setCell ⟨g,1,none⟩ (.slice A' (n+k) cA')) gr g s A' (n+k) cA' (za++ys) B m cB zb:=by
 have hm:=h.midA hap
 have hlow:=h.lowA hap
 have kV:=hm.1.set 1 (.slice A' (n+k) cA')
 simp only [List.setIfInBounds_toArray,List.set_cons_zero,List.set_cons_succ] at kV
 have hne:∀ b,b≠g→(w'.setCell ⟨g,1,none⟩ (.slice A' (n+k) cA')).heap[b]? = w'.heap[b]? := fun b hb=>Below.heap_setCell _ ⟨g,1,none⟩ _ b hb
 have hsz:(w'.setCell ⟨g,1,none⟩ (.slice A' (n+k) cA')).heap.size=w'.heap.size:=by simp [World.setCell]
 have hgl:=h.tab.lt
 have hgr:=h.res.lt
 have nA:=new_blk hap
 have hd:=h.d
 have dA':∀ b,oBlk A' (n+k) cA'=some b→oBlk B m cB≠some b∧b≠g∧b≠gr:=by
  intro b hb
  rcases nA b hb with e | e
  ·exact h.dA b e
  ·refine ⟨fun e2=>?_,by omega,by omega⟩
   obtain ⟨ad,e3,e4⟩:=ownBlock_eq.1 e2
   have:=h.hb.lt ad e3
   omega
 refine ⟨hm.2.far (Ne.symm h.d) _,kV,?_,?_,hlow.setCell (p:=⟨g,1,none⟩) (.inr h.b2) _,dA',h.dB,h.d,h.b1,h.b2,h.hl⟩
 ·rw [hsz]
  refine ⟨owns_same (by rw [List.map_append];exact hap.1) (fun ad e=>hne _ (dA' ad.block (ownBlock_eq.2 ⟨ad,e,rfl⟩)).2.1),fun ad e=>(owns_lt hap.1 ad e).2,fun y hy=>?_⟩
  rcases List.mem_append.1 hy with hy | hy
  ·exact h.ha.rng y hy
  ·exact hr y hy
 ·rw [hsz]
  have hBk:oBlk B m cB=none∨oBlk B m cB≠oBlk A n cA:=by
   cases hk:oBlk B m cB with
   | none=>exact .inl rfl
   | some b=>exact .inr fun e=>(h.dA b e.symm).1 hk
  have hB:=h.hb.kept hap.2.1 hBk
  exact ⟨owns_same hB.own (fun ad e=>hne _ (h.dB ad.block (ownBlock_eq.2 ⟨ad,e,rfl⟩)).1),hB.lt,hB.rng⟩
theorem TabS.pushB (h:TabS lo hi w0 w gr g s A n cA za B m cB zb) {ys:List Int} {k:Nat} (hr:∀ y∈ys,R64 y) {B':Option Addr} {cB':Nat} (hap:Appended w w0.heap.size 3 1 B m cB B' (m+k) cB' (zb.map (Value.int .i64)++ys.map (Value.int .i64)) w') :
  TabS lo hi w0 (w'.setCell ⟨g,2,none⟩ (.slice B' (m+k) cB')) gr g s A n cA za B' (m+k) cB' (zb++ys):=by
 have hm:=h.midB hap
 have hlow:=h.lowB hap
 have kV:=hm.1.set 2 (.slice B' (m+k) cB')
 simp only [List.setIfInBounds_toArray,List.set_cons_zero,List.set_cons_succ] at kV
 have hne:∀ b,b≠g→(w'.setCell ⟨g,2,none⟩ (.slice B' (m+k) cB')).heap[b]? = w'.heap[b]? := fun b hb=>Below.heap_setCell _ ⟨g,2,none⟩ _ b hb
 have hsz:(w'.setCell ⟨g,2,none⟩ (.slice B' (m+k) cB')).heap.size=w'.heap.size:=by simp [World.setCell]
 have hgl:=h.tab.lt
 have hgr:=h.res.lt
 have nB:=new_blk hap
 have hd:=h.d
 have dA':∀ b,oBlk A n cA=some b→oBlk B' (m+k) cB'≠some b∧b≠g∧b≠gr:=by
  intro b hb
  refine ⟨fun e2=>?_,(h.dA b hb).2⟩
  rcases nB b e2 with e | e
  ·exact (h.dA b hb).1 e
  ·obtain ⟨ad,e3,e4⟩:=ownBlock_eq.1 hb
   have:=h.ha.lt ad e3
   omega
 have dB':∀ b,oBlk B' (m+k) cB'=some b→b≠g∧b≠gr:=by
  intro b hb
  rcases nB b hb with e | e
  ·exact h.dB b e
  ·exact ⟨by omega,by omega⟩
 refine ⟨hm.2.far (Ne.symm h.d) _,kV,?_,?_,hlow.setCell (p:=⟨g,2,none⟩) (.inr h.b2) _,dA',dB',h.d,h.b1,h.b2,h.hl⟩
 ·rw [hsz]
  have hAk:oBlk A n cA=none∨oBlk A n cA≠oBlk B m cB:=by
   cases hk:oBlk A n cA with
   | none=>exact .inl rfl
   | some b=>exact .inr fun e=>(h.dA b hk).1 e.symm
  have hA:=h.ha.kept hap.2.1 hAk
  exact ⟨owns_same hA.own (fun ad e=>hne _ (h.dA ad.block (ownBlock_eq.2 ⟨ad,e,rfl⟩)).2.1),hA.lt,hA.rng⟩
 ·rw [hsz]
  refine ⟨owns_same (by rw [List.map_append];exact hap.1) (fun ad e=>hne _ (dB' ad.block (ownBlock_eq.2 ⟨ad,e,rfl⟩)).1),fun ad e=>(owns_lt hap.1 ad e).2,fun y hy=>?_⟩
  rcases List.mem_append.1 hy with hy | hy
  ·exact h.hb.rng y hy
  ·exact hr y hy
theorem TabS.newB (h:TabS lo hi w0 w gr g s A n cA za B m cB zb) {l:Nat} {B':Option Addr} {m' cB':Nat} {ys:List Int} (hB:OwnI w l w.heap.size B' m' cB' ys) (hg:g<l) (hgr:gr<l) (hA:∀ ad,A=some ad→ad.block<l) :
  TabS lo hi w0 (w.setCell ⟨g,2,none⟩ (.slice B' m' cB')) gr g s A n cA za B' m' cB' ys:=by
 have kV:=h.tab.set 2 (.slice B' m' cB')
 simp only [List.setIfInBounds_toArray,List.set_cons_zero,List.set_cons_succ] at kV
 have hne:∀ b,b≠g→(w.setCell ⟨g,2,none⟩ (.slice B' m' cB')).heap[b]? = w.heap[b]? := fun b hb=>Below.heap_setCell _ ⟨g,2,none⟩ _ b hb
 have hsz:(w.setCell ⟨g,2,none⟩ (.slice B' m' cB')).heap.size=w.heap.size:=by simp [World.setCell]
 have hb2:=h.b2
 have hB2:∀ b,oBlk B' m' cB'=some b→l≤b:=fun b hb=>by
  obtain ⟨ad,e,e2⟩:=ownBlock_eq.1 hb
  have:=(owns_lt hB.own ad e).1
  omega
 refine ⟨h.res.far (Ne.symm h.d) _,kV,?_,?_,h.low.setCell (p:=⟨g,2,none⟩) (.inr h.b2) _,?_,?_,h.d,h.b1,h.b2,h.hl⟩
 ·rw [hsz]
  exact ⟨owns_same h.ha.own (fun ad e=>hne _ (h.dA ad.block (ownBlock_eq.2 ⟨ad,e,rfl⟩)).2.1),h.ha.lt,h.ha.rng⟩
 ·rw [hsz]
  exact ⟨owns_low (owns_same hB.own (fun ad e=>hne _ (by have:=hB2 ad.block (ownBlock_eq.2 ⟨ad,e,rfl⟩);omega))) (by omega),hB.lt,hB.rng⟩
 ·intro b hb
  refine ⟨fun e=>?_,(h.dA b hb).2⟩
  have:=hB2 b e
  obtain ⟨ad,e1,e2⟩:=ownBlock_eq.1 hb
  have:=hA ad e1
  omega
 ·intro b hb
  have:=hB2 b hb
  exact ⟨by omega,by omega⟩
theorem TabS.stage (h:TabS lo hi w0 w gr g s A n cA za B m cB zb) (s':Int):TabS lo hi w0 (w.setCell ⟨g,0,none⟩ (.int .i64 s')) gr g s' A n cA za B m cB zb:=by
 have kV:=h.tab.set 0 (.int .i64 s')
 simp only [List.setIfInBounds_toArray,List.set_cons_zero,List.set_cons_succ] at kV
 have hne:∀ b,b≠g→(w.setCell ⟨g,0,none⟩ (.int .i64 s')).heap[b]? = w.heap[b]? := fun b hb=>Below.heap_setCell _ ⟨g,0,none⟩ _ b hb
 have hsz:(w.setCell ⟨g,0,none⟩ (.int .i64 s')).heap.size=w.heap.size:=by simp [World.setCell]
 refine ⟨h.res.far (Ne.symm h.d) _,kV,?_,?_,h.low.setCell (p:=⟨g,0,none⟩) (.inr h.b2) _,h.dA,h.dB,h.d,h.b1,h.b2,h.hl⟩
 ·rw [hsz]
  exact ⟨owns_same h.ha.own (fun ad e=>hne _ (h.dA ad.block (ownBlock_eq.2 ⟨ad,e,rfl⟩)).2.1),h.ha.lt,h.ha.rng⟩
 ·rw [hsz]
  exact ⟨owns_same h.hb.own (fun ad e=>hne _ (h.dB ad.block (ownBlock_eq.2 ⟨ad,e,rfl⟩)).1),h.hb.lt,h.hb.rng⟩
theorem TabS.done (h:TabS lo hi w0 w gr g s A n cA za B m cB zb) (v1 v2 v3:Value) :
  TabR w0 (((w.setCell ⟨gr,0,none⟩ v1).setCell ⟨gr,1,none⟩ v2).setCell ⟨gr,2,none⟩ v3) A n cA za B m cB zb∧Touch lo hi w0 (((w.setCell ⟨gr,0,none⟩ v1).setCell ⟨gr,1,none⟩ v2).setCell ⟨gr,2,none⟩ v3):=by
 have hb:∀ b,b≠gr→(((w.setCell ⟨gr,0,none⟩ v1).setCell ⟨gr,1,none⟩ v2).setCell ⟨gr,2,none⟩ v3).heap[b]? = w.heap[b]? := fun b hb =>
  ((Below.heap_setCell _ ⟨gr,2,none⟩ _ b hb).trans (Below.heap_setCell _ ⟨gr,1,none⟩ _ b hb)).trans (Below.heap_setCell _ ⟨gr,0,none⟩ _ b hb)
 have hsz:(((w.setCell ⟨gr,0,none⟩ v1).setCell ⟨gr,1,none⟩ v2).setCell ⟨gr,2,none⟩ v3).heap.size=w.heap.size:=by simp [World.setCell]
 refine ⟨⟨?_,?_⟩,((h.low.setCell (p:=⟨gr,0,none⟩) (.inr h.b1) v1).setCell (p:=⟨gr,1,none⟩) (.inr h.b1) v2).setCell (p:=⟨gr,2,none⟩) (.inr h.b1) v3⟩
 ·rw [hsz]
  exact ⟨owns_same h.ha.own (fun ad e=>hb _ (h.dA ad.block (ownBlock_eq.2 ⟨ad,e,rfl⟩)).2.2),h.ha.lt,h.ha.rng⟩
 ·rw [hsz]
  exact ⟨owns_same h.hb.own (fun ad e=>hb _ (h.dB ad.block (ownBlock_eq.2 ⟨ad,e,rfl⟩)).2),h.hb.lt,h.hb.rng⟩
end
theorem TabS.start {lo hi:Nat} {w w1:World} {gr:Nat} (k0:BlkN w1 gr #[.int .i64 0,.slice none 0 0,.slice none 0 0]) (hgr:w.heap.size≤gr) (b0:Touch lo hi w w1) (hl:hi≤w.heap.size) (s:Int) :
  TabS lo hi w (w1.alloc (.cells #[.int .i64 s,.slice none 0 0,.slice none 0 0] 26)) gr w1.heap.size s none 0 0 [] none 0 0 []:=by
 have hk:=k0.lt
 have hz:=b0.size
 exact ⟨k0.alloc _,BlkN.new w1 _ _,OwnI.nil_ _ _ _,OwnI.nil_ _ _ _,b0.alloc _,by simp [oBlk,Value.ownBlock],by simp [oBlk,Value.ownBlock],by omega,hgr,hz,hl⟩
end Go.Proofs.YtomgcbfcnjbofaaGreat
/- The cursor of a draw is made; a text is picked. -/
namespace Go.Proofs.YtomgcbfcnjbofaaGreat
open Go.RowKit
set_option linter.unusedSimpArgs false
set_option linter.unusedVariables false
set_option maxRecDepth 20000
set_option maxHeartbeats 1000000 in
theorem spec_l1New (hi:Nat) (A:Option Addr) (n c:Nat) (w:World) (h:Bytes w 0 hi A n c) (hh:hi≤w.heap.size) :
  Calls Tryz.prog 17 #[.slice A n c] w fun e w'=>e = .returned (.pointer (some ⟨w.heap.size,0,none⟩))∧Cur w' hi w.heap.size∧Below w.heap.size w w':=by
 have hcp:=h.cap
 have hmx:=h.max
 go_enter Tryz.func17,Tryz.ntmps17
 go_wp2_with fail
 go_loop [3,4] (fun x i=>∃ (k:Nat) (y:Int),k≤n∧i = .int .i64 k∧x = .int .i64 y) (fun _ i=>n - (intOf i).toNat)
 case atStart=>exact ⟨0,_,by omega,rfl,rfl⟩
 case round =>
  obtain ⟨k,y,hk,rfl,rfl⟩:=hrel
  by_cases hlt:k<n∧k<4000
  ·obtain ⟨h1,h2⟩:=hlt
   obtain ⟨ad,b,rfl,hb,hb0,hb1⟩:=h.at_ h1
   go_wp2_with fail
   go_round
   case rel=>exact ⟨k+1,_,by omega,by go_num,rfl⟩
   case measure=>simp [intOf];omega
  ·by_cases h1:k<n
   ·have h2:¬ k<4000:=fun e=>hlt ⟨h1,e⟩
    clear hlt
    go_wp2_with fail
    go_ret
    exact ⟨rfl,⟨A,n,c,0,y,BlkN.new _ _ _,h.below (B:=w.heap.size) (by (repeat (first | with_reducible exact Below.refl _ _ | with_reducible exact Below.refl _ _ | with_reducible refine Below.drew ?_ | ((with_reducible refine Below.alloc ?_ ?_ _);rotate_left;· first | omega | (simp [World.setCell];done) | (simp [World.setCell];omega)) | ((with_reducible refine Below.setCell ?_ ?_ _);rotate_left;· first | exact Nat.le_refl _ | omega | (simp;done) | (simp;omega))))) hh,by omega,by omega,hh⟩,by (repeat (first | with_reducible exact Below.refl _ _ | with_reducible exact Below.refl _ _ | with_reducible refine Below.drew ?_ | ((with_reducible refine Below.alloc ?_ ?_ _);rotate_left;· first | omega | (simp [World.setCell];done) | (simp [World.setCell];omega)) | ((with_reducible refine Below.setCell ?_ ?_ _);rotate_left;· first | exact Nat.le_refl _ | omega | (simp;done) | (simp;omega))))⟩
   ·clear hlt
    go_wp2_with fail
    go_ret
    exact ⟨rfl,⟨A,n,c,0,y,BlkN.new _ _ _,h.below (B:=w.heap.size) (by (repeat (first | with_reducible exact Below.refl _ _ | with_reducible exact Below.refl _ _ | with_reducible refine Below.drew ?_ | ((with_reducible refine Below.alloc ?_ ?_ _);rotate_left;· first | omega | (simp [World.setCell];done) | (simp [World.setCell];omega)) | ((with_reducible refine Below.setCell ?_ ?_ _);rotate_left;· first | exact Nat.le_refl _ | omega | (simp;done) | (simp;omega))))) hh,by omega,by omega,hh⟩,by (repeat (first | with_reducible exact Below.refl _ _ | with_reducible exact Below.refl _ _ | with_reducible refine Below.drew ?_ | ((with_reducible refine Below.alloc ?_ ?_ _);rotate_left;· first | omega | (simp [World.setCell];done) | (simp [World.setCell];omega)) | ((with_reducible refine Below.setCell ?_ ?_ _);rotate_left;· first | exact Nat.le_refl _ | omega | (simp;done) | (simp;omega))))⟩
theorem spec_l1PickC (hi g b n c:Nat) (xs:List ByteArray) (w:World) (h:Cur w hi g) (hn0:0<n) (hn:n≤256) (hl:xs.length=n) (hb:b<w.heap.size) (hbg:g<b) (hcn:n≤c) (hcm:c≤1000) (hc:∀ j x,xs[j]? = some x→w.cell? ⟨b,j,none⟩=some (.string x)) :
  Calls Tryz.prog 57 #[.pointer (some ⟨g,0,none⟩),.slice (some ⟨b,0,none⟩) n c] w fun e w'=>∃ x,e = .returned (.string x)∧x∈xs∧Cur w' hi g∧Touch g (g+1) w w':=by
 have HC:=hide hc
 clear hc
 go_enter Tryz.func57,Tryz.ntmps57
 go_wp2_with fail
 refine (spec_l1Below hi g (n:Int) w h (by omega) (by omega)).mono ?_
 rintro e w1 ⟨i,rfl,hi0,hi1,c1,t1⟩
 obtain ⟨k,rfl⟩:∃ k:Nat,i=k:=⟨i.toNat,by omega⟩
 obtain ⟨x,hx⟩:∃ x,xs[k]? = some x:=⟨_,List.getElem?_eq_getElem (by omega)⟩
 have hcell:w1.cell? ⟨b,k,none⟩=some (.string x):=(World.cell?_of_block (a:=⟨b,k,none⟩) (t1.block b hb (.inr (by omega)))).trans (HC.out k x hx)
 have hxm:=hide (List.mem_of_getElem? hx)
 clear hx
 go_wp2_with fail
 go_ret
 exact ⟨x,rfl,hxm.out,c1,t1⟩
theorem lit_cells {w:World} {vs:List Value} {t:TypeId}:∀ j v,vs[j]? = some v→(w.alloc (.cells vs.toArray t)).cell? ⟨w.heap.size,j,none⟩=some v:=fun j v hv=>by
 rw [cell_of_row _ _ _ vs.toArray t (0,0) (heap_alloc_new w _)]
 simpa using hv
end Go.Proofs.YtomgcbfcnjbofaaGreat
