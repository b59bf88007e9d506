/- Conjugate pairs: ScaleTableau of the program. -/
import Derived.Test.YtomgcbfcnjbofaaGreatMgD
namespace Go.Proofs.YtomgcbfcnjbofaaGreat
open Go.RowKit
set_option linter.unusedSimpArgs false
set_option linter.unusedVariables false
set_option maxRecDepth 20000
set_option maxRecDepth 100000 in
set_option maxHeartbeats 2000000 in
theorem impl_ScaleTableau (k:Nat) (A:Option Addr) (n c:Nat) (xs:List Int) (B:Option Addr) (d:Nat) (ys:List Int) (lo hi:Nat) (sc:Int) (w:World) (h:Ints w lo hi A n c xs) (g:Ints w lo hi B k d ys) (hh:hi≤w.heap.size) (hk:k≤8) (hn:n=k*k) (t1:tabOkF k xs ys=true) (hsc:R64 sc) :
  Calls Tryz.prog 27 #[.agg #[.int .i64 (k:Int),.slice A n c,.slice B k d],.int .i64 sc] w fun e w'=>∃ gA gB,e = .returned (.agg #[.int .i64 (k:Int),.slice (some ⟨gA,0,none⟩) (k*k) (k*k),.slice (some ⟨gB,0,none⟩) k k])∧gA≠gB∧w.heap.size≤gA∧w.heap.size≤gB∧gA<w'.heap.size∧gB<w'.heap.size ∧
   OwnI w' gA (gA+1) (some ⟨gA,0,none⟩) (k*k) (k*k) (xs.map (fun x=>timesF x sc))∧OwnI w' gB (gB+1) (some ⟨gB,0,none⟩) k k (ys.map (fun x=>timesF x sc))∧Below w.heap.size w w':=by
 have hcp:=h.cap
 have hmx:=h.max
 have gcp:=g.cap
 have gmx:=g.max
 have h64:n≤64:=by rw [hn];exact Nat.mul_le_mul hk hk
 have TT:=hide t1
 clear t1
 subst hn
 have a1:=below_alloc w (.cells #[.int .i64 (k:Int),.slice A (k*k) c,.slice B k d] 26)
 have j1:=BlkN.new w #[.int .i64 (k:Int),.slice A (k*k) c,.slice B k d] 26
 have a2:=below_alloc (w.alloc (.cells #[.int .i64 (k:Int),.slice A (k*k) c,.slice B k d] 26)) (.cells #[.int .i64 0,.slice none 0 0,.slice none 0 0] 26)
 have j1b:=j1.below a2
 have j2:=BlkN.new (w.alloc (.cells #[.int .i64 (k:Int),.slice A (k*k) c,.slice B k d] 26)) #[.int .i64 0,.slice none 0 0,.slice none 0 0] 26
 have c0:=a1.trans (a2.mono a1.size)
 simp only [World.size_alloc] at j2
 have z0:=c0.size
 clear a1 a2 j1
 obtain ⟨q,hq⟩:∃ q:Nat,q=k*k:=⟨_,rfl⟩
 have hqH:=hide hq
 rw [← hq] at h j1b j2 c0 z0 hcp h64 ⊢
 clear hq
 go_enter Tryz.func27,Tryz.ntmps27
 go_wp2_with fail
 have h1:=h.below c0 hh
 have g1:=g.below c0 hh
 generalize (w.alloc (.cells #[.int .i64 (k:Int),.slice A q c,.slice B k d] 26)).alloc (.cells #[.int .i64 0,.slice none 0 0,.slice none 0 0] 26)=W at c0 j1b j2 z0 h1 g1 ⊢
 refine (impl_TableauOk k A q c xs B k d ys lo hi W h1 g1 (by omega)).mono ?_
 rintro e w1 ⟨rfl,b1⟩
 rw [TT.out]
 have k1:=j1b.below b1
 have k2:=j2.below b1
 have B1:=c0.trans (b1.mono z0)
 have z1:=B1.size
 have q2:=k2.lt
 have hE:=impl_empty k hk w1
 rw [← hqH.out] at hE
 clear j1b j2 c0 h1 g1 b1
 have p0:=k1.c 0 rfl
 go_wp2_with fail
 clear p0
 refine hE.mono ?_
 rintro e w2 ⟨gA,gB,rfl,hne,la,lb,ua,ub,oA,oB,b2⟩
 clear hE
 have z2:=b2.size
 have a3:=below_alloc w2 (.cells #[.int .i64 (k:Int),.slice (some ⟨gA,0,none⟩) q q,.slice (some ⟨gB,0,none⟩) k k] 26)
 have j5:=BlkN.new w2 #[.int .i64 (k:Int),.slice (some ⟨gA,0,none⟩) q q,.slice (some ⟨gB,0,none⟩) k k] 26
 have l1:=(k1.below b2).below a3
 have l2:=(k2.below b2).below a3
 have pA:=oA.below a3 (by omega)
 have pB:=oB.below a3 (by omega)
 have B3:=(B1.trans (b2.mono z1)).trans (a3.mono (by omega))
 have q5:=j5.lt
 clear k1 k2 oA oB B1
 have p1:=l1.c 1 rfl
 go_wp2_with fail
 clear p1
 generalize World.alloc w2 (.cells #[.int .i64 (k:Int),.slice (some ⟨gA,0,none⟩) q q,.slice (some ⟨gB,0,none⟩) k k] 26)=w3 at a3 j5 l1 l2 pA pB B3 q5 ⊢
 have z3:=B3.size
 have sz3:=a3.size
 clear a3
 have h3:=h.below B3 hh
 have g3:=g.below B3 hh
 go_loopw [6,18] (fun _ i wr=>∃ (j:Nat) (vs:List Int),j≤q∧i = .int .i64 j∧Touch gA (gA+1) w3 wr∧Hid (wr.heap.size=w3.heap.size)∧wr.ownsRow gA 3 1 (.slice (some ⟨gA,0,none⟩) q q) q (vs.map (Value.int .i64))∧Hid (vs.length=q∧vs.take j=(xs.map (fun x=>timesF x sc)).take j))
  (fun _ i _=>q - (intOf i).toNat)
 case atStart=>exact ⟨0,_,by omega,rfl,.refl _ _ _,rfl,pA.own,pA.len,by simp⟩
 case round =>
  obtain ⟨j,vs,hj,rfl,ht,hs,hown,hys⟩:=hrel
  have m1:=l1.touch ht (by omega)
  have m5:=j5.touch ht (by omega)
  by_cases hlt:j<q
  ·obtain ⟨ad,x,rfl,hc,hr,_,hx⟩:=(h3.same (ht.same (.inl (by omega)) (by omega))).at_ hlt
   have p1:=m1.c 1 rfl
   have p2:=m5.c 1 rfl
   have hv:(xs.map (fun x=>timesF x sc))[j]? = some (timesF x sc):=by rw [List.getElem?_map,hx.out];rfl
   obtain ⟨hc1,hf1,HS⟩:=fill_step hown ht hs hys hv hlt
   have hne1:¬ w.heap.size=gA:=by omega
   have hne2:¬ w2.heap.size=gA:=by omega
   clear hv hown ht hs hys m1 m5 hx
   go_wp2_with fail
   refine still_tail 11 (by kernel_rfl) (by kernel_rfl) ?_
   simp only [List.take_succ_cons,List.take_zero,List.drop_succ_cons,List.drop_zero]
   repeat still_step
   still_call (still_same (impl_Times x sc _ hr hsc))
   repeat still_step
   refine wpStill_nil ?_
   go_wp2_with fail
   go_roundw
   case rel=>exact ⟨j+1,vs.set j (timesF x sc),by omega,by go_num,HS.out.2.1.drew,HS.out.2.2.1,HS.out.1,HS.out.2.2.2⟩
   case measure=>simp [intOf];omega
  ·have e:=fill_end hys (by rw [List.length_map];exact h.len) (by omega)
   subst e
   have m2:=l2.touch ht (by omega)
   have OA:OwnI wr gA (gA+1) (some ⟨gA,0,none⟩) q q (xs.map (fun x=>timesF x sc)):=⟨hown,fun ad e=>by injection e with e;subst e;exact Nat.lt_succ_self _,fun y hy=>by
    simp only [List.mem_map] at hy
    obtain ⟨z,_,rfl⟩:=hy
    exact r64_of_num (timesF_bd _ _)⟩
   have OB:=pB.same (ht.same (by omega) (by omega))
   have g4:=g3.same (ht.same (.inl (by omega)) (by omega))
   have B4:=B3.trans (ht.below (B:=w.heap.size) (by omega) z3)
   have hsz:=hs.out
   clear hown ht hs hys j5 l1 l2 pA pB h3 g3 B3
   obtain ⟨w4,rfl⟩:∃ w4:World,w4=wr:=⟨_,rfl⟩
   have p1:=m1.c 2 rfl
   go_wp2_with fail
   clear p1
   go_loopw [7,36] (fun _ i wr=>∃ (j:Nat) (vs:List Int),j≤k∧i = .int .i64 j∧Touch gB (gB+1) w4 wr∧Hid (wr.heap.size=w4.heap.size)∧wr.ownsRow gB 3 1 (.slice (some ⟨gB,0,none⟩) k k) k (vs.map (Value.int .i64))∧Hid (vs.length=k∧vs.take j=(ys.map (fun x=>timesF x sc)).take j))
    (fun _ i _=>k - (intOf i).toNat)
   case atStart=>exact ⟨0,_,by omega,rfl,.refl _ _ _,rfl,OB.own,OB.len,by simp⟩
   case round =>
    obtain ⟨j,vs,hj,rfl,ht,hs,hown,hys⟩:=hrel
    have n1:=m1.touch ht (by omega)
    have n5:=m5.touch ht (by omega)
    by_cases hlt:j<k
    ·obtain ⟨ad,x,rfl,hc,hr,_,hx⟩:=(g4.same (ht.same (.inl (by omega)) (by omega))).at_ hlt
     have p1:=n1.c 2 rfl
     have p2:=n5.c 2 rfl
     have hv:(ys.map (fun x=>timesF x sc))[j]? = some (timesF x sc):=by rw [List.getElem?_map,hx.out];rfl
     obtain ⟨hc1,hf1,HS⟩:=fill_step hown ht hs hys hv hlt
     have hne1:¬ w.heap.size=gB:=by omega
     have hne2:¬ w2.heap.size=gB:=by omega
     clear hv hown ht hs hys n1 n5 hx
     go_wp2_with fail
     refine still_tail 11 (by kernel_rfl) (by kernel_rfl) ?_
     simp only [List.take_succ_cons,List.take_zero,List.drop_succ_cons,List.drop_zero]
     repeat still_step
     still_call (still_same (impl_Times x sc _ hr hsc))
     repeat still_step
     refine wpStill_nil ?_
     go_wp2_with fail
     go_roundw
     case rel=>exact ⟨j+1,vs.set j (timesF x sc),by omega,by go_num,HS.out.2.1.drew,HS.out.2.2.1,HS.out.1,HS.out.2.2.2⟩
     case measure=>simp [intOf];omega
    ·have e:=fill_end hys (by rw [List.length_map];exact g.len) (by omega)
     subst e
     have n2:=m2.touch ht (by omega)
     have QB:OwnI wr gB (gB+1) (some ⟨gB,0,none⟩) k k (ys.map (fun x=>timesF x sc)):=⟨hown,fun ad e=>by injection e with e;subst e;exact Nat.lt_succ_self _,fun y hy=>by
      simp only [List.mem_map] at hy
      obtain ⟨z,_,rfl⟩:=hy
      exact r64_of_num (timesF_bd _ _)⟩
     have QA:=OA.same (ht.same (by omega) (by omega))
     have B5:=B4.trans (ht.below (B:=w.heap.size) (by omega) B4.size)
     have hsz2:=hs.out
     have HQ:=hide (And.intro QA (And.intro QB B5))
     have p0:=n5.c 0 rfl
     have p1:=n5.c 1 rfl
     have p2:=n5.c 2 rfl
     have r0:=n2.c 0 rfl
     have r1:=n2.c 1 rfl
     have r2:=n2.c 2 rfl
     have f0:=n2.f 0
     have f1:=n2.f 1
     have f2:=n2.f 2
     have lt2:=n2.lt
     clear hown ht hs hys m1 m2 m5 n1 n2 n5 OA OB QA QB g4 B4 B5
     go_wp2_with fail
     refine bodyPost_ret (v := .agg #[.int .i64 (k:Int),.slice (some ⟨gA,0,none⟩) q q,.slice (some ⟨gB,0,none⟩) k k]) (by simp [results,Tryz.results27,go_sem,r0,r1,r2,lt2]) rfl ⟨gA,gB,rfl,hne,by omega,by omega,?_,?_,?_,?_,?_⟩
     ·simp [World.setCell];omega
     ·simp [World.setCell];omega
     ·refine OwnI.same HQ.out.1 ?_
      (repeat (first | with_reducible exact Same.refl _ _ _ | with_reducible refine Same.drew ?_ | ((with_reducible refine Same.alloc ?_ ?_ _);rotate_left;· first | omega | (simp [World.setCell];done) | (simp [World.setCell];omega)) | ((with_reducible refine Same.setCell ?_ ?_ _);rotate_left;· first | omega | (simp;done) | (simp;omega))))
     ·refine OwnI.same HQ.out.2.1 ?_
      (repeat (first | with_reducible exact Same.refl _ _ _ | with_reducible refine Same.drew ?_ | ((with_reducible refine Same.alloc ?_ ?_ _);rotate_left;· first | omega | (simp [World.setCell];done) | (simp [World.setCell];omega)) | ((with_reducible refine Same.setCell ?_ ?_ _);rotate_left;· first | omega | (simp;done) | (simp;omega))))
     ·(repeat (first | with_reducible exact HQ.out.2.2 | with_reducible exact Below.refl _ _ | with_reducible refine Below.drew ?_ | ((with_reducible refine Below.alloc ?_ ?_ _);rotate_left;· first | omega | (simp [World.setCell];done) | (simp [World.setCell];omega)) | ((with_reducible refine Below.setCell ?_ ?_ _);rotate_left;· first | exact Nat.le_refl _ | omega | (simp;done) | (simp;omega))))
end Go.Proofs.YtomgcbfcnjbofaaGreat
/- Conjugate pairs: a row of a tableau. -/
namespace Go.Proofs.YtomgcbfcnjbofaaGreat
open Go.RowKit
set_option linter.unusedSimpArgs false
set_option linter.unusedVariables false
set_option maxRecDepth 20000
theorem impl_row (k:Nat) (gA n c:Nat) (B:Option Addr) (m d:Nat) (i:Nat) (w:World) (hk:k≤8) (hn:n=k*k) (hi:i<k) (hc:n≤c) (hc2:c≤9223372036854775807) :
  Calls Tryz.prog 26 #[.agg #[.int .i64 (k:Int),.slice (some ⟨gA,0,none⟩) n c,.slice B m d],.int .i64 (i:Int)] w fun e w'=>e = .returned (.slice (some ⟨gA,i*k,none⟩) k (c - i*k))∧Below w.heap.size w w':=by
 have a1:=below_alloc w (.cells #[.int .i64 (k:Int),.slice (some ⟨gA,0,none⟩) n c,.slice B m d] 26)
 have h64:n≤64:=by rw [hn];exact Nat.mul_le_mul hk hk
 have hle:i*k+k≤n:=by
  rw [hn]
  have:(i+1)*k≤k*k:=Nat.mul_le_mul_right _ hi
  rwa [Nat.add_mul,Nat.one_mul] at this
 obtain ⟨q,hq⟩:∃ q:Nat,q=i*k:=⟨_,rfl⟩
 rw [← hq] at hle ⊢
 have hqi:(i:Int)*(k:Int)=(q:Int):=by rw [hq];simp
 have hqj:((i:Int)+1)*(k:Int)=((q+k:Nat):Int):=by rw [Int.add_mul,Int.one_mul,hqi];simp
 have hw1:=IntWalk.i64_in (q:Int) (by omega)
 have hw2:=IntWalk.i64_in ((q+k:Nat):Int) (by omega)
 have hw3:=IntWalk.i64_in ((i:Int)+1) (by omega)
 have hqc:¬ c=q:=by omega
 have hsub:q+k - q=k:=by omega
 clear hq hn
 go_enter Tryz.func26,Tryz.ntmps26
 go_wp2_with fail
 rw [hsub]
 go_ret
 exact ⟨rfl,a1⟩
end Go.Proofs.YtomgcbfcnjbofaaGreat
