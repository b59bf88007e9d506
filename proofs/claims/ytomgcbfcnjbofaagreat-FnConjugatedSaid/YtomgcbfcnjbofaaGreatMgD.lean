/- Words times a number, sums of words: the walks of both texts. -/
import Derived.Test.YtomgcbfcnjbofaaGreatMgC
import Derived.BigRegion
namespace Go.Proofs.YtomgcbfcnjbofaaGreat
open Go.RowKit
set_option linter.unusedSimpArgs false
set_option linter.unusedVariables false
set_option maxRecDepth 20000
structure Blk2 (w:World) (g:Nat) (a b:Value):Prop where
 h:∃ T,w.heap[g]? = some (.cells #[a,b] T (0,0))
section
variable {w w':World} {g lo hi:Nat} {a b:Value}
theorem Blk2.lt (h:Blk2 w g a b):g<w.heap.size:=by
 obtain ⟨T,h⟩:=h.h
 exact (Array.getElem?_eq_some_iff.1 h).1
theorem Blk2.c0 (h:Blk2 w g a b):w.cell? ⟨g,0,none⟩=some a:=by
 obtain ⟨T,h⟩:=h.h
 rw [cell_of_row w g 0 #[a,b] T (0,0) h];rfl
theorem Blk2.c1 (h:Blk2 w g a b):w.cell? ⟨g,1,none⟩=some b:=by
 obtain ⟨T,h⟩:=h.h
 rw [cell_of_row w g 1 #[a,b] T (0,0) h];rfl
theorem Blk2.f0 (h:Blk2 w g a b):w.frozen? ⟨g,0,none⟩=false:=by
 obtain ⟨T,h⟩:=h.h
 exact frozen_of_row w g 0 #[a,b] T h
theorem Blk2.f1 (h:Blk2 w g a b):w.frozen? ⟨g,1,none⟩=false:=by
 obtain ⟨T,h⟩:=h.h
 exact frozen_of_row w g 1 #[a,b] T h
theorem Blk2.new (w:World) (a b:Value) (T:TypeId):Blk2 (w.alloc (.cells #[a,b] T)) w.heap.size a b:=⟨T,heap_alloc_new w _⟩
theorem Blk2.same (h:Blk2 w g a b) (hs:w'.heap[g]? = w.heap[g]?):Blk2 w' g a b:=by
 obtain ⟨T,h⟩:=h.h
 exact ⟨T,hs.trans h⟩
theorem Blk2.below (h:Blk2 w g a b) (hb:Below w.heap.size w w'):Blk2 w' g a b:=h.same (hb.block g h.lt)
theorem Blk2.drew (h:Blk2 w g a b):Blk2 w.drew g a b:=h.same rfl
theorem Blk2.touch (h:Blk2 w g a b) (ht:Touch lo hi w w') (hd:g<lo∨hi≤g):Blk2 w' g a b:=h.same (ht.block g h.lt hd)
end
theorem fill_step {w3 wr:World} {g lo n c2 j:Nat} {ys zs:List Int} {v:Int} (hown:wr.ownsRow lo 3 1 (.slice (some ⟨g,0,none⟩) n c2) n (ys.map (Value.int .i64))) (ht:Touch g (g+1) w3 wr) (hs:Hid (wr.heap.size=w3.heap.size))
  (hys:Hid (ys.length=n∧ys.take j=zs.take j)) (hz:zs[j]? = some v) (hj:j<n) :
  wr.cell? ⟨g,j,none⟩=some (.int .i64 (ys.getD j 0))∧wr.frozen? ⟨g,j,none⟩=false ∧
  Hid ((wr.setCell ⟨g,j,none⟩ (.int .i64 v)).ownsRow lo 3 1 (.slice (some ⟨g,0,none⟩) n c2) n ((ys.set j v).map (Value.int .i64))∧Touch g (g+1) w3 (wr.setCell ⟨g,j,none⟩ (.int .i64 v)) ∧
   Hid ((wr.setCell ⟨g,j,none⟩ (.int .i64 v)).heap.size=w3.heap.size)∧Hid ((ys.set j v).length=n∧(ys.set j v).take (j+1)=zs.take (j+1))):=by
 have hst:=hown.stored j (.int .i64 v)
 refine ⟨?_,hown.frozenAt j,by simpa [List.map_set] using hst.1,ht.setCell (.inl ⟨Nat.le_refl _,by simp⟩) _,?_,by simpa using hys.out.1,take_set_step hys.out.2 (by have:=hys.out.1;omega) hz⟩
 ·rw [hown.cellAt j (by omega)]
  have:=hys.out.1
  simp [List.getD,show j<ys.length by omega]
 ·show _=_
  rw [← hs.out]
  simp [World.setCell]
theorem fill_end {n j:Nat} {ys zs:List Int} (hys:Hid (ys.length=n∧ys.take j=zs.take j)) (hz:zs.length=n) (hj:n≤j):ys=zs:=by
 have h1:=hys.out
 rw [List.take_of_length_le (by omega),List.take_of_length_le (by omega)] at h1
 exact h1.2
theorem r64_of_num {x:Int} (h:0≤x∧x<1000000271):R64 x:=by constructor <;> omega
end Go.Proofs.YtomgcbfcnjbofaaGreat
/- Conjugate pairs: the walks of the program's text. -/
namespace Go.Proofs.YtomgcbfcnjbofaaGreat
open Go.RowKit
set_option linter.unusedSimpArgs false
set_option linter.unusedVariables false
set_option maxRecDepth 20000
theorem own_zero (W:World) (n:Nat) (hn:n≤1099511627776):OwnI (W.alloc (.cells (zeros n) 3)) W.heap.size (W.heap.size+1) (some ⟨W.heap.size,0,none⟩) n n (List.replicate n 0) :=
 ⟨owns_zeros W n hn (Nat.le_refl _),fun ad e=>by injection e with e;subst e;exact Nat.lt_succ_self _,fun x hx=>by have:=(List.mem_replicate.1 hx).2;subst this;constructor <;> omega⟩
set_option maxRecDepth 100000 in
set_option maxHeartbeats 1000000 in
theorem impl_empty (k:Nat) (hk:k≤8) (w:World) :
  Calls Tryz.prog 21 #[.int .i64 (k:Int)] w fun e w'=>∃ gA gB,e = .returned (.agg #[.int .i64 (k:Int),.slice (some ⟨gA,0,none⟩) (k*k) (k*k),.slice (some ⟨gB,0,none⟩) k k])∧gA≠gB∧w.heap.size≤gA∧w.heap.size≤gB∧gA<w'.heap.size∧gB<w'.heap.size ∧
   OwnI w' gA (gA+1) (some ⟨gA,0,none⟩) (k*k) (k*k) (List.replicate (k*k) 0)∧OwnI w' gB (gB+1) (some ⟨gB,0,none⟩) k k (List.replicate k 0)∧Below w.heap.size w w':=by
 have h64:k*k≤64:=Nat.mul_le_mul hk hk
 obtain ⟨q,hq⟩:∃ q:Nat,q=k*k:=⟨_,rfl⟩
 rw [← hq]
 rw [← hq] at h64
 have hqi:(k:Int)*(k:Int)=(q:Int):=by rw [hq];simp
 have hw1:=IntWalk.i64_in (q:Int) (by omega)
 clear hq
 have mA:=make_ints q (by omega)
 have mB:=make_ints k (by omega)
 go_enter Tryz.func21,Tryz.ntmps21
 go_wp2_with fail
 have j1:=BlkN.new w #[.int .i64 0,.slice none 0 0,.slice none 0 0] 26
 have a1:=below_alloc w (.cells #[.int .i64 0,.slice none 0 0,.slice none 0 0] 26)
 have hWs:(World.alloc w (.cells #[.int .i64 0,.slice none 0 0,.slice none 0 0] 26)).heap.size=w.heap.size+1:=by simp
 generalize World.alloc w (.cells #[.int .i64 0,.slice none 0 0,.slice none 0 0] 26)=W at j1 a1 hWs ⊢
 have mA1:=mA W.drew
 have mB1:=mB W.drew
 have mA2:=mA (W.drew.alloc (.cells (zeros k) 3))
 have mB2:=mB (W.drew.alloc (.cells (zeros q) 3))
 have x0:=j1.c 0 rfl
 have x1:=j1.c 1 rfl
 have x2:=j1.c 2 rfl
 have x3:=j1.f 0
 have x4:=j1.f 1
 have x5:=j1.f 2
 go_region
 ·have kV:=((j1.set 0 (.int .i64 (k:Int))).set 1 (.slice (some ⟨w.heap.size+1,0,none⟩) q q)).set 2 (.slice (some ⟨w.heap.size+1+1,0,none⟩) k k)
  simp only [List.setIfInBounds_toArray,List.set_cons_zero,List.set_cons_succ] at kV
  have bV:Below w.heap.size w (((W.setCell ⟨w.heap.size,0,none⟩ (.int .i64 (k:Int))).setCell ⟨w.heap.size,1,none⟩ (.slice (some ⟨w.heap.size+1,0,none⟩) q q)).setCell ⟨w.heap.size,2,none⟩ (.slice (some ⟨w.heap.size+1+1,0,none⟩) k k)):=((a1.setCell (p:=⟨w.heap.size,0,none⟩) (Nat.le_refl _) _).setCell (p:=⟨w.heap.size,1,none⟩) (Nat.le_refl _) _).setCell (p:=⟨w.heap.size,2,none⟩) (Nat.le_refl _) _
  have sV:(((W.setCell ⟨w.heap.size,0,none⟩ (.int .i64 (k:Int))).setCell ⟨w.heap.size,1,none⟩ (.slice (some ⟨w.heap.size+1,0,none⟩) q q)).setCell ⟨w.heap.size,2,none⟩ (.slice (some ⟨w.heap.size+1+1,0,none⟩) k k)).heap.size=w.heap.size+1:=by simpa [World.setCell] using hWs
  generalize ((W.setCell ⟨w.heap.size,0,none⟩ (.int .i64 (k:Int))).setCell ⟨w.heap.size,1,none⟩ (.slice (some ⟨w.heap.size+1,0,none⟩) q q)).setCell ⟨w.heap.size,2,none⟩ (.slice (some ⟨w.heap.size+1+1,0,none⟩) k k)=V at kV bV sV ⊢
  have q1:=own_zero V q (by omega)
  have s1:(V.alloc (.cells (zeros q) 3)).heap.size=w.heap.size+1+1:=by simp;omega
  have q2:=own_zero (V.alloc (.cells (zeros q) 3)) k (by omega)
  rw [sV] at q1
  rw [s1] at q2
  have b1:=below_alloc V (.cells (zeros q) 3)
  have b2:=below_alloc (V.alloc (.cells (zeros q) 3)) (.cells (zeros k) 3)
  have B:=(bV.trans (b1.mono (by omega))).trans (b2.mono (by omega))
  have q1':=q1.below b2 (by omega)
  have k2:=((kV.below b1).below b2).drew
  have s2:((V.alloc (.cells (zeros q) 3)).alloc (.cells (zeros k) 3)).drew.heap.size=w.heap.size+1+1+1:=by show ((V.alloc (.cells (zeros q) 3)).alloc (.cells (zeros k) 3)).heap.size=_;simp;omega
  have oA:=q1'.same (Same.drew (Same.refl _ _ _))
  have oB:=q2.same (Same.drew (Same.refl _ _ _))
  have Bd:=B.drew
  generalize ((V.alloc (.cells (zeros q) 3)).alloc (.cells (zeros k) 3)).drew=U at k2 s2 oA oB Bd ⊢
  have r0:=k2.c 0 rfl
  have r1:=k2.c 1 rfl
  have r2:=k2.c 2 rfl
  clear x0 x1 x2 x3 x4 x5 mA mB mA1 mB1 mA2 mB2
  go_wp2_with fail
  refine bodyPost_ret (v := .agg #[.int .i64 (k:Int),.slice (some ⟨w.heap.size+1,0,none⟩) q q,.slice (some ⟨w.heap.size+1+1,0,none⟩) k k]) (by simp [results,Tryz.results21,go_sem,r0,r1,r2]) rfl ⟨w.heap.size+1,w.heap.size+1+1,rfl,by omega,by omega,by omega,by omega,by omega,oA,oB,Bd⟩
 ·have kV:=((j1.set 0 (.int .i64 (k:Int))).set 1 (.slice (some ⟨w.heap.size+1+1,0,none⟩) q q)).set 2 (.slice (some ⟨w.heap.size+1,0,none⟩) k k)
  simp only [List.setIfInBounds_toArray,List.set_cons_zero,List.set_cons_succ] at kV
  have bV:Below w.heap.size w (((W.setCell ⟨w.heap.size,0,none⟩ (.int .i64 (k:Int))).setCell ⟨w.heap.size,1,none⟩ (.slice (some ⟨w.heap.size+1+1,0,none⟩) q q)).setCell ⟨w.heap.size,2,none⟩ (.slice (some ⟨w.heap.size+1,0,none⟩) k k)):=((a1.setCell (p:=⟨w.heap.size,0,none⟩) (Nat.le_refl _) _).setCell (p:=⟨w.heap.size,1,none⟩) (Nat.le_refl _) _).setCell (p:=⟨w.heap.size,2,none⟩) (Nat.le_refl _) _
  have sV:(((W.setCell ⟨w.heap.size,0,none⟩ (.int .i64 (k:Int))).setCell ⟨w.heap.size,1,none⟩ (.slice (some ⟨w.heap.size+1+1,0,none⟩) q q)).setCell ⟨w.heap.size,2,none⟩ (.slice (some ⟨w.heap.size+1,0,none⟩) k k)).heap.size=w.heap.size+1:=by simpa [World.setCell] using hWs
  generalize ((W.setCell ⟨w.heap.size,0,none⟩ (.int .i64 (k:Int))).setCell ⟨w.heap.size,1,none⟩ (.slice (some ⟨w.heap.size+1+1,0,none⟩) q q)).setCell ⟨w.heap.size,2,none⟩ (.slice (some ⟨w.heap.size+1,0,none⟩) k k)=V at kV bV sV ⊢
  have q1:=own_zero V k (by omega)
  have s1:(V.alloc (.cells (zeros k) 3)).heap.size=w.heap.size+1+1:=by simp;omega
  have q2:=own_zero (V.alloc (.cells (zeros k) 3)) q (by omega)
  rw [sV] at q1
  rw [s1] at q2
  have b1:=below_alloc V (.cells (zeros k) 3)
  have b2:=below_alloc (V.alloc (.cells (zeros k) 3)) (.cells (zeros q) 3)
  have B:=(bV.trans (b1.mono (by omega))).trans (b2.mono (by omega))
  have q1':=q1.below b2 (by omega)
  have k2:=((kV.below b1).below b2).drew
  have s2:((V.alloc (.cells (zeros k) 3)).alloc (.cells (zeros q) 3)).drew.heap.size=w.heap.size+1+1+1:=by show ((V.alloc (.cells (zeros k) 3)).alloc (.cells (zeros q) 3)).heap.size=_;simp;omega
  have oB:=q1'.same (Same.drew (Same.refl _ _ _))
  have oA:=q2.same (Same.drew (Same.refl _ _ _))
  have Bd:=B.drew
  generalize ((V.alloc (.cells (zeros k) 3)).alloc (.cells (zeros q) 3)).drew=U at k2 s2 oA oB Bd ⊢
  have r0:=k2.c 0 rfl
  have r1:=k2.c 1 rfl
  have r2:=k2.c 2 rfl
  clear x0 x1 x2 x3 x4 x5 mA mB mA1 mB1 mA2 mB2
  go_wp2_with fail
  refine bodyPost_ret (v := .agg #[.int .i64 (k:Int),.slice (some ⟨w.heap.size+1+1,0,none⟩) q q,.slice (some ⟨w.heap.size+1,0,none⟩) k k]) (by simp [results,Tryz.results21,go_sem,r0,r1,r2]) rfl ⟨w.heap.size+1+1,w.heap.size+1,rfl,by omega,by omega,by omega,by omega,by omega,oA,oB,Bd⟩
theorem slices_Index (A:Option Addr) (n c:Nat) (xs:List Int) (v:Int) (lo hi:Nat) (w:World) (h:Ints w lo hi A n c xs) (hn:n≤1048576) :
  Calls Tryz.prog 61 #[.slice A n c,.int .i64 v] w fun e w'=>∃ r:Int,e = .returned (.int .i64 r)∧(0≤r↔v∈xs)∧w=w':=by
 have hcp:=h.cap
 have hm:=h.max
 go_enter Tryz.func61,Tryz.ntmps61
 go_wp2_with fail
 go_loopw [5,8] (fun _ i wr=>∃ (k:Nat),k≤n∧i = .int .i64 k∧wr=w∧Hid (¬ v∈xs.take k)) (fun _ i _=>n - (intOf i).toNat)
 case atStart=>exact ⟨0,by omega,rfl,rfl,by show ¬ _;simp⟩
 case round =>
  obtain ⟨k,hk,rfl,rfl,hr⟩:=hrel
  by_cases hlt:k<n
  ·obtain ⟨ad,x,rfl,hc,_,_,hx⟩:=h.at_ hlt
   by_cases hv:v=x
   ·have hmem:Hid (v∈xs):=by rw [hv];exact List.mem_of_getElem? hx.out
    subst hv
    go_wp2_with fail
    go_ret
    exact ⟨k,rfl,⟨fun _=>hmem.out,fun _=>by omega⟩,rfl⟩
   ·have hne:(v == x)=false:=by simpa using hv
    have hr2:Hid (¬ v∈xs.take (k+1)):=by
     show ¬ _
     rw [List.take_add_one,hx.out]
     simp only [List.mem_append,Option.toList_some,List.mem_singleton]
     exact fun e=>e.elim hr.out hv
    clear hv
    go_wp2_with fail
    go_roundw
    case rel=>exact ⟨k+1,by omega,by go_num,trivial,hr2⟩
    case measure=>simp [intOf];omega
  ·obtain rfl:k=n:=by omega
   have hr2:Hid (¬ v∈xs):=by
    have h1:=hr.out
    rwa [List.take_of_length_le (Nat.le_of_eq h.len)] at h1
   go_wp2_with fail
   go_ret
   exact ⟨-1,rfl,⟨fun e=>absurd e (by omega),fun e=>absurd e hr2.out⟩,rfl⟩
theorem slices_Contains (A:Option Addr) (n c:Nat) (xs:List Int) (v:Int) (lo hi:Nat) (w:World) (h:Ints w lo hi A n c xs) (hn:n≤1048576) :
  Calls Tryz.prog 20 #[.slice A n c,.int .i64 v] w fun e w'=>e = .returned (.bool (decide (v∈xs)))∧w=w':=by
 go_enter Tryz.func20,Tryz.ntmps20
 go_wp2_with fail
 refine (slices_Index A n c xs v lo hi w h hn).mono ?_
 rintro e w' ⟨r,rfl,hr,rfl⟩
 by_cases h0:0≤r
 ·have hd:decide (v∈xs)=true:=by simpa using hr.1 h0
  go_wp2_with fail
  go_ret
  exact ⟨ret_bool (by first | exact hd.symm | (rw [hd];done) | (rw [hd];rfl) | (rw [hd];simpa using h0)),rfl⟩
 ·have hd:decide (v∈xs)=false:=by simpa using fun e=>h0 (hr.2 e)
  clear hr
  go_wp2_with fail
  go_ret
  exact ⟨ret_bool (by first | exact hd.symm | (rw [hd];done) | (rw [hd];rfl) | (rw [hd];simpa using h0)),rfl⟩
end Go.Proofs.YtomgcbfcnjbofaaGreat
