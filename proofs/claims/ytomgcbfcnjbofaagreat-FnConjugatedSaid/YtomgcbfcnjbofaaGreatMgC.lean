/- Symplectic pairs: the walks of both texts. -/
import Derived.Test.YtomgcbfcnjbofaaGreatMgB
import Derived.Test.YtomgcbfcnjbofaaGreatMgA
namespace Go.Proofs.YtomgcbfcnjbofaaGreat
open Go.RowKit
set_option linter.unusedSimpArgs false
set_option linter.unusedVariables false
set_option maxRecDepth 20000
theorem slices_Equal (A:Option Addr) (n c:Nat) (xs:List Int) (lo hi:Nat) (B:Option Addr) (m d:Nat) (ys:List Int) (lo' hi':Nat) (w:World) (h:Ints w lo hi A n c xs) (g:Ints w lo' hi' B m d ys) :
  Calls Tryz.prog 68 #[.slice A n c,.slice B m d] w fun e w'=>e = .returned (.bool (decide (xs=ys)))∧∃ q,w'=w.drewN q:=by
 have hcp:=h.cap
 have hm:=h.max
 have gcp:=g.cap
 have gm:=g.max
 by_cases hnm:n=m
 ·subst hnm
  go_enter Tryz.func68,Tryz.ntmps68
  go_wp2
  go_loopw [5,13] (fun _ i wr=>∃ (k q:Nat),k≤n∧i = .int .i64 k∧wr=w.drewN q∧Hid (xs.take k=ys.take k)) (fun _ i _=>n - (intOf i).toNat)
  case atStart=>exact ⟨0,0,by omega,rfl,rfl,rfl⟩
  case round =>
   obtain ⟨k,q,hk,rfl,rfl,hr⟩:=hrel
   by_cases hlt:k<n
   ·obtain ⟨ad,x,rfl,hc,_,_,hx⟩:=h.at_ hlt
    obtain ⟨ae,y,rfl,hd,_,_,hy⟩:=g.at_ hlt
    by_cases hxy:x=y
    ·subst hxy
     go_wp2
     go_quiet (fail)
     go_wp2
     go_roundw
     case rel=>exact ⟨k+1,_,by omega,by go_num,rfl,take_snoc_eq hr.out hx.out hy.out⟩
     case measure=>simp [intOf];omega
    ·have hne:(x != y)=true:=by simpa using hxy
     have hF:Hid (¬ xs=ys):=fun e=>by
      have h1:=hx.out
      rw [e,hy.out] at h1
      exact hxy (by injection h1 with h1;exact h1.symm)
     clear hxy
     go_wp2
     go_quiet (fail)
     go_wp2
     go_ret
     exact ⟨ret_bool (by simpa using hF.out),_,World.drewN_drewN _ _ _⟩
   ·obtain rfl:k=n:=by omega
    go_wp2
    go_ret
    refine ⟨ret_bool ?_,_,rfl⟩
    have h1:=hr.out
    have h2:=h.len
    have h3:=g.len
    rw [List.take_of_length_le (by omega),List.take_of_length_le (by omega)] at h1
    simpa using h1
 ·have hne:((n:Int) != (m:Int))=true:=by simpa using (by omega:¬ (n:Int)=m)
  have hF:Hid (¬ xs=ys):=fun e=>hnm (by rw [← h.len,← g.len,e])
  clear hnm
  go_enter Tryz.func68,Tryz.ntmps68
  go_wp2
  go_ret
  exact ⟨ret_bool (by simpa using hF.out),0,rfl⟩
theorem impl_a (s:Nat) (A:Option Addr) (n c:Nat) (xs:List Int) (B:Option Addr) (m d:Nat) (i j:Nat) (lo hi:Nat) (w:World) (h:Ints w lo hi A n c xs) (hh:hi≤w.heap.size) (hs:s≤8) (hn:n=s*s) (hi':i<s) (hj:j<s) :
  Calls Tryz.prog 25 #[.agg #[.int .i64 (s:Int),.slice A n c,.slice B m d],.int .i64 (i:Int),.int .i64 (j:Int)] w fun e w'=>e = .returned (.int .i64 (xs.getD (i*s+j) 0))∧Below w.heap.size w w':=by
 have a1:=below_alloc w (.cells #[.int .i64 (s:Int),.slice A n c,.slice B m d] 26)
 have hcp:=h.cap
 have hmx:=h.max
 have hlt:i*s+j<n:=by
  rw [hn]
  have:(i+1)*s≤s*s:=Nat.mul_le_mul_right _ hi'
  rw [Nat.add_mul] at this
  omega
 have hn64:n≤64:=by rw [hn];exact Nat.mul_le_mul hs hs
 obtain ⟨ad,x,rfl,hc,_,_,hx⟩:=(h.below a1 hh).at_ hlt
 have hF:Hid (xs.getD (i*s+j) 0=x):=by show _=_;rw [List.getD,hx.out];rfl
 obtain ⟨q,hq⟩:∃ q:Nat,q=i*s:=⟨_,rfl⟩
 rw [← hq] at hlt hc hF
 have hqi:(i:Int)*(s:Int)=(q:Int):=by rw [hq];simp
 have hw1:=IntWalk.i64_in (q:Int) (by omega)
 have hw2:=IntWalk.i64_in ((q:Int)+(j:Int)) (by omega)
 have hb:(q:Int)+(j:Int)<(n:Int):=by omega
 have ht:((q:Int)+(j:Int)).toNat=q+j:=by omega
 rw [← hq]
 clear hq hx hn
 go_enter Tryz.func25,Tryz.ntmps25
 go_wp2_with fail
 go_ret
 exact ⟨ret_int hF.out.symm,a1⟩
end Go.Proofs.YtomgcbfcnjbofaaGreat
/- Symplectic pairs: the loops of both texts. -/
namespace Go.Proofs.YtomgcbfcnjbofaaGreat
open Go.RowKit
set_option linter.unusedSimpArgs false
set_option linter.unusedVariables false
set_option maxRecDepth 20000
def symJ (n:Nat) (b f g:List Int) (i:Nat):Nat→Nat→Bool
 | 0,_=>true
 | s+1,j=>if plusF (timesF (b.getD i 0) (g.getD (i*n+j) 0)) (timesF (b.getD j 0) (f.getD (j*n+i) 0))=timesF (b.getD i 0) (b.getD j 0) then symJ n b f g i s (j+1) else false
def symI (n:Nat) (b f g:List Int):Nat→Nat→Bool
 | 0,_=>true
 | s+1,i=>if symJ n b f g i n 0=true then symI n b f g s (i+1) else false
def symF (s:Int) (xs ys:List Int) (s':Int) (xs' ys':List Int):Bool:=if pairOkF s xs ys s' xs' ys'=true then decide (ys=ys') && symI s.toNat ys xs xs' s.toNat 0 else false
theorem tabOk_facts {s:Int} {xs ys:List Int} (h:tabOkF s xs ys=true):∃ k:Nat,s=(k:Int)∧k≤8∧xs.length=k*k∧ys.length=k:=by
 unfold tabOkF at h
 simp only [Bool.and_eq_true,decide_eq_true_eq] at h
 obtain ⟨⟨h0,h8⟩,h1,h2,_⟩:=h
 refine ⟨s.toNat,by omega,by omega,?_,by omega⟩
 obtain ⟨k,rfl⟩:∃ k:Nat,s=(k:Int):=⟨s.toNat,by omega⟩
 have:((k*k:Nat):Int)=(k:Int)*k:=by simp
 simp only [Int.toNat_natCast]
 omega
theorem pairOk_facts {s:Int} {xs ys:List Int} {s':Int} {xs' ys':List Int} (h:pairOkF s xs ys s' xs' ys'=true):tabOkF s xs ys=true∧tabOkF s' xs' ys'=true∧s=s':=by
 unfold pairOkF at h
 simp only [Bool.and_eq_true,beq_iff_eq] at h
 exact ⟨h.1,h.2.1,h.2.2⟩
theorem r64_nm {x:Int} (h:0≤x∧x<1000000271):R64 x:=by constructor <;> omega
theorem r64_getD {xs:List Int} (h:∀ x∈xs,R64 x) (p:Nat):R64 (xs.getD p 0):=by
 rw [List.getD]
 cases hx:xs[p]? with
 | none=>constructor <;> simp
 | some x=>exact h x (List.mem_of_getElem? hx)
theorem Ints.cellD {w:World} {lo hi:Nat} {ad:Addr} {n c:Nat} {xs:List Int} (h:Ints w lo hi (some ad) n c xs) {p:Nat} (hp:p<n):w.cell? (ad.add p)=some (.int .i64 (xs.getD p 0)):=by
 obtain ⟨ad',x,e,hc,_,_,hx⟩:=h.at_ hp
 injection e with e
 subst e
 rw [hc,List.getD,hx.out]
 rfl
theorem idx_lt {k a b:Nat} (ha:a<k) (hb:b<k):a*k+b<k*k:=by
 have:(a+1)*k≤k*k:=Nat.mul_le_mul_right _ ha
 rw [Nat.add_mul] at this
 omega
set_option maxRecDepth 100000 in
set_option maxHeartbeats 4000000 in
theorem impl_symplectic (k:Nat) (A:Option Addr) (n c:Nat) (xs:List Int) (B:Option Addr) (d:Nat) (ys:List Int) (A':Option Addr) (n' c':Nat) (xs':List Int) (B':Option Addr) (d':Nat) (ys':List Int) (lo hi:Nat) (w:World) (h:Ints w lo hi A n c xs) (g:Ints w lo hi B k d ys) (h':Ints w lo hi A' n' c' xs') (g':Ints w lo hi B' k d' ys') (hh:hi≤w.heap.size) (hk:k≤8) (hn:n=k*k) (hn':n'=k*k) (t1:tabOkF k xs ys=true) (t2:tabOkF k xs' ys'=true) :
  Calls Tryz.prog 34 #[.agg #[.int .i64 (k:Int),.slice A n c,.slice B k d],.agg #[.int .i64 (k:Int),.slice A' n' c',.slice B' k d']] w fun e w'=>e = .returned (.bool (decide (ys=ys') && symI k ys xs xs' k 0))∧Below w.heap.size w w':=by
 have hcp:=h.cap
 have hmx:=h.max
 have gcp:=g.cap
 have gmx:=g.max
 have HN:=hide (And.intro hn hn')
 have TT:=hide (And.intro t1 t2)
 clear hn hn' t1 t2
 have a1:=below_alloc w (.cells #[.int .i64 (k:Int),.slice A n c,.slice B k d] 26)
 have j1:=BlkN.new w #[.int .i64 (k:Int),.slice A n c,.slice B k d] 26
 have a2:=below_alloc (w.alloc (.cells #[.int .i64 (k:Int),.slice A n c,.slice B k d] 26)) (.cells #[.int .i64 (k:Int),.slice A' n' c',.slice B' k d'] 26)
 have j1b:=j1.below a2
 have j2:=BlkN.new (w.alloc (.cells #[.int .i64 (k:Int),.slice A n c,.slice B k d] 26)) #[.int .i64 (k:Int),.slice A' n' c',.slice B' k d'] 26
 have c0:=a1.trans (a2.mono a1.size)
 simp only [World.size_alloc] at j2
 have z0:=c0.size
 clear a1 a2 j1
 go_enter Tryz.func34,Tryz.ntmps34
 go_wp2_with fail
 generalize (w.alloc (.cells #[.int .i64 (k:Int),.slice A n c,.slice B k d] 26)).alloc (.cells #[.int .i64 (k:Int),.slice A' n' c',.slice B' k d'] 26)=W at c0 j1b j2 z0 ⊢
 refine (impl_TableauOk k A n c xs B k d ys lo hi W (h.below c0 hh) (g.below c0 hh) (by omega)).mono ?_
 rintro e w1 ⟨rfl,b1⟩
 rw [TT.out.1]
 have k1:=j1b.below b1
 have k2:=j2.below b1
 have B1:=c0.trans (b1.mono z0)
 have z1:=B1.size
 clear j1b j2 b1 c0
 have p0:=k2.c 0 rfl
 have p1:=k2.c 1 rfl
 have p2:=k2.c 2 rfl
 go_wp2_with fail
 clear p0 p1 p2
 refine (impl_TableauOk k A' n' c' xs' B' k d' ys' lo hi w1 (h'.below B1 hh) (g'.below B1 hh) (by omega)).mono ?_
 rintro e w2 ⟨rfl,b2⟩
 rw [TT.out.2]
 have l1:=k1.below b2
 have l2:=k2.below b2
 have B2:=B1.trans (b2.mono z1)
 have z2:=B2.size
 clear k1 k2 b2 B1
 have p1:=l1.c 2 rfl
 have p2:=l2.c 2 rfl
 go_wp2_with fail
 clear p1 p2
 refine (slices_Equal B k d ys lo hi B' k d' ys' lo hi w2 (g.below B2 hh) (g'.below B2 hh)).mono ?_
 rintro e w3 ⟨rfl,q,hw3⟩
 have b3:Below w2.heap.size w2 w3:=by rw [hw3];exact below_drewN (Below.refl _ _) q
 clear hw3
 have m1:=l1.below b3
 have m2:=l2.below b3
 have B3:=B2.trans (b3.mono z2)
 have z3:=B3.size
 clear l1 l2 b3 B2
 have q1:=m1.lt
 have q2:=m2.lt
 by_cases hys:ys=ys'
 ·have hd:decide (ys=ys')=true:=by simpa using hys
  have hV:Hid ((decide (ys=ys') && symI k ys xs xs' k 0)=symI k ys xs xs' k 0):=by show _=_;rw [hd];rfl
  rw [hd]
  clear hd hys
  have p1:=m1.c 2 rfl
  go_wp2_with fail
  clear p1
  go_loopw [6,7,28,33] (fun _ _ i _ wr=>∃ (a:Nat),a≤k∧i = .int .i64 a∧Below w3.heap.size w3 wr∧Hid ((decide (ys=ys') && symI k ys xs xs' k 0)=symI k ys xs xs' (k - a) a)) (fun _ _ i _ _=>k - (intOf i).toNat)
  case atStart=>exact ⟨0,by omega,rfl,Below.refl _ _,hV⟩
  case round =>
   clear hV
   obtain ⟨a,ha,rfl,hb,hI⟩:=hrel
   by_cases hlt:a<k
   ·have hI2:Hid ((decide (ys=ys') && symI k ys xs xs' k 0)=if symJ k ys xs xs' a k 0=true then symI k ys xs xs' (k - (a+1)) (a+1) else false):=by
     show _=_
     rw [hI.out,show k - a=(k - (a+1))+1 by omega,symI]
    clear hI
    go_wp2_with fail
    go_loopw [7,33] (fun _ j wr=>∃ (b:Nat),b≤k∧j = .int .i64 b∧Below w3.heap.size w3 wr∧Hid (symJ k ys xs xs' a k 0=symJ k ys xs xs' a (k - b) b)) (fun _ j _=>k - (intOf j).toNat)
    case atStart=>exact ⟨0,by omega,rfl,hb,rfl⟩
    case round =>
     clear hb
     obtain ⟨b,hbk,rfl,hb,hJ⟩:=hrel
     by_cases hlt2:b<k
     ·have hs3:=hb.size
      have n1:=m1.below hb
      have n2:=m2.below hb
      have B4:=B3.trans (hb.mono z3)
      have gI:=g.below B4 hh
      obtain ⟨ad,eB,_,hadb,_⟩:=gI.cells (by omega)
      subst eB
      have hca:=gI.cellD hlt
      have hcb:=gI.cellD hlt2
      obtain ⟨bi,hbi⟩:∃ x,ys.getD a 0=x:=⟨_,rfl⟩
      obtain ⟨bj,hbj⟩:∃ x,ys.getD b 0=x:=⟨_,rfl⟩
      obtain ⟨gv,hgv⟩:∃ x,xs'.getD (a*k+b) 0=x:=⟨_,rfl⟩
      obtain ⟨fv,hfv⟩:∃ x,xs.getD (b*k+a) 0=x:=⟨_,rfl⟩
      have hEq:Hid (symJ k ys xs xs' a k 0=if plusF (timesF bi gv) (timesF bj fv)=timesF bi bj then symJ k ys xs xs' a (k - (b+1)) (b+1) else false):=by
       show _=_
       rw [hJ.out,show k - b=(k - (b+1))+1 by omega,symJ,hbi,hbj,hgv,hfv]
      have rbi:R64 bi:=by rw [← hbi];exact r64_getD g.rng _
      have rbj:R64 bj:=by rw [← hbj];exact r64_getD g.rng _
      have rgv:R64 gv:=by rw [← hgv];exact r64_getD h'.rng _
      have rfv:R64 fv:=by rw [← hfv];exact r64_getD h.rng _
      have rt1:=r64_nm (timesF_bd bi gv)
      have rt2:=r64_nm (timesF_bd bj fv)
      rw [hbi] at hca
      rw [hbj] at hcb
      have d2:Below wr.heap.size wr wr.drew:=(Below.refl _ _).drew
      have dz:=d2.size
      have r1:=n1.below d2
      have r2:=n2.below d2
      have D4:=B4.trans (d2.mono (by omega))
      have hA1:=hide (block_of_add ad a)
      have hA2:=hide (block_of_add ad b)
      have CA:=hide (And.intro hca hcb)
      have G1:=hide (And.intro hgv hfv)
      have p0:=n1.c 0 rfl
      have p1:=n1.c 1 rfl
      have p2:=n1.c 2 rfl
      have p3:=n2.c 0 rfl
      have p4:=n2.c 1 rfl
      have p5:=n2.c 2 rfl
      clear hJ hbi hbj hgv hfv gI n1 n2
      go_wp2_with fail
      go_region_held3 (fun w'=>w'.cell? ⟨w.heap.size,0,none⟩=some (.int .i64 (k:Int))∧w'.cell? ⟨w.heap.size,1,none⟩=some (.slice A n c)∧w'.cell? ⟨w.heap.size,2,none⟩=some (.slice (some ad) k d)∧w'.cell? ⟨w.heap.size+1,0,none⟩=some (.int .i64 (k:Int))∧w'.cell? ⟨w.heap.size+1,1,none⟩=some (.slice A' n' c')∧w'.cell? ⟨w.heap.size+1,2,none⟩=some (.slice B' k d')∧w'.cell? (ad.add a)=some (.int .i64 bi)∧w'.cell? (ad.add b)=some (.int .i64 bj))
       (first | exact ⟨p0,p1,p2,p3,p4,p5,hca,hcb⟩ | exact ⟨s1.c 0 rfl,s1.c 1 rfl,s1.c 2 rfl,s2.c 0 rfl,s2.c 1 rfl,s2.c 2 rfl,X1,X2⟩ | exact ⟨t1'.c 0 rfl,t1'.c 1 rfl,t1'.c 2 rfl,t2'.c 0 rfl,t2'.c 1 rfl,t2'.c 2 rfl,Y1,Y2⟩ | go_keep)
       (first
        | (go_at_call 25;first
          | (refine (impl_a k A n c xs (some ad) k d b a lo hi u1 ((h.below D4 hh).below b6 (by omega)) (by omega) hk HN.out.1 hlt2 hlt).mono ?_;rintro e u2 ⟨rfl,b7⟩;rw [G1.out.2];have y7:=b7.size;have t1':=s1.below b7;have t2':=s2.below b7;have Y1:=(b7.cell (p:=ad.add a) (by have:=hA1.out;omega)).trans X1;have Y2:=(b7.cell (p:=ad.add b) (by have:=hA2.out;omega)).trans X2)
          | (refine (impl_a k A' n' c' xs' B' k d' a b lo hi wr.drew (h'.below D4 hh) (by omega) hk HN.out.2 hlt hlt2).mono ?_;rintro e u1 ⟨rfl,b6⟩;rw [G1.out.1];have y6:=b6.size;have s1:=r1.below b6;have s2:=r2.below b6;have X1:=(b6.cell (p:=ad.add a) (by have:=hA1.out;omega)).trans CA.out.1;have X2:=(b6.cell (p:=ad.add b) (by have:=hA2.out;omega)).trans CA.out.2))
        | (go_at_call 24;refine (impl_Times _ _ _ (by assumption) (by assumption)).mono ?_;rintro e w' ⟨rfl,rfl⟩)
        | (go_at_call 69;refine (impl_Plus _ _ _ (by assumption) (by assumption)).mono ?_;rintro e w' ⟨rfl,rfl⟩))
      clear p0 p1 p2 p3 p4 p5 r1 r2 s1 s2 t1' t2' X1 X2 Y1 Y2 hca hcb CA G1
      by_cases hxy:plusF (timesF bi gv) (timesF bj fv)=timesF bi bj
      ·have E2:=hide (hEq.out.trans (if_pos hxy))
       have HB:=(hb.drew.trans (b6.mono (show w3.heap.size≤wr.drew.heap.size by omega))).trans (b7.mono (show w3.heap.size≤u1.heap.size by omega))
       go_wp2_with fail
       go_roundw
       case rel=>exact ⟨b+1,by omega,by go_num,HB,E2⟩
       case measure=>simp [intOf];omega
      ·have E2:Hid ((decide (ys=ys') && symI k ys xs xs' k 0)=false):=by
        show _=_
        rw [hI2.out,hEq.out,if_neg hxy]
        rfl
       have HB:=B3.trans (((hb.drew.trans (b6.mono (show w3.heap.size≤wr.drew.heap.size by omega))).trans (b7.mono (show w3.heap.size≤u1.heap.size by omega))).mono z3)
       go_wp2_with fail
       go_ret
       exact ⟨ret_bool E2.out.symm,HB⟩
     ·have E2:Hid ((decide (ys=ys') && symI k ys xs xs' k 0)=symI k ys xs xs' (k - (a+1)) (a+1)):=by
       show _=_
       rw [hI2.out,hJ.out,show k - b=0 by omega,symJ,if_pos rfl]
      clear hI2 hJ
      go_wp2_with fail
      go_roundw
      case rel=>exact ⟨a+1,by omega,by go_num,hb,E2⟩
      case measure=>simp [intOf];omega
   ·have E2:Hid ((decide (ys=ys') && symI k ys xs xs' k 0)=true):=by
     show _=_
     rw [hI.out,show k - a=0 by omega,symI]
    have HB:=B3.trans (hb.mono z3)
    go_wp2_with fail
    go_ret
    exact ⟨ret_bool E2.out.symm,HB⟩
 ·have hd:decide (ys=ys')=false:=by simpa using hys
  have hV:Hid ((decide (ys=ys') && symI k ys xs xs' k 0)=false):=by show _=_;rw [hd];rfl
  rw [hd]
  clear hd hys
  go_wp2_with fail
  go_ret
  exact ⟨ret_bool hV.out.symm,B3⟩
end Go.Proofs.YtomgcbfcnjbofaaGreat
/- Symplectic pairs: IsSymplecticPair of both texts. -/
namespace Go.Proofs.YtomgcbfcnjbofaaGreat
open Go.RowKit
set_option linter.unusedSimpArgs false
set_option linter.unusedVariables false
set_option maxRecDepth 20000
set_option maxHeartbeats 1000000 in
theorem impl_IsSymplecticPair (s:Int) (A:Option Addr) (n c:Nat) (xs:List Int) (B:Option Addr) (m d:Nat) (ys:List Int) (s':Int) (A':Option Addr) (n' c':Nat) (xs':List Int) (B':Option Addr) (m' d':Nat) (ys':List Int) (lo hi:Nat) (w:World) (h:Ints w lo hi A n c xs) (g:Ints w lo hi B m d ys) (h':Ints w lo hi A' n' c' xs') (g':Ints w lo hi B' m' d' ys') (hh:hi≤w.heap.size) :
  Calls Tryz.prog 8 #[.agg #[.int .i64 s,.slice A n c,.slice B m d,.int .i64 s',.slice A' n' c',.slice B' m' d']] w fun e w'=>e = .returned (.bool (symF s xs ys s' xs' ys'))∧Below w.heap.size w w':=by
 have a1:=below_alloc w (.cells #[.int .i64 s,.slice A n c,.slice B m d,.int .i64 s',.slice A' n' c',.slice B' m' d'] 30)
 have j1:=BlkN.new w #[.int .i64 s,.slice A n c,.slice B m d,.int .i64 s',.slice A' n' c',.slice B' m' d'] 30
 have z0:=a1.size
 go_enter Tryz.func8,Tryz.ntmps8
 go_wp2_with fail
 generalize World.alloc w (.cells #[.int .i64 s,.slice A n c,.slice B m d,.int .i64 s',.slice A' n' c',.slice B' m' d'] 30)=W at a1 j1 z0 ⊢
 refine (impl_PairOk s A n c xs B m d ys s' A' n' c' xs' B' m' d' ys' lo hi W (h.below a1 hh) (g.below a1 hh) (h'.below a1 hh) (g'.below a1 hh) (by omega)).mono ?_
 rintro e w1 ⟨rfl,b1⟩
 have k1:=j1.below b1
 have B1:=a1.trans (b1.mono z0)
 have z1:=B1.size
 clear j1 b1 a1
 by_cases hok:pairOkF s xs ys s' xs' ys'=true
 ·obtain ⟨o1,o2,rfl⟩:=pairOk_facts hok
  obtain ⟨k,rfl,hk8,hl1,hl2⟩:=tabOk_facts o1
  obtain ⟨k',hkk,_,hl3,hl4⟩:=tabOk_facts o2
  obtain rfl:k=k':=by omega
  have hF:Hid (symF (k:Int) xs ys (k:Int) xs' ys'=(decide (ys=ys') && symI k ys xs xs' k 0)):=if_pos hok
  obtain rfl:m=k:=by rw [← g.len,hl2]
  obtain rfl:m'=m:=by rw [← g'.len,hl4]
  have hn:n=m'*m':=by rw [← h.len,hl1]
  have hn':n'=m'*m':=by rw [← h'.len,hl3]
  have HN:=hide (And.intro hn (And.intro hn' (And.intro o1 o2)))
  rw [hok]
  clear hn hn' o1 o2 hl1 hl2 hl3 hl4 hkk hok
  have p0:=k1.c 0 rfl
  have p1:=k1.c 1 rfl
  have p2:=k1.c 2 rfl
  have p3:=k1.c 3 rfl
  have p4:=k1.c 4 rfl
  have p5:=k1.c 5 rfl
  go_wp2_with fail
  clear p0 p1 p2 p3 p4 p5
  refine (impl_symplectic m' A n c xs B d ys A' n' c' xs' B' d' ys' lo hi w1 (h.below B1 hh) (g.below B1 hh) (h'.below B1 hh) (g'.below B1 hh) (by omega) hk8 HN.out.1 HN.out.2.1 HN.out.2.2.1 HN.out.2.2.2).mono ?_
  rintro e w2 ⟨rfl,b2⟩
  have B2:=B1.trans (b2.mono z1)
  clear k1
  go_wp2_with fail
  go_ret
  exact ⟨ret_bool hF.out.symm,B2⟩
 ·have hF:Hid (symF s xs ys s' xs' ys'=false):=if_neg hok
  have hok':pairOkF s xs ys s' xs' ys'=false:=by simpa using hok
  rw [hok']
  clear hok hok' k1
  go_wp2_with fail
  go_ret
  exact ⟨ret_bool hF.out.symm,B1⟩
end Go.Proofs.YtomgcbfcnjbofaaGreat
/- A region that draws its order and ends in one operation for which all others wait: the world's condition need not hold behind that last one. -/
namespace Go.Proofs.YtomgcbfcnjbofaaGreat
open Go.RowKit
set_option linter.unusedSimpArgs false
set_option linter.unusedVariables false
set_option maxRecDepth 20000
section
variable {P:Program} {ops:Array Oper} {Q:Exit→Act→World→Prop} {md:Region.Mode} {S:World→Prop} {z:Nat}
def wpAnyZ (P:Program) (md:Region.Mode) (ops:Array Oper) (Q:Exit→Act→World→Prop) (S:World→Prop) (z:Nat):Nat→Array Bool→Act→World→Prop
 | 0,listed,a,w=>Region.ready md ops listed=[]∧Q .normal a w
 | fuel+1,listed,a,w =>
  (Region.ready md ops listed=[]→Q .normal a w) ∧
  ∀ i∈Region.ready md ops listed,wpOp P ops Q i (fun a' w'=>((listed.setIfInBounds i true).getD z true=false→S w')∧wpAnyZ P md ops Q S z fuel (listed.setIfInBounds i true) a' w') a w
theorem wpAny_of_Z:∀ (fuel:Nat) (listed:Array Bool) (a:Act) (w:World),wpAnyZ P md ops Q S z fuel listed a w→wpAny P md ops Q fuel listed a w
 | 0,_,_,_,h=>h
 | fuel+1,_,_,_,h=>⟨h.1,fun i hi=>wpOp_mono (fun a' w' h'=>wpAny_of_Z fuel _ a' w' h'.2) (h.2 i hi)⟩
theorem waits_spec {j i:Nat} (h:(ops[j]?.any fun o=>o.after.any fun e=>Region.binds md e && e.on == i)=true):∃ oj,ops[j]? = some oj∧∃ e∈oj.after,Region.binds md e=true∧e.on=i:=by
 cases hj:ops[j]? with
 | none=>rw [hj] at h;cases h
 | some oj =>
  rw [hj] at h
  obtain ⟨e,he,hb⟩:=Array.any_eq_true'.1 (show oj.after.any (fun e=>Region.binds md e && e.on == i)=true from h)
  simp only [Bool.and_eq_true,beq_iff_eq] at hb
  exact ⟨oj,rfl,e,he,hb.1,hb.2⟩
theorem set_at (listed:Array Bool) (z:Nat):(listed.setIfInBounds z true).getD z true=true:=by
 rcases Nat.lt_or_ge z listed.size with h | h
 ·simp [h]
 ·simp [Nat.not_lt.2 h]
theorem unset {listed:Array Bool} {i z:Nat} (h:(listed.setIfInBounds i true).getD z true=false):listed.getD z true=false:=by
 by_cases hiz:i=z
 ·subst hiz;rw [set_at] at h;cases h
 ·rwa [getD_set_ne true hiz] at h
theorem wpAnyZ_first {T:World→Prop} {i:Nat} {oi:Oper} {v:Value} (hi:ops[i]? = some oi) (hsel:∀ (j:Nat) (o:Oper) cs b,ops[j]? = some o→o.op ≠ .select cs b)
  (hQ:∀ c a w,Q (.panic c) (a.put oi.dst v) w→Q (.panic c) a w) (hiz:i≠z) (hT:∀ w,S w→T w) :
  ∀ (fuel:Nat) (listed:Array Bool) (a:Act) (w:World),
   ((ops[z]?.any fun o=>o.after.any fun e=>Region.binds md e && e.on == i)=true∧listed.getD z true=false∨∀ w,T w) →
   (∀ j oj,ops[j]? = some oj→j≠i→listed.getD j true=false→(∀ e∈oj.after,Region.binds md e=true→e.on≠i)→oi.apart ops oj=true) →
   i∈Region.ready md ops listed→YieldsIf P ops T oi v a→T w→(listed.getD z true=false→S w) →
   wpAnyZ P md ops Q S z fuel (listed.setIfInBounds i true) (a.put oi.dst v) w→wpAnyZ P md ops Q S z (fuel+1) listed a w:=by
 intro fuel
 induction fuel with
 | zero =>
  intro listed a w _ _ hr hy hTw hS H
  refine ⟨fun h=>(by rw [h] at hr;cases hr),fun j hj=>?_⟩
  by_cases hji:j=i
  ·subst hji;exact hy.wpOp hi hTw ⟨fun h=>hS (unset h),H⟩
  ·have:=ready_mono hj hji
   rw [H.1] at this
   cases this
 | succ fuel ih =>
  intro listed a w hz hfree hr hy hTw hS H
  refine ⟨fun h=>(by rw [h] at hr;cases hr),fun j hj=>?_⟩
  by_cases hji:j=i
  ·subst hji;exact hy.wpOp hi hTw ⟨fun h=>hS (unset h),H⟩
  ·have h1:=H.2 j (ready_mono hj hji)
   obtain ⟨hjun,oj,hoj,hall⟩:=mem_ready.1 hj
   have hnot:∀ e∈oj.after,Region.binds md e=true→e.on≠i:=fun e he hb heq=>by
    have h1:=hall e he hb
    have h0:=(mem_ready.1 hr).1
    rw [heq] at h1
    rcases Nat.lt_or_ge i listed.size with h' | h'
    ·simp [h'] at h0 h1;rw [h0] at h1;cases h1
    ·simp [Array.getElem?_eq_none h'] at h1
   have hz':(ops[z]?.any fun o=>o.after.any fun e=>Region.binds md e && e.on == i)=true∧(listed.setIfInBounds j true).getD z true=false∨∀ w,T w:=by
    rcases hz with ⟨hz,hu⟩ | hz
    ·refine .inl ⟨hz,?_⟩
     have hjz:j≠z:=fun hjz=>by
      obtain ⟨oz,hoz,e,he,hb,hon⟩:=waits_spec hz
      subst hjz
      have:oz=oj:=Option.some.inj (hoz.symm.trans hoj)
      subst this
      exact hnot e he hb hon
     rw [getD_set_ne true hjz];exact hu
    ·exact .inr hz
   have hset:∀ {x:World},(((listed.setIfInBounds i true).setIfInBounds j true).getD z true=false→S x)→(listed.setIfInBounds j true).getD z true=false→S x:=fun h hu=>h (by
    rw [Array.setIfInBounds_comm _ _ (Ne.symm hji),getD_set_ne true hiz];exact hu)
   have h2:=wpOp_putIf hoj (hfree j oj hoj hji hjun hnot) (fun cs b=>hsel i oi cs b hi) (fun cs b=>hsel j oj cs b hoj) hQ hy h1
   have hfree':∀ k ok,ops[k]? = some ok→k≠i→(listed.setIfInBounds j true).getD k true=false →
     (∀ e∈ok.after,Region.binds md e=true→e.on≠i)→oi.apart ops ok=true:=fun k ok hk hki hun hno=>by
    refine hfree k ok hk hki ?_ hno
    by_cases hjk:j=k
    ·subst hjk;exact hjun
    ·rw [getD_set_ne true hjk] at hun;exact hun
   refine wpOp_mono (fun a' w' h3=>⟨hset h3.2.1,ih (listed.setIfInBounds j true) a' w' hz' hfree' (ready_mono hr (Ne.symm hji)) h3.1 ?_ (hset h3.2.1) ?_⟩) h2
   ·rcases hz' with ⟨_,hu⟩ | hz'
    ·exact hT _ (hset h3.2.1 hu)
    ·exact hz' _
   ·rw [Array.setIfInBounds_comm _ _ hji]
    exact h3.2.2
theorem wpAnyZ_take (i:Nat) (v:Value) {oi:Oper} {fuel:Nat} {listed:Array Bool} {a:Act} {w:World} (hi:ops[i]? = some oi)
  (hs:Region.noSelect ops=true) (hf:(Region.free md ops listed i && (Region.ready md ops listed).contains i && (decide (i≠z) && ((ops[z]?.any fun o=>o.after.any fun e=>Region.binds md e && e.on == i) && !(listed.getD z true))))=true)
  (hQ:∀ c a w,Q (.panic c) (a.put oi.dst v) w→Q (.panic c) a w) (hw:Region.wanted oi (yielded ops a.tmps)=true) (hy:∀ w,S w→(execOp a.eval oi).run P w = .ok (.value v) w) (hS:S w)
  (h:wpAnyZ P md ops Q S z fuel (listed.setIfInBounds i true) (a.put oi.dst v) w):wpAnyZ P md ops Q S z (fuel+1) listed a w:=by
 simp only [Bool.and_eq_true,decide_eq_true_eq,Bool.not_eq_true'] at hf
 exact wpAnyZ_first (T:=S) hi (Region.noSelect_spec hs) hQ hf.2.1 (fun _ h=>h) fuel listed a w (.inl ⟨hf.2.2.1,hf.2.2.2⟩) (Region.free_spec hi hf.1.1) (by simpa using hf.1.2) (Or.inl ⟨hw,hy⟩) hS (fun _=>hS) h
theorem wpAnyZ_takeW (i:Nat) (v:Value) {oi:Oper} {fuel:Nat} {listed:Array Bool} {a:Act} {w:World} (hi:ops[i]? = some oi)
  (hs:Region.noSelect ops=true) (hf:(Region.free md ops listed i && (Region.ready md ops listed).contains i && decide (i≠z))=true)
  (hQ:∀ c a w,Q (.panic c) (a.put oi.dst v) w→Q (.panic c) a w) (hw:Region.wanted oi (yielded ops a.tmps)=true) (hy:∀ w,(execOp a.eval oi).run P w = .ok (.value v) w) (hS:S w)
  (h:wpAnyZ P md ops Q S z fuel (listed.setIfInBounds i true) (a.put oi.dst v) w):wpAnyZ P md ops Q S z (fuel+1) listed a w:=by
 simp only [Bool.and_eq_true,decide_eq_true_eq] at hf
 exact wpAnyZ_first (T:=fun _=>True) hi (Region.noSelect_spec hs) hQ hf.2 (fun _ _=>trivial) fuel listed a w (.inr fun _=>trivial) (Region.free_spec hi hf.1.1) (by simpa using hf.1.2) (Or.inl ⟨hw,fun w _=>hy w⟩) trivial (fun _=>hS) h
theorem wpAnyZ_one (i:Nat) {oi:Oper} {fuel:Nat} {listed:Array Bool} {a:Act} {w:World} (hr:Region.ready md ops listed=[i]) (hi:ops[i]? = some oi) (hw:Region.wanted oi (yielded ops a.tmps)=true)
  (h:∀ K':Act→World→Prop,Hid (∀ a w,S w→wpAnyZ P md ops Q S z fuel (listed.setIfInBounds i true) a w→K' a w)→Oper.wp P oi a w K' Q):wpAnyZ P md ops Q S z (fuel+1) listed a w:=by
 refine ⟨fun h0=>(by rw [h0] at hr;cases hr),fun j hj=>?_⟩
 rw [hr] at hj
 obtain rfl:j=i:=by simpa using hj
 refine wpOp_step hi (fun K' hK=>?_)
 rw [if_pos hw]
 exact h K' (fun a w hS hW=>hK a w ⟨fun _=>hS,hW⟩)
theorem wpAnyZ_two (i j:Nat) {oi oj:Oper} {fuel:Nat} {listed:Array Bool} {a:Act} {w:World} (hr:Region.ready md ops listed=[i,j]) (hi:ops[i]? = some oi) (hj:ops[j]? = some oj) (hwi:Region.wanted oi (yielded ops a.tmps)=true) (hwj:Region.wanted oj (yielded ops a.tmps)=true)
  (h1:∀ K':Act→World→Prop,Hid (∀ a w,S w→wpAnyZ P md ops Q S z fuel (listed.setIfInBounds i true) a w→K' a w)→Oper.wp P oi a w K' Q)
  (h2:∀ K':Act→World→Prop,Hid (∀ a w,S w→wpAnyZ P md ops Q S z fuel (listed.setIfInBounds j true) a w→K' a w)→Oper.wp P oj a w K' Q):wpAnyZ P md ops Q S z (fuel+1) listed a w:=by
 refine ⟨fun h0=>(by rw [h0] at hr;cases hr),fun k hk=>?_⟩
 rw [hr] at hk
 rcases List.mem_cons.1 hk with rfl | hk
 ·refine wpOp_step hi (fun K' hK=>?_)
  rw [if_pos hwi]
  exact h1 K' (fun a w hS hW=>hK a w ⟨fun _=>hS,hW⟩)
 ·obtain rfl:k=j:=by simpa using hk
  refine wpOp_step hj (fun K' hK=>?_)
  rw [if_pos hwj]
  exact h2 K' (fun a w hS hW=>hK a w ⟨fun _=>hS,hW⟩)
theorem wpAnyZ_three (i j l:Nat) {oi oj ol:Oper} {fuel:Nat} {listed:Array Bool} {a:Act} {w:World} (hr:Region.ready md ops listed=[i,j,l]) (hi:ops[i]? = some oi) (hj:ops[j]? = some oj) (hl:ops[l]? = some ol) (hwi:Region.wanted oi (yielded ops a.tmps)=true) (hwj:Region.wanted oj (yielded ops a.tmps)=true) (hwl:Region.wanted ol (yielded ops a.tmps)=true)
  (h1:∀ K':Act→World→Prop,Hid (∀ a w,S w→wpAnyZ P md ops Q S z fuel (listed.setIfInBounds i true) a w→K' a w)→Oper.wp P oi a w K' Q)
  (h2:∀ K':Act→World→Prop,Hid (∀ a w,S w→wpAnyZ P md ops Q S z fuel (listed.setIfInBounds j true) a w→K' a w)→Oper.wp P oj a w K' Q)
  (h3:∀ K':Act→World→Prop,Hid (∀ a w,S w→wpAnyZ P md ops Q S z fuel (listed.setIfInBounds l true) a w→K' a w)→Oper.wp P ol a w K' Q):wpAnyZ P md ops Q S z (fuel+1) listed a w:=by
 refine ⟨fun h0=>(by rw [h0] at hr;cases hr),fun k hk=>?_⟩
 rw [hr] at hk
 rcases List.mem_cons.1 hk with rfl | hk
 ·refine wpOp_step hi (fun K' hK=>?_)
  rw [if_pos hwi]
  exact h1 K' (fun a w hS hW=>hK a w ⟨fun _=>hS,hW⟩)
 ·rcases List.mem_cons.1 hk with rfl | hk
  ·refine wpOp_step hj (fun K' hK=>?_)
   rw [if_pos hwj]
   exact h2 K' (fun a w hS hW=>hK a w ⟨fun _=>hS,hW⟩)
  ·obtain rfl:k=l:=by simpa using hk
   refine wpOp_step hl (fun K' hK=>?_)
   rw [if_pos hwl]
   exact h3 K' (fun a w hS hW=>hK a w ⟨fun _=>hS,hW⟩)
theorem wpAnyZ_last {oz:Oper} {fuel:Nat} {listed:Array Bool} {a:Act} {w:World} (hr:Region.ready md ops listed=[z]) (hi:ops[z]? = some oz) (hr2:Region.ready md ops (listed.setIfInBounds z true)=[]) (hw:Region.wanted oz (yielded ops a.tmps)=true)
  (h:∀ K':Act→World→Prop,(∀ a w,Q .normal a w→K' a w)→Oper.wp P oz a w K' Q):wpAnyZ P md ops Q S z (fuel+1) listed a w:=by
 refine ⟨fun h0=>(by rw [h0] at hr;cases hr),fun j hj=>?_⟩
 rw [hr] at hj
 obtain rfl:j=z:=by simpa using hj
 refine wpOp_step hi (fun K' hK=>?_)
 rw [if_pos hw]
 refine h K' (fun a w hW=>hK a w ⟨fun h=>(by rw [set_at] at h;cases h),?_⟩)
 cases fuel with
 | zero=>exact ⟨hr2,hW⟩
 | succ n=>exact ⟨fun _=>hW,by rw [hr2];simp⟩
theorem wpAnyZ_last2 (y:Nat) {oz oy:Oper} {fuel:Nat} {listed:Array Bool} {a:Act} {w:World} (hr:Region.ready md ops listed=[z]) (hi:ops[z]? = some oz) (hr2:Region.ready md ops (listed.setIfInBounds z true)=[y]) (hy:ops[y]? = some oy)
  (hr3:Region.ready md ops ((listed.setIfInBounds z true).setIfInBounds y true)=[]) (hyz:y≠z) (hw:Region.wanted oz (yielded ops a.tmps)=true) (hwy:∀ ys,Region.wanted oy ys=true)
  (h:∀ K':Act→World→Prop,(∀ a w,Oper.wp P oy a w (fun a w=>Q .normal a w) Q→K' a w)→Oper.wp P oz a w K' Q):wpAnyZ P md ops Q S z (fuel+2) listed a w:=by
 refine ⟨fun h0=>(by rw [h0] at hr;cases hr),fun j hj=>?_⟩
 rw [hr] at hj
 obtain rfl:j=z:=by simpa using hj
 refine wpOp_step hi (fun K' hK=>?_)
 rw [if_pos hw]
 refine h K' (fun a w hW=>hK a w ⟨fun h=>(by rw [set_at] at h;cases h),?_⟩)
 refine ⟨fun h0=>(by rw [h0] at hr2;cases hr2),fun i hi2=>?_⟩
 rw [hr2] at hi2
 obtain rfl:i=y:=by simpa using hi2
 refine wpOp_step hy (fun K2 hK2=>?_)
 rw [if_pos (hwy _)]
 refine Oper.wp_mono (fun a w hW=>hK2 a w ⟨fun h=>?_,?_⟩) hW
 ·rw [getD_set_ne true hyz,set_at] at h;cases h
 ·cases fuel with
  | zero=>exact ⟨hr3,hW⟩
  | succ n=>exact ⟨fun _=>hW,by rw [hr3];simp⟩
theorem wp_region_Z (S:World→Prop) (z:Nat) {id:Nat} {a:Act} {w:World} (hm:P.follows .mixedOrders=true)
  (h:wpAnyZ P .any ops Q S z ops.size (Array.replicate ops.size false) a w.drew):(Code.region id ops true).wp P Q a w :=
 wp_region_any hm (wpAny_of_Z _ _ _ _ h)
end
end Go.Proofs.YtomgcbfcnjbofaaGreat
/- Marks on tableaus and pairs: the statements' helpers. -/
namespace Go.Proofs.YtomgcbfcnjbofaaGreat
open Go.RowKit
set_option linter.unusedSimpArgs false
set_option linter.unusedVariables false
set_option maxRecDepth 20000
end Go.Proofs.YtomgcbfcnjbofaaGreat
/- Words (an order and its numbers): what they read as, their making, their checks, the statements' helpers on them. -/
namespace Go.Proofs.YtomgcbfcnjbofaaGreat
open Go.RowKit
set_option linter.unusedSimpArgs false
set_option linter.unusedVariables false
set_option maxRecDepth 20000
end Go.Proofs.YtomgcbfcnjbofaaGreat
/- WordsOk of both texts. -/
namespace Go.Proofs.YtomgcbfcnjbofaaGreat
open Go.RowKit
set_option linter.unusedSimpArgs false
set_option linter.unusedVariables false
set_option maxRecDepth 20000
end Go.Proofs.YtomgcbfcnjbofaaGreat
