/- A row of monomials put in order by exchanges of neighbours. -/
import Derived.Test.YtomgcbfcnjbofaaGreatMgM
namespace Go.Proofs.YtomgcbfcnjbofaaGreat
open Go.RowKit
set_option linter.unusedSimpArgs false
set_option linter.unusedVariables false
set_option maxRecDepth 20000
theorem SortC.cells2 {w W:World} {lo g n c:Nat} {es:List El} (h:SortC w W lo g n c es) {p q:Nat} {e1 e2:El} (h1:es[p]? = some e1) (h2:es[q]? = some e2) (hp:p<n) (hq:q<n) :
  W.cell? ⟨g,p*2,none⟩=some (.int .i64 e1.x)∧W.cell? ⟨g,p*2+1,none⟩=some (.slice e1.B e1.m e1.d)∧W.cell? ⟨g,q*2,none⟩=some (.int .i64 e2.x)∧W.cell? ⟨g,q*2+1,none⟩=some (.slice e2.B e2.m e2.d):=by
 obtain ⟨_,he1,a,b,_⟩:=h.at_ hp
 obtain ⟨_,he2,a',b',_⟩:=h.at_ hq
 rw [he1.out] at h1
 rw [he2.out] at h2
 injection h1 with h1
 injection h2 with h2
 subst h1 h2
 exact ⟨a,b,a',b'⟩
theorem SortC.some_ {w W:World} {lo g n c:Nat} {es:List El} (h:SortC w W lo g n c es) {k:Nat} (hk:k<n):∃ x B m d xs,es[k]? = some ⟨x,B,m,d,xs⟩:=by
 have hl:=h.len
 exact ⟨_,_,_,_,_,List.getElem?_eq_getElem (by omega)⟩
set_option maxHeartbeats 8000000 in
theorem lib_insertion (w W:World) (lo g n c:Nat) (es:List El) (h:SortC w W lo g n c es) (a b:Nat) (hab:a≤b) (hb:b≤n) (hnb:n≤4611686018427387904) :
  Calls Tryz.prog 115 #[.slice (some ⟨g,0,none⟩) n c,.int .i64 a,.int .i64 b,.func (.func 78) #[] #[]] W fun r W'=>r = .returned (.tuple #[])∧∃ es',List.Perm es' es∧SortC w W' lo g n c es':=by
 have hcb:=h.capb
 have HS:=hide h
 clear h
 go_enter Tryz.func115,Tryz.ntmps115
 go_wp2_with fail
 go_loopw [8] (fun i wr=>∃ (k:Nat) (es':List El),a+1≤k∧k≤b+1∧i = .int .i64 k∧Hid (List.Perm es' es)∧Hid (SortC w wr lo g n c es')) (fun i _=>b+1 - (intOf i).toNat)
 case atStart=>exact ⟨a+1,es,by omega,by omega,by go_num,List.Perm.refl _,HS.out⟩
 case round =>
  clear HS
  obtain ⟨k,es',hk1,hk2,rfl,hP,hS⟩:=hrel
  by_cases hlt:k<b
  ·go_wp2_with fail
   go_loopw [9] (fun i wr=>∃ (j:Nat) (es':List El),a≤j∧j≤k∧i = .int .i64 j∧Hid (List.Perm es' es)∧Hid (SortC w wr lo g n c es')) (fun i _=>(intOf i).toNat)
   case atStart=>exact ⟨k,es',by omega,by omega,rfl,hP.out,hS.out⟩
   case round =>
    clear hP hS
    obtain ⟨j,es',hj1,hj2,rfl,hP,hS⟩:=hrel
    by_cases hja:a<j
    ·have hgd:decide ((a:Int)<(j:Int))=true:=by simpa using hja
     obtain ⟨q,hq⟩:∃ q,q=j - 1:=⟨_,rfl⟩
     have hw0:IntKind.i64.wrap ((j:Int) - 1)=(q:Int):=by rw [show (q:Int)=(j:Int) - 1 by omega];exact IntWalk.i64_in _ (by omega)
     have hjn:j<n:=by omega
     have hqn:q<n:=by omega
     have hqj:q<j:=by omega
     have HQ:=hide hq
     clear hq
     obtain ⟨x1,B1,m1,d1,xs1,he1⟩:=hS.out.some_ hjn
     obtain ⟨x2,B2,m2,d2,xs2,he2⟩:=hS.out.some_ hqn
     have T0:=hS.out.cells2 he1 he2 hjn hqn
     have T1:=hS.out.drew.cells2 he1 he2 hjn hqn
     have HC:=hide (collect_cmp x1 B1 m1 d1 xs1 x2 B2 m2 d2 xs2 g wr.drew (hS.out.drew.mem he1) (hS.out.drew.mem he2))
     have HE1:=hide he1
     have HE2:=hide he2
     clear he1 he2
     go_wp2_with fail
     go_region_held3 (fun w'=>w'.cell? ⟨g,j*2,none⟩=some (.int .i64 x1)∧w'.cell? ⟨g,j*2+1,none⟩=some (.slice B1 m1 d1)∧w'.cell? ⟨g,q*2,none⟩=some (.int .i64 x2)∧w'.cell? ⟨g,q*2+1,none⟩=some (.slice B2 m2 d2)) (first | exact T0 | exact T1 | exact T2.out | go_keep)
      (first
       | (go_at_call 78;refine HC.out.mono ?_;rintro r w1 ⟨z,rfl,hz,hb1⟩;have hS1:=hide (hS.out.drew.below hb1);have T2:=hide (hS1.out.cells2 HE1.out HE2.out hjn hqn);clear HC))
     clear T0 T1
     by_cases hz0:z<0
     ·have n1:¬ j*2=q*2:=by omega
      have n2:¬ j*2=q*2+1:=by omega
      have n3:¬ j*2+1=q*2:=by omega
      have n4:¬ j*2+1=q*2+1:=by omega
      obtain ⟨_,_,_,_,f1,f2,_⟩:=hS1.out.at_ hjn
      obtain ⟨_,_,_,_,f3,f4,_⟩:=hS1.out.at_ hqn
      obtain ⟨c1,c2,c3,c4⟩:=T2.out
      have g1:=hide (hS1.out.swap hjn hqn HE1.out HE2.out).drew
      have g2:Hid (List.Perm ((es'.set j ⟨x2,B2,m2,d2,xs2⟩).set q ⟨x1,B1,m1,d1,xs1⟩) es):=(perm_swap HE1.out HE2.out).trans hP.out
      clear HE1 HE2 T2 hS1 hS hP hz hb1
      go_wp2_with fail
      go_region
      go_wp2_with fail
      go_roundw
      case rel=>exact ⟨q,_,by have:=HQ.out;omega,by omega,rfl,g2.out,g1.out⟩
      case measure=>simp [intOf];omega
     ·clear HE1 HE2 T2 hz
      have g1:=hS1
      clear hS hb1
      go_wp2_with fail
      go_roundw
      case rel=>exact ⟨k+1,es',by omega,by omega,by go_num,hP.out,g1.out⟩
      case measure=>simp [intOf];omega
    ·have hgd:decide ((a:Int)<(j:Int))=false:=by simpa using hja
     have g1:=hide fun q=>hS.out.below (below_drewN (Below.refl _ _) q)
     clear hS
     go_wp2_with fail
     go_quiet (fail)
     go_wp2_with fail
     go_roundw
     case rel=>exact ⟨k+1,es',by omega,by omega,by go_num,hP.out,g1.out _⟩
     case measure=>simp [intOf];omega
  ·go_wp2_with fail
   go_end0
   exact ⟨rfl,es',hP.out,hS.out⟩
end Go.Proofs.YtomgcbfcnjbofaaGreat
/- A row of monomials put in order: turning a part of it, merging two parts. -/
namespace Go.Proofs.YtomgcbfcnjbofaaGreat
open Go.RowKit
set_option linter.unusedSimpArgs false
set_option linter.unusedVariables false
set_option maxRecDepth 20000
set_option maxHeartbeats 8000000 in
theorem lib_rotate (w W:World) (lo g n c:Nat) (es:List El) (h:SortC w W lo g n c es) (a m b:Nat) (ham:a<m) (hmb:m<b) (hb:b≤n) (hnb:n≤4611686018427387904) (cl:Value) :
  Calls Tryz.prog 120 #[.slice (some ⟨g,0,none⟩) n c,.int .i64 a,.int .i64 m,.int .i64 b,cl] W fun r W'=>r = .returned (.tuple #[])∧∃ es',List.Perm es' es∧SortC w W' lo g n c es':=by
 have HS:=hide h
 clear h
 have hi0:IntKind.i64.wrap ((m:Int) - a)=((m - a:Nat):Int):=by rw [show ((m - a:Nat):Int)=(m:Int) - a by omega];exact IntWalk.i64_in _ (by omega)
 have hj0:IntKind.i64.wrap ((b:Int) - m)=((b - m:Nat):Int):=by rw [show ((b - m:Nat):Int)=(b:Int) - m by omega];exact IntWalk.i64_in _ (by omega)
 obtain ⟨i0,hi0'⟩:∃ i0,i0=m - a:=⟨_,rfl⟩
 obtain ⟨j0,hj0'⟩:∃ j0,j0=b - m:=⟨_,rfl⟩
 rw [← hi0'] at hi0
 rw [← hj0'] at hj0
 have hb1:0<i0∧i0≤m∧0<j0∧m+j0≤n:=by omega
 clear hi0' hj0'
 go_enter Tryz.func120,Tryz.ntmps120
 go_wp2_with fail
 clear hi0 hj0
 go_loopw [10,11] (fun x y wr=>∃ (i j:Nat) (es':List El),0<i∧i≤m∧0<j∧m+j≤n∧x = .int .i64 i∧y = .int .i64 j∧Hid (List.Perm es' es)∧Hid (SortC w wr lo g n c es')) (fun x y _=>(intOf x).toNat+(intOf y).toNat)
 case atStart=>exact ⟨i0,j0,es,by omega,by omega,by omega,by omega,rfl,rfl,List.Perm.refl _,HS.out⟩
 case round =>
  clear HS hb1
  obtain ⟨i,j,es',hi1,hi2,hj1,hj2,rfl,rfl,hP,hS⟩:=hrel
  have hw0:IntKind.i64.wrap ((m:Int) - i)=((m - i:Nat):Int):=by rw [show ((m - i:Nat):Int)=(m:Int) - i by omega];exact IntWalk.i64_in _ (by omega)
  by_cases hij:i=j
  ·subst hij
   have HC:=hide (lib_swapRange w wr lo g n c es' hS.out (m - i) m i (by omega) (by omega) cl)
   obtain ⟨q,hq⟩:∃ q,q=m - i:=⟨_,rfl⟩
   rw [← hq] at hw0 HC
   clear hq
   go_wp2_with fail
   refine HC.out.mono ?_
   rintro r w1 ⟨rfl,es2,hP2,hS2⟩
   have HP2:Hid (List.Perm es2 es):=hP2.trans hP.out
   have HS2:=hide hS2
   clear hP2 hS2 HC hS hP
   go_wp2_with fail
   go_end0
   exact ⟨rfl,es2,HP2.out,HS2.out⟩
  ·by_cases hgt:j<i
   ·have HC:=hide (lib_swapRange w wr lo g n c es' hS.out (m - i) m j (by omega) (by omega) cl)
    obtain ⟨q,hq⟩:∃ q,q=m - i:=⟨_,rfl⟩
    rw [← hq] at hw0 HC
    have hne:((i:Int) != (j:Int))=true:=by simpa using (by omega:¬ (i:Int)=j)
    clear hq hij
    go_wp2_with fail
    refine HC.out.mono ?_
    rintro r w1 ⟨rfl,es2,hP2,hS2⟩
    have HP2:Hid (List.Perm es2 es):=hP2.trans hP.out
    have HS2:=hide hS2
    clear hP2 hS2 HC hS hP
    go_wp2_with fail
    go_roundw
    case rel=>exact ⟨i - j,j,es2,by omega,by omega,by omega,by omega,by go_num,rfl,HP2.out,HS2.out⟩
    case measure=>simp [intOf];omega
   ·have hw1:IntKind.i64.wrap ((m:Int)+j)=((m+j:Nat):Int):=by rw [show ((m+j:Nat):Int)=(m:Int)+j by simp];exact IntWalk.i64_in _ (by omega)
    have hw2:IntKind.i64.wrap (((m+j:Nat):Int) - i)=((m+j - i:Nat):Int):=by rw [show ((m+j - i:Nat):Int)=((m+j:Nat):Int) - i by omega];exact IntWalk.i64_in _ (by omega)
    have HC:=hide (lib_swapRange w wr lo g n c es' hS.out (m - i) (m+j - i) i (by omega) (by omega) cl)
    have hne:((i:Int) != (j:Int))=true:=by simpa using (by omega:¬ (i:Int)=j)
    obtain ⟨q,hq⟩:∃ q,q=m - i:=⟨_,rfl⟩
    rw [← hq] at hw0 HC
    obtain ⟨s,hs⟩:∃ s,s=m+j - i:=⟨_,rfl⟩
    rw [← hs] at hw2 HC
    obtain ⟨t,ht⟩:∃ t,t=m+j:=⟨_,rfl⟩
    rw [← ht] at hw1 hw2
    have hlt:i<j:=by omega
    clear hq hs ht hij hgt
    go_wp2_with fail
    refine HC.out.mono ?_
    rintro r w1 ⟨rfl,es2,hP2,hS2⟩
    have HP2:Hid (List.Perm es2 es):=hP2.trans hP.out
    have HS2:=hide hS2
    clear hP2 hS2 HC hS hP
    go_wp2_with fail
    go_roundw
    case rel=>exact ⟨i,j - i,es2,by omega,by omega,by omega,by omega,rfl,by go_num,HP2.out,HS2.out⟩
    case measure=>simp [intOf];omega
set_option maxHeartbeats 8000000 in
theorem lib_symMerge_one (w W:World) (lo g n c:Nat) (es:List El) (h:SortC w W lo g n c es) (a m b:Nat) (ham:m=a+1) (hmb:m<b) (hb:b≤n) (hnb:n≤1099511627776) :
  Calls Tryz.prog 116 #[.slice (some ⟨g,0,none⟩) n c,.int .i64 a,.int .i64 m,.int .i64 b,.func (.func 78) #[] #[]] W fun r W'=>r = .returned (.tuple #[])∧∃ es',List.Perm es' es∧SortC w W' lo g n c es':=by
 have hcb:=h.capb
 have HS:=hide h
 clear h
 have hi0:IntKind.i64.wrap ((m:Int) - a)=1:=by rw [show (m:Int) - a=1 by omega];exact IntWalk.i64_in _ (by omega)
 have ham1:a<m:=by omega
 have HAM:=hide ham
 clear ham
 go_enter Tryz.func116,Tryz.ntmps116
 go_wp2_with fail
 clear hi0
 go_loopw [10,11] (fun x y wr=>∃ (i j:Nat),m≤i∧i≤j∧j≤b∧x = .int .i64 i∧y = .int .i64 j∧Hid (SortC w wr lo g n c es)) (fun x y _=>(intOf y).toNat - (intOf x).toNat)
 case atStart=>exact ⟨m,b,by omega,by omega,by omega,rfl,rfl,HS.out⟩
 case round =>
  clear HS
  obtain ⟨i,j,hi1,hij,hj,rfl,rfl,hS⟩:=hrel
  by_cases hlt:i<j
  ·obtain ⟨q,hq⟩:∃ q,q=(i+j) / 2:=⟨_,rfl⟩
   have hh:((i:Int)+j) / 2=(q:Int):=by omega
   have hqn:q<n:=by omega
   have hpn:a<n:=by omega
   have hqi:i≤q∧q<j:=by omega
   clear hq
   go_wp2_with fail
   clear hh
   obtain ⟨x1,B1,m1,d1,xs1,he1⟩:=hS.out.some_ hqn
   obtain ⟨x2,B2,m2,d2,xs2,he2⟩:=hS.out.some_ hpn
   have T0:=hS.out.cells2 he1 he2 hqn hpn
   have T1:=hS.out.drew.cells2 he1 he2 hqn hpn
   have HC:=hide (collect_cmp x1 B1 m1 d1 xs1 x2 B2 m2 d2 xs2 g wr.drew (hS.out.drew.mem he1) (hS.out.drew.mem he2))
   have HE1:=hide he1
   have HE2:=hide he2
   clear he1 he2
   go_region_held3 (fun w'=>w'.cell? ⟨g,q*2,none⟩=some (.int .i64 x1)∧w'.cell? ⟨g,q*2+1,none⟩=some (.slice B1 m1 d1)∧w'.cell? ⟨g,a*2,none⟩=some (.int .i64 x2)∧w'.cell? ⟨g,a*2+1,none⟩=some (.slice B2 m2 d2)) (first | exact T0 | exact T1 | exact T2.out | go_keep)
    (first
     | (go_at_call 78;refine HC.out.mono ?_;rintro r w1 ⟨z,rfl,hz,hb1⟩;have hS1:=hide (hS.out.drew.below hb1);have T2:=hide (hS1.out.cells2 HE1.out HE2.out hqn hpn);clear HC))
   clear T0 T1 T2 HE1 HE2 hz hb1 hS
   by_cases hz0:z<0
   ·go_wp2_with fail
    go_roundw
    case rel=>exact ⟨q+1,j,by omega,by omega,by omega,by go_num,rfl,hS1.out⟩
    case measure=>simp [intOf];omega
   ·go_wp2_with fail
    go_roundw
    case rel=>exact ⟨i,q,by omega,by omega,by omega,rfl,rfl,hS1.out⟩
    case measure=>simp [intOf];omega
  ·have hw0:IntKind.i64.wrap ((i:Int) - 1)=((i - 1:Nat):Int):=by rw [show ((i - 1:Nat):Int)=(i:Int) - 1 by omega];exact IntWalk.i64_in _ (by omega)
   obtain ⟨t,ht⟩:∃ t,t=i - 1:=⟨_,rfl⟩
   rw [← ht] at hw0
   have htn:t<n∧a≤t:=by have:=HAM.out;omega
   have HT:=hide ht
   clear ht
   go_wp2_with fail
   go_loopw [13] (fun x wr=>∃ (k:Nat) (es':List El),k≤t∧x = .int .i64 k∧Hid (List.Perm es' es)∧Hid (SortC w wr lo g n c es')) (fun x _=>t - (intOf x).toNat)
   case atStart=>exact ⟨a,es,by omega,rfl,List.Perm.refl _,hS.out⟩
   case round =>
    clear hS
    obtain ⟨k,es',hk,rfl,hP,hS⟩:=hrel
    by_cases hlt2:k<t
    ·have hw1:IntKind.i64.wrap ((k:Int)+1)=((k+1:Nat):Int):=by rw [show ((k+1:Nat):Int)=(k:Int)+1 by simp];exact IntWalk.i64_in _ (by omega)
     obtain ⟨r,hr⟩:∃ r,r=k+1:=⟨_,rfl⟩
     rw [← hr] at hw1
     have hkn:k<n:=by omega
     have hrn:r<n:=by omega
     have hkr:k<r:=by omega
     have HR:=hide hr
     clear hr
     obtain ⟨e1,he1,c1,c2,f1,f2,_⟩:=hS.out.at_ hkn
     obtain ⟨e2,he2,c3,c4,f3,f4,_⟩:=hS.out.at_ hrn
     have n1:¬ k*2=r*2:=by omega
     have n2:¬ k*2=r*2+1:=by omega
     have n3:¬ k*2+1=r*2:=by omega
     have n4:¬ k*2+1=r*2+1:=by omega
     have g1:=hide (hS.out.swap hkn hrn he1.out he2.out).drew
     have g2:Hid (List.Perm ((es'.set k e2).set r e1) es):=(perm_swap he1.out he2.out).trans hP.out
     clear he1 he2 hS hP
     go_wp2_with fail
     go_region
     go_wp2_with fail
     go_roundw
     case rel=>exact ⟨r,_,by have:=HR.out;omega,by have:=HR.out;first | rfl | go_num,g2.out,g1.out⟩
     case measure=>simp [intOf];omega
    ·go_wp2_with fail
     refine bodyPost_ret (results_none rfl _ _ _) rfl ?_
     exact ⟨rfl,es',hP.out,hS.out⟩
end Go.Proofs.YtomgcbfcnjbofaaGreat
/- A row of monomials put in order: merging two parts. -/
namespace Go.Proofs.YtomgcbfcnjbofaaGreat
open Go.RowKit
set_option linter.unusedSimpArgs false
set_option linter.unusedVariables false
set_option maxRecDepth 20000
set_option maxHeartbeats 8000000 in
theorem lib_symMerge_last (w W:World) (lo g n c:Nat) (es:List El) (h:SortC w W lo g n c es) (a m b:Nat) (ham:a+1<m) (hmb:b=m+1) (hb:b≤n) (hnb:n≤1099511627776) :
  Calls Tryz.prog 116 #[.slice (some ⟨g,0,none⟩) n c,.int .i64 a,.int .i64 m,.int .i64 b,.func (.func 78) #[] #[]] W fun r W'=>r = .returned (.tuple #[])∧∃ es',List.Perm es' es∧SortC w W' lo g n c es':=by
 have hcb:=h.capb
 have HS:=hide h
 clear h
 have hi0:IntKind.i64.wrap ((m:Int) - a)=((m - a:Nat):Int):=by rw [show ((m - a:Nat):Int)=(m:Int) - a by omega];exact IntWalk.i64_in _ (by omega)
 have hj0:IntKind.i64.wrap ((b:Int) - m)=1:=by rw [show (b:Int) - m=1 by omega];exact IntWalk.i64_in _ (by omega)
 obtain ⟨d0,hd0⟩:∃ d0,d0=m - a:=⟨_,rfl⟩
 rw [← hd0] at hi0
 have hne:((d0:Int) == 1)=false:=by simpa using (by omega:¬ (d0:Int)=1)
 have hmn:m<n:=by omega
 have ham1:a≤m:=by omega
 clear hd0 hmb ham
 go_enter Tryz.func116,Tryz.ntmps116
 go_wp2_with fail
 clear hi0 hj0 hne
 go_loopw [14,15] (fun x y wr=>∃ (i j:Nat),a≤i∧i≤j∧j≤m∧x = .int .i64 i∧y = .int .i64 j∧Hid (SortC w wr lo g n c es)) (fun x y _=>(intOf y).toNat - (intOf x).toNat)
 case atStart=>exact ⟨a,m,by omega,by omega,by omega,rfl,rfl,HS.out⟩
 case round =>
  clear HS
  obtain ⟨i,j,hi1,hij,hj,rfl,rfl,hS⟩:=hrel
  by_cases hlt:i<j
  ·obtain ⟨q,hq⟩:∃ q,q=(i+j) / 2:=⟨_,rfl⟩
   have hh:((i:Int)+j) / 2=(q:Int):=by omega
   have hqn:q<n:=by omega
   have hqi:i≤q∧q<j:=by omega
   clear hq
   go_wp2_with fail
   clear hh
   obtain ⟨x1,B1,m1,d1,xs1,he1⟩:=hS.out.some_ hmn
   obtain ⟨x2,B2,m2,d2,xs2,he2⟩:=hS.out.some_ hqn
   have T0:=hS.out.cells2 he1 he2 hmn hqn
   have T1:=hS.out.drew.cells2 he1 he2 hmn hqn
   have HC:=hide (collect_cmp x1 B1 m1 d1 xs1 x2 B2 m2 d2 xs2 g wr.drew (hS.out.drew.mem he1) (hS.out.drew.mem he2))
   have HE1:=hide he1
   have HE2:=hide he2
   clear he1 he2
   go_region_held3 (fun w'=>w'.cell? ⟨g,m*2,none⟩=some (.int .i64 x1)∧w'.cell? ⟨g,m*2+1,none⟩=some (.slice B1 m1 d1)∧w'.cell? ⟨g,q*2,none⟩=some (.int .i64 x2)∧w'.cell? ⟨g,q*2+1,none⟩=some (.slice B2 m2 d2)) (first | exact T0 | exact T1 | exact T2.out | go_keep)
    (first
     | (go_at_call 78;refine HC.out.mono ?_;rintro r w1 ⟨z,rfl,hz,hb1⟩;have hS1:=hide (hS.out.drew.below hb1);have T2:=hide (hS1.out.cells2 HE1.out HE2.out hmn hqn);clear HC))
   clear T0 T1 T2 HE1 HE2 hz hb1 hS
   obtain ⟨bz,hbz⟩:∃ bz,bz=(!decide (z<0)):=⟨_,rfl⟩
   rw [← hbz]
   clear hbz
   cases bz with
   | false =>
    go_wp2_with fail
    go_roundw
    case rel=>exact ⟨i,q,by omega,by omega,by omega,rfl,rfl,hS1.out⟩
    case measure=>simp [intOf];omega
   | true =>
    go_wp2_with fail
    go_roundw
    case rel=>exact ⟨q+1,j,by omega,by omega,by omega,by go_num,rfl,hS1.out⟩
    case measure=>simp [intOf];omega
  ·go_wp2_with fail
   go_loopw [17] (fun x wr=>∃ (k:Nat) (es':List El),i≤k∧k≤m∧x = .int .i64 k∧Hid (List.Perm es' es)∧Hid (SortC w wr lo g n c es')) (fun x _=>(intOf x).toNat)
   case atStart=>exact ⟨m,es,by omega,by omega,rfl,List.Perm.refl _,hS.out⟩
   case round =>
    clear hS
    obtain ⟨k,es',hk,hkm,rfl,hP,hS⟩:=hrel
    by_cases hlt2:i<k
    ·obtain ⟨r,hr⟩:∃ r,r=k - 1:=⟨_,rfl⟩
     have hw1:IntKind.i64.wrap ((k:Int) - 1)=(r:Int):=by rw [show (r:Int)=(k:Int) - 1 by omega];exact IntWalk.i64_in _ (by omega)
     have hkn:k<n:=by omega
     have hrn:r<n:=by omega
     have hkr:r<k:=by omega
     have HR:=hide hr
     clear hr
     obtain ⟨e1,he1,c1,c2,f1,f2,_⟩:=hS.out.at_ hkn
     obtain ⟨e2,he2,c3,c4,f3,f4,_⟩:=hS.out.at_ hrn
     have n1:¬ k*2=r*2:=by omega
     have n2:¬ k*2=r*2+1:=by omega
     have n3:¬ k*2+1=r*2:=by omega
     have n4:¬ k*2+1=r*2+1:=by omega
     have g1:=hide (hS.out.swap hkn hrn he1.out he2.out).drew
     have g2:Hid (List.Perm ((es'.set k e2).set r e1) es):=(perm_swap he1.out he2.out).trans hP.out
     clear he1 he2 hS hP
     go_wp2_with fail
     go_region
     go_wp2_with fail
     go_roundw
     case rel=>exact ⟨r,_,by have:=HR.out;omega,by omega,rfl,g2.out,g1.out⟩
     case measure=>simp [intOf];omega
    ·go_wp2_with fail
     refine bodyPost_ret (results_none rfl _ _ _) rfl ?_
     exact ⟨rfl,es',hP.out,hS.out⟩
structure Mid (a m b mid s0 r0:Nat):Prop where
 lo:a≤s0
 le:s0≤r0
 rm:r0≤m
 rd:r0≤mid
 far:mid+m≤s0+b
theorem mid_of {a m b mid:Nat} (ham:a<m) (hmb:m<b) (hm:mid=(a+b) / 2):(mid<m→b≤mid+m∧Mid a m b mid (mid+m - b) mid)∧(¬ mid<m→Mid a m b mid a m) :=
 ⟨fun h=>⟨by omega,⟨by omega,by omega,by omega,by omega,by omega⟩⟩,fun h=>⟨by omega,by omega,by omega,by omega,by omega⟩⟩
set_option maxHeartbeats 16000000 in
theorem lib_symMerge_mid (w W:World) (lo g n c:Nat) (es:List El) (h:SortC w W lo g n c es) (a m b:Nat) (ham:a+1<m) (hmb:m+1<b) (hb:b≤n) (hnb:n≤1099511627776)
  (IH:Hid (∀ (W:World) (es:List El) (a' m' b':Nat),SortC w W lo g n c es→a'<m'→m'<b'→b'≤n→b' - a'<b - a→Calls Tryz.prog 116 #[.slice (some ⟨g,0,none⟩) n c,.int .i64 a',.int .i64 m',.int .i64 b',.func (.func 78) #[] #[]] W fun r W'=>r = .returned (.tuple #[])∧∃ es',List.Perm es' es∧SortC w W' lo g n c es')) :
  Calls Tryz.prog 116 #[.slice (some ⟨g,0,none⟩) n c,.int .i64 a,.int .i64 m,.int .i64 b,.func (.func 78) #[] #[]] W fun r W'=>r = .returned (.tuple #[])∧∃ es',List.Perm es' es∧SortC w W' lo g n c es':=by
 have hcb:=h.capb
 have HS:=hide h
 clear h
 have hi0:IntKind.i64.wrap ((m:Int) - a)=((m - a:Nat):Int):=by rw [show ((m - a:Nat):Int)=(m:Int) - a by omega];exact IntWalk.i64_in _ (by omega)
 have hj0:IntKind.i64.wrap ((b:Int) - m)=((b - m:Nat):Int):=by rw [show ((b - m:Nat):Int)=(b:Int) - m by omega];exact IntWalk.i64_in _ (by omega)
 obtain ⟨d0,hd0⟩:∃ d0,d0=m - a:=⟨_,rfl⟩
 rw [← hd0] at hi0
 have hne:((d0:Int) == 1)=false:=by simpa using (by omega:¬ (d0:Int)=1)
 obtain ⟨d1,hd1⟩:∃ d1,d1=b - m:=⟨_,rfl⟩
 rw [← hd1] at hj0
 have hne1:((d1:Int) == 1)=false:=by simpa using (by omega:¬ (d1:Int)=1)
 obtain ⟨mid,hmd⟩:∃ mid,mid=(a+b) / 2:=⟨_,rfl⟩
 have hmid:=hide (mid_of (a:=a) (m:=m) (b:=b) (by omega) (by omega) hmd)
 have hh:((a:Int)+b) / 2=(mid:Int):=by omega
 have hmidb:a<mid∧mid<b:=by omega
 clear hd0 hd1 hmd
 have hw0:IntKind.i64.wrap ((mid:Int)+m)=((mid+m:Nat):Int):=by rw [show ((mid+m:Nat):Int)=(mid:Int)+m by simp];exact IntWalk.i64_in _ (by omega)
 obtain ⟨N,hN⟩:∃ N,N=mid+m:=⟨_,rfl⟩
 rw [← hN] at hw0
 have HN:=hide hN
 have hNb:N≤4398046511104∧0<N∧m<N:=by omega
 have hm1:a<m∧m<b:=by omega
 have hab:Hid (a+1<m∧m+1<b):=⟨ham,hmb⟩
 clear hN ham hmb
 go_enter Tryz.func116,Tryz.ntmps116
 go_upto_if 140 with fail
 clear hi0 hj0 hne hne1 hh hw0
 go_cut [20,21] (fun x y wx=>∃ (s0 r0:Nat),x = .int .i64 s0∧y = .int .i64 r0∧Hid (Mid a m b mid s0 r0)∧wx=W)
 case first =>
  as_aux_lemma =>
  by_cases hgt:mid<m
  ·have hNN:=HN.out
   have h1:=hmid.out.1 hgt
   have h11:=h1.1
   have hw1:IntKind.i64.wrap ((N:Int) - b)=((N - b:Nat):Int):=by rw [show ((N - b:Nat):Int)=(N:Int) - b by omega];exact IntWalk.i64_in _ (by omega)
   obtain ⟨s0,hs0⟩:∃ s0,s0=N - b:=⟨_,rfl⟩
   rw [← hs0] at hw1
   have hM:Hid (Mid a m b mid s0 mid):=by show Mid _ _ _ _ _ _;rw [hs0,hNN];exact h1.2
   clear hs0 h1 h11 hNN
   go_wp2_with fail
   go_meet
   case rel=>exact ⟨s0,mid,rfl,rfl,hM,rfl⟩
  ·have hM:=hide (hmid.out.2 hgt)
   go_wp2_with fail
   go_meet
   case rel=>exact ⟨a,m,rfl,rfl,hM,rfl⟩
 case rest =>
  obtain ⟨s0,r0,rfl,rfl,hM,rfl⟩:=hcut
  have hMo:=hM.out
  have hm2:=hMo.lo
  have hm3:=hMo.le
  have hm4:=hMo.rm
  have hm5:=hMo.rd
  have hm6:=hMo.far
  have hNN:=HN.out
  rw [← hNN] at hm6
  clear hMo hNN
  have hw2:IntKind.i64.wrap ((N:Int) - 1)=((N - 1:Nat):Int):=by rw [show ((N - 1:Nat):Int)=(N:Int) - 1 by omega];exact IntWalk.i64_in _ (by omega)
  obtain ⟨p,hp⟩:∃ p,p=N - 1:=⟨_,rfl⟩
  rw [← hp] at hw2
  have hpN:p+1=N:=by omega
  have HPN:=hide hpN
  clear hp hpN hmid
  go_wp2_with fail
  clear hw2
  go_loopw [20,21] (fun x y wr=>∃ (i j:Nat),s0≤i∧i≤j∧j≤r0∧x = .int .i64 i∧y = .int .i64 j∧Hid (SortC w wr lo g n c es)) (fun x y _=>(intOf y).toNat - (intOf x).toNat)
  case atStart=>exact ⟨s0,r0,by omega,by omega,by omega,rfl,rfl,HS.out⟩
  case round =>
   clear HS
   obtain ⟨i,j,hi1,hij,hj,rfl,rfl,hS⟩:=hrel
   by_cases hlt:i<j
   ·obtain ⟨q,hq⟩:∃ q,q=(i+j) / 2:=⟨_,rfl⟩
    have hh:((i:Int)+j) / 2=(q:Int):=by omega
    have hpN:=HPN.out
    have hqn:q<n:=by omega
    have hqi:i≤q∧q<j:=by omega
    have hw3:IntKind.i64.wrap ((p:Int) - q)=((p - q:Nat):Int):=by rw [show ((p - q:Nat):Int)=(p:Int) - q by omega];exact IntWalk.i64_in _ (by omega)
    obtain ⟨t,ht⟩:∃ t,t=p - q:=⟨_,rfl⟩
    rw [← ht] at hw3
    have htn:t<n:=by omega
    clear hq ht hpN
    go_wp2_with fail
    clear hh
    as_aux_lemma =>
    obtain ⟨x1,B1,m1,d1,xs1,he1⟩:=hS.out.some_ htn
    obtain ⟨x2,B2,m2,d2,xs2,he2⟩:=hS.out.some_ hqn
    have T0:=hS.out.cells2 he1 he2 htn hqn
    have T1:=hS.out.drew.cells2 he1 he2 htn hqn
    have HC:=hide (collect_cmp x1 B1 m1 d1 xs1 x2 B2 m2 d2 xs2 g wr.drew (hS.out.drew.mem he1) (hS.out.drew.mem he2))
    have HE1:=hide he1
    have HE2:=hide he2
    clear he1 he2
    go_region_held3 (fun w'=>w'.cell? ⟨g,t*2,none⟩=some (.int .i64 x1)∧w'.cell? ⟨g,t*2+1,none⟩=some (.slice B1 m1 d1)∧w'.cell? ⟨g,q*2,none⟩=some (.int .i64 x2)∧w'.cell? ⟨g,q*2+1,none⟩=some (.slice B2 m2 d2)) (first | exact T0 | exact T1 | exact T2.out | go_keep)
     (first
      | (go_at_call 78;refine HC.out.mono ?_;rintro r w1 ⟨z,rfl,hz,hb1⟩;have hS1:=hide (hS.out.drew.below hb1);have T2:=hide (hS1.out.cells2 HE1.out HE2.out htn hqn);clear HC))
    clear T0 T1 T2 HE1 HE2 hz hb1 hS
    obtain ⟨bz,hbz⟩:∃ bz,bz=(!decide (z<0)):=⟨_,rfl⟩
    rw [← hbz]
    clear hbz
    cases bz with
    | false =>
     go_wp2_with fail
     go_roundw
     case rel=>exact ⟨i,q,by omega,by omega,by omega,rfl,rfl,hS1.out⟩
     case measure=>simp [intOf];omega
    | true =>
     go_wp2_with fail
     go_roundw
     case rel=>exact ⟨q+1,j,by omega,by omega,by omega,by go_num,rfl,hS1.out⟩
     case measure=>simp [intOf];omega
   ·have hw4:IntKind.i64.wrap ((N:Int) - i)=((N - i:Nat):Int):=by rw [show ((N - i:Nat):Int)=(N:Int) - i by omega];exact IntWalk.i64_in _ (by omega)
    obtain ⟨en,hen⟩:∃ en,en=N - i:=⟨_,rfl⟩
    rw [← hen] at hw4
    have henb:en≤b∧mid≤en:=by have:=HN.out;omega
    have him:a≤i∧i≤m∧i≤mid:=by omega
    clear hen hij hj hi1 hm2 hm3 hm4 hm5 hm6 hM
    go_upto_region 39 with fail
    clear hw4 hlt
    as_aux_lemma =>
    go_cut [185] (fun v wx=>∃ bv:Bool,v = .bool bv∧Hid (bv=true→i<m∧m<en)∧wx=wr)
    case first =>
     by_cases h1:i<m
     ·by_cases h2:m<en
      ·go_wp2_with fail
       go_meet
       case rel=>exact ⟨true,rfl,hide (fun _=>⟨h1,h2⟩),rfl⟩
      ·go_wp2_with fail
       go_meet
       case rel=>exact ⟨false,rfl,hide (fun h=>absurd h (by decide)),rfl⟩
     ·go_wp2_with fail
      go_meet
      case rel=>exact ⟨false,rfl,hide (fun h=>absurd h (by decide)),rfl⟩
    case rest =>
     as_aux_lemma =>
     have hP:Hid (List.Perm es es):=List.Perm.refl _
     obtain ⟨bv,rfl,hbv,rfl⟩:=hcut
     go_upto_if 185 with fail
     go_cut [] (fun wx=>∃ es2:List El,Hid (List.Perm es2 es)∧Hid (SortC w wx lo g n c es2))
     case first =>
      cases bv with
      | true =>
       have hbo:=hbv.out rfl
       have HC:=hide (lib_rotate w wc lo g n c es hS.out i m en hbo.1 hbo.2 (by omega) (by omega) (.func (.func 78) #[] #[]))
       clear hbo
       go_wp2_with fail
       refine HC.out.mono ?_
       rintro r w1 ⟨rfl,es2,hP2,hS2⟩
       go_wp2_with fail
       go_meet
       case rel=>exact ⟨es2,hP2.trans hP.out,hS2⟩
      | false =>
       go_wp2_with fail
       go_meet
       case rel=>exact ⟨_,hP.out,hS.out⟩
     case rest =>
      obtain ⟨es2,hP,hS⟩:=hcut
      clear hbv
      go_upto_region 41 with fail
      as_aux_lemma =>
      go_cut [199] (fun v wx=>∃ bv:Bool,v = .bool bv∧Hid (bv=true→a<i∧i<mid)∧wx=wc)
      case first =>
       by_cases h1:a<i
       ·by_cases h2:i<mid
        ·go_wp2_with fail
         go_meet
         case rel=>exact ⟨true,rfl,hide (fun _=>⟨h1,h2⟩),rfl⟩
        ·go_wp2_with fail
         go_meet
         case rel=>exact ⟨false,rfl,hide (fun h=>absurd h (by decide)),rfl⟩
       ·go_wp2_with fail
        go_meet
        case rel=>exact ⟨false,rfl,hide (fun h=>absurd h (by decide)),rfl⟩
      case rest =>
       as_aux_lemma =>
       obtain ⟨bv,rfl,hbv,rfl⟩:=hcut
       go_upto_if 199 with fail
       go_cut [] (fun wx=>∃ es2:List El,Hid (List.Perm es2 es)∧Hid (SortC w wx lo g n c es2))
       case first =>
        cases bv with
        | true =>
         have hbo:=hbv.out rfl
         have HC:=hide (IH.out wc es2 a i mid hS.out hbo.1 hbo.2 (by omega) (by omega))
         clear hbo
         go_wp2_with fail
         refine HC.out.mono ?_
         rintro r w1 ⟨rfl,es2,hP2,hS2⟩
         go_wp2_with fail
         go_meet
         case rel=>exact ⟨es2,hP2.trans hP.out,hS2⟩
        | false =>
         go_wp2_with fail
         go_meet
         case rel=>exact ⟨_,hP.out,hS.out⟩
       case rest =>
        obtain ⟨es3,hP,hS⟩:=hcut
        clear hbv
        go_upto_region 43 with fail
        as_aux_lemma =>
        go_cut [213] (fun v wx=>∃ bv:Bool,v = .bool bv∧Hid (bv=true→mid<en∧en<b)∧wx=wc)
        case first =>
         by_cases h1:mid<en
         ·by_cases h2:en<b
          ·go_wp2_with fail
           go_meet
           case rel=>exact ⟨true,rfl,hide (fun _=>⟨h1,h2⟩),rfl⟩
          ·go_wp2_with fail
           go_meet
           case rel=>exact ⟨false,rfl,hide (fun h=>absurd h (by decide)),rfl⟩
         ·go_wp2_with fail
          go_meet
          case rel=>exact ⟨false,rfl,hide (fun h=>absurd h (by decide)),rfl⟩
        case rest =>
         as_aux_lemma =>
         obtain ⟨bv,rfl,hbv,rfl⟩:=hcut
         go_upto_if 213 with fail
         cases bv with
         | true =>
          have hbo:=hbv.out rfl
          have HC:=hide (IH.out wc es3 mid en b hS.out hbo.1 hbo.2 (by omega) (by omega))
          clear hbo
          go_wp2_with fail
          refine HC.out.mono ?_
          rintro r w1 ⟨rfl,es2,hP2,hS2⟩
          have hP3:=hide (hP2.trans hP.out)
          have hS3:=hide hS2
          clear hP2 hS2
          go_wp2_with fail
          go_end0
          exact ⟨rfl,es2,hP3.out,hS3.out⟩
         | false =>
          go_wp2_with fail
          go_end0
          exact ⟨rfl,_,hP.out,hS.out⟩
theorem lib_symMerge (w:World) (lo g n c:Nat) (hnb:n≤1099511627776):∀ (s:Nat) (W:World) (es:List El) (a m b:Nat),SortC w W lo g n c es→a<m→m<b→b≤n→b - a≤s →
  Calls Tryz.prog 116 #[.slice (some ⟨g,0,none⟩) n c,.int .i64 a,.int .i64 m,.int .i64 b,.func (.func 78) #[] #[]] W fun r W'=>r = .returned (.tuple #[])∧∃ es',List.Perm es' es∧SortC w W' lo g n c es'
 | 0,_,_,_,_,_,_,_,_,_,hs=>absurd hs (by omega)
 | s+1,W,es,a,m,b,h,ham,hmb,hb,hs=>by
  by_cases h1:m=a+1
  ·exact lib_symMerge_one w W lo g n c es h a m b h1 hmb hb hnb
  ·by_cases h2:b=m+1
   ·exact lib_symMerge_last w W lo g n c es h a m b (by omega) h2 hb hnb
   ·exact lib_symMerge_mid w W lo g n c es h a m b (by omega) (by omega) hb hnb (fun W' es' a' m' b' h' ha' hm' hb' hd=>lib_symMerge w lo g n c hnb s W' es' a' m' b' h' ha' hm' hb' (by omega))
end Go.Proofs.YtomgcbfcnjbofaaGreat
