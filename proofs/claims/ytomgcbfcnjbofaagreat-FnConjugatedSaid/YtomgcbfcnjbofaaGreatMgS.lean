/- The law's own words: big, ints, shaped. -/
import Derived.Test.YtomgcbfcnjbofaaGreatMgF
import Derived.Test.YtomgcbfcnjbofaaGreatMgK
import Derived.Test.YtomgcbfcnjbofaaGreatMgL
import Derived.Test.YtomgcbfcnjbofaaGreatMgH
import Derived.Test.YtomgcbfcnjbofaaGreatConjP
namespace Go.Proofs.YtomgcbfcnjbofaaGreat
open Go.RowKit
set_option linter.unusedSimpArgs false
set_option linter.unusedVariables false
set_option maxRecDepth 20000
theorem laws_big (A:Option Addr) (n c:Nat) (w:World) (hn:n≤9223372036854775807) :
  Calls Tryz.prog 4 #[.slice A n c] w fun e w'=>e = .returned (.bool (decide (1048576<n)))∧w=w':=by
 go_enter Tryz.func4,Tryz.ntmps4
 go_wp2
 go_ret
 exact ⟨ret_bool (by simp;omega),rfl⟩
theorem take_snoc_eqQ {xs ys:List Int} {k:Nat} {x:Int} (h:xs.take k=ys.take k) (hx:xs[k]? = some x) (hy:ys[k]? = some x):xs.take (k+1)=ys.take (k+1):=by
 rw [List.take_add_one,List.take_add_one,h,hx,hy]
set_option maxHeartbeats 400000 in
theorem laws_ints (A:Option Addr) (n c:Nat) (xs:List Int) (lo hi:Nat) (B:Option Addr) (m d:Nat) (ys:List Int) (lo' hi':Nat) (w:World) (h:Ints w lo hi A n c xs) (g:Ints w lo' hi' B m d ys) :
  Calls Tryz.prog 14 #[.slice A n c,.slice B m d] w fun e w'=>e = .returned (.bool (decide (xs=ys)))∧∃ q,w'=w.drewN q:=by
 have hcp:=h.cap
 have hm:=h.max
 have gcp:=g.cap
 have gm:=g.max
 by_cases hnm:n=m
 ·subst hnm
  go_enter Tryz.func14,Tryz.ntmps14
  go_wp2
  go_loopw [5] (fun i wr=>∃ (k q:Nat),k≤n∧i = .int .i64 k∧wr=w.drewN q∧Hid (xs.take k=ys.take k)) (fun i _=>n - (intOf i).toNat)
  case atStart=>exact ⟨0,0,by omega,rfl,rfl,rfl⟩
  case round =>
   obtain ⟨k,q,hk,rfl,rfl,hr⟩:=hrel
   by_cases hlt:k<n
   ·obtain ⟨ad,x,rfl,hc,_,_,hx⟩:=h.at_ hlt
    obtain ⟨ae,y,rfl,hd,_,_,hy⟩:=g.at_ hlt
    by_cases hxy:x=y
    ·subst hxy
     go_wp2
     go_quiet (fail)
     go_wp2
     go_roundw
     case rel=>exact ⟨k+1,_,by omega,by go_num,rfl,take_snoc_eqQ hr.out hx.out hy.out⟩
     case measure=>simp [intOf];omega
    ·have hne:(x != y)=true:=by simpa using hxy
     have hF:Hid (¬ xs=ys):=fun e=>by
      have h1:=hx.out
      rw [e,hy.out] at h1
      exact hxy (by injection h1 with h1;exact h1.symm)
     clear hxy
     go_wp2
     go_quiet (fail)
     go_wp2
     go_ret
     exact ⟨ret_bool (by simpa using hF.out),_,World.drewN_drewN _ _ _⟩
   ·obtain rfl:k=n:=by omega
    go_wp2
    go_ret
    refine ⟨ret_bool ?_,_,rfl⟩
    have h1:=hr.out
    have h2:=h.len
    have h3:=g.len
    rw [List.take_of_length_le (by omega),List.take_of_length_le (by omega)] at h1
    simpa using h1
 ·have hne:((n:Int) != (m:Int))=true:=by simpa using (by omega:¬ (n:Int)=m)
  have hF:Hid (¬ xs=ys):=fun e=>hnm (by rw [← h.len,← g.len,e])
  clear hnm
  go_enter Tryz.func14,Tryz.ntmps14
  go_wp2
  go_ret
  exact ⟨ret_bool (by simpa using hF.out),0,rfl⟩
def shapedF (xss:List (List Int)) (c w:Int):Bool:=xss.all (fun r=>decide ((r.length:Int)=w)) && decide ((xss.length:Int)=c)
set_option maxHeartbeats 400000 in
theorem laws_shaped (A:Option Addr) (n c:Nat) (xss:List (List Int)) (lo hi:Nat) (cn wd:Int) (w:World) (h:Ints2 w lo hi A n c xss) :
  Calls Tryz.prog 13 #[.slice A n c,.int .i64 cn,.int .i64 wd] w fun e w'=>e = .returned (.bool (shapedF xss cn wd))∧w=w':=by
 have hcp:=h.cap
 have hm:=h.max
 go_enter Tryz.func13,Tryz.ntmps13
 go_wp2_with fail
 go_loop [7] (fun i=>∃ (k:Nat),k≤n∧i = .int .i64 k∧Hid (∀ (j:Nat) (r:List Int),j<k→xss[j]? = some r→(r.length:Int)=wd)) (fun i=>n - (intOf i).toNat)
 case atStart=>exact ⟨0,by omega,rfl,fun j r hj=>by omega⟩
 case round =>
  obtain ⟨k,hk,rfl,hr⟩:=hrel
  by_cases hlt:k<n
  ·obtain ⟨ad,B,m,d,xs,rfl,hc,hi1,hd,hx⟩:=h.at_ hlt
   have hml:=hide hi1.len
   have hcm:=hi1.cap
   have hmm:=hi1.max
   by_cases hdim:(m:Int)=wd
   ·have hG:Hid (∀ (j:Nat) (r:List Int),j<k+1→xss[j]? = some r→(r.length:Int)=wd):=fun j r hj hq=>by
     by_cases h1:j<k
     ·exact hr.out j r h1 hq
     ·obtain rfl:j=k:=by omega
      rw [hx.out] at hq
      injection hq with hq
      subst hq
      rw [hml.out]
      exact hdim
    clear hr
    subst hdim
    go_wp2_with fail
    go_round
    case rel=>exact ⟨k+1,by omega,by go_num,hG⟩
    case measure=>simp [intOf];omega
   ·have hne:((m:Int) != wd)=true:=by simpa using hdim
    have hF:Hid (shapedF xss cn wd=false):=by
     show _=_
     unfold shapedF
     rw [Bool.and_eq_false_iff]
     left
     rw [List.all_eq_false]
     exact ⟨xs,List.mem_of_getElem? hx.out,by rw [hml.out];simpa using hdim⟩
    clear hdim hr
    go_wp2_with fail
    go_ret
    exact ⟨ret_bool hF.out.symm,rfl⟩
  ·obtain rfl:k=n:=by omega
   have hall:Hid (xss.all (fun r=>decide ((r.length:Int)=wd))=true):=by
    show _=_
    rw [List.all_eq_true]
    intro r hr2
    obtain ⟨j,hj,he⟩:=List.mem_iff_getElem.1 hr2
    have:=hr.out j r (by have:=h.len;omega) (by rw [List.getElem?_eq_getElem hj,he])
    simpa using this
   have hlen:=hide h.len
   clear hr
   go_wp2_with fail
   go_ret
   refine ⟨ret_bool ?_,rfl⟩
   unfold shapedF
   rw [hall.out,hlen.out,Bool.true_and]
   rw [Bool.eq_iff_iff]
   simp
end Go.Proofs.YtomgcbfcnjbofaaGreat
/- The law's tangents: the second half of each row. -/
namespace Go.Proofs.YtomgcbfcnjbofaaGreat
open Go.RowKit
set_option linter.unusedSimpArgs false
set_option linter.unusedVariables false
set_option maxRecDepth 20000
set_option maxRecDepth 100000 in
set_option maxHeartbeats 4000000 in
theorem laws_tangents (A:Option Addr) (n c:Nat) (xss:List (List Int)) (lo hi:Nat) (w:World) (h:Ints2 w lo hi A n c xss) (hh:hi≤w.heap.size) (hn:n≤1000)
  (hf:∀ ad,A=some ad→∀ k,k<n→∀ B m d,w.cell? (ad.add k)=some (.slice B m d)→m=4∧∃ g,B=some ⟨g,0,none⟩) :
  Calls Tryz.prog 16 #[.slice A n c,.int .i64 2] w fun e w'=>∃ A' c',e = .returned (.slice A' n c')∧Ints2 w' w.heap.size w'.heap.size A' n c' (xss.map (List.drop 2))∧Below w.heap.size w w':=by
 obtain ⟨i0,hi0,hz0,hz1,hz2⟩:=info_parts info_int
 obtain ⟨i1,hi1,hy0,hy1,hy2⟩:=info_parts info_ints
 have hcp:=h.cap
 have hm:=h.max
 have HF:=hide hf
 have hb0:=hide (below_alloc w (.cells #[] 24))
 have hE0:=hide (Lst.empty kI 24 (fun _=>True) w w.heap.size (Nat.le_refl _))
 have hz:(w.alloc (.cells #[] 24)).heap.size=w.heap.size+1:=by simp
 rw [← hz] at hE0
 clear hf hz
 go_enter Tryz.func16,Tryz.ntmps16
 go_wp2_with fail
 generalize w.alloc (.cells #[] 24)=W0 at hb0 hE0 ⊢
 go_loopw [5,6] (fun o i wr=>∃ (k c':Nat) (A':Option Addr) (vs:List Value),k≤n∧i = .int .i64 k∧o = .slice A' k c'∧Hid (Lst kI 24 (fun _=>True) wr w.heap.size wr.heap.size A' k c' vs ((xss.take k).map (List.drop 2)))∧Hid (Below w.heap.size w wr)) (fun _ i _=>n - (intOf i).toNat)
 case atStart=>exact ⟨0,0,_,[],by omega,rfl,rfl,hE0.out,hb0.out⟩
 case round =>
  clear hE0 hb0
  obtain ⟨k,c',A',vs,hk,rfl,rfl,hE,hb⟩:=hrel
  have hsz:=hb.out.size
  have hcb:=hE.out.capb
  by_cases hlt:k<n
  ·obtain ⟨ad,B,m,d,xs,rfl,hc1,hI,_,hx⟩:=h.at_ hlt
   obtain ⟨hm4,g,rfl⟩:=HF.out ad rfl k hlt B m d hc1
   have hm4b:4≤m∧m≤4:=by omega
   have hl4:Hid (xs.length=4):=hI.len.trans hm4
   clear hm4
   have hs1:¬ ((m:Int)<2):=by omega
   have hs2:(2:Int)≤m:=by omega
   have hs3:2≤m:=by omega
   have hs4:((m:Int) - 2).toNat=m - 2:=by omega
   have hs5:m - 2≤2∧2≤m - 2:=by omega
   have hc2:=(hb.out.cell (p:=ad.add k) (World.block_lt_of_cell? _ _ hc1)).trans hc1
   have hI2:=hI.below hb.out hh
   have hcd:=hI.cap
   have hmd:=hI.max
   have HI:=hide hI2
   have hI0:=hide hI
   clear hc1 hI hI2
   have aE:=below_alloc wr (.cells #[] 3)
   have hD:=hide (HI.out.below (B:=wr.heap.size) aE (by omega))
   have hE1:=hide (hE.out.below aE (Nat.le_refl _))
   have hb1:=hide (hb.out.trans (aE.mono hsz))
   have hz1':(wr.alloc (.cells #[] 3)).heap.size=wr.heap.size+1:=by simp
   have hown0:((wr.alloc (.cells #[] 3)).ownsRow wr.heap.size 3 1 (.slice (some ⟨wr.heap.size,0,none⟩) 0 0) 0 []):=by show _;have q:=World.ownsRow_lit (size:=1) (e:=3) wr #[] 0 (Nat.le_refl _) (by unfold maxLen;omega) rfl;simpa using q
   have hown:=hide hown0
   clear hown0
   have hcc:=(aE.cell (p:=ad.add k) (World.block_lt_of_cell? _ _ hc2)).trans hc2
   have hDr:=hide (hD.out.dropJ (k:=2) (by omega))
   have hl2:((xs.drop 2).map (Value.int .i64)).length=(m - 2)*1:=by have:=hl4.out;simp;omega
   have hnews:Hid (∀ a',some (⟨g,2,none⟩:Addr)=some a'→∀ j u,((xs.drop 2).map (Value.int .i64))[j]? = some u→(wr.alloc (.cells #[] 3)).cell? (a'.add j)=some u):=by
    intro a' e j u hu
    injection e with e
    subst e
    rw [List.getElem?_map] at hu
    cases hy:(xs.drop 2)[j]? with
    | none=>rw [hy] at hu;cases hu
    | some y =>
     rw [hy] at hu
     injection hu with hu
     subst hu
     obtain ⟨ad',e,_,_,hc⟩:=hDr.out.cells (by omega)
     injection e with e
     subst e
     exact hc j y hy
   have hone:∀ u∈(xs.drop 2).map (Value.int .i64),u.oneCell'=true:=by intro u hu;simp only [List.mem_map] at hu;obtain ⟨y,_,rfl⟩:=hu;rfl
   have hzz:wr.heap.size≤(wr.alloc (.cells #[] 3)).heap.size:=by omega
   have HL2:=hide hl2
   have HO2:=hide hone
   clear aE hD hl2 hone hz1' hE1 hb1
   go_wp2_with (first | (at_builtin;refine wpl_app rfl (.tmp 15) (.tmp 21) 24 rfl (wr.alloc (.cells #[] 3)) wr.heap.size 3 i0 (.int .i64 0) 1 8 Tryz.underlying24 hi0 hz0 hz1 hz2 rfl (by omega) (some ⟨wr.heap.size,0,none⟩) 0 0 [] rfl hown.out (some ⟨g,2,none⟩) (m - 2) (d - 2) ((xs.drop 2).map (Value.int .i64)) rfl HL2.out hnews.out (by intro e;cases e) HO2.out (by omega) (by omega) hzz ?_;intro B2 d2 w2 happ2;rw [Nat.zero_add,List.nil_append] at happ2;have hOw:OwnI w2 wr.heap.size w2.heap.size B2 (m - 2) d2 (xs.drop 2):=⟨happ2.1,fun ad e=>(owns_lt happ2.1 ad e).2,hDr.out.rng⟩;have HOw:=hide hOw;have hB2:=hide (happ2.low (Below.refl wr.heap.size wr |>.trans (below_alloc wr (.cells #[] 3))) hzz (Nat.le_refl _) hown.out);have hE2:=hide (hE.out.below hB2.out (Nat.le_refl _));have hz3:=hB2.out.size;have hz4:w.heap.size≤w2.heap.size:=(by omega);clear happ2 hOw) | (at_builtin;refine wpl_app1b rfl (.tmp 14) (.tmp 23) 35 rfl w.heap.size 24 i1 (.slice none 0 0) 1 24 Tryz.underlying35 hi1 hy0 hy1 hy2 rfl (by omega) w2 #[.slice B2 (m - 2) d2] _ rfl A' k c' 1 _ rfl rfl hE2.out.own rfl (by simp [Value.oneCell']) (by omega) (by omega) hz4 ?_;intro A3 c3 w4 happ hlt4))
   have hL:=hide (hE2.out.push (show kI.rd w2 wr.heap.size w2.heap.size (.slice B2 (m - 2) d2) (xs.drop 2) from ⟨_,_,_,rfl,HOw.out.ints⟩) (Nat.le_refl _) (Nat.le_refl _) hsz hz3 happ)
   have hB4:=hide (happ.low (hb.out.trans (hB2.out.mono hsz)) hz4 (Nat.le_refl _) hE2.out.own)
   have hM4:Hid ((xss.take k).map (List.drop 2)++[xs.drop 2]=(xss.take (k+1)).map (List.drop 2)):=by
    show _=_
    rw [List.take_add_one,hx.out,List.map_append]
    rfl
   have hL2:Hid (Lst kI 24 (fun _=>True) w4 w.heap.size w4.heap.size A3 (k+1) c3 (vs++[.slice B2 (m - 2) d2]) ((xss.take (k+1)).map (List.drop 2))):=by
    rw [← hM4.out]
    exact hL.out
   clear happ
   go_wp2_with fail
   go_roundw
   case rel=>exact ⟨k+1,c3,A3,_,by omega,by go_num,rfl,hL2.out,hB4.out⟩
   case measure=>simp [intOf];omega
  ·obtain rfl:k=n:=by omega
   go_wp2_with fail
   go_ret
   refine ⟨A',c',rfl,?_,hb.out⟩
   have h1:=hE.out.ints2
   rwa [List.take_of_length_le (by have:=h.len;omega)] at h1
end Go.Proofs.YtomgcbfcnjbofaaGreat
/- Conjugate pairs: both texts where there is none; the two contracts whole. -/
namespace Go.Proofs.YtomgcbfcnjbofaaGreat
open Go.RowKit
set_option linter.unusedSimpArgs false
set_option linter.unusedVariables false
set_option maxRecDepth 20000
abbrev zPair:Value := .agg #[.int .i64 0,.slice none 0 0,.slice none 0 0,.int .i64 0,.slice none 0 0,.slice none 0 0]
theorem tab_form {s:Int} {xs ys:List Int} (h:tabOkF s xs ys=true):∃ k:Nat,s=(k:Int)∧k≤8∧xs.length=k*k∧ys.length=k:=by
 unfold tabOkF at h
 simp only [Bool.and_eq_true,decide_eq_true_eq] at h
 obtain ⟨⟨h0,h8⟩,h1,h2,_⟩:=h
 obtain ⟨k,rfl⟩:∃ k:Nat,s=k:=⟨s.toNat,by omega⟩
 refine ⟨k,rfl,by omega,?_,by omega⟩
 have e:((k*k:Nat):Int)=(k:Int)*(k:Int):=by simp
 omega
set_option maxHeartbeats 2000000 in
theorem impl_Conj_bad (s:Int) (A:Option Addr) (n c:Nat) (xs:List Int) (B:Option Addr) (m d:Nat) (ys:List Int) (lo hi:Nat) (w:World) (h:Ints w lo hi A n c xs) (g:Ints w lo hi B m d ys) (hh:hi≤w.heap.size) (hm:m≤1048576) (hbad:conjOkF s xs ys=false) :
  Calls Tryz.prog 6 #[.agg #[.int .i64 s,.slice A n c,.slice B m d]] w fun e w'=>e = .returned (.tuple #[zPair,.bool false])∧Below w.heap.size w w':=by
 have a1:=below_alloc w (.cells #[.int .i64 s,.slice A n c,.slice B m d] 26)
 have j0:=BlkN.new w #[.int .i64 s,.slice A n c,.slice B m d] 26
 have z1:(w.alloc (.cells #[.int .i64 s,.slice A n c,.slice B m d] 26)).heap.size=w.heap.size+1:=by simp
 go_enter Tryz.func6,Tryz.ntmps6
 go_wp2_with fail
 generalize w.alloc (.cells #[.int .i64 s,.slice A n c,.slice B m d] 26)=w1 at a1 j0 z1 ⊢
 have a2:=below_alloc w1 (.cells #[.int .i64 0,.slice none 0 0,.slice none 0 0,.int .i64 0,.slice none 0 0,.slice none 0 0] 30)
 have k0:=j0.below a2
 have k1:=BlkN.new w1 #[.int .i64 0,.slice none 0 0,.slice none 0 0,.int .i64 0,.slice none 0 0,.slice none 0 0] 30
 rw [z1] at k1
 have bW:Below w.heap.size w (w1.alloc (.cells #[.int .i64 0,.slice none 0 0,.slice none 0 0,.int .i64 0,.slice none 0 0,.slice none 0 0] 30)):=a1.trans (a2.mono (by omega))
 generalize w1.alloc (.cells #[.int .i64 0,.slice none 0 0,.slice none 0 0,.int .i64 0,.slice none 0 0,.slice none 0 0] 30)=W at a2 k0 k1 bW ⊢
 clear a1 a2 j0 z1
 refine (impl_TableauOk s A n c xs B m d ys lo hi W (h.below bW hh) (g.below bW hh) (by have:=bW.size;omega)).mono ?_
 rintro e w2 ⟨rfl,b2⟩
 have m0:=k0.below b2
 have m1:=k1.below b2
 have B2:=bW.trans (b2.mono bW.size)
 clear k0 k1 b2 bW
 have p2:=m0.c 2 rfl
 have g0:=m1.c 0 rfl
 have g1:=m1.c 1 rfl
 have g2:=m1.c 2 rfl
 have g3:=m1.c 3 rfl
 have g4:=m1.c 4 rfl
 have g5:=m1.c 5 rfl
 have f0:=m1.f 0
 have f1:=m1.f 1
 have f2:=m1.f 2
 have f3:=m1.f 3
 have f4:=m1.f 4
 have f5:=m1.f 5
 have lt1:=m1.lt
 cases ht:tabOkF s xs ys with
 | false =>
  clear hbad ht
  go_wp2_with fail
  refine bodyPost_ret (v := .tuple #[zPair,.bool false]) (by simp [results,Tryz.results6,go_sem,g0,g1,g2,g3,g4,g5,lt1]) rfl ⟨rfl,store6_below B2 (by omega)⟩
 | true =>
  have hmem:decide ((0:Int)∈ys)=true:=by
   unfold conjOkF at hbad
   rw [ht] at hbad
   simpa using hbad
  clear hbad ht
  go_wp2_with fail
  refine (slices_Contains B m d ys 0 lo hi w2 (g.below B2 hh) hm).mono ?_
  rintro e w3 ⟨rfl,rfl⟩
  rw [hmem]
  go_wp2_with fail
  refine bodyPost_ret (v := .tuple #[zPair,.bool false]) (by simp [results,Tryz.results6,go_sem,g0,g1,g2,g3,g4,g5,lt1]) rfl ⟨rfl,store6_below B2 (by omega)⟩
set_option maxRecDepth 100000 in
set_option maxHeartbeats 2000000 in
theorem spec_Conj_bad (s:Int) (A:Option Addr) (n c:Nat) (xs:List Int) (B:Option Addr) (m d:Nat) (ys:List Int) (hi:Nat) (w:World) (h:Ints w 0 hi A n c xs) (g:Ints w 0 hi B m d ys) (hh:hi≤w.heap.size) (hbad:conjOkF s xs ys=false) :
  Calls Tryz.prog 7 #[.agg #[.int .i64 s,.slice A n c,.slice B m d]] w fun e w'=>e = .returned (.tuple #[zPair,.bool false])∧Below w.heap.size w w':=by
 obtain ⟨i0,hi0,hz0,hz1,hz2⟩:=info_parts info_int
 have a1:=below_alloc w (.cells #[.int .i64 s,.slice A n c,.slice B m d] 26)
 have j0:=BlkN.new w #[.int .i64 s,.slice A n c,.slice B m d] 26
 have z1:(w.alloc (.cells #[.int .i64 s,.slice A n c,.slice B m d] 26)).heap.size=w.heap.size+1:=by simp
 go_enter Tryz.func7,Tryz.ntmps7
 go_wp2_with fail
 generalize w.alloc (.cells #[.int .i64 s,.slice A n c,.slice B m d] 26)=w1 at a1 j0 z1 ⊢
 have a2:=below_alloc w1 (.cells #[.int .i64 0,.slice none 0 0,.slice none 0 0,.int .i64 0,.slice none 0 0,.slice none 0 0] 30)
 have k0:=j0.below a2
 have k1:=BlkN.new w1 #[.int .i64 0,.slice none 0 0,.slice none 0 0,.int .i64 0,.slice none 0 0,.slice none 0 0] 30
 rw [z1] at k1
 have bW:Below w.heap.size w (w1.alloc (.cells #[.int .i64 0,.slice none 0 0,.slice none 0 0,.int .i64 0,.slice none 0 0,.slice none 0 0] 30)):=a1.trans (a2.mono (by omega))
 have zW:w.heap.size+2≤(w1.alloc (.cells #[.int .i64 0,.slice none 0 0,.slice none 0 0,.int .i64 0,.slice none 0 0,.slice none 0 0] 30)).heap.size:=by simp;omega
 generalize w1.alloc (.cells #[.int .i64 0,.slice none 0 0,.slice none 0 0,.int .i64 0,.slice none 0 0,.slice none 0 0] 30)=W at a2 k0 k1 bW zW ⊢
 clear a1 a2 j0 z1
 refine (spec_TableauOk s A n c xs B m d ys 0 hi W (h.below bW hh) (g.below bW hh) (by omega)).mono ?_
 rintro e w2 ⟨rfl,b2⟩
 have m0:=k0.below b2
 have m1:=k1.below b2
 have B2:=bW.trans (b2.mono bW.size)
 have zV:w.heap.size+2≤w2.heap.size:=by have:=b2.size;omega
 clear k0 k1 b2 bW zW
 cases ht:tabOkF s xs ys with
 | false =>
  have g0:=m1.c 0 rfl
  have g1:=m1.c 1 rfl
  have g2:=m1.c 2 rfl
  have g3:=m1.c 3 rfl
  have g4:=m1.c 4 rfl
  have g5:=m1.c 5 rfl
  have f0:=m1.f 0
  have f1:=m1.f 1
  have f2:=m1.f 2
  have f3:=m1.f 3
  have f4:=m1.f 4
  have f5:=m1.f 5
  have lt1:=m1.lt
  clear hbad ht
  go_wp2_with fail
  refine bodyPost_ret (v := .tuple #[zPair,.bool false]) (by simp [results,Tryz.results7,go_sem,g0,g1,g2,g3,g4,g5,lt1]) rfl ⟨rfl,store6_below B2 (by omega)⟩
 | true =>
  obtain ⟨k,rfl,hk,_,hyl⟩:=tab_form ht
  have hmem0:(0:Int)∈ys:=by
   unfold conjOkF at hbad
   rw [ht] at hbad
   simpa using hbad
  have hmem:=hide hmem0
  clear hmem0
  obtain rfl:m=k:=by rw [← g.len];exact hyl
  have hlen:=hide g.len
  clear hbad ht hyl
  have aE:=below_alloc w2 (.cells #[] 3)
  have hown0:(w2.alloc (.cells #[] 3)).ownsRow w2.heap.size 3 1 (.slice (some ⟨w2.heap.size,0,none⟩) 0 0) 0 []:=by simpa using World.ownsRow_lit (size:=1) (e:=3) w2 #[] 0 (Nat.le_refl _) (by unfold maxLen;omega) rfl
  have bE:=B2.trans (aE.mono (by omega))
  have q0:=m0.below aE
  have q1:=m1.below aE
  have zE:w.heap.size+2≤(w2.alloc (.cells #[] 3)).heap.size:=by have:=aE.size;omega
  go_wp2_with fail
  go_loopw [4,5] (fun al i wr=>∃ (a:Nat) (A':Option Addr) (c':Nat),a≤m∧i = .int .i64 a∧al = .slice A' a c'∧BlkN wr w.heap.size #[.int .i64 (m:Int),.slice A n c,.slice B m d]∧BlkN wr (w.heap.size+1) #[.int .i64 0,.slice none 0 0,.slice none 0 0,.int .i64 0,.slice none 0 0,.slice none 0 0]∧wr.ownsRow (w.heap.size+2) 3 1 (.slice A' a c') a ((idL a).map (Value.int .i64))∧Below w.heap.size w wr∧Hid (w.heap.size+2≤wr.heap.size)∧Hid (¬ (0:Int)∈ys.take a))
   (fun _ i _=>m - (intOf i).toNat)
  case atStart=>exact ⟨0,_,_,by omega,rfl,rfl,q0,q1,owns_low hown0 zV,bE,zE,by show ¬ _;simp⟩
  case round =>
   clear hown0 aE bE m0 m1 zE q0 q1 B2 zV
   obtain ⟨a,A',c',ha,rfl,rfl,m0,m1,hown,hb,hzr,hno⟩:=hrel
   have hz3:=hzr.out
   have p0:=m0.c 0 rfl
   by_cases hlt:a<m
   ·obtain ⟨ad,y,rfl,hcy,_,_,hy⟩:=(g.below hb hh).at_ hlt
    have p2:=m0.c 2 rfl
    by_cases hy0:y=0
    ·subst hy0
     have g0:=m1.c 0 rfl
     have g1:=m1.c 1 rfl
     have g2:=m1.c 2 rfl
     have g3:=m1.c 3 rfl
     have g4:=m1.c 4 rfl
     have g5:=m1.c 5 rfl
     have f0:=m1.f 0
     have f1:=m1.f 1
     have f2:=m1.f 2
     have f3:=m1.f 3
     have f4:=m1.f 4
     have f5:=m1.f 5
     have lt1:=m1.lt
     clear hown hy
     go_wp2_with fail
     refine bodyPost_ret (v := .tuple #[zPair,.bool false]) (by simp [results,Tryz.results7,go_sem,g0,g1,g2,g3,g4,g5,lt1]) rfl ⟨rfl,store6_below hb (by omega)⟩
    ·have hyn:(y == 0)=false:=by rw [beq_eq_false_iff_ne];exact hy0
     have hno2:Hid (¬ (0:Int)∈ys.take (a+1)):=by
      show ¬ _
      rw [List.take_add_one,hy.out]
      simp only [List.mem_append,Option.toList_some,List.mem_singleton]
      exact fun e=>e.elim hno.out (fun e2=>hy0 e2.symm)
     have hbl:∀ ad,A'=some ad→w.heap.size+2≤ad.block:=fun ad e=>(owns_lt hown ad e).1
     clear hy hy0
     go_wp2_with (at_builtin;refine wpl_app1 rfl (.tmp 27) (.tmp 29) 24 rfl (w.heap.size+2) 3 i0 (.int .i64 0) 1 8 Tryz.underlying24 hi0 hz0 hz1 hz2 rfl (by omega) wr #[.int .i64 (a:Int)] A' a c' 1 _ rfl rfl hown rfl (by simp [Value.oneCell']) (by omega) (by omega) hz3 ?_;intro A2 c2 w4 happ hlt2)
     have hbw:=happ.below (Below.refl (w.heap.size+2) wr) hz3 hbl
     have HS:=hide (And.intro (m0.same (hbw.block _ (by omega))) (And.intro (m1.same (hbw.block _ (by omega))) (And.intro happ.1 (And.intro (hb.trans (hbw.mono (by omega))) (Nat.le_trans hz3 hbw.size)))))
     clear happ hown hb hbl m0 m1 p0 p2 hbw
     go_wp2_with fail
     go_roundw
     case rel=>exact ⟨a+1,A2,c2,by omega,by go_num,rfl,HS.out.1,HS.out.2.1,by rw [← idL_snoc];exact HS.out.2.2.1,HS.out.2.2.2.1,HS.out.2.2.2.2,hno2⟩
     case measure=>simp [intOf];omega
   ·exfalso
    have e:=hno.out
    rw [List.take_of_length_le (by have:=hlen.out;omega)] at e
    exact e hmem.out
end Go.Proofs.YtomgcbfcnjbofaaGreat
