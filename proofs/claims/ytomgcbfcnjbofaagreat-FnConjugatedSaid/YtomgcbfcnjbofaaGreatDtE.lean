/- Two tableaus, one behind the other: the reference's walk. -/
import Derived.Test.YtomgcbfcnjbofaaGreatDtD
import Derived.Test.YtomgcbfcnjbofaaGreatMgL
import Derived.Test.YtomgcbfcnjbofaaGreatMgC
import Derived.Test.YtomgcbfcnjbofaaGreatCjH
import Derived.Test.YtomgcbfcnjbofaaGreatMgI
namespace Go.Proofs.YtomgcbfcnjbofaaGreat
open Go.RowKit
open List renaming setIfInBounds_toArray → sTA, set_cons_zero → sC0, set_cons_succ → sC1, getElem_toArray → gTA, getElem_cons_zero → gC0, getElem_cons_succ → gC1
open Nat renaming le_refl → lR
set_option linter.unusedSimpArgs false
set_option linter.unusedVariables false
set_option maxRecDepth 20000
theorem Appended.trans {w0 w1 w2 w3:World} {base e size:Nat} {A:Option Addr} {n c:Nat} {A':Option Addr} {m c':Nat} {A'':Option Addr} {m2 c'':Nat} {xs ys:List Value} (h1:Appended w0 base e size A n c A' m c' xs w1) (hb:Below w1.heap.size w1 w2) (h2:Appended w2 base e size A' m c' A'' m2 c'' ys w3):Appended w0 base e size A n c A'' m2 c'' ys w3:=by
 have s1:=h1.2.1.size
 have s2:=hb.size
 refine ⟨h2.1,⟨h2.2.1.os.trans (hb.os.trans h1.2.1.os),h2.2.1.tape.trans (hb.tape.trans h1.2.1.tape),h2.2.1.output.trans (hb.output.trans h1.2.1.output),Nat.le_trans s1 (Nat.le_trans s2 h2.2.1.size),fun k hk hne=>?_⟩,?_⟩
 ·refine (h2.2.1.block k (by omega) fun e=>?_).trans ((hb.block k (by omega)).trans (h1.2.1.block k hk hne))
  obtain ⟨ad,e1,e2⟩:=ownBlock_eq.1 e.symm
  rcases h1.2.2 with h | h
  ·exact hne (ownBlock_eq.2 ⟨ad,h ad e1,e2⟩).symm
  ·have:=h ad e1
   omega
 ·rcases h2.2.2 with h | h
  ·rcases h1.2.2 with h' | h'
   ·exact .inl fun ad e=>h' ad (h ad e)
   ·exact .inr fun ad e=>h' ad (h ad e)
  ·exact .inr fun ad e=>by have:=h ad e;omega
theorem Ints.news {w:World} {lo hi n c:Nat} {ad:Addr} {xs:List Int} (h:Ints w lo hi (some ad) n c xs):∀ j u,(xs.map (Value.int .i64))[j]? = some u→w.cell? (ad.add j)=some u:=by
 intro j u hu
 rw [List.getElem?_map] at hu
 cases hy:xs[j]? with
 | none=>rw [hy] at hu;cases hu
 | some y =>
  rw [hy] at hu
  injection hu with hu
  subst hu
  have hj:=(List.getElem?_eq_some_iff.1 hy).1
  have hl:=h.len
  obtain ⟨ad',e,_,_,hc⟩:=h.cells (by omega)
  injection e with e
  subst e
  exact hc j y hy
theorem news_oneD (xs:List Int):∀ u∈xs.map (Value.int .i64),u.oneCell'=true:=by
 intro u hu
 simp only [List.mem_map] at hu
 obtain ⟨y,_,rfl⟩:=hu
 rfl
section
variable {lo hi:Nat} {w0 w w':World} {gr g:Nat} {s:Int} {A:Option Addr} {n cA:Nat} {za:List Int} {B:Option Addr} {m cB:Nat} {zb:List Int}
theorem TabS.pushA2 (h:TabS lo hi w0 w gr g s A n cA za B m cB zb) {ys:List Int} (hr:∀ y∈ys,R64 y) {A':Option Addr} {n' cA':Nat} {L:List Value} (hap:Appended w w0.heap.size 3 1 A n cA A' n' cA' L w') (hL:L=(za++ys).map (Value.int .i64)):TabS lo hi w0 (w'.setCell ⟨g,1,none⟩ (.slice A' n' cA')) gr g s A' n' cA' (za++ys) B m cB zb:=by
 obtain rfl:n'=n+ys.length:=by
  have h1:=own_len hap.1
  have h2:=h.ha.len
  rw [hL] at h1
  simp at h1
  omega
 rw [List.map_append] at hL
 subst hL
 exact h.pushA hr hap
theorem TabS.pushB2 (h:TabS lo hi w0 w gr g s A n cA za B m cB zb) {ys:List Int} (hr:∀ y∈ys,R64 y) {B':Option Addr} {m' cB':Nat} {L:List Value} (hap:Appended w w0.heap.size 3 1 B m cB B' m' cB' L w') (hL:L=(zb++ys).map (Value.int .i64)):TabS lo hi w0 (w'.setCell ⟨g,2,none⟩ (.slice B' m' cB')) gr g s A n cA za B' m' cB' (zb++ys):=by
 obtain rfl:m'=m+ys.length:=by
  have h1:=own_len hap.1
  have h2:=h.hb.len
  rw [hL] at h1
  simp at h1
  omega
 rw [List.map_append] at hL
 subst hL
 exact h.pushB hr hap
end
theorem rng_app {xs ys:List Int} (h1:∀ x∈xs,R64 x) (h2:∀ y∈ys,R64 y):∀ y∈xs++ys,R64 y:=fun y hy=>by
 rcases List.mem_append.1 hy with h | h
 ·exact h1 y h
 ·exact h2 y h
theorem rng_row {xs:List Int} (h1:∀ x∈xs,R64 x) (p q:Nat):∀ y∈(xs.drop p).take q,R64 y:=fun y hy=>h1 y (List.mem_of_mem_drop (List.mem_of_mem_take hy))
theorem rng_zeros (k:Nat):∀ y∈List.replicate k (0:Int),R64 y:=fun y hy=>by
 obtain ⟨_,rfl⟩:=List.mem_replicate.1 hy
 constructor <;> omega
theorem Ints.rowD {w:World} {hi ga k n c:Nat} {xs:List Int} (h:Ints w 0 hi (some ⟨ga,0,none⟩) n c xs) (hn:n=k*k) {i:Nat} (hi2:i<k):Ints w 0 hi (some ⟨ga,i*k,none⟩) k (c - i*k) ((xs.drop (i*k)).take k):=by
 have hle:i*k+k≤k*k:=by
  have:(i+1)*k≤k*k:=Nat.mul_le_mul_right _ hi2
  rwa [Nat.add_mul,Nat.one_mul] at this
 subst hn
 exact (h.dropJ (k:=i*k) (by omega)).takeJ (by omega)
set_option maxRecDepth 100000 in
set_option maxHeartbeats 8000000 in
theorem spec_ComposeTableaus (s:Int) (A:Option Addr) (n c:Nat) (xs:List Int) (B:Option Addr) (m d:Nat) (ys:List Int) (s':Int) (A':Option Addr) (n' c':Nat) (xs':List Int) (B':Option Addr) (m' d':Nat) (ys':List Int) (hi:Nat) (w:World)
  (h:Ints w 0 hi A n c xs) (g0:Ints w 0 hi B m d ys) (h':Ints w 0 hi A' n' c' xs') (g0':Ints w 0 hi B' m' d' ys') (hh:hi≤w.heap.size)
  (hA:0<n→∃ ga,A=some ⟨ga,0,none⟩) (hA':0<n'→∃ ga,A'=some ⟨ga,0,none⟩) (hBn:B=none→m=0∧d=0) (hBn':B'=none→m'=0∧d'=0) :
  Calls Tryz.prog 58 #[.agg #[.int .i64 s,.slice A n c,.slice B m d],.agg #[.int .i64 s',.slice A' n' c',.slice B' m' d']] w fun e w'=>∃ s2 A2 n2 c2 xs2 B2 m2 d2 ys2 b,e = .returned (.tuple #[.agg #[.int .i64 s2,.slice A2 n2 c2,.slice B2 m2 d2],.bool b])∧n2≤1000∧m2≤1000∧TabR w w' A2 n2 c2 xs2 B2 m2 d2 ys2∧Below w.heap.size w w':=by
 obtain ⟨i0,hi0,hz0,hz1,hz2⟩:=info_parts info_int
 have a00:=below_alloc w (.cells #[.int .i64 s,.slice A n c,.slice B m d] 26)
 have z00:(w.alloc (.cells #[.int .i64 s,.slice A n c,.slice B m d] 26)).heap.size=w.heap.size+1:=by simp
 have a01:=below_alloc (w.alloc (.cells #[.int .i64 s,.slice A n c,.slice B m d] 26)) (.cells #[.int .i64 s',.slice A' n' c',.slice B' m' d'] 26)
 have a0:=a00.trans (a01.mono (by omega))
 have HXb:=hide ((BlkN.new w #[.int .i64 s,.slice A n c,.slice B m d] 26).alloc (.cells #[.int .i64 s',.slice A' n' c',.slice B' m' d'] 26))
 have HXc:=hide (BlkN.new (w.alloc (.cells #[.int .i64 s,.slice A n c,.slice B m d] 26)) #[.int .i64 s',.slice A' n' c',.slice B' m' d'] 26)
 rw [z00] at HXc
 have z0:((w.alloc (.cells #[.int .i64 s,.slice A n c,.slice B m d] 26)).alloc (.cells #[.int .i64 s',.slice A' n' c',.slice B' m' d'] 26)).heap.size=w.heap.size+2:=by simp
 have hhW:hi≤((w.alloc (.cells #[.int .i64 s,.slice A n c,.slice B m d] 26)).alloc (.cells #[.int .i64 s',.slice A' n' c',.slice B' m' d'] 26)).heap.size:=by omega
 have HA:=hide ((h.below a0 hh).wide (lR _) hhW)
 have HB:=hide ((g0.below a0 hh).wide (lR _) hhW)
 have HA':=hide ((h'.below a0 hh).wide (lR _) hhW)
 have HB':=hide ((g0'.below a0 hh).wide (lR _) hhW)
 have hcA:=h.cap
 have hmA:=h.max
 have hcB:=g0.cap
 have hmB:=g0.max
 have hcA':=h'.cap
 have hmA':=h'.max
 have hcB':=g0'.cap
 have hmB':=g0'.max
 have b1:=below_alloc ((w.alloc (.cells #[.int .i64 s,.slice A n c,.slice B m d] 26)).alloc (.cells #[.int .i64 s',.slice A' n' c',.slice B' m' d'] 26)) (.cells #[.int .i64 0,.slice none 0 0,.slice none 0 0] 26)
 have kr0:=BlkN.new ((w.alloc (.cells #[.int .i64 s,.slice A n c,.slice B m d] 26)).alloc (.cells #[.int .i64 s',.slice A' n' c',.slice B' m' d'] 26)) #[.int .i64 0,.slice none 0 0,.slice none 0 0] 26
 clear h g0 h' g0' a00 a01 z00
 go_enter Tryz.func58,Tryz.ntmps58
 go_wp2_with fail
 obtain ⟨W0,hW0⟩:∃ z,z=((w.alloc (.cells #[.int .i64 s,.slice A n c,.slice B m d] 26)).alloc (.cells #[.int .i64 s',.slice A' n' c',.slice B' m' d'] 26)):=⟨_,rfl⟩
 rw [← hW0] at a0 HXb HXc HA HB HA' HB' z0 hhW b1 kr0 ⊢
 obtain ⟨gb,hgb⟩:∃ z,z=w.heap.size:=⟨_,rfl⟩
 obtain ⟨gr,hgr⟩:∃ z,z=W0.heap.size:=⟨_,rfl⟩
 rw [← hgr] at kr0
 rw [← z0,← hgr]
 have hz01:w.heap.size≤W0.heap.size:=by omega
 have hgbW:gb<W0.heap.size:=by omega
 have hgcW:gb+1<W0.heap.size:=by omega
 rw [← hgb] at HXb HXc ⊢
 obtain ⟨gc,hgc⟩:∃ z,z=gb+1:=⟨_,rfl⟩
 rw [← hgc] at HXc hgcW ⊢
 have hgr2:W0.heap.size≤gr:=by omega
 have HX1b:=hide (HXb.out.below b1)
 have HX1c:=hide (HXc.out.below b1)
 generalize W0.alloc (.cells #[.int .i64 0,.slice none 0 0,.slice none 0 0] 26)=W1 at b1 kr0 HX1b HX1c ⊢
 have z1:=b1.size
 have hcb:=HX1b.out.c 0 rfl
 have hcb1:=HX1b.out.c 1 rfl
 have hcb2:=HX1b.out.c 2 rfl
 clear hgr hgb hgc hW0 z0
 refine (spec_TableauOk s A n c xs B m d ys 0 W0.heap.size W1 (HA.out.below b1 (lR _)) (HB.out.below b1 (lR _)) z1).mono ?_
 rintro e w2 ⟨rfl,b2⟩
 have b02:=b1.trans (b2.mono z1)
 have z2:=b02.size
 have kr:=kr0.below b2
 have HX2b:=hide (HX1b.out.below b2)
 have HX2c:=hide (HX1c.out.below b2)
 clear hcb hcb1 hcb2 kr0 HX1b HX1c b1 b2 z1
 have hcc:=HX2c.out.c 0 rfl
 have hcc1:=HX2c.out.c 1 rfl
 have hcc2:=HX2c.out.c 2 rfl
 cases ht:tabOkF s xs ys with
 | false =>
  have U1:=kr.c 0 rfl
  have U2:=kr.c 1 rfl
  have U3:=kr.c 2 rfl
  have V1:=kr.f 0
  have V2:=kr.f 1
  have V3:=kr.f 2
  have zk:=kr.lt
  have HB9:=hide ((((b02.setCell (p:=⟨gr,0,none⟩) hgr2 (.int .i64 0)).setCell (p:=⟨gr,1,none⟩) hgr2 (.slice none 0 0)).setCell (p:=⟨gr,2,none⟩) hgr2 (.slice none 0 0)))
  clear kr b02
  go_wp2_with fail
  refine bodyPost_ret (v := .tuple #[.agg #[.int .i64 0,.slice none 0 0,.slice none 0 0],.bool false]) (by simp [results,Tryz.results58,go_sem,U1,U2,U3,V1,V2,V3,zk]) rfl ⟨0,none,0,0,[],none,0,0,[],false,rfl,by omega,by omega,TabR.nil_ _ _,?_⟩
  exact a0.trans (HB9.out.mono hz01)
 | true =>
  go_wp2_with fail
  refine (spec_TableauOk s' A' n' c' xs' B' m' d' ys' 0 W0.heap.size w2 (HA'.out.below b02 (lR _)) (HB'.out.below b02 (lR _)) z2).mono ?_
  rintro e w3 ⟨rfl,b3⟩
  have b03:=b02.trans (b3.mono z2)
  have kr3:=kr.below b3
  have HX3b:=hide (HX2b.out.below b3)
  have HX3c:=hide (HX2c.out.below b3)
  clear hcc hcc1 hcc2 HX2b HX2c b02 kr z2 b3
  have b02:=b03
  have kr:=kr3
  have z2:=b02.size
  clear b03 kr3
  have hcc:=HX3c.out.c 0 rfl
  have hcb:=HX3b.out.c 0 rfl
  cases ht':tabOkF s' xs' ys' with
  | false =>
   have U1:=kr.c 0 rfl
   have U2:=kr.c 1 rfl
   have U3:=kr.c 2 rfl
   have V1:=kr.f 0
   have V2:=kr.f 1
   have V3:=kr.f 2
   have zk:=kr.lt
   have HB9:=hide ((((b02.setCell (p:=⟨gr,0,none⟩) hgr2 (.int .i64 0)).setCell (p:=⟨gr,1,none⟩) hgr2 (.slice none 0 0)).setCell (p:=⟨gr,2,none⟩) hgr2 (.slice none 0 0)))
   clear kr b02
   go_wp2_with fail
   refine bodyPost_ret (v := .tuple #[.agg #[.int .i64 0,.slice none 0 0,.slice none 0 0],.bool false]) (by simp [results,Tryz.results58,go_sem,U1,U2,U3,V1,V2,V3,zk]) rfl ⟨0,none,0,0,[],none,0,0,[],false,rfl,by omega,by omega,TabR.nil_ _ _,?_⟩
   exact a0.trans (HB9.out.mono hz01)
  | true =>
   obtain ⟨k1,rfl,hk1,hl1,hl1'⟩:=tabOk_facts ht
   obtain ⟨k2,rfl,hk2,hl2,hl2'⟩:=tabOk_facts ht'
   have hw1:=IntWalk.i64_in ((k1:Int)+(k2:Int)) (by omega)
   by_cases hbig:8<k1+k2
   ·have hbig':8<(k1:Int)+(k2:Int):=by omega
    have U1:=kr.c 0 rfl
    have U2:=kr.c 1 rfl
    have U3:=kr.c 2 rfl
    have V1:=kr.f 0
    have V2:=kr.f 1
    have V3:=kr.f 2
    have zk:=kr.lt
    have HB9:=hide ((((b02.setCell (p:=⟨gr,0,none⟩) hgr2 (.int .i64 0)).setCell (p:=⟨gr,1,none⟩) hgr2 (.slice none 0 0)).setCell (p:=⟨gr,2,none⟩) hgr2 (.slice none 0 0)))
    clear kr b02
    go_wp2_with fail
    refine bodyPost_ret (v := .tuple #[.agg #[.int .i64 0,.slice none 0 0,.slice none 0 0],.bool false]) (by simp [results,Tryz.results58,go_sem,U1,U2,U3,V1,V2,V3,zk]) rfl ⟨0,none,0,0,[],none,0,0,[],false,rfl,by omega,by omega,TabR.nil_ _ _,?_⟩
    exact a0.trans (HB9.out.mono hz01)
   ·have hbig':¬ 8<(k1:Int)+(k2:Int):=by omega
    have hnk:Hid (n=k1*k1):=by show _=_;rw [← HA.out.len,hl1]
    have hnk':Hid (n'=k2*k2):=by show _=_;rw [← HA'.out.len,hl2]
    obtain rfl:k1=m:=by rw [← HB.out.len,hl1']
    obtain rfl:k2=m':=by rw [← HB'.out.len,hl2']
    have hT0:=hide (TabS.start (w:=W0) (lo:=0) (hi:=0) kr hgr2 (.of_below b02) (Nat.zero_le _) ((k1:Int)+(k2:Int)))
    clear kr b02 ht ht' hl1 hl1' hl2 hl2'
    go_wp2_with fail
    clear hcc hcb HX3b HX3c hw1
    obtain ⟨g,hg⟩:∃ z,z=w3.heap.size:=⟨_,rfl⟩
    rw [← hg] at hT0 ⊢
    generalize w3.alloc (.cells #[.int .i64 ((k1:Int)+(k2:Int)),.slice none 0 0,.slice none 0 0] 26)=W3 at hT0 ⊢
    clear hg
    have hyb0:=HXb.out.c 0 rfl
    have hyb1:=HXb.out.c 1 rfl
    have hyb2:=HXb.out.c 2 rfl
    have hyc0:=HXc.out.c 0 rfl
    have hyc1:=HXc.out.c 1 rfl
    have hyc2:=HXc.out.c 2 rfl
    have HBs:=hide fun W (hb:Below W0.heap.size W0 W)=>HB.out.below hb (lR _)
    have HBs2:=hide fun W (hb:Below W0.heap.size W0 W)=>HB'.out.below hb (lR _)
    go_loopw [7] (fun i wr=>∃ (i2:Nat) (A2:Option Addr) (n2 c2:Nat) (za:List Int),i2≤k1∧i = .int .i64 (i2:Int)∧n2≤16*i2∧Hid (TabS 0 0 W0 wr gr g ((k1:Int)+(k2:Int)) A2 n2 c2 za none 0 0 [])) (fun i _=>k1 - (intOf i).toNat)
    case atStart=>exact ⟨0,_,_,_,_,by omega,rfl,by omega,hT0.out⟩
    case round =>
     clear hT0
     obtain ⟨i,A2,n2,c2,za,hi2,rfl,hn2,hS⟩:=hrel
     have hx9:=(HXb.out.touch hS.out.low (.inr (Nat.zero_le _))).c 0 rfl
     by_cases hlt:i<k1
     ·have hkp:0<k1*k1:=Nat.mul_pos (by omega) (by omega)
      obtain ⟨ga,hga⟩:=hA (by rw [hnk.out];exact hkp)
      subst hga
      clear hkp
      have HRow:=hide fun W (hb:Below W0.heap.size W0 W)=>(HA.out.below hb (lR _)).rowD hnk.out hlt
      have HRngA:=hide (rng_app (rng_row HA.out.rng (i*k1) k1) (rng_zeros k2))
      have hW0r:=hS.out.low.size
      go_upto_region 7 with fail
      refine wp_region_Z (fun W'=>W'.cell? ⟨g,1,none⟩=some (.slice A2 n2 c2)∧Below W0.heap.size W0 W') 10 (by kernel_rfl) ?_
      simp only [List.size_toArray,List.length_cons,List.length_nil,Nat.reduceAdd]
      have SV:=hide (hS.out.below (Below.refl wr.heap.size wr).drew)
      have hW0V':W0.heap.size≤wr.drew.heap.size:=hW0r
      clear hS hW0r
      generalize wr.drew=V at SV hW0V' ⊢
      have hW0V:=hW0V'
      have hS0:=And.intro (SV.out.tab.c 1 rfl) SV.out.low.toBelow
      clear hW0V'
      refine wpAnyZ_takeW 0 (.pointer (some ⟨g,1,none⟩)) rfl (by kernel_rfl) (by kernel_rfl) (fun _ _ _ h=>h) (by rfl) (fun _=>by first | (simp [go_sem];done) | go_simp) hS0 ?_
      try simp only [Act.put,sTA,sC0,sC1,gTA,gC0,gC1]
      refine wpAnyZ_take 1 (.slice A2 n2 c2) rfl (by kernel_rfl) (by kernel_rfl) (fun _ _ _ h=>h) (by rfl) (fun _ hS=>by have q0:=hS.1;clear hS;first | (simp [go_sem,q0];done) | go_simp) hS0 ?_
      try simp only [Act.put,sTA,sC0,sC1,gTA,gC0,gC1]
      refine wpAnyZ_take 2 (.agg #[.int .i64 (k1:Int),.slice (some ⟨ga,0,none⟩) n c,.slice B k1 d]) rfl (by kernel_rfl) (by kernel_rfl) (fun _ _ _ h=>h) (by rfl) (fun _ hS=>by have q0:=(hS.2.cell (p:=⟨gb,0,none⟩) hgbW).trans hyb0;have q1:=(hS.2.cell (p:=⟨gb,1,none⟩) hgbW).trans hyb1;have q2:=(hS.2.cell (p:=⟨gb,2,none⟩) hgbW).trans hyb2;clear hS;first | (simp [go_sem,q0,q1,q2];done) | go_simp) hS0 ?_
      try simp only [Act.put,sTA,sC0,sC1,gTA,gC0,gC1]
      refine wpAnyZ_takeW 3 (.int .i64 i) rfl (by kernel_rfl) (by kernel_rfl) (fun _ _ _ h=>h) (by rfl) (fun _=>by first | (simp [go_sem];done) | go_simp) hS0 ?_
      try simp only [Act.put,sTA,sC0,sC1,gTA,gC0,gC1]
      refine wpAnyZ_takeW 6 (.pointer (some ⟨gc,0,none⟩)) rfl (by kernel_rfl) (by kernel_rfl) (fun _ _ _ h=>h) (by rfl) (fun _=>by first | (simp [go_sem];done) | go_simp) hS0 ?_
      try simp only [Act.put,sTA,sC0,sC1,gTA,gC0,gC1]
      refine wpAnyZ_take 7 (.int .i64 (k2:Int)) rfl (by kernel_rfl) (by kernel_rfl) (fun _ _ _ h=>h) (by rfl) (fun _ hS=>by have q0:=(hS.2.cell (p:=⟨gc,0,none⟩) hgcW).trans hyc0;clear hS;first | (simp [go_sem,q0];done) | go_simp) hS0 ?_
      try simp only [Act.put,sTA,sC0,sC1,gTA,gC0,gC1]
      refine wpAnyZ_one 4 (by kernel_rfl) rfl (by rfl) (fun K hK=>?_)
      go_simp
      refine (spec_rowJ k1 ga n c B k1 d i V hk1 hnk.out hlt hcA hmA).mono ?_
      rintro e x1 ⟨rfl,hb1⟩
      have hbx1:=hide hb1
      have hVS1:=hS0.2.trans (hbx1.out.mono hW0V)
      have hW0x1:W0.heap.size≤x1.heap.size:=Nat.le_trans hW0V hbx1.out.size
      have SV1:=hide (SV.out.below hbx1.out)
      have hS1:=And.intro (SV1.out.tab.c 1 rfl) hVS1
      clear hb1
      go_wp2_with fail
      refine hK.out _ _ hS1 ?_
      clear hK K
      try simp only [Act.put,sTA,sC0,sC1,gTA,gC0,gC1]
      refine wpAnyZ_one 5 (by kernel_rfl) rfl (by rfl) (fun K hK=>?_)
      refine owp_appM (.tmp 39) (.tmp 42) 24 rfl x1 W0.heap.size 3 i0 (.int .i64 0) 1 8 Tryz.underlying24 hi0 hz0 hz1 hz2 rfl (by omega) A2 n2 c2 _ rfl SV1.out.ha.own (some ⟨ga,i*k1,none⟩) k1 (c - i*k1) ((((xs.drop (i*k1)).take k1)).map (Value.int .i64)) rfl (by rw [List.length_map,(HRow.out _ hS1.2).len,Nat.mul_one]) (fun ad e=>by first | (injection e with e;subst e;exact (HRow.out _ hS1.2).news) | (subst e;exact (HRow.out _ hS1.2).news)) (fun e=>by cases e) (news_oneD _) (by omega) (by omega) hW0x1 ?_
      intro R2 e2 w6 hap
      have hap2:=hide hap
      have hK2:=hide (SV1.out.midA hap).1
      have hW0w6:=Nat.le_trans hW0x1 hap.2.1.size
      have HB2:=hide (hap.low (B:=W0.heap.size) (Below.refl W0.heap.size x1) hW0x1 (lR _) SV1.out.ha.own)
      have hS2:=And.intro (hK2.out.c 1 rfl) (hS1.2.trans HB2.out)
      clear hap
      refine hK.out _ _ hS2 ?_
      clear hK K
      try simp only [Act.put,sTA,sC0,sC1,gTA,gC0,gC1]
      refine wpAnyZ_one 8 (by kernel_rfl) rfl (by rfl) (fun K hK=>?_)
      refine owp_appZ (.tmp 43) (.tmp 45) rfl w6 W0.heap.size R2 (n2+k1) e2 _ rfl hap2.out.1 k2 rfl (by omega) hW0w6 ?_
      intro R3 c3 w9 hap
      have hapZ:=hide (hap2.out.trans (Below.refl w6.heap.size w6) hap)
      have hK5:=hide (SV1.out.midA hapZ.out).1
      have HT5:=hide (SV1.out.pushA2 (ys:=((xs.drop (i*k1)).take k1)++List.replicate k2 0) HRngA.out hapZ.out (by simp [List.map_append,List.append_assoc]))
      have hS4:=And.intro (hK5.out.c 1 rfl) (hS2.2.trans (hap.low (B:=W0.heap.size) (Below.refl W0.heap.size w6) hW0w6 (lR _) hap2.out.1))
      clear hap
      refine hK.out _ _ hS4 ?_
      clear hK K
      try simp only [Act.put,sTA,sC0,sC1,gTA,gC0,gC1]
      refine wpAnyZ_takeW 9 (.pointer (some ⟨g,1,none⟩)) rfl (by kernel_rfl) (by kernel_rfl) (fun _ _ _ h=>h) (by rfl) (fun _=>by first | (simp [go_sem];done) | go_simp) hS4 ?_
      try simp only [Act.put,sTA,sC0,sC1,gTA,gC0,gC1]
      have g0:=hK5.out.c 1 rfl
      have g1:=hK5.out.f 1
      refine wpAnyZ_last (by kernel_rfl) rfl (by kernel_rfl) (by rfl) (fun K hK=>?_)
      go_simp
      refine hK _ _ ?_
      clear hK K g0 g1 hS4 hK5
      clear SV hapZ
      go_wp2_with fail
      go_roundw
      case rel=>exact ⟨i+1,R3,n2+k1+k2,c3,_,by omega,by go_num,by omega,HT5.out⟩
      case measure=>simp [intOf];omega
     ·obtain rfl:k1=i:=by omega
      clear hx9
      have hx9:=(HXc.out.touch hS.out.low (.inr (Nat.zero_le _))).c 0 rfl
      have hx8:=(HXb.out.touch hS.out.low (.inr (Nat.zero_le _))).c 0 rfl
      go_wp2_with fail
      clear hx9 hx8
      go_loopw [8] (fun i wr=>∃ (i2:Nat) (A2:Option Addr) (n2 c2:Nat) (za:List Int),i2≤k2∧i = .int .i64 (i2:Int)∧n2≤128+16*i2∧Hid (TabS 0 0 W0 wr gr g ((k1:Int)+(k2:Int)) A2 n2 c2 za none 0 0 [])) (fun i _=>k2 - (intOf i).toNat)
      case atStart=>exact ⟨0,A2,n2,c2,za,by omega,rfl,by omega,hS.out⟩
      case round =>
       clear hS hn2 hlt
       obtain ⟨i,A2,n2,c2,za,hi2,rfl,hn2,hS⟩:=hrel
       have hx9:=(HXc.out.touch hS.out.low (.inr (Nat.zero_le _))).c 0 rfl
       by_cases hlt:i<k2
       ·have hkp:0<k2*k2:=Nat.mul_pos (by omega) (by omega)
        obtain ⟨ga,hga⟩:=hA' (by rw [hnk'.out];exact hkp)
        subst hga
        clear hkp
        have HRow:=hide fun W (hb:Below W0.heap.size W0 W)=>(HA'.out.below hb (lR _)).rowD hnk'.out hlt
        have HRngB:=hide (rng_app HB.out.rng (rng_row HA'.out.rng (i*k2) k2))
        have hW0r:=hS.out.low.size
        go_upto_region 11 with fail
        refine wp_region_Z (fun W'=>W'.cell? ⟨g,1,none⟩=some (.slice A2 n2 c2)∧Below W0.heap.size W0 W') 10 (by kernel_rfl) ?_
        simp only [List.size_toArray,List.length_cons,List.length_nil,Nat.reduceAdd]
        have SV:=hide (hS.out.below (Below.refl wr.heap.size wr).drew)
        have hW0V':W0.heap.size≤wr.drew.heap.size:=hW0r
        clear hS hW0r
        generalize wr.drew=V at SV hW0V' ⊢
        have hW0V:=hW0V'
        have hS0:=And.intro (SV.out.tab.c 1 rfl) SV.out.low.toBelow
        clear hW0V'
        refine wpAnyZ_takeW 0 (.pointer (some ⟨g,1,none⟩)) rfl (by kernel_rfl) (by kernel_rfl) (fun _ _ _ h=>h) (by rfl) (fun _=>by first | (simp [go_sem];done) | go_simp) hS0 ?_
        try simp only [Act.put,sTA,sC0,sC1,gTA,gC0,gC1]
        refine wpAnyZ_take 1 (.slice A2 n2 c2) rfl (by kernel_rfl) (by kernel_rfl) (fun _ _ _ h=>h) (by rfl) (fun _ hS=>by have q0:=hS.1;clear hS;first | (simp [go_sem,q0];done) | go_simp) hS0 ?_
        try simp only [Act.put,sTA,sC0,sC1,gTA,gC0,gC1]
        refine wpAnyZ_takeW 2 (.pointer (some ⟨gb,2,none⟩)) rfl (by kernel_rfl) (by kernel_rfl) (fun _ _ _ h=>h) (by rfl) (fun _=>by first | (simp [go_sem];done) | go_simp) hS0 ?_
        try simp only [Act.put,sTA,sC0,sC1,gTA,gC0,gC1]
        refine wpAnyZ_take 3 (.slice B k1 d) rfl (by kernel_rfl) (by kernel_rfl) (fun _ _ _ h=>h) (by rfl) (fun _ hS=>by have q2:=(hS.2.cell (p:=⟨gb,2,none⟩) hgbW).trans hyb2;clear hS;first | (simp [go_sem,q2];done) | go_simp) hS0 ?_
        try simp only [Act.put,sTA,sC0,sC1,gTA,gC0,gC1]
        refine wpAnyZ_take 5 (.agg #[.int .i64 (k2:Int),.slice (some ⟨ga,0,none⟩) n' c',.slice B' k2 d']) rfl (by kernel_rfl) (by kernel_rfl) (fun _ _ _ h=>h) (by rfl) (fun _ hS=>by have q0:=(hS.2.cell (p:=⟨gc,0,none⟩) hgcW).trans hyc0;have q1:=(hS.2.cell (p:=⟨gc,1,none⟩) hgcW).trans hyc1;have q2:=(hS.2.cell (p:=⟨gc,2,none⟩) hgcW).trans hyc2;clear hS;first | (simp [go_sem,q0,q1,q2];done) | go_simp) hS0 ?_
        try simp only [Act.put,sTA,sC0,sC1,gTA,gC0,gC1]
        refine wpAnyZ_takeW 6 (.int .i64 i) rfl (by kernel_rfl) (by kernel_rfl) (fun _ _ _ h=>h) (by rfl) (fun _=>by first | (simp [go_sem];done) | go_simp) hS0 ?_
        try simp only [Act.put,sTA,sC0,sC1,gTA,gC0,gC1]
        refine wpAnyZ_one 4 (by kernel_rfl) rfl (by rfl) (fun K hK=>?_)
        refine owp_appM (.tmp 55) (.tmp 57) 24 rfl V W0.heap.size 3 i0 (.int .i64 0) 1 8 Tryz.underlying24 hi0 hz0 hz1 hz2 rfl (by omega) A2 n2 c2 _ rfl SV.out.ha.own B k1 d ((ys).map (Value.int .i64)) rfl (by rw [List.length_map,(HBs.out _ hS0.2).len,Nat.mul_one]) (fun ad e=>by first | (injection e with e;subst e;exact (HBs.out _ hS0.2).news) | (subst e;exact (HBs.out _ hS0.2).news)) hBn (news_oneD _) (by omega) (by omega) hW0V ?_
        intro R1 e1 w5 hap
        have hap1:=hide hap
        have hK1:=hide (SV.out.midA hap).1
        have hW0w5:=Nat.le_trans hW0V hap.2.1.size
        have HB1:=hide (hap.low (B:=W0.heap.size) (Below.refl W0.heap.size V) hW0V (lR _) SV.out.ha.own)
        have hS1:=And.intro (hK1.out.c 1 rfl) (hS0.2.trans HB1.out)
        clear hap
        refine hK.out _ _ hS1 ?_
        clear hK K
        try simp only [Act.put,sTA,sC0,sC1,gTA,gC0,gC1]
        refine wpAnyZ_one 7 (by kernel_rfl) rfl (by rfl) (fun K hK=>?_)
        go_simp
        refine (spec_rowJ k2 ga n' c' B' k2 d' i w5 hk2 hnk'.out hlt hcA' hmA').mono ?_
        rintro e x2 ⟨rfl,hb2⟩
        have hbx2:=hide hb2
        have hVS2:=hS1.2.trans (hbx2.out.mono hW0w5)
        have hW0x2:W0.heap.size≤x2.heap.size:=Nat.le_trans hW0w5 hbx2.out.size
        have hown2:=hide (owns_below hap1.out.1 hbx2.out (fun ad e=>(owns_lt hap1.out.1 ad e).2))
        have hS2:=And.intro ((hbx2.out.cell (World.block_lt_of_cell? _ _ hS1.1)).trans hS1.1) hVS2
        clear hb2
        go_wp2_with fail
        refine hK.out _ _ hS2 ?_
        clear hK K
        try simp only [Act.put,sTA,sC0,sC1,gTA,gC0,gC1]
        refine wpAnyZ_one 8 (by kernel_rfl) rfl (by rfl) (fun K hK=>?_)
        refine owp_appM (.tmp 58) (.tmp 61) 24 rfl x2 W0.heap.size 3 i0 (.int .i64 0) 1 8 Tryz.underlying24 hi0 hz0 hz1 hz2 rfl (by omega) R1 (n2+k1) e1 _ rfl hown2.out (some ⟨ga,i*k2,none⟩) k2 (c' - i*k2) ((((xs'.drop (i*k2)).take k2)).map (Value.int .i64)) rfl (by rw [List.length_map,(HRow.out _ hS2.2).len,Nat.mul_one]) (fun ad e=>by first | (injection e with e;subst e;exact (HRow.out _ hS2.2).news) | (subst e;exact (HRow.out _ hS2.2).news)) (fun e=>by cases e) (news_oneD _) (by omega) (by omega) hW0x2 ?_
        intro R3 c3 w9 hap
        have hapZ:=hide (hap1.out.trans hbx2.out hap)
        have hK5:=hide (SV.out.midA hapZ.out).1
        have HT5:=hide (SV.out.pushA2 (ys:=ys++((xs'.drop (i*k2)).take k2)) HRngB.out hapZ.out (by simp [List.map_append,List.append_assoc]))
        have hS4:=And.intro (hK5.out.c 1 rfl) (hS2.2.trans (hap.low (B:=W0.heap.size) (Below.refl W0.heap.size x2) hW0x2 (lR _) hown2.out))
        clear hap
        refine hK.out _ _ hS4 ?_
        clear hK K
        try simp only [Act.put,sTA,sC0,sC1,gTA,gC0,gC1]
        refine wpAnyZ_takeW 9 (.pointer (some ⟨g,1,none⟩)) rfl (by kernel_rfl) (by kernel_rfl) (fun _ _ _ h=>h) (by rfl) (fun _=>by first | (simp [go_sem];done) | go_simp) hS4 ?_
        try simp only [Act.put,sTA,sC0,sC1,gTA,gC0,gC1]
        have g0:=hK5.out.c 1 rfl
        have g1:=hK5.out.f 1
        refine wpAnyZ_last (by kernel_rfl) rfl (by kernel_rfl) (by rfl) (fun K hK=>?_)
        go_simp
        refine hK _ _ ?_
        clear hK K g0 g1 hS4 hK5
        clear SV hapZ
        go_wp2_with fail
        go_roundw
        case rel=>exact ⟨i+1,R3,n2+k1+k2,c3,_,by omega,by go_num,by omega,HT5.out⟩
        case measure=>simp [intOf];omega
       ·obtain rfl:k2=i:=by omega
        have HRngC:=hide (rng_app HB.out.rng HB'.out.rng)
        have hW0r:=hS.out.low.size
        go_upto_region 12 with fail
        refine wp_region_Z (fun W'=>W'.cell? ⟨g,2,none⟩=some (.slice none 0 0)∧Below W0.heap.size W0 W') 9 (by kernel_rfl) ?_
        simp only [List.size_toArray,List.length_cons,List.length_nil,Nat.reduceAdd]
        have SV:=hide (hS.out.below (Below.refl wr.heap.size wr).drew)
        have hW0V':W0.heap.size≤wr.drew.heap.size:=hW0r
        clear hS hW0r
        generalize wr.drew=V at SV hW0V' ⊢
        have hW0V:=hW0V'
        have hS0:=And.intro (SV.out.tab.c 2 rfl) SV.out.low.toBelow
        clear hW0V'
        refine wpAnyZ_takeW 0 (.pointer (some ⟨g,2,none⟩)) rfl (by kernel_rfl) (by kernel_rfl) (fun _ _ _ h=>h) (by rfl) (fun _=>by first | (simp [go_sem];done) | go_simp) hS0 ?_
        try simp only [Act.put,sTA,sC0,sC1,gTA,gC0,gC1]
        refine wpAnyZ_take 1 (.slice none 0 0) rfl (by kernel_rfl) (by kernel_rfl) (fun _ _ _ h=>h) (by rfl) (fun _ hS=>by have q0:=hS.1;clear hS;first | (simp [go_sem,q0];done) | go_simp) hS0 ?_
        try simp only [Act.put,sTA,sC0,sC1,gTA,gC0,gC1]
        refine wpAnyZ_takeW 2 (.pointer (some ⟨gb,2,none⟩)) rfl (by kernel_rfl) (by kernel_rfl) (fun _ _ _ h=>h) (by rfl) (fun _=>by first | (simp [go_sem];done) | go_simp) hS0 ?_
        try simp only [Act.put,sTA,sC0,sC1,gTA,gC0,gC1]
        refine wpAnyZ_take 3 (.slice B k1 d) rfl (by kernel_rfl) (by kernel_rfl) (fun _ _ _ h=>h) (by rfl) (fun _ hS=>by have q2:=(hS.2.cell (p:=⟨gb,2,none⟩) hgbW).trans hyb2;clear hS;first | (simp [go_sem,q2];done) | go_simp) hS0 ?_
        try simp only [Act.put,sTA,sC0,sC1,gTA,gC0,gC1]
        refine wpAnyZ_takeW 5 (.pointer (some ⟨gc,2,none⟩)) rfl (by kernel_rfl) (by kernel_rfl) (fun _ _ _ h=>h) (by rfl) (fun _=>by first | (simp [go_sem];done) | go_simp) hS0 ?_
        try simp only [Act.put,sTA,sC0,sC1,gTA,gC0,gC1]
        refine wpAnyZ_take 6 (.slice B' k2 d') rfl (by kernel_rfl) (by kernel_rfl) (fun _ _ _ h=>h) (by rfl) (fun _ hS=>by have q2:=(hS.2.cell (p:=⟨gc,2,none⟩) hgcW).trans hyc2;clear hS;first | (simp [go_sem,q2];done) | go_simp) hS0 ?_
        try simp only [Act.put,sTA,sC0,sC1,gTA,gC0,gC1]
        refine wpAnyZ_one 4 (by kernel_rfl) rfl (by rfl) (fun K hK=>?_)
        refine owp_appM (.tmp 65) (.tmp 67) 24 rfl V W0.heap.size 3 i0 (.int .i64 0) 1 8 Tryz.underlying24 hi0 hz0 hz1 hz2 rfl (by omega) none 0 0 _ rfl SV.out.hb.own B k1 d ((ys).map (Value.int .i64)) rfl (by rw [List.length_map,(HBs.out _ hS0.2).len,Nat.mul_one]) (fun ad e=>by first | (injection e with e;subst e;exact (HBs.out _ hS0.2).news) | (subst e;exact (HBs.out _ hS0.2).news)) hBn (news_oneD _) (by omega) (by omega) hW0V ?_
        intro R1 e1 w5 hap
        have hap1:=hide hap
        have hK1:=hide (SV.out.midB hap).1
        have hW0w5:=Nat.le_trans hW0V hap.2.1.size
        have HB1:=hide (hap.low (B:=W0.heap.size) (Below.refl W0.heap.size V) hW0V (lR _) SV.out.hb.own)
        have hS1:=And.intro (hK1.out.c 2 rfl) (hS0.2.trans HB1.out)
        clear hap
        refine hK.out _ _ hS1 ?_
        clear hK K
        try simp only [Act.put,sTA,sC0,sC1,gTA,gC0,gC1]
        refine wpAnyZ_one 7 (by kernel_rfl) rfl (by rfl) (fun K hK=>?_)
        refine owp_appM (.tmp 68) (.tmp 70) 24 rfl w5 W0.heap.size 3 i0 (.int .i64 0) 1 8 Tryz.underlying24 hi0 hz0 hz1 hz2 rfl (by omega) R1 (0+k1) e1 _ rfl hap1.out.1 B' k2 d' ((ys').map (Value.int .i64)) rfl (by rw [List.length_map,(HBs2.out _ hS1.2).len,Nat.mul_one]) (fun ad e=>by first | (injection e with e;subst e;exact (HBs2.out _ hS1.2).news) | (subst e;exact (HBs2.out _ hS1.2).news)) hBn' (news_oneD _) (by omega) (by omega) hW0w5 ?_
        intro R3 c3 w9 hap
        have hap2:=hide (hap1.out.trans (Below.refl w5.heap.size w5) hap)
        have hK5:=hide (SV.out.midB hap2.out).1
        have HT5:=hide (SV.out.pushB2 (ys:=ys++ys') HRngC.out hap2.out (by simp [List.map_append]))
        have hS4:=And.intro (hK5.out.c 2 rfl) (hS1.2.trans (hap.low (B:=W0.heap.size) (Below.refl W0.heap.size w5) hW0w5 (lR _) hap1.out.1))
        clear hap
        refine hK.out _ _ hS4 ?_
        clear hK K
        try simp only [Act.put,sTA,sC0,sC1,gTA,gC0,gC1]
        refine wpAnyZ_takeW 8 (.pointer (some ⟨g,2,none⟩)) rfl (by kernel_rfl) (by kernel_rfl) (fun _ _ _ h=>h) (by rfl) (fun _=>by first | (simp [go_sem];done) | go_simp) hS4 ?_
        try simp only [Act.put,sTA,sC0,sC1,gTA,gC0,gC1]
        have g0:=hK5.out.c 2 rfl
        have g1:=hK5.out.f 2
        refine wpAnyZ_last (by kernel_rfl) rfl (by kernel_rfl) (by rfl) (fun K hK=>?_)
        go_simp
        refine hK _ _ ?_
        clear hK K g0 g1 hS4 hK5
        simp only [Nat.zero_add] at HT5 ⊢
        have hd:=hide (HT5.out.done (.int .i64 ((k1:Int)+(k2:Int))) (.slice A2 n2 c2) (.slice R3 (k1+k2) c3))
        have hp1:=HT5.out.tab
        have hp2:=HT5.out.res
        have T1:=hp1.c 0 rfl
        have T2:=hp1.c 1 rfl
        have T3:=hp1.c 2 rfl
        have U1:=hp2.c 0 rfl
        have U2:=hp2.c 1 rfl
        have U3:=hp2.c 2 rfl
        have V1:=hp2.f 0
        have V2:=hp2.f 1
        have V3:=hp2.f 2
        have zk:=hp2.lt
        clear HT5 hp1 hp2 SV hap2
        go_wp2_with fail
        refine bodyPost_ret (v := .tuple #[.agg #[.int .i64 ((k1:Int)+(k2:Int)),.slice A2 n2 c2,.slice R3 (k1+k2) c3],.bool true]) (by simp [results,Tryz.results58,go_sem,U1,U2,U3,V1,V2,V3,zk]) rfl ⟨_,A2,n2,c2,za,R3,k1+k2,c3,ys++ys',true,rfl,by omega,by omega,hd.out.1.up hz01,?_⟩
        exact a0.trans (hd.out.2.toBelow.mono hz01)
end Go.Proofs.YtomgcbfcnjbofaaGreat
