/- A tableau, drawn: the reference's walk. -/
import Derived.Test.YtomgcbfcnjbofaaGreatDtK
namespace Go.Proofs.YtomgcbfcnjbofaaGreat
open Go.RowKit
open List renaming setIfInBounds_toArray → sTA, set_cons_zero → sC0, set_cons_succ → sC1, getElem_toArray → gTA, getElem_cons_zero → gC0, getElem_cons_succ → gC1
open Nat renaming le_refl → lR, zero_le → zL
set_option linter.unusedSimpArgs false
set_option linter.unusedVariables false
set_option maxRecDepth 20000
theorem take_get {α:Type} {xs:List α} {k j:Nat} {x:α} (h:(xs.take k)[j]? = some x):xs[j]? = some x:=by
 have hj:=(List.getElem?_eq_some_iff.1 h).1
 rw [List.length_take] at hj
 rwa [List.getElem?_take_of_lt (by omega)] at h
theorem dt_done {w wB W:World} {hiC gc:Nat} {A:Option Addr} {n c:Nat} {xs:List Int} {B:Option Addr} {m d:Nat} {ys:List Int} (hgr:w.heap.size<wB.heap.size) (r:TabR wB W A n c xs B m d ys) (low:Touch gc (gc+1) wB W) (t0:Touch gc (gc+1) w wB) (cur:Cur W hiC gc) (v1 v2 v3:Value) (hgc:gc+1≤w.heap.size) :
  TabR w (((W.setCell ⟨w.heap.size,0,none⟩ v1).setCell ⟨w.heap.size,1,none⟩ v2).setCell ⟨w.heap.size,2,none⟩ v3) A n c xs B m d ys∧Cur (((W.setCell ⟨w.heap.size,0,none⟩ v1).setCell ⟨w.heap.size,1,none⟩ v2).setCell ⟨w.heap.size,2,none⟩ v3) hiC gc∧Touch gc (gc+1) w (((W.setCell ⟨w.heap.size,0,none⟩ v1).setCell ⟨w.heap.size,1,none⟩ v2).setCell ⟨w.heap.size,2,none⟩ v3):=by
 have hA:∀ ad,A=some ad→ad.block≠w.heap.size:=fun ad e=>by have:=(owns_lt r.ha.own ad e).1;omega
 have hB:∀ ad,B=some ad→ad.block≠w.heap.size:=fun ad e=>by have:=(owns_lt r.hb.own ad e).1;omega
 have hb:Below w.heap.size W (((W.setCell ⟨w.heap.size,0,none⟩ v1).setCell ⟨w.heap.size,1,none⟩ v2).setCell ⟨w.heap.size,2,none⟩ v3):=(((Below.refl w.heap.size W).setCell (p:=⟨w.heap.size,0,none⟩) (lR _) v1).setCell (p:=⟨w.heap.size,1,none⟩) (lR _) v2).setCell (p:=⟨w.heap.size,2,none⟩) (lR _) v3
 exact ⟨(((r.setCell (p:=⟨w.heap.size,0,none⟩) hA hB v1).setCell (p:=⟨w.heap.size,1,none⟩) hA hB v2).setCell (p:=⟨w.heap.size,2,none⟩) hA hB v3).up (Nat.le_of_lt hgr),cur.low hb (by omega),(t0.trans low).then_below hb (lR _)⟩
theorem blk_stored {W:World} {b:Nat} {u1 u2 u3:Value} (k:BlkN W b #[u1,u2,u3]) (v1 v2 v3:Value):BlkN (((W.setCell ⟨b,0,none⟩ v1).setCell ⟨b,1,none⟩ v2).setCell ⟨b,2,none⟩ v3) b #[v1,v2,v3]:=by
 have h:=((k.set 0 v1).set 1 v2).set 2 v3
 simpa using h
theorem TabR.stored9 {wB W:World} {A:Option Addr} {n c:Nat} {xs:List Int} {B:Option Addr} {m d:Nat} {ys:List Int} (r:TabR wB W A n c xs B m d ys) (b:Nat) (hA:∀ ad,A=some ad→ad.block≠b) (hB:∀ ad,B=some ad→ad.block≠b) (v1 v2 v3:Value):TabR wB (((W.setCell ⟨b,0,none⟩ v1).setCell ⟨b,1,none⟩ v2).setCell ⟨b,2,none⟩ v3) A n c xs B m d ys :=
 ((r.setCell (p:=⟨b,0,none⟩) hA hB v1).setCell (p:=⟨b,1,none⟩) hA hB v2).setCell (p:=⟨b,2,none⟩) hA hB v3
structure DtS (hiC gc:Nat) (wB W:World) (g1 g2:Nat) (v1 v2:Array Value):Prop where
 k1:BlkN W g1 v1
 k2:BlkN W g2 v2
 cur:Cur W hiC gc
 low:Touch gc (gc+1) wB W
 l1:wB.heap.size≤g1
 l2:wB.heap.size≤g2
 hgc:gc+1≤wB.heap.size
section
variable {hiC gc:Nat} {wB W W':World} {g1 g2:Nat} {v1 v2:Array Value}
theorem DtS.s (h:DtS hiC gc wB W g1 g2 v1 v2):BlkN W g1 v1∧BlkN W g2 v2:=⟨h.k1,h.k2⟩
theorem DtS.touch (h:DtS hiC gc wB W g1 g2 v1 v2) (ht:Touch gc (gc+1) W W') (hc:Cur W' hiC gc):DtS hiC gc wB W' g1 g2 v1 v2 :=
 ⟨h.k1.touch ht (.inr (by have:=h.hgc;have:=h.l1;omega)),h.k2.touch ht (.inr (by have:=h.hgc;have:=h.l2;omega)),hc,h.low.trans ht,h.l1,h.l2,h.hgc⟩
theorem DtS.below (h:DtS hiC gc wB W g1 g2 v1 v2) (hb:Below W.heap.size W W'):DtS hiC gc wB W' g1 g2 v1 v2 :=
 ⟨h.k1.below hb,h.k2.below hb,h.cur.below hb,h.low.then_below hb h.low.size,h.l1,h.l2,h.hgc⟩
theorem DtS.stored (h:DtS hiC gc wB W g1 g2 v1 v2) (b:Nat) (hb:wB.heap.size≤b) (n1:g1≠b) (n2:g2≠b) (u1 u2 u3:Value):DtS hiC gc wB (((W.setCell ⟨b,0,none⟩ u1).setCell ⟨b,1,none⟩ u2).setCell ⟨b,2,none⟩ u3) g1 g2 v1 v2:=by
 have hB:Below wB.heap.size W (((W.setCell ⟨b,0,none⟩ u1).setCell ⟨b,1,none⟩ u2).setCell ⟨b,2,none⟩ u3):=(((Below.refl wB.heap.size W).setCell (p:=⟨b,0,none⟩) hb u1).setCell (p:=⟨b,1,none⟩) hb u2).setCell (p:=⟨b,2,none⟩) hb u3
 exact ⟨((h.k1.far (b:=b) (i:=0) n1 u1).far (b:=b) (i:=1) n1 u2).far (b:=b) (i:=2) n1 u3,((h.k2.far (b:=b) (i:=0) n2 u1).far (b:=b) (i:=1) n2 u2).far (b:=b) (i:=2) n2 u3,h.cur.low hB (by have:=h.hgc;omega),h.low.then_below hB (lR _),h.l1,h.l2,h.hgc⟩
end
theorem spec_dExplicitI (hiC gc:Nat) (st:Int) (full:Bool) (w:World) (h:Cur w hiC gc) (h0:0≤st) (h8:st≤8) :
  Calls Tryz.prog 53 #[.pointer (some ⟨gc,0,none⟩),.int .i64 st,.bool full] w fun e w'=>∃ A n c xs B m d ys,e = .returned (.agg #[.int .i64 st,.slice A n c,.slice B m d])∧n≤1000∧m≤1000∧TabR w w' A n c xs B m d ys∧Cur w' hiC gc∧Touch gc (gc+1) w w':=by
 obtain ⟨k,rfl⟩:∃ k:Nat,st=k:=⟨st.toNat,by omega⟩
 exact spec_dExplicit hiC gc k full w h (by omega)
set_option maxRecDepth 100000 in
set_option maxHeartbeats 8000000 in
theorem spec_dTableau (hiC gc:Nat) (w:World) (h:Cur w hiC gc) :
  Calls Tryz.prog 18 #[.pointer (some ⟨gc,0,none⟩)] w fun e w'=>∃ s2 A n c xs B m d ys,e = .returned (.agg #[.int .i64 s2,.slice A n c,.slice B m d])∧n≤100000∧m≤100000∧TabR w w' A n c xs B m d ys∧Cur w' hiC gc∧Touch gc (gc+1) w w':=by
 obtain ⟨hgc,hgh⟩:=h.lt
 have hgcw:gc+1≤w.heap.size:=hgc
 have HKR:=hide ((BlkN.new w #[.int .i64 0,.slice none 0 0,.slice none 0 0] 26).alloc (.cells #[.string ⟨#[101,117,108,101,114]⟩,.string ⟨#[98,97,99,107,119,97,114,100]⟩,.string ⟨#[109,105,100,100,108,101]⟩,.string ⟨#[109,105,100,112,111,105,110,116]⟩,.string ⟨#[104,101,117,110]⟩,.string ⟨#[107,117,116,116,97]⟩,.string ⟨#[99,108,97,115,115,105,99]⟩,.string ⟨#[101,105,103,104,116,104,115]⟩,.string ⟨#[112,97,105,114]⟩,.string ⟨#[103,97,117,115,115,49]⟩,.string ⟨#[103,97,117,115,115,50]⟩,.string ⟨#[103,97,117,115,115,51]⟩,.string ⟨#[114,97,100,97,117,49]⟩,.string ⟨#[114,97,100,97,117,50]⟩,.string ⟨#[114,97,100,97,117,51]⟩,.string ⟨#[108,111,98,97,116,116,111,50]⟩,.string ⟨#[108,111,98,97,116,116,111,51]⟩,.string ⟨#[108,111,98,97,116,116,111,52]⟩] 9))
 have HT0:=hide (((Touch.refl gc (gc+1) w).alloc (.cells #[.int .i64 0,.slice none 0 0,.slice none 0 0] 26)).alloc (.cells #[.string ⟨#[101,117,108,101,114]⟩,.string ⟨#[98,97,99,107,119,97,114,100]⟩,.string ⟨#[109,105,100,100,108,101]⟩,.string ⟨#[109,105,100,112,111,105,110,116]⟩,.string ⟨#[104,101,117,110]⟩,.string ⟨#[107,117,116,116,97]⟩,.string ⟨#[99,108,97,115,115,105,99]⟩,.string ⟨#[101,105,103,104,116,104,115]⟩,.string ⟨#[112,97,105,114]⟩,.string ⟨#[103,97,117,115,115,49]⟩,.string ⟨#[103,97,117,115,115,50]⟩,.string ⟨#[103,97,117,115,115,51]⟩,.string ⟨#[114,97,100,97,117,49]⟩,.string ⟨#[114,97,100,97,117,50]⟩,.string ⟨#[114,97,100,97,117,51]⟩,.string ⟨#[108,111,98,97,116,116,111,50]⟩,.string ⟨#[108,111,98,97,116,116,111,51]⟩,.string ⟨#[108,111,98,97,116,116,111,52]⟩] 9))
 have c0:=(h.below (below_alloc w (.cells #[.int .i64 0,.slice none 0 0,.slice none 0 0] 26))).below (below_alloc (w.alloc (.cells #[.int .i64 0,.slice none 0 0,.slice none 0 0] 26)) (.cells #[.string ⟨#[101,117,108,101,114]⟩,.string ⟨#[98,97,99,107,119,97,114,100]⟩,.string ⟨#[109,105,100,100,108,101]⟩,.string ⟨#[109,105,100,112,111,105,110,116]⟩,.string ⟨#[104,101,117,110]⟩,.string ⟨#[107,117,116,116,97]⟩,.string ⟨#[99,108,97,115,115,105,99]⟩,.string ⟨#[101,105,103,104,116,104,115]⟩,.string ⟨#[112,97,105,114]⟩,.string ⟨#[103,97,117,115,115,49]⟩,.string ⟨#[103,97,117,115,115,50]⟩,.string ⟨#[103,97,117,115,115,51]⟩,.string ⟨#[114,97,100,97,117,49]⟩,.string ⟨#[114,97,100,97,117,50]⟩,.string ⟨#[114,97,100,97,117,51]⟩,.string ⟨#[108,111,98,97,116,116,111,50]⟩,.string ⟨#[108,111,98,97,116,116,111,51]⟩,.string ⟨#[108,111,98,97,116,116,111,52]⟩] 9))
 have zB:((w.alloc (.cells #[.int .i64 0,.slice none 0 0,.slice none 0 0] 26)).alloc (.cells #[.string ⟨#[101,117,108,101,114]⟩,.string ⟨#[98,97,99,107,119,97,114,100]⟩,.string ⟨#[109,105,100,100,108,101]⟩,.string ⟨#[109,105,100,112,111,105,110,116]⟩,.string ⟨#[104,101,117,110]⟩,.string ⟨#[107,117,116,116,97]⟩,.string ⟨#[99,108,97,115,115,105,99]⟩,.string ⟨#[101,105,103,104,116,104,115]⟩,.string ⟨#[112,97,105,114]⟩,.string ⟨#[103,97,117,115,115,49]⟩,.string ⟨#[103,97,117,115,115,50]⟩,.string ⟨#[103,97,117,115,115,51]⟩,.string ⟨#[114,97,100,97,117,49]⟩,.string ⟨#[114,97,100,97,117,50]⟩,.string ⟨#[114,97,100,97,117,51]⟩,.string ⟨#[108,111,98,97,116,116,111,50]⟩,.string ⟨#[108,111,98,97,116,116,111,51]⟩,.string ⟨#[108,111,98,97,116,116,111,52]⟩] 9)).heap.size=w.heap.size+2:=by simp
 have HNM:Hid (∀ j x,tabNames[j]? = some x→((w.alloc (.cells #[.int .i64 0,.slice none 0 0,.slice none 0 0] 26)).alloc (.cells #[.string ⟨#[101,117,108,101,114]⟩,.string ⟨#[98,97,99,107,119,97,114,100]⟩,.string ⟨#[109,105,100,100,108,101]⟩,.string ⟨#[109,105,100,112,111,105,110,116]⟩,.string ⟨#[104,101,117,110]⟩,.string ⟨#[107,117,116,116,97]⟩,.string ⟨#[99,108,97,115,115,105,99]⟩,.string ⟨#[101,105,103,104,116,104,115]⟩,.string ⟨#[112,97,105,114]⟩,.string ⟨#[103,97,117,115,115,49]⟩,.string ⟨#[103,97,117,115,115,50]⟩,.string ⟨#[103,97,117,115,115,51]⟩,.string ⟨#[114,97,100,97,117,49]⟩,.string ⟨#[114,97,100,97,117,50]⟩,.string ⟨#[114,97,100,97,117,51]⟩,.string ⟨#[108,111,98,97,116,116,111,50]⟩,.string ⟨#[108,111,98,97,116,116,111,51]⟩,.string ⟨#[108,111,98,97,116,116,111,52]⟩] 9)).cell? ⟨w.heap.size+1,j,none⟩=some (.string x)):=fun j x hx=>by
  have:=lit_cells (w:=w.alloc (.cells #[.int .i64 0,.slice none 0 0,.slice none 0 0] 26)) (vs:=tabNames.map Value.string) (t:=9) j (.string x) (by rw [List.getElem?_map,hx];rfl)
  rw [show (w.alloc (.cells #[.int .i64 0,.slice none 0 0,.slice none 0 0] 26)).heap.size=w.heap.size+1 from by simp] at this
  exact this
 clear h
 go_enter Tryz.func18,Tryz.ntmps18
 go_wp2_with fail
 obtain ⟨wB,hwB⟩:∃ z,z=((w.alloc (.cells #[.int .i64 0,.slice none 0 0,.slice none 0 0] 26)).alloc (.cells #[.string ⟨#[101,117,108,101,114]⟩,.string ⟨#[98,97,99,107,119,97,114,100]⟩,.string ⟨#[109,105,100,100,108,101]⟩,.string ⟨#[109,105,100,112,111,105,110,116]⟩,.string ⟨#[104,101,117,110]⟩,.string ⟨#[107,117,116,116,97]⟩,.string ⟨#[99,108,97,115,115,105,99]⟩,.string ⟨#[101,105,103,104,116,104,115]⟩,.string ⟨#[112,97,105,114]⟩,.string ⟨#[103,97,117,115,115,49]⟩,.string ⟨#[103,97,117,115,115,50]⟩,.string ⟨#[103,97,117,115,115,51]⟩,.string ⟨#[114,97,100,97,117,49]⟩,.string ⟨#[114,97,100,97,117,50]⟩,.string ⟨#[114,97,100,97,117,51]⟩,.string ⟨#[108,111,98,97,116,116,111,50]⟩,.string ⟨#[108,111,98,97,116,116,111,51]⟩,.string ⟨#[108,111,98,97,116,116,111,52]⟩] 9)):=⟨_,rfl⟩
 rw [← hwB] at HKR HT0 c0 zB HNM ⊢
 obtain ⟨gnm,hgnm⟩:∃ z,z=w.heap.size+1:=⟨_,rfl⟩
 rw [← hgnm] at HNM ⊢
 have hgrB:w.heap.size<wB.heap.size:=by omega
 have hgnB:gnm<wB.heap.size:=by omega
 have hgcn:gc<gnm:=by omega
 clear zB hgnm hwB
 refine (spec_l1Below hiC gc 7 wB c0 (by omega) (by omega)).mono ?_
 rintro e w1 ⟨x,rfl,hx0,hx1,c1,low1⟩
 clear c0
 by_cases e0:x=0
 ·subst e0
  go_wp2_with fail
  refine (spec_l1Below hiC gc 3 w1 c1 (by omega) (by omega)).mono ?_
  rintro e w2 ⟨y,rfl,hy0,hy1,c2,t2⟩
  have low2:=low1.trans t2
  have hwy:=IntWalk.i64_in (1+y) (by omega)
  clear c1 t2
  go_wp2_with fail
  refine (spec_dExplicitI hiC gc (1+y) false w2 c2 (by omega) (by omega)).mono ?_
  rintro e w3 ⟨A,n,c,xs,B,m,d,ys,rfl,hn,hm,r,c3,t3⟩
  have low3:=low2.trans t3
  have R3:=hide (r.up low2.size)
  clear c2 r t3 low2 low1 hwy
  have HD:=hide (dt_done hgrB R3.out low3 HT0.out c3 (.int .i64 (1+y)) (.slice A n c) (.slice B m d) hgcw)
  have kr:=HKR.out.touch low3 (.inr hgcw)
  have U1:=kr.c 0 rfl
  have U2:=kr.c 1 rfl
  have U3:=kr.c 2 rfl
  have V1:=kr.f 0
  have V2:=kr.f 1
  have V3:=kr.f 2
  have zk:=kr.lt
  clear kr
  go_wp2_with fail
  refine bodyPost_ret (v := .agg #[.int .i64 (1+y),.slice A n c,.slice B m d]) (by simp [results,Tryz.results18,go_sem,U1,U2,U3,V1,V2,V3,zk]) rfl ⟨_,A,n,c,xs,B,m,d,ys,rfl,by omega,by omega,HD.out.1,HD.out.2.1,HD.out.2.2⟩
 by_cases e1:x=1
 ·subst e1
  go_wp2_with fail
  refine (spec_l1Below hiC gc 3 w1 c1 (by omega) (by omega)).mono ?_
  rintro e w2 ⟨y,rfl,hy0,hy1,c2,t2⟩
  have low2:=low1.trans t2
  have hwy:=IntWalk.i64_in (1+y) (by omega)
  clear c1 t2
  go_wp2_with fail
  refine (spec_dExplicitI hiC gc (1+y) true w2 c2 (by omega) (by omega)).mono ?_
  rintro e w3 ⟨A,n,c,xs,B,m,d,ys,rfl,hn,hm,r,c3,t3⟩
  have low3:=low2.trans t3
  have R3:=hide (r.up low2.size)
  clear c2 r t3 low2 low1 hwy
  have HD:=hide (dt_done hgrB R3.out low3 HT0.out c3 (.int .i64 (1+y)) (.slice A n c) (.slice B m d) hgcw)
  have kr:=HKR.out.touch low3 (.inr hgcw)
  have U1:=kr.c 0 rfl
  have U2:=kr.c 1 rfl
  have U3:=kr.c 2 rfl
  have V1:=kr.f 0
  have V2:=kr.f 1
  have V3:=kr.f 2
  have zk:=kr.lt
  clear kr
  go_wp2_with fail
  refine bodyPost_ret (v := .agg #[.int .i64 (1+y),.slice A n c,.slice B m d]) (by simp [results,Tryz.results18,go_sem,U1,U2,U3,V1,V2,V3,zk]) rfl ⟨_,A,n,c,xs,B,m,d,ys,rfl,by omega,by omega,HD.out.1,HD.out.2.1,HD.out.2.2⟩
 by_cases e2:x=2
 ·subst e2
  go_wp2_with fail
  refine (spec_dNum hiC gc w1 c1).mono ?_
  rintro e w2 ⟨f2,rfl,hf0,hf1,c2,t2⟩
  have low2:=low1.trans t2
  clear c1 t2
  go_wp2_with fail
  refine (spec_dNum hiC gc w2 c2).mono ?_
  rintro e w3 ⟨f3,rfl,hf2,hf3,c3,t3⟩
  have low3:=low2.trans t3
  clear c2 t3
  go_wp2_with fail
  refine (spec_ExplicitFour f2 f3 w3 ⟨hf0,hf1⟩ ⟨hf2,hf3⟩).mono ?_
  rintro e w4 ⟨s4,A4,n4,k4,x4,B4,m4,d4,y4,ok4,rfl,hn4,hm4,r4,b4⟩
  have low4:=low3.then_below b4 low3.size
  have c4:=c3.below b4
  have R4:=hide (r4.up low3.size)
  have aL:=below_alloc w4 (.cells #[.int .i64 s4,.slice A4 n4 k4,.slice B4 m4 d4] 26)
  have kL:=BlkN.new w4 #[.int .i64 s4,.slice A4 n4 k4,.slice B4 m4 d4] 26
  have lowL:=low4.then_below aL low4.size
  have cL:=c4.below aL
  have RL:=hide (R4.out.below aL)
  clear c3 r4 b4 R4 c4 low1 low2 low3 low4
  go_upto_region 9 with fail
  generalize w4.alloc (.cells #[.int .i64 s4,.slice A4 n4 k4,.slice B4 m4 d4] 26)=wL at aL kL lowL cL RL ⊢
  have T1:=kL.c 0 rfl
  have T2:=kL.c 1 rfl
  have T3:=kL.c 2 rfl
  clear aL kL
  cases ok4 with
  | true =>
   have HD:=hide (dt_done hgrB RL.out lowL HT0.out cL (.int .i64 (s4)) (.slice A4 n4 k4) (.slice B4 m4 d4) hgcw)
   have kr:=HKR.out.touch lowL (.inr hgcw)
   have U1:=kr.c 0 rfl
   have U2:=kr.c 1 rfl
   have U3:=kr.c 2 rfl
   have V1:=kr.f 0
   have V2:=kr.f 1
   have V3:=kr.f 2
   have zk:=kr.lt
   clear kr
   go_wp2_with fail
   refine bodyPost_ret (v := .agg #[.int .i64 (s4),.slice A4 n4 k4,.slice B4 m4 d4]) (by simp [results,Tryz.results18,go_sem,U1,U2,U3,V1,V2,V3,zk]) rfl ⟨_,A4,n4,k4,x4,B4,m4,d4,y4,rfl,by omega,by omega,HD.out.1,HD.out.2.1,HD.out.2.2⟩
  | false =>
   clear T1 T2 T3 RL
   go_wp2_with fail
   refine (spec_l1PickC hiC gc gnm 18 18 (tabNames.take 18) wL cL (by omega) (by omega) rfl (by have:=lowL.size;omega) (by omega) (by omega) (by omega) (fun j x hx=>(World.cell?_of_block (a:=⟨gnm,j,none⟩) (lowL.block gnm hgnB (.inr (by omega)))).trans (HNM.out j x (take_get hx)))).mono ?_
   rintro e wp ⟨nm,rfl,hnm,cp,tp⟩
   have lowp:=lowL.trans tp
   have Hnm:=hide (List.mem_of_mem_take hnm)
   have lowtp:=tp
   clear hnm tp
   go_wp2_with fail
   refine (spec_KnownTableauA nm wp Hnm.out).mono ?_
   rintro e wq ⟨sq,Aq,nq,kq,xq,Bq,mq,dq,yq,okq,rfl,hnq,hmq,rq,bq⟩
   have lowq:=lowp.then_below bq lowp.size
   have cq:=cp.below bq
   have Rq:=hide (rq.up lowp.size)
   have blq:=bq
   clear rq bq Hnm
   have aL:=below_alloc wq (.cells #[.int .i64 sq,.slice Aq nq kq,.slice Bq mq dq] 26)
   have kL:=BlkN.new wq #[.int .i64 sq,.slice Aq nq kq,.slice Bq mq dq] 26
   have lowL:=lowq.then_below aL lowq.size
   have cL:=cq.below aL
   have RL:=hide (Rq.out.below aL)
   clear cp lowp Rq lowq cq
   go_upto_region 17 with fail
   generalize wq.alloc (.cells #[.int .i64 sq,.slice Aq nq kq,.slice Bq mq dq] 26)=wL at aL kL lowL cL RL ⊢
   have T1:=kL.c 0 rfl
   have T2:=kL.c 1 rfl
   have T3:=kL.c 2 rfl
   clear aL kL
   have HD:=hide (dt_done hgrB RL.out lowL HT0.out cL (.int .i64 (sq)) (.slice Aq nq kq) (.slice Bq mq dq) hgcw)
   have kr:=HKR.out.touch lowL (.inr hgcw)
   have U1:=kr.c 0 rfl
   have U2:=kr.c 1 rfl
   have U3:=kr.c 2 rfl
   have V1:=kr.f 0
   have V2:=kr.f 1
   have V3:=kr.f 2
   have zk:=kr.lt
   clear kr
   go_wp2_with fail
   refine bodyPost_ret (v := .agg #[.int .i64 (sq),.slice Aq nq kq,.slice Bq mq dq]) (by simp [results,Tryz.results18,go_sem,U1,U2,U3,V1,V2,V3,zk]) rfl ⟨_,Aq,nq,kq,xq,Bq,mq,dq,yq,rfl,by omega,by omega,HD.out.1,HD.out.2.1,HD.out.2.2⟩
 by_cases e3:x=3
 ·subst e3
  go_wp2_with fail
  refine (spec_l1PickC hiC gc gnm 5 18 (tabNames.take 5) w1 c1 (by omega) (by omega) rfl (by have:=low1.size;omega) (by omega) (by omega) (by omega) (fun j x hx=>(World.cell?_of_block (a:=⟨gnm,j,none⟩) (low1.block gnm hgnB (.inr (by omega)))).trans (HNM.out j x (take_get hx)))).mono ?_
  rintro e wa ⟨nma,rfl,hnma,ca,ta⟩
  have lowa:=low1.trans ta
  have Hnma:=hide (List.mem_of_mem_take hnma)
  have lowta:=ta
  clear hnma ta
  clear low1 c1
  go_wp2_with fail
  refine (spec_KnownTableauA nma wa Hnma.out).mono ?_
  rintro e wb ⟨s1,A1,n1,k1,x1,B1,m1,d1,y1,ok1,rfl,hn1,hm1,r1,bb⟩
  have lowb:=lowa.then_below bb lowa.size
  have cb:=ca.below bb
  have R1:=hide (r1.up lowa.size)
  have blb:=bb
  clear r1 bb Hnma
  clear lowa ca
  have aL:=below_alloc wb (.cells #[.int .i64 s1,.slice A1 n1 k1,.slice B1 m1 d1] 26)
  have kL:=BlkN.new wb #[.int .i64 s1,.slice A1 n1 k1,.slice B1 m1 d1] 26
  have lowL:=lowb.then_below aL lowb.size
  have cL:=cb.below aL
  have RL:=hide (R1.out.below aL)
  have hg1:=lowb.size
  clear R1 lowb cb
  go_wp2_with fail
  generalize wb.alloc (.cells #[.int .i64 s1,.slice A1 n1 k1,.slice B1 m1 d1] 26)=wL at aL kL lowL cL RL ⊢
  obtain ⟨g1,hgg1⟩:∃ z,z=wb.heap.size:=⟨_,rfl⟩
  rw [← hgg1] at kL hg1 ⊢
  clear aL hgg1
  refine (spec_l1PickC hiC gc gnm 6 18 (tabNames.take 6) wL cL (by omega) (by omega) rfl (by have:=lowL.size;omega) (by omega) (by omega) (by omega) (fun j x hx=>(World.cell?_of_block (a:=⟨gnm,j,none⟩) (lowL.block gnm hgnB (.inr (by omega)))).trans (HNM.out j x (take_get hx)))).mono ?_
  rintro e wc ⟨nmc,rfl,hnmc,cc,tc⟩
  have lowc:=lowL.trans tc
  have Hnmc:=hide (List.mem_of_mem_take hnmc)
  have lowtc:=tc
  clear hnmc tc
  have kc:=kL.touch lowtc (.inr (by omega))
  go_wp2_with fail
  refine (spec_KnownTableauA nmc wc Hnmc.out).mono ?_
  rintro e wd ⟨s2,A2,n2,k2,x2,B2,m2,d2,y2,ok2,rfl,hn2,hm2,r2,bd⟩
  have lowd:=lowc.then_below bd lowc.size
  have cd:=cc.below bd
  have R2:=hide (r2.up lowc.size)
  have bld:=bd
  clear r2 bd Hnmc
  have R1d:=hide (((RL.out.touch lowtc (by omega)).below bld))
  have k1d:=kc.below bld
  have aM:=below_alloc wd (.cells #[.int .i64 s2,.slice A2 n2 k2,.slice B2 m2 d2] 26)
  have kM2:=BlkN.new wd #[.int .i64 s2,.slice A2 n2 k2,.slice B2 m2 d2] 26
  have kM1:=k1d.below aM
  have lowM:=lowd.then_below aM lowd.size
  have cM:=cd.below aM
  have RM1:=hide (R1d.out.below aM)
  have RM2:=hide (R2.out.below aM)
  have hg2:=lowd.size
  clear R1d R2 RL kc kL k1d bld blb lowtc lowta lowL lowd cd cc cL lowc
  go_upto_region 14 with fail
  obtain ⟨g2,hgg2⟩:∃ z,z=wd.heap.size:=⟨_,rfl⟩
  generalize wd.alloc (.cells #[.int .i64 s2,.slice A2 n2 k2,.slice B2 m2 d2] 26)=wM at aM kM1 kM2 lowM cM RM1 RM2 ⊢
  rw [← hgg2] at kM2 hg2 ⊢
  clear aM hgg2
  have HM:=hide (DtS.mk (hiC:=hiC) (gc:=gc) (wB:=wB) kM1 kM2 cM lowM hg1 hg2 (by omega))
  clear kM1 kM2 lowM cM
  go_cut [10,11] (fun s10 s11 wx=>∃ (b:Nat) (s5:Int) (A5:Option Addr) (n5 k5:Nat) (x5:List Int) (B5:Option Addr) (m5 d5:Nat) (y5:List Int) (ok:Bool),s10 = .pointer (some ⟨b,0,none⟩)∧s11 = .bool ok∧n5≤100000∧m5≤100000∧Hid (BlkN wx b #[.int .i64 s5,.slice A5 n5 k5,.slice B5 m5 d5])∧Hid (TabR wB wx A5 n5 k5 x5 B5 m5 d5 y5)∧Hid (Cur wx hiC gc)∧Hid (Touch gc (gc+1) wB wx))
  case first =>
   refine wp_region_Z (fun W'=>BlkN W' g1 #[.int .i64 s1,.slice A1 n1 k1,.slice B1 m1 d1]∧BlkN W' g2 #[.int .i64 s2,.slice A2 n2 k2,.slice B2 m2 d2]) 11 (by kernel_rfl) ?_
   simp only [List.size_toArray,List.length_cons,List.length_nil,Nat.reduceAdd]
   have D0:=hide (HM.out.below (Below.refl wM.heap.size wM).drew)
   have Ra0:=hide (RM1.out.below (Below.refl wM.heap.size wM).drew)
   have Rb0:=hide (RM2.out.below (Below.refl wM.heap.size wM).drew)
   clear HM RM1 RM2
   generalize wM.drew=V at D0 Ra0 Rb0 ⊢
   have hS0:=D0.out.s
   refine wpAnyZ_take 0 (.agg #[.int .i64 s1,.slice A1 n1 k1,.slice B1 m1 d1]) rfl (by kernel_rfl) (by kernel_rfl) (fun _ _ _ h=>h) (by rfl) (fun _ hS=>by have q0:=hS.1.c 0 rfl;have q1:=hS.1.c 1 rfl;have q2:=hS.1.c 2 rfl;clear hS;first | (simp [go_sem,q0,q1,q2];done) | go_simp) hS0 ?_
   try simp only [Act.put,sTA,sC0,sC1,gTA,gC0,gC1]
   refine wpAnyZ_takeW 1 (.pointer (some ⟨gc,0,none⟩)) rfl (by kernel_rfl) (by kernel_rfl) (fun _ _ _ h=>h) (by rfl) (fun _=>by first | (simp [go_sem];done) | go_simp) hS0 ?_
   try simp only [Act.put,sTA,sC0,sC1,gTA,gC0,gC1]
   refine wpAnyZ_take 4 (.agg #[.int .i64 s2,.slice A2 n2 k2,.slice B2 m2 d2]) rfl (by kernel_rfl) (by kernel_rfl) (fun _ _ _ h=>h) (by rfl) (fun _ hS=>by have q0:=hS.2.c 0 rfl;have q1:=hS.2.c 1 rfl;have q2:=hS.2.c 2 rfl;clear hS;first | (simp [go_sem,q0,q1,q2];done) | go_simp) hS0 ?_
   try simp only [Act.put,sTA,sC0,sC1,gTA,gC0,gC1]
   refine wpAnyZ_two 2 9 (by kernel_rfl) rfl rfl (by rfl) (by rfl) (fun K hK=>?_) (fun K hK=>?_)
   ·
    go_simp
    refine (spec_dNum hiC gc V D0.out.cur).mono ?_
    rintro e z1 ⟨kk,rfl,hk0,hk1,cN,tN⟩
    have D1:=hide (D0.out.touch tN cN)
    have Ra1:=hide (Ra0.out.touch tN D0.out.hgc)
    have Rb1:=hide (Rb0.out.touch tN D0.out.hgc)
    clear Ra0 Rb0
    have hS1:=D1.out.s
    clear tN cN
    go_wp2_with fail
    refine hK.out _ _ hS1 ?_
    clear hK K
    try simp only [Act.put,sTA,sC0,sC1,gTA,gC0,gC1]
    refine wpAnyZ_two 3 9 (by kernel_rfl) rfl rfl (by rfl) (by rfl) (fun K hK=>?_) (fun K hK=>?_)
    ·
     go_simp
     refine (spec_ScaleTableau s1 A1 n1 k1 x1 B1 m1 d1 y1 kk z1.heap.size z1 (Ra1.out.ha.ints.wide (zL _) (lR _)) (Ra1.out.hb.ints.wide (zL _) (lR _)) (lR _) hn1 hm1 (by constructor <;> omega)).mono ?_
     rintro e z2 ⟨s3,A3,n3,k3,x3,B3,m3,d3,y3,rfl,hn3,hm3,r3,b3⟩
     have Rs2:=hide (r3.up D1.out.low.size)
     have D2:=hide (D1.out.below b3)
     have Ra2:=hide (Ra1.out.below b3)
     have Rb2:=hide (Rb1.out.below b3)
     clear Ra1 Rb1
     have hS2:=D2.out.s
     clear r3 b3
     go_wp2_with fail
     refine hK.out _ _ hS2 ?_
     clear hK K
     try simp only [Act.put,sTA,sC0,sC1,gTA,gC0,gC1]
     refine wpAnyZ_two 5 9 (by kernel_rfl) rfl rfl (by rfl) (by rfl) (fun K hK=>?_) (fun K hK=>?_)
     ·
      go_simp
      refine (spec_ComposeTableaus s3 A3 n3 k3 x3 B3 m3 d3 y3 s2 A2 n2 k2 x2 B2 m2 d2 y2 z2.heap.size z2 (Rs2.out.ha.ints.wide (zL _) (lR _)) (Rs2.out.hb.ints.wide (zL _) (lR _)) (Rb2.out.ha.ints.wide (zL _) (lR _)) (Rb2.out.hb.ints.wide (zL _) (lR _)) (lR _) (fun h0=>by obtain ⟨ga,e,_⟩:=Rs2.out.ha.form h0;exact ⟨ga,e⟩) (fun h0=>by obtain ⟨ga,e,_⟩:=Rb2.out.ha.form h0;exact ⟨ga,e⟩) Rs2.out.hb.noneD Rb2.out.hb.noneD).mono ?_
      rintro e z3 ⟨s5,A5,n5,k5,x5,B5,m5,d5,y5,ok5,rfl,hn5,hm5,r5,b5⟩
      have Rr3:=hide (r5.up D2.out.low.size)
      have D3:=hide (D2.out.below b5)
      have hS3:=D3.out.s
      clear r5 b5
      go_wp2_with fail
      refine hK.out _ _ hS3 ?_
      clear hK K
      try simp only [Act.put,sTA,sC0,sC1,gTA,gC0,gC1]
      refine wpAnyZ_takeW 6 (.tuple #[.agg #[.int .i64 s5,.slice A5 n5 k5,.slice B5 m5 d5],.bool ok5]) rfl (by kernel_rfl) (by kernel_rfl) (fun _ _ _ h=>h) (by rfl) (fun _=>by first | (simp [go_sem];done) | go_simp) hS3 ?_
      try simp only [Act.put,sTA,sC0,sC1,gTA,gC0,gC1]
      refine wpAnyZ_takeW 7 (.agg #[.int .i64 s5,.slice A5 n5 k5,.slice B5 m5 d5]) rfl (by kernel_rfl) (by kernel_rfl) (fun _ _ _ h=>h) (by rfl) (fun _=>by first | (simp [go_sem];done) | go_simp) hS3 ?_
      try simp only [Act.put,sTA,sC0,sC1,gTA,gC0,gC1]
      refine wpAnyZ_takeW 8 (.bool ok5) rfl (by kernel_rfl) (by kernel_rfl) (fun _ _ _ h=>h) (by rfl) (fun _=>by first | (simp [go_sem];done) | go_simp) hS3 ?_
      try simp only [Act.put,sTA,sC0,sC1,gTA,gC0,gC1]
      refine wpAnyZ_one 9 (by kernel_rfl) rfl (by rfl) (fun K hK=>?_)
      go_simp
      have aE:=below_alloc z3 (.cells #[.int .i64 0,.slice none 0 0,.slice none 0 0] 26)
      have kb0:=BlkN.new z3 #[.int .i64 0,.slice none 0 0,.slice none 0 0] 26
      have hgb0:=D3.out.low.size
      have hgg1:=Nat.ne_of_lt D3.out.k1.lt
      have hgg2:=Nat.ne_of_lt D3.out.k2.lt
      have hgA:=hide (fun ad (e:A5=some ad)=>Nat.ne_of_lt (Rr3.out.ha.lt ad e))
      have hgB:=hide (fun ad (e:B5=some ad)=>Nat.ne_of_lt (Rr3.out.hb.lt ad e))
      have D4:=hide (D3.out.below aE)
      have Rr4:=hide (Rr3.out.below aE)
      clear Rr3
      have hS4:=D4.out.s
      clear aE
      refine hK.out _ _ hS4 ?_
      obtain ⟨gb,hgb⟩:∃ z,z=z3.heap.size:=⟨_,rfl⟩
      generalize z3.alloc (.cells #[.int .i64 0,.slice none 0 0,.slice none 0 0] 26)=z4 at D4 kb0 hS4 Rr4 ⊢
      rw [← hgb] at kb0 hgb0 hgg1 hgg2 hgA hgB ⊢
      clear hgb
      clear hK K
      try simp only [Act.put,sTA,sC0,sC1,gTA,gC0,gC1]
      refine wpAnyZ_one 10 (by kernel_rfl) rfl (by rfl) (fun K hK=>?_)
      have u1:=kb0.c 0 rfl
      have u2:=kb0.c 1 rfl
      have u3:=kb0.c 2 rfl
      have v1:=kb0.f 0
      have v2:=kb0.f 1
      have v3:=kb0.f 2
      have zk:=kb0.lt
      go_simp
      clear u1 u2 u3 v1 v2 v3
      have kb9:=blk_stored kb0 (.int .i64 s5) (.slice A5 n5 k5) (.slice B5 m5 d5)
      have D9:=hide (D4.out.stored gb hgb0 hgg1 hgg2 (.int .i64 s5) (.slice A5 n5 k5) (.slice B5 m5 d5))
      have R9:=hide (Rr4.out.stored9 gb (fun ad e=>hgA.out ad e) (fun ad e=>hgB.out ad e) (.int .i64 s5) (.slice A5 n5 k5) (.slice B5 m5 d5))
      have hS9:=D9.out.s
      refine hK.out _ _ hS9 ?_
      clear hK K
      try simp only [Act.put,sTA,sC0,sC1,gTA,gC0,gC1]
      refine wpAnyZ_last (by kernel_rfl) rfl (by kernel_rfl) (by rfl) (fun K hK=>?_)
      go_simp
      refine hK _ _ ?_
      clear hK K
      go_wp2_with fail
      go_meet
      case rel=>exact ⟨gb,s5,A5,n5,k5,x5,B5,m5,d5,y5,ok5,rfl,rfl,by omega,by omega,kb9,R9.out,D9.out.cur,D9.out.low⟩
     ·
      go_simp
      have aE:=below_alloc z2 (.cells #[.int .i64 0,.slice none 0 0,.slice none 0 0] 26)
      have kb0:=BlkN.new z2 #[.int .i64 0,.slice none 0 0,.slice none 0 0] 26
      have hgb0:=D2.out.low.size
      have hgg1:=Nat.ne_of_lt D2.out.k1.lt
      have hgg2:=Nat.ne_of_lt D2.out.k2.lt
      have D3:=hide (D2.out.below aE)
      have Ra3:=hide (Ra2.out.below aE)
      have Rb3:=hide (Rb2.out.below aE)
      have Rs3:=hide (Rs2.out.below aE)
      clear Ra2 Rb2 Rs2
      have hS3:=D3.out.s
      clear aE
      refine hK.out _ _ hS3 ?_
      obtain ⟨gb,hgb⟩:∃ z,z=z2.heap.size:=⟨_,rfl⟩
      generalize z2.alloc (.cells #[.int .i64 0,.slice none 0 0,.slice none 0 0] 26)=z3 at D3 kb0 hS3 Ra3 Rb3 Rs3 ⊢
      rw [← hgb] at kb0 hgb0 hgg1 hgg2 ⊢
      clear hgb
      clear hK K
      try simp only [Act.put,sTA,sC0,sC1,gTA,gC0,gC1]
      refine wpAnyZ_one 5 (by kernel_rfl) rfl (by rfl) (fun K hK=>?_)
      go_simp
      refine (spec_ComposeTableaus s3 A3 n3 k3 x3 B3 m3 d3 y3 s2 A2 n2 k2 x2 B2 m2 d2 y2 z3.heap.size z3 (Rs3.out.ha.ints.wide (zL _) (lR _)) (Rs3.out.hb.ints.wide (zL _) (lR _)) (Rb3.out.ha.ints.wide (zL _) (lR _)) (Rb3.out.hb.ints.wide (zL _) (lR _)) (lR _) (fun h0=>by obtain ⟨ga,e,_⟩:=Rs3.out.ha.form h0;exact ⟨ga,e⟩) (fun h0=>by obtain ⟨ga,e,_⟩:=Rb3.out.ha.form h0;exact ⟨ga,e⟩) Rs3.out.hb.noneD Rb3.out.hb.noneD).mono ?_
      rintro e z4 ⟨s5,A5,n5,k5,x5,B5,m5,d5,y5,ok5,rfl,hn5,hm5,r5,b5⟩
      have Rr4:=hide (r5.up D3.out.low.size)
      have hkb4:=kb0.lt
      have hgA:=hide (fun ad (e:A5=some ad)=>(by have:=(owns_lt r5.ha.own ad e).1;omega:ad.block≠gb))
      have hgB:=hide (fun ad (e:B5=some ad)=>(by have:=(owns_lt r5.hb.own ad e).1;omega:ad.block≠gb))
      clear hkb4
      have D4:=hide (D3.out.below b5)
      have kb4:=kb0.below b5
      clear kb0
      have hS4:=D4.out.s
      clear r5 b5
      go_wp2_with fail
      refine hK.out _ _ hS4 ?_
      clear hK K
      try simp only [Act.put,sTA,sC0,sC1,gTA,gC0,gC1]
      refine wpAnyZ_takeW 6 (.tuple #[.agg #[.int .i64 s5,.slice A5 n5 k5,.slice B5 m5 d5],.bool ok5]) rfl (by kernel_rfl) (by kernel_rfl) (fun _ _ _ h=>h) (by rfl) (fun _=>by first | (simp [go_sem];done) | go_simp) hS4 ?_
      try simp only [Act.put,sTA,sC0,sC1,gTA,gC0,gC1]
      refine wpAnyZ_takeW 7 (.agg #[.int .i64 s5,.slice A5 n5 k5,.slice B5 m5 d5]) rfl (by kernel_rfl) (by kernel_rfl) (fun _ _ _ h=>h) (by rfl) (fun _=>by first | (simp [go_sem];done) | go_simp) hS4 ?_
      try simp only [Act.put,sTA,sC0,sC1,gTA,gC0,gC1]
      refine wpAnyZ_takeW 8 (.bool ok5) rfl (by kernel_rfl) (by kernel_rfl) (fun _ _ _ h=>h) (by rfl) (fun _=>by first | (simp [go_sem];done) | go_simp) hS4 ?_
      try simp only [Act.put,sTA,sC0,sC1,gTA,gC0,gC1]
      refine wpAnyZ_one 10 (by kernel_rfl) rfl (by rfl) (fun K hK=>?_)
      have u1:=kb4.c 0 rfl
      have u2:=kb4.c 1 rfl
      have u3:=kb4.c 2 rfl
      have v1:=kb4.f 0
      have v2:=kb4.f 1
      have v3:=kb4.f 2
      have zk:=kb4.lt
      go_simp
      clear u1 u2 u3 v1 v2 v3
      have kb9:=blk_stored kb4 (.int .i64 s5) (.slice A5 n5 k5) (.slice B5 m5 d5)
      have D9:=hide (D4.out.stored gb hgb0 hgg1 hgg2 (.int .i64 s5) (.slice A5 n5 k5) (.slice B5 m5 d5))
      have R9:=hide (Rr4.out.stored9 gb (fun ad e=>hgA.out ad e) (fun ad e=>hgB.out ad e) (.int .i64 s5) (.slice A5 n5 k5) (.slice B5 m5 d5))
      have hS9:=D9.out.s
      refine hK.out _ _ hS9 ?_
      clear hK K
      try simp only [Act.put,sTA,sC0,sC1,gTA,gC0,gC1]
      refine wpAnyZ_last (by kernel_rfl) rfl (by kernel_rfl) (by rfl) (fun K hK=>?_)
      go_simp
      refine hK _ _ ?_
      clear hK K
      go_wp2_with fail
      go_meet
      case rel=>exact ⟨gb,s5,A5,n5,k5,x5,B5,m5,d5,y5,ok5,rfl,rfl,by omega,by omega,kb9,R9.out,D9.out.cur,D9.out.low⟩
    ·
     go_simp
     have aE:=below_alloc z1 (.cells #[.int .i64 0,.slice none 0 0,.slice none 0 0] 26)
     have kb0:=BlkN.new z1 #[.int .i64 0,.slice none 0 0,.slice none 0 0] 26
     have hgb0:=D1.out.low.size
     have hgg1:=Nat.ne_of_lt D1.out.k1.lt
     have hgg2:=Nat.ne_of_lt D1.out.k2.lt
     have D2:=hide (D1.out.below aE)
     have Ra2:=hide (Ra1.out.below aE)
     have Rb2:=hide (Rb1.out.below aE)
     clear Ra1 Rb1
     have hS2:=D2.out.s
     clear aE
     refine hK.out _ _ hS2 ?_
     obtain ⟨gb,hgb⟩:∃ z,z=z1.heap.size:=⟨_,rfl⟩
     generalize z1.alloc (.cells #[.int .i64 0,.slice none 0 0,.slice none 0 0] 26)=z2 at D2 kb0 hS2 Ra2 Rb2 ⊢
     rw [← hgb] at kb0 hgb0 hgg1 hgg2 ⊢
     clear hgb
     clear hK K
     try simp only [Act.put,sTA,sC0,sC1,gTA,gC0,gC1]
     refine wpAnyZ_one 3 (by kernel_rfl) rfl (by rfl) (fun K hK=>?_)
     go_simp
     refine (spec_ScaleTableau s1 A1 n1 k1 x1 B1 m1 d1 y1 kk z2.heap.size z2 (Ra2.out.ha.ints.wide (zL _) (lR _)) (Ra2.out.hb.ints.wide (zL _) (lR _)) (lR _) hn1 hm1 (by constructor <;> omega)).mono ?_
     rintro e z3 ⟨s3,A3,n3,k3,x3,B3,m3,d3,y3,rfl,hn3,hm3,r3,b3⟩
     have Rs3:=hide (r3.up D2.out.low.size)
     have D3:=hide (D2.out.below b3)
     have Ra3:=hide (Ra2.out.below b3)
     have Rb3:=hide (Rb2.out.below b3)
     have kb3:=kb0.below b3
     clear kb0
     clear Ra2 Rb2
     have hS3:=D3.out.s
     clear r3 b3
     go_wp2_with fail
     refine hK.out _ _ hS3 ?_
     clear hK K
     try simp only [Act.put,sTA,sC0,sC1,gTA,gC0,gC1]
     refine wpAnyZ_one 5 (by kernel_rfl) rfl (by rfl) (fun K hK=>?_)
     go_simp
     refine (spec_ComposeTableaus s3 A3 n3 k3 x3 B3 m3 d3 y3 s2 A2 n2 k2 x2 B2 m2 d2 y2 z3.heap.size z3 (Rs3.out.ha.ints.wide (zL _) (lR _)) (Rs3.out.hb.ints.wide (zL _) (lR _)) (Rb3.out.ha.ints.wide (zL _) (lR _)) (Rb3.out.hb.ints.wide (zL _) (lR _)) (lR _) (fun h0=>by obtain ⟨ga,e,_⟩:=Rs3.out.ha.form h0;exact ⟨ga,e⟩) (fun h0=>by obtain ⟨ga,e,_⟩:=Rb3.out.ha.form h0;exact ⟨ga,e⟩) Rs3.out.hb.noneD Rb3.out.hb.noneD).mono ?_
     rintro e z4 ⟨s5,A5,n5,k5,x5,B5,m5,d5,y5,ok5,rfl,hn5,hm5,r5,b5⟩
     have Rr4:=hide (r5.up D3.out.low.size)
     have hkb4:=kb3.lt
     have hgA:=hide (fun ad (e:A5=some ad)=>(by have:=(owns_lt r5.ha.own ad e).1;omega:ad.block≠gb))
     have hgB:=hide (fun ad (e:B5=some ad)=>(by have:=(owns_lt r5.hb.own ad e).1;omega:ad.block≠gb))
     clear hkb4
     have D4:=hide (D3.out.below b5)
     have kb4:=kb3.below b5
     clear kb3
     have hS4:=D4.out.s
     clear r5 b5
     go_wp2_with fail
     refine hK.out _ _ hS4 ?_
     clear hK K
     try simp only [Act.put,sTA,sC0,sC1,gTA,gC0,gC1]
     refine wpAnyZ_takeW 6 (.tuple #[.agg #[.int .i64 s5,.slice A5 n5 k5,.slice B5 m5 d5],.bool ok5]) rfl (by kernel_rfl) (by kernel_rfl) (fun _ _ _ h=>h) (by rfl) (fun _=>by first | (simp [go_sem];done) | go_simp) hS4 ?_
     try simp only [Act.put,sTA,sC0,sC1,gTA,gC0,gC1]
     refine wpAnyZ_takeW 7 (.agg #[.int .i64 s5,.slice A5 n5 k5,.slice B5 m5 d5]) rfl (by kernel_rfl) (by kernel_rfl) (fun _ _ _ h=>h) (by rfl) (fun _=>by first | (simp [go_sem];done) | go_simp) hS4 ?_
     try simp only [Act.put,sTA,sC0,sC1,gTA,gC0,gC1]
     refine wpAnyZ_takeW 8 (.bool ok5) rfl (by kernel_rfl) (by kernel_rfl) (fun _ _ _ h=>h) (by rfl) (fun _=>by first | (simp [go_sem];done) | go_simp) hS4 ?_
     try simp only [Act.put,sTA,sC0,sC1,gTA,gC0,gC1]
     refine wpAnyZ_one 10 (by kernel_rfl) rfl (by rfl) (fun K hK=>?_)
     have u1:=kb4.c 0 rfl
     have u2:=kb4.c 1 rfl
     have u3:=kb4.c 2 rfl
     have v1:=kb4.f 0
     have v2:=kb4.f 1
     have v3:=kb4.f 2
     have zk:=kb4.lt
     go_simp
     clear u1 u2 u3 v1 v2 v3
     have kb9:=blk_stored kb4 (.int .i64 s5) (.slice A5 n5 k5) (.slice B5 m5 d5)
     have D9:=hide (D4.out.stored gb hgb0 hgg1 hgg2 (.int .i64 s5) (.slice A5 n5 k5) (.slice B5 m5 d5))
     have R9:=hide (Rr4.out.stored9 gb (fun ad e=>hgA.out ad e) (fun ad e=>hgB.out ad e) (.int .i64 s5) (.slice A5 n5 k5) (.slice B5 m5 d5))
     have hS9:=D9.out.s
     refine hK.out _ _ hS9 ?_
     clear hK K
     try simp only [Act.put,sTA,sC0,sC1,gTA,gC0,gC1]
     refine wpAnyZ_last (by kernel_rfl) rfl (by kernel_rfl) (by rfl) (fun K hK=>?_)
     go_simp
     refine hK _ _ ?_
     clear hK K
     go_wp2_with fail
     go_meet
     case rel=>exact ⟨gb,s5,A5,n5,k5,x5,B5,m5,d5,y5,ok5,rfl,rfl,by omega,by omega,kb9,R9.out,D9.out.cur,D9.out.low⟩
   ·
    go_simp
    have aE:=below_alloc V (.cells #[.int .i64 0,.slice none 0 0,.slice none 0 0] 26)
    have kb0:=BlkN.new V #[.int .i64 0,.slice none 0 0,.slice none 0 0] 26
    have hgb0:=D0.out.low.size
    have hgg1:=Nat.ne_of_lt D0.out.k1.lt
    have hgg2:=Nat.ne_of_lt D0.out.k2.lt
    have D1:=hide (D0.out.below aE)
    have Ra1:=hide (Ra0.out.below aE)
    have Rb1:=hide (Rb0.out.below aE)
    clear Ra0 Rb0
    have hS1:=D1.out.s
    clear aE
    refine hK.out _ _ hS1 ?_
    obtain ⟨gb,hgb⟩:∃ z,z=V.heap.size:=⟨_,rfl⟩
    generalize V.alloc (.cells #[.int .i64 0,.slice none 0 0,.slice none 0 0] 26)=z1 at D1 kb0 hS1 Ra1 Rb1 ⊢
    rw [← hgb] at kb0 hgb0 hgg1 hgg2 ⊢
    clear hgb
    clear hK K
    try simp only [Act.put,sTA,sC0,sC1,gTA,gC0,gC1]
    refine wpAnyZ_one 2 (by kernel_rfl) rfl (by rfl) (fun K hK=>?_)
    go_simp
    refine (spec_dNum hiC gc z1 D1.out.cur).mono ?_
    rintro e z2 ⟨kk,rfl,hk0,hk1,cN,tN⟩
    have D2:=hide (D1.out.touch tN cN)
    have Ra2:=hide (Ra1.out.touch tN D0.out.hgc)
    have Rb2:=hide (Rb1.out.touch tN D0.out.hgc)
    have kb2:=kb0.touch tN (.inr (by omega))
    clear kb0
    clear Ra1 Rb1
    have hS2:=D2.out.s
    clear tN cN
    go_wp2_with fail
    refine hK.out _ _ hS2 ?_
    clear hK K
    try simp only [Act.put,sTA,sC0,sC1,gTA,gC0,gC1]
    refine wpAnyZ_one 3 (by kernel_rfl) rfl (by rfl) (fun K hK=>?_)
    go_simp
    refine (spec_ScaleTableau s1 A1 n1 k1 x1 B1 m1 d1 y1 kk z2.heap.size z2 (Ra2.out.ha.ints.wide (zL _) (lR _)) (Ra2.out.hb.ints.wide (zL _) (lR _)) (lR _) hn1 hm1 (by constructor <;> omega)).mono ?_
    rintro e z3 ⟨s3,A3,n3,k3,x3,B3,m3,d3,y3,rfl,hn3,hm3,r3,b3⟩
    have Rs3:=hide (r3.up D2.out.low.size)
    have D3:=hide (D2.out.below b3)
    have Ra3:=hide (Ra2.out.below b3)
    have Rb3:=hide (Rb2.out.below b3)
    have kb3:=kb2.below b3
    clear kb2
    clear Ra2 Rb2
    have hS3:=D3.out.s
    clear r3 b3
    go_wp2_with fail
    refine hK.out _ _ hS3 ?_
    clear hK K
    try simp only [Act.put,sTA,sC0,sC1,gTA,gC0,gC1]
    refine wpAnyZ_one 5 (by kernel_rfl) rfl (by rfl) (fun K hK=>?_)
    go_simp
    refine (spec_ComposeTableaus s3 A3 n3 k3 x3 B3 m3 d3 y3 s2 A2 n2 k2 x2 B2 m2 d2 y2 z3.heap.size z3 (Rs3.out.ha.ints.wide (zL _) (lR _)) (Rs3.out.hb.ints.wide (zL _) (lR _)) (Rb3.out.ha.ints.wide (zL _) (lR _)) (Rb3.out.hb.ints.wide (zL _) (lR _)) (lR _) (fun h0=>by obtain ⟨ga,e,_⟩:=Rs3.out.ha.form h0;exact ⟨ga,e⟩) (fun h0=>by obtain ⟨ga,e,_⟩:=Rb3.out.ha.form h0;exact ⟨ga,e⟩) Rs3.out.hb.noneD Rb3.out.hb.noneD).mono ?_
    rintro e z4 ⟨s5,A5,n5,k5,x5,B5,m5,d5,y5,ok5,rfl,hn5,hm5,r5,b5⟩
    have Rr4:=hide (r5.up D3.out.low.size)
    have hkb4:=kb3.lt
    have hgA:=hide (fun ad (e:A5=some ad)=>(by have:=(owns_lt r5.ha.own ad e).1;omega:ad.block≠gb))
    have hgB:=hide (fun ad (e:B5=some ad)=>(by have:=(owns_lt r5.hb.own ad e).1;omega:ad.block≠gb))
    clear hkb4
    have D4:=hide (D3.out.below b5)
    have kb4:=kb3.below b5
    clear kb3
    have hS4:=D4.out.s
    clear r5 b5
    go_wp2_with fail
    refine hK.out _ _ hS4 ?_
    clear hK K
    try simp only [Act.put,sTA,sC0,sC1,gTA,gC0,gC1]
    refine wpAnyZ_takeW 6 (.tuple #[.agg #[.int .i64 s5,.slice A5 n5 k5,.slice B5 m5 d5],.bool ok5]) rfl (by kernel_rfl) (by kernel_rfl) (fun _ _ _ h=>h) (by rfl) (fun _=>by first | (simp [go_sem];done) | go_simp) hS4 ?_
    try simp only [Act.put,sTA,sC0,sC1,gTA,gC0,gC1]
    refine wpAnyZ_takeW 7 (.agg #[.int .i64 s5,.slice A5 n5 k5,.slice B5 m5 d5]) rfl (by kernel_rfl) (by kernel_rfl) (fun _ _ _ h=>h) (by rfl) (fun _=>by first | (simp [go_sem];done) | go_simp) hS4 ?_
    try simp only [Act.put,sTA,sC0,sC1,gTA,gC0,gC1]
    refine wpAnyZ_takeW 8 (.bool ok5) rfl (by kernel_rfl) (by kernel_rfl) (fun _ _ _ h=>h) (by rfl) (fun _=>by first | (simp [go_sem];done) | go_simp) hS4 ?_
    try simp only [Act.put,sTA,sC0,sC1,gTA,gC0,gC1]
    refine wpAnyZ_one 10 (by kernel_rfl) rfl (by rfl) (fun K hK=>?_)
    have u1:=kb4.c 0 rfl
    have u2:=kb4.c 1 rfl
    have u3:=kb4.c 2 rfl
    have v1:=kb4.f 0
    have v2:=kb4.f 1
    have v3:=kb4.f 2
    have zk:=kb4.lt
    go_simp
    clear u1 u2 u3 v1 v2 v3
    have kb9:=blk_stored kb4 (.int .i64 s5) (.slice A5 n5 k5) (.slice B5 m5 d5)
    have D9:=hide (D4.out.stored gb hgb0 hgg1 hgg2 (.int .i64 s5) (.slice A5 n5 k5) (.slice B5 m5 d5))
    have R9:=hide (Rr4.out.stored9 gb (fun ad e=>hgA.out ad e) (fun ad e=>hgB.out ad e) (.int .i64 s5) (.slice A5 n5 k5) (.slice B5 m5 d5))
    have hS9:=D9.out.s
    refine hK.out _ _ hS9 ?_
    clear hK K
    try simp only [Act.put,sTA,sC0,sC1,gTA,gC0,gC1]
    refine wpAnyZ_last (by kernel_rfl) rfl (by kernel_rfl) (by rfl) (fun K hK=>?_)
    go_simp
    refine hK _ _ ?_
    clear hK K
    go_wp2_with fail
    go_meet
    case rel=>exact ⟨gb,s5,A5,n5,k5,x5,B5,m5,d5,y5,ok5,rfl,rfl,by omega,by omega,kb9,R9.out,D9.out.cur,D9.out.low⟩
  case rest =>
   obtain ⟨b,s5,A5,n5,k5,x5,B5,m5,d5,y5,ok,rfl,rfl,hn5,hm5,kb,R5,c5,low5⟩:=hcut
   have T1:=kb.out.c 0 rfl
   have T2:=kb.out.c 1 rfl
   have T3:=kb.out.c 2 rfl
   clear HM RM1 RM2 kb
   have HD:=hide (dt_done hgrB R5.out low5.out HT0.out c5.out (.int .i64 (s5)) (.slice A5 n5 k5) (.slice B5 m5 d5) hgcw)
   have kr:=HKR.out.touch low5.out (.inr hgcw)
   have U1:=kr.c 0 rfl
   have U2:=kr.c 1 rfl
   have U3:=kr.c 2 rfl
   have V1:=kr.f 0
   have V2:=kr.f 1
   have V3:=kr.f 2
   have zk:=kr.lt
   clear kr
   go_wp2_with fail
   refine bodyPost_ret (v := .agg #[.int .i64 (s5),.slice A5 n5 k5,.slice B5 m5 d5]) (by simp [results,Tryz.results18,go_sem,U1,U2,U3,V1,V2,V3,zk]) rfl ⟨_,A5,n5,k5,x5,B5,m5,d5,y5,rfl,by omega,by omega,HD.out.1,HD.out.2.1,HD.out.2.2⟩
 ·have e0':(x == 0)=false:=by simpa using e0
  have e1':(x == 1)=false:=by simpa using e1
  have e2':(x == 2)=false:=by simpa using e2
  have e3':(x == 3)=false:=by simpa using e3
  clear e0 e1 e2 e3
  go_wp2_with fail
  refine (spec_l1PickC hiC gc gnm 18 18 (tabNames.take 18) w1 c1 (by omega) (by omega) rfl (by have:=low1.size;omega) (by omega) (by omega) (by omega) (fun j x hx=>(World.cell?_of_block (a:=⟨gnm,j,none⟩) (low1.block gnm hgnB (.inr (by omega)))).trans (HNM.out j x (take_get hx)))).mono ?_
  rintro e wp ⟨nm,rfl,hnm,cp,tp⟩
  have lowp:=low1.trans tp
  have Hnm:=hide (List.mem_of_mem_take hnm)
  have lowtp:=tp
  clear hnm tp
  go_wp2_with fail
  refine (spec_KnownTableauA nm wp Hnm.out).mono ?_
  rintro e wq ⟨sq,Aq,nq,kq,xq,Bq,mq,dq,yq,okq,rfl,hnq,hmq,rq,bq⟩
  have lowq:=lowp.then_below bq lowp.size
  have cq:=cp.below bq
  have Rq:=hide (rq.up lowp.size)
  have blq:=bq
  clear rq bq Hnm
  have aL:=below_alloc wq (.cells #[.int .i64 sq,.slice Aq nq kq,.slice Bq mq dq] 26)
  have kL:=BlkN.new wq #[.int .i64 sq,.slice Aq nq kq,.slice Bq mq dq] 26
  have lowL:=lowq.then_below aL lowq.size
  have cL:=cq.below aL
  have RL:=hide (Rq.out.below aL)
  clear cp lowp Rq lowq cq
  go_upto_region 17 with fail
  generalize wq.alloc (.cells #[.int .i64 sq,.slice Aq nq kq,.slice Bq mq dq] 26)=wL at aL kL lowL cL RL ⊢
  have T1:=kL.c 0 rfl
  have T2:=kL.c 1 rfl
  have T3:=kL.c 2 rfl
  clear aL kL
  have HD:=hide (dt_done hgrB RL.out lowL HT0.out cL (.int .i64 (sq)) (.slice Aq nq kq) (.slice Bq mq dq) hgcw)
  have kr:=HKR.out.touch lowL (.inr hgcw)
  have U1:=kr.c 0 rfl
  have U2:=kr.c 1 rfl
  have U3:=kr.c 2 rfl
  have V1:=kr.f 0
  have V2:=kr.f 1
  have V3:=kr.f 2
  have zk:=kr.lt
  clear kr
  go_wp2_with fail
  refine bodyPost_ret (v := .agg #[.int .i64 (sq),.slice Aq nq kq,.slice Bq mq dq]) (by simp [results,Tryz.results18,go_sem,U1,U2,U3,V1,V2,V3,zk]) rfl ⟨_,Aq,nq,kq,xq,Bq,mq,dq,yq,rfl,by omega,by omega,HD.out.1,HD.out.2.1,HD.out.2.2⟩
end Go.Proofs.YtomgcbfcnjbofaaGreat
