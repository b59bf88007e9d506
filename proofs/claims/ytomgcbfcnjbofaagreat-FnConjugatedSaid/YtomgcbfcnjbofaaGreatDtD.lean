/- A tableau times a number: the reference's walk. -/
import Derived.Test.YtomgcbfcnjbofaaGreatDtC
namespace Go.Proofs.YtomgcbfcnjbofaaGreat
open Go.RowKit
open List renaming setIfInBounds_toArray → sTA, set_cons_zero → sC0, set_cons_succ → sC1, getElem_toArray → gTA, getElem_cons_zero → gC0, getElem_cons_succ → gC1
set_option linter.unusedSimpArgs false
set_option linter.unusedVariables false
set_option maxRecDepth 20000
theorem Touch.toBelow {w w':World} (h:Touch 0 0 w w'):Below w.heap.size w w':=⟨h.os,h.tape,h.output,h.size,fun k hk=>h.block k hk (.inr (Nat.zero_le _))⟩
set_option maxRecDepth 100000 in
set_option maxHeartbeats 8000000 in
theorem spec_ScaleTableau (s:Int) (A:Option Addr) (n c:Nat) (xs:List Int) (B:Option Addr) (m d:Nat) (ys:List Int) (kk:Int) (hi:Nat) (w:World) (h:Ints w 0 hi A n c xs) (g0:Ints w 0 hi B m d ys) (hh:hi≤w.heap.size) (hn:n≤100000) (hm:m≤100000) (hk:R64 kk) :
  Calls Tryz.prog 59 #[.agg #[.int .i64 s,.slice A n c,.slice B m d],.int .i64 kk] w fun e w'=>∃ s' A' n' c' xs' B' m' d' ys',e = .returned (.agg #[.int .i64 s',.slice A' n' c',.slice B' m' d'])∧n'≤100000∧m'≤100000∧TabR w w' A' n' c' xs' B' m' d' ys'∧Below w.heap.size w w':=by
 obtain ⟨i0,hi0,hz0,hz1,hz2⟩:=info_parts info_int
 have a0:=below_alloc w (.cells #[.int .i64 s,.slice A n c,.slice B m d] 26)
 have HX:=hide (BlkN.new w #[.int .i64 s,.slice A n c,.slice B m d] 26)
 have HA:=hide (h.below a0 hh)
 have HB:=hide (g0.below a0 hh)
 have hcA:=h.cap
 have hmA:=h.max
 have hcB:=g0.cap
 have hmB:=g0.max
 have z0:(w.alloc (.cells #[.int .i64 s,.slice A n c,.slice B m d] 26)).heap.size=w.heap.size+1:=by simp
 have hhW:hi≤(w.alloc (.cells #[.int .i64 s,.slice A n c,.slice B m d] 26)).heap.size:=by omega
 have hgbW:w.heap.size<(w.alloc (.cells #[.int .i64 s,.slice A n c,.slice B m d] 26)).heap.size:=by omega
 have b1:=below_alloc (w.alloc (.cells #[.int .i64 s,.slice A n c,.slice B m d] 26)) (.cells #[.int .i64 0,.slice none 0 0,.slice none 0 0] 26)
 have k1:=BlkN.new (w.alloc (.cells #[.int .i64 s,.slice A n c,.slice B m d] 26)) #[.int .i64 0,.slice none 0 0,.slice none 0 0] 26
 have HX1:=hide (HX.out.alloc (.cells #[.int .i64 0,.slice none 0 0,.slice none 0 0] 26))
 clear h g0
 go_enter Tryz.func59,Tryz.ntmps59
 go_wp2_with fail
 obtain ⟨gb,hgb⟩:∃ z,z=w.heap.size:=⟨_,rfl⟩
 obtain ⟨W0,hW0⟩:∃ z,z=w.alloc (.cells #[.int .i64 s,.slice A n c,.slice B m d] 26):=⟨_,rfl⟩
 rw [← hW0] at a0 HX HA HB z0 hhW hgbW b1 k1 HX1 ⊢
 obtain ⟨gr,hgr⟩:∃ z,z=W0.heap.size:=⟨_,rfl⟩
 rw [← hgr] at k1
 rw [← z0,← hgr]
 rw [← hgb] at HX HX1 hgbW ⊢
 have hgr2:W0.heap.size≤gr:=by omega
 generalize W0.alloc (.cells #[.int .i64 0,.slice none 0 0,.slice none 0 0] 26)=W1 at b1 k1 HX1 ⊢
 have z1:=b1.size
 have hz01:w.heap.size≤W0.heap.size:=by omega
 clear hgr hgb hW0 z0
 refine (spec_TableauOk s A n c xs B m d ys 0 hi W1 (HA.out.below b1 hhW) (HB.out.below b1 hhW) (by omega)).mono ?_
 rintro e w2 ⟨rfl,b2⟩
 have k2:=k1.below b2
 have HX2:=HX1.out.below b2
 have b02:=b1.trans (b2.mono z1)
 have z2:=b02.size
 clear k1 HX1 b1 b2 z1
 cases ht:tabOkF s xs ys with
 | false =>
  have U1:=k2.c 0 rfl
  have U2:=k2.c 1 rfl
  have U3:=k2.c 2 rfl
  have V1:=k2.f 0
  have V2:=k2.f 1
  have V3:=k2.f 2
  have zk:=k2.lt
  have HB9:=hide ((((b02.setCell (p:=⟨gr,0,none⟩) hgr2 (.int .i64 0)).setCell (p:=⟨gr,1,none⟩) hgr2 (.slice none 0 0)).setCell (p:=⟨gr,2,none⟩) hgr2 (.slice none 0 0)))
  clear k2 HX2 b02
  go_wp2_with fail
  refine bodyPost_ret (v := .agg #[.int .i64 0,.slice none 0 0,.slice none 0 0]) (by simp [results,Tryz.results59,go_sem,U1,U2,U3,V1,V2,V3,zk]) rfl ⟨0,none,0,0,[],none,0,0,[],rfl,by omega,by omega,TabR.nil_ _ _,?_⟩
  exact a0.trans (HB9.out.mono hz01)
 | true =>
  have hT0:=hide (TabS.start (w:=W0) (lo:=0) (hi:=0) k2 hgr2 (.of_below b02) (Nat.zero_le _) s)
  have hs1:=HX2.c 0 rfl
  clear k2 b02
  go_wp2_with fail
  obtain ⟨g,hg⟩:∃ z,z=w2.heap.size:=⟨_,rfl⟩
  rw [← hg] at hT0 ⊢
  generalize w2.alloc (.cells #[.int .i64 s,.slice none 0 0,.slice none 0 0] 26)=W3 at hT0 ⊢
  clear hs1 HX2 hg
  go_loopw [6] (fun i wr=>∃ (k:Nat) (A2:Option Addr) (n2 c2:Nat) (za:List Int),k≤n∧i = .int .i64 (k:Int)∧n2≤k∧Hid (TabS 0 0 W0 wr gr g s A2 n2 c2 za none 0 0 [])) (fun i _=>n - (intOf i).toNat)
  case atStart=>exact ⟨0,_,_,_,_,by omega,rfl,by omega,hT0.out⟩
  case round =>
   clear hT0
   obtain ⟨k,A2,n2,c2,za,hk2,rfl,hn2,hS⟩:=hrel
   by_cases hlt:k<n
   ·have hbx9:=(HX.out.touch hS.out.low (.inr (Nat.zero_le _))).c 1 rfl
    obtain ⟨ad,x,rfl,hcx,hx64,_,_⟩:=(HA.out.same (hS.out.low.same (.inr (Nat.zero_le _)) hhW)).at_ hlt
    have hadb:ad.block<W0.heap.size:=Nat.lt_of_lt_of_le (HA.out.cells (by omega) |>.elim fun a2 h2=>by
     obtain ⟨e,_,h3,_⟩:=h2
     injection e with e
     subst e
     exact h3) hhW
    have hadW:(ad.add k).block<W0.heap.size:=by rw [block_of_add];exact hadb
    have hcap:=HA.out.cap
    have hmax:=HA.out.max
    have hcap2:=hS.out.ha.cap
    have htb:=timesF_bd x kk
    have hk1:=HX.out.touch hS.out.low (.inr (Nat.zero_le _))
    have hbx1:=hk1.c 1 rfl
    clear hk1
    go_upto_region 7 with fail
    refine wp_region_Z (fun W'=>W'.cell? ⟨g,1,none⟩=some (.slice A2 n2 c2)∧Below W0.heap.size wr.drew W') 12 (by kernel_rfl) ?_
    simp only [List.size_toArray,List.length_cons,List.length_nil,Nat.reduceAdd]
    have SV:=hide (hS.out.below (Below.refl wr.heap.size wr).drew)
    have hcx':wr.drew.cell? (ad.add k)=_:=hcx
    have hbx':wr.drew.cell? ⟨gb,1,none⟩=_:=hbx1
    clear hS hcx hbx1
    generalize wr.drew=V at SV hcx' hbx' ⊢
    have hcx:=hcx'
    have hbx1:=hbx'
    have hS0:=And.intro (SV.out.tab.c 1 rfl) (Below.refl W0.heap.size V)
    clear hcx' hbx'
    refine wpAnyZ_takeW 0 (.pointer (some ⟨g,1,none⟩)) rfl (by kernel_rfl) (by kernel_rfl) (fun _ _ _ h=>h) (by rfl) (fun _=>by first | (simp [go_sem];done) | go_simp) hS0 ?_
    try simp only [Act.put,sTA,sC0,sC1,gTA,gC0,gC1]
    refine wpAnyZ_take 1 (.slice A2 n2 c2) rfl (by kernel_rfl) (by kernel_rfl) (fun _ _ _ h=>h) (by rfl) (fun _ hS=>by have q0:=hS.1;clear hS;first | (simp [go_sem,q0];done) | go_simp) hS0 ?_
    try simp only [Act.put,sTA,sC0,sC1,gTA,gC0,gC1]
    refine wpAnyZ_takeW 2 (.pointer (some ⟨gb,1,none⟩)) rfl (by kernel_rfl) (by kernel_rfl) (fun _ _ _ h=>h) (by rfl) (fun _=>by first | (simp [go_sem];done) | go_simp) hS0 ?_
    try simp only [Act.put,sTA,sC0,sC1,gTA,gC0,gC1]
    refine wpAnyZ_take 3 (.slice (some ad) n c) rfl (by kernel_rfl) (by kernel_rfl) (fun _ _ _ h=>h) (by rfl) (fun _ hS=>by have q0:=(hS.2.cell (p:=⟨gb,1,none⟩) hgbW).trans hbx1;clear hS;first | (simp [go_sem,q0];done) | go_simp) hS0 ?_
    try simp only [Act.put,sTA,sC0,sC1,gTA,gC0,gC1]
    refine wpAnyZ_takeW 4 (.int .i64 k) rfl (by kernel_rfl) (by kernel_rfl) (fun _ _ _ h=>h) (by rfl) (fun _=>by first | (simp [go_sem];done) | go_simp) hS0 ?_
    try simp only [Act.put,sTA,sC0,sC1,gTA,gC0,gC1]
    refine wpAnyZ_takeW 5 (.pointer (some (ad.add k))) rfl (by kernel_rfl) (by kernel_rfl) (fun _ _ _ h=>h) (by rfl) (fun _=>by simp [go_sem,hlt,show ¬ (n≤k) by omega]) hS0 ?_
    try simp only [Act.put,sTA,sC0,sC1,gTA,gC0,gC1]
    refine wpAnyZ_take 6 (.int .i64 x) rfl (by kernel_rfl) (by kernel_rfl) (fun _ _ _ h=>h) (by rfl) (fun _ hS=>by have q0:=(hS.2.cell (p:=ad.add k) hadW).trans hcx;clear hS;first | (simp [go_sem,q0];done) | go_simp) hS0 ?_
    try simp only [Act.put,sTA,sC0,sC1,gTA,gC0,gC1]
    refine wpAnyZ_takeW 7 (.int .i64 kk) rfl (by kernel_rfl) (by kernel_rfl) (fun _ _ _ h=>h) (by rfl) (fun _=>by first | (simp [go_sem];done) | go_simp) hS0 ?_
    try simp only [Act.put,sTA,sC0,sC1,gTA,gC0,gC1]
    refine wpAnyZ_one 8 (by kernel_rfl) rfl (by rfl) (fun K hK=>?_)
    go_simp
    refine (spec_Times x kk V hx64 hk).mono ?_
    rintro e x1 ⟨rfl,rfl⟩
    go_wp2_with fail
    refine hK.out _ _ hS0 ?_
    clear hK K
    try simp only [Act.put,sTA,sC0,sC1,gTA,gC0,gC1]
    refine wpAnyZ_one 9 (by kernel_rfl) rfl (by rfl) (fun K hK=>?_)
    go_simp
    have hS2:=And.intro (((below_alloc V (.cells #[.int .i64 (timesF x kk)] 3)).cell (World.block_lt_of_cell? _ _ hS0.1)).trans hS0.1) (((Below.refl V.heap.size V).alloc (Nat.le_refl _) (.cells #[.int .i64 (timesF x kk)] 3)).mono SV.out.low.size)
    refine hK.out _ _ hS2 ?_
    clear hK K
    try simp only [Act.put,sTA,sC0,sC1,gTA,gC0,gC1]
    refine wpAnyZ_one 10 (by kernel_rfl) rfl (by rfl) (fun K hK=>?_)
    refine owp_appJ (.tmp 23) (.tmp 31) 24 rfl W0.heap.size 3 i0 (.int .i64 0) 1 8 Tryz.underlying24 hi0 hz0 hz1 hz2 rfl (by omega) V #[.int .i64 (timesF x kk)] _ rfl A2 n2 c2 1 _ rfl rfl SV.out.ha.own rfl (by simp [Value.oneCell']) (by omega) (by omega) SV.out.low.size ?_
    intro R3 c3 w5 happ hlt5
    have hK5:=hide (SV.out.midA happ).1
    have HT5:=hide (SV.out.pushA (ys:=[(timesF x kk)]) (k:=1) (fun y hy=>by obtain rfl:y=(timesF x kk):=(by simpa using hy);exact ⟨by omega,by omega⟩) happ)
    have HB5:=hide (happ.low (B:=W0.heap.size) (Below.refl W0.heap.size V) SV.out.low.size (Nat.le_refl _) SV.out.ha.own)
    have hS4:=And.intro (hK5.out.c 1 rfl) (hS0.2.trans HB5.out)
    clear happ hlt5
    refine hK.out _ _ hS4 ?_
    clear hK K
    try simp only [Act.put,sTA,sC0,sC1,gTA,gC0,gC1]
    refine wpAnyZ_takeW 11 (.pointer (some ⟨g,1,none⟩)) rfl (by kernel_rfl) (by kernel_rfl) (fun _ _ _ h=>h) (by rfl) (fun _=>by first | (simp [go_sem];done) | go_simp) hS4 ?_
    try simp only [Act.put,sTA,sC0,sC1,gTA,gC0,gC1]
    have g0:=hK5.out.c 1 rfl
    have g1:=hK5.out.f 1
    refine wpAnyZ_last (by kernel_rfl) rfl (by kernel_rfl) (by rfl) (fun K hK=>?_)
    go_simp
    refine hK _ _ ?_
    clear hK K g0 g1 hS4 hK5
    clear HB5 SV hbx9
    go_wp2_with fail
    go_roundw
    case rel=>exact ⟨k+1,R3,n2+1,c3,za++[timesF x kk],by omega,by go_num,by omega,HT5.out⟩
    case measure=>simp [intOf];omega
   ·obtain rfl:k=n:=by omega
    have hbx9:=(HX.out.touch hS.out.low (.inr (Nat.zero_le _))).c 1 rfl
    go_wp2_with fail
    clear hbx9
    go_loopw [7] (fun i wr=>∃ (k:Nat) (B2:Option Addr) (m2 d2:Nat) (zb:List Int),k≤m∧i = .int .i64 (k:Int)∧m2≤k∧Hid (TabS 0 0 W0 wr gr g s A2 n2 c2 za B2 m2 d2 zb)) (fun i _=>m - (intOf i).toNat)
    case atStart=>exact ⟨0,_,_,_,_,by omega,rfl,by omega,hS.out⟩
    case round =>
     clear hS hlt hk2
     obtain ⟨k,B2,m2,d2,zb,hk2,rfl,hm2,hS⟩:=hrel
     have hbx9:=(HX.out.touch hS.out.low (.inr (Nat.zero_le _))).c 2 rfl
     by_cases hlt:k<m
     ·skip
      obtain ⟨ad,x,rfl,hcx,hx64,_,_⟩:=(HB.out.same (hS.out.low.same (.inr (Nat.zero_le _)) hhW)).at_ hlt
      have hadb:ad.block<W0.heap.size:=Nat.lt_of_lt_of_le (HB.out.cells (by omega) |>.elim fun a2 h2=>by
       obtain ⟨e,_,h3,_⟩:=h2
       injection e with e
       subst e
       exact h3) hhW
      have hadW:(ad.add k).block<W0.heap.size:=by rw [block_of_add];exact hadb
      have hcap:=HB.out.cap
      have hmax:=HB.out.max
      have hcap2:=hS.out.hb.cap
      have htb:=timesF_bd x kk
      have hk1:=HX.out.touch hS.out.low (.inr (Nat.zero_le _))
      have hbx2:=hk1.c 2 rfl
      clear hk1
      go_upto_region 11 with fail
      refine wp_region_Z (fun W'=>W'.cell? ⟨g,2,none⟩=some (.slice B2 m2 d2)∧Below W0.heap.size wr.drew W') 12 (by kernel_rfl) ?_
      simp only [List.size_toArray,List.length_cons,List.length_nil,Nat.reduceAdd]
      have SV:=hide (hS.out.below (Below.refl wr.heap.size wr).drew)
      have hcx':wr.drew.cell? (ad.add k)=_:=hcx
      have hbx':wr.drew.cell? ⟨gb,2,none⟩=_:=hbx2
      clear hS hcx hbx2
      generalize wr.drew=V at SV hcx' hbx' ⊢
      have hcx:=hcx'
      have hbx2:=hbx'
      have hS0:=And.intro (SV.out.tab.c 2 rfl) (Below.refl W0.heap.size V)
      clear hcx' hbx'
      refine wpAnyZ_takeW 0 (.pointer (some ⟨g,2,none⟩)) rfl (by kernel_rfl) (by kernel_rfl) (fun _ _ _ h=>h) (by rfl) (fun _=>by first | (simp [go_sem];done) | go_simp) hS0 ?_
      try simp only [Act.put,sTA,sC0,sC1,gTA,gC0,gC1]
      refine wpAnyZ_take 1 (.slice B2 m2 d2) rfl (by kernel_rfl) (by kernel_rfl) (fun _ _ _ h=>h) (by rfl) (fun _ hS=>by have q0:=hS.1;clear hS;first | (simp [go_sem,q0];done) | go_simp) hS0 ?_
      try simp only [Act.put,sTA,sC0,sC1,gTA,gC0,gC1]
      refine wpAnyZ_takeW 2 (.pointer (some ⟨gb,2,none⟩)) rfl (by kernel_rfl) (by kernel_rfl) (fun _ _ _ h=>h) (by rfl) (fun _=>by first | (simp [go_sem];done) | go_simp) hS0 ?_
      try simp only [Act.put,sTA,sC0,sC1,gTA,gC0,gC1]
      refine wpAnyZ_take 3 (.slice (some ad) m d) rfl (by kernel_rfl) (by kernel_rfl) (fun _ _ _ h=>h) (by rfl) (fun _ hS=>by have q0:=(hS.2.cell (p:=⟨gb,2,none⟩) hgbW).trans hbx2;clear hS;first | (simp [go_sem,q0];done) | go_simp) hS0 ?_
      try simp only [Act.put,sTA,sC0,sC1,gTA,gC0,gC1]
      refine wpAnyZ_takeW 4 (.int .i64 k) rfl (by kernel_rfl) (by kernel_rfl) (fun _ _ _ h=>h) (by rfl) (fun _=>by first | (simp [go_sem];done) | go_simp) hS0 ?_
      try simp only [Act.put,sTA,sC0,sC1,gTA,gC0,gC1]
      refine wpAnyZ_takeW 5 (.pointer (some (ad.add k))) rfl (by kernel_rfl) (by kernel_rfl) (fun _ _ _ h=>h) (by rfl) (fun _=>by simp [go_sem,hlt,show ¬ (m≤k) by omega]) hS0 ?_
      try simp only [Act.put,sTA,sC0,sC1,gTA,gC0,gC1]
      refine wpAnyZ_take 6 (.int .i64 x) rfl (by kernel_rfl) (by kernel_rfl) (fun _ _ _ h=>h) (by rfl) (fun _ hS=>by have q0:=(hS.2.cell (p:=ad.add k) hadW).trans hcx;clear hS;first | (simp [go_sem,q0];done) | go_simp) hS0 ?_
      try simp only [Act.put,sTA,sC0,sC1,gTA,gC0,gC1]
      refine wpAnyZ_takeW 7 (.int .i64 kk) rfl (by kernel_rfl) (by kernel_rfl) (fun _ _ _ h=>h) (by rfl) (fun _=>by first | (simp [go_sem];done) | go_simp) hS0 ?_
      try simp only [Act.put,sTA,sC0,sC1,gTA,gC0,gC1]
      refine wpAnyZ_one 8 (by kernel_rfl) rfl (by rfl) (fun K hK=>?_)
      go_simp
      refine (spec_Times x kk V hx64 hk).mono ?_
      rintro e x1 ⟨rfl,rfl⟩
      go_wp2_with fail
      refine hK.out _ _ hS0 ?_
      clear hK K
      try simp only [Act.put,sTA,sC0,sC1,gTA,gC0,gC1]
      refine wpAnyZ_one 9 (by kernel_rfl) rfl (by rfl) (fun K hK=>?_)
      go_simp
      have hS2:=And.intro (((below_alloc V (.cells #[.int .i64 (timesF x kk)] 3)).cell (World.block_lt_of_cell? _ _ hS0.1)).trans hS0.1) (((Below.refl V.heap.size V).alloc (Nat.le_refl _) (.cells #[.int .i64 (timesF x kk)] 3)).mono SV.out.low.size)
      refine hK.out _ _ hS2 ?_
      clear hK K
      try simp only [Act.put,sTA,sC0,sC1,gTA,gC0,gC1]
      refine wpAnyZ_one 10 (by kernel_rfl) rfl (by rfl) (fun K hK=>?_)
      refine owp_appJ (.tmp 42) (.tmp 50) 24 rfl W0.heap.size 3 i0 (.int .i64 0) 1 8 Tryz.underlying24 hi0 hz0 hz1 hz2 rfl (by omega) V #[.int .i64 (timesF x kk)] _ rfl B2 m2 d2 1 _ rfl rfl SV.out.hb.own rfl (by simp [Value.oneCell']) (by omega) (by omega) SV.out.low.size ?_
      intro R3 c3 w5 happ hlt5
      have hK5:=hide (SV.out.midB happ).1
      have HT5:=hide (SV.out.pushB (ys:=[(timesF x kk)]) (k:=1) (fun y hy=>by obtain rfl:y=(timesF x kk):=(by simpa using hy);exact ⟨by omega,by omega⟩) happ)
      have HB5:=hide (happ.low (B:=W0.heap.size) (Below.refl W0.heap.size V) SV.out.low.size (Nat.le_refl _) SV.out.hb.own)
      have hS4:=And.intro (hK5.out.c 2 rfl) (hS0.2.trans HB5.out)
      clear happ hlt5
      refine hK.out _ _ hS4 ?_
      clear hK K
      try simp only [Act.put,sTA,sC0,sC1,gTA,gC0,gC1]
      refine wpAnyZ_takeW 11 (.pointer (some ⟨g,2,none⟩)) rfl (by kernel_rfl) (by kernel_rfl) (fun _ _ _ h=>h) (by rfl) (fun _=>by first | (simp [go_sem];done) | go_simp) hS4 ?_
      try simp only [Act.put,sTA,sC0,sC1,gTA,gC0,gC1]
      have g0:=hK5.out.c 2 rfl
      have g1:=hK5.out.f 2
      refine wpAnyZ_last (by kernel_rfl) rfl (by kernel_rfl) (by rfl) (fun K hK=>?_)
      go_simp
      refine hK _ _ ?_
      clear hK K g0 g1 hS4 hK5
      clear HB5 SV hbx9
      go_wp2_with fail
      go_roundw
      case rel=>exact ⟨k+1,R3,m2+1,c3,zb++[timesF x kk],by omega,by go_num,by omega,HT5.out⟩
      case measure=>simp [intOf];omega
     ·obtain rfl:k=m:=by omega
      have hT:=hS
      clear hS
      have hd:=hide (hT.out.done (.int .i64 s) (.slice A2 n2 c2) (.slice B2 m2 d2))
      have hk1:=hT.out.tab
      have hk2:=hT.out.res
      have T1:=hk1.c 0 rfl
      have T2:=hk1.c 1 rfl
      have T3:=hk1.c 2 rfl
      have U1:=hk2.c 0 rfl
      have U2:=hk2.c 1 rfl
      have U3:=hk2.c 2 rfl
      have V1:=hk2.f 0
      have V2:=hk2.f 1
      have V3:=hk2.f 2
      have zk:=hk2.lt
      clear hT hk1 hk2
      go_wp2_with fail
      refine bodyPost_ret (v := .agg #[.int .i64 s,.slice A2 n2 c2,.slice B2 m2 d2]) (by simp [results,Tryz.results59,go_sem,U1,U2,U3,V1,V2,V3,zk]) rfl ⟨s,A2,n2,c2,za,B2,m2,d2,zb,rfl,by omega,by omega,hd.out.1.up hz01,?_⟩
      exact a0.trans (hd.out.2.toBelow.mono hz01)
end Go.Proofs.YtomgcbfcnjbofaaGreat
