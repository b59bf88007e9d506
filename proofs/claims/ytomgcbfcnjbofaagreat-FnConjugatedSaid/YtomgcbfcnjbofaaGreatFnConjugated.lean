/- Proved here: for every input the statement FnConjugated returns true, and its argument reads as before. No conditions. -/
import Derived.Test.YtomgcbfcnjbofaaGreatCjQ
import Derived.Test.YtomgcbfcnjbofaaGreatMgS
import Derived.Test.YtomgcbfcnjbofaaGreatCjH
import Derived.Test.YtomgcbfcnjbofaaGreatMgQ
import Derived.Test.YtomgcbfcnjbofaaGreatMgZH
import Derived.Test.YtomgcbfcnjbofaaGreatConjP
import Derived.Test.YtomgcbfcnjbofaaGreatMgC
namespace Go.Proofs.YtomgcbfcnjbofaaGreat.fnConjugated
open Go.ChangeShapes Go.WideShapes Go.ChangeAt Go.RowKit
open Nat renaming le_refl → lR, zero_le → zL
set_option linter.unusedSimpArgs false
set_option linter.unusedVariables false
set_option maxRecDepth 20000
set_option maxRecDepth 100000 in
set_option maxHeartbeats 16000000 in
theorem walk (A0:Option Addr) (n0 c0:Nat) (w:World) (h:Bytes w 0 w.heap.size A0 n0 c0) :
  Calls Tryz.prog 3 #[.slice A0 n0 c0] w fun e w'=>e = .returned (.bool true)∧Below w.heap.size w w':=by
 have hcp:=h.cap
 have hmx:=h.max
 by_cases hbig:1048576<n0
 ·go_enter Tryz.func3,Tryz.ntmps3
  go_wp2_with fail
  refine (laws_big A0 n0 c0 w (by omega)).mono ?_
  rintro e w1 ⟨rfl,rfl⟩
  rw [decide_eq_true hbig]
  go_wp2_with fail
  go_ret
  exact ⟨rfl,Below.refl _ _⟩
 ·go_enter Tryz.func3,Tryz.ntmps3
  go_wp2_with fail
  refine (laws_big A0 n0 c0 w (by omega)).mono ?_
  rintro e w1 ⟨rfl,rfl⟩
  rw [decide_eq_false hbig]
  go_wp2_with fail
  refine (spec_DrawMethods w.heap.size A0 n0 c0 w h (lR _)).mono ?_
  rintro e w1 ⟨s,A,n,c,xs,B,m,d,ys,s3,A3,n3,c3,B3,m3,d3,rfl,hn,hm,hR,b1⟩
  have HB:=hide h
  clear h hbig
  have z1:=b1.size
  have IA:=hR.ha.ints
  have IB:=hR.hb.ints
  have hAn:=hide hR.ha.noneD
  have hBn:=hide hR.hb.noneD
  have a1:=below_alloc w1 (.cells #[.int .i64 s,.slice A n c,.slice B m d] 26)
  have a2:=below_alloc (w1.alloc (.cells #[.int .i64 s,.slice A n c,.slice B m d] 26)) (.cells #[.int .i64 s3,.slice A3 n3 c3,.slice B3 m3 d3] 26)
  have k1:=(BlkN.new w1 #[.int .i64 s,.slice A n c,.slice B m d] 26).alloc (.cells #[.int .i64 s3,.slice A3 n3 c3,.slice B3 m3 d3] 26)
  clear hR
  go_upto_region 4 with fail
  generalize (w1.alloc (.cells #[.int .i64 s,.slice A n c,.slice B m d] 26)).alloc (.cells #[.int .i64 s3,.slice A3 n3 c3,.slice B3 m3 d3] 26)=w2 at a2 k1 ⊢
  have b2:=b1.trans ((a1.trans (a2.mono (by simp))).mono z1)
  have b12:=a1.trans (a2.mono (by simp))
  have IA2:=hide ((IA.below b12 (lR _)).wide (zL _) b12.size)
  have IB2:=hide ((IB.below b12 (lR _)).wide (zL _) b12.size)
  obtain ⟨bt,hbt⟩:∃ z,z=w1.heap.size:=⟨_,rfl⟩
  rw [← hbt] at k1 ⊢
  have z2:=b2.size
  have q0:=k1.c 0 rfl
  have q1:=k1.c 1 rfl
  have q2:=k1.c 2 rfl
  clear a1 a2 b1 b12 IA IB z1 hbt
  cases hok:conjOkF s xs ys with
  | false =>
   go_wp2_with fail
   refine (impl_Conj_bad s A n c xs B m d ys 0 w2.heap.size w2 IA2.out IB2.out (lR _) (by omega) hok).mono ?_
   rintro e w3 ⟨rfl,b3⟩
   have k3:=k1.below b3
   have IA3:=hide ((IA2.out.below b3 (lR _)))
   have IB3:=hide ((IB2.out.below b3 (lR _)))
   have a3:=below_alloc w3 (.cells #[.int .i64 0,.slice none 0 0,.slice none 0 0,.int .i64 0,.slice none 0 0,.slice none 0 0] 30)
   have k4:=k3.below a3
   have IA4:=hide (IA3.out.below a3 b3.size)
   have IB4:=hide (IB3.out.below a3 b3.size)
   have b4:=b2.trans ((b3.trans (a3.mono b3.size)).mono z2)
   have hz24:w2.heap.size≤(w3.alloc (.cells #[.int .i64 0,.slice none 0 0,.slice none 0 0,.int .i64 0,.slice none 0 0,.slice none 0 0] 30)).heap.size:=Nat.le_trans b3.size a3.size
   clear k1 k3 q0 q1 q2 IA2 IB2 IA3 IB3 b3 a3 b2
   go_upto_region 5 with fail
   generalize w3.alloc (.cells #[.int .i64 0,.slice none 0 0,.slice none 0 0,.int .i64 0,.slice none 0 0,.slice none 0 0] 30)=w4 at k4 IA4 IB4 b4 hz24 ⊢
   have q0:=k4.c 0 rfl
   have q1:=k4.c 1 rfl
   have q2:=k4.c 2 rfl
   go_wp2_with fail
   refine (spec_Conj_bad s A n c xs B m d ys w2.heap.size w4 IA4.out IB4.out hz24 hok).mono ?_
   rintro e w5 ⟨rfl,b5⟩
   have b6:=b4.trans ((b5.trans ((below_alloc w5 (.cells #[.int .i64 0,.slice none 0 0,.slice none 0 0,.int .i64 0,.slice none 0 0,.slice none 0 0] 30)).mono b5.size)).mono b4.size)
   clear k4 q0 q1 q2 IA4 IB4 hz24 b5 hok b4
   go_upto_region 8 with fail
   generalize w5.alloc (.cells #[.int .i64 0,.slice none 0 0,.slice none 0 0,.int .i64 0,.slice none 0 0,.slice none 0 0] 30)=w6 at b6 ⊢
   have HB6:=hide b6
   clear b6
   go_wp2_with fail
   refine (spec_DrawEnergy w.heap.size A0 n0 c0 w6 (HB.out.below HB6.out (lR _)) HB6.out.size).mono ?_
   rintro e v1 ⟨P,np,cp,nn,U,cu,V,cv,rfl,hn1,hn5,hEn⟩
   obtain ⟨ms,vs,xss,us,yss,hM,hL,hUV,hEP,hbE⟩:=hEn
   have B_v1:=hide (HB6.out.trans (hbE.out.mono HB6.out.size))
   clear HB6
   clear hbE
   have M1:=hide (hM.out.wide (lo':=0) (zL _) (lR _))
   have hlm:∀ q∈ms,q.2.length≤1048576:=fun q hq=>by have:=hL.out q hq;omega
   have HLM:=hide hlm
   clear hM hlm
   clear hUV hEP
   go_wp2_with fail
   refine (impl_Hamilton P np cp ms 0 v1.heap.size v1 M1.out (lR _) HLM.out).mono ?_
   rintro e v2 ⟨hbH,hcase⟩
   have B_v2:=hide (B_v1.out.trans (hbH.mono B_v1.out.size))
   clear B_v1
   clear hbH M1
   rcases hcase with ⟨hp,rfl⟩ | ⟨hp,gf,rfl,hM2⟩
   ·have aL:=below_alloc v2 (.cells #[.int .i64 0,.slice none 0 0] 40)
    have kf0:=BlkN.new v2 #[.int .i64 0,.slice none 0 0] 40
    obtain ⟨v3,hv3⟩:∃ z,z=v2.alloc (.cells #[.int .i64 0,.slice none 0 0] 40):=⟨_,rfl⟩
    rw [← hv3] at aL kf0
    go_upto_region 10 with fail
    rw [← hv3]
    obtain ⟨bf,hbf⟩:∃ z,z=v2.heap.size:=⟨_,rfl⟩
    rw [← hbf] at kf0 ⊢
    have B_v3:=hide (B_v2.out.trans (aL.mono B_v2.out.size))
    clear B_v2
    clear aL hbf hv3
    have f0:=kf0.c 0 rfl
    have f1:=kf0.c 1 rfl
    go_wp2_with fail
    refine (impl_Tangent0 v3).mono ?_
    rintro e v4 ⟨hbT,rfl⟩
    have B_v4:=hide (B_v3.out.trans (hbT.mono B_v3.out.size))
    have kf_v4:=kf0.below hbT
    clear B_v3 kf0
    clear hbT f0 f1
    have aL:=below_alloc v4 (.cells #[.int .i64 0,.slice none 0 0] 40)
    have kg0:=BlkN.new v4 #[.int .i64 0,.slice none 0 0] 40
    obtain ⟨v5,hv5⟩:∃ z,z=v4.alloc (.cells #[.int .i64 0,.slice none 0 0] 40):=⟨_,rfl⟩
    rw [← hv5] at aL kg0
    go_upto_region 11 with fail
    rw [← hv5]
    obtain ⟨bg,hbg⟩:∃ z,z=v4.heap.size:=⟨_,rfl⟩
    rw [← hbg] at kg0 ⊢
    have B_v5:=hide (B_v4.out.trans (aL.mono B_v4.out.size))
    have kf_v5:=kf_v4.below aL
    clear B_v4 kf_v4
    clear aL hbg hv5
    go_wp2_with fail
    go_ret
    exact ⟨rfl,B_v5.out⟩
   ·have HM2:=hide (hM2.wide (lo':=0) (zL _) (lR _))
    clear hM2 hp
    have aL:=below_alloc v2 (.cells #[.int .i64 2,.slice (some ⟨gf,0,none⟩) 2 2] 40)
    have kf0:=BlkN.new v2 #[.int .i64 2,.slice (some ⟨gf,0,none⟩) 2 2] 40
    obtain ⟨v3,hv3⟩:∃ z,z=v2.alloc (.cells #[.int .i64 2,.slice (some ⟨gf,0,none⟩) 2 2] 40):=⟨_,rfl⟩
    rw [← hv3] at aL kf0
    go_upto_region 10 with fail
    rw [← hv3]
    obtain ⟨bf,hbf⟩:∃ z,z=v2.heap.size:=⟨_,rfl⟩
    rw [← hbf] at kf0 ⊢
    have B_v3:=hide (B_v2.out.trans (aL.mono B_v2.out.size))
    have F_v3:=hide ((HM2.out.below aL (lR _)).wide (lR _) aL.size)
    clear B_v2 HM2
    clear aL hbf hv3
    have f0:=kf0.c 0 rfl
    have f1:=kf0.c 1 rfl
    go_wp2_with fail
    refine (impl_Tangent (some ⟨gf,0,none⟩) 2 (partF ms 1) (Jr.scaledF (partF ms 0) (-1)) 0 v3.heap.size v3 F_v3.out (lR _) (field_lens hL.out)).mono ?_
    rintro e v4 ⟨hbT,hcase⟩
    have B_v4:=hide (B_v3.out.trans (hbT.mono B_v3.out.size))
    have kf_v4:=kf0.below hbT
    clear B_v3 kf0
    clear hbT f0 f1
    rcases hcase with rfl | ⟨gq,cP,qs,rfl,hQ,hTP,hFF⟩
    ·have aL:=below_alloc v4 (.cells #[.int .i64 0,.slice none 0 0] 40)
     have kg0:=BlkN.new v4 #[.int .i64 0,.slice none 0 0] 40
     obtain ⟨v5,hv5⟩:∃ z,z=v4.alloc (.cells #[.int .i64 0,.slice none 0 0] 40):=⟨_,rfl⟩
     rw [← hv5] at aL kg0
     go_upto_region 11 with fail
     rw [← hv5]
     obtain ⟨bg,hbg⟩:∃ z,z=v4.heap.size:=⟨_,rfl⟩
     rw [← hbg] at kg0 ⊢
     have B_v5:=hide (B_v4.out.trans (aL.mono B_v4.out.size))
     have kf_v5:=kf_v4.below aL
     clear B_v4 kf_v4
     clear aL hbg hv5
     go_wp2_with fail
     go_ret
     exact ⟨rfl,B_v5.out⟩
    ·have HQ:=hide (hQ.wide (lo':=0) (zL _) (lR _))
     have HTP:=hide hTP
     have HFF:=hide hFF
     have hcq:=hQ.cap
     have hmq:=hQ.max
     clear hQ hTP hFF
     have aL:=below_alloc v4 (.cells #[.int .i64 4,.slice (some ⟨gq,0,none⟩) 4 cP] 40)
     have kg0:=BlkN.new v4 #[.int .i64 4,.slice (some ⟨gq,0,none⟩) 4 cP] 40
     obtain ⟨v5,hv5⟩:∃ z,z=v4.alloc (.cells #[.int .i64 4,.slice (some ⟨gq,0,none⟩) 4 cP] 40):=⟨_,rfl⟩
     rw [← hv5] at aL kg0
     go_upto_region 11 with fail
     rw [← hv5]
     obtain ⟨bg,hbg⟩:∃ z,z=v4.heap.size:=⟨_,rfl⟩
     rw [← hbg] at kg0 ⊢
     have B_v5:=hide (B_v4.out.trans (aL.mono B_v4.out.size))
     have kf_v5:=kf_v4.below aL
     have Q_v5:=hide ((HQ.out.below aL (lR _)).wide (lR _) aL.size)
     clear B_v4 kf_v4 HQ
     clear aL hbg hv5
     go_wp2_with fail
     go_ret
     exact ⟨rfl,B_v5.out⟩
  | true =>
   have hok2:tabOkF s xs ys=true∧¬ (0:Int)∈ys:=by
    unfold conjOkF at hok
    simpa using hok
   obtain ⟨t1,hz0⟩:=hok2
   obtain ⟨k,rfl,hk8,hxl,hyl⟩:=tabOk_facts t1
   have hnk:Hid (n=k*k):=by show _=_;rw [← IA2.out.len,hxl]
   obtain rfl:k=m:=by rw [← IB2.out.len,hyl]
   have HT1:=hide t1
   have HZ0:=hide hz0
   clear hok hxl hyl t1 hz0
   go_wp2_with fail
   refine (impl_Conj_ok k A n c xs B d ys 0 w2.heap.size w2 IA2.out IB2.out (lR _) hk8 hnk.out HT1.out HZ0.out).mono ?_
   rintro e w3 ⟨gA,gB,gC,gD,rfl,hne,hbd,oA,oB,oC,oD,b3⟩
   have k3:=k1.below b3
   have IA3:=hide (IA2.out.below b3 (lR _))
   have IB3:=hide (IB2.out.below b3 (lR _))
   have a3:=below_alloc w3 (.cells #[.int .i64 (k:Int),.slice (some ⟨gA,0,none⟩) (k*k) (k*k),.slice (some ⟨gB,0,none⟩) k k,.int .i64 (k:Int),.slice (some ⟨gC,0,none⟩) (k*k) (k*k),.slice (some ⟨gD,0,none⟩) k k] 30)
   have kp3:=BlkN.new w3 #[.int .i64 (k:Int),.slice (some ⟨gA,0,none⟩) (k*k) (k*k),.slice (some ⟨gB,0,none⟩) k k,.int .i64 (k:Int),.slice (some ⟨gC,0,none⟩) (k*k) (k*k),.slice (some ⟨gD,0,none⟩) k k] 30
   have k4:=k3.below a3
   have IA4:=hide (IA3.out.below a3 b3.size)
   have IB4:=hide (IB3.out.below a3 b3.size)
   have b4:=b2.trans ((b3.trans (a3.mono b3.size)).mono z2)
   have hz24:w2.heap.size≤(w3.alloc (.cells #[.int .i64 (k:Int),.slice (some ⟨gA,0,none⟩) (k*k) (k*k),.slice (some ⟨gB,0,none⟩) k k,.int .i64 (k:Int),.slice (some ⟨gC,0,none⟩) (k*k) (k*k),.slice (some ⟨gD,0,none⟩) k k] 30)).heap.size:=Nat.le_trans b3.size a3.size
   have OA:=hide ((oA.ints.below a3 (by omega)).wide (lo':=0) (hi':=(w3.alloc (.cells #[.int .i64 (k:Int),.slice (some ⟨gA,0,none⟩) (k*k) (k*k),.slice (some ⟨gB,0,none⟩) k k,.int .i64 (k:Int),.slice (some ⟨gC,0,none⟩) (k*k) (k*k),.slice (some ⟨gD,0,none⟩) k k] 30)).heap.size) (zL _) (by have:=a3.size;omega))
   have OB:=hide ((oB.ints.below a3 (by omega)).wide (lo':=0) (hi':=(w3.alloc (.cells #[.int .i64 (k:Int),.slice (some ⟨gA,0,none⟩) (k*k) (k*k),.slice (some ⟨gB,0,none⟩) k k,.int .i64 (k:Int),.slice (some ⟨gC,0,none⟩) (k*k) (k*k),.slice (some ⟨gD,0,none⟩) k k] 30)).heap.size) (zL _) (by have:=a3.size;omega))
   have OC:=hide ((oC.ints.below a3 (by omega)).wide (lo':=0) (hi':=(w3.alloc (.cells #[.int .i64 (k:Int),.slice (some ⟨gA,0,none⟩) (k*k) (k*k),.slice (some ⟨gB,0,none⟩) k k,.int .i64 (k:Int),.slice (some ⟨gC,0,none⟩) (k*k) (k*k),.slice (some ⟨gD,0,none⟩) k k] 30)).heap.size) (zL _) (by have:=a3.size;omega))
   have OD:=hide ((oD.ints.below a3 (by omega)).wide (lo':=0) (hi':=(w3.alloc (.cells #[.int .i64 (k:Int),.slice (some ⟨gA,0,none⟩) (k*k) (k*k),.slice (some ⟨gB,0,none⟩) k k,.int .i64 (k:Int),.slice (some ⟨gC,0,none⟩) (k*k) (k*k),.slice (some ⟨gD,0,none⟩) k k] 30)).heap.size) (zL _) (by have:=a3.size;omega))
   clear k1 k3 q0 q1 q2 IA2 IB2 IA3 IB3 b3 a3 b2 oA oB oC oD hne hbd
   go_upto_region 5 with fail
   obtain ⟨bp,hbp⟩:∃ z,z=w3.heap.size:=⟨_,rfl⟩
   generalize w3.alloc (.cells #[.int .i64 (k:Int),.slice (some ⟨gA,0,none⟩) (k*k) (k*k),.slice (some ⟨gB,0,none⟩) k k,.int .i64 (k:Int),.slice (some ⟨gC,0,none⟩) (k*k) (k*k),.slice (some ⟨gD,0,none⟩) k k] 30)=w4 at k4 IA4 IB4 b4 hz24 OA OB OC OD kp3 ⊢
   rw [← hbp] at kp3 ⊢
   have q0:=k4.c 0 rfl
   have q1:=k4.c 1 rfl
   have q2:=k4.c 2 rfl
   clear hbp
   go_wp2_with fail
   refine (spec_Conj_ok k A n c xs B d ys w2.heap.size w4 IA4.out IB4.out hz24 hk8 hnk.out HT1.out HZ0.out hBn.out).mono ?_
   rintro e w5 ⟨A5,c5,B5,d5,A6,c6,B6,d6,rfl,_,_,_,_,b5⟩
   have a5:=below_alloc w5 (.cells #[.int .i64 (k:Int),.slice A5 n c5,.slice B5 k d5,.int .i64 (k:Int),.slice A6 n c6,.slice B6 k d6] 30)
   have b45:=b5.trans (a5.mono b5.size)
   have b6:=b4.trans (b45.mono b4.size)
   have kp6:=kp3.below b45
   have PA:=hide ((OA.out.below b45 (lR _)).wide (lR _) b45.size)
   have PB:=hide ((OB.out.below b45 (lR _)).wide (lR _) b45.size)
   have PC:=hide ((OC.out.below b45 (lR _)).wide (lR _) b45.size)
   have PD:=hide ((OD.out.below b45 (lR _)).wide (lR _) b45.size)
   clear k4 q0 q1 q2 IA4 IB4 hz24 b5 a5 b45 b4 kp3 OA OB OC OD hAn hBn
   go_upto_region 6 with fail
   generalize w5.alloc (.cells #[.int .i64 (k:Int),.slice A5 n c5,.slice B5 k d5,.int .i64 (k:Int),.slice A6 n c6,.slice B6 k d6] 30)=w6 at b6 kp6 PA PB PC PD ⊢
   have p0:=kp6.c 0 rfl
   have p1:=kp6.c 1 rfl
   have p2:=kp6.c 2 rfl
   have p3:=kp6.c 3 rfl
   have p4:=kp6.c 4 rfl
   have p5:=kp6.c 5 rfl
   have hsy:=hide (conj_sym hk8 HT1.out HZ0.out)
   go_wp2_with fail
   refine (impl_IsSymplecticPair (k:Int) (some ⟨gA,0,none⟩) (k*k) (k*k) xs (some ⟨gB,0,none⟩) k k ys (k:Int) (some ⟨gC,0,none⟩) (k*k) (k*k) (conjL k xs ys) (some ⟨gD,0,none⟩) k k ys 0 w6.heap.size w6 PA.out PB.out PC.out PD.out (lR _)).mono ?_
   rintro e w7 ⟨rfl,b7⟩
   rw [hsy.out]
   have kp7:=kp6.below b7
   have b77:=b6.trans (b7.mono b6.size)
   have RA:=hide ((PA.out.below b7 (lR _)).wide (lR _) b7.size)
   have RB:=hide ((PB.out.below b7 (lR _)).wide (lR _) b7.size)
   have RC:=hide ((PC.out.below b7 (lR _)).wide (lR _) b7.size)
   have RD:=hide ((PD.out.below b7 (lR _)).wide (lR _) b7.size)
   clear hsy kp6 PA PB PC PD b7 b6 p0 p1 p2 p3 p4 p5
   go_upto_region 8 with fail
   have HB7:=hide b77
   clear b77
   go_wp2_with fail
   refine (spec_DrawEnergy w.heap.size A0 n0 c0 w7 (HB.out.below HB7.out (lR _)) HB7.out.size).mono ?_
   rintro e v1 ⟨P,np,cp,nn,U,cu,V,cv,rfl,hn1,hn5,hEn⟩
   obtain ⟨ms,vs,xss,us,yss,hM,hL,hUV,hEP,hbE⟩:=hEn
   have B_v1:=hide (HB7.out.trans (hbE.out.mono HB7.out.size))
   have kp_v1:=kp7.below hbE.out
   have RA_v1:=hide ((RA.out.below hbE.out (lR _)).wide (lR _) hbE.out.size)
   have RB_v1:=hide ((RB.out.below hbE.out (lR _)).wide (lR _) hbE.out.size)
   have RC_v1:=hide ((RC.out.below hbE.out (lR _)).wide (lR _) hbE.out.size)
   have RD_v1:=hide ((RD.out.below hbE.out (lR _)).wide (lR _) hbE.out.size)
   clear HB7 kp7 RA RB RC RD
   clear hbE
   have M1:=hide (hM.out.wide (lo':=0) (zL _) (lR _))
   have hlm:∀ q∈ms,q.2.length≤1048576:=fun q hq=>by have:=hL.out q hq;omega
   have HLM:=hide hlm
   clear hM hlm
   go_wp2_with fail
   refine (impl_Hamilton P np cp ms 0 v1.heap.size v1 M1.out (lR _) HLM.out).mono ?_
   rintro e v2 ⟨hbH,hcase⟩
   have B_v2:=hide (B_v1.out.trans (hbH.mono B_v1.out.size))
   have kp_v2:=kp_v1.below hbH
   have RA_v2:=hide ((RA_v1.out.below hbH (lR _)).wide (lR _) hbH.size)
   have RB_v2:=hide ((RB_v1.out.below hbH (lR _)).wide (lR _) hbH.size)
   have RC_v2:=hide ((RC_v1.out.below hbH (lR _)).wide (lR _) hbH.size)
   have RD_v2:=hide ((RD_v1.out.below hbH (lR _)).wide (lR _) hbH.size)
   have UV_v2:=hide (hUV.out.below hbH)
   clear B_v1 kp_v1 RA_v1 RB_v1 RC_v1 RD_v1 hUV
   clear hbH M1
   rcases hcase with ⟨hp,rfl⟩ | ⟨hp,gf,rfl,hM2⟩
   ·have aL:=below_alloc v2 (.cells #[.int .i64 0,.slice none 0 0] 40)
    have kf0:=BlkN.new v2 #[.int .i64 0,.slice none 0 0] 40
    obtain ⟨v3,hv3⟩:∃ z,z=v2.alloc (.cells #[.int .i64 0,.slice none 0 0] 40):=⟨_,rfl⟩
    rw [← hv3] at aL kf0
    go_upto_region 10 with fail
    rw [← hv3]
    obtain ⟨bf,hbf⟩:∃ z,z=v2.heap.size:=⟨_,rfl⟩
    rw [← hbf] at kf0 ⊢
    have B_v3:=hide (B_v2.out.trans (aL.mono B_v2.out.size))
    have kp_v3:=kp_v2.below aL
    have RA_v3:=hide ((RA_v2.out.below aL (lR _)).wide (lR _) aL.size)
    have RB_v3:=hide ((RB_v2.out.below aL (lR _)).wide (lR _) aL.size)
    have RC_v3:=hide ((RC_v2.out.below aL (lR _)).wide (lR _) aL.size)
    have RD_v3:=hide ((RD_v2.out.below aL (lR _)).wide (lR _) aL.size)
    have UV_v3:=hide (UV_v2.out.below aL)
    clear B_v2 kp_v2 RA_v2 RB_v2 RC_v2 RD_v2 UV_v2
    clear aL hbf hv3
    have f0:=kf0.c 0 rfl
    have f1:=kf0.c 1 rfl
    go_wp2_with fail
    refine (impl_Tangent0 v3).mono ?_
    rintro e v4 ⟨hbT,rfl⟩
    have B_v4:=hide (B_v3.out.trans (hbT.mono B_v3.out.size))
    have kp_v4:=kp_v3.below hbT
    have RA_v4:=hide ((RA_v3.out.below hbT (lR _)).wide (lR _) hbT.size)
    have RB_v4:=hide ((RB_v3.out.below hbT (lR _)).wide (lR _) hbT.size)
    have RC_v4:=hide ((RC_v3.out.below hbT (lR _)).wide (lR _) hbT.size)
    have RD_v4:=hide ((RD_v3.out.below hbT (lR _)).wide (lR _) hbT.size)
    have UV_v4:=hide (UV_v3.out.below hbT)
    have kf_v4:=kf0.below hbT
    clear B_v3 kp_v3 RA_v3 RB_v3 RC_v3 RD_v3 UV_v3 kf0
    clear hbT f0 f1
    have aL:=below_alloc v4 (.cells #[.int .i64 0,.slice none 0 0] 40)
    have kg0:=BlkN.new v4 #[.int .i64 0,.slice none 0 0] 40
    obtain ⟨v5,hv5⟩:∃ z,z=v4.alloc (.cells #[.int .i64 0,.slice none 0 0] 40):=⟨_,rfl⟩
    rw [← hv5] at aL kg0
    go_upto_region 11 with fail
    rw [← hv5]
    obtain ⟨bg,hbg⟩:∃ z,z=v4.heap.size:=⟨_,rfl⟩
    rw [← hbg] at kg0 ⊢
    have B_v5:=hide (B_v4.out.trans (aL.mono B_v4.out.size))
    have kp_v5:=kp_v4.below aL
    have RA_v5:=hide ((RA_v4.out.below aL (lR _)).wide (lR _) aL.size)
    have RB_v5:=hide ((RB_v4.out.below aL (lR _)).wide (lR _) aL.size)
    have RC_v5:=hide ((RC_v4.out.below aL (lR _)).wide (lR _) aL.size)
    have RD_v5:=hide ((RD_v4.out.below aL (lR _)).wide (lR _) aL.size)
    have UV_v5:=hide (UV_v4.out.below aL)
    have kf_v5:=kf_v4.below aL
    clear B_v4 kp_v4 RA_v4 RB_v4 RC_v4 RD_v4 UV_v4 kf_v4
    clear aL hbg hv5
    go_wp2_with fail
    go_ret
    exact ⟨rfl,B_v5.out⟩
   ·have HM2:=hide (hM2.wide (lo':=0) (zL _) (lR _))
    clear hM2 hp
    have aL:=below_alloc v2 (.cells #[.int .i64 2,.slice (some ⟨gf,0,none⟩) 2 2] 40)
    have kf0:=BlkN.new v2 #[.int .i64 2,.slice (some ⟨gf,0,none⟩) 2 2] 40
    obtain ⟨v3,hv3⟩:∃ z,z=v2.alloc (.cells #[.int .i64 2,.slice (some ⟨gf,0,none⟩) 2 2] 40):=⟨_,rfl⟩
    rw [← hv3] at aL kf0
    go_upto_region 10 with fail
    rw [← hv3]
    obtain ⟨bf,hbf⟩:∃ z,z=v2.heap.size:=⟨_,rfl⟩
    rw [← hbf] at kf0 ⊢
    have B_v3:=hide (B_v2.out.trans (aL.mono B_v2.out.size))
    have kp_v3:=kp_v2.below aL
    have RA_v3:=hide ((RA_v2.out.below aL (lR _)).wide (lR _) aL.size)
    have RB_v3:=hide ((RB_v2.out.below aL (lR _)).wide (lR _) aL.size)
    have RC_v3:=hide ((RC_v2.out.below aL (lR _)).wide (lR _) aL.size)
    have RD_v3:=hide ((RD_v2.out.below aL (lR _)).wide (lR _) aL.size)
    have UV_v3:=hide (UV_v2.out.below aL)
    have F_v3:=hide ((HM2.out.below aL (lR _)).wide (lR _) aL.size)
    clear B_v2 kp_v2 RA_v2 RB_v2 RC_v2 RD_v2 UV_v2 HM2
    clear aL hbf hv3
    have f0:=kf0.c 0 rfl
    have f1:=kf0.c 1 rfl
    go_wp2_with fail
    refine (impl_Tangent (some ⟨gf,0,none⟩) 2 (partF ms 1) (Jr.scaledF (partF ms 0) (-1)) 0 v3.heap.size v3 F_v3.out (lR _) (field_lens hL.out)).mono ?_
    rintro e v4 ⟨hbT,hcase⟩
    have B_v4:=hide (B_v3.out.trans (hbT.mono B_v3.out.size))
    have kp_v4:=kp_v3.below hbT
    have RA_v4:=hide ((RA_v3.out.below hbT (lR _)).wide (lR _) hbT.size)
    have RB_v4:=hide ((RB_v3.out.below hbT (lR _)).wide (lR _) hbT.size)
    have RC_v4:=hide ((RC_v3.out.below hbT (lR _)).wide (lR _) hbT.size)
    have RD_v4:=hide ((RD_v3.out.below hbT (lR _)).wide (lR _) hbT.size)
    have UV_v4:=hide (UV_v3.out.below hbT)
    have kf_v4:=kf0.below hbT
    clear B_v3 kp_v3 RA_v3 RB_v3 RC_v3 RD_v3 UV_v3 kf0
    clear hbT f0 f1
    rcases hcase with rfl | ⟨gq,cP,qs,rfl,hQ,hTP,hFF⟩
    ·have aL:=below_alloc v4 (.cells #[.int .i64 0,.slice none 0 0] 40)
     have kg0:=BlkN.new v4 #[.int .i64 0,.slice none 0 0] 40
     obtain ⟨v5,hv5⟩:∃ z,z=v4.alloc (.cells #[.int .i64 0,.slice none 0 0] 40):=⟨_,rfl⟩
     rw [← hv5] at aL kg0
     go_upto_region 11 with fail
     rw [← hv5]
     obtain ⟨bg,hbg⟩:∃ z,z=v4.heap.size:=⟨_,rfl⟩
     rw [← hbg] at kg0 ⊢
     have B_v5:=hide (B_v4.out.trans (aL.mono B_v4.out.size))
     have kp_v5:=kp_v4.below aL
     have RA_v5:=hide ((RA_v4.out.below aL (lR _)).wide (lR _) aL.size)
     have RB_v5:=hide ((RB_v4.out.below aL (lR _)).wide (lR _) aL.size)
     have RC_v5:=hide ((RC_v4.out.below aL (lR _)).wide (lR _) aL.size)
     have RD_v5:=hide ((RD_v4.out.below aL (lR _)).wide (lR _) aL.size)
     have UV_v5:=hide (UV_v4.out.below aL)
     have kf_v5:=kf_v4.below aL
     clear B_v4 kp_v4 RA_v4 RB_v4 RC_v4 RD_v4 UV_v4 kf_v4
     clear aL hbg hv5
     go_wp2_with fail
     go_ret
     exact ⟨rfl,B_v5.out⟩
    ·have HQ:=hide (hQ.wide (lo':=0) (zL _) (lR _))
     have HTP:=hide hTP
     have HFF:=hide hFF
     have hcq:=hQ.cap
     have hmq:=hQ.max
     clear hQ hTP hFF
     have aL:=below_alloc v4 (.cells #[.int .i64 4,.slice (some ⟨gq,0,none⟩) 4 cP] 40)
     have kg0:=BlkN.new v4 #[.int .i64 4,.slice (some ⟨gq,0,none⟩) 4 cP] 40
     obtain ⟨v5,hv5⟩:∃ z,z=v4.alloc (.cells #[.int .i64 4,.slice (some ⟨gq,0,none⟩) 4 cP] 40):=⟨_,rfl⟩
     rw [← hv5] at aL kg0
     go_upto_region 11 with fail
     rw [← hv5]
     obtain ⟨bg,hbg⟩:∃ z,z=v4.heap.size:=⟨_,rfl⟩
     rw [← hbg] at kg0 ⊢
     have B_v5:=hide (B_v4.out.trans (aL.mono B_v4.out.size))
     have kp_v5:=kp_v4.below aL
     have RA_v5:=hide ((RA_v4.out.below aL (lR _)).wide (lR _) aL.size)
     have RB_v5:=hide ((RB_v4.out.below aL (lR _)).wide (lR _) aL.size)
     have RC_v5:=hide ((RC_v4.out.below aL (lR _)).wide (lR _) aL.size)
     have RD_v5:=hide ((RD_v4.out.below aL (lR _)).wide (lR _) aL.size)
     have UV_v5:=hide (UV_v4.out.below aL)
     have kf_v5:=kf_v4.below aL
     have Q_v5:=hide ((HQ.out.below aL (lR _)).wide (lR _) aL.size)
     clear B_v4 kp_v4 RA_v4 RB_v4 RC_v4 RD_v4 UV_v4 kf_v4 HQ
     clear aL hbg hv5
     go_upto_region 13 with fail
     have oc:=litsD (w:=v5) (xs:=[0,1,0,1]) (n:=4) rfl (by omega) (fun x hx=>by simp only [List.mem_cons,List.not_mem_nil,or_false] at hx;rcases hx with rfl | rfl | rfl | rfl <;> constructor <;> omega)
     have hIC:iCells [0,1,0,1] = #[.int .i64 0,.int .i64 1,.int .i64 0,.int .i64 1]:=rfl
     rw [hIC] at oc
     have aL:=below_alloc v5 (.cells #[.int .i64 0,.int .i64 1,.int .i64 0,.int .i64 1] 3)
     have HC:=hide (oc.ints.wide (lo':=0) (zL _) (lR _))
     obtain ⟨v6,hv6⟩:∃ z,z=v5.alloc (.cells #[.int .i64 0,.int .i64 1,.int .i64 0,.int .i64 1] 3):=⟨_,rfl⟩
     rw [← hv6] at HC aL
     clear oc hIC
     go_upto_region 14 with fail
     rw [← hv6]
     obtain ⟨gcl,hgcl⟩:∃ z,z=v5.heap.size:=⟨_,rfl⟩
     rw [← hgcl] at HC ⊢
     have B_v6:=hide (B_v5.out.trans (aL.mono B_v5.out.size))
     have kp_v6:=kp_v5.below aL
     have RA_v6:=hide ((RA_v5.out.below aL (lR _)).wide (lR _) aL.size)
     have RB_v6:=hide ((RB_v5.out.below aL (lR _)).wide (lR _) aL.size)
     have RC_v6:=hide ((RC_v5.out.below aL (lR _)).wide (lR _) aL.size)
     have RD_v6:=hide ((RD_v5.out.below aL (lR _)).wide (lR _) aL.size)
     have UV_v6:=hide (UV_v5.out.below aL)
     have kf_v6:=kf_v5.below aL
     have Q_v6:=hide ((Q_v5.out.below aL (lR _)).wide (lR _) aL.size)
     have kg_v6:=kg0.below aL
     clear B_v5 kp_v5 RA_v5 RB_v5 RC_v5 RD_v5 UV_v5 kf_v5 Q_v5 kg0
     clear aL hv6 hgcl
     have HLQ:=hide (law_lens HFF.out)
     have hlaw:=hide (conj_law hk8 HT1.out HZ0.out HTP.out HFF.out hL.out hEP.out hn1 (by omega))
     have p0:=kp_v6.c 0 rfl
     have p1:=kp_v6.c 1 rfl
     have p2:=kp_v6.c 2 rfl
     have p3:=kp_v6.c 3 rfl
     have p4:=kp_v6.c 4 rfl
     have p5:=kp_v6.c 5 rfl
     have g0:=kg_v6.c 0 rfl
     have g1:=kg_v6.c 1 rfl
     have IU:=hide ((UV_v6.out.ru.ints2G).wideD2 (lo':=0) (zL _))
     go_wp2_with fail
     refine (impl_PairAlong_all (k:Int) (some ⟨gA,0,none⟩) (k*k) (k*k) xs (some ⟨gB,0,none⟩) k k ys (k:Int) (some ⟨gC,0,none⟩) (k*k) (k*k) (conjL k xs ys) (some ⟨gD,0,none⟩) k k ys 4 (some ⟨gq,0,none⟩) 4 cP qs (some ⟨gcl,0,none⟩) 4 4 [0,1,0,1] U nn cu xss 0 v6.heap.size v6 RA_v6.out RB_v6.out RC_v6.out RD_v6.out Q_v6.out HC.out IU.out (lR _) HLQ.out (fun _=>⟨_,rfl⟩) (fun _=>⟨_,rfl⟩)).mono ?_
     rintro e v7 ⟨Rx,qx,cx,rfl,hRx,hbP⟩
     have HRx:=hide hRx
     clear hRx
     have B_v7:=hide (B_v6.out.trans (hbP.mono B_v6.out.size))
     have kp_v7:=kp_v6.below hbP
     have RA_v7:=hide ((RA_v6.out.below hbP (lR _)).wide (lR _) hbP.size)
     have RB_v7:=hide ((RB_v6.out.below hbP (lR _)).wide (lR _) hbP.size)
     have RC_v7:=hide ((RC_v6.out.below hbP (lR _)).wide (lR _) hbP.size)
     have RD_v7:=hide ((RD_v6.out.below hbP (lR _)).wide (lR _) hbP.size)
     have UV_v7:=hide (UV_v6.out.below hbP)
     have kf_v7:=kf_v6.below hbP
     have Q_v7:=hide ((Q_v6.out.below hbP (lR _)).wide (lR _) hbP.size)
     have kg_v7:=kg_v6.below hbP
     have C_v7:=hide ((HC.out.below hbP (lR _)).wide (lR _) hbP.size)
     clear B_v6 kp_v6 RA_v6 RB_v6 RC_v6 RD_v6 UV_v6 kf_v6 Q_v6 kg_v6 HC
     clear hbP IU g0 g1 p0 p1 p2 p3 p4 p5
     obtain rfl:nn=qx:=by rw [← HRx.out.len];exact hlaw.out.l1.symm
     have fx:=hide (ros_rows HRx.out hlaw.out.r1)
     have X7:=hide HRx.out.ints2
     have hcx:=HRx.out.capb
     clear HRx
     have FX:=hide fun W (hb:Below v7.heap.size v7 W)=>rows_keep fx.out X7.out (lR _) hb
     have p0:=kp_v7.c 0 rfl
     have p1:=kp_v7.c 1 rfl
     have p2:=kp_v7.c 2 rfl
     have p3:=kp_v7.c 3 rfl
     have p4:=kp_v7.c 4 rfl
     have p5:=kp_v7.c 5 rfl
     have g0:=kg_v7.c 0 rfl
     have g1:=kg_v7.c 1 rfl
     have IU:=hide ((UV_v7.out.rv.ints2G).wideD2 (lo':=0) (zL _))
     go_wp2_with fail
     refine (impl_PairAlong_all (k:Int) (some ⟨gA,0,none⟩) (k*k) (k*k) xs (some ⟨gB,0,none⟩) k k ys (k:Int) (some ⟨gC,0,none⟩) (k*k) (k*k) (conjL k xs ys) (some ⟨gD,0,none⟩) k k ys 4 (some ⟨gq,0,none⟩) 4 cP qs (some ⟨gcl,0,none⟩) 4 4 [0,1,0,1] V nn cv yss 0 v7.heap.size v7 RA_v7.out RB_v7.out RC_v7.out RD_v7.out Q_v7.out C_v7.out IU.out (lR _) HLQ.out (fun _=>⟨_,rfl⟩) (fun _=>⟨_,rfl⟩)).mono ?_
     rintro e v8 ⟨Ry,qy,cy,rfl,hRy,hbP⟩
     have HRy:=hide hRy
     clear hRy
     have fx8:=hide (FX.out _ hbP)
     have B_v8:=hide (B_v7.out.trans (hbP.mono B_v7.out.size))
     have kp_v8:=kp_v7.below hbP
     have RA_v8:=hide ((RA_v7.out.below hbP (lR _)).wide (lR _) hbP.size)
     have RB_v8:=hide ((RB_v7.out.below hbP (lR _)).wide (lR _) hbP.size)
     have RC_v8:=hide ((RC_v7.out.below hbP (lR _)).wide (lR _) hbP.size)
     have RD_v8:=hide ((RD_v7.out.below hbP (lR _)).wide (lR _) hbP.size)
     have UV_v8:=hide (UV_v7.out.below hbP)
     have kf_v8:=kf_v7.below hbP
     have Q_v8:=hide ((Q_v7.out.below hbP (lR _)).wide (lR _) hbP.size)
     have kg_v8:=kg_v7.below hbP
     have C_v8:=hide ((C_v7.out.below hbP (lR _)).wide (lR _) hbP.size)
     have X_v8:=hide (Ints2.wideH (X7.out.below hbP (lR _)) hbP.size)
     clear B_v7 kp_v7 RA_v7 RB_v7 RC_v7 RD_v7 UV_v7 kf_v7 Q_v7 kg_v7 C_v7 X7
     clear hbP IU g0 g1 p0 p1 p2 p3 p4 p5
     obtain rfl:nn=qy:=by rw [← HRy.out.len];exact hlaw.out.l2.symm
     have fy:=hide (ros_rows HRy.out hlaw.out.r2)
     have Y8:=hide HRy.out.ints2
     have hcy:=HRy.out.capb
     clear HRy
     clear FX
     have X8:=X_v8
     have hsx:=hide (shaped_true hlaw.out.l1 hlaw.out.r1)
     have hsy:=hide (shaped_true hlaw.out.l2 hlaw.out.r2)
     have hX2:=hide (drop_rows hlaw.out.r1)
     have hY2:=hide (drop_rows hlaw.out.r2)
     have hu2:=hide (drop_rows hEP.out.r1)
     have hv2:=hide (drop_rows hEP.out.r2)
     have hfm:=hide hlaw.out.form
     have hn1000:nn≤1000:=by omega
     clear kp_v8
     clear kg_v8
     clear kf_v8
     clear RA_v8
     clear RB_v8
     clear RC_v8
     clear RD_v8
     clear Q_v8
     clear C_v8
     obtain ⟨XX,hXX⟩:∃ z,z=(pairAl (k:Int) xs ys (k:Int) (conjL k xs ys) ys 4 qs [0,1,0,1] xss):=⟨_,rfl⟩
     obtain ⟨YY,hYY⟩:∃ z,z=(pairAl (k:Int) xs ys (k:Int) (conjL k xs ys) ys 4 qs [0,1,0,1] yss):=⟨_,rfl⟩
     rw [← hXX] at X8 hsx hX2 hfm
     rw [← hYY] at Y8 hsy hY2 hfm
     clear hXX hYY hlaw
     go_wp2_with fail
     refine (laws_shaped Rx nn cx XX _ _ (nn:Int) 4 v8 X8.out).mono ?_
     rintro e w' ⟨rfl,rfl⟩
     rw [hsx.out]
     go_wp2_with fail
     refine (laws_shaped Ry nn cy YY _ _ (nn:Int) 4 v8 Y8.out).mono ?_
     rintro e w' ⟨rfl,rfl⟩
     rw [hsy.out]
     go_wp2_with fail
     refine (laws_tangents Rx nn cx XX _ _ v8 X8.out (lR _) hn1000 fx8.out).mono ?_
     rintro e v9 ⟨Ax,cx,rfl,hIx,hbx⟩
     have Tx:=hide hIx
     clear hIx
     have fy9:=hide (rows_keep fy.out Y8.out (lR _) hbx)
     have B_v9:=hide (B_v8.out.trans (hbx.mono B_v8.out.size))
     have UV_v9:=hide (UV_v8.out.below hbx)
     have Y_v9:=hide (Ints2.wideH (Y8.out.below hbx (lR _)) hbx.size)
     clear B_v8 UV_v8 Y8
     clear hbx
     go_wp2_with fail
     refine (laws_tangents Ry nn cy YY _ _ v9 Y_v9.out (lR _) hn1000 fy9.out).mono ?_
     rintro e v10 ⟨Ay,cy,rfl,hIy,hby⟩
     have Ty:=hide hIy
     clear hIy
     have B_v10:=hide (B_v9.out.trans (hby.mono B_v9.out.size))
     have UV_v10:=hide (UV_v9.out.below hby)
     have Y_v10:=hide (Ints2.wideH (Y_v9.out.below hby (lR _)) hby.size)
     have Tx_v10:=hide (Ints2.wideH (Tx.out.below hby (lR _)) hby.size)
     clear B_v9 UV_v9 Y_v9 Tx
     clear hby
     go_wp2_with fail
     refine (impl_SymplecticForm Ax nn cx (XX.map (List.drop 2)) _ _ Ay cy (YY.map (List.drop 2)) _ _ v10 Tx_v10.out Ty.out (lR _) (lR _) hn1 (by omega) hX2.out hY2.out).mono ?_
     rintro e v11 ⟨g1,rfl,o1,hb1⟩
     have F1:=hide o1.ints
     clear o1
     have B_v11:=hide (B_v10.out.trans (hb1.mono B_v10.out.size))
     have UV_v11:=hide (UV_v10.out.below hb1)
     clear B_v10 UV_v10
     clear hb1
     have fu:=hide (rowsO_rows UV_v11.out.ru hEP.out.r1)
     have IU:=hide (UV_v11.out.ru.ints2G)
     go_wp2_with fail
     refine (laws_tangents U nn cu xss _ _ v11 IU.out (lR _) hn1000 fu.out).mono ?_
     rintro e v12 ⟨Au,cu,rfl,hIu,hbu⟩
     have Tu:=hide hIu
     clear hIu
     have B_v12:=hide (B_v11.out.trans (hbu.mono B_v11.out.size))
     have UV_v12:=hide (UV_v11.out.below hbu)
     have F1_v12:=hide ((F1.out.below hbu (lR _)).wide (lR _) hbu.size)
     clear B_v11 UV_v11 F1
     clear hbu
     have fv:=hide (rowsO_rows UV_v12.out.rv hEP.out.r2)
     have IV:=hide (UV_v12.out.rv.ints2G)
     go_wp2_with fail
     refine (laws_tangents V nn cv yss _ _ v12 IV.out (lR _) hn1000 fv.out).mono ?_
     rintro e v13 ⟨Av,cv,rfl,hIv,hbv⟩
     have Tv:=hide hIv
     clear hIv
     have B_v13:=hide (B_v12.out.trans (hbv.mono B_v12.out.size))
     have UV_v13:=hide (UV_v12.out.below hbv)
     have F1_v13:=hide ((F1_v12.out.below hbv (lR _)).wide (lR _) hbv.size)
     have Tu_v13:=hide (Ints2.wideH (Tu.out.below hbv (lR _)) hbv.size)
     clear B_v12 UV_v12 F1_v12 Tu
     clear hbv
     go_wp2_with fail
     refine (impl_SymplecticForm Au nn cu (xss.map (List.drop 2)) _ _ Av cv (yss.map (List.drop 2)) _ _ v13 Tu_v13.out Tv.out (lR _) (lR _) hn1 (by omega) hu2.out hv2.out).mono ?_
     rintro e v14 ⟨g2,rfl,o2,hb2⟩
     have F2:=hide o2.ints
     clear o2
     have B_v14:=hide (B_v13.out.trans (hb2.mono B_v13.out.size))
     have UV_v14:=hide (UV_v13.out.below hb2)
     have F1_v14:=hide ((F1_v13.out.below hb2 (lR _)).wide (lR _) hb2.size)
     clear B_v13 UV_v13 F1_v13
     clear hb2
     go_wp2_with fail
     refine (laws_ints _ nn nn _ _ _ _ nn nn _ _ _ v14 F1_v14.out F2.out).mono ?_
     rintro e v15 ⟨rfl,q9,rfl⟩
     rw [decide_eq_true hfm.out]
     have HBF:=hide (below_drewN B_v14.out q9)
     go_wp2_with fail
     go_ret
     exact ⟨rfl,HBF.out⟩
theorem own:ownKnob Tryz.prog.godebug=none:=by kernel_rfl
theorem laidOut:laidOutB Tryz.prog=true:=by kernel_rfl
set_option maxRecDepth 100000 in
theorem lifted (os:Os) (started:os.Started) (H:Type) (enc:TypeId×Value→H) :
  ReturnsInHanded {} Tryz.checked os 3 .any (Rows.fnConjugatedSpec.pre6 enc Tryz.prog Tryz.f3 Rows.fnConjugatedRow.domain false) (Rows.fnConjugatedSpec.post enc Tryz.prog Tryz.f3 false true false false):=by
 refine returnsInHanded_of_change (C:=Tryz.checked) own started (by kernel_rfl) Tryz.func3
  (ChangeSpec.witness6 (enc:=enc) (C:=Tryz.checked) false ⟨#[],#[.slice none 0 0],[]⟩ 8 (by kernel_rfl) (by kernel_rfl) (by kernel_rfl) (by kernel_rfl)) ?_
 intro W base args ds gs before hval0 hW hcnd _
 have hval:∀ (j:Nat) t v,Tryz.f3.params[j]? = some t→args[j]? = some v→Value.okWide Tryz.prog W .any base t v:=hval0
 have hW':=hW
 obtain ⟨p,q,hA0,hV,rfl,hfz,hnd⟩:=hW
 have hA:DataW.TrodAll enc Tryz.prog W 0 (fun _=>true) true Tryz.f3.params.toList args.toList ds p:=hA0
 rw [Tryz.params3] at hA hval
 obtain ⟨v0,vs0,d0,ds0,p0,q0,hargs,rfl,rfl,h0,t0⟩:=trodAll_cons hA
 obtain ⟨rfl,rfl,rfl⟩:=trodAll_nil t0
 obtain rfl:args = #[v0]:=by cases args;simp_all
 obtain ⟨rfl,rfl⟩:=trodVars_none hV
 have k0:=h0
 have lt0:∀ x∈p0,x.block<W.heap.size:=by obtain ⟨m,hm⟩:=k0;exact DataW.trod_lt m _ _ _ hm
 obtain ⟨a0,n0,c0,rfl⟩:=okWide_slice Tryz.underlying22 (hval 0 22 v0 rfl rfl)
 have r0:=open_pbytes h0
 clear hA0 hval0
 refine (walk a0 n0 c0 W r0).mono fun e W' ⟨he,bel⟩=>?_
 subst he
 exact ⟨_,rfl,_,_,_,[],_,[],hW',trodAll_mk1 (shut_bool Tryz.underlying4 _),(trodAll_cons_mk (Below.trod laidOut (by kernel_rfl) (of_decide_eq_true (by kernel_rfl)) k0 bel lt0) trodAll_mk0),rfl,bel.frame _,fun h=>by cases h⟩
theorem over:Rows.fnConjugatedRow.holds Tryz.pinned (OpenSpec.ofChange Rows.fnConjugatedSpec) :=
 OpenClaim.holds_of_wide 3 Tryz.f3 rfl rfl rfl rfl rfl rfl rfl ⟨rfl,rfl,rfl,rfl,rfl⟩ rfl rfl rfl rfl rfl (by kernel_rfl) Tryz.func3 (by kernel_rfl)
  (of_decide_eq_true (by kernel_rfl)) (by unfold Func.isWrapper;first | (rw [if_pos (by decide +kernel)];kernel_rfl) | (rw [if_neg (by decide +kernel)];exact ⟨rfl,rfl⟩))
  (fun os started H enc _=>lifted os started H enc)
theorem proved:Rows.FnConjugatedSaid:=over
#print axioms proved
end Go.Proofs.YtomgcbfcnjbofaaGreat.fnConjugated
