/- The texts of numbers: the walks of the program's and of the reference's text. -/
import Derived.Test.YtomgcbfcnjbofaaGreatMgZ
import Derived.Test.YtomgcbfcnjbofaaGreatMgB
import Derived.Laws.Runes
import Derived.Laws.Concat
import Derived.Laws.BytesArg
import Derived.Test.YtomgcbfcnjbofaaGreatMgA
namespace Go.Proofs.YtomgcbfcnjbofaaGreat
open Go.RowKit
set_option linter.unusedSimpArgs false
set_option linter.unusedVariables false
set_option maxRecDepth 20000
theorem res_nat {n:Int} {b:Nat} {A:Int} (h0:0≤n) (hA:A=n*b % 1000000271):n.toNat*b % 1000000271=A.toNat:=by
 have e:((n.toNat*b % 1000000271:Nat):Int)=A:=by
  rw [Int.natCast_emod,Int.natCast_mul,Int.toNat_of_nonneg h0,hA]
  rfl
 omega
theorem nil_app (s:ByteArray):(⟨#[]⟩:ByteArray)++s=s:=bytes_ext (by rw [append_data];rfl)
theorem app_nil (s:ByteArray):s++(⟨#[]⟩:ByteArray)=s:=bytes_ext (by rw [append_data];simp)
theorem app_assoc (a b c:ByteArray):a++b++c=a++(b++c):=bytes_ext (by rw [append_data,append_data,append_data,append_data,List.append_assoc])
section
variable {n:Int} {b:Nat} {A:Int}
theorem fmt_pos1 (h0:0≤n) (hA:A=n*b % 1000000271) (hb9:b≤9999) (h:A≤9999) (hb:b=1):fmtFrom n.toNat b=decB A.toNat:=by
 refine fmtFrom_some hb9 ?_
 rw [fracTx,res_nat h0 hA,if_pos (by omega),slashB,if_pos hb]
 congr 1
 exact app_nil _
theorem fmt_pos2 (h0:0≤n) (hA:A=n*b % 1000000271) (hb9:b≤9999) (h:A≤9999) (hb:¬ b=1):fmtFrom n.toNat b=decB A.toNat++⟨#[47]⟩++decB b:=by
 refine fmtFrom_some hb9 ?_
 rw [fracTx,res_nat h0 hA,if_pos (by omega),slashB,if_neg hb,app_assoc]
theorem fmt_neg1 (h0:0≤n) (hA:A=n*b % 1000000271) (hb9:b≤9999) (h:999990272≤A) (hb:b=1):fmtFrom n.toNat b=⟨#[45]⟩++decB (1000000271 - A).toNat:=by
 refine fmtFrom_some hb9 ?_
 have hl:A<1000000271:=by rw [hA];exact Int.emod_lt_of_pos _ (by omega)
 rw [fracTx,res_nat h0 hA,if_neg (by omega),if_pos (by omega),slashB,if_pos hb,show (1000000271 - A).toNat=1000000271 - A.toNat by omega]
 congr 1
 exact app_nil _
theorem fmt_neg2 (h0:0≤n) (hA:A=n*b % 1000000271) (hb9:b≤9999) (h:999990272≤A) (hb:¬ b=1):fmtFrom n.toNat b=⟨#[45]⟩++decB (1000000271 - A).toNat++⟨#[47]⟩++decB b:=by
 refine fmtFrom_some hb9 ?_
 have hl:A<1000000271:=by rw [hA];exact Int.emod_lt_of_pos _ (by omega)
 rw [fracTx,res_nat h0 hA,if_neg (by omega),if_pos (by omega),slashB,if_neg hb,show (1000000271 - A).toNat=1000000271 - A.toNat by omega,app_assoc,app_assoc,app_assoc]
theorem fmt_next (h0:0≤n) (hA:A=n*b % 1000000271) (hb9:b≤9999) (h:9999<A) (h2:A<999990272):fmtFrom n.toNat b=fmtFrom n.toNat (b+1):=by
 refine fmtFrom_none hb9 ?_
 rw [fracTx,res_nat h0 hA,if_neg (by omega),if_neg (by omega)]
theorem fmt_last:fmtFrom n.toNat 10000=⟨#[35]⟩++decB n.toNat:=fmtFrom_end (by omega)
end
theorem u8_dig {k:Int} (h0:0≤k) (h:k<10):UInt8.ofNat (48+k).toNat=UInt8.ofNat (48+k.toNat):=by
 rw [show (48+k).toNat=48+k.toNat by omega]
theorem conv_dig (w:World) (d:Int) (h0:0≤d) (h:d<10) :
  ∀ dst,Tryz.prog.underlying dst=some .string→(convert 22 dst (.slice (some ⟨w.heap.size,0,none⟩) 1 1)).run Tryz.prog (w.alloc (.cells #[.int .u8 (48+d)] 5)) = .ok (.string (dgB d.toNat)) (w.alloc (.cells #[.int .u8 (48+d)] 5)):=by
 intro dst hd
 have e:dgB d.toNat=strOfNums [48+d]:=by
  show (⟨#[UInt8.ofNat (48+d.toNat)]⟩:ByteArray)=⟨#[UInt8.ofNat (48+d).toNat]⟩
  rw [u8_dig h0 h]
 rw [e]
 refine run_convert_bytes_arg (P:=Tryz.prog) _ 22 5 Tryz.underlying22 Tryz.underlying5 _ 0 1 1 [48+d] rfl ?_ dst hd
 intro i hi
 obtain rfl:i=0:=by omega
 simp
def decI (n:Int):ByteArray:=if n<0 then ⟨#[45]⟩++decB (-n).toNat else decB n.toNat
set_option maxHeartbeats 1000000 in
theorem spec_l1Decimal_pos (n:Int) (w:World) (h0:0≤n) (h1:n<1000000000000000000) :
  Calls Tryz.prog 91 #[.int .i64 n] w fun e w'=>e = .returned (.string (decI n))∧Below w.heap.size w w':=by
 obtain ⟨N,hN⟩:∃ N,n=N:=⟨_,rfl⟩
 have hN0:0≤N∧N<1000000000000000000:=by omega
 obtain ⟨hNa,hNb⟩:=hN0
 have hsz:(decB N.toNat).size≤18:=decB_size_le 17 _ (by omega)
 have hd4:(ByteArray.mk #[]).size=0:=rfl
 have hd2:(ByteArray.mk #[45]).size=1:=rfl
 go_enter Tryz.func91,Tryz.ntmps91
 go_wp2_with fail
 go_loopw [3,4] (fun sv kv wr=>∃ (k:Int) (s:ByteArray),0≤k∧k≤N∧kv = .int .i64 k∧sv = .string s∧Below w.heap.size w wr∧Hid ((0<k→decB k.toNat++s=decB N.toNat)∧(k=0→0<N→s=decB N.toNat)∧(k=0→s.size≤18))) (fun _ kv _=>(intOf kv).toNat)
 case atStart=>exact ⟨N,⟨#[]⟩,hNa,Int.le_refl _,rfl,rfl,Below.refl _ _,fun _=>app_nil _,fun h1 h2=>absurd h1 (by omega),fun _=>Nat.zero_le _⟩
 case round =>
  obtain ⟨k,s,hk0,hkN,rfl,rfl,hb,hs⟩:=hrel
  by_cases hk:0<k
  ·have hc:=conv_dig wr (k % 10) (by omega) (by omega)
   have hss:s.size≤17:=by
    have:=congrArg ByteArray.size (hs.out.1 hk)
    have h2:=decB_pos k.toNat
    rw [ByteArray.size_append] at this
    omega
   have hdd:(dgB (k % 10).toNat).size=1:=rfl
   have hs2:Hid ((0<k / 10→decB (k / 10).toNat++(dgB (k % 10).toNat++s)=decB N.toNat)∧(k / 10=0→0<N→dgB (k % 10).toNat++s=decB N.toNat)∧(k / 10=0→(dgB (k % 10).toNat++s).size≤18)):=by
    refine ⟨fun h=>?_,fun h _=>?_,fun _=>?_⟩
    ·rw [← hs.out.1 hk,decB_big (n:=k.toNat) (by omega),show k.toNat / 10=(k / 10).toNat by omega,show k.toNat % 10=(k % 10).toNat by omega,app_assoc]
    ·rw [← hs.out.1 hk,decB_small (n:=k.toNat) (by omega),show (k % 10).toNat=k.toNat by omega]
    ·rw [ByteArray.size_append];omega
   have hb2:=hb.trans ((below_alloc wr (.cells #[.int .u8 (48+k % 10)] 5)).mono hb.size)
   clear hs hb
   go_wp2_with fail
   go_roundw
   case rel=>exact ⟨k / 10,_,by omega,by omega,rfl,rfl,hb2,hs2⟩
   case measure=>simp [intOf];omega
  ·obtain rfl:k=0:=by omega
   have hss:s.size≤18:=hs.out.2.2 rfl
   have hF:Hid (0<N→s=decB n.toNat):=fun h=>by rw [hs.out.2.1 rfl h,← hN]
   subst hN
   by_cases hz:n=0
   ·subst hz
    clear hs
    go_wp2_with fail
    go_ret
    exact ⟨by rw [decI,if_neg (by omega),show (0:Int).toNat=0 from rfl,decB_small (by omega)];rfl,hb⟩
   ·have hFs:=hide (hF.out (by omega))
    have hG:Hid (decI n=s):=by show _=_;rw [decI,if_neg (by omega),hFs.out]
    clear hs
    go_wp2_with fail
    go_ret
    exact ⟨by rw [hG.out];rfl,hb⟩
set_option maxHeartbeats 1000000 in
theorem spec_l1Decimal_neg (n:Int) (w:World) (h0:n<0) (h1 : -1000000000000000000<n) :
  Calls Tryz.prog 91 #[.int .i64 n] w fun e w'=>e = .returned (.string (decI n))∧Below w.heap.size w w':=by
 obtain ⟨N,hN⟩:∃ N,-n=N:=⟨_,rfl⟩
 have hN0:0≤N∧N<1000000000000000000:=by omega
 obtain ⟨hNa,hNb⟩:=hN0
 have hsz:(decB N.toNat).size≤18:=decB_size_le 17 _ (by omega)
 have hd4:(ByteArray.mk #[]).size=0:=rfl
 have hd2:(ByteArray.mk #[45]).size=1:=rfl
 go_enter Tryz.func91,Tryz.ntmps91
 go_wp2_with fail
 go_loopw [3,4] (fun sv kv wr=>∃ (k:Int) (s:ByteArray),0≤k∧k≤N∧kv = .int .i64 k∧sv = .string s∧Below w.heap.size w wr∧Hid ((0<k→decB k.toNat++s=decB N.toNat)∧(k=0→0<N→s=decB N.toNat)∧(k=0→s.size≤18))) (fun _ kv _=>(intOf kv).toNat)
 case atStart=>exact ⟨N,⟨#[]⟩,hNa,Int.le_refl _,rfl,rfl,Below.refl _ _,fun _=>app_nil _,fun h1 h2=>absurd h1 (by omega),fun _=>Nat.zero_le _⟩
 case round =>
  obtain ⟨k,s,hk0,hkN,rfl,rfl,hb,hs⟩:=hrel
  by_cases hk:0<k
  ·have hc:=conv_dig wr (k % 10) (by omega) (by omega)
   have hss:s.size≤17:=by
    have:=congrArg ByteArray.size (hs.out.1 hk)
    have h2:=decB_pos k.toNat
    rw [ByteArray.size_append] at this
    omega
   have hdd:(dgB (k % 10).toNat).size=1:=rfl
   have hs2:Hid ((0<k / 10→decB (k / 10).toNat++(dgB (k % 10).toNat++s)=decB N.toNat)∧(k / 10=0→0<N→dgB (k % 10).toNat++s=decB N.toNat)∧(k / 10=0→(dgB (k % 10).toNat++s).size≤18)):=by
    refine ⟨fun h=>?_,fun h _=>?_,fun _=>?_⟩
    ·rw [← hs.out.1 hk,decB_big (n:=k.toNat) (by omega),show k.toNat / 10=(k / 10).toNat by omega,show k.toNat % 10=(k % 10).toNat by omega,app_assoc]
    ·rw [← hs.out.1 hk,decB_small (n:=k.toNat) (by omega),show (k % 10).toNat=k.toNat by omega]
    ·rw [ByteArray.size_append];omega
   have hb2:=hb.trans ((below_alloc wr (.cells #[.int .u8 (48+k % 10)] 5)).mono hb.size)
   clear hs hb
   go_wp2_with fail
   go_roundw
   case rel=>exact ⟨k / 10,_,by omega,by omega,rfl,rfl,hb2,hs2⟩
   case measure=>simp [intOf];omega
  ·obtain rfl:k=0:=by omega
   have hss:s.size≤18:=hs.out.2.2 rfl
   have hFs:=hide (hs.out.2.1 rfl (by omega))
   have hG:Hid (decI n=⟨#[45]⟩++s):=by show _=_;rw [decI,if_pos (by omega),hFs.out,hN]
   clear hs
   go_wp2_with fail
   go_ret
   exact ⟨by rw [hG.out];rfl,hb⟩
theorem spec_l1Decimal (n:Int) (w:World) (h0 : -1000000000000000000<n) (h1:n<1000000000000000000) :
  Calls Tryz.prog 91 #[.int .i64 n] w fun e w'=>e = .returned (.string (decI n))∧Below w.heap.size w w':=by
 by_cases h:n<0
 ·exact spec_l1Decimal_neg n w h h0
 ·exact spec_l1Decimal_pos n w (by omega) h1
theorem decI_nn {n:Int} (h:0≤n):decI n=decB n.toNat:=if_neg (by omega)
theorem decI_neg {A:Int} (h:A<1000000271):decI (A - 1000000271)=⟨#[45]⟩++decB (1000000271 - A).toNat:=by
 rw [decI,if_pos (by omega),show (-(A - 1000000271)).toNat=(1000000271 - A).toNat by omega]
set_option maxHeartbeats 1000000 in
theorem spec_FormatNumber (n:Int) (w:World) :
  Calls Tryz.prog 122 #[.int .i64 n] w fun e w'=>e = .returned (.string (fmtF n))∧Below w.heap.size w w':=by
 cases hv:isNumF n with
 | false =>
  have hF:Hid (fmtF n=⟨#[]⟩):=if_neg (fun h=>by rw [(isNumF_iff n).2 h] at hv;cases hv)
  go_enter Tryz.func122,Tryz.ntmps122
  go_wp2_with (go_at_call 98;refine (spec_IsNumber _ _).mono ?_;rintro e w' ⟨rfl,rfl⟩)
  go_ret
  exact ⟨by rw [hF.out];rfl,Below.refl _ _⟩
 | true =>
  obtain ⟨h0,h1⟩:=(isNumF_iff n).1 hv
  have hF:Hid (fmtF n=fmtFrom n.toNat 1):=if_pos ⟨h0,h1⟩
  have hlast:=hide (fmt_last (n:=n))
  have hD:(decB n.toNat).size≤10:=decB_size_le 9 _ (by omega)
  have hd:(ByteArray.mk #[35]).size=1:=rfl
  have hd2:(ByteArray.mk #[45]).size=1:=rfl
  have hd3:(ByteArray.mk #[47]).size=1:=rfl
  have hnr:R64 n:=⟨by omega,by omega⟩
  have hnI:=hide (decI_nn h0)
  go_enter Tryz.func122,Tryz.ntmps122
  go_wp2_with (go_at_call 98;refine (spec_IsNumber _ _).mono ?_;rintro e w' ⟨rfl,rfl⟩)
  go_loop [3,4] (fun i a=>∃ (b:Nat),1≤b∧b≤10000∧i = .int .i64 b∧Hid (fmtF n=fmtFrom n.toNat b)) (fun i _=>10001 - (intOf i).toNat)
  case atStart=>exact ⟨1,by omega,by omega,rfl,hF⟩
  case round =>
   obtain ⟨b,hb1,hb2,rfl,hFb⟩:=hrel
   by_cases hb9:b≤9999
   ·obtain ⟨A,hA⟩:∃ A,timesF n b=A:=⟨_,rfl⟩
    have hAn:Hid (A=n*b % 1000000271):=hA.symm
    have hA0:0≤A∧A<1000000271:=by rw [← hA];exact timesF_bd _ _
    obtain ⟨hA1,hA2⟩:=hA0
    have hbr:R64 (b:Int):=⟨by omega,by omega⟩
    have hbs:(decB b).size≤4:=decB_size_le 3 _ (by omega)
    have hIb:Hid (decI (b:Int)=decB b):=decI_nn (by omega)
    have hTm:=hide (spec_Times n b w hnr hbr)
    rw [hA] at hTm
    by_cases hpos:A≤9999
    ·have hAs:(decB A.toNat).size≤4:=decB_size_le 3 _ (by omega)
     have hI:=hide (decI_nn hA1)
     by_cases hb:b=1
     ·have hF3:=hide (fmt_pos1 h0 hAn.out hb9 hpos hb)
      have hbh:=hide hb
      clear hb
      go_wp2_with fail
      refine hTm.out.mono ?_
      rintro e w' ⟨rfl,rfl⟩
      have hb:=hbh.out
      go_wp2_with fail
      refine (spec_l1Decimal (A) _ (by omega) (by omega)).mono ?_
      rintro e w1 ⟨rfl,bb1⟩
      rw [hI.out]
      go_wp2_with fail
      go_ret
      exact ⟨by rw [hFb.out,hF3.out];rfl,bb1⟩
     ·have hF3:=hide (fmt_pos2 h0 hAn.out hb9 hpos hb)
      go_wp2_with fail
      refine hTm.out.mono ?_
      rintro e w' ⟨rfl,rfl⟩
      go_wp2_with fail
      refine (spec_l1Decimal (A) _ (by omega) (by omega)).mono ?_
      rintro e w1 ⟨rfl,bb1⟩
      rw [hI.out]
      go_wp2_with fail
      refine (spec_l1Decimal (b:Int) _ (by omega) (by omega)).mono ?_
      rintro e w2 ⟨rfl,bb2⟩
      have bb3:=bb1.trans (bb2.mono bb1.size)
      rw [hIb.out]
      go_wp2_with fail
      go_ret
      exact ⟨by rw [hFb.out,hF3.out];rfl,bb3⟩
    ·by_cases hneg:999990272≤A
     ·have hAs:(decB (1000000271 - A).toNat).size≤4:=decB_size_le 3 _ (by omega)
      have hI:=hide (decI_neg hA2)
      by_cases hb:b=1
      ·have hF3:=hide (fmt_neg1 h0 hAn.out hb9 hneg hb)
       have hbh:=hide hb
       clear hb
       go_wp2_with fail
       refine hTm.out.mono ?_
       rintro e w' ⟨rfl,rfl⟩
       have hb:=hbh.out
       go_wp2_with fail
       refine (spec_l1Decimal (A - 1000000271) _ (by omega) (by omega)).mono ?_
       rintro e w1 ⟨rfl,bb1⟩
       rw [hI.out]
       go_wp2_with fail
       go_ret
       exact ⟨by rw [hFb.out,hF3.out];rfl,bb1⟩
      ·have hF3:=hide (fmt_neg2 h0 hAn.out hb9 hneg hb)
       go_wp2_with fail
       refine hTm.out.mono ?_
       rintro e w' ⟨rfl,rfl⟩
       go_wp2_with fail
       refine (spec_l1Decimal (A - 1000000271) _ (by omega) (by omega)).mono ?_
       rintro e w1 ⟨rfl,bb1⟩
       rw [hI.out]
       go_wp2_with fail
       refine (spec_l1Decimal (b:Int) _ (by omega) (by omega)).mono ?_
       rintro e w2 ⟨rfl,bb2⟩
       have bb3:=bb1.trans (bb2.mono bb1.size)
       rw [hIb.out]
       go_wp2_with fail
       go_ret
       exact ⟨by rw [hFb.out,hF3.out];rfl,bb3⟩
     ·have hF3:Hid (fmtF n=fmtFrom n.toNat (b+1)):=hFb.out.trans (fmt_next h0 hAn.out hb9 (by omega) (by omega))
      go_wp2_with fail
      refine hTm.out.mono ?_
      rintro e w' ⟨rfl,rfl⟩
      go_wp2_with fail
      go_round
      case rel=>exact ⟨b+1,by omega,by omega,by go_num,hF3⟩
      case measure=>simp [intOf];omega
   ·obtain rfl:b=10000:=by omega
    go_wp2_with fail
    refine (spec_l1Decimal n _ (by omega) (by omega)).mono ?_
    rintro e w1 ⟨rfl,bb1⟩
    rw [hnI.out]
    go_wp2_with fail
    go_ret
    exact ⟨by rw [hFb.out,hlast.out];rfl,bb1⟩
end Go.Proofs.YtomgcbfcnjbofaaGreat
/- Rows of strings of the call's own, and joining them. -/
namespace Go.Proofs.YtomgcbfcnjbofaaGreat
open Go.RowKit
set_option linter.unusedSimpArgs false
set_option linter.unusedVariables false
set_option maxRecDepth 20000
theorem info_str:(Tryz.prog.info? 9).map (fun i=>(i.zero,i.size,i.bytes))=some (some (.string ByteArray.empty),1,16):=by kernel_rfl
end Go.Proofs.YtomgcbfcnjbofaaGreat
