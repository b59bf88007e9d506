/- Reading a number: the reference's walk. -/
import Derived.Test.YtomgcbfcnjbofaaGreatMgZB
import Derived.Test.YtomgcbfcnjbofaaGreatMgZA
import Derived.Test.YtomgcbfcnjbofaaGreatMgF
namespace Go.Proofs.YtomgcbfcnjbofaaGreat
open Go.RowKit
set_option linter.unusedSimpArgs false
set_option linter.unusedVariables false
set_option maxRecDepth 20000
theorem row_get {W:World} {B:Nat} {A:Option Addr} {n c:Nat} {ps:List ByteArray} (h:W.ownsRow B 9 1 (.slice A n c) n (ps.map Value.string)) (hn:0<n):∃ g,A=some ⟨g,0,none⟩∧g<W.heap.size∧B≤g∧∀ j p,ps[j]? = some p→W.cell? ⟨g,j,none⟩=some (.string p):=by
 rcases h.2 with ⟨e,rfl⟩ | ⟨g,cap,cur,e,h1,h2,h3,h4,h5⟩
 ·omega
 ·injection e with e1 e2 e3
  subst e1
  refine ⟨g,rfl,(Array.getElem?_eq_some_iff.1 h2).1,h1,fun j p hp=>?_⟩
  have:=h.cells (g:=g) rfl j (Value.string p) (by rw [List.getElem?_map,hp];rfl)
  rwa [Addr.add_lit,Nat.zero_add] at this
theorem row_cap {W:World} {B:Nat} {A:Option Addr} {n c:Nat} {xs:List Value} (h:W.ownsRow B 9 1 (.slice A n c) n xs):n≤c∧c≤9223372036854775807:=by
 rcases h.2 with ⟨e,rfl⟩ | ⟨g,cap,cur,e,_,_,h1,h2,_⟩
 ·injection e with _ _ e3;omega
 ·injection e with _ _ e3;unfold maxLen at h2;omega
theorem mem_pieces {x:UInt8}:∀ {L p:List UInt8},p∈piecesF x L→p.length≤L.length
 | [],p,h=>by
  rw [piecesF] at h
  rw [List.mem_singleton.1 h]
  exact Nat.le_refl _
 | c :: r,p,h=>by
  rw [piecesF] at h
  split at h
  ·rcases List.mem_cons.1 h with rfl | h
   ·exact Nat.zero_le _
   ·have:=mem_pieces h
    simp only [List.length_cons]
    omega
  ·split at h
   ·rename_i p0 q e
    have ih:=fun y (hy:y∈p0 :: q)=>mem_pieces (x:=x) (L:=r) (p:=y) (by rw [e];exact hy)
    rcases List.mem_cons.1 h with rfl | h
    ·have:=ih p0 (by simp)
     simp only [List.length_cons]
     omega
    ·have:=ih p (List.mem_cons_of_mem _ h)
     simp only [List.length_cons]
     omega
   ·rename_i e
    exact absurd e (piecesF_ne _ _)
theorem parS_ok {s:ByteArray} {N:Int} (hs:s≠ByteArray.empty) (h:preS s.data.toList=N) (hf:((fmtF N).toList == s.toList)=true):parF s=(N,true):=by
 have e:fmtF N=s:=bytes_ext (by rw [← ByteArray.toList_eq,← ByteArray.toList_eq];exact beq_iff_eq.1 hf)
 rw [parF_S hs,h,if_pos e]
theorem parS_no {s:ByteArray} {N:Int} (hs:s≠ByteArray.empty) (h:preS s.data.toList=N) (hf:((fmtF N).toList == s.toList)=false):parF s=(0,false):=by
 rw [parF_S hs,h,if_neg]
 intro e
 rw [e] at hf
 simp at hf
theorem parS_neg {s:ByteArray} (hs:s≠ByteArray.empty) (h:preS s.data.toList = -1):parF s=(0,false):=by
 rw [parF_S hs,h,if_neg]
 intro e
 rw [fmtF_bad (by omega)] at e
 exact hs e.symm
theorem preS_A {L:List UInt8} (h:L.head? = some 35):preS L=rdS (L.drop 1):=by
 unfold preS
 rw [if_pos h]
def fracP (sg:Int) (ps:List (List UInt8)):Int :=
 if rdS (ps.headD [])<0∨(if 1<ps.length then rdS (ps.getD 1 []) else 1)<0∨2<ps.length then -1 else fracF (sg*rdS (ps.headD [])) (if 1<ps.length then rdS (ps.getD 1 []) else 1)
theorem preS_B {L:List UInt8} (h:L.head? ≠ some 35) (h2:L.head? = some 45):preS L=fracP (-1) (piecesF 47 (L.drop 1)):=by
 unfold preS fracP
 simp only [if_neg h,if_pos h2]
theorem preS_C {L:List UInt8} (h:L.head? ≠ some 35) (h2:L.head? ≠ some 45):preS L=fracP 1 (piecesF 47 L):=by
 unfold preS fracP
 simp only [if_neg h,if_neg h2]
theorem fracP_one {sg:Int} {p:ByteArray}:fracP sg ([p].map (·.data.toList))=if rdS p.data.toList<0 then -1 else fracF (sg*rdS p.data.toList) 1:=by
 unfold fracP
 by_cases h:rdS p.data.toList<0
 ·rw [if_pos h,if_pos (.inl h)]
 ·rw [if_neg h,if_neg]
  ·rfl
  ·rintro (h1 | h1 | h1)
   ·exact h h1
   ·exact absurd (show (1:Int)<0 from h1) (by omega)
   ·revert h1;simp
theorem fracP_two {sg:Int} {p q:ByteArray}:fracP sg ([p,q].map (·.data.toList))=if rdS p.data.toList<0∨rdS q.data.toList<0 then -1 else fracF (sg*rdS p.data.toList) (rdS q.data.toList):=by
 unfold fracP
 by_cases h:rdS p.data.toList<0∨rdS q.data.toList<0
 ·rw [if_pos h,if_pos]
  rcases h with h | h
  ·exact .inl h
  ·exact .inr (.inl h)
 ·rw [if_neg h,if_neg]
  ·rfl
  ·rintro (h1 | h1 | h1)
   ·exact h (.inl h1)
   ·exact h (.inr h1)
   ·revert h1;simp
theorem fracP_many {sg:Int} {l:List (List UInt8)} (h:2<l.length):fracP sg l = -1:=by
 unfold fracP
 rw [if_pos (.inr (.inr h))]
set_option maxRecDepth 100000 in
set_option maxHeartbeats 4000000 in
theorem spec_ParseNumber (s:ByteArray) (w:World) (hs:s.size≤1048576) :
  Calls Tryz.prog 117 #[.string s] w fun e w'=>e = .returned (.tuple #[.int .i64 (parF s).1,.bool (parF s).2])∧Below w.heap.size w w':=by
 by_cases h0:s.size=0
 ·obtain rfl:s=ByteArray.empty:=bytes_ext (List.eq_nil_of_length_eq_zero (by rw [list_len];exact h0))
  have hF:=hide parF_empty
  clear h0 hs
  go_enter Tryz.func117,Tryz.ntmps117
  go_wp2_with fail
  refine bodyPost_ret (results_tmp2 rfl _ _ _) rfl ⟨by rw [hF.out];rfl,Below.refl _ _⟩
 ·have hp:0<s.size:=by omega
  have hne:s≠ByteArray.empty:=by rintro rfl;exact h0 rfl
  have hp':(0:Int)<s.size:=by omega
  have hp1:(1:Int)≤s.size:=by omega
  have hnil:(s.toList == [])=false:=by
   rw [ByteArray.toList_eq]
   cases e:s.data.toList with
   | nil=>exact absurd (by rw [← list_len,e];rfl) h0
   | cons c r=>rfl
  obtain ⟨c0,hc0⟩:∃ c,s[0]'hp=c:=⟨_,rfl⟩
  have hh:s.data.toList.head? = some c0:=by rw [head_get hp,hc0]
  by_cases h35:c0=35
  ·have hP:Hid (preS s.data.toList=rdS (s.data.toList.drop 1)):=preS_A (by rw [hh,h35])
   have hR:=hide (spec_l1Digits (s.extract 1 s.size) w (by rw [← list_len,ext_one,List.length_drop,list_len];omega))
   rw [ext_one] at hR
   obtain ⟨N,hN⟩:∃ N,rdS (s.data.toList.drop 1)=N:=⟨_,rfl⟩
   rw [hN] at hP hR
   have hbd:=rdS_bd (s.data.toList.drop 1)
   rw [hN] at hbd
   obtain ⟨hbd1,hbd2⟩:=hbd
   subst h35
   clear hh h0 hN
   go_enter Tryz.func117,Tryz.ntmps117
   go_wp2_with fail
   refine hR.out.mono ?_
   rintro e w' ⟨rfl,rfl⟩
   go_wp2_with fail
   cases hq:((fmtF (N)).toList == s.toList) with
   | true =>
    have hF:=hide (parS_ok hne hP.out hq)
    refine (spec_FormatNumber (N) _).mono ?_
    rintro e w9 ⟨rfl,bb1⟩
    have BB:=bb1
    go_wp2_with fail
    refine bodyPost_ret (results_tmp2 rfl _ _ _) rfl ⟨by rw [hF.out];rfl,BB⟩
   | false =>
    have hF:=hide (parS_no hne hP.out hq)
    refine (spec_FormatNumber (N) _).mono ?_
    rintro e w9 ⟨rfl,bb1⟩
    have BB:=bb1
    go_wp2_with fail
    refine bodyPost_ret (results_tmp2 rfl _ _ _) rfl ⟨by rw [hF.out];rfl,BB⟩
  ·have hx35:((c0.toNat:Int) == 35)=false:=by
    simp only [beq_eq_false_iff_ne,ne_eq]
    intro e
    exact h35 (UInt8.toNat_inj.1 (by show c0.toNat=35;omega))
   have hh35:s.data.toList.head? ≠ some 35:=by rw [hh];intro e;exact h35 (Option.some.inj e)
   by_cases h45:c0=45
   ·have hP:Hid (preS s.data.toList=fracP (-1) (piecesF 47 (s.extract 1 s.size).data.toList)):=by show _=_;rw [ext_one];exact preS_B hh35 (by rw [hh,h45])
    have hTs:(s.extract 1 s.size).size≤1048576:=by rw [← list_len,ext_one,List.length_drop,list_len];omega
    have hCut:=hide (spec_l1Cut (s.extract 1 s.size) 47 47 rfl w (by omega))
    subst h45
    clear hh h0 hh35 h35 hx35
    go_enter Tryz.func117,Tryz.ntmps117
    go_wp2_with fail
    refine hCut.out.mono ?_
    rintro e w1 ⟨A,n,c,ps,rfl,hown,hps,b1⟩
    rw [← hps.out] at hP
    have hcp:=row_cap hown.out
    obtain ⟨hcp1,hcp2⟩:=hcp
    have hln:ps.length=n:=by simpa using hown.out.1
    match ps,hps,hP,hln,hown with
    | [],hps,_,_,_=>exact absurd hps.out.symm (piecesF_ne _ _)
    | [p0],hps,hP,hln,hown =>
     obtain rfl:1=n:=hln
     obtain ⟨g,rfl,hg1,hg2,hcell⟩:=row_get hown.out (by omega)
     have hc00:=hcell 0 p0 rfl
     have hp0s:p0.size≤1048576:=by
      have hz:=mem_pieces (by rw [← hps.out];simp:p0.data.toList∈piecesF 47 (s.extract 1 s.size).data.toList)
      rw [list_len,list_len] at hz
      omega
     obtain ⟨a,ha⟩:∃ a,rdS p0.data.toList=a:=⟨_,rfl⟩
     have hab:=rdS_bd p0.data.toList
     have hR0:Hid (∀ v:World,Calls Tryz.prog 121 #[.string p0] v fun e w'=>e = .returned (.int .i64 a)∧v=w'):=fun v=>by have:=spec_l1Digits p0 v (by omega);rwa [ha] at this
     have hP1:=hP.out
     rw [fracP_one,ha] at hP1
     rw [ha] at hab
     obtain ⟨hab1,hab2⟩:=hab
     clear hP ha hcell hown hps hTs
     by_cases hn:a<0
     ·have hF:=hide (parS_neg hne (hP1.trans (if_pos hn)))
      clear hP1
      go_wp2_with fail
      refine (hR0.out _).mono ?_
      rintro e w' ⟨rfl,rfl⟩
      go_wp2_with fail
      refine bodyPost_ret (results_tmp2 rfl _ _ _) rfl ⟨by rw [hF.out];rfl,b1⟩
     ·have hP2:=hP1.trans (if_neg hn)
      have hP3:=hide hP2
      have hFr:=hide (spec_Fraction (-a) 1 w1 ⟨by omega,by omega⟩ ⟨by omega,by omega⟩)
      rw [show -1*a = -a by omega] at hP3
      generalize fracF (-a) 1=N at hP3 hFr
      clear hP1 hP2
      go_wp2_with fail
      refine (hR0.out _).mono ?_
      rintro e w' ⟨rfl,rfl⟩
      go_wp2_with fail
      refine hFr.out.mono ?_
      rintro e w' ⟨rfl,rfl⟩
      go_wp2_with fail
      cases hq:((fmtF (N)).toList == s.toList) with
      | true =>
       have hF:=hide (parS_ok hne hP3.out hq)
       refine (spec_FormatNumber (N) _).mono ?_
       rintro e w9 ⟨rfl,bb1⟩
       have BB:=b1.trans (bb1.mono b1.size)
       go_wp2_with fail
       refine bodyPost_ret (results_tmp2 rfl _ _ _) rfl ⟨by rw [hF.out];rfl,BB⟩
      | false =>
       have hF:=hide (parS_no hne hP3.out hq)
       refine (spec_FormatNumber (N) _).mono ?_
       rintro e w9 ⟨rfl,bb1⟩
       have BB:=b1.trans (bb1.mono b1.size)
       go_wp2_with fail
       refine bodyPost_ret (results_tmp2 rfl _ _ _) rfl ⟨by rw [hF.out];rfl,BB⟩
    | [p0,p1],hps,hP,hln,hown =>
     obtain rfl:2=n:=hln
     obtain ⟨g,rfl,hg1,hg2,hcell⟩:=row_get hown.out (by omega)
     have hc00:=hcell 0 p0 rfl
     have hc01:=hcell 1 p1 rfl
     have hp0s:p0.size≤1048576:=by
      have hz:=mem_pieces (by rw [← hps.out];simp:p0.data.toList∈piecesF 47 (s.extract 1 s.size).data.toList)
      rw [list_len,list_len] at hz
      omega
     have hp1s:p1.size≤1048576:=by
      have hz:=mem_pieces (by rw [← hps.out];simp:p1.data.toList∈piecesF 47 (s.extract 1 s.size).data.toList)
      rw [list_len,list_len] at hz
      omega
     obtain ⟨a,ha⟩:∃ a,rdS p0.data.toList=a:=⟨_,rfl⟩
     obtain ⟨b,hb⟩:∃ b,rdS p1.data.toList=b:=⟨_,rfl⟩
     have hab:=rdS_bd p0.data.toList
     have hbb:=rdS_bd p1.data.toList
     have hR0:Hid (∀ v:World,Calls Tryz.prog 121 #[.string p0] v fun e w'=>e = .returned (.int .i64 a)∧v=w'):=fun v=>by have:=spec_l1Digits p0 v (by omega);rwa [ha] at this
     have hR1:Hid (∀ v:World,Calls Tryz.prog 121 #[.string p1] v fun e w'=>e = .returned (.int .i64 b)∧v=w'):=fun v=>by have:=spec_l1Digits p1 v (by omega);rwa [hb] at this
     have hP1:=hP.out
     rw [fracP_two,ha,hb] at hP1
     rw [ha] at hab
     rw [hb] at hbb
     obtain ⟨hab1,hab2⟩:=hab
     obtain ⟨hbb1,hbb2⟩:=hbb
     clear hP ha hb hcell hown hps hTs
     by_cases hn:a<0
     ·have hF:=hide (parS_neg hne (hP1.trans (if_pos (.inl hn))))
      clear hP1
      go_wp2_with fail
      refine (hR0.out _).mono ?_
      rintro e w' ⟨rfl,rfl⟩
      go_wp2_with fail
      refine (hR1.out _).mono ?_
      rintro e w' ⟨rfl,rfl⟩
      go_wp2_with fail
      refine bodyPost_ret (results_tmp2 rfl _ _ _) rfl ⟨by rw [hF.out];rfl,b1⟩
     ·by_cases hn2:b<0
      ·have hF:=hide (parS_neg hne (hP1.trans (if_pos (.inr hn2))))
       clear hP1
       go_wp2_with fail
       refine (hR0.out _).mono ?_
       rintro e w' ⟨rfl,rfl⟩
       go_wp2_with fail
       refine (hR1.out _).mono ?_
       rintro e w' ⟨rfl,rfl⟩
       go_wp2_with fail
       refine bodyPost_ret (results_tmp2 rfl _ _ _) rfl ⟨by rw [hF.out];rfl,b1⟩
      ·have hP2:=hP1.trans (if_neg (by omega))
       have hP3:=hide hP2
       have hFr:=hide (spec_Fraction (-a) b w1 ⟨by omega,by omega⟩ ⟨by omega,by omega⟩)
       rw [show -1*a = -a by omega] at hP3
       generalize fracF (-a) b=N at hP3 hFr
       clear hP1 hP2
       go_wp2_with fail
       refine (hR0.out _).mono ?_
       rintro e w' ⟨rfl,rfl⟩
       go_wp2_with fail
       refine (hR1.out _).mono ?_
       rintro e w' ⟨rfl,rfl⟩
       go_wp2_with fail
       refine hFr.out.mono ?_
       rintro e w' ⟨rfl,rfl⟩
       go_wp2_with fail
       cases hq:((fmtF (N)).toList == s.toList) with
       | true =>
        have hF:=hide (parS_ok hne hP3.out hq)
        refine (spec_FormatNumber (N) _).mono ?_
        rintro e w9 ⟨rfl,bb1⟩
        have BB:=b1.trans (bb1.mono b1.size)
        go_wp2_with fail
        refine bodyPost_ret (results_tmp2 rfl _ _ _) rfl ⟨by rw [hF.out];rfl,BB⟩
       | false =>
        have hF:=hide (parS_no hne hP3.out hq)
        refine (spec_FormatNumber (N) _).mono ?_
        rintro e w9 ⟨rfl,bb1⟩
        have BB:=b1.trans (bb1.mono b1.size)
        go_wp2_with fail
        refine bodyPost_ret (results_tmp2 rfl _ _ _) rfl ⟨by rw [hF.out];rfl,BB⟩
    | p0 :: p1 :: p2 :: r,hps,hP,hln,hown =>
     have hn3:2<n:=by rw [← hln];simp
     have hn3':(2:Int)<n:=by omega
     obtain ⟨g,rfl,hg1,hg2,hcell⟩:=row_get hown.out (by omega)
     have hc00:=hcell 0 p0 rfl
     have hc01:=hcell 1 p1 rfl
     have hp0s:p0.size≤1048576:=by
      have hz:=mem_pieces (by rw [← hps.out];simp:p0.data.toList∈piecesF 47 (s.extract 1 s.size).data.toList)
      rw [list_len,list_len] at hz
      omega
     have hp1s:p1.size≤1048576:=by
      have hz:=mem_pieces (by rw [← hps.out];simp:p1.data.toList∈piecesF 47 (s.extract 1 s.size).data.toList)
      rw [list_len,list_len] at hz
      omega
     have hR0:=hide (fun v:World=>spec_l1Digits p0 v (by omega))
     have hR1:=hide (fun v:World=>spec_l1Digits p1 v (by omega))
     have hF:=hide (parS_neg hne (hP.out.trans (fracP_many (by simp))))
     generalize rdS p0.data.toList=a at hR0
     generalize rdS p1.data.toList=b at hR1
     clear hP hcell hown hps hTs hln
     by_cases hn:a<0
     ·go_wp2_with fail
      refine (hR0.out _).mono ?_
      rintro e w' ⟨rfl,rfl⟩
      go_wp2_with fail
      refine (hR1.out _).mono ?_
      rintro e w' ⟨rfl,rfl⟩
      go_wp2_with fail
      refine bodyPost_ret (results_tmp2 rfl _ _ _) rfl ⟨by rw [hF.out];rfl,b1⟩
     ·by_cases hn2:b<0
      ·go_wp2_with fail
       refine (hR0.out _).mono ?_
       rintro e w' ⟨rfl,rfl⟩
       go_wp2_with fail
       refine (hR1.out _).mono ?_
       rintro e w' ⟨rfl,rfl⟩
       go_wp2_with fail
       refine bodyPost_ret (results_tmp2 rfl _ _ _) rfl ⟨by rw [hF.out];rfl,b1⟩
      ·go_wp2_with fail
       refine (hR0.out _).mono ?_
       rintro e w' ⟨rfl,rfl⟩
       go_wp2_with fail
       refine (hR1.out _).mono ?_
       rintro e w' ⟨rfl,rfl⟩
       go_wp2_with fail
       refine bodyPost_ret (results_tmp2 rfl _ _ _) rfl ⟨by rw [hF.out];rfl,b1⟩
   ·have hx45:((c0.toNat:Int) == 45)=false:=by
     simp only [beq_eq_false_iff_ne,ne_eq]
     intro e
     exact h45 (UInt8.toNat_inj.1 (by show c0.toNat=45;omega))
    have hP:Hid (preS s.data.toList=fracP 1 (piecesF 47 s.data.toList)):=preS_C hh35 (by rw [hh];intro e;exact h45 (Option.some.inj e))
    have hTs:s.size≤1048576:=hs
    have hCut:=hide (spec_l1Cut s 47 47 rfl w (by omega))
    clear hh h0 hh35 h35 h45
    go_enter Tryz.func117,Tryz.ntmps117
    go_wp2_with fail
    refine hCut.out.mono ?_
    rintro e w1 ⟨A,n,c,ps,rfl,hown,hps,b1⟩
    rw [← hps.out] at hP
    have hcp:=row_cap hown.out
    obtain ⟨hcp1,hcp2⟩:=hcp
    have hln:ps.length=n:=by simpa using hown.out.1
    match ps,hps,hP,hln,hown with
    | [],hps,_,_,_=>exact absurd hps.out.symm (piecesF_ne _ _)
    | [p0],hps,hP,hln,hown =>
     obtain rfl:1=n:=hln
     obtain ⟨g,rfl,hg1,hg2,hcell⟩:=row_get hown.out (by omega)
     have hc00:=hcell 0 p0 rfl
     have hp0s:p0.size≤1048576:=by
      have hz:=mem_pieces (by rw [← hps.out];simp:p0.data.toList∈piecesF 47 s.data.toList)
      rw [list_len,list_len] at hz
      omega
     obtain ⟨a,ha⟩:∃ a,rdS p0.data.toList=a:=⟨_,rfl⟩
     have hab:=rdS_bd p0.data.toList
     have hR0:Hid (∀ v:World,Calls Tryz.prog 121 #[.string p0] v fun e w'=>e = .returned (.int .i64 a)∧v=w'):=fun v=>by have:=spec_l1Digits p0 v (by omega);rwa [ha] at this
     have hP1:=hP.out
     rw [fracP_one,ha] at hP1
     rw [ha] at hab
     obtain ⟨hab1,hab2⟩:=hab
     clear hP ha hcell hown hps hTs
     by_cases hn:a<0
     ·have hF:=hide (parS_neg hne (hP1.trans (if_pos hn)))
      clear hP1
      go_wp2_with fail
      refine (hR0.out _).mono ?_
      rintro e w' ⟨rfl,rfl⟩
      go_wp2_with fail
      refine bodyPost_ret (results_tmp2 rfl _ _ _) rfl ⟨by rw [hF.out];rfl,b1⟩
     ·have hP2:=hP1.trans (if_neg hn)
      have hP3:=hide hP2
      have hFr:=hide (spec_Fraction (a) 1 w1 ⟨by omega,by omega⟩ ⟨by omega,by omega⟩)
      rw [show 1*a=a by omega] at hP3
      generalize fracF (a) 1=N at hP3 hFr
      clear hP1 hP2
      go_wp2_with fail
      refine (hR0.out _).mono ?_
      rintro e w' ⟨rfl,rfl⟩
      go_wp2_with fail
      refine hFr.out.mono ?_
      rintro e w' ⟨rfl,rfl⟩
      go_wp2_with fail
      cases hq:((fmtF (N)).toList == s.toList) with
      | true =>
       have hF:=hide (parS_ok hne hP3.out hq)
       refine (spec_FormatNumber (N) _).mono ?_
       rintro e w9 ⟨rfl,bb1⟩
       have BB:=b1.trans (bb1.mono b1.size)
       go_wp2_with fail
       refine bodyPost_ret (results_tmp2 rfl _ _ _) rfl ⟨by rw [hF.out];rfl,BB⟩
      | false =>
       have hF:=hide (parS_no hne hP3.out hq)
       refine (spec_FormatNumber (N) _).mono ?_
       rintro e w9 ⟨rfl,bb1⟩
       have BB:=b1.trans (bb1.mono b1.size)
       go_wp2_with fail
       refine bodyPost_ret (results_tmp2 rfl _ _ _) rfl ⟨by rw [hF.out];rfl,BB⟩
    | [p0,p1],hps,hP,hln,hown =>
     obtain rfl:2=n:=hln
     obtain ⟨g,rfl,hg1,hg2,hcell⟩:=row_get hown.out (by omega)
     have hc00:=hcell 0 p0 rfl
     have hc01:=hcell 1 p1 rfl
     have hp0s:p0.size≤1048576:=by
      have hz:=mem_pieces (by rw [← hps.out];simp:p0.data.toList∈piecesF 47 s.data.toList)
      rw [list_len,list_len] at hz
      omega
     have hp1s:p1.size≤1048576:=by
      have hz:=mem_pieces (by rw [← hps.out];simp:p1.data.toList∈piecesF 47 s.data.toList)
      rw [list_len,list_len] at hz
      omega
     obtain ⟨a,ha⟩:∃ a,rdS p0.data.toList=a:=⟨_,rfl⟩
     obtain ⟨b,hb⟩:∃ b,rdS p1.data.toList=b:=⟨_,rfl⟩
     have hab:=rdS_bd p0.data.toList
     have hbb:=rdS_bd p1.data.toList
     have hR0:Hid (∀ v:World,Calls Tryz.prog 121 #[.string p0] v fun e w'=>e = .returned (.int .i64 a)∧v=w'):=fun v=>by have:=spec_l1Digits p0 v (by omega);rwa [ha] at this
     have hR1:Hid (∀ v:World,Calls Tryz.prog 121 #[.string p1] v fun e w'=>e = .returned (.int .i64 b)∧v=w'):=fun v=>by have:=spec_l1Digits p1 v (by omega);rwa [hb] at this
     have hP1:=hP.out
     rw [fracP_two,ha,hb] at hP1
     rw [ha] at hab
     rw [hb] at hbb
     obtain ⟨hab1,hab2⟩:=hab
     obtain ⟨hbb1,hbb2⟩:=hbb
     clear hP ha hb hcell hown hps hTs
     by_cases hn:a<0
     ·have hF:=hide (parS_neg hne (hP1.trans (if_pos (.inl hn))))
      clear hP1
      go_wp2_with fail
      refine (hR0.out _).mono ?_
      rintro e w' ⟨rfl,rfl⟩
      go_wp2_with fail
      refine (hR1.out _).mono ?_
      rintro e w' ⟨rfl,rfl⟩
      go_wp2_with fail
      refine bodyPost_ret (results_tmp2 rfl _ _ _) rfl ⟨by rw [hF.out];rfl,b1⟩
     ·by_cases hn2:b<0
      ·have hF:=hide (parS_neg hne (hP1.trans (if_pos (.inr hn2))))
       clear hP1
       go_wp2_with fail
       refine (hR0.out _).mono ?_
       rintro e w' ⟨rfl,rfl⟩
       go_wp2_with fail
       refine (hR1.out _).mono ?_
       rintro e w' ⟨rfl,rfl⟩
       go_wp2_with fail
       refine bodyPost_ret (results_tmp2 rfl _ _ _) rfl ⟨by rw [hF.out];rfl,b1⟩
      ·have hP2:=hP1.trans (if_neg (by omega))
       have hP3:=hide hP2
       have hFr:=hide (spec_Fraction (a) b w1 ⟨by omega,by omega⟩ ⟨by omega,by omega⟩)
       rw [show 1*a=a by omega] at hP3
       generalize fracF (a) b=N at hP3 hFr
       clear hP1 hP2
       go_wp2_with fail
       refine (hR0.out _).mono ?_
       rintro e w' ⟨rfl,rfl⟩
       go_wp2_with fail
       refine (hR1.out _).mono ?_
       rintro e w' ⟨rfl,rfl⟩
       go_wp2_with fail
       refine hFr.out.mono ?_
       rintro e w' ⟨rfl,rfl⟩
       go_wp2_with fail
       cases hq:((fmtF (N)).toList == s.toList) with
       | true =>
        have hF:=hide (parS_ok hne hP3.out hq)
        refine (spec_FormatNumber (N) _).mono ?_
        rintro e w9 ⟨rfl,bb1⟩
        have BB:=b1.trans (bb1.mono b1.size)
        go_wp2_with fail
        refine bodyPost_ret (results_tmp2 rfl _ _ _) rfl ⟨by rw [hF.out];rfl,BB⟩
       | false =>
        have hF:=hide (parS_no hne hP3.out hq)
        refine (spec_FormatNumber (N) _).mono ?_
        rintro e w9 ⟨rfl,bb1⟩
        have BB:=b1.trans (bb1.mono b1.size)
        go_wp2_with fail
        refine bodyPost_ret (results_tmp2 rfl _ _ _) rfl ⟨by rw [hF.out];rfl,BB⟩
    | p0 :: p1 :: p2 :: r,hps,hP,hln,hown =>
     have hn3:2<n:=by rw [← hln];simp
     have hn3':(2:Int)<n:=by omega
     obtain ⟨g,rfl,hg1,hg2,hcell⟩:=row_get hown.out (by omega)
     have hc00:=hcell 0 p0 rfl
     have hc01:=hcell 1 p1 rfl
     have hp0s:p0.size≤1048576:=by
      have hz:=mem_pieces (by rw [← hps.out];simp:p0.data.toList∈piecesF 47 s.data.toList)
      rw [list_len,list_len] at hz
      omega
     have hp1s:p1.size≤1048576:=by
      have hz:=mem_pieces (by rw [← hps.out];simp:p1.data.toList∈piecesF 47 s.data.toList)
      rw [list_len,list_len] at hz
      omega
     have hR0:=hide (fun v:World=>spec_l1Digits p0 v (by omega))
     have hR1:=hide (fun v:World=>spec_l1Digits p1 v (by omega))
     have hF:=hide (parS_neg hne (hP.out.trans (fracP_many (by simp))))
     generalize rdS p0.data.toList=a at hR0
     generalize rdS p1.data.toList=b at hR1
     clear hP hcell hown hps hTs hln
     by_cases hn:a<0
     ·go_wp2_with fail
      refine (hR0.out _).mono ?_
      rintro e w' ⟨rfl,rfl⟩
      go_wp2_with fail
      refine (hR1.out _).mono ?_
      rintro e w' ⟨rfl,rfl⟩
      go_wp2_with fail
      refine bodyPost_ret (results_tmp2 rfl _ _ _) rfl ⟨by rw [hF.out];rfl,b1⟩
     ·by_cases hn2:b<0
      ·go_wp2_with fail
       refine (hR0.out _).mono ?_
       rintro e w' ⟨rfl,rfl⟩
       go_wp2_with fail
       refine (hR1.out _).mono ?_
       rintro e w' ⟨rfl,rfl⟩
       go_wp2_with fail
       refine bodyPost_ret (results_tmp2 rfl _ _ _) rfl ⟨by rw [hF.out];rfl,b1⟩
      ·go_wp2_with fail
       refine (hR0.out _).mono ?_
       rintro e w' ⟨rfl,rfl⟩
       go_wp2_with fail
       refine (hR1.out _).mono ?_
       rintro e w' ⟨rfl,rfl⟩
       go_wp2_with fail
       refine bodyPost_ret (results_tmp2 rfl _ _ _) rfl ⟨by rw [hF.out];rfl,b1⟩
end Go.Proofs.YtomgcbfcnjbofaaGreat
/- The texts of rows of numbers and of paths: the walks. -/
namespace Go.Proofs.YtomgcbfcnjbofaaGreat
open Go.RowKit
set_option linter.unusedSimpArgs false
set_option linter.unusedVariables false
set_option maxRecDepth 20000
def numsB (l:List Int):ByteArray:=if allNumF l=true then joinB ⟨#[32]⟩ (l.map fmtF) else ⟨#[]⟩
theorem fmt_sizes (l:List Int):∀ x∈l.map fmtF,x.size≤11:=by
 intro x hx
 obtain ⟨m,_,rfl⟩:=List.mem_map.1 hx
 exact fmtF_size m
theorem numsB_size (l:List Int):(numsB l).size≤12*l.length:=by
 unfold numsB
 split
 ·have:=joinB_size ⟨#[32]⟩ 11 (l.map fmtF) (fmt_sizes l)
  rw [List.length_map] at this
  exact this
 ·exact Nat.zero_le _
theorem allNum_step {xs:List Int} {k:Nat} {x:Int} (hd:xs.drop k=x :: xs.drop (k+1)):allNumF (xs.drop k)=if isNumF x=true then allNumF (xs.drop (k+1)) else false:=by
 rw [hd,allNumF]
set_option maxRecDepth 100000 in
set_option maxHeartbeats 2000000 in
theorem spec_FormatNumbers (A0:Option Addr) (n c0:Nat) (xs:List Int) (lo hi:Nat) (w:World) (h:Ints w lo hi A0 n c0 xs) (hh:hi≤w.heap.size) (hn:n≤1048576) :
  Calls Tryz.prog 118 #[.slice A0 n c0] w fun e w'=>e = .returned (.string (numsB xs))∧Below w.heap.size w w':=by
 have hcp:=h.cap
 have hm:=h.max
 have hs3:(ByteArray.mk #[32]).size=1:=rfl
 go_enter Tryz.func118,Tryz.ntmps118
 go_wp2_with fail
 go_loopw [3,4] (fun sv i wr=>∃ (k:Nat) (s:ByteArray),k≤n∧i = .int .i64 k∧sv = .string s∧Hid (s=joinB ⟨#[32]⟩ ((xs.map fmtF).take k))∧s.size≤12582912∧Hid (allNumF xs=allNumF (xs.drop k))∧Hid (Below w.heap.size w wr))
  (fun _ i _=>n - (intOf i).toNat)
 case atStart=>exact ⟨0,⟨#[]⟩,by omega,rfl,rfl,rfl,Nat.zero_le _,rfl,Below.refl _ _⟩
 case round =>
  obtain ⟨k,s,hk,rfl,rfl,hs,hss,hall,hb⟩:=hrel
  by_cases hlt:k<n
  ·obtain ⟨ad,x,rfl,hc,hr,hd,hx⟩:=(h.below hb.out hh).at_ hlt
   have hI:=hide (spec_IsNumber x wr)
   cases hv:isNumF x with
   | false =>
    have hG:Hid (numsB xs=⟨#[]⟩):=if_neg (by rw [hall.out,allNum_step hd.out,hv];simp)
    have HB:=hb.out
    rw [hv] at hI
    clear hv hd hx hs hb
    go_wp2_with fail
    refine hI.out.mono ?_
    rintro e w' ⟨rfl,rfl⟩
    go_wp2_with fail
    go_ret
    exact ⟨by rw [hG.out];rfl,HB⟩
   | true =>
    have hall2:Hid (allNumF xs=allNumF (xs.drop (k+1))):=by show _=_;rw [hall.out,allNum_step hd.out,hv];rfl
    rw [hv] at hI
    have hxm:(xs.map fmtF)[k]? = some (fmtF x):=by rw [List.getElem?_map,hx.out];rfl
    have hs2:=fmtF_size x
    have hsz:=hb.out.size
    have hS:=hide (spec_FormatNumber x wr)
    have hnS:(joinB ⟨#[32]⟩ ((xs.map fmtF).take (k+1))).size≤12582912:=by
     refine Nat.le_trans (joinB_take_le ⟨#[32]⟩ _ 11 (fmt_sizes xs) _) ?_
     rw [List.length_map,h.len]
     show (11+1)*n≤_
     omega
    have HN:=hide hnS
    by_cases h0:k=0
    ·have hS1:Hid (s++fmtF x=joinB ⟨#[32]⟩ ((xs.map fmtF).take (k+1))):=by
      show _=_
      subst h0
      rw [joinB_take0 _ _ hxm,hs.out,List.take_zero,joinB_nil]
      exact nil_app _
     have hnk:¬ (0<k):=by omega
     clear hv hd hx hs h0 hxm hnS hr
     go_wp2_with fail
     refine hI.out.mono ?_
     rintro e w' ⟨rfl,rfl⟩
     go_wp2_with fail
     refine hS.out.mono ?_
     rintro e w2 ⟨rfl,bF⟩
     have HB:Hid (Below w.heap.size w w2):=hb.out.trans (bF.mono hsz)
     clear bF hb hS
     go_wp2_with fail
     go_roundw
     case rel=>exact ⟨k+1,_,by omega,by go_num,rfl,hS1,by rw [hS1.out];exact HN.out,hall2,HB⟩
     case measure=>simp [intOf];omega
    ·have hS1:Hid (s++⟨#[32]⟩++fmtF x=joinB ⟨#[32]⟩ ((xs.map fmtF).take (k+1))):=by
      show _=_
      rw [joinB_take _ _ _ hxm (by omega),← hs.out]
     have hnk:0<k:=by omega
     clear hv hd hx hs h0 hxm hnS hr
     go_wp2_with fail
     refine hI.out.mono ?_
     rintro e w' ⟨rfl,rfl⟩
     go_wp2_with fail
     refine hS.out.mono ?_
     rintro e w2 ⟨rfl,bF⟩
     have HB:Hid (Below w.heap.size w w2):=hb.out.trans (bF.mono hsz)
     clear bF hb hS
     go_wp2_with fail
     go_roundw
     case rel=>exact ⟨k+1,_,by omega,by go_num,rfl,hS1,by rw [hS1.out];exact HN.out,hall2,HB⟩
     case measure=>simp [intOf];omega
  ·obtain rfl:k=n:=by omega
   have hl:xs.length=k:=h.len
   have he:=h.drop_end
   have hG:Hid (numsB xs=s):=by
    show _=_
    rw [numsB,if_pos (by rw [hall.out,he.out];rfl),hs.out,List.take_of_length_le (by simp;omega)]
   have hB:=hb.out
   clear hs hb
   go_wp2_with fail
   go_ret
   exact ⟨by rw [hG.out];rfl,hB⟩
end Go.Proofs.YtomgcbfcnjbofaaGreat
