/- Known tableaus by their names: the reference's walk. -/
import Derived.Test.YtomgcbfcnjbofaaGreatDtH
import Derived.Test.YtomgcbfcnjbofaaGreatMgY
namespace Go.Proofs.YtomgcbfcnjbofaaGreat
open Go.RowKit
open Nat renaming le_refl → lR
set_option linter.unusedSimpArgs false
set_option linter.unusedVariables false
set_option maxRecDepth 20000
def textF (nm:ByteArray):ByteArray:=if (nm.toList == [101,117,108,101,114])=true then ⟨#[48,32,124,32,49]⟩ else if (nm.toList == [98,97,99,107,119,97,114,100])=true then ⟨#[49,32,124,32,49]⟩ else if (nm.toList == [109,105,100,100,108,101])=true then ⟨#[49,47,50,32,124,32,49]⟩ else if (nm.toList == [109,105,100,112,111,105,110,116])=true then ⟨#[48,32,48,32,124,32,49,47,50,32,48,32,124,32,48,32,49]⟩ else if (nm.toList == [104,101,117,110])=true then ⟨#[48,32,48,32,124,32,49,32,48,32,124,32,49,47,50,32,49,47,50]⟩ else if (nm.toList == [107,117,116,116,97])=true then ⟨#[48,32,48,32,48,32,124,32,49,47,50,32,48,32,48,32,124,32,45,49,32,50,32,48,32,124,32,49,47,54,32,50,47,51,32,49,47,54]⟩ else if (nm.toList == [99,108,97,115,115,105,99])=true then ⟨#[48,32,48,32,48,32,48,32,124,32,49,47,50,32,48,32,48,32,48,32,124,32,48,32,49,47,50,32,48,32,48,32,124,32,48,32,48,32,49,32,48,32,124,32,49,47,54,32,49,47,51,32,49,47,51,32,49,47,54]⟩ else if (nm.toList == [101,105,103,104,116,104,115])=true then ⟨#[48,32,48,32,48,32,48,32,124,32,49,47,51,32,48,32,48,32,48,32,124,32,45,49,47,51,32,49,32,48,32,48,32,124,32,49,32,45,49,32,49,32,48,32,124,32,49,47,56,32,51,47,56,32,51,47,56,32,49,47,56]⟩ else if (nm.toList == [112,97,105,114])=true then ⟨#[48,32,48,32,124,32,49,47,50,32,49,47,50,32,124,32,49,47,50,32,49,47,50]⟩ else ⟨#[]⟩
theorem text_cases (nm:ByteArray):textF nm=⟨#[]⟩∨textF nm=⟨#[48,32,124,32,49]⟩∨textF nm=⟨#[49,32,124,32,49]⟩∨textF nm=⟨#[49,47,50,32,124,32,49]⟩∨textF nm=⟨#[48,32,48,32,124,32,49,47,50,32,48,32,124,32,48,32,49]⟩∨textF nm=⟨#[48,32,48,32,124,32,49,32,48,32,124,32,49,47,50,32,49,47,50]⟩∨textF nm=⟨#[48,32,48,32,48,32,124,32,49,47,50,32,48,32,48,32,124,32,45,49,32,50,32,48,32,124,32,49,47,54,32,50,47,51,32,49,47,54]⟩∨textF nm=⟨#[48,32,48,32,48,32,48,32,124,32,49,47,50,32,48,32,48,32,48,32,124,32,48,32,49,47,50,32,48,32,48,32,124,32,48,32,48,32,49,32,48,32,124,32,49,47,54,32,49,47,51,32,49,47,51,32,49,47,54]⟩∨textF nm=⟨#[48,32,48,32,48,32,48,32,124,32,49,47,51,32,48,32,48,32,48,32,124,32,45,49,47,51,32,49,32,48,32,48,32,124,32,49,32,45,49,32,49,32,48,32,124,32,49,47,56,32,51,47,56,32,51,47,56,32,49,47,56]⟩∨textF nm=⟨#[48,32,48,32,124,32,49,47,50,32,49,47,50,32,124,32,49,47,50,32,49,47,50]⟩:=by
 unfold textF
 repeat' split
 all_goals simp
theorem text_ok {nm:ByteArray} (h:((textF nm).toList == [])=false):(textF nm).size≤100∧((textF nm).toList == [110,111,110,101])=false:=by
 rcases text_cases nm with e | e | e | e | e | e | e | e | e | e <;> rw [e] at h ⊢
 ·exact absurd h (by rw [ByteArray.toList_eq];decide)
 all_goals (rw [ByteArray.toList_eq];decide)
set_option maxRecDepth 100000 in
set_option maxHeartbeats 2000000 in
theorem spec_l7TextA (nm:ByteArray) (w:World):Calls Tryz.prog 89 #[.string nm] w fun e w'=>e = .returned (.string (textF nm))∧w=w':=by
 go_enter Tryz.func89,Tryz.ntmps89
 cases h0:(nm.toList == [101,117,108,101,114]) with
 | true =>
  have hF:Hid (textF nm=⟨#[48,32,124,32,49]⟩):=by show _=_;unfold textF;rw [if_pos h0]
  go_wp2_with fail
  go_ret
  exact ⟨by rw [hF.out];rfl,rfl⟩
 | false =>
  cases h1:(nm.toList == [98,97,99,107,119,97,114,100]) with
  | true =>
   have hF:Hid (textF nm=⟨#[49,32,124,32,49]⟩):=by show _=_;unfold textF;rw [if_neg (by rw [h0];decide),if_pos h1]
   go_wp2_with fail
   go_ret
   exact ⟨by rw [hF.out];rfl,rfl⟩
  | false =>
   cases h2:(nm.toList == [109,105,100,100,108,101]) with
   | true =>
    have hF:Hid (textF nm=⟨#[49,47,50,32,124,32,49]⟩):=by show _=_;unfold textF;rw [if_neg (by rw [h0];decide),if_neg (by rw [h1];decide),if_pos h2]
    go_wp2_with fail
    go_ret
    exact ⟨by rw [hF.out];rfl,rfl⟩
   | false =>
    cases h3:(nm.toList == [109,105,100,112,111,105,110,116]) with
    | true =>
     have hF:Hid (textF nm=⟨#[48,32,48,32,124,32,49,47,50,32,48,32,124,32,48,32,49]⟩):=by show _=_;unfold textF;rw [if_neg (by rw [h0];decide),if_neg (by rw [h1];decide),if_neg (by rw [h2];decide),if_pos h3]
     go_wp2_with fail
     go_ret
     exact ⟨by rw [hF.out];rfl,rfl⟩
    | false =>
     cases h4:(nm.toList == [104,101,117,110]) with
     | true =>
      have hF:Hid (textF nm=⟨#[48,32,48,32,124,32,49,32,48,32,124,32,49,47,50,32,49,47,50]⟩):=by show _=_;unfold textF;rw [if_neg (by rw [h0];decide),if_neg (by rw [h1];decide),if_neg (by rw [h2];decide),if_neg (by rw [h3];decide),if_pos h4]
      go_wp2_with fail
      go_ret
      exact ⟨by rw [hF.out];rfl,rfl⟩
     | false =>
      cases h5:(nm.toList == [107,117,116,116,97]) with
      | true =>
       have hF:Hid (textF nm=⟨#[48,32,48,32,48,32,124,32,49,47,50,32,48,32,48,32,124,32,45,49,32,50,32,48,32,124,32,49,47,54,32,50,47,51,32,49,47,54]⟩):=by show _=_;unfold textF;rw [if_neg (by rw [h0];decide),if_neg (by rw [h1];decide),if_neg (by rw [h2];decide),if_neg (by rw [h3];decide),if_neg (by rw [h4];decide),if_pos h5]
       go_wp2_with fail
       go_ret
       exact ⟨by rw [hF.out];rfl,rfl⟩
      | false =>
       cases h6:(nm.toList == [99,108,97,115,115,105,99]) with
       | true =>
        have hF:Hid (textF nm=⟨#[48,32,48,32,48,32,48,32,124,32,49,47,50,32,48,32,48,32,48,32,124,32,48,32,49,47,50,32,48,32,48,32,124,32,48,32,48,32,49,32,48,32,124,32,49,47,54,32,49,47,51,32,49,47,51,32,49,47,54]⟩):=by show _=_;unfold textF;rw [if_neg (by rw [h0];decide),if_neg (by rw [h1];decide),if_neg (by rw [h2];decide),if_neg (by rw [h3];decide),if_neg (by rw [h4];decide),if_neg (by rw [h5];decide),if_pos h6]
        go_wp2_with fail
        go_ret
        exact ⟨by rw [hF.out];rfl,rfl⟩
       | false =>
        cases h7:(nm.toList == [101,105,103,104,116,104,115]) with
        | true =>
         have hF:Hid (textF nm=⟨#[48,32,48,32,48,32,48,32,124,32,49,47,51,32,48,32,48,32,48,32,124,32,45,49,47,51,32,49,32,48,32,48,32,124,32,49,32,45,49,32,49,32,48,32,124,32,49,47,56,32,51,47,56,32,51,47,56,32,49,47,56]⟩):=by show _=_;unfold textF;rw [if_neg (by rw [h0];decide),if_neg (by rw [h1];decide),if_neg (by rw [h2];decide),if_neg (by rw [h3];decide),if_neg (by rw [h4];decide),if_neg (by rw [h5];decide),if_neg (by rw [h6];decide),if_pos h7]
         go_wp2_with fail
         go_ret
         exact ⟨by rw [hF.out];rfl,rfl⟩
        | false =>
         cases h8:(nm.toList == [112,97,105,114]) with
         | true =>
          have hF:Hid (textF nm=⟨#[48,32,48,32,124,32,49,47,50,32,49,47,50,32,124,32,49,47,50,32,49,47,50]⟩):=by show _=_;unfold textF;rw [if_neg (by rw [h0];decide),if_neg (by rw [h1];decide),if_neg (by rw [h2];decide),if_neg (by rw [h3];decide),if_neg (by rw [h4];decide),if_neg (by rw [h5];decide),if_neg (by rw [h6];decide),if_neg (by rw [h7];decide),if_pos h8]
          go_wp2_with fail
          go_ret
          exact ⟨by rw [hF.out];rfl,rfl⟩
         | false =>
          have hF:Hid (textF nm=⟨#[]⟩):=by show _=_;unfold textF;rw [if_neg (by rw [h0];decide),if_neg (by rw [h1];decide),if_neg (by rw [h2];decide),if_neg (by rw [h3];decide),if_neg (by rw [h4];decide),if_neg (by rw [h5];decide),if_neg (by rw [h6];decide),if_neg (by rw [h7];decide),if_neg (by rw [h8];decide)]
          go_wp2_with fail
          go_ret
          exact ⟨by rw [hF.out];rfl,rfl⟩
def tabNames:List ByteArray:=[⟨#[101,117,108,101,114]⟩,⟨#[98,97,99,107,119,97,114,100]⟩,⟨#[109,105,100,100,108,101]⟩,⟨#[109,105,100,112,111,105,110,116]⟩,⟨#[104,101,117,110]⟩,⟨#[107,117,116,116,97]⟩,⟨#[99,108,97,115,115,105,99]⟩,⟨#[101,105,103,104,116,104,115]⟩,⟨#[112,97,105,114]⟩,⟨#[103,97,117,115,115,49]⟩,⟨#[103,97,117,115,115,50]⟩,⟨#[103,97,117,115,115,51]⟩,⟨#[114,97,100,97,117,49]⟩,⟨#[114,97,100,97,117,50]⟩,⟨#[114,97,100,97,117,51]⟩,⟨#[108,111,98,97,116,116,111,50]⟩,⟨#[108,111,98,97,116,116,111,51]⟩,⟨#[108,111,98,97,116,116,111,52]⟩]
theorem names_no:∀ nm∈tabNames,(nm.data.toList == [103,97,117,115,115,52])=false∧(nm.data.toList == [114,97,100,97,117,52])=false∧(nm.data.toList == [108,111,98,97,116,116,111,49])=false∧nm.size≤10:=by
 intro nm h
 simp only [tabNames,List.mem_cons,List.not_mem_nil,or_false] at h
 rcases h with rfl | rfl | rfl | rfl | rfl | rfl | rfl | rfl | rfl | rfl | rfl | rfl | rfl | rfl | rfl | rfl | rfl | rfl <;> decide
theorem dec_digA:decI 1=⟨#[49]⟩∧decI 2=⟨#[50]⟩∧decI 3=⟨#[51]⟩∧decI 4=⟨#[52]⟩:=by decide +kernel
theorem known_done {w w1 w2:World} {A:Option Addr} {n c:Nat} {xs:List Int} {B:Option Addr} {m d:Nat} {ys:List Int} (h:TabR w1 w2 A n c xs B m d ys) (h1:w.heap.size≤w1.heap.size) (b:Below w.heap.size w w2) (hz:w.heap.size<w1.heap.size) (v1 v2 v3:Value) :
  TabR w (((w2.setCell ⟨w.heap.size,0,none⟩ v1).setCell ⟨w.heap.size,1,none⟩ v2).setCell ⟨w.heap.size,2,none⟩ v3) A n c xs B m d ys∧Below w.heap.size w (((w2.setCell ⟨w.heap.size,0,none⟩ v1).setCell ⟨w.heap.size,1,none⟩ v2).setCell ⟨w.heap.size,2,none⟩ v3):=by
 have hA:∀ ad,A=some ad→ad.block≠w.heap.size:=fun ad e=>by have:=(owns_lt h.ha.own ad e).1;omega
 have hB:∀ ad,B=some ad→ad.block≠w.heap.size:=fun ad e=>by have:=(owns_lt h.hb.own ad e).1;omega
 exact ⟨(((h.setCell (p:=⟨w.heap.size,0,none⟩) hA hB v1).setCell (p:=⟨w.heap.size,1,none⟩) hA hB v2).setCell (p:=⟨w.heap.size,2,none⟩) hA hB v3).up h1,((b.setCell (p:=⟨w.heap.size,0,none⟩) (lR _) v1).setCell (p:=⟨w.heap.size,1,none⟩) (lR _) v2).setCell (p:=⟨w.heap.size,2,none⟩) (lR _) v3⟩
set_option maxRecDepth 100000 in
set_option maxHeartbeats 8000000 in
theorem spec_KnownTableauA (nm:ByteArray) (w:World) (hnm:nm∈tabNames) :
  Calls Tryz.prog 56 #[.string nm] w fun e w'=>∃ s2 A n c xs B m d ys b,e = .returned (.tuple #[.agg #[.int .i64 s2,.slice A n c,.slice B m d],.bool b])∧n≤100000∧m≤100000∧TabR w w' A n c xs B m d ys∧Below w.heap.size w w':=by
 have b0:=below_alloc w (.cells #[.int .i64 0,.slice none 0 0,.slice none 0 0] 26)
 have k0:=BlkN.new w #[.int .i64 0,.slice none 0 0,.slice none 0 0] 26
 obtain ⟨c4g,c4r,c1l,hsz⟩:=names_no nm hnm
 rw [← ByteArray.toList_eq] at c4g c4r c1l
 clear hnm
 have D1:Hid (∀ W,Calls Tryz.prog 91 #[.int .i64 1] W fun e w'=>e = .returned (.string ⟨#[49]⟩)∧Below W.heap.size W w'):=fun W=>by have:=spec_l1Decimal 1 W (by omega) (by omega);rwa [dec_digA.1] at this
 have D2:Hid (∀ W,Calls Tryz.prog 91 #[.int .i64 2] W fun e w'=>e = .returned (.string ⟨#[50]⟩)∧Below W.heap.size W w'):=fun W=>by have:=spec_l1Decimal 2 W (by omega) (by omega);rwa [dec_digA.2.1] at this
 have D3:Hid (∀ W,Calls Tryz.prog 91 #[.int .i64 3] W fun e w'=>e = .returned (.string ⟨#[51]⟩)∧Below W.heap.size W w'):=fun W=>by have:=spec_l1Decimal 3 W (by omega) (by omega);rwa [dec_digA.2.2.1] at this
 have D4:Hid (∀ W,Calls Tryz.prog 91 #[.int .i64 4] W fun e w'=>e = .returned (.string ⟨#[52]⟩)∧Below W.heap.size W w'):=fun W=>by have:=spec_l1Decimal 4 W (by omega) (by omega);rwa [dec_digA.2.2.2] at this
 have ccGauss1:((⟨#[103,97,117,115,115]⟩:ByteArray)++(⟨#[49]⟩:ByteArray))=⟨#[103,97,117,115,115,49]⟩:=by rfl
 have ccRadau1:((⟨#[114,97,100,97,117]⟩:ByteArray)++(⟨#[49]⟩:ByteArray))=⟨#[114,97,100,97,117,49]⟩:=by rfl
 have ccLobatto1:((⟨#[108,111,98,97,116,116,111]⟩:ByteArray)++(⟨#[49]⟩:ByteArray))=⟨#[108,111,98,97,116,116,111,49]⟩:=by rfl
 have ccGauss2:((⟨#[103,97,117,115,115]⟩:ByteArray)++(⟨#[50]⟩:ByteArray))=⟨#[103,97,117,115,115,50]⟩:=by rfl
 have ccRadau2:((⟨#[114,97,100,97,117]⟩:ByteArray)++(⟨#[50]⟩:ByteArray))=⟨#[114,97,100,97,117,50]⟩:=by rfl
 have ccLobatto2:((⟨#[108,111,98,97,116,116,111]⟩:ByteArray)++(⟨#[50]⟩:ByteArray))=⟨#[108,111,98,97,116,116,111,50]⟩:=by rfl
 have ccGauss3:((⟨#[103,97,117,115,115]⟩:ByteArray)++(⟨#[51]⟩:ByteArray))=⟨#[103,97,117,115,115,51]⟩:=by rfl
 have ccRadau3:((⟨#[114,97,100,97,117]⟩:ByteArray)++(⟨#[51]⟩:ByteArray))=⟨#[114,97,100,97,117,51]⟩:=by rfl
 have ccLobatto3:((⟨#[108,111,98,97,116,116,111]⟩:ByteArray)++(⟨#[51]⟩:ByteArray))=⟨#[108,111,98,97,116,116,111,51]⟩:=by rfl
 have ccGauss4:((⟨#[103,97,117,115,115]⟩:ByteArray)++(⟨#[52]⟩:ByteArray))=⟨#[103,97,117,115,115,52]⟩:=by rfl
 have ccRadau4:((⟨#[114,97,100,97,117]⟩:ByteArray)++(⟨#[52]⟩:ByteArray))=⟨#[114,97,100,97,117,52]⟩:=by rfl
 have ccLobatto4:((⟨#[108,111,98,97,116,116,111]⟩:ByteArray)++(⟨#[52]⟩:ByteArray))=⟨#[108,111,98,97,116,116,111,52]⟩:=by rfl
 go_enter Tryz.func56,Tryz.ntmps56
 go_wp2_with fail
 refine (spec_l7TextA nm _).mono ?_
 rintro e w' ⟨rfl,rfl⟩
 cases hte:((textF nm).toList == []) with
 | false =>
  obtain ⟨ho1,ho2⟩:=text_ok hte
  obtain ⟨tx,htx⟩:∃ z,z=textF nm:=⟨_,rfl⟩
  have HTX:=hide htx
  rw [← htx] at hte ho1 ho2 ⊢
  clear D1 D2 D3 D4 ccGauss1 ccRadau1 ccLobatto1 ccGauss2 ccRadau2 ccLobatto2 ccGauss3 ccRadau3 ccLobatto3 ccGauss4 ccRadau4 ccLobatto4 c4g c4r c1l htx
  have k1:=k0.lt
  go_wp2_with (first
   | (go_at_call 89;refine (spec_l7TextA nm _).mono ?_;rintro e w' ⟨rfl,rfl⟩;rw [← HTX.out])
   | (go_at_call 90;refine (spec_ParseTableauA tx _ ho1 ho2 hte).mono ?_;rintro e w3 ⟨s2,A,n,c,xs,B,m,d,ys,ok,rfl,hn,hm,hR,hb⟩;have k3:=k0.below hb;have b3:=b0.trans (hb.mono b0.size);have U1:=k3.c 0 rfl;have U2:=k3.c 1 rfl;have U3:=k3.c 2 rfl;have V1:=k3.f 0;have V2:=k3.f 1;have V3:=k3.f 2;have zk:=k3.lt;have HD:=hide (known_done hR b0.size b3 (by simp) (.int .i64 s2) (.slice A n c) (.slice B m d));clear hR hb k3 b3 k0 b0))
  refine bodyPost_ret (v := .tuple #[.agg #[.int .i64 s2,.slice A n c,.slice B m d],.bool ok]) (by simp [results,Tryz.results56,go_sem,U1,U2,U3,V1,V2,V3,zk]) rfl ⟨s2,A,n,c,xs,B,m,d,ys,ok,rfl,hn,hm,HD.out.1,HD.out.2⟩
 | true =>
  go_wp2_with fail
  clear hte
  refine wp_loop_rounds 5 ?_
  cases cGauss1:(nm.toList == [103,97,117,115,115,49]) with
  | true =>
   rw [rounds_succ]
   go_wp2_with (first
    | (go_at_call 91;refine (D1.out _).mono ?_;rintro e w1 ⟨rfl,hb⟩;have k1:=k0.below hb;have b1:=b0.trans (hb.mono b0.size);clear hb k0 b0 D1)
    | (go_at_call 93;refine (spec_Gauss1 _).mono ?_;rintro e wl ⟨rfl,hO1,hb1⟩;have kl:=k1.below hb1;have bl:=b1.trans (hb1.mono b1.size);have zl:=kl.lt;have hIl:=hide hO1.ints;clear hO1 hb1 k1 b1)
    | (go_at_call 92;refine (spec_Collocation _ 1 1 noGauss1 _ _ _ hIl.out (lR _) (by omega) (by omega) noGauss1_num noGauss1_nd (fun x _=>van_goal rfl noGauss1_nd noGauss1_num x) (van_goal rfl noGauss1_nd noGauss1_num 1)).mono ?_;rintro e wm ⟨A,cA,B,cB,rfl,hA,hB,hb2⟩;have k9:=kl.below hb2;have b9:=bl.trans (hb2.mono bl.size);have U1:=k9.c 0 rfl;have U2:=k9.c 1 rfl;have U3:=k9.c 2 rfl;have V1:=k9.f 0;have V2:=k9.f 1;have V3:=k9.f 2;have zk:=k9.lt;have HD:=hide (known_done ⟨hA,hB⟩ bl.size b9 zl (.int .i64 1) (.slice A 1 cA) (.slice B 1 cB));clear hA hB hb2 kl bl hIl k9 b9))
   refine bodyPost_ret (v := .tuple #[.agg #[.int .i64 1,.slice A 1 cA,.slice B 1 cB],.bool true]) (by simp [results,Tryz.results56,go_sem,U1,U2,U3,V1,V2,V3,zk]) rfl ⟨_,A,1,cA,_,B,1,cB,_,true,rfl,by omega,by omega,HD.out.1,HD.out.2⟩
  | false =>
   cases cRadau1:(nm.toList == [114,97,100,97,117,49]) with
   | true =>
    rw [rounds_succ]
    go_wp2_with (first
     | (go_at_call 91;refine (D1.out _).mono ?_;rintro e w1 ⟨rfl,hb⟩;have k1:=k0.below hb;have b1:=b0.trans (hb.mono b0.size);clear hb k0 b0 D1)
     | (go_at_call 94;refine (spec_Radau1 _).mono ?_;rintro e wl ⟨rfl,hO1,hb1⟩;have kl:=k1.below hb1;have bl:=b1.trans (hb1.mono b1.size);have zl:=kl.lt;have hIl:=hide hO1.ints;clear hO1 hb1 k1 b1)
     | (go_at_call 92;refine (spec_Collocation _ 1 1 noRadau1 _ _ _ hIl.out (lR _) (by omega) (by omega) noRadau1_num noRadau1_nd (fun x _=>van_goal rfl noRadau1_nd noRadau1_num x) (van_goal rfl noRadau1_nd noRadau1_num 1)).mono ?_;rintro e wm ⟨A,cA,B,cB,rfl,hA,hB,hb2⟩;have k9:=kl.below hb2;have b9:=bl.trans (hb2.mono bl.size);have U1:=k9.c 0 rfl;have U2:=k9.c 1 rfl;have U3:=k9.c 2 rfl;have V1:=k9.f 0;have V2:=k9.f 1;have V3:=k9.f 2;have zk:=k9.lt;have HD:=hide (known_done ⟨hA,hB⟩ bl.size b9 zl (.int .i64 1) (.slice A 1 cA) (.slice B 1 cB));clear hA hB hb2 kl bl hIl k9 b9))
    refine bodyPost_ret (v := .tuple #[.agg #[.int .i64 1,.slice A 1 cA,.slice B 1 cB],.bool true]) (by simp [results,Tryz.results56,go_sem,U1,U2,U3,V1,V2,V3,zk]) rfl ⟨_,A,1,cA,_,B,1,cB,_,true,rfl,by omega,by omega,HD.out.1,HD.out.2⟩
   | false =>
    rw [rounds_succ]
    go_wp2_with (go_at_call 91;refine (D1.out _).mono ?_;rintro e w1 ⟨rfl,hb⟩;have k1:=k0.below hb;have b1:=b0.trans (hb.mono b0.size);clear hb k0 b0 D1)
    clear cGauss1 cRadau1 ccGauss1 ccRadau1 ccLobatto1
    cases cGauss2:(nm.toList == [103,97,117,115,115,50]) with
    | true =>
     rw [rounds_succ]
     go_wp2_with (first
      | (go_at_call 91;refine (D2.out _).mono ?_;rintro e w2 ⟨rfl,hb⟩;have k2:=k1.below hb;have b2:=b1.trans (hb.mono b1.size);clear hb k1 b1 D2)
      | (go_at_call 93;refine (spec_Gauss2 _).mono ?_;rintro e wl ⟨rfl,hO1,hb1⟩;have kl:=k2.below hb1;have bl:=b2.trans (hb1.mono b2.size);have zl:=kl.lt;have hIl:=hide hO1.ints;clear hO1 hb1 k2 b2)
      | (go_at_call 92;refine (spec_Collocation _ 2 2 noGauss2 _ _ _ hIl.out (lR _) (by omega) (by omega) noGauss2_num noGauss2_nd (fun x _=>van_goal rfl noGauss2_nd noGauss2_num x) (van_goal rfl noGauss2_nd noGauss2_num 1)).mono ?_;rintro e wm ⟨A,cA,B,cB,rfl,hA,hB,hb2⟩;have k9:=kl.below hb2;have b9:=bl.trans (hb2.mono bl.size);have U1:=k9.c 0 rfl;have U2:=k9.c 1 rfl;have U3:=k9.c 2 rfl;have V1:=k9.f 0;have V2:=k9.f 1;have V3:=k9.f 2;have zk:=k9.lt;have HD:=hide (known_done ⟨hA,hB⟩ bl.size b9 zl (.int .i64 2) (.slice A 4 cA) (.slice B 2 cB));clear hA hB hb2 kl bl hIl k9 b9))
     refine bodyPost_ret (v := .tuple #[.agg #[.int .i64 2,.slice A 4 cA,.slice B 2 cB],.bool true]) (by simp [results,Tryz.results56,go_sem,U1,U2,U3,V1,V2,V3,zk]) rfl ⟨_,A,4,cA,_,B,2,cB,_,true,rfl,by omega,by omega,HD.out.1,HD.out.2⟩
    | false =>
     cases cRadau2:(nm.toList == [114,97,100,97,117,50]) with
     | true =>
      rw [rounds_succ]
      go_wp2_with (first
       | (go_at_call 91;refine (D2.out _).mono ?_;rintro e w2 ⟨rfl,hb⟩;have k2:=k1.below hb;have b2:=b1.trans (hb.mono b1.size);clear hb k1 b1 D2)
       | (go_at_call 94;refine (spec_Radau2 _).mono ?_;rintro e wl ⟨rfl,hO1,hb1⟩;have kl:=k2.below hb1;have bl:=b2.trans (hb1.mono b2.size);have zl:=kl.lt;have hIl:=hide hO1.ints;clear hO1 hb1 k2 b2)
       | (go_at_call 92;refine (spec_Collocation _ 2 2 noRadau2 _ _ _ hIl.out (lR _) (by omega) (by omega) noRadau2_num noRadau2_nd (fun x _=>van_goal rfl noRadau2_nd noRadau2_num x) (van_goal rfl noRadau2_nd noRadau2_num 1)).mono ?_;rintro e wm ⟨A,cA,B,cB,rfl,hA,hB,hb2⟩;have k9:=kl.below hb2;have b9:=bl.trans (hb2.mono bl.size);have U1:=k9.c 0 rfl;have U2:=k9.c 1 rfl;have U3:=k9.c 2 rfl;have V1:=k9.f 0;have V2:=k9.f 1;have V3:=k9.f 2;have zk:=k9.lt;have HD:=hide (known_done ⟨hA,hB⟩ bl.size b9 zl (.int .i64 2) (.slice A 4 cA) (.slice B 2 cB));clear hA hB hb2 kl bl hIl k9 b9))
      refine bodyPost_ret (v := .tuple #[.agg #[.int .i64 2,.slice A 4 cA,.slice B 2 cB],.bool true]) (by simp [results,Tryz.results56,go_sem,U1,U2,U3,V1,V2,V3,zk]) rfl ⟨_,A,4,cA,_,B,2,cB,_,true,rfl,by omega,by omega,HD.out.1,HD.out.2⟩
     | false =>
      cases cLobatto2:(nm.toList == [108,111,98,97,116,116,111,50]) with
      | true =>
       rw [rounds_succ]
       go_wp2_with (first
        | (go_at_call 91;refine (D2.out _).mono ?_;rintro e w2 ⟨rfl,hb⟩;have k2:=k1.below hb;have b2:=b1.trans (hb.mono b1.size);clear hb k1 b1 D2)
        | (go_at_call 95;refine (spec_Lobatto2 _).mono ?_;rintro e wl ⟨rfl,hO1,hb1⟩;have kl:=k2.below hb1;have bl:=b2.trans (hb1.mono b2.size);have zl:=kl.lt;have hIl:=hide hO1.ints;clear hO1 hb1 k2 b2)
        | (go_at_call 92;refine (spec_Collocation _ 2 2 noLobatto2 _ _ _ hIl.out (lR _) (by omega) (by omega) noLobatto2_num noLobatto2_nd (fun x _=>van_goal rfl noLobatto2_nd noLobatto2_num x) (van_goal rfl noLobatto2_nd noLobatto2_num 1)).mono ?_;rintro e wm ⟨A,cA,B,cB,rfl,hA,hB,hb2⟩;have k9:=kl.below hb2;have b9:=bl.trans (hb2.mono bl.size);have U1:=k9.c 0 rfl;have U2:=k9.c 1 rfl;have U3:=k9.c 2 rfl;have V1:=k9.f 0;have V2:=k9.f 1;have V3:=k9.f 2;have zk:=k9.lt;have HD:=hide (known_done ⟨hA,hB⟩ bl.size b9 zl (.int .i64 2) (.slice A 4 cA) (.slice B 2 cB));clear hA hB hb2 kl bl hIl k9 b9))
       refine bodyPost_ret (v := .tuple #[.agg #[.int .i64 2,.slice A 4 cA,.slice B 2 cB],.bool true]) (by simp [results,Tryz.results56,go_sem,U1,U2,U3,V1,V2,V3,zk]) rfl ⟨_,A,4,cA,_,B,2,cB,_,true,rfl,by omega,by omega,HD.out.1,HD.out.2⟩
      | false =>
       rw [rounds_succ]
       go_wp2_with (go_at_call 91;refine (D2.out _).mono ?_;rintro e w2 ⟨rfl,hb⟩;have k2:=k1.below hb;have b2:=b1.trans (hb.mono b1.size);clear hb k1 b1 D2)
       clear cGauss2 cRadau2 cLobatto2 ccGauss2 ccRadau2 ccLobatto2
       cases cGauss3:(nm.toList == [103,97,117,115,115,51]) with
       | true =>
        rw [rounds_succ]
        go_wp2_with (first
         | (go_at_call 91;refine (D3.out _).mono ?_;rintro e w3 ⟨rfl,hb⟩;have k3:=k2.below hb;have b3:=b2.trans (hb.mono b2.size);clear hb k2 b2 D3)
         | (go_at_call 93;refine (spec_Gauss3 _).mono ?_;rintro e wl ⟨rfl,hO1,hb1⟩;have kl:=k3.below hb1;have bl:=b3.trans (hb1.mono b3.size);have zl:=kl.lt;have hIl:=hide hO1.ints;clear hO1 hb1 k3 b3)
         | (go_at_call 92;refine (spec_Collocation _ 3 3 noGauss3 _ _ _ hIl.out (lR _) (by omega) (by omega) noGauss3_num noGauss3_nd (fun x _=>van_goal rfl noGauss3_nd noGauss3_num x) (van_goal rfl noGauss3_nd noGauss3_num 1)).mono ?_;rintro e wm ⟨A,cA,B,cB,rfl,hA,hB,hb2⟩;have k9:=kl.below hb2;have b9:=bl.trans (hb2.mono bl.size);have U1:=k9.c 0 rfl;have U2:=k9.c 1 rfl;have U3:=k9.c 2 rfl;have V1:=k9.f 0;have V2:=k9.f 1;have V3:=k9.f 2;have zk:=k9.lt;have HD:=hide (known_done ⟨hA,hB⟩ bl.size b9 zl (.int .i64 3) (.slice A 9 cA) (.slice B 3 cB));clear hA hB hb2 kl bl hIl k9 b9))
        refine bodyPost_ret (v := .tuple #[.agg #[.int .i64 3,.slice A 9 cA,.slice B 3 cB],.bool true]) (by simp [results,Tryz.results56,go_sem,U1,U2,U3,V1,V2,V3,zk]) rfl ⟨_,A,9,cA,_,B,3,cB,_,true,rfl,by omega,by omega,HD.out.1,HD.out.2⟩
       | false =>
        cases cRadau3:(nm.toList == [114,97,100,97,117,51]) with
        | true =>
         rw [rounds_succ]
         go_wp2_with (first
          | (go_at_call 91;refine (D3.out _).mono ?_;rintro e w3 ⟨rfl,hb⟩;have k3:=k2.below hb;have b3:=b2.trans (hb.mono b2.size);clear hb k2 b2 D3)
          | (go_at_call 94;refine (spec_Radau3 _).mono ?_;rintro e wl ⟨rfl,hO1,hb1⟩;have kl:=k3.below hb1;have bl:=b3.trans (hb1.mono b3.size);have zl:=kl.lt;have hIl:=hide hO1.ints;clear hO1 hb1 k3 b3)
          | (go_at_call 92;refine (spec_Collocation _ 3 3 noRadau3 _ _ _ hIl.out (lR _) (by omega) (by omega) noRadau3_num noRadau3_nd (fun x _=>van_goal rfl noRadau3_nd noRadau3_num x) (van_goal rfl noRadau3_nd noRadau3_num 1)).mono ?_;rintro e wm ⟨A,cA,B,cB,rfl,hA,hB,hb2⟩;have k9:=kl.below hb2;have b9:=bl.trans (hb2.mono bl.size);have U1:=k9.c 0 rfl;have U2:=k9.c 1 rfl;have U3:=k9.c 2 rfl;have V1:=k9.f 0;have V2:=k9.f 1;have V3:=k9.f 2;have zk:=k9.lt;have HD:=hide (known_done ⟨hA,hB⟩ bl.size b9 zl (.int .i64 3) (.slice A 9 cA) (.slice B 3 cB));clear hA hB hb2 kl bl hIl k9 b9))
         refine bodyPost_ret (v := .tuple #[.agg #[.int .i64 3,.slice A 9 cA,.slice B 3 cB],.bool true]) (by simp [results,Tryz.results56,go_sem,U1,U2,U3,V1,V2,V3,zk]) rfl ⟨_,A,9,cA,_,B,3,cB,_,true,rfl,by omega,by omega,HD.out.1,HD.out.2⟩
        | false =>
         cases cLobatto3:(nm.toList == [108,111,98,97,116,116,111,51]) with
         | true =>
          rw [rounds_succ]
          go_wp2_with (first
           | (go_at_call 91;refine (D3.out _).mono ?_;rintro e w3 ⟨rfl,hb⟩;have k3:=k2.below hb;have b3:=b2.trans (hb.mono b2.size);clear hb k2 b2 D3)
           | (go_at_call 95;refine (spec_Lobatto3 _).mono ?_;rintro e wl ⟨rfl,hO1,hb1⟩;have kl:=k3.below hb1;have bl:=b3.trans (hb1.mono b3.size);have zl:=kl.lt;have hIl:=hide hO1.ints;clear hO1 hb1 k3 b3)
           | (go_at_call 92;refine (spec_Collocation _ 3 3 noLobatto3 _ _ _ hIl.out (lR _) (by omega) (by omega) noLobatto3_num noLobatto3_nd (fun x _=>van_goal rfl noLobatto3_nd noLobatto3_num x) (van_goal rfl noLobatto3_nd noLobatto3_num 1)).mono ?_;rintro e wm ⟨A,cA,B,cB,rfl,hA,hB,hb2⟩;have k9:=kl.below hb2;have b9:=bl.trans (hb2.mono bl.size);have U1:=k9.c 0 rfl;have U2:=k9.c 1 rfl;have U3:=k9.c 2 rfl;have V1:=k9.f 0;have V2:=k9.f 1;have V3:=k9.f 2;have zk:=k9.lt;have HD:=hide (known_done ⟨hA,hB⟩ bl.size b9 zl (.int .i64 3) (.slice A 9 cA) (.slice B 3 cB));clear hA hB hb2 kl bl hIl k9 b9))
          refine bodyPost_ret (v := .tuple #[.agg #[.int .i64 3,.slice A 9 cA,.slice B 3 cB],.bool true]) (by simp [results,Tryz.results56,go_sem,U1,U2,U3,V1,V2,V3,zk]) rfl ⟨_,A,9,cA,_,B,3,cB,_,true,rfl,by omega,by omega,HD.out.1,HD.out.2⟩
         | false =>
          rw [rounds_succ]
          go_wp2_with (go_at_call 91;refine (D3.out _).mono ?_;rintro e w3 ⟨rfl,hb⟩;have k3:=k2.below hb;have b3:=b2.trans (hb.mono b2.size);clear hb k2 b2 D3)
          clear cGauss3 cRadau3 cLobatto3 ccGauss3 ccRadau3 ccLobatto3
          cases cLobatto4:(nm.toList == [108,111,98,97,116,116,111,52]) with
          | true =>
           rw [rounds_succ]
           go_wp2_with (first
            | (go_at_call 91;refine (D4.out _).mono ?_;rintro e w4 ⟨rfl,hb⟩;have k4:=k3.below hb;have b4:=b3.trans (hb.mono b3.size);clear hb k3 b3 D4)
            | (go_at_call 95;refine (spec_Lobatto4 _).mono ?_;rintro e wl ⟨rfl,hO1,hb1⟩;have kl:=k4.below hb1;have bl:=b4.trans (hb1.mono b4.size);have zl:=kl.lt;have hIl:=hide hO1.ints;clear hO1 hb1 k4 b4)
            | (go_at_call 92;refine (spec_Collocation _ 4 4 noLobatto4 _ _ _ hIl.out (lR _) (by omega) (by omega) noLobatto4_num noLobatto4_nd (fun x _=>van_goal rfl noLobatto4_nd noLobatto4_num x) (van_goal rfl noLobatto4_nd noLobatto4_num 1)).mono ?_;rintro e wm ⟨A,cA,B,cB,rfl,hA,hB,hb2⟩;have k9:=kl.below hb2;have b9:=bl.trans (hb2.mono bl.size);have U1:=k9.c 0 rfl;have U2:=k9.c 1 rfl;have U3:=k9.c 2 rfl;have V1:=k9.f 0;have V2:=k9.f 1;have V3:=k9.f 2;have zk:=k9.lt;have HD:=hide (known_done ⟨hA,hB⟩ bl.size b9 zl (.int .i64 4) (.slice A 16 cA) (.slice B 4 cB));clear hA hB hb2 kl bl hIl k9 b9))
           refine bodyPost_ret (v := .tuple #[.agg #[.int .i64 4,.slice A 16 cA,.slice B 4 cB],.bool true]) (by simp [results,Tryz.results56,go_sem,U1,U2,U3,V1,V2,V3,zk]) rfl ⟨_,A,16,cA,_,B,4,cB,_,true,rfl,by omega,by omega,HD.out.1,HD.out.2⟩
          | false =>
           rw [rounds_succ]
           go_wp2_with (go_at_call 91;refine (D4.out _).mono ?_;rintro e w4 ⟨rfl,hb⟩;have k4:=k3.below hb;have b4:=b3.trans (hb.mono b3.size);clear hb k3 b3 D4)
           clear cLobatto4 ccGauss4 ccRadau4 ccLobatto4
           rw [rounds_succ]
           have hb9:=hide (((b4.setCell (p:=⟨w.heap.size,0,none⟩) (lR _) (.int .i64 0)).setCell (p:=⟨w.heap.size,1,none⟩) (lR _) (.slice none 0 0)).setCell (p:=⟨w.heap.size,2,none⟩) (lR _) (.slice none 0 0))
           have U1:=k4.c 0 rfl
           have U2:=k4.c 1 rfl
           have U3:=k4.c 2 rfl
           have V1:=k4.f 0
           have V2:=k4.f 1
           have V3:=k4.f 2
           have zk:=k4.lt
           clear k4 b4
           go_wp2_with fail
           refine bodyPost_ret (v := .tuple #[.agg #[.int .i64 0,.slice none 0 0,.slice none 0 0],.bool false]) (by simp [results,Tryz.results56,go_sem,U1,U2,U3,V1,V2,V3,zk]) rfl ⟨0,none,0,0,[],none,0,0,[],false,rfl,by omega,by omega,TabR.nil_ _ _,hb9.out⟩
end Go.Proofs.YtomgcbfcnjbofaaGreat
/- Whether numbers are all different, whatever they are; the design of a tableau of order four: the reference's walks. -/
namespace Go.Proofs.YtomgcbfcnjbofaaGreat
open Go.RowKit
set_option linter.unusedSimpArgs false
set_option linter.unusedVariables false
set_option maxRecDepth 20000
def DiffU (xs:List Int) (k m j:Nat):Prop:=(∀ a b:Nat,b<a→a<k→xs[a]? ≠ xs[b]?)∧∀ b:Nat,b<j→xs[m]? ≠ xs[b]?
theorem DiffU.zero (xs:List Int):DiffU xs 0 0 0:=⟨fun a b _ h=>by omega,fun b h=>by omega⟩
theorem DiffU.step {xs:List Int} {k j:Nat} {x y:Int} (h:DiffU xs k k j) (hx:xs[k]? = some x) (hy:xs[j]? = some y) (_:j<k) (hne:¬ y=x):DiffU xs k k (j+1) :=
 ⟨h.1,fun b hb=>by
  by_cases e:b=j
  ·subst e
   rw [hx,hy]
   intro e
   injection e with e
   exact hne e.symm
  ·exact h.2 b (by omega)⟩
theorem DiffU.next {xs:List Int} {k:Nat} (h:DiffU xs k k k):DiffU xs (k+1) (k+1) 0 :=
 ⟨fun a b hb ha=>by
  by_cases e:a=k
  ·subst e;exact h.2 b hb
  ·exact h.1 a b hb (by omega),fun b hb=>by omega⟩
theorem DiffU.nodup {xs:List Int} {k:Nat} (h:DiffU xs k k 0) (hl:xs.length=k):xs.Nodup:=by
 refine List.pairwise_iff_getElem.2 fun i j hi hj hij e=>?_
 refine h.1 j i hij (by omega) ?_
 rw [List.getElem?_eq_getElem hi,List.getElem?_eq_getElem hj,e]
set_option maxHeartbeats 1000000 in
theorem spec_l7DifferentA (g n c:Nat) (xs:List Int) (lo hi:Nat) (w:World) (h:Ints w lo hi (some ⟨g,0,none⟩) n c xs) (hN:allNumF xs=true) :
  Calls Tryz.prog 85 #[.slice (some ⟨g,0,none⟩) n c] w fun e w'=>∃ b:Bool,e = .returned (.bool b)∧Hid (b=true→xs.Nodup)∧∃ q,w'=w.drewN q:=by
 have hm:=h.max
 have hcp:=h.cap
 have HI:=hide h
 have HA:=hide fun W (hW:∃ q,W=w.drewN q)=>spec_l1All (some ⟨g,0,none⟩) n c xs lo hi W (by obtain ⟨q,rfl⟩:=hW;exact h.same (fun _ _ _=>rfl))
 rw [hN] at HA
 clear h hN
 go_enter Tryz.func85,Tryz.ntmps85
 go_wp2_with fail
 go_loopw [3] (fun i wr=>∃ (k q:Nat),k≤n∧i = .int .i64 k∧wr=w.drewN q∧Hid (DiffU xs k k 0)) (fun i _=>n - (intOf i).toNat)
 case atStart=>exact ⟨0,0,by omega,rfl,rfl,DiffU.zero xs⟩
 case round =>
  obtain ⟨k,q0,hk,rfl,rfl,hU⟩:=hrel
  by_cases hlt:k<n
  ·obtain ⟨ad,x,e,hc,hxr,_,hx⟩:=HI.out.at_ hlt
   injection e with e
   subst e
   have hcx:w.cell? ⟨g,k,none⟩=some (.int .i64 x):=by simpa [Addr.add_lit] using hc
   clear hc
   go_wp2_with fail
   go_loopw [4] (fun i wr=>∃ (j q:Nat),j≤k∧i = .int .i64 j∧wr=w.drewN q∧Hid (DiffU xs k k j)) (fun i _=>k - (intOf i).toNat)
   case atStart=>exact ⟨0,q0,by omega,rfl,rfl,hU.out⟩
   case round =>
    obtain ⟨j,q1,hj,rfl,rfl,hV⟩:=hrel
    by_cases hlt2:j<k
    ·obtain ⟨ad,y,e,hc,hyr,_,hy⟩:=HI.out.at_ (show j<n by omega)
     injection e with e
     subst e
     have hcy:w.cell? ⟨g,j,none⟩=some (.int .i64 y):=by simpa [Addr.add_lit] using hc
     by_cases hxy:y=x
     ·have hne:(y == x)=true:=by simpa using hxy
      clear hc hx hy hxy
      go_wp2_with fail
      go_quiet (fail)
      go_wp2_with fail
      go_ret
      exact ⟨false,rfl,(fun e=>by cases e),_,World.drewN_drewN _ _ _⟩
     ·have hne:(y == x)=false:=by simpa using hxy
      have hV2:=hide (hV.out.step hx.out hy.out hlt2 hxy)
      clear hc hx hy hxy
      go_wp2_with fail
      go_quiet (fail)
      go_wp2_with fail
      go_roundw
      case rel=>exact ⟨j+1,_,by omega,by go_num,rfl,hV2.out⟩
      case measure=>simp [intOf];omega
    ·obtain rfl:k=j:=by omega
     go_wp2_with fail
     go_roundw
     case rel=>exact ⟨k+1,q1,by omega,by go_num,rfl,hV.out.next⟩
     case measure=>simp [intOf];omega
  ·obtain rfl:k=n:=by omega
   go_wp2_with (go_at_call 65;refine (HA.out _ ⟨_,rfl⟩).mono ?_;rintro e w' ⟨rfl,rfl⟩)
   go_ret
   exact ⟨true,rfl,(fun _=>hU.out.nodup HI.out.len),_,rfl⟩
end Go.Proofs.YtomgcbfcnjbofaaGreat
