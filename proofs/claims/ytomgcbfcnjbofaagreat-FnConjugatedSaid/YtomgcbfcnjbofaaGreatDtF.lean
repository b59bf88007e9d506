/- Rows of numbers read from any text, and the text of any tableau: the reference's walks. -/
import Derived.Test.YtomgcbfcnjbofaaGreatDtE
import Derived.Test.YtomgcbfcnjbofaaGreatMgZC
import Derived.Laws.IdiomStrings
namespace Go.Proofs.YtomgcbfcnjbofaaGreat
open Go.RowKit
set_option linter.unusedSimpArgs false
set_option linter.unusedVariables false
set_option maxRecDepth 20000
theorem piecesC {x:UInt8}:∀ L:List UInt8,(piecesF x L).length≤L.length+1
 | []=>by simp [piecesF]
 | c :: r=>by
  have ih:=piecesC (x:=x) r
  rw [piecesF]
  split
  ·simp only [List.length_cons];omega
  ·split
   ·rename_i p q e
    rw [e] at ih
    simp only [List.length_cons] at ih ⊢
    omega
   ·simp
theorem cutRow {w:World} {lo g n c:Nat} {ps:List ByteArray} (h:w.ownsRow lo 9 1 (.slice (some ⟨g,0,none⟩) n c) n (ps.map Value.string)):∀ j p,ps[j]? = some p→w.cell? ⟨g,j,none⟩=some (.string p):=fun j p hp=>by
 have hl:=own_len h
 have hj:=(List.getElem?_eq_some_iff.1 hp).1
 refine (h.cellAt j (by simp at hl;omega)).trans ?_
 rw [List.getElem?_map,hp]
 rfl
theorem ownForm {w:World} {lo e n c:Nat} {A:Option Addr} {vs:List Value} (h:w.ownsRow lo e 1 (.slice A n c) n vs) (hn:0<n):∃ g,A=some ⟨g,0,none⟩∧lo≤g∧g<w.heap.size:=by
 rcases h.2 with ⟨_,e⟩ | ⟨g,_,_,e,h1,h2,_⟩
 ·omega
 ·injection e with e
  exact ⟨g,e,h1,(Array.getElem?_eq_some_iff.1 h2).1⟩
set_option maxRecDepth 100000 in
set_option maxHeartbeats 4000000 in
theorem spec_ParseNumbersA (s:ByteArray) (w:World) (hs:s.size≤1048576) :
  Calls Tryz.prog 111 #[.string s] w fun e w'=>∃ A n c xs b,e = .returned (.tuple #[.slice A n c,.bool b])∧n≤s.size+1∧OwnI w' w.heap.size w'.heap.size A n c xs∧Below w.heap.size w w':=by
 obtain ⟨i0,hi0,hz0,hz1,hz2⟩:=info_parts info_int
 have hS:=hide (spec_l1Cut s 32 32 rfl (w.alloc (.cells #[] 3)) (by omega))
 have q0:(w.alloc (.cells #[] 3)).ownsRow w.heap.size 3 1 (.slice (some ⟨w.heap.size,0,none⟩) 0 0) 0 (([]:List Int).map (Value.int .i64)):=by
  simpa using World.ownsRow_lit (size:=1) (e:=3) (base:=w.heap.size) w #[] 0 (Nat.le_refl _) (by unfold maxLen;omega) rfl
 have b1:=below_alloc w (.cells #[] 3)
 have hz1':(w.alloc (.cells #[] 3)).heap.size=w.heap.size+1:=by simp
 go_enter Tryz.func111,Tryz.ntmps111
 go_wp2_with fail
 refine hS.out.mono ?_
 rintro e W ⟨A0,n,cn,ps,rfl,hrow,hpl,bW⟩
 rw [hz1'] at bW hrow
 have hnl:ps.length=n:=by simpa using hrow.out.1
 have hnb:n≤s.size+1:=by
  rw [← hnl,← List.length_map (f:=fun p:ByteArray=>p.data.toList),hpl.out]
  have:=piecesC (x:=32) s.data.toList
  rw [list_len] at this
  omega
 have hn0:0<n:=by
  rcases Nat.eq_zero_or_pos n with h0 | h0
  ·have e:ps=[]:=List.eq_nil_of_length_eq_zero (by omega)
   have h2:=hpl.out
   rw [e] at h2
   exact absurd h2.symm (piecesF_ne _ _)
  ·exact h0
 obtain ⟨hcp1,hcp2⟩:=row_cap hrow.out
 obtain ⟨g,rfl,hgz,hgb⟩:=ownForm hrow.out hn0
 have hcells:=hide (cutRow hrow.out)
 have q1:W.ownsRow w.heap.size 3 1 (.slice (some ⟨w.heap.size,0,none⟩) 0 0) 0 (([]:List Int).map (Value.int .i64)):=owns_same q0 fun ad e=>by
  injection e with e
  subst e
  exact bW.block _ (Nat.lt_succ_self _)
 have b2:Below w.heap.size w W:=b1.trans (bW.mono (by omega))
 have hgw:w.heap.size<g:=by omega
 have hne0:∀ ad,some (⟨w.heap.size,0,none⟩:Addr)=some ad→ad.block≠g:=fun ad e=>by injection e with e;subst e;exact Nat.ne_of_lt hgw
 have HNE0:=hide hne0
 have Q1:=hide q1
 have HPS:Hid (∀ p∈ps,p.size≤1048576):=fun p hp=>by
  have hz:=mem_pieces (x:=32) (by rw [← hpl.out];exact List.mem_map.2 ⟨p,hp,rfl⟩:p.data.toList∈piecesF 32 s.data.toList)
  rw [list_len,list_len] at hz
  omega
 clear hrow hz1' q0 b1 hS bW hne0 q1 hpl
 go_wp2_with fail
 go_loopw [4,6,7,8] (fun v iv _ _ wr=>∃ (k:Nat) (A:Option Addr) (c:Nat) (xs:List Int),k≤n∧iv = .int .i64 k∧v = .slice A k c∧Hid (wr.ownsRow w.heap.size 3 1 (.slice A k c) k (xs.map (Value.int .i64)))∧Hid (∀ ad,A=some ad→ad.block≠g)∧Hid (∀ j p,ps[j]? = some p→wr.cell? ⟨g,j,none⟩=some (.string p))∧g<wr.heap.size∧Hid (∀ x∈xs,R64 x)∧Hid (Below w.heap.size w wr))
  (fun _ iv _ _ _=>n - (intOf iv).toNat)
 case atStart=>exact ⟨0,_,_,[],by omega,rfl,rfl,Q1.out,HNE0.out,hcells.out,hgb,(fun m hm=>absurd hm (by simp):∀ m∈([]:List Int),R64 m),b2⟩
 case round =>
  clear Q1 HNE0 hcells hgb b2
  obtain ⟨k,A,c,xs,hk,rfl,rfl,hown,hne,hcell,hgl,hrg,hb⟩:=hrel
  have hsz:=hb.out.size
  by_cases hlt:k<n
  ·obtain ⟨p,hp⟩:∃ p,ps[k]? = some p:=⟨_,List.getElem?_eq_getElem (by omega)⟩
   have hck:=hcell.out k p hp
   have hps1:p.size≤1048576:=HPS.out p (List.mem_of_getElem? hp)
   clear hp
   go_wp2_with fail
   refine (spec_ParseNumber p wr hps1).mono ?_
   rintro e w2 ⟨rfl,hb2⟩
   have z2:=hb2.size
   have hown2:=hide (owns_below hown.out hb2 (fun ad e=>(owns_lt hown.out ad e).2))
   have hcell2:Hid (∀ j p,ps[j]? = some p→w2.cell? ⟨g,j,none⟩=some (.string p)):=fun j p hp=>(hb2.cell (p:=⟨g,j,none⟩) (by show g<_;omega)).trans (hcell.out j p hp)
   have HB2:=hide (hb.out.trans (hb2.mono hsz))
   have hgl2:g<w2.heap.size:=by omega
   clear hown hcell hb hb2 hck
   obtain ⟨x,hx⟩:∃ x,x=(parF p).1:=⟨_,rfl⟩
   have hxr:R64 x:=by
    have := @parF_bd p
    rw [hx]
    exact ⟨by omega,by omega⟩
   rw [← hx]
   clear hx
   cases hv:(parF p).2 with
   | false =>
    go_wp2_with fail
    refine bodyPost_ret (results_tmp2 rfl _ _ _) rfl ?_
    exact ⟨none,0,0,[],false,rfl,by omega,OwnI.nil_ _ _ _,HB2.out⟩
   | true =>
    have hcc:=(⟨hown2.out,fun ad e=>(owns_lt hown2.out ad e).2,hrg.out⟩:OwnI w2 w.heap.size w2.heap.size A k c xs).capb
    go_wp2_with ((at_builtin;refine wpl_app1 rfl (.tmp 28) (.tmp 30) 24 rfl w.heap.size 3 i0 (.int .i64 0) 1 8 Tryz.underlying24 hi0 hz0 hz1 hz2 rfl (by omega) w2 #[.int .i64 x] A k c 1 _ rfl rfl hown2.out rfl (by simp [Value.oneCell']) (by omega) (by omega) (by omega) ?_;intro A3 c3 w5 happ hlt5;have HB5:=hide (happ.low HB2.out (by omega) (Nat.le_refl _) hown2.out);have HO5:Hid (w5.ownsRow w.heap.size 3 1 (.slice A3 (k+1) c3) (k+1) ((xs++[x]).map (Value.int .i64))):=(by show World.ownsRow _ _ _ _ _ _ _;rw [List.map_append];exact happ.1);have hcell5:Hid (∀ j p,ps[j]? = some p→w5.cell? ⟨g,j,none⟩=some (.string p)):=(fun j p hp=>(World.cell?_of_block (a:=⟨g,j,none⟩) (happ.2.1.block g hgl2 (fun e=>by obtain ⟨ad,e1,e2⟩:=ownBlock_eq.1 e.symm;exact hne.out ad e1 e2))).trans (hcell2.out j p hp));have hne5:Hid (∀ ad,A3=some ad→ad.block≠g):=(fun ad e=>happ.2.2.elim (fun h=>hne.out ad (h ad e)) (fun h=>by have:=h ad e;omega));have hrg5:Hid (∀ y∈xs++[x],R64 y):=(fun y hy=>(List.mem_append.1 hy).elim (fun h=>hrg.out y h) (fun h=>by rw [List.mem_singleton.1 h];exact hxr));have hg5:g<w5.heap.size:=(by omega);clear happ hown2 hcell2 hne HB2 hcc))
    go_roundw
    case rel=>exact ⟨k+1,A3,c3,xs++[x],by omega,by go_num,rfl,HO5.out,hne5.out,hcell5.out,hg5,hrg5.out,HB5.out⟩
    case measure=>simp [intOf];omega
  ·obtain rfl:n=k:=by omega
   have HO:Hid (OwnI wr w.heap.size wr.heap.size A n c xs):=⟨hown.out,fun ad e=>(owns_lt hown.out ad e).2,hrg.out⟩
   clear hown
   go_wp2_with fail
   refine bodyPost_ret (results_tmp2 rfl _ _ _) rfl ?_
   exact ⟨A,n,c,xs,true,rfl,by omega,HO.out,hb.out⟩
set_option maxRecDepth 100000 in
set_option maxHeartbeats 4000000 in
theorem spec_FormatTableauA (s:Int) (A:Option Addr) (n c:Nat) (xs:List Int) (B:Option Addr) (m d:Nat) (ys:List Int) (hi:Nat) (w:World) (h:Ints w 0 hi A n c xs) (g0:Ints w 0 hi B m d ys) (hh:hi≤w.heap.size) (hA:0<n→∃ ga,A=some ⟨ga,0,none⟩) :
  Calls Tryz.prog 112 #[.agg #[.int .i64 s,.slice A n c,.slice B m d]] w fun e w'=>∃ t:ByteArray,e = .returned (.string t)∧Below w.heap.size w w':=by
 have a0:=below_alloc w (.cells #[.int .i64 s,.slice A n c,.slice B m d] 26)
 have HX:=hide (BlkN.new w #[.int .i64 s,.slice A n c,.slice B m d] 26)
 have HA:=hide (h.below a0 hh)
 have HB:=hide (g0.below a0 hh)
 have hcA:=h.cap
 have hmA:=h.max
 have hcB:=g0.cap
 have hmB:=g0.max
 have z0:(w.alloc (.cells #[.int .i64 s,.slice A n c,.slice B m d] 26)).heap.size=w.heap.size+1:=by simp
 clear h g0
 go_enter Tryz.func112,Tryz.ntmps112
 go_wp2_with fail
 obtain ⟨gb,hgb⟩:∃ z,z=w.heap.size:=⟨_,rfl⟩
 generalize w.alloc (.cells #[.int .i64 s,.slice A n c,.slice B m d] 26)=W0 at a0 HX HA HB z0 ⊢
 have hgbW:gb<W0.heap.size:=by omega
 have hz01:w.heap.size≤W0.heap.size:=by omega
 have hhW:hi≤W0.heap.size:=by omega
 rw [← hgb] at HX ⊢
 clear hgb z0
 refine (spec_TableauOk s A n c xs B m d ys 0 hi W0 HA.out HB.out hhW).mono ?_
 rintro e w2 ⟨rfl,b2⟩
 cases ht:tabOkF s xs ys with
 | false =>
  have HB9:=hide (a0.trans (b2.mono hz01))
  clear b2 a0
  go_wp2_with fail
  go_ret
  exact ⟨_,rfl,HB9.out⟩
 | true =>
  obtain ⟨k1,rfl,hk1,hl1,hl1'⟩:=tabOk_facts ht
  have hnk:Hid (n=k1*k1):=by show _=_;rw [← HA.out.len,hl1]
  obtain rfl:k1=m:=by rw [← HB.out.len,hl1']
  have hc0:=(HX.out.below b2).c 0 rfl
  have hb2:=hide b2
  have z2:=b2.size
  clear b2 hl1 hl1' ht
  by_cases hk0:k1=0
  ·subst hk0
   go_wp2_with fail
   go_ret
   exact ⟨_,rfl,a0.trans (hb2.out.mono hz01)⟩
  ·have hk0':((k1:Int) == 0)=false:=by simpa using hk0
   go_wp2_with fail
   clear hc0
   go_loopw [3,4] (fun sv i wr=>∃ (k:Nat) (t:ByteArray),k≤k1∧i = .int .i64 (k:Int)∧sv = .string t∧t.size≤99*k∧Hid (Below W0.heap.size W0 wr)) (fun _ i _=>k1 - (intOf i).toNat)
   case atStart=>exact ⟨0,⟨#[]⟩,by omega,rfl,rfl,Nat.le_refl _,hb2.out⟩
   case round =>
    clear hb2 z2
    obtain ⟨i,t,hi2,rfl,rfl,hts,hb⟩:=hrel
    have hx:=HX.out.same (hb.out.block gb hgbW)
    have hx0:=hx.c 0 rfl
    have hx1:=hx.c 1 rfl
    have hx2:=hx.c 2 rfl
    have hsz:=hb.out.size
    clear hx
    by_cases hlt:i<k1
    ·have hkp:0<k1*k1:=Nat.mul_pos (by omega) (by omega)
     obtain ⟨ga,hga⟩:=hA (by rw [hnk.out];exact hkp)
     subst hga
     clear hkp
     have HR:=hide (spec_rowJ k1 ga n c B k1 d i wr hk1 hnk.out hlt hcA hmA)
     have HI:=hide ((HA.out.below hb.out hhW).rowD hnk.out hlt)
     have hns:=numsB_size ((xs.drop (i*k1)).take k1)
     have hrl:=HI.out.len
     obtain ⟨t2,ht2⟩:∃ z,z=numsB ((xs.drop (i*k1)).take k1):=⟨_,rfl⟩
     rw [← ht2] at hns
     have ht2s:t2.size≤96:=by omega
     have HT2:=hide ht2
     have hs3:(ByteArray.mk #[32,124,32]).size=3:=rfl
     clear hns hrl ht2
     have hadd1:∀ W:World,(Op.stringOp .add t t2).run Tryz.prog W = .ok (.string (t++t2)) W:=fun W=>run_string_add_sum W _ _ (by omega)
     have hadd2:∀ W:World,(Op.stringOp .add (t++t2) ⟨#[32,124,32]⟩).run Tryz.prog W = .ok (.string (t++t2++⟨#[32,124,32]⟩)) W:=fun W=>run_string_add_sum W _ _ (by simp only [ByteArray.size_append];omega)
     have hsn:Hid ((t++t2++⟨#[32,124,32]⟩).size≤99*(i+1)):=by show _≤_;simp only [ByteArray.size_append];omega
     go_wp2_with (first
      | (go_at_call 96;refine HR.out.mono ?_;rintro e w3 ⟨rfl,b3⟩;have z3:=b3.size;have hb3:=hide (hb.out.trans (b3.mono hsz));have HI3:=hide (HI.out.below b3 (by omega));clear b3 hb)
      | (go_at_call 118;refine (spec_FormatNumbers _ k1 _ _ 0 hi w3 HI3.out (by omega) (by omega)).mono ?_;rintro e w4 ⟨rfl,b4⟩;have z4:=b4.size;have hb4:=hide (hb3.out.trans (b4.mono (by omega)));rw [← HT2.out];clear b4 hb3))
     go_roundw
     case rel=>exact ⟨i+1,_,by omega,by go_num,rfl,hsn.out,hb4.out⟩
     case measure=>simp [intOf];omega
    ·obtain rfl:k1=i:=by omega
     have HIB:=hide (HB.out.below hb.out hhW)
     have hns:=numsB_size ys
     have hrl:=HIB.out.len
     obtain ⟨t2,ht2⟩:∃ z,z=numsB ys:=⟨_,rfl⟩
     rw [← ht2] at hns
     have ht2s:t2.size≤96:=by omega
     have HT2:=hide ht2
     clear hns hrl ht2
     have hadd1:∀ W:World,(Op.stringOp .add t t2).run Tryz.prog W = .ok (.string (t++t2)) W:=fun W=>run_string_add_sum W _ _ (by omega)
     have hb3:=hide hb.out
     go_wp2_with (go_at_call 118;refine (spec_FormatNumbers _ k1 _ _ 0 hi wr HIB.out (by omega) (by omega)).mono ?_;rintro e w4 ⟨rfl,b4⟩;have hb4:=hide (hb3.out.trans (b4.mono hsz));rw [← HT2.out];clear b4 hb3 hb)
     go_ret
     exact ⟨_,rfl,a0.trans (hb4.out.mono hz01)⟩
end Go.Proofs.YtomgcbfcnjbofaaGreat
