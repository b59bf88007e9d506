/- A polynomial times a number: the program's walk. -/
import Derived.Test.YtomgcbfcnjbofaaGreatMgP
import Derived.Test.YtomgcbfcnjbofaaGreatMgM
import Derived.Test.YtomgcbfcnjbofaaGreatMgH
import Derived.Test.YtomgcbfcnjbofaaGreatMgC
import Derived.Test.YtomgcbfcnjbofaaGreatCjC
import Derived.Test.YtomgcbfcnjbofaaGreatMgN
import Derived.Test.YtomgcbfcnjbofaaGreatMgG
namespace Go.Proofs.YtomgcbfcnjbofaaGreat
open Go.RowKit
open List renaming setIfInBounds_toArray → sTA, set_cons_zero → sC0, set_cons_succ → sC1, getElem_toArray → gTA, getElem_cons_zero → gC0, getElem_cons_succ → gC1
set_option linter.unusedSimpArgs false
set_option linter.unusedVariables false
set_option maxRecDepth 20000
set_option maxRecDepth 100000 in
set_option maxHeartbeats 8000000 in
theorem impl_scaled (P:Option Addr) (n c:Nat) (ms:List Mono) (kk:Int) (lo hi:Nat) (w:World) (h:Mons w lo hi P n c ms) (hh:hi≤w.heap.size) (hn:n≤549755813888) (hk:R64 kk) (hv:∀ m∈ms,m.2.length≤1048576) :
  Calls Tryz.prog 40 #[.slice P n c,.int .i64 kk] w fun e w'=>∃ A' c',e = .returned (.slice A' n c')∧Mons w' w.heap.size w'.heap.size A' n c' (Jr.scaledF ms kk)∧Below w.heap.size w w':=by
 obtain ⟨i0,hi0,hz0,hz1,hz2⟩:=info_parts info_mono
 have hcp:=h.cap
 have hmx:=h.max
 have HP:=hide h
 have HV:=hide hv
 have HKR:=hide hk
 have hb0:=hide (below_alloc w (.cells #[] 67))
 have hE0:=hide (LstE.empty w w.heap.size (Nat.le_refl _))
 have hz:(w.alloc (.cells #[] 67)).heap.size=w.heap.size+1:=by simp
 rw [← hz] at hE0
 clear h hv hz hk
 go_enter Tryz.func40,Tryz.ntmps40
 go_wp2_with fail
 generalize w.alloc (.cells #[] 67)=W0 at hb0 hE0 ⊢
 go_loopw [5,11] (fun o i wr=>∃ (k c':Nat) (A':Option Addr) (es:List El),k≤n∧i = .int .i64 k∧o = .slice A' k c'∧Hid (LstE wr w.heap.size wr.heap.size A' k c' es)∧Hid (es.map El.mono=Jr.scaledF (ms.take k) kk)∧Hid (Below w.heap.size w wr)) (fun _ i _=>n - (intOf i).toNat)
 case atStart=>exact ⟨0,0,_,[],by omega,rfl,rfl,hE0.out,rfl,hb0.out⟩
 case round =>
  clear hE0 hb0
  obtain ⟨k,c',A',es,hk,rfl,rfl,hE,hM,hb⟩:=hrel
  have hsz:=hb.out.size
  by_cases hlt:k<n
  ·obtain ⟨ad,x,B,m,d,xs,rfl,hc1,hc2,hxr,hI,_,hx⟩:=(HP.out.below hb.out hh).at_ hlt
   have hml:=HV.out _ (List.mem_of_getElem? hx.out)
   simp only at hml
   obtain rfl:m=xs.length:=hI.len.symm
   have a1:=below_alloc wr (.cells #[.int .i64 x,.slice B xs.length d] 67)
   have j0:=BlkN.new wr #[.int .i64 x,.slice B xs.length d] 67
   have d1:Below wr.heap.size wr (wr.alloc (.cells #[.int .i64 x,.slice B xs.length d] 67)).drew:=a1.drew
   have z1:wr.heap.size<(wr.alloc (.cells #[.int .i64 x,.slice B xs.length d] 67)).drew.heap.size:=by show wr.heap.size<(wr.alloc (.cells #[.int .i64 x,.slice B xs.length d] 67)).heap.size;simp
   have HIV:=hide (hI.below d1 (by omega))
   have HEV:=hide (hE.out.below d1 (Nat.le_refl _))
   have HBV:=hide (hb.out.trans (d1.mono hsz))
   have HJV:=hide j0.drew
   have HXR:=hide hxr
   have hcb:=hE.out.capb
   have hdc:=hI.cap
   have hdm:=hI.max
   clear a1 j0 d1 hI hE hb hxr
   go_upto_region 5 with fail
   clear hc1 hc2
   refine wp_region_Z (fun W'=>W'.cell? ⟨wr.heap.size,0,none⟩=some (.int .i64 x)∧W'.cell? ⟨wr.heap.size,1,none⟩=some (.slice B xs.length d)) 11 (by kernel_rfl) ?_
   simp only [List.size_toArray,List.length_cons,List.length_nil,Nat.reduceAdd]
   have hS0:(wr.alloc (.cells #[.int .i64 x,.slice B xs.length d] 67)).drew.cell? ⟨wr.heap.size,0,none⟩=some (.int .i64 x)∧(wr.alloc (.cells #[.int .i64 x,.slice B xs.length d] 67)).drew.cell? ⟨wr.heap.size,1,none⟩=some (.slice B xs.length d):=⟨HJV.out.c 0 rfl,HJV.out.c 1 rfl⟩
   generalize (wr.alloc (.cells #[.int .i64 x,.slice B xs.length d] 67)).drew=V at HIV HEV HBV HJV hS0 z1 ⊢
   obtain ⟨q,hq⟩:∃ q,q=wr.heap.size:=⟨_,rfl⟩
   rw [← hq] at HEV HJV hS0 z1 hsz ⊢
   have hhq:hi≤q:=by omega
   clear hq
   refine wpAnyZ_takeW 0 ((.slice A' k c')) rfl (by kernel_rfl) (by kernel_rfl) (fun _ _ _ h=>h) (by rfl) (fun _=>by first | (simp [go_sem];done) | go_simp) hS0 ?_
   try simp only [Act.put,sTA,sC0,sC1,gTA,gC0,gC1]
   refine wpAnyZ_takeW 1 (.pointer (some ⟨q,0,none⟩)) rfl (by kernel_rfl) (by kernel_rfl) (fun _ _ _ h=>h) (by rfl) (fun _=>by first | (simp [go_sem];done) | go_simp) hS0 ?_
   try simp only [Act.put,sTA,sC0,sC1,gTA,gC0,gC1]
   refine wpAnyZ_take 2 (.int .i64 x) rfl (by kernel_rfl) (by kernel_rfl) (fun _ _ _ h=>h) (by rfl) (fun _ hS=>by have q0:=hS.1;clear hS;first | (simp [go_sem,q0];done) | go_simp) hS0 ?_
   try simp only [Act.put,sTA,sC0,sC1,gTA,gC0,gC1]
   refine wpAnyZ_takeW 3 (.int .i64 kk) rfl (by kernel_rfl) (by kernel_rfl) (fun _ _ _ h=>h) (by rfl) (fun _=>by first | (simp [go_sem];done) | go_simp) hS0 ?_
   try simp only [Act.put,sTA,sC0,sC1,gTA,gC0,gC1]
   refine wpAnyZ_takeW 5 (.pointer (some ⟨q,1,none⟩)) rfl (by kernel_rfl) (by kernel_rfl) (fun _ _ _ h=>h) (by rfl) (fun _=>by first | (simp [go_sem];done) | go_simp) hS0 ?_
   try simp only [Act.put,sTA,sC0,sC1,gTA,gC0,gC1]
   refine wpAnyZ_take 6 (.slice B xs.length d) rfl (by kernel_rfl) (by kernel_rfl) (fun _ _ _ h=>h) (by rfl) (fun _ hS=>by have q0:=hS.2;clear hS;first | (simp [go_sem,q0];done) | go_simp) hS0 ?_
   try simp only [Act.put,sTA,sC0,sC1,gTA,gC0,gC1]
   refine wpAnyZ_one 4 (by kernel_rfl) rfl (by rfl) (fun K hK=>?_)
   go_simp
   refine (impl_Times x kk _ HXR.out HKR.out).mono ?_
   rintro e x1 ⟨rfl,rfl⟩
   go_wp2_with fail
   refine hK.out _ _ hS0 ?_
   clear hK K
   try simp only [Act.put,sTA,sC0,sC1,gTA,gC0,gC1]
   refine wpAnyZ_one 7 (by kernel_rfl) rfl (by rfl) (fun K hK=>?_)
   go_simp
   refine (slices_Clone B xs.length d xs lo hi V HIV.out (by omega) hml).mono ?_
   rintro e x2 ⟨B3,d3,rfl,o3,b3⟩
   have HO3:=hide o3
   have HB3:=hide b3
   have hz3:=b3.size
   have hS2:=And.intro ((b3.cell (p:=⟨q,0,none⟩) (World.block_lt_of_cell? _ _ hS0.1)).trans hS0.1) ((b3.cell (p:=⟨q,1,none⟩) (World.block_lt_of_cell? _ _ hS0.2)).trans hS0.2)
   clear o3 b3
   go_wp2_with fail
   refine hK.out _ _ hS2 ?_
   clear hK K
   try simp only [Act.put,sTA,sC0,sC1,gTA,gC0,gC1]
   refine wpAnyZ_takeW 8 (.agg #[.int .i64 (timesF x kk),.slice B3 xs.length d3]) rfl (by kernel_rfl) (by kernel_rfl) (fun _ _ _ h=>h) (by rfl) (fun _=>by first | (simp [go_sem];done) | go_simp) hS2 ?_
   try simp only [Act.put,sTA,sC0,sC1,gTA,gC0,gC1]
   refine wpAnyZ_one 9 (by kernel_rfl) rfl (by rfl) (fun K hK=>?_)
   go_simp
   have hS3:=And.intro (((below_alloc x2 (.cells #[.int .i64 (timesF x kk),.slice B3 xs.length d3] 67)).cell (p:=⟨q,0,none⟩) (World.block_lt_of_cell? _ _ hS2.1)).trans hS2.1) (((below_alloc x2 (.cells #[.int .i64 (timesF x kk),.slice B3 xs.length d3] 67)).cell (p:=⟨q,1,none⟩) (World.block_lt_of_cell? _ _ hS2.2)).trans hS2.2)
   refine hK.out _ _ hS3 ?_
   clear hK K
   try simp only [Act.put,sTA,sC0,sC1,gTA,gC0,gC1]
   refine wpAnyZ_one 10 (by kernel_rfl) rfl (by rfl) (fun K hK=>?_)
   have HE3:=hide (HEV.out.below HB3.out (by omega))
   refine owp_appJ (.tmp 15) (.tmp 24) 34 rfl w.heap.size 67 i0 (.agg #[.int .i64 0,.slice none 0 0]) 2 32 Tryz.underlying34 hi0 hz0 hz1 hz2 rfl (by omega) x2 #[.int .i64 (timesF x kk),.slice B3 xs.length d3] _ rfl A' k c' 1 _ rfl rfl HE3.out.own rfl (by simp [Value.oneCell']) (by omega) (by omega) (by omega) ?_
   intro A4 c4 w5 happ hlt5
   have hL5:=hide (HE3.out.push (e:=⟨timesF x kk,B3,xs.length,d3,xs⟩) (timesF_R64 x kk) HO3.out.ints (by omega) (Nat.le_refl _) (by omega) (by omega) happ)
   have hB5:=hide (happ.low (HBV.out.trans (HB3.out.mono (by omega))) (by omega) (Nat.le_refl _) HE3.out.own)
   have hblk:w5.heap[q]? = x2.heap[q]? := happ.2.1.block q (by omega) (fun e=>by obtain ⟨ad,e1,e2⟩:=ownBlock_eq.1 e.symm;have h1:=HEV.out.lt ad e1;omega)
   have hJ5:BlkN w5 q #[.int .i64 x,.slice B xs.length d]:=(HJV.out.below HB3.out).same hblk
   have hS4:w5.cell? ⟨q,0,none⟩=some (.int .i64 x)∧w5.cell? ⟨q,1,none⟩=some (.slice B xs.length d):=⟨hJ5.c 0 rfl,hJ5.c 1 rfl⟩
   clear happ HE3 hS3 hblk hJ5
   refine hK.out _ _ hS4 ?_
   clear hK K
   try simp only [Act.put,sTA,sC0,sC1,gTA,gC0,gC1]
   refine wpAnyZ_last (by kernel_rfl) rfl (by kernel_rfl) (by rfl) (fun K hK=>?_)
   clear hS4
   go_simp
   refine hK _ _ ?_
   clear hK K
   have hM5:Hid ((es++[(⟨timesF x kk,B3,xs.length,d3,xs⟩:El)]).map El.mono=Jr.scaledF (ms.take (k+1)) kk):=by
    show _=_
    rw [List.map_append,hM.out,List.take_add_one,hx.out,Jr.scaledF,Jr.scaledF,List.map_append]
    rfl
   clear hM hx
   go_wp2_with fail
   go_roundw
   case rel=>exact ⟨k+1,c4,A4,_,by omega,by go_num,rfl,hL5.out,hM5.out,hB5.out⟩
   case measure=>simp [intOf];omega
  ·obtain rfl:n=k:=by omega
   have hle:Hid (es.map El.mono=Jr.scaledF ms kk):=by
    show _=_
    rw [hM.out,List.take_of_length_le (Nat.le_of_eq HP.out.len)]
   have hmo:=hide hE.out.mons
   rw [hle.out] at hmo
   go_wp2_with fail
   go_ret
   exact ⟨_,_,rfl,hmo.out,hb.out⟩
end Go.Proofs.YtomgcbfcnjbofaaGreat
/- The field of an energy of two variables: the program's walk. -/
namespace Go.Proofs.YtomgcbfcnjbofaaGreat
open Go.RowKit
open List renaming setIfInBounds_toArray → sTA, set_cons_zero → sC0, set_cons_succ → sC1, getElem_toArray → gTA, getElem_cons_zero → gC0, getElem_cons_succ → gC1
set_option linter.unusedSimpArgs false
set_option linter.unusedVariables false
set_option maxRecDepth 20000
theorem info_monosC:(Tryz.prog.info? 34).map (fun i=>(i.zero,i.size,i.bytes))=some (some (.slice none 0 0),1,24):=by kernel_rfl
theorem poly_len2:∀ (ms:List Mono) (d:Nat) (prev:Option (List Int)),polyGo (d:Int) prev ms=true→∀ m∈ms,m.2.length=d
 | [],_,_,_=>by simp
 | a :: r,d,prev,h=>by
  rw [polyGo] at h
  split at h
  ·rename_i hm
   intro m hm2
   rcases List.mem_cons.1 hm2 with h1 | h1
   ·rw [h1]
    simp only [monoOk,Bool.and_eq_true,decide_eq_true_eq] at hm
    obtain ⟨⟨⟨⟨⟨_,_⟩,hlen⟩,_⟩,_⟩,_⟩:=hm
    omega
   ·exact poly_len2 r d _ h m h1
  ·cases h
set_option maxRecDepth 100000 in
set_option maxHeartbeats 8000000 in
theorem impl_Hamilton (P:Option Addr) (n c:Nat) (ms:List Mono) (lo hi:Nat) (w:World) (h:Mons w lo hi P n c ms) (hh:hi≤w.heap.size) (hlen:∀ m∈ms,m.2.length≤1048576) :
  Calls Tryz.prog 10 #[.slice P n c,.int .i64 2] w fun e w'=>Below w.heap.size w w'∧((polyF ms 2=false∧e = .returned (.tuple #[.agg #[.int .i64 0,.slice none 0 0],.bool false]))∨(polyF ms 2=true∧∃ g,e = .returned (.tuple #[.agg #[.int .i64 2,.slice (some ⟨g,0,none⟩) 2 2],.bool true])∧Mons2 w' w.heap.size w'.heap.size (some ⟨g,0,none⟩) 2 2 [partF ms 1,Jr.scaledF (partF ms 0) (-1)])):=by
 obtain ⟨i1,hi1,hy0,hy1,hy2⟩:=info_parts info_monosC
 have hcp:=h.cap
 have hmx:=h.max
 have HP:=hide h
 have a1:=below_alloc w (.cells #[.int .i64 0,.slice none 0 0] 40)
 have j1:=BlkN.new w #[.int .i64 0,.slice none 0 0] 40
 have HPo:=hide (impl_PolynomialOk P n c ms lo hi 2 (w.alloc (.cells #[.int .i64 0,.slice none 0 0] 40)) (h.below a1 hh) (by have:=a1.size;omega) hlen)
 have HA1:=hide a1
 have HJ1:=hide j1
 clear h a1 j1
 go_enter Tryz.func10,Tryz.ntmps10
 go_wp2_with fail
 refine HPo.out.mono ?_
 rintro e w2 ⟨rfl,b2⟩
 have HR2:=hide (HJ1.out.below b2)
 have HB2:=hide (HA1.out.trans (b2.mono HA1.out.size))
 have z2:w.heap.size<w2.heap.size:=HR2.out.lt
 clear HPo HA1 HJ1 b2
 have hw1:IntKind.i64.wrap 1=1:=by decide
 cases hp:polyF ms 2 with
 | false =>
  have g0:=HR2.out.c 0 rfl
  have g1:=HR2.out.c 1 rfl
  have g2:=HR2.out.f 0
  have g3:=HR2.out.f 1
  have g4:=HR2.out.lt
  go_wp2_with fail
  refine bodyPost_ret (v := .tuple #[.agg #[.int .i64 0,.slice none 0 0],.bool false]) (by simp [results,Tryz.results10,go_sem,g0,g1,g2,g3,g4]) rfl ⟨?_,.inl ⟨hp,rfl⟩⟩
  exact (HB2.out.setCell (p:=⟨w.heap.size,0,none⟩) (Nat.le_refl _) _).setCell (p:=⟨w.heap.size,1,none⟩) (Nat.le_refl _) _
 | true =>
  have HPF:=hide hp
  have HL:Hid (∀ m∈ms,m.2.length=2):=by
   have h1:=hp
   simp only [polyF,Bool.and_eq_true] at h1
   exact poly_len2 ms 2 none h1.2
  have hn12:n≤12:=by
   have h1:=hp
   simp only [polyF,Bool.and_eq_true,decide_eq_true_eq] at h1
   rw [← HP.out.len]
   exact h1.1.2
  clear hp hlen
  have hmk:(Instr.makeSlice 38 (.int .i64 2) (.int .i64 2)).run Tryz.prog w2 = .ok (.slice (some ⟨w2.heap.size,0,none⟩) 2 2) (w2.alloc (.cells #[.slice none 0 0,.slice none 0 0] 34)):=by
   have h1:=run_make (P:=Tryz.prog) w2 38 34 i1 (.slice none 0 0) Tryz.underlying38 hi1 hy0 .i64 .i64 2 2 (by omega) (by omega) (by rw [hy2];omega) (by omega)
   have e2:madeCells #[Value.slice none 0 0] 2 = #[Value.slice none 0 0,Value.slice none 0 0]:=by
    apply Array.ext'
    simp [madeCells,List.range_succ]
   simp only [hy1,Nat.mul_one] at h1
   rw [← e2]
   exact h1
  have a3:=below_alloc w2 (.cells #[.slice none 0 0,.slice none 0 0] 34)
  have j3:=BlkN.new w2 #[.slice none 0 0,.slice none 0 0] 34
  have z3:(w2.alloc (.cells #[.slice none 0 0,.slice none 0 0] 34)).heap.size=w2.heap.size+1:=by simp
  have a4:=below_alloc (w2.alloc (.cells #[.slice none 0 0,.slice none 0 0] 34)) (.cells #[.int .i64 2,.slice (some ⟨w2.heap.size,0,none⟩) 2 2] 40)
  have j4:=BlkN.new (w2.alloc (.cells #[.slice none 0 0,.slice none 0 0] 34)) #[.int .i64 2,.slice (some ⟨w2.heap.size,0,none⟩) 2 2] 40
  rw [z3] at j4
  have HR4:=hide ((HR2.out.below a3).below a4)
  have HP4:=hide (j3.below a4)
  have HF4:=hide j4
  have HB4:=hide ((HB2.out.trans (a3.mono HB2.out.size)).trans (a4.mono (by rw [z3];omega)))
  have z4:w2.heap.size+1<((w2.alloc (.cells #[.slice none 0 0,.slice none 0 0] 34)).alloc (.cells #[.int .i64 2,.slice (some ⟨w2.heap.size,0,none⟩) 2 2] 40)).heap.size:=by simp
  clear a3 j3 z3 a4 j4 HR2 HB2
  go_upto_region 5 with fail
  clear hmk
  generalize (w2.alloc (.cells #[.slice none 0 0,.slice none 0 0] 34)).alloc (.cells #[.int .i64 2,.slice (some ⟨w2.heap.size,0,none⟩) 2 2] 40)=W4 at HR4 HP4 HF4 HB4 z4 ⊢
  obtain ⟨gP,hgP⟩:∃ z,z=w2.heap.size:=⟨_,rfl⟩
  rw [← hgP] at HP4 HF4 z2 z4 ⊢
  clear hgP
  obtain ⟨gF,hgF⟩:∃ z,z=gP+1:=⟨_,rfl⟩
  rw [← hgF] at HF4 z4 ⊢
  have hgF1:gP<gF:=by omega
  have hgF2:gF≤gP+1:=by omega
  clear hgF
  go_wp2_with fail
  go_loopw [26] (fun i wr=>(i = .int .i64 0∧wr=W4)∨(i = .int .i64 1∧∃ (B0:Option Addr) (n0 c0:Nat) (B1:Option Addr) (n1 c1:Nat),Hid (BlkN wr w.heap.size #[.int .i64 0,.slice none 0 0])∧Hid (BlkN wr gF #[.int .i64 2,.slice (some ⟨gP,0,none⟩) 2 2])∧Hid (BlkN wr gP #[.slice B0 n0 c0,.slice B1 n1 c1])∧Hid (Mons wr (gF+1) wr.heap.size B0 n0 c0 (partF ms 1))∧Hid (Mons wr (gF+1) wr.heap.size B1 n1 c1 (Jr.scaledF (partF ms 0) (-1)))∧Hid (Below w.heap.size w wr))) (fun i _=>1 - (intOf i).toNat)
  case atStart=>exact .inl ⟨rfl,rfl⟩
  case round =>
   rcases hrel with ⟨rfl,rfl⟩ | ⟨rfl,B0,n0,c0,B1,n1,c1,hR,hF,hPp,hM0,hM1,hB⟩
   ·go_upto_region 8 with fail
    refine wp_region_Z (fun W'=>W'.cell? ⟨gF,1,none⟩=some (.slice (some ⟨gP,0,none⟩) 2 2)) 9 (by kernel_rfl) ?_
    simp only [List.size_toArray,List.length_cons,List.length_nil,Nat.reduceAdd]
    have d1:Below wr.heap.size wr wr.drew:=(Below.refl _ _).drew
    have HPV:=hide (HP4.out.below d1)
    have HRV:=hide (HR4.out.below d1)
    have HFV:=hide (HF4.out.below d1)
    have HBV:=hide (HB4.out.trans (d1.mono HB4.out.size))
    have hzV:gF<wr.drew.heap.size:=z4
    have hS0:wr.drew.cell? ⟨gF,1,none⟩=some (.slice (some ⟨gP,0,none⟩) 2 2):=HFV.out.c 1 rfl
    clear d1 HP4 HR4 HF4 HB4 z4
    generalize wr.drew=V at HPV HRV HFV HBV hS0 hzV ⊢
    refine wpAnyZ_takeW 0 (.pointer (some ⟨gF,1,none⟩)) rfl (by kernel_rfl) (by kernel_rfl) (fun _ _ _ h=>h) (by rfl) (fun _=>by first | (simp [go_sem];done) | go_simp) hS0 ?_
    try simp only [Act.put,sTA,sC0,sC1,gTA,gC0,gC1]
    refine wpAnyZ_take 1 (.slice (some ⟨gP,0,none⟩) 2 2) rfl (by kernel_rfl) (by kernel_rfl) (fun _ _ _ h=>h) (by rfl) (fun _ hS=>by have q0:=hS;clear hS;first | (simp [go_sem,q0];done) | go_simp) hS0 ?_
    try simp only [Act.put,sTA,sC0,sC1,gTA,gC0,gC1]
    refine wpAnyZ_takeW 2 (.int .i64 0) rfl (by kernel_rfl) (by kernel_rfl) (fun _ _ _ h=>h) (by rfl) (fun _=>by first | (simp [go_sem];done) | go_simp) hS0 ?_
    try simp only [Act.put,sTA,sC0,sC1,gTA,gC0,gC1]
    refine wpAnyZ_takeW 3 (.slice P n c) rfl (by kernel_rfl) (by kernel_rfl) (fun _ _ _ h=>h) (by rfl) (fun _=>by first | (simp [go_sem];done) | go_simp) hS0 ?_
    try simp only [Act.put,sTA,sC0,sC1,gTA,gC0,gC1]
    refine wpAnyZ_takeW 4 (.int .i64 1) rfl (by kernel_rfl) (by kernel_rfl) (fun _ _ _ h=>h) (by rfl) (fun _=>by first | (simp [go_sem];done) | go_simp) hS0 ?_
    try simp only [Act.put,sTA,sC0,sC1,gTA,gC0,gC1]
    refine wpAnyZ_takeW 5 (.int .i64 0) rfl (by kernel_rfl) (by kernel_rfl) (fun _ _ _ h=>h) (by rfl) (fun _=>by first | (simp [go_sem];done) | go_simp) hS0 ?_
    try simp only [Act.put,sTA,sC0,sC1,gTA,gC0,gC1]
    refine wpAnyZ_takeW 6 (.int .i64 1) rfl (by kernel_rfl) (by kernel_rfl) (fun _ _ _ h=>h) (by rfl) (fun _=>by simp [go_sem,hw1]) hS0 ?_
    try simp only [Act.put,sTA,sC0,sC1,gTA,gC0,gC1]
    refine wpAnyZ_one 7 (by kernel_rfl) rfl (by rfl) (fun K hK=>?_)
    go_simp
    refine (impl_partial P n c ms lo hi 1 V (HP.out.below HBV.out hh) (by have:=HBV.out.size;omega) (by omega) (fun m hm=>by have:=HL.out m hm;omega) (by omega)).mono ?_
    rintro e x1 ⟨B0,n0,c0,rfl,hM0,hn0,hb1⟩
    have HM0:=hide hM0
    have HB1:=hide (HBV.out.trans (hb1.mono HBV.out.size))
    have HR1:=hide (HRV.out.below hb1)
    have HF1:=hide (HFV.out.below hb1)
    have HP1:=hide (HPV.out.below hb1)
    have hz1:=hb1.size
    have hS1:=HF1.out.c 1 rfl
    have hcm0:=hM0.cap
    have hcx0:=hM0.max
    clear hM0 hb1
    go_wp2_with fail
    refine hK.out _ _ hS1 ?_
    clear hK K
    try simp only [Act.put,sTA,sC0,sC1,gTA,gC0,gC1]
    refine wpAnyZ_takeW 8 (.pointer (some ⟨gP,0,none⟩)) rfl (by kernel_rfl) (by kernel_rfl) (fun _ _ _ h=>h) (by rfl) (fun _=>by first | (simp [go_sem];done) | go_simp) hS1 ?_
    try simp only [Act.put,sTA,sC0,sC1,gTA,gC0,gC1]
    have g0:=HP1.out.c 0 rfl
    have g1:=HP1.out.f 0
    refine wpAnyZ_last (by kernel_rfl) rfl (by kernel_rfl) (by rfl) (fun K hK=>?_)
    go_simp
    refine hK _ _ ?_
    clear hK K g0 g1 hS1
    have kP:BlkN (x1.setCell ⟨gP,0,none⟩ (.slice B0 n0 c0)) gP #[.slice B0 n0 c0,.slice none 0 0]:=by
     have t1:=HP1.out.set 0 (.slice B0 n0 c0)
     simp only [sTA,sC0,sC1] at t1
     exact t1
    have HPx:=hide kP
    have HRx:=hide (HR1.out.far (b:=gP) (i:=0) (by omega) (.slice B0 n0 c0))
    have HFx:=hide (HF1.out.far (b:=gP) (i:=0) (by omega) (.slice B0 n0 c0))
    have HBx:=hide (HB1.out.setCell (p:=⟨gP,0,none⟩) (by show w.heap.size≤gP;omega) (.slice B0 n0 c0))
    have HMx:=hide (HM0.out.same (Same.setCell (p:=⟨gP,0,none⟩) (Same.refl _ _ _) (.inl (by show gP<V.heap.size;omega)) (.slice B0 n0 c0)))
    have hsx:x1.heap.size≤(x1.setCell ⟨gP,0,none⟩ (.slice B0 n0 c0)).heap.size:=by simp [World.setCell]
    generalize hX2:x1.setCell ⟨gP,0,none⟩ (.slice B0 n0 c0)=X2 at HPx HRx HFx HBx HMx hsx ⊢
    clear kP hX2 HP1 HR1 HF1 HB1 HM0
    go_upto_region 9 with fail
    refine wp_region_Z (fun W'=>W'.cell? ⟨gF,1,none⟩=some (.slice (some ⟨gP,0,none⟩) 2 2)) 10 (by kernel_rfl) ?_
    simp only [List.size_toArray,List.length_cons,List.length_nil,Nat.reduceAdd]
    have d2:Below X2.heap.size X2 X2.drew:=(Below.refl _ _).drew
    have HPW:=hide (HPx.out.below d2)
    have HRW:=hide (HRx.out.below d2)
    have HFW:=hide (HFx.out.below d2)
    have HBW:=hide (HBx.out.trans (d2.mono HBx.out.size))
    have hd2:X2.heap.size≤X2.drew.heap.size:=Nat.le_refl _
    have hsw:x1.heap.size≤X2.drew.heap.size:=hsx
    have HMW:=hide (((HMx.out.below d2 hsx).wide (by omega:gF+1≤V.heap.size) hsw))
    have hT0:X2.drew.cell? ⟨gF,1,none⟩=some (.slice (some ⟨gP,0,none⟩) 2 2):=HFW.out.c 1 rfl
    clear d2 HPx HRx HFx HBx HMx hsx
    generalize X2.drew=V2 at HPW HRW HFW HBW HMW hT0 hsw hd2 ⊢
    refine wpAnyZ_takeW 0 (.pointer (some ⟨gF,1,none⟩)) rfl (by kernel_rfl) (by kernel_rfl) (fun _ _ _ h=>h) (by rfl) (fun _=>by first | (simp [go_sem];done) | go_simp) hT0 ?_
    try simp only [Act.put,sTA,sC0,sC1,gTA,gC0,gC1]
    refine wpAnyZ_take 1 (.slice (some ⟨gP,0,none⟩) 2 2) rfl (by kernel_rfl) (by kernel_rfl) (fun _ _ _ h=>h) (by rfl) (fun _ hS=>by have q0:=hS;clear hS;first | (simp [go_sem,q0];done) | go_simp) hT0 ?_
    try simp only [Act.put,sTA,sC0,sC1,gTA,gC0,gC1]
    refine wpAnyZ_takeW 2 (.int .i64 1) rfl (by kernel_rfl) (by kernel_rfl) (fun _ _ _ h=>h) (by rfl) (fun _=>by first | (simp [go_sem];done) | go_simp) hT0 ?_
    try simp only [Act.put,sTA,sC0,sC1,gTA,gC0,gC1]
    refine wpAnyZ_takeW 3 (.int .i64 0) rfl (by kernel_rfl) (by kernel_rfl) (fun _ _ _ h=>h) (by rfl) (fun _=>by first | (simp [go_sem];done) | go_simp) hT0 ?_
    try simp only [Act.put,sTA,sC0,sC1,gTA,gC0,gC1]
    refine wpAnyZ_takeW 4 (.int .i64 1) rfl (by kernel_rfl) (by kernel_rfl) (fun _ _ _ h=>h) (by rfl) (fun _=>by simp [go_sem,hw1]) hT0 ?_
    try simp only [Act.put,sTA,sC0,sC1,gTA,gC0,gC1]
    refine wpAnyZ_takeW 5 (.slice P n c) rfl (by kernel_rfl) (by kernel_rfl) (fun _ _ _ h=>h) (by rfl) (fun _=>by first | (simp [go_sem];done) | go_simp) hT0 ?_
    try simp only [Act.put,sTA,sC0,sC1,gTA,gC0,gC1]
    refine wpAnyZ_takeW 6 (.int .i64 0) rfl (by kernel_rfl) (by kernel_rfl) (fun _ _ _ h=>h) (by rfl) (fun _=>by first | (simp [go_sem];done) | go_simp) hT0 ?_
    try simp only [Act.put,sTA,sC0,sC1,gTA,gC0,gC1]
    refine wpAnyZ_one 7 (by kernel_rfl) rfl (by rfl) (fun K hK=>?_)
    go_simp
    refine (impl_partial P n c ms lo hi 0 V2 (HP.out.below HBW.out hh) (by have:=HBW.out.size;omega) (by omega) (fun m hm=>by have:=HL.out m hm;omega) (by omega)).mono ?_
    rintro e x3 ⟨B1,n1,c1,rfl,hM1,hn1,hb3⟩
    have HM1:=hide hM1
    have HB3:=hide hb3
    have hz3:=hb3.size
    have hT1:=HFW.out.below hb3 |>.c 1 rfl
    clear hM1 hb3
    go_wp2_with fail
    refine hK.out _ _ hT1 ?_
    clear hK K
    try simp only [Act.put,sTA,sC0,sC1,gTA,gC0,gC1]
    refine wpAnyZ_one 8 (by kernel_rfl) rfl (by rfl) (fun K hK=>?_)
    go_simp
    refine (impl_scaled B1 n1 c1 (partF ms 0) (-1) V2.heap.size x3.heap.size x3 HM1.out (Nat.le_refl _) (by omega) (by constructor <;> omega) (fun m hm=>by have:=part_len (d:=2) HL.out m hm;omega)).mono ?_
    rintro e x4 ⟨B2,c2,rfl,hM2,hb4⟩
    have HM2:=hide hM2
    have HB4:=hide (HB3.out.trans (hb4.mono hz3))
    have hz4:=HB4.out.size
    have HR4:=hide (HRW.out.below HB4.out)
    have HF4:=hide (HFW.out.below HB4.out)
    have HP4:=hide (HPW.out.below HB4.out)
    have hT2:=HF4.out.c 1 rfl
    have hcm2:=hM2.cap
    have hcx2:=hM2.max
    clear hM2 hb4 HM1
    go_wp2_with fail
    refine hK.out _ _ hT2 ?_
    clear hK K
    try simp only [Act.put,sTA,sC0,sC1,gTA,gC0,gC1]
    refine wpAnyZ_takeW 9 (.pointer (some ⟨gP,1,none⟩)) rfl (by kernel_rfl) (by kernel_rfl) (fun _ _ _ h=>h) (by rfl) (fun _=>by first | (simp [go_sem];done) | go_simp) hT2 ?_
    try simp only [Act.put,sTA,sC0,sC1,gTA,gC0,gC1]
    have g0:=HP4.out.c 1 rfl
    have g1:=HP4.out.f 1
    refine wpAnyZ_last (by kernel_rfl) rfl (by kernel_rfl) (by rfl) (fun K hK=>?_)
    go_simp
    refine hK _ _ ?_
    clear hK K g0 g1 hT2
    have kP:BlkN (x4.setCell ⟨gP,1,none⟩ (.slice B2 n1 c2)) gP #[.slice B0 n0 c0,.slice B2 n1 c2]:=by
     have t1:=HP4.out.set 1 (.slice B2 n1 c2)
     simp only [sTA,sC0,sC1] at t1
     exact t1
    have HPy:=hide kP
    have HRy:=hide (HR4.out.far (b:=gP) (i:=1) (by omega) (.slice B2 n1 c2))
    have HFy:=hide (HF4.out.far (b:=gP) (i:=1) (by omega) (.slice B2 n1 c2))
    have HBy:=hide ((HBW.out.trans (HB4.out.mono HBW.out.size)).setCell (p:=⟨gP,1,none⟩) (by show w.heap.size≤gP;omega) (.slice B2 n1 c2))
    have hszy:(x4.setCell ⟨gP,1,none⟩ (.slice B2 n1 c2)).heap.size=x4.heap.size:=by simp [World.setCell]
    have HMy:=hide ((HMW.out.below HB4.out (Nat.le_refl _)).same (Same.setCell (p:=⟨gP,1,none⟩) (Same.refl _ _ _) (.inl (by show gP<gF+1;omega)) (.slice B2 n1 c2)))
    have HNy:=hide (HM2.out.same (Same.setCell (p:=⟨gP,1,none⟩) (Same.refl _ _ _) (.inl (by show gP<x3.heap.size;omega)) (.slice B2 n1 c2)))
    have HMz:=hide (HMy.out.wide (Nat.le_refl _) (by omega:V2.heap.size≤(x4.setCell ⟨gP,1,none⟩ (.slice B2 n1 c2)).heap.size))
    have HNz:=hide (HNy.out.wide (by omega:gF+1≤x3.heap.size) (by omega:x4.heap.size≤(x4.setCell ⟨gP,1,none⟩ (.slice B2 n1 c2)).heap.size))
    clear kP hszy HMy HNy HP4 HR4 HF4 HB4 HM2 HMW
    generalize x4.setCell ⟨gP,1,none⟩ (.slice B2 n1 c2)=X5 at HPy HRy HFy HBy HMz HNz ⊢
    go_wp2_with fail
    go_roundw
    case rel=>exact .inr ⟨rfl,B0,n0,c0,B2,n1,c2,HRy.out,HFy.out,HPy.out,HMz.out,HNz.out,HBy.out⟩
    case measure=>simp [intOf]
   ·clear HP4 HR4 HF4 HB4 z4
    have g0:=hR.out.c 0 rfl
    have g1:=hR.out.c 1 rfl
    have g2:=hR.out.f 0
    have g3:=hR.out.f 1
    have g4:=hR.out.lt
    have k0:=hF.out.c 0 rfl
    have k1:=hF.out.c 1 rfl
    have hcm0:=hM0.out.cap
    have hcm1:=hM1.out.cap
    have kP0:=hPp.out.c 0 rfl
    have kP1:=hPp.out.c 1 rfl
    have hgl:=hPp.out.lt
    have HFin:Hid (Mons2 ((wr.setCell ⟨w.heap.size,0,none⟩ (.int .i64 2)).setCell ⟨w.heap.size,1,none⟩ (.slice (some ⟨gP,0,none⟩) 2 2)) w.heap.size ((wr.setCell ⟨w.heap.size,0,none⟩ (.int .i64 2)).setCell ⟨w.heap.size,1,none⟩ (.slice (some ⟨gP,0,none⟩) 2 2)).heap.size (some ⟨gP,0,none⟩) 2 2 [partF ms 1,Jr.scaledF (partF ms 0) (-1)]):=by
     have hsame:Same (w.heap.size+1) wr.heap.size wr ((wr.setCell ⟨w.heap.size,0,none⟩ (.int .i64 2)).setCell ⟨w.heap.size,1,none⟩ (.slice (some ⟨gP,0,none⟩) 2 2)) :=
      Same.setCell (p:=⟨w.heap.size,1,none⟩) (Same.setCell (p:=⟨w.heap.size,0,none⟩) (Same.refl _ _ _) (.inl (Nat.lt_succ_self _)) _) (.inl (Nat.lt_succ_self _)) _
     have hsz:wr.heap.size≤((wr.setCell ⟨w.heap.size,0,none⟩ (.int .i64 2)).setCell ⟨w.heap.size,1,none⟩ (.slice (some ⟨gP,0,none⟩) 2 2)).heap.size:=by simp [World.setCell]
     have kPx:=(hPp.out.far (b:=w.heap.size) (i:=0) (by omega) (.int .i64 2)).far (b:=w.heap.size) (i:=1) (by omega) (.slice (some ⟨gP,0,none⟩) 2 2)
     have m0:=((hM0.out.wide (lo':=w.heap.size+1) (by omega) (Nat.le_refl _)).same hsame).wide (lo':=w.heap.size) (by omega) hsz
     have m1:=((hM1.out.wide (lo':=w.heap.size+1) (by omega) (Nat.le_refl _)).same hsame).wide (lo':=w.heap.size) (by omega) hsz
     refine ⟨rfl,Nat.le_refl _,by omega,fun _=>⟨_,rfl,by show w.heap.size≤gP;omega,by show gP<_;omega,fun j q hq=>?_⟩⟩
     match j,hq with
     | 0,hq =>
      obtain rfl:partF ms 1=q:=by simpa using hq
      exact ⟨B0,n0,c0,kPx.c 0 rfl,m0⟩
     | 1,hq =>
      obtain rfl:Jr.scaledF (partF ms 0) (-1)=q:=by simpa using hq
      exact ⟨B1,n1,c1,kPx.c 1 rfl,m1⟩
     | j+2,hq=>simp at hq
    have HBf:=hide ((hB.out.setCell (p:=⟨w.heap.size,0,none⟩) (Nat.le_refl _) (.int .i64 2)).setCell (p:=⟨w.heap.size,1,none⟩) (Nat.le_refl _) (.slice (some ⟨gP,0,none⟩) 2 2))
    clear hM0 hM1 hB hPp hR hF kP0 kP1
    go_wp2_with fail
    refine bodyPost_ret (v := .tuple #[.agg #[.int .i64 2,.slice (some ⟨gP,0,none⟩) 2 2],.bool true]) (by simp [results,Tryz.results10,go_sem,g0,g1,g2,g3,g4]) rfl ⟨HBf.out,.inr ⟨HPF.out,gP,rfl,HFin.out⟩⟩
end Go.Proofs.YtomgcbfcnjbofaaGreat
