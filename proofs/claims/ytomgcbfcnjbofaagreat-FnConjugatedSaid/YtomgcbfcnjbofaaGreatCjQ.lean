/- What the law says of a conjugate pair, in plain Lean. -/
import Derived.Test.YtomgcbfcnjbofaaGreatMgT
import Derived.Test.YtomgcbfcnjbofaaGreatDtO
import Derived.Test.YtomgcbfcnjbofaaGreatJetR
namespace Go.Proofs.YtomgcbfcnjbofaaGreat
open Go.RowKit
set_option linter.unusedSimpArgs false
set_option linter.unusedVariables false
set_option maxRecDepth 20000
theorem turn_col {L:List (List Int)} {n i:Nat} (hi:i<L.length) (hl:(L.getD i []).length=n):(turnL L n).map (fun r=>r.getD i 0)=L.getD i []:=by
 apply List.ext_getElem?
 intro j
 rw [List.getElem?_map]
 by_cases hj:j<n
 ·rw [turn_at L hj]
  have e:(L.getD i [])[j]? = some ((L.getD i []).getD j 0):=by
   rw [List.getD_eq_getElem?_getD (l:=L.getD i []),List.getElem?_eq_getElem (show j<(L.getD i []).length by omega)]
   rfl
  rw [e]
  show some (List.getD (L.map fun r=>r.getD j 0) i 0)=_
  congr 1
  rw [List.getD_eq_getElem?_getD,List.getElem?_map,List.getElem?_eq_getElem hi,List.getD_eq_getElem?_getD (l:=L),List.getElem?_eq_getElem hi]
  rfl
 ·rw [List.getElem?_eq_none (by rw [turn_len];omega),List.getElem?_eq_none (by omega)]
  rfl
theorem drop_col (X:List (List Int)) (i:Nat):(X.map (List.drop 2)).map (fun r=>r.getD i 0)=X.map fun r=>r.getD (2+i) 0:=by
 rw [List.map_map]
 refine List.map_congr_left fun r _=>?_
 show (r.drop 2).getD i 0=_
 rw [List.getD_eq_getElem?_getD,List.getElem?_drop,List.getD_eq_getElem?_getD]
theorem turn_row {L:List (List Int)} {n k:Nat} (hl:L.length=k) (hn:∀ r∈L,∀ x∈r,0≤x∧x<1000000271):∀ r∈turnL L n,r.length=k∧∀ x∈r,0≤x∧x<1000000271:=by
 intro r hr
 simp only [turnL,List.mem_map] at hr
 obtain ⟨j,_,rfl⟩:=hr
 refine ⟨by simpa using hl,fun x hx=>?_⟩
 obtain ⟨q,hq,rfl⟩:=List.mem_map.1 hx
 by_cases hj:j<q.length
 ·rw [List.getD_eq_getElem?_getD,List.getElem?_eq_getElem hj]
  exact hn q hq _ (List.getElem_mem hj)
 ·rw [List.getD_eq_getElem?_getD,List.getElem?_eq_none (by omega)]
  constructor <;> decide
theorem path_four:∀ yss:List (List Int),(∀ r∈yss,r.length=4∧∀ x∈r,0≤x∧x<1000000271)→pathGo 4 yss=true
 | [],_=>rfl
 | r :: yss,h=>by
  have h2:=h r List.mem_cons_self
  rw [pathGo,if_pos]
  ·exact path_four yss fun r hr=>h r (List.mem_cons_of_mem _ hr)
  ·rw [decide_eq_true (by omega),allNumF_of h2.2];rfl
theorem out_rows {n S:Nat} {ps:List (List Mono)} {L:List (List Int)} (tA tB:Nat→List Int) (hn:JNum n L):∀ r∈outJ n 4 S ps L tA tB,∀ x∈r,0≤x∧x<1000000271:=by
 intro r hr
 simp only [outJ,List.mem_map] at hr
 obtain ⟨i,_,rfl⟩:=hr
 refine acc_num _ _ (fun x hx=>?_) S
 by_cases hi:i<L.length
 ·rw [List.getD_eq_getElem?_getD,List.getElem?_eq_getElem hi] at hx
  exact (hn _ (List.getElem_mem hi)).2 x hx
 ·rw [List.getD_eq_getElem?_getD,List.getElem?_eq_none (by omega)] at hx
  cases hx
theorem out_col {n S:Nat} {ps:List (List Mono)} {L:List (List Int)} (tA tB:Nat→List Int) {i:Nat} (hi:i<4):(outJ n 4 S ps L tA tB).getD i []=outA (n:=n) (S:=S) (ps:=ps) (ys:=L) tA tB i:=by
 rw [List.getD_eq_getElem?_getD,outJ_at ps L tA tB hi]
 rfl
theorem en_turn {n:Nat} {xss:List (List Int)} (hl:xss.length=n) (hr:∀ r∈xss,r.length=4∧∀ x∈r,0≤x∧x<1000000271):JNum n (turnL xss 4)∧∀ i,i<4→(turnL xss 4).getD i []=xss.map fun r=>r.getD i 0:=by
 refine ⟨?_,fun i hi=>?_⟩
 ·have:=turn_num hr
  rw [hl] at this
  exact this
 ·rw [List.getD_eq_getElem?_getD,turn_at xss hi]
  rfl
theorem step_cols {n S:Nat} {ps:List (List Mono)} {xss:List (List Int)} (tA tB:Nat→List Int) (hl:xss.length=n) (hr:∀ r∈xss,r.length=4∧∀ x∈r,0≤x∧x<1000000271) {i:Nat} (hi:i<2) :
  ((turnL (outJ n 4 S ps (turnL xss 4) tA tB) n).map (List.drop 2)).map (fun r=>r.getD i 0)=outA (n:=n) (S:=S) (ps:=ps) (ys:=turnL xss 4) tA tB (2+i):=by
 rw [drop_col,turn_col (by rw [outJ_len];omega),out_col tA tB (by omega)]
 rw [out_col tA tB (by omega),outA_len tA tB]
 rw [(en_turn hl hr).2 (2+i) (by omega),List.length_map,hl]
structure CjR (n:Nat) (X Y xss yss:List (List Int)):Prop where
 l1:X.length=n
 l2:Y.length=n
 r1:∀ r∈X,r.length=4∧∀ x∈r,0≤x∧x<1000000271
 r2:∀ r∈Y,r.length=4∧∀ x∈r,0≤x∧x<1000000271
 form:formJ n ((X.map (List.drop 2)).map fun r=>r.getD 0 0) ((X.map (List.drop 2)).map fun r=>r.getD 1 0) ((Y.map (List.drop 2)).map fun r=>r.getD 0 0) ((Y.map (List.drop 2)).map fun r=>r.getD 1 0) =
  formJ n ((xss.map (List.drop 2)).map fun r=>r.getD 0 0) ((xss.map (List.drop 2)).map fun r=>r.getD 1 0) ((yss.map (List.drop 2)).map fun r=>r.getD 0 0) ((yss.map (List.drop 2)).map fun r=>r.getD 1 0)
theorem conj_tab {k:Nat} {xs ys:List Int} (hk:k≤8) (t1:tabOkF (k:Int) xs ys=true):tabOkF (k:Int) (conjL k xs ys) ys=true:=by
 have hxn:=allNumF_of (conjL_num k xs ys)
 unfold tabOkF at t1 ⊢
 simp only [Bool.and_eq_true,decide_eq_true_eq] at t1 ⊢
 obtain ⟨h1,h2,h3,h4,h5⟩:=t1
 refine ⟨h1,?_,h3,hxn,h5⟩
 rw [conjL_len]
 simp
theorem conj_pair {k:Nat} {xs ys:List Int} (hk:k≤8) (t1:tabOkF (k:Int) xs ys=true):pairOkF (k:Int) xs ys (k:Int) (conjL k xs ys) ys=true:=by
 unfold pairOkF
 rw [t1,conj_tab hk t1]
 simp
theorem conj_sym {k:Nat} {xs ys:List Int} (hk:k≤8) (t1:tabOkF (k:Int) xs ys=true) (hz:¬ (0:Int)∈ys):symF (k:Int) xs ys (k:Int) (conjL k xs ys) ys=true:=by
 have hyl:ys.length=k:=by
  obtain ⟨q,e,_,_,h⟩:=tabOk_facts t1
  omega
 have hyn:∀ y∈ys,0≤y∧y<1000000271:=by
  unfold tabOkF at t1
  simp only [Bool.and_eq_true,decide_eq_true_eq] at t1
  exact allNumF_mem t1.2.2.2.2
 unfold symF
 rw [if_pos (conj_pair hk t1)]
 simp only [Int.toNat_natCast]
 rw [conj_symI hyl hyn hz]
 simp
theorem conj_law {k n:Nat} {xs ys:List Int} {ms:List Mono} {qs:List (List Mono)} {xss yss:List (List Int)} (hk:k≤8) (t1:tabOkF (k:Int) xs ys=true) (hz:¬ (0:Int)∈ys)
  (hT:TanP (partF ms 1) (Jr.scaledF (partF ms 0) (-1)) qs) (hf:fieldF 4 qs=true) (hl:∀ q∈ms,q.2.length=2) (hE:EnP n xss yss) (hn1:1≤n) (hn7:n≤7) :
  CjR n (pairAl (k:Int) xs ys (k:Int) (conjL k xs ys) ys 4 qs [0,1,0,1] xss) (pairAl (k:Int) xs ys (k:Int) (conjL k xs ys) ys 4 qs [0,1,0,1] yss) xss yss:=by
 have hyl:ys.length=k:=by
  obtain ⟨q,e,_,_,h⟩:=tabOk_facts t1
  omega
 have hyn:∀ y∈ys,0≤y∧y<1000000271:=by
  unfold tabOkF at t1
  simp only [Bool.and_eq_true,decide_eq_true_eq] at t1
  exact allNumF_mem t1.2.2.2.2
 have hok:∀ zss:List (List Int),zss.length=n→(∀ r∈zss,r.length=4∧∀ x∈r,0≤x∧x<1000000271)→pairAlOk (k:Int) xs ys (k:Int) (conjL k xs ys) ys ((4:Nat):Int) qs [0,1,0,1] zss=true:=fun zss h1 h2=>by
  unfold pairAlOk colOkF pathOkF
  rw [conj_pair hk t1,show ((4:Nat):Int)=4 from rfl,hf,path_four zss h2,h1,decide_eq_true hn1,decide_eq_true hn7]
  rfl
 have eX:=pairAl_ok (hok xss hE.l1 hE.r1) hE.l1
 have eY:=pairAl_ok (hok yss hE.l2 hE.r2) hE.l2
 rw [show ((4:Nat):Int)=4 from rfl] at eX eY
 rw [eX,eY]
 obtain ⟨jx,cx⟩:=en_turn hE.l1 hE.r1
 obtain ⟨jy,cy⟩:=en_turn hE.l2 hE.r2
 refine ⟨turn_len _ _,turn_len _ _,turn_row (outJ_len _ _ _ _ _ _ _) (out_rows _ _ jx),turn_row (outJ_len _ _ _ _ _ _ _) (out_rows _ _ jy),?_⟩
 rw [step_cols _ _ hE.l1 hE.r1 (show 0<2 by omega),step_cols _ _ hE.l1 hE.r1 (show 1<2 by omega),step_cols _ _ hE.l2 hE.r2 (show 0<2 by omega),step_cols _ _ hE.l2 hE.r2 (show 1<2 by omega)]
 have hlen:∀ zss:List (List Int),JNum n (turnL zss 4)→∀ i,i<4→((turnL zss 4).getD i []).length=n:=fun zss hj i hi=>by
  have hlt:i<(turnL zss 4).length:=by rw [turn_len];exact hi
  rw [List.getD_eq_getElem?_getD,List.getElem?_eq_getElem hlt]
  exact (hj _ (List.getElem_mem hlt)).1
 have hk2:=form_kept (n:=n) (S:=k) (h:=ms) (ps:=qs) (ys:=turnL xss 4) (zs:=turnL yss 4) (xs:=xs) (xs':=conjL k xs ys) (bs:=ys) (fun i=>if ([0,1,0,1]:List Int).getD i 0=0 then xs else conjL k xs ys) (fun i=>if ([0,1,0,1]:List Int).getD i 0=0 then ys else ys) hT hl (hlen xss jx) (hlen yss jy)
  (by rw [cx 0 (by omega),cy 0 (by omega)];exact hE.e0) (by rw [cx 1 (by omega),cy 1 (by omega)];exact hE.e1) rfl rfl rfl rfl (conj_symI hyl hyn hz)
 refine hk2.trans ?_
 rw [cx 2 (by omega),cx 3 (by omega),cy 2 (by omega),cy 3 (by omega),drop_col,drop_col,drop_col,drop_col]
theorem field_lens {ms:List Mono} (h:∀ q∈ms,q.2.length=2):∀ p∈[partF ms 1,Jr.scaledF (partF ms 0) (-1)],∀ m∈p,m.2.length≤1048576:=by
 intro p hp m hm
 simp only [List.mem_cons,List.not_mem_nil,or_false] at hp
 rcases hp with rfl | rfl
 ·have:=part_len h m hm;omega
 ·obtain ⟨q,hq,rfl⟩:=List.mem_map.1 hm
  have:=part_len h q hq
  show q.2.length≤_
  omega
theorem law_lens {qs:List (List Mono)} (h:fieldF 4 qs=true):∀ p∈qs,∀ m∈p,m.2.length≤1048576:=by
 intro p hp m hm
 obtain ⟨h1,_,_⟩:=field_good (dim:=4) h
 have:=(h1.2 p hp m hm).2.1
 omega
theorem ros_rows {w:World} {lo hi:Nat} {A:Option Addr} {n c:Nat} {xss:List (List Int)} {T:TypeId} (h:Ros kO T w lo hi A n c xss) (hr:∀ r∈xss,r.length=4∧∀ x∈r,0≤x∧x<1000000271) :
  ∀ ad,A=some ad→∀ k,k<n→∀ B m d,w.cell? (ad.add k)=some (.slice B m d)→m=4∧∃ g,B=some ⟨g,0,none⟩:=by
 intro ad e k hk B m d hc
 rcases h with ⟨rfl,rfl,_,_,_⟩ | ⟨g,vs,rfl,hO⟩
 ·omega
 injection e with e
 subst e
 have hs:=hO.stk
 have hl:=hO.len
 rw [List.take_of_length_le (by have:=hO.vlen;omega),List.take_of_length_le (by omega)] at hs
 obtain ⟨v,l,m2,h1,h2,_⟩:=hs.get (List.getElem?_eq_getElem (show k<xss.length by omega))
 obtain ⟨B2,m3,d2,rfl,hI⟩:=h2
 obtain ⟨v',hv,hv2,_⟩:=hO.at_ hk
 rw [Addr.add_lit,Nat.zero_add,hv] at hc
 rw [h1] at hv2
 injection hv2 with hv2
 subst hv2
 injection hc with hc
 injection hc with e1 e2 e3
 subst e1 e2 e3
 have h4:=(hr _ (List.getElem_mem (show k<xss.length by omega))).1
 have hm:m3=4:=by rw [← hI.len];exact h4
 obtain ⟨g',e',_⟩:=hI.form (by omega)
 exact ⟨hm,g',e'⟩
theorem rowsO_rows {w:World} {lo:Nat} {A:Option Addr} {n c:Nat} {vs:List Value} {xss:List (List Int)} (h:RowsO w lo A n c vs xss) (hr:∀ r∈xss,r.length=4∧∀ x∈r,0≤x∧x<1000000271) :
  ∀ ad,A=some ad→∀ k,k<n→∀ B m d,w.cell? (ad.add k)=some (.slice B m d)→m=4∧∃ g,B=some ⟨g,0,none⟩:=by
 intro ad e k hk B m d hc
 subst e
 obtain ⟨g,e,_⟩:=ownForm h.own (by omega)
 injection e with e
 subst e
 have hl:=h.len
 obtain ⟨B2,m3,d2,h1,h2,_⟩:=h.row k _ (List.getElem?_eq_getElem (show k<xss.length by omega))
 rw [Addr.add_lit,Nat.zero_add,h.own.cellAt k (by have:=own_len h.own;omega),h1] at hc
 injection hc with hc
 injection hc with e1 e2 e3
 subst e1 e2 e3
 have h4:=(hr _ (List.getElem_mem (show k<xss.length by omega))).1
 have hm:m3=4:=by have:=own_len h2;simp at this;omega
 obtain ⟨g',e',_⟩:=ownForm h2 (by omega)
 exact ⟨hm,g',e'⟩
theorem rows_keep {w W:World} {lo hi:Nat} {A:Option Addr} {n c:Nat} {xss:List (List Int)} (h:∀ ad,A=some ad→∀ k,k<n→∀ B m d,w.cell? (ad.add k)=some (.slice B m d)→m=4∧∃ g,B=some ⟨g,0,none⟩) (hI:Ints2 w lo hi A n c xss) (hh:hi≤w.heap.size) (hb:Below w.heap.size w W) :
  ∀ ad,A=some ad→∀ k,k<n→∀ B m d,W.cell? (ad.add k)=some (.slice B m d)→m=4∧∃ g,B=some ⟨g,0,none⟩:=by
 intro ad e k hk B m d hc
 refine h ad e k hk B m d ?_
 obtain ⟨ad',e',_,h3,_⟩:=hI.cells (by omega)
 rw [e] at e'
 injection e' with e'
 subst e'
 rwa [hb.cell (p:=ad.add k) (by rw [block_of_add];omega)] at hc
theorem Ints2.wideD2 {w:World} {lo lo' hi:Nat} {A:Option Addr} {n c:Nat} {xss:List (List Int)} (h:Ints2 w lo hi A n c xss) (h1:lo'≤lo):Ints2 w lo' hi A n c xss :=
 ⟨h.len,h.cap,h.max,fun hn=>by
  obtain ⟨ad,e,h2,h3,hc⟩:=h.cells hn
  refine ⟨ad,e,by omega,h3,fun j xs hj=>?_⟩
  obtain ⟨B,m,d,e1,e2⟩:=hc j xs hj
  exact ⟨B,m,d,e1,e2.wide h1 (Nat.le_refl _)⟩⟩
theorem RowsO.ints2G {w:World} {lo:Nat} {A:Option Addr} {n c:Nat} {vs:List Value} {xss:List (List Int)} (h:RowsO w lo A n c vs xss):Ints2 w lo w.heap.size A n c xss:=by
 by_cases hn:0<n
 ·obtain ⟨g,rfl,_⟩:=ownForm h.own hn
  exact h.ints2
 ·obtain rfl:n=0:=by omega
  exact ⟨h.len,h.capO.1,h.capO.2,fun h0=>by omega⟩
theorem shaped_true {X:List (List Int)} {n:Nat} (hl:X.length=n) (hr:∀ r∈X,r.length=4∧∀ x∈r,0≤x∧x<1000000271):shapedF X (n:Int) 4=true:=by
 unfold shapedF
 rw [Bool.and_eq_true]
 refine ⟨List.all_eq_true.2 fun r h=>?_,by rw [hl];simp⟩
 have:=(hr r h).1
 simp only [decide_eq_true_eq]
 omega
theorem drop_rows {X:List (List Int)} (hr:∀ r∈X,r.length=4∧∀ x∈r,0≤x∧x<1000000271):∀ r∈X.map (List.drop 2),r.length=2∧∀ x∈r,0≤x∧x<1000000271:=by
 intro r h
 obtain ⟨q,hq,rfl⟩:=List.mem_map.1 h
 have:=hr q hq
 exact ⟨by rw [List.length_drop];omega,fun x hx=>this.2 x (List.mem_of_mem_drop hx)⟩
end Go.Proofs.YtomgcbfcnjbofaaGreat
