/- Rows of tableaus, colours, and whether a field, colours and a path are fine. -/
import Derived.Test.YtomgcbfcnjbofaaGreatMgK
import Derived.Test.YtomgcbfcnjbofaaGreatMgG
import Derived.Test.YtomgcbfcnjbofaaGreatMgF
import Derived.Test.YtomgcbfcnjbofaaGreatMgB
namespace Go.Proofs.YtomgcbfcnjbofaaGreat
open Go.RowKit
set_option linter.unusedSimpArgs false
set_option linter.unusedVariables false
set_option maxRecDepth 20000
theorem impl_rowJ (k:Nat) (gA n c:Nat) (B:Option Addr) (m d:Nat) (i:Nat) (w:World) (hk:k≤8) (hn:n=k*k) (hi:i<k) (hc:n≤c) (hc2:c≤9223372036854775807) :
  Calls Tryz.prog 26 #[.agg #[.int .i64 (k:Int),.slice (some ⟨gA,0,none⟩) n c,.slice B m d],.int .i64 (i:Int)] w fun e w'=>e = .returned (.slice (some ⟨gA,i*k,none⟩) k (c - i*k))∧Below w.heap.size w w':=by
 have a1:=below_alloc w (.cells #[.int .i64 (k:Int),.slice (some ⟨gA,0,none⟩) n c,.slice B m d] 26)
 have h64:n≤64:=by rw [hn];exact Nat.mul_le_mul hk hk
 have hle:i*k+k≤n:=by
  rw [hn]
  have:(i+1)*k≤k*k:=Nat.mul_le_mul_right _ hi
  rwa [Nat.add_mul,Nat.one_mul] at this
 obtain ⟨q,hq⟩:∃ q:Nat,q=i*k:=⟨_,rfl⟩
 rw [← hq] at hle ⊢
 have hqi:(i:Int)*(k:Int)=(q:Int):=by rw [hq];simp
 have hqj:((i:Int)+1)*(k:Int)=((q+k:Nat):Int):=by rw [Int.add_mul,Int.one_mul,hqi];simp
 have hw1:=IntWalk.i64_in (q:Int) (by omega)
 have hw2:=IntWalk.i64_in ((q+k:Nat):Int) (by omega)
 have hw3:=IntWalk.i64_in ((i:Int)+1) (by omega)
 have hqc:¬ c=q:=by omega
 have hsub:q+k - q=k:=by omega
 clear hq hn
 go_enter Tryz.func26,Tryz.ntmps26
 go_wp2_with fail
 rw [hsub]
 go_ret
 exact ⟨rfl,a1⟩
theorem spec_rowJ (k:Nat) (gA n c:Nat) (B:Option Addr) (m d:Nat) (i:Nat) (w:World) (hk:k≤8) (hn:n=k*k) (hi:i<k) (hc:n≤c) (hc2:c≤9223372036854775807) :
  Calls Tryz.prog 96 #[.agg #[.int .i64 (k:Int),.slice (some ⟨gA,0,none⟩) n c,.slice B m d],.int .i64 (i:Int)] w fun e w'=>e = .returned (.slice (some ⟨gA,i*k,none⟩) k (c - i*k))∧Below w.heap.size w w':=by
 have a1:=below_alloc w (.cells #[.int .i64 (k:Int),.slice (some ⟨gA,0,none⟩) n c,.slice B m d] 26)
 have h64:n≤64:=by rw [hn];exact Nat.mul_le_mul hk hk
 have hle:i*k+k≤n:=by
  rw [hn]
  have:(i+1)*k≤k*k:=Nat.mul_le_mul_right _ hi
  rwa [Nat.add_mul,Nat.one_mul] at this
 obtain ⟨q,hq⟩:∃ q:Nat,q=i*k:=⟨_,rfl⟩
 rw [← hq] at hle ⊢
 have hqi:(i:Int)*(k:Int)=(q:Int):=by rw [hq];simp
 have hqj:((i:Int)+1)*(k:Int)=((q+k:Nat):Int):=by rw [Int.add_mul,Int.one_mul,hqi];simp
 have hw1:=IntWalk.i64_in (q:Int) (by omega)
 have hw2:=IntWalk.i64_in ((q+k:Nat):Int) (by omega)
 have hw3:=IntWalk.i64_in ((i:Int)+1) (by omega)
 have hqc:¬ c=q:=by omega
 have hsub:q+k - q=k:=by omega
 clear hq hn
 go_enter Tryz.func96,Tryz.ntmps96
 go_wp2_with fail
 rw [hsub]
 go_ret
 exact ⟨rfl,a1⟩
set_option maxHeartbeats 1000000 in
theorem impl_fieldPathOkJ (o:Int) (P:Option Addr) (k e:Nat) (ps:List (List Mono)) (X:Option Addr) (x f:Nat) (xss:List (List Int)) (lo hi:Nat) (w:World) (hp:Mons2 w lo hi P k e ps) (hx:Ints2 w lo hi X x f xss) (hh:hi≤w.heap.size) (hlen:∀ p∈ps,∀ m∈p,m.2.length≤1048576) :
  Calls Tryz.prog 81 #[.agg #[.int .i64 o,.slice P k e],.slice X x f] w fun r w'=>r = .returned (.bool (fieldF o ps && pathOkF xss o))∧Below w.heap.size w w':=by
 have xcp:=hx.cap
 have xmx:=hx.max
 have B0:=below_alloc w (.cells #[.int .i64 o,.slice P k e] 40)
 have j1:=BlkN.new w #[.int .i64 o,.slice P k e] 40
 go_enter Tryz.func81,Tryz.ntmps81
 go_wp2_with fail
 generalize w.alloc (.cells #[.int .i64 o,.slice P k e] 40)=W at B0 j1 ⊢
 have s0:=B0.size
 refine (impl_FieldOk o P k e ps lo hi W (hp.below B0 hh) (by omega) hlen).mono ?_
 rintro r w1 ⟨rfl,b1⟩
 have B1:=B0.trans (b1.mono s0)
 have s1:=B1.size
 have j2:=j1.below b1
 clear b1 B0 j1
 have p1:=j2.c 0 rfl
 cases ht:fieldF o ps with
 | false =>
  have hG:Hid ((fieldF o ps && pathOkF xss o)=false):=by show _=_;rw [ht];rfl
  clear ht
  go_wp2_with fail
  go_ret
  exact ⟨ret_bool hG.out.symm,B1⟩
 | true =>
  have hG:Hid ((fieldF o ps && pathOkF xss o)=pathOkF xss o):=by show _=_;rw [ht];rfl
  clear ht
  go_wp2_with fail
  refine (impl_PathOk X x f xss lo hi o w1 (hx.below B1 hh)).mono ?_
  rintro r w2 ⟨rfl,rfl⟩
  go_wp2_with fail
  go_ret
  exact ⟨ret_bool hG.out.symm,B1⟩
def colGo:List Int→Bool
 | []=>true
 | c :: r=>if c=0∨c=1 then colGo r else false
theorem colGo_step {cs:List Int} {k:Nat} {c:Int} (hd:cs.drop k=c :: cs.drop (k+1)) (h:c=0∨c=1):colGo (cs.drop k)=colGo (cs.drop (k+1)):=by rw [hd,colGo,if_pos h]
theorem colGo_no {cs:List Int} {k:Nat} {c:Int} (hd:cs.drop k=c :: cs.drop (k+1)) (h:¬ (c=0∨c=1)):colGo (cs.drop k)=false:=by rw [hd,colGo,if_neg h]
theorem colGo_mem:∀ (cs:List Int),colGo cs=true→∀ c∈cs,c=0∨c=1
 | [],_,_,h=>absurd h (by simp)
 | c :: r,h,d,hd=>by
  rw [colGo] at h
  split at h
  ·rcases List.mem_cons.1 hd with rfl | hd
   ·assumption
   ·exact colGo_mem r h d hd
  ·cases h
def colOkF (o:Int) (ps:List (List Mono)) (cs:List Int) (xss:List (List Int)):Bool:=(fieldF o ps && pathOkF xss o) && (decide ((cs.length:Int)=o) && colGo cs)
set_option maxRecDepth 100000 in
set_option maxHeartbeats 1000000 in
theorem impl_coloursOk (o:Int) (P:Option Addr) (k e:Nat) (ps:List (List Mono)) (C:Option Addr) (n c:Nat) (cs:List Int) (X:Option Addr) (x f:Nat) (xss:List (List Int)) (lo hi:Nat) (w:World) (hp:Mons2 w lo hi P k e ps) (hc:Ints w lo hi C n c cs) (hx:Ints2 w lo hi X x f xss) (hh:hi≤w.heap.size) (hlen:∀ p∈ps,∀ m∈p,m.2.length≤1048576) :
  Calls Tryz.prog 45 #[.agg #[.int .i64 o,.slice P k e],.slice C n c,.slice X x f] w fun r w'=>r = .returned (.bool (colOkF o ps cs xss))∧Below w.heap.size w w':=by
 have ccp:=hc.cap
 have cmx:=hc.max
 have xcp:=hx.cap
 have xmx:=hx.max
 have B0:=below_alloc w (.cells #[.int .i64 o,.slice P k e] 40)
 have j1:=BlkN.new w #[.int .i64 o,.slice P k e] 40
 have hcl:=hide hc.len
 go_enter Tryz.func45,Tryz.ntmps45
 go_wp2_with fail
 generalize w.alloc (.cells #[.int .i64 o,.slice P k e] 40)=W at B0 j1 ⊢
 have s0:=B0.size
 refine (impl_fieldPathOkJ o P k e ps X x f xss lo hi W (hp.below B0 hh) (hx.below B0 hh) (by omega) hlen).mono ?_
 rintro r w1 ⟨rfl,b1⟩
 have B1:=hide (B0.trans (b1.mono s0))
 have HC:=hide (hc.below B1.out hh)
 have s1:=B1.out.size
 have j2:=j1.below b1
 clear b1 B0 j1 hp hx hc
 have p0:=j2.c 0 rfl
 cases ht:(fieldF o ps && pathOkF xss o) with
 | false =>
  have hG:Hid (colOkF o ps cs xss=false):=by show _=_;unfold colOkF;rw [ht];rfl
  clear ht
  go_wp2_with fail
  go_ret
  exact ⟨ret_bool hG.out.symm,B1.out⟩
 | true =>
  by_cases hn:(n:Int)=o
  ·have hG:Hid (colOkF o ps cs xss=colGo (cs.drop 0)):=by show _=_;unfold colOkF;rw [ht,hcl.out,decide_eq_true hn];rfl
   clear ht
   subst hn
   go_wp2_with fail
   clear p0 j2
   go_loop [22] (fun i=>∃ (j:Nat),j≤n∧i = .int .i64 j∧Hid (colOkF (n:Int) ps cs xss=colGo (cs.drop j))) (fun i=>n - (intOf i).toNat)
   case atStart=>exact ⟨0,by omega,rfl,hG.out⟩
   case round =>
    clear hG
    obtain ⟨j,hj,rfl,hG⟩:=hrel
    by_cases hlt:j<n
    ·obtain ⟨ad,y,rfl,hcx,hr,hd,_⟩:=HC.out.at_ hlt
     by_cases hy:y=0∨y=1
     ·have hG2:Hid (colOkF (n:Int) ps cs xss=colGo (cs.drop (j+1))):=by show _=_;rw [hG.out];exact colGo_step hd.out hy
      clear hd hG hr
      rcases hy with rfl | rfl
      all_goals
       go_wp2_with fail
       go_round
       case rel=>exact ⟨j+1,by omega,by go_num,hG2.out⟩
       case measure=>simp [intOf];omega
     ·have hF:Hid (colOkF (n:Int) ps cs xss=false):=by show _=_;rw [hG.out,colGo_no hd.out hy]
      have y0:(y != 0)=true:=by simp;omega
      have y1:(y != 1)=true:=by simp;omega
      clear hd hG hr hy
      go_wp2_with fail
      go_ret
      exact ⟨ret_bool hF.out.symm,B1.out⟩
    ·obtain rfl:n=j:=by omega
     have hG2:Hid (colOkF (n:Int) ps cs xss=true):=by show _=_;rw [hG.out,List.drop_eq_nil_of_le (Nat.le_of_eq hcl.out),colGo]
     clear hG
     go_wp2_with fail
     go_ret
     exact ⟨ret_bool hG2.out.symm,B1.out⟩
  ·have hG:Hid (colOkF o ps cs xss=false):=by show _=_;unfold colOkF;rw [ht,hcl.out,decide_eq_false hn];rfl
   have hne:((n:Int) != o)=true:=by simpa using hn
   clear ht hn
   go_wp2_with fail
   go_ret
   exact ⟨ret_bool hG.out.symm,B1.out⟩
set_option maxHeartbeats 1000000 in
theorem impl_of (s:Int) (A:Option Addr) (n c:Nat) (B:Option Addr) (m d:Nat) (s':Int) (A':Option Addr) (n' c':Nat) (B':Option Addr) (m' d':Nat) (q:Int) (w:World) (hq:q=0∨q=1) :
  Calls Tryz.prog 46 #[.agg #[.int .i64 s,.slice A n c,.slice B m d,.int .i64 s',.slice A' n' c',.slice B' m' d'],.int .i64 q] w fun r w'=>r = .returned (if q=0 then .agg #[.int .i64 s,.slice A n c,.slice B m d] else .agg #[.int .i64 s',.slice A' n' c',.slice B' m' d'])∧Below w.heap.size w w':=by
 have b0:=below_alloc w (.cells #[.int .i64 s,.slice A n c,.slice B m d,.int .i64 s',.slice A' n' c',.slice B' m' d'] 30)
 have k0:=BlkN.new w #[.int .i64 s,.slice A n c,.slice B m d,.int .i64 s',.slice A' n' c',.slice B' m' d'] 30
 have z0:(w.alloc (.cells #[.int .i64 s,.slice A n c,.slice B m d,.int .i64 s',.slice A' n' c',.slice B' m' d'] 30)).heap.size=w.heap.size+1:=by simp
 go_enter Tryz.func46,Tryz.ntmps46
 rcases hq with rfl | rfl
 ·go_wp2_with fail
  generalize w.alloc (.cells #[.int .i64 s,.slice A n c,.slice B m d,.int .i64 s',.slice A' n' c',.slice B' m' d'] 30)=W0 at b0 k0 z0 ⊢
  have k1:=BlkN.new W0 #[.int .i64 s,.slice A n c,.slice B m d] 26
  rw [z0] at k1
  have r0:=k1.c 0 rfl
  have r1:=k1.c 1 rfl
  have r2:=k1.c 2 rfl
  have lt1:=k1.lt
  refine bodyPost_ret (v := .agg #[.int .i64 s,.slice A n c,.slice B m d]) (by simp [results,Tryz.results46,go_sem,r0,r1,r2,lt1]) rfl ⟨by rfl,b0.alloc (by omega) _⟩
 ·go_wp2_with fail
  generalize w.alloc (.cells #[.int .i64 s,.slice A n c,.slice B m d,.int .i64 s',.slice A' n' c',.slice B' m' d'] 30)=W0 at b0 k0 z0 ⊢
  have k1:=BlkN.new W0 #[.int .i64 s',.slice A' n' c',.slice B' m' d'] 26
  rw [z0] at k1
  have r0:=k1.c 0 rfl
  have r1:=k1.c 1 rfl
  have r2:=k1.c 2 rfl
  have lt1:=k1.lt
  refine bodyPost_ret (v := .agg #[.int .i64 s',.slice A' n' c',.slice B' m' d']) (by simp [results,Tryz.results46,go_sem,r0,r1,r2,lt1]) rfl ⟨by rfl,b0.alloc (by omega) _⟩
end Go.Proofs.YtomgcbfcnjbofaaGreat
/- One step's sums: the program's closure. -/
namespace Go.Proofs.YtomgcbfcnjbofaaGreat
open Go.RowKit
set_option linter.unusedSimpArgs false
set_option linter.unusedVariables false
set_option maxRecDepth 20000
def kB (w0:World) (lo0 hi0:Nat):Kd (List Int):=⟨fun w l h v xs=>∃ B m d,v = .slice B m d∧(Ints w l h B m d xs∨Ints w0 lo0 hi0 B m d xs),fun ⟨B,m,d,e,hI⟩ hs=>⟨B,m,d,e,hI.elim (fun h => .inl (h.same hs)) .inr⟩,fun ⟨_,_,_,e,_⟩=>by rw [e];rfl⟩
theorem Lst.ints2B {T:TypeId} {w0 w:World} {lo0 hi0 lo hi:Nat} {A:Option Addr} {n c:Nat} {vs:List Value} {xss:List (List Int)} (h:Lst (kB w0 lo0 hi0) T (fun _=>True) w lo hi A n c vs xss) (hb:Below hi0 w0 w) (h0:hi0≤hi):Ints2 w 0 hi A n c xss:=by
 have hc:=h.capb
 refine ⟨h.len,hc.1,hc.2,fun hn=>?_⟩
 obtain ⟨g,rfl,h1,h2,_⟩:=h.form hn
 refine ⟨_,rfl,Nat.zero_le _,h2,fun j xs hj=>?_⟩
 obtain ⟨v,l,h',e1,⟨B,m,d,rfl,e2⟩,e3,e4,_⟩:=h.row j xs hj trivial
 have hvl:=h.vlen
 refine ⟨B,m,d,?_,?_⟩
 ·have hj2:=(List.getElem?_eq_some_iff.1 e1).1
  simpa [Addr.add_lit] using (h.own.cellAt j (by omega)).trans e1
 ·rcases e2 with e2 | e2
  ·exact e2.wide (Nat.zero_le _) e4
  ·exact (e2.below hb (Nat.le_refl _)).wide (Nat.zero_le _) h0
set_option maxRecDepth 100000 in
set_option maxHeartbeats 8000000 in
theorem impl_add (g5 g9 gy dim cy:Nat) (yss:List (List Int)) (lo hi n i:Nat) (R:Option Addr) (nR cR:Nat) (ws:List Int) (lo2 hi2:Nat) (A:Option Addr) (S cS:Nat) (st:List (List (List Int))) (lo3 hi3:Nat) (y:List Int) (w:World)
  (h5:w.cell? ⟨g5,0,none⟩=some (.slice (some ⟨gy,0,none⟩) dim cy)) (h9:w.cell? ⟨g9,0,none⟩=some (.slice A S cS))
  (hy:Ints2 w lo hi (some ⟨gy,0,none⟩) dim cy yss) (hw:Ints w lo2 hi2 R nR cR ws) (hs:Ints3 w lo3 hi3 A S cS st) (hh:hi≤w.heap.size) (hh2:hi2≤w.heap.size) (hh3:hi3≤w.heap.size)
  (hN:JNum n yss) (hS:St3 n dim st) (hSW:S≤nR) (hi1:i<dim) (hd6:dim≤6) (hn:n≤1000) (hS2:S≤1000) (hyi:yss[i]? = some y) :
  Calls Tryz.prog 82 #[.int .i64 (i:Int),.slice R nR cR,.pointer (some ⟨g5,0,none⟩),.pointer (some ⟨g9,0,none⟩)] w fun e w'=>∃ B d,e = .returned (.slice B n d)∧(Ints w' w.heap.size w'.heap.size B n d (accJ y (fun s=>(st.getD s []).getD i []) ws S)∨Ints w lo hi B n d (accJ y (fun s=>(st.getD s []).getD i []) ws S))∧Below w.heap.size w w':=by
 have hcy:=hy.cap
 have hmy:=hy.max
 have hcW:=hw.cap
 have hmW:=hw.max
 have hcS:=hs.cap
 have hmS:=hs.max
 have hsl:=hide hs.len
 obtain ⟨ay,B,m,d,y',e,hc,hI,_,hx⟩:=hy.at_ hi1
 injection e with e
 subst e
 obtain rfl:y=y':=by have:=hx.out;rw [hyi] at this;injection this
 have hyv:=hN y (List.mem_of_getElem? hyi)
 obtain rfl:n=m:=by rw [← hI.len];exact hyv.1.symm
 have hyl:=hide hyv.1
 have hyn:=hide hyv.2
 have hcd:=hI.cap
 have hmd:=hI.max
 have hc1:w.cell? ⟨gy,i,none⟩=some (.slice B n d):=by simpa [Addr.add_lit] using hc
 have HI:=hide hI
 have HW:=hide hw
 have HS:=hide hs
 have HSt:=hide hS
 obtain ⟨v,hv⟩:∃ v,v=fun s=>(st.getD s []).getD i []:=⟨_,rfl⟩
 have hvl:Hid (∀ s,s<S→(v s).length=n∧(st[s]?.map fun xss=>xss[i]?)=some (some (v s))):=fun s hs=>by
  have h1:s<st.length:=by rw [hsl.out];exact hs
  have h2:=HSt.out st[s] (List.getElem_mem h1)
  have h3:i<st[s].length:=by rw [h2.1];exact hi1
  have h4:v s=st[s][i]:=by rw [hv];simp [List.getD,h1,h3]
  refine ⟨?_,?_⟩
  ·rw [h4];exact (h2.2 _ (List.getElem_mem h3)).1
  ·rw [h4,List.getElem?_eq_getElem h1]
   show some (st[s][i]?)=_
   rw [List.getElem?_eq_getElem h3]
 rw [← hv]
 have HC9:=hide fun (w':World) (hB:Below w.heap.size w w')=>(hB.cell (p:=⟨g9,0,none⟩) (World.block_lt_of_cell? w _ h9)).trans h9
 clear hv hc hI hx hyv hy hw hs hN hS hyi
 go_enter Tryz.func82,Tryz.ntmps82
 go_wp2_with fail
 clear hc1 h5
 go_loopw [7,15] (fun o z wr=>∃ (s:Nat) (B:Option Addr) (d:Nat),s≤S∧z = .int .i64 s∧o = .slice B n d∧Hid (Ints wr w.heap.size wr.heap.size B n d (accJ y v ws s)∨Ints w lo hi B n d (accJ y v ws s))∧Hid (Below w.heap.size w wr)) (fun _ z _=>S - (intOf z).toNat)
 case atStart=>exact ⟨0,B,d,by omega,rfl,rfl,.inr HI.out,Below.refl _ _⟩
 case round =>
  clear h9
  obtain ⟨s,B,d,hs,rfl,rfl,hO,hb⟩:=hrel
  have hsz:=hb.out.size
  by_cases hlt2:s<S
  ·obtain ⟨hvn,hvat⟩:=hvl.out s hlt2
   have hwlt:s<nR:=by omega
   obtain ⟨aw,k,rfl,hcw,hkr,_,hkx⟩:=HW.out.at_ hwlt
   obtain ⟨ast,Bs,ms,ds,xss,rfl,hcs,hIs,hxs⟩:=HS.out.at_ hlt2
   have hxsm:=HSt.out xss (List.mem_of_getElem? hxs.out)
   obtain rfl:dim=ms:=by rw [← hIs.len];exact hxsm.1.symm
   obtain ⟨av,Bv,mv,dv,xv,rfl,hcv,hIv,_,hxv⟩:=hIs.at_ hi1
   have hve:v s=xv:=by
    rw [hxs.out] at hvat
    simp only [Option.map_some] at hvat
    injection hvat with hvat
    have:=hxv.out.symm.trans hvat
    injection this with this
    exact this.symm
   have hvx:=(hxsm.2 xv (List.mem_of_getElem? hxv.out))
   obtain rfl:n=mv:=by rw [← hIv.len];exact hvx.1.symm
   have hcs2:=hIs.cap
   have hms2:=hIs.max
   have hcv2:=hIv.cap
   have hmv2:=hIv.max
   have hT:Hid (accJ y v ws (s+1)=jplus (accJ y v ws s) (later1 xv) k):=by show _=_;rw [accJ,hve,List.getD,hkx.out];rfl
   have HCC:=hide fun (w':World) (hB:Below w.heap.size w w')=>show w'.cell? ⟨g9,0,none⟩=some (.slice (some ast) S cS)∧w'.cell? (ast.add s)=some (.slice (some av) dim ds)∧w'.cell? (av.add i)=some (.slice Bv n dv)∧w'.cell? (aw.add s)=some (.int .i64 k) from
    ⟨HC9.out w' hB,(hB.cell (World.block_lt_of_cell? w _ hcs)).trans hcs,(hB.cell (World.block_lt_of_cell? w _ hcv)).trans hcv,(hB.cell (World.block_lt_of_cell? w _ hcw)).trans hcw⟩
   obtain ⟨c0,c1,c2,c3⟩:=HCC.out _ hb.out
   have hOl:∃ l h,Ints wr l h B n d (accJ y v ws s)∧h≤wr.heap.size:=by
    rcases hO.out with h | h
    ·exact ⟨_,_,h,Nat.le_refl _⟩
    ·exact ⟨_,_,h.below hb.out hh,by omega⟩
   obtain ⟨ll,lh,hOi,hlh⟩:=hOl
   have hbd:=hide hb.out.drew
   have HOd:=hide (hOi.same (w':=wr.drew) (fun _ _ _=>rfl))
   have S1:=hide (HCC.out _ hbd.out)
   have zd:wr.drew.heap.size=wr.heap.size:=rfl
   have HLT:=hide (impl_later Bv n dv xv lo3 hi3 wr.drew (hIv.below hbd.out hh3) (by omega) hn)
   have hOc:=hOi.cap
   have hOm:=hOi.max
   clear hcw hcs hcv hIs hIv hve hxs hxv hvat hvx hxsm hvn hkx hOi hO
   go_wp2_with fail
   go_region_held3 (fun w'=>w'.cell? ⟨g9,0,none⟩=some (.slice (some ast) S cS)∧w'.cell? (ast.add s)=some (.slice (some av) dim ds)∧w'.cell? (av.add i)=some (.slice Bv n dv)∧w'.cell? (aw.add s)=some (.int .i64 k)) (first | exact S1.out | exact T6 | exact T7 | exact ⟨c0,c1,c2,c3⟩ | go_keep)
    (first
     | (go_at_call 83;refine HLT.out.mono ?_;rintro e w6 ⟨g6,rfl,hO6,hb6⟩;have hb7:=hide (hbd.out.trans (hb6.mono (by omega)));have T6:=HCC.out _ hb7.out;have z6:=hb6.size;have HPL:=hide (impl_plus B n d (accJ y v ws s) ll lh (some ⟨g6,0,none⟩) n (later1 xv) _ _ k w6 (HOd.out.below hb6 (by omega)) hO6.ints (by omega) (Nat.le_refl _) hn hkr);clear HLT)
     | (go_at_call 51;refine HPL.out.mono ?_;rintro e w7 ⟨g7,rfl,hO7,hb8⟩;have hb9:=hide (hb7.out.trans (hb8.mono (by omega)));have T7:=HCC.out _ hb9.out;have hI7:=hide (hO7.ints.wide (lo':=w.heap.size) (by omega) (Nat.le_refl _));clear HPL))
   rw [← hT.out] at hI7
   clear T6 T7 S1 HOd hbd hO6 hO7 hb6 hb8 hb7 c0 c1 c2 c3 hT hb
   go_wp2_with fail
   go_roundw
   case rel=>exact ⟨s+1,_,_,by omega,by go_num,rfl,.inl hI7.out,hb9.out⟩
   case measure=>simp [intOf];omega
  ·obtain rfl:S=s:=by omega
   go_wp2_with fail
   go_ret
   exact ⟨B,d,rfl,hO.out,hb.out⟩
end Go.Proofs.YtomgcbfcnjbofaaGreat
/- Steps: the tableaus of the coordinates, the stages, and lemmas for the walks. -/
namespace Go.Proofs.YtomgcbfcnjbofaaGreat
open Go.RowKit
set_option linter.unusedSimpArgs false
set_option linter.unusedVariables false
set_option maxRecDepth 20000
theorem info_jetsJ:(Tryz.prog.info? 73).map (fun i=>(i.zero,i.size,i.bytes))=some (some (.slice none 0 0),1,24):=by kernel_rfl
theorem Lst.nil_ {α:Type} (K:Kd α) (T:TypeId) (P:Nat→Prop) (w:World) (lo hi:Nat):Lst K T P w lo hi none 0 0 [] [] :=
 ⟨World.ownsRow_nil _ _ _ _,fun ad e=>(by cases e),rfl,by simp⟩
theorem Lst.far {α:Type} {K:Kd α} {T:TypeId} {P:Nat→Prop} {w:World} {lo hi:Nat} {A:Option Addr} {n c:Nat} {vs:List Value} {xs:List α} (h:Lst K T P w lo hi A n c vs xs) {p:Addr} (hp:p.block<lo) (u:Value):Lst K T P (w.setCell p u) lo hi A n c vs xs :=
 ⟨owns_setCell h.own (fun ad e=>by have:=(owns_lt h.own ad e).1;omega) u,h.lt,h.len,fun j x hx hP=>by
  obtain ⟨v,l,h',e1,e2,e3,e4,e5⟩:=h.row j x hx hP
  exact ⟨v,l,h',e1,K.same e2 ((Same.refl _ _ _).setCell (.inl (by omega)) u),e3,e4,e5⟩⟩
theorem Lst.nilsK {T:TypeId} (w:World) (n:Nat) (hn:n≤1000):Lst kII T (fun _=>True) (w.alloc (.cells (madeCells #[.slice none 0 0] n) T)) w.heap.size (w.heap.size+1) (some ⟨w.heap.size,0,none⟩) n n (List.replicate n (.slice none 0 0)) (List.replicate n []):=by
 have ho:=World.ownsRow_lit (size:=1) (e:=T) (base:=w.heap.size) w (madeCells #[.slice none 0 0] n) n (Nat.le_refl _) (by unfold maxLen;omega) (by rw [← Array.length_toList,made_nil];simp)
 rw [made_nil] at ho
 refine ⟨ho,fun ad e=>by injection e with e;subst e;exact Nat.lt_succ_self _,by simp,fun j x hx _=>?_⟩
 have hj:j<n:=by have:=(List.getElem?_eq_some_iff.1 hx).1;simpa using this
 obtain rfl:x=[]:=by simpa [hj] using hx.symm
 exact ⟨.slice none 0 0,w.heap.size+1,w.heap.size+1,by simp [hj],⟨none,0,0,rfl,Ints2.nil_ _ _ _⟩,by omega,Nat.le_refl _,fun ad e => .inr (by injection e with e;subst e;exact Nat.lt_succ_self _)⟩
theorem make_jetss (n:Nat) (hn:n≤1000) (W:World) :
  (Instr.makeSlice 104 (.int .i64 (n:Int)) (.int .i64 (n:Int))).run Tryz.prog W = .ok (.slice (some ⟨W.heap.size,0,none⟩) n n) (W.alloc (.cells (madeCells #[.slice none 0 0] n) 73)):=by
 obtain ⟨i0,hi0,hz0,hz1,hz2⟩:=info_parts info_jetsJ
 have h:=run_make (P:=Tryz.prog) W 104 73 i0 (.slice none 0 0) Tryz.underlying104 hi0 hz0 .i64 .i64 n n (by omega) (by omega) (by rw [hz2];omega) (by omega)
 simp only [Int.toNat_natCast,hz1,Nat.mul_one] at h
 exact h
theorem Ints.takeJ {w:World} {lo hi:Nat} {A:Option Addr} {n c:Nat} {xs:List Int} (h:Ints w lo hi A n c xs) {k:Nat} (hk:k≤n):Ints w lo hi A k c (xs.take k) :=
 ⟨by rw [List.length_take];have:=h.len;omega,by have:=h.cap;omega,h.max,(fun h0=>by
  obtain ⟨ad,e,h1,h2,hc⟩:=h.cells (by omega)
  refine ⟨ad,e,h1,h2,fun j x hx=>hc j x ?_⟩
  rw [List.getElem?_take] at hx
  split at hx
  ·exact hx
  ·cases hx),fun x hx=>h.rng x (List.mem_of_mem_take hx)⟩
theorem Ints.dropJ {w:World} {lo hi g:Nat} {n c:Nat} {xs:List Int} (h:Ints w lo hi (some ⟨g,0,none⟩) n c xs) {k:Nat} (hk:k≤n):Ints w lo hi (some ⟨g,k,none⟩) (n - k) (c - k) (xs.drop k) :=
 ⟨by rw [List.length_drop];have:=h.len;omega,by have:=h.cap;omega,by have:=h.max;omega,(fun h0=>by
  obtain ⟨ad,e,h1,h2,hc⟩:=h.cells (by omega)
  injection e with e
  subst e
  refine ⟨_,rfl,h1,h2,fun j x hx=>?_⟩
  rw [List.getElem?_drop] at hx
  have:=hc _ _ hx
  simpa [Addr.add_lit] using this),fun x hx=>h.rng x (List.mem_of_mem_drop hx)⟩
def Tabs (w:World) (lo hi g dim S:Nat) (tA tB:Nat→List Int):Prop:=∀ j,j<dim→∃ AA cA BB cB,
 w.cell? ⟨g,j*3,none⟩=some (.int .i64 (S:Int))∧w.cell? ⟨g,j*3+1,none⟩=some (.slice AA (S*S) cA)∧w.cell? ⟨g,j*3+2,none⟩=some (.slice BB S cB) ∧
 Ints w lo hi AA (S*S) cA (tA j)∧Ints w lo hi BB S cB (tB j)∧(0<S→∃ gA,AA=some ⟨gA,0,none⟩)
def rowJ (xs:List Int) (S s:Nat):List Int:=(xs.drop (s*S)).take S
def stJ (S dim:Nat) (V:Nat→Nat→List Int):List (List (List Int)):=(List.range S).map fun s=>(List.range dim).map fun i=>V s i
theorem stJ_len (S dim:Nat) (V:Nat→Nat→List Int):(stJ S dim V).length=S:=by simp [stJ]
theorem stJ_at {S dim:Nat} (V:Nat→Nat→List Int) {s i:Nat} (h:s<S) (h2:i<dim):((stJ S dim V).getD s []).getD i []=V s i:=by simp [stJ,h,h2]
theorem stJ_get {S dim:Nat} (V:Nat→Nat→List Int) {s:Nat} (h:s<S):(stJ S dim V)[s]? = some ((List.range dim).map fun i=>V s i):=by simp [stJ,h]
theorem acc_congr (y:List Int) {v v':Nat→List Int} (ws:List Int):∀ S,(∀ s,s<S→v s=v' s)→accJ y v ws S=accJ y v' ws S
 | 0,_=>rfl
 | s+1,h=>by rw [accJ,accJ,acc_congr y ws s (fun q hq=>h q (by omega)),h s (by omega)]
def atL (dim S:Nat) (yss:List (List Int)) (row:Nat→Nat→List Int) (V:Nat→Nat→List Int) (s:Nat):List (List Int):=(List.range dim).map fun i=>accJ (yss.getD i []) (fun s'=>V s' i) (row i s) S
theorem atL_len (dim S:Nat) (yss:List (List Int)) (row:Nat→Nat→List Int) (V:Nat→Nat→List Int) (s:Nat):(atL dim S yss row V s).length=dim:=by simp [atL]
theorem atL_at {dim S:Nat} (yss:List (List Int)) (row:Nat→Nat→List Int) (V:Nat→Nat→List Int) (s:Nat) {i:Nat} (h:i<dim):(atL dim S yss row V s)[i]? = some (accJ (yss.getD i []) (fun s'=>V s' i) (row i s) S):=by simp [atL,h]
theorem atL_num {n dim S:Nat} {yss:List (List Int)} (row:Nat→Nat→List Int) (V:Nat→Nat→List Int) (s:Nat) (h:JNum n yss) (hl:yss.length=dim):JNum n (atL dim S yss row V s):=by
 intro r hr
 simp only [atL,List.mem_map,List.mem_range] at hr
 obtain ⟨i,hi,rfl⟩:=hr
 have:=h yss[i] (List.getElem_mem (by omega))
 rw [show yss.getD i []=yss[i] by simp [List.getD,show i<yss.length by omega]]
 exact ⟨by rw [acc_len];exact this.1,acc_num _ _ this.2 _⟩
theorem poly_congr (n:Nat) (ms:List Mono) {ys ys':Nat→List Int} (h:ys=ys'):polyJ n ms ys=polyJ n ms ys':=by rw [h]
theorem acc_nil (v:Nat→List Int) (ws:List Int) (S:Nat):accJ [] v ws S=[]:=List.eq_nil_of_length_eq_zero (by rw [acc_len];rfl)
theorem val_stage {n dim S:Nat} {ps:List (List Mono)} {yss:List (List Int)} (row:Nat→Nat→List Int) (V:Nat→Nat→List Int) (s:Nat) (hp:ps.length=dim) (hl:yss.length=dim) :
  valL n ps (atL dim S yss row V s)=(List.range dim).map fun i=>nextJ n S (fun i=>ps.getD i []) (fun i=>yss.getD i []) row V s i:=by
 apply List.ext_getElem?
 intro i
 by_cases hi:i<dim
 ·rw [val_at (List.getElem?_eq_getElem (by omega)),List.getElem?_map,List.getElem?_range hi,Option.map_some,nextJ,show ps.getD i []=ps[i] by simp [List.getD,show i<ps.length by omega]]
  congr 1
  apply poly_congr
  funext v
  by_cases hv:v<dim
  ·rw [List.getD,atL_at yss row V s hv]
   rfl
  ·rw [show yss.getD v []=[] by simp [List.getD,show yss.length≤v by omega],acc_nil]
   simp [List.getD,atL_len,show dim≤v by omega]
 ·rw [List.getElem?_eq_none (by simp [valL];omega),List.getElem?_eq_none (by simp;omega)]
theorem stJ_st3 {n S dim:Nat} {V:Nat→Nat→List Int} (h:∀ s i,(V s i).length=n∧∀ x∈V s i,0≤x∧x<1000000271):St3 n dim (stJ S dim V):=by
 intro v hv
 simp only [stJ,List.mem_map,List.mem_range] at hv
 obtain ⟨s,_,rfl⟩:=hv
 refine ⟨by simp,fun r hr=>?_⟩
 simp only [List.mem_map,List.mem_range] at hr
 obtain ⟨i,_,rfl⟩:=hr
 exact h s i
theorem iter_num (n S:Nat) (ps:Nat→List Mono) (y:Nat→List Int) (row:Nat→Nat→List Int) (t s i:Nat):(iterJ n S ps y row t s i).length=n∧∀ x∈iterJ n S ps y row t s i,0≤x∧x<1000000271:=by
 refine ⟨iter_len ..,?_⟩
 cases t with
 | zero=>intro x hx;have:=(List.mem_replicate.1 hx).2;omega
 | succ t=>exact der_num n _ _ _ (fun x hx=>by have:=(List.mem_replicate.1 hx).2;omega)
def outJ (n dim S:Nat) (ps:List (List Mono)) (yss:List (List Int)) (tA tB:Nat→List Int):List (List Int) :=
 (List.range dim).map fun i=>accJ (yss.getD i []) (fun s=>iterJ n S (fun i=>ps.getD i []) (fun i=>yss.getD i []) (fun i s=>rowJ (tA i) S s) n s i) (tB i) S
theorem outJ_len (n dim S:Nat) (ps:List (List Mono)) (yss:List (List Int)) (tA tB:Nat→List Int):(outJ n dim S ps yss tA tB).length=dim:=by simp [outJ]
theorem outJ_at {n dim S:Nat} (ps:List (List Mono)) (yss:List (List Int)) (tA tB:Nat→List Int) {i:Nat} (h:i<dim):(outJ n dim S ps yss tA tB)[i]? = some (accJ (yss.getD i []) (fun s=>iterJ n S (fun i=>ps.getD i []) (fun i=>yss.getD i []) (fun i s=>rowJ (tA i) S s) n s i) (tB i) S):=by simp [outJ,h]
end Go.Proofs.YtomgcbfcnjbofaaGreat
