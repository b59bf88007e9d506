/- Paths and energies drawn from bytes: the reference's walks. -/
import Derived.Test.YtomgcbfcnjbofaaGreatDtN
import Derived.Test.YtomgcbfcnjbofaaGreatMgW
import Derived.Test.YtomgcbfcnjbofaaGreatMgK
namespace Go.Proofs.YtomgcbfcnjbofaaGreat
open Go.RowKit
open Nat renaming le_refl → lR
set_option linter.unusedSimpArgs false
set_option linter.unusedVariables false
set_option maxRecDepth 20000
theorem RowsO.touch {w w':World} {lo lo' hi' n c:Nat} {A:Option Addr} {vs:List Value} {xss:List (List Int)} (h:RowsO w lo A n c vs xss) (ht:Touch lo' hi' w w') (hh:hi'≤lo):RowsO w' lo A n c vs xss:=by
 refine ⟨owns_same h.own fun ad e=>ht.block ad.block (owns_lt h.own ad e).2 (.inr (by have:=(owns_lt h.own ad e).1;omega)),h.len,fun j xs hj=>?_,h.sep,h.sep2⟩
 obtain ⟨B,m,d,e1,e2,e3⟩:=h.row j xs hj
 exact ⟨B,m,d,e1,owns_same e2 fun ad e=>ht.block ad.block (owns_lt e2 ad e).2 (.inr (by have:=(owns_lt e2 ad e).1;omega)),e3⟩
theorem RowsO.lowD {w:World} {lo lo' n c:Nat} {A:Option Addr} {vs:List Value} {xss:List (List Int)} (h:RowsO w lo A n c vs xss) (hl:lo'≤lo):RowsO w lo' A n c vs xss:=by
 refine ⟨owns_low h.own hl,h.len,fun j xs hj=>?_,h.sep,h.sep2⟩
 obtain ⟨B,m,d,e1,e2,e3⟩:=h.row j xs hj
 exact ⟨B,m,d,e1,owns_low e2 hl,e3⟩
set_option maxRecDepth 100000 in
set_option maxHeartbeats 4000000 in
theorem spec_dPath1 (hiC gc n:Nat) (w:World) (h:Cur w hiC gc) (hn:n≤1000) :
  Calls Tryz.prog 37 #[.pointer (some ⟨gc,0,none⟩),.int .i64 (n:Int),.int .i64 1] w fun e w'=>∃ A c vs xs,e = .returned (.slice A 1 c)∧RowsO w' w.heap.size A 1 c vs [xs]∧Hid (xs.length=n∧∀ x∈xs,0≤x∧x<1000000271)∧Cur w' hiC gc∧Touch gc (gc+1) w w':=by
 obtain ⟨i1,hi1,hy0,hy1,hy2⟩:=info_parts info_ints
 obtain ⟨hgc,hgh⟩:=h.lt
 have R0:=hide (RowsO.empty w w.heap.size (lR _))
 have c0:=hide (h.below (below_alloc w (.cells #[] 24)))
 have t0:=hide ((Touch.refl gc (gc+1) w).alloc (.cells #[] 24))
 have z0:(w.alloc (.cells #[] 24)).heap.size=w.heap.size+1:=by simp
 clear h
 go_enter Tryz.func37,Tryz.ntmps37
 go_wp2_with fail
 generalize w.alloc (.cells #[] 24)=W at R0 c0 t0 z0 ⊢
 refine wp_loop_rounds 2 ?_
 rw [rounds_succ]
 go_wp2_with fail
 refine (spec_dNums hiC gc n W c0.out hn).mono ?_
 rintro e w2 ⟨B,d,xs,rfl,o2,hx2,c2,t2⟩
 have R2:=hide (R0.out.touch t2 (by omega))
 have T2:=hide (t0.out.trans t2)
 have z2:=t2.size
 have HL:Hid (xs.length=n∧∀ x∈xs,0≤x∧x<1000000271):=⟨o2.len,hx2.out⟩
 have O2:=hide o2
 have hgw:w.heap.size<w2.heap.size:=by omega
 clear o2 t2 R0 t0 c0
 go_wp2_with (at_builtin;refine wpl_app1 rfl (.tmp 15) (.tmp 19) 35 rfl w.heap.size 24 i1 (.slice none 0 0) 1 24 Tryz.underlying35 hi1 hy0 hy1 hy2 rfl (by omega) w2 #[.slice B n d] (some ⟨w.heap.size,0,none⟩) 0 0 1 _ rfl rfl R2.out.own rfl (by simp [Value.oneCell']) (by omega) (by omega) (by omega) ?_;intro A3 c3 w5 happ hlt5;have HB5:=hide (happ.low (Below.refl w.heap.size w2) (by omega) (lR _) R2.out.own);have R5:=hide (R2.out.pushRow (hb:=W.heap.size) (owns_low O2.out.own (by omega)) O2.out.rng (fun ad e=>(owns_lt O2.out.own ad e).1) (fun ad e=>by injection e with e;subst e;show w.heap.size<_;omega) (fun j v hv=>by simp at hv) happ);have C5:=hide (c2.low HB5.out (by omega));have T5:=hide (T2.out.then_below HB5.out (lR _));clear happ O2 T2 c2 HB5 R2)
 rw [rounds_succ]
 go_wp2_with fail
 go_ret
 exact ⟨A3,c3,_,xs,rfl,R5.out,HL.out,C5.out,T5.out⟩
theorem owp_copyP {o:Oper} {a:Act} {K:Act→World→Prop} {Q:Exit→Act→World→Prop} (d s:Operand)
  (ho:o.op = .call { callee := .builtin .copy,args := #[d,s],argTypes := #[24,24] }) (w:World) (g n c k dc:Nat) (A:Option Addr) (sc:Nat) (ys zs:List Int) (lo lo2 hi:Nat)
  (hd:a.eval d = .slice (some ⟨g,0,none⟩) k dc) (hs:a.eval s = .slice A k sc) (hown:w.ownsRow lo 3 1 (.slice (some ⟨g,0,none⟩) n c) n (zs.map (Value.int .i64))) (hk:0<k) (hkn:k≤n) (hin:Ints w lo2 hi A k sc ys)
  (h:∀ w',w'.ownsRow lo 3 1 (.slice (some ⟨g,0,none⟩) n c) n ((ys++zs.drop k).map (Value.int .i64))→Touch g (g+1) w w'→w'.heap.size=w.heap.size→K (a.put o.dst (.int .i64 (k:Int))) w'):Oper.wp Tryz.prog o a w K Q:=by
 obtain ⟨i0,hi0,hz0,hz1,hz2⟩:=info_parts info_int
 obtain ⟨ad,rfl,_,_,hc⟩:=hin.cells hk
 have hl:=hin.len
 rcases hown.2 with ⟨e,_⟩ | ⟨g',cap,cur,e,h1,h2,h3,h4,h5,h6⟩
 ·cases e
 injection e with e1 e2 e3
 injection e1 with e1
 injection e1 with e1
 subst e1 e3
 have hcl:(ys.map (Value.int .i64)).length=k:=by rw [List.length_map,hl]
 have hrun:=run_copy_row (P:=Tryz.prog) w 24 24 o.type 3 g 0 k dc ad k sc cur 3 (ys.map (Value.int .i64)) Tryz.underlying24 (by rw [hi0];simp [hz1]) h2 (by simp [hl]) (by
  intro j v hv
  rw [List.getElem?_map] at hv
  cases hy:ys[j]? with
  | none=>rw [hy] at hv;cases hv
  | some y =>
   rw [hy] at hv
   simp at hv
   subst hv
   exact hc j y hy) (by rw [hcl];omega) (by
  intro v hv
  simp only [List.mem_map] at hv
  obtain ⟨y,_,rfl⟩:=hv
  rfl)
 have hcu:cur.toList.length=c:=by simp [h5]
 unfold Oper.wp
 simp only [execOp,ho,resolve,invoke,builtin]
 simp [hd,hs,hrun,Result.andThen]
 have hz:zs.length=n:=by have:=hown.1;simpa using this
 have:=h (w.setRow g (cur.toList.take 0++(ys.map (Value.int .i64)++cur.toList.drop (0+(ys.map (Value.int .i64)).length))).toArray)
  ⟨by simp [hl,hz];omega,.inr ⟨g,c,_,rfl,h1,setRow_heap w g _ _ _ _ h2,h3,h4,by simp [hl,h5];omega,by
   simp only [Nat.mul_one] at h6 ⊢
   rw [List.map_append,List.map_drop,← h6]
   simp only [List.take_zero,List.nil_append,Nat.zero_add,hcl]
   rw [List.take_append,hcl,List.take_of_length_le (by omega),List.take_drop]
   congr 3
   omega⟩⟩
  ⟨rfl,rfl,rfl,by simp [World.setRow],fun b _ hb=>setRow_other w g b _ (by omega)⟩ (by simp [World.setRow])
 simp [goInt,hl] at this ⊢
 exact this
theorem wpl_copyP {ops:Array Oper} {rest:List Oper} {o:Oper} {a:Act} {Q:Exit→Act→World→Prop} (hgd:o.guard=none) (d s:Operand)
  (ho:o.op = .call { callee := .builtin .copy,args := #[d,s],argTypes := #[24,24] }) (w:World) (g n c k dc:Nat) (A:Option Addr) (sc:Nat) (ys zs:List Int) (lo lo2 hi:Nat)
  (hd:a.eval d = .slice (some ⟨g,0,none⟩) k dc) (hs:a.eval s = .slice A k sc) (hown:w.ownsRow lo 3 1 (.slice (some ⟨g,0,none⟩) n c) n (zs.map (Value.int .i64))) (hk:0<k) (hkn:k≤n) (hin:Ints w lo2 hi A k sc ys)
  (h:∀ w',w'.ownsRow lo 3 1 (.slice (some ⟨g,0,none⟩) n c) n ((ys++zs.drop k).map (Value.int .i64))→Touch g (g+1) w w'→w'.heap.size=w.heap.size→wpList Tryz.prog ops Q rest (a.put o.dst (.int .i64 (k:Int))) w'):wpList Tryz.prog ops Q (o :: rest) a w :=
 wpList_plain hgd fun _ hK=>owp_copyP d s ho w g n c k dc A sc ys zs lo lo2 hi hd hs hown hk hkn hin fun w' h1 h2 h3=>hK _ _ (h w' h1 h2 h3)
theorem RowsO.one {w w':World} {lo c:Nat} {A:Option Addr} {vs:List Value} {ys zs:List Int} {b m d:Nat} (h:RowsO w lo A 1 c vs [ys]) (hv:vs[0]? = some (.slice (some ⟨b,0,none⟩) m d)) (ho:w'.ownsRow lo 3 1 (.slice (some ⟨b,0,none⟩) m d) m (zs.map (Value.int .i64))) (hr:∀ x∈zs,R64 x) (ht:Touch b (b+1) w w'):RowsO w' lo A 1 c vs [zs]:=by
 refine ⟨owns_same h.own fun ad e=>ht.block ad.block (owns_lt h.own ad e).2 ?_,rfl,fun j xs hj=>?_,h.sep,h.sep2⟩
 ·rcases h.sep 0 _ hv with e2 | e2
  ·simp [Value.ownBlock] at e2
  ·have:ad.block≠b:=fun e3=>e2 (by subst e;simp [Value.ownBlock,e3])
   omega
 ·match j,hj with
  | 0,hj =>
   injection hj with hj
   subst hj
   exact ⟨_,m,d,hv,ho,hr⟩
structure UV (lo:Nat) (W:World) (A:Option Addr) (n c:Nat) (vs:List Value) (xss:List (List Int)) (B:Option Addr) (m d:Nat) (us:List Value) (yss:List (List Int)):Prop where
 ru:RowsO W lo A n c vs xss
 rv:RowsO W lo B m d us yss
 s1:∀ b,oBlk A n c=some b→oBlk B m d≠some b
 s2:∀ b,oBlk A n c=some b→∀ (j:Nat) (v:Value),us[j]? = some v→v.ownBlock≠some b
 s3:∀ b,oBlk B m d=some b→∀ (j:Nat) (v:Value),vs[j]? = some v→v.ownBlock≠some b
 hlo:lo≤W.heap.size
section
variable {lo:Nat} {W W':World} {A:Option Addr} {n c:Nat} {vs:List Value} {xss:List (List Int)} {B:Option Addr} {m d:Nat} {us:List Value} {yss:List (List Int)}
theorem UV.symm (h:UV lo W A n c vs xss B m d us yss):UV lo W B m d us yss A n c vs xss:=⟨h.rv,h.ru,fun b e e2=>h.s1 b e2 e,h.s3,h.s2,h.hlo⟩
theorem UV.push (h:UV lo W A n c vs xss B m d us yss) {A':Option Addr} {c':Nat} {w5:World} (hap:Appended (W.alloc (.cells (zeros 4) 3)) lo 24 1 A n c A' (n+1) c' (vs++[.slice (some ⟨W.heap.size,0,none⟩) 4 4]) w5) :
  UV lo w5 A' (n+1) c' (vs++[.slice (some ⟨W.heap.size,0,none⟩) 4 4]) (xss++[[0,0,0,0]]) B m d us yss:=by
 have hb:=below_alloc W (.cells (zeros 4) 3)
 have hz:(W.alloc (.cells (zeros 4) 3)).heap.size=W.heap.size+1:=by simp
 have ru1:=h.ru.below hb
 have rv1:=h.rv.below hb
 have hoA:∀ b,oBlk A n c=some b→b<W.heap.size:=fun b e=>by
  obtain ⟨ad,e1,rfl⟩:=ownBlock_eq.1 e
  exact h.ru.olt2 ad e1
 have hoB:∀ b,oBlk B m d=some b→b<W.heap.size:=fun b e=>by
  obtain ⟨ad,e1,rfl⟩:=ownBlock_eq.1 e
  exact h.rv.olt2 ad e1
 have hrow:(W.alloc (.cells (zeros 4) 3)).ownsRow lo 3 1 (.slice (some ⟨W.heap.size,0,none⟩) 4 4) 4 (([0,0,0,0]:List Int).map (Value.int .i64)):=owns_zeros W 4 (by omega) h.hlo
 have nA:=new_blk hap
 refine ⟨ru1.pushRow (hb:=W.heap.size) hrow (fun x hx=>by
  obtain rfl:x=0:=by simpa using hx
  constructor <;> omega) (fun ad e=>by injection e with e;subst e;exact lR _) (fun ad e=>h.ru.olt2 ad e) (fun j v hv b hb=>(h.ru.olt j v hv b hb).2) hap,?_,?_,?_,?_,?_⟩
 ·refine rv1.kept hap.2.1 ?_ ?_
  ·cases e:oBlk B m d with
   | none=>exact .inl rfl
   | some b=>exact .inr fun e2=>h.s1 b e2.symm e
  ·intro j v hv
   cases e:v.ownBlock with
   | none=>exact .inl rfl
   | some b=>exact .inr fun e2=>h.s2 b e2.symm j v hv e
 ·intro b e e2
  rcases nA b e with e3 | e3
  ·exact h.s1 b e3 e2
  ·have:=hoB b e2;omega
 ·intro b e j v hv e2
  rcases nA b e with e3 | e3
  ·exact h.s2 b e3 j v hv e2
  ·have:=(h.rv.olt j v hv b e2).2;omega
 ·intro b e j v hv e2
  by_cases hj:j<vs.length
  ·rw [List.getElem?_append_left hj] at hv
   exact h.s3 b e j v hv e2
  ·rw [List.getElem?_append_right (by omega)] at hv
   have hb:=hoB b e
   cases hq:j - vs.length with
   | zero =>
    rw [hq] at hv
    injection hv with hv
    subst hv
    simp [Value.ownBlock] at e2
    omega
   | succ q=>rw [hq] at hv;cases hv
 ·have:=hap.2.1.size
  have:=h.hlo
  omega
theorem UV.below (h:UV lo W A n c vs xss B m d us yss) (hb:Below W.heap.size W W'):UV lo W' A n c vs xss B m d us yss:=⟨h.ru.below hb,h.rv.below hb,h.s1,h.s2,h.s3,Nat.le_trans h.hlo hb.size⟩
end
theorem RowsO.touchLt {w w':World} {lo L b n c:Nat} {A:Option Addr} {vs:List Value} {xss:List (List Int)} (h:RowsO w lo A n c vs xss) (hA:∀ b,oBlk A n c=some b→b<L) (hv:∀ (j:Nat) (v:Value),vs[j]? = some v→∀ b,v.ownBlock=some b→b<L) (ht:Touch b (b+1) w w') (hb:L≤b):RowsO w' lo A n c vs xss:=by
 refine ⟨owns_same h.own fun ad e=>ht.block ad.block (owns_lt h.own ad e).2 (.inl (by have:=hA ad.block (ownBlock_eq.2 ⟨ad,e,rfl⟩);omega)),h.len,fun j xs hj=>?_,h.sep,h.sep2⟩
 obtain ⟨B,m,d,e1,e2,e3⟩:=h.row j xs hj
 exact ⟨B,m,d,e1,owns_same e2 fun ad e=>ht.block ad.block (owns_lt e2 ad e).2 (.inl (by have:=hv j _ e1 ad.block (ownBlock_eq.2 ⟨ad,e,rfl⟩);omega)),e3⟩
theorem RowsO.capO {w:World} {lo n c:Nat} {A:Option Addr} {vs:List Value} {xss:List (List Int)} (h:RowsO w lo A n c vs xss):n≤c∧c≤9223372036854775807:=by
 rcases h.own.2 with ⟨e1,e⟩ | ⟨g,_,_,e,h1,h2,h3,h4,_⟩
 ·injection e1 with _ e4 e5
  omega
 ·injection e with _ e4 e5
  subst e5
  exact ⟨h3,by unfold maxLen at h4;omega⟩
structure EnP (n:Nat) (xss yss:List (List Int)):Prop where
 l1:xss.length=n
 l2:yss.length=n
 r1:∀ r∈xss,r.length=4∧∀ x∈r,0≤x∧x<1000000271
 r2:∀ r∈yss,r.length=4∧∀ x∈r,0≤x∧x<1000000271
 e0:(xss.map fun r=>r.getD 0 0)=yss.map fun r=>r.getD 0 0
 e1:(xss.map fun r=>r.getD 1 0)=yss.map fun r=>r.getD 1 0
theorem EnP.start {xs ys:List Int} (h1:xs.length=4∧∀ x∈xs,0≤x∧x<1000000271) (h2:ys.length=4∧∀ x∈ys,0≤x∧x<1000000271):EnP 1 [xs] [xs.take 2++ys.drop 2]:=by
 obtain ⟨a,b,c,d,rfl⟩:=len_four h1.1
 obtain ⟨e,f,g,i,rfl⟩:=len_four h2.1
 refine ⟨rfl,rfl,?_,?_,rfl,rfl⟩
 ·intro r hr
  rw [List.mem_singleton.1 hr]
  exact h1
 ·intro r hr
  rw [List.mem_singleton.1 hr]
  refine ⟨rfl,fun x hx=>?_⟩
  simp only [List.take_succ_cons,List.take_zero,List.drop_succ_cons,List.drop_zero,List.cons_append,List.nil_append,List.mem_cons,List.not_mem_nil,or_false] at hx
  rcases hx with rfl | rfl | rfl | rfl
  ·exact h1.2 _ (by simp)
  ·exact h1.2 _ (by simp)
  ·exact h2.2 _ (by simp)
  ·exact h2.2 _ (by simp)
theorem EnP.push {n:Nat} {xss yss:List (List Int)} (h:EnP n xss yss):EnP (n+1) (xss++[[0,0,0,0]]) (yss++[[0,0,0,0]]):=by
 have hz:∀ (zss:List (List Int)),(∀ r∈zss,r.length=4∧∀ x∈r,0≤x∧x<1000000271)→∀ r∈zss++[[0,0,0,0]],r.length=4∧∀ x∈r,0≤x∧x<1000000271:=fun zss hz r hr=>by
  rcases List.mem_append.1 hr with hr | hr
  ·exact hz r hr
  ·rw [List.mem_singleton.1 hr]
   refine ⟨rfl,fun x hx=>?_⟩
   obtain rfl:x=0:=by simpa using hx
   omega
 exact ⟨by simp [h.l1],by simp [h.l2],hz _ h.r1,hz _ h.r2,by rw [List.map_append,List.map_append,h.e0],by rw [List.map_append,List.map_append,h.e1]⟩
def EnR (w w':World) (P:Option Addr) (np cp n:Nat) (U:Option Addr) (cu:Nat) (V:Option Addr) (cv:Nat):Prop :=
 ∃ (ms:List Mono) (vs:List Value) (xss:List (List Int)) (us:List Value) (yss:List (List Int)),Hid (Mons w' w.heap.size w'.heap.size P np cp ms)∧Hid (∀ q∈ms,q.2.length=2)∧Hid (UV w.heap.size w' U n cu vs xss V n cv us yss)∧Hid (EnP n xss yss)∧Hid (Below w.heap.size w w')
def sliceLn:Value→Nat
 | .slice _ n _=>n
 | _=>0
theorem UV.lowU {lo lo':Nat} {W:World} {A:Option Addr} {n c:Nat} {vs:List Value} {xss:List (List Int)} {B:Option Addr} {m d:Nat} {us:List Value} {yss:List (List Int)} (h:UV lo W A n c vs xss B m d us yss) (hl:lo'≤lo):UV lo' W A n c vs xss B m d us yss:=⟨h.ru.lowD hl,h.rv.lowD hl,h.s1,h.s2,h.s3,Nat.le_trans hl h.hlo⟩
set_option maxRecDepth 100000 in
set_option maxHeartbeats 8000000 in
theorem spec_DrawEnergy (hi:Nat) (C:Option Addr) (nC cC:Nat) (w:World) (h:Bytes w 0 hi C nC cC) (hh:hi≤w.heap.size) :
  Calls Tryz.prog 9 #[.slice C nC cC] w fun e w'=>∃ (P:Option Addr) (np cp n:Nat) (U:Option Addr) (cu:Nat) (V:Option Addr) (cv:Nat),e = .returned (.tuple #[.slice P np cp,.int .i64 2,.slice U n cu,.slice V n cv])∧1≤n∧n≤5∧EnR w w' P np cp n U cu V cv:=by
 obtain ⟨i1,hi1,hy0,hy1,hy2⟩:=info_parts info_ints
 go_enter Tryz.func9,Tryz.ntmps9
 go_wp2_with fail
 refine (spec_l1New hi C nC cC w h hh).mono ?_
 rintro e w1 ⟨rfl,c1,b1⟩
 obtain ⟨gc,hgc⟩:∃ z,z=w.heap.size:=⟨_,rfl⟩
 have hgw:w.heap.size≤gc∧gc≤w.heap.size:=by omega
 rw [← hgc] at c1 ⊢
 have hgc1:=c1.lt.1
 have HB1:=hide b1
 clear hgc h b1
 go_wp2_with fail
 refine (spec_dMonomials hi gc w1 c1).mono ?_
 rintro e w2 ⟨P,np,cp,ms,rfl,m2,hl2,c2,t2⟩
 have T2:=hide t2
 have M2:=hide m2
 have z2:=t2.size
 clear c1 t2 m2
 go_wp2_with fail
 refine (spec_l1Below hi gc 4 w2 c2 (by omega) (by omega)).mono ?_
 rintro e w3 ⟨k0,rfl,hk0,hk1,c3,t3⟩
 obtain ⟨k1,rfl⟩:∃ k:Nat,k0=k:=⟨k0.toNat,by omega⟩
 have z3:=t3.size
 have T3:=hide (T2.out.trans t3)
 have M3:=hide ((M2.out.same (t3.same (.inr (by omega)) (lR _))).wide (lR _) t3.size)
 have hwn:=IntWalk.i64_in (2+(k1:Int)) (by omega)
 clear c2 t3 T2 M2
 go_wp2_with fail
 refine (spec_dPath1 hi gc 4 w3 c3 (by omega)).mono ?_
 rintro e w4 ⟨U,cu,vs,xs,rfl,r4,hx4,c4,t4⟩
 have z4:=t4.size
 have T4:=hide (T3.out.trans t4)
 have M4:=hide (M3.out.same (t4.same (.inr (by omega)) (lR _)))
 have R4:=hide r4
 clear c3 t4 T3 M3 r4
 go_wp2_with fail
 refine (spec_dPath1 hi gc 4 w4 c4 (by omega)).mono ?_
 rintro e w5 ⟨V0,cv,us,ys,rfl,r5,hy5,c5,t5⟩
 have z5:=t5.size
 have T5:=hide (T4.out.trans t5)
 have M5:=hide (M4.out.same (t5.same (.inr (by omega)) z4))
 have RU:=hide (R4.out.touch t5 (by omega))
 have hU:∀ b,oBlk U 1 cu=some b→b<w4.heap.size:=fun b e=>by
  obtain ⟨ad,e1,rfl⟩:=ownBlock_eq.1 e
  exact R4.out.olt2 ad e1
 have hV:∀ b,oBlk V0 1 cv=some b→w4.heap.size≤b:=fun b e=>by
  obtain ⟨ad,e1,rfl⟩:=ownBlock_eq.1 e
  exact (owns_lt r5.own ad e1).1
 have hUv:∀ (j:Nat) (v:Value),vs[j]? = some v→∀ b,v.ownBlock=some b→b<w4.heap.size:=fun j v hv b e=>(R4.out.olt j v hv b e).2
 have hsep:Hid (UV w3.heap.size w5 U 1 cu vs [xs] V0 1 cv us [ys]):=by
  refine ⟨RU.out,r5.lowD z4,fun b e e2=>?_,fun b e j v hv e2=>?_,fun b e j v hv e2=>?_,by omega⟩
  ·have:=hU b e;have:=hV b e2;omega
  ·have:=hU b e;have:=(r5.olt j v hv b e2).1;omega
  ·have:=hV b e;have:=hUv j v hv b e2;omega
 have hxl:=hx4.out.1
 have hyl:=hy5.out.1
 obtain ⟨bu,du,hvu,owu,rgu,hdu1,hdu2,hbu1,hbu2,_⟩:=hsep.out.ru.rowAt (k:=0) rfl (by omega)
 obtain ⟨bv,dv,hvv,owv,rgv,hdv1,hdv2,hbv1,hbv2,_⟩:=r5.rowAt (k:=0) rfl (by omega)
 rw [hxl] at hvu owu hdu1
 rw [hyl] at hvv owv hdv1
 obtain ⟨gu,rfl,hgu1,hgu2⟩:=ownForm hsep.out.ru.own (by omega)
 obtain ⟨gv,rfl,hgv1,hgv2⟩:=ownForm hsep.out.rv.own (by omega)
 have cgu:w5.cell? ⟨gu,0,none⟩=some (.slice (some ⟨bu,0,none⟩) 4 du):=(hsep.out.ru.own.cellAt 0 (by omega)).trans hvu
 have cgv:w5.cell? ⟨gv,0,none⟩=some (.slice (some ⟨bv,0,none⟩) 4 dv):=(hsep.out.rv.own.cellAt 0 (by omega)).trans hvv
 have hcu:=RowsO.capO hsep.out.ru
 have hcv:=RowsO.capO hsep.out.rv
 have HEn:=hide (EnP.start hx4.out hy5.out)
 have HUx:=hide (⟨owu,fun ad e=>(owns_lt owu ad e).2,rgu⟩:OwnI w5 w3.heap.size w5.heap.size (some ⟨bu,0,none⟩) 4 du xs).ints
 have HVx:=hide (owns_low owv z4:w5.ownsRow w3.heap.size 3 1 (.slice (some ⟨bv,0,none⟩) 4 dv) 4 (ys.map (Value.int .i64)))
 have HRZ:Hid (∀ x∈xs.take 2++ys.drop 2,R64 x):=rng_app (fun x hx=>rgu x (List.mem_of_mem_take hx)) (fun x hx=>rgv x (List.mem_of_mem_drop hx))
 have HU4:=hide hU
 have HUv4:=hide hUv
 have hbv4:w4.heap.size≤bv:=hbv1
 clear r5 owu owv rgu rgv hV R4 RU hU hUv hbu1 hbv1 hgu1 hgv1 hxl hyl c4 T4 M4 hx4 hy5 c5
 go_upto_region 7 with fail
 have hS0':w5.drew.cell? ⟨gv,0,none⟩=some (.slice (some ⟨bv,0,none⟩) 4 dv)∧w5.drew.cell? ⟨gu,0,none⟩=some (.slice (some ⟨bu,0,none⟩) 4 du):=⟨cgv,cgu⟩
 have HU2:Hid (Ints w5.drew 0 w5.drew.heap.size (some ⟨bu,0,none⟩) 2 du (xs.take 2)):=((HUx.out.takeJ (k:=2) (by omega)).same (w':=w5.drew) (fun _ _ _=>rfl)).wide (Nat.zero_le _) (lR _)
 have HV2:Hid (w5.drew.ownsRow w3.heap.size 3 1 (.slice (some ⟨bv,0,none⟩) 4 dv) 4 (ys.map (Value.int .i64))):=owns_same HVx.out (fun _ _=>rfl)
 have S5:=hide (hsep.out.below (Below.refl w5.heap.size w5).drew)
 have M5':=hide (M5.out.same (w':=w5.drew) (fun _ _ _=>rfl))
 have T5':=hide T5.out.drew
 have hz5:w5.heap.size≤w5.drew.heap.size:=lR _
 clear cgu cgv HUx HVx hsep M5 T5
 have hdv3:(2:Int)≤(dv:Int):=by omega
 have hdu3:(2:Int)≤(du:Int):=by omega
 have hdv4:¬ dv=0:=by omega
 have hdu4:¬ du=0:=by omega
 refine still_tail 10 (by kernel_rfl) (by kernel_rfl) ?_
 simp only [List.take_succ_cons,List.take_zero,List.drop_succ_cons,List.drop_zero]
 iterate 10 still_step
 refine wpStill_nil ?_
 go_wp2_with (with_reducible refine wpl_copyP rfl (.tmp 32) (.tmp 37) rfl w5.drew bv 4 dv 2 dv (some ⟨bu,0,none⟩) du (xs.take 2) ys w3.heap.size 0 w5.drew.heap.size rfl rfl HV2.out (by omega) (by omega) HU2.out ?_;intro w9 hw9 ht9 hz9;simp only [Int.cast_ofNat_Int];clear hS0')
 simp only [Act.put,List.setIfInBounds_toArray,List.set_cons_zero,List.set_cons_succ]
 generalize w5.drew=V at HU2 HV2 S5 M5' T5' hz5 hw9 ht9 hz9
 have R9:=hide (S5.out.rv.one hvv hw9 HRZ.out ht9)
 have S9:Hid (UV w3.heap.size w9 (some ⟨gu,0,none⟩) 1 cu vs [xs] (some ⟨gv,0,none⟩) 1 cv us [xs.take 2++ys.drop 2]):=⟨S5.out.ru.touchLt HU4.out HUv4.out ht9 hbv4,R9.out,S5.out.s1,S5.out.s2,S5.out.s3,by omega⟩
 have M9:=hide (M5'.out.same (ht9.same (.inl (by omega)) (by omega)))
 have T9:Hid (Below w.heap.size w w9):=((HB1.out.trans (T5'.out.below (by omega) HB1.out.size))).trans (ht9.below (by omega) (by omega))
 have hww:=HB1.out.size
 have HLO:Hid (w.heap.size≤w3.heap.size):=Nat.le_trans HB1.out.size (Nat.le_trans z2 z3)
 have z9:w3.heap.size≤w9.heap.size:=by omega
 clear R9 hw9 ht9 hz9 HU2 HV2 S5 M5' T5' HU4 HUv4 HRZ hvu hvv HB1
 go_wp2_with fail
 have hU0:=hide S9.out
 go_loopw [10,11] (fun ul vl wr=>∃ (j:Nat) (U:Option Addr) (cu:Nat) (vs:List Value) (xss:List (List Int)) (V:Option Addr) (cv:Nat) (us:List Value) (yss:List (List Int)),1≤j∧j≤2+k1∧ul = .slice U j cu∧vl = .slice V j cv∧w3.heap.size≤wr.heap.size∧Hid (Mons wr w.heap.size w3.heap.size P np cp ms)∧Hid (UV w3.heap.size wr U j cu vs xss V j cv us yss)∧Hid (EnP j xss yss)∧Hid (Below w.heap.size w wr)) (fun ul _ _=>2+k1 - sliceLn ul)
 case atStart=>exact ⟨1,_,cu,vs,_,_,cv,us,_,by omega,by omega,rfl,rfl,z9,M9.out.wide hww (lR _),S9.out,HEn.out,T9.out⟩
 case round =>
  clear S9 M9 T9 HEn hU0 z9 hcu hcv
  obtain ⟨j,U,cu,vs,xss,V,cv,us,yss,hj1,hj2,rfl,rfl,hz,hM,hUV,hE,hB⟩:=hrel
  have hcu:=hUV.out.ru.capO
  have hcv:=hUV.out.rv.capO
  by_cases hlt:j<2+k1
  ·have hlt':(j:Int)<2+(k1:Int):=by omega
   have hmk:(Instr.makeSlice 24 (.int .i64 4) (.int .i64 4)).run Tryz.prog wr = .ok (.slice (some ⟨wr.heap.size,0,none⟩) 4 4) (wr.alloc (.cells (zeros 4) 3)):=make_ints 4 (by omega) wr
   have hwr3:=hUV.out.hlo
   go_wp2_with (first
    | (at_builtin;refine wpl_app1b rfl (.tmp 43) (.tmp 47) 35 rfl w3.heap.size 24 i1 (.slice none 0 0) 1 24 Tryz.underlying35 hi1 hy0 hy1 hy2 rfl (by omega) (wr.alloc (.cells (zeros 4) 3)) #[.slice (some ⟨wr.heap.size,0,none⟩) 4 4] _ (by simp) U j cu 1 _ rfl rfl (hUV.out.ru.own.alloc _) rfl (by simp [Value.oneCell']) (by omega) (by omega) (by simp;omega) ?_;intro U6 cu6 w6 happ hlt6;have hUV6:=hide (hUV.out.push happ);have B6:=hide (happ.low (B:=w3.heap.size) (below_alloc wr (.cells (zeros 4) 3) |>.mono hwr3) (by simp;omega) (lR _) (hUV.out.ru.own.alloc _));have z6:=B6.out.size;have hmk2:(Instr.makeSlice 24 (.int .i64 4) (.int .i64 4)).run Tryz.prog w6 = .ok (.slice (some ⟨w6.heap.size,0,none⟩) 4 4) (w6.alloc (.cells (zeros 4) 3)):=make_ints 4 (by omega) w6;clear happ hmk hlt6)
    | (at_builtin;refine wpl_app1b rfl (.tmp 49) (.tmp 53) 35 rfl w3.heap.size 24 i1 (.slice none 0 0) 1 24 Tryz.underlying35 hi1 hy0 hy1 hy2 rfl (by omega) (w6.alloc (.cells (zeros 4) 3)) #[.slice (some ⟨w6.heap.size,0,none⟩) 4 4] _ (by simp) V j cv 1 _ rfl rfl (hUV6.out.rv.own.alloc _) rfl (by simp [Value.oneCell']) (by omega) (by omega) (by simp;omega) ?_;intro V7 cv7 w7 happ hlt7;have hUV7:=hide (hUV6.out.symm.push happ).symm;have B7:=hide (happ.low (B:=w3.heap.size) (below_alloc w6 (.cells (zeros 4) 3) |>.mono (by omega)) (by simp;omega) (lR _) (hUV6.out.rv.own.alloc _));have z7:=B7.out.size;clear happ hmk2 hlt7))
   have M7:=hide ((hM.out.below B6.out (lR _)).below B7.out (lR _))
   have B8:=hide ((hB.out.trans (B6.out.mono HLO.out)).trans (B7.out.mono HLO.out))
   clear hM hB B6 B7 hUV hUV6
   go_roundw
   case rel=>exact ⟨j+1,U6,cu6,_,_,V7,cv7,_,_,by omega,by omega,rfl,rfl,by omega,M7.out,hUV7.out,hE.out.push,B8.out⟩
   case measure=>simp [sliceLn];omega
  ·obtain rfl:j=2+k1:=by omega
   have hlt':¬ ((2+k1:Nat):Int)<2+(k1:Int):=by omega
   have M':=hide (hM.out.wide (lR _) hz)
   have UV':=hide (hUV.out.lowU HLO.out)
   clear hM hUV
   go_wp2_with fail
   refine bodyPost_ret (v := .tuple #[.slice P np cp,.int .i64 2,.slice U (2+k1) cu,.slice V (2+k1) cv]) (by simp [results,Tryz.results9,go_sem]) rfl ⟨P,np,cp,2+k1,U,cu,V,cv,rfl,by omega,by omega,ms,vs,xss,us,yss,M'.out,hl2.out,UV'.out,hE.out,hB.out⟩
end Go.Proofs.YtomgcbfcnjbofaaGreat
