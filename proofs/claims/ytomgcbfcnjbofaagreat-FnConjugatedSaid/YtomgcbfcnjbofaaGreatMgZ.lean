/- Weights of nodes: the reference's walk. -/
import Derived.Test.YtomgcbfcnjbofaaGreatMgY
import Derived.Test.YtomgcbfcnjbofaaGreatMgA
import Derived.Lib.Join
import Derived.Laws.Runes
namespace Go.Proofs.YtomgcbfcnjbofaaGreat
open Go.RowKit
set_option linter.unusedSimpArgs false
set_option linter.unusedVariables false
set_option maxRecDepth 20000
set_option maxRecDepth 100000 in
set_option maxHeartbeats 4000000 in
theorem spec_l6Powers (A:Option Addr) (n c:Nat) (xs:List Int) (e0:Int) (lo hi:Nat) (w:World) (h:Ints w lo hi A n c xs) (hh:hi≤w.heap.size) (hn2:n≤8) (he:R64 e0) :
  Calls Tryz.prog 106 #[.slice A n c,.int .i64 e0] w fun e w'=>∃ R d,e = .returned (.slice R n d)∧OwnI w' w.heap.size w'.heap.size R n d (powRow xs e0)∧Below w.heap.size w w':=by
 obtain ⟨i0,hi0,hz0,hz1,hz2⟩:=info_parts info_int
 have hcp:=h.cap
 have hm:=h.max
 have HI:=hide h
 have hlx:=hide h.len
 have HE:=hide he
 have own0:=hide (World.ownsRow_lit (size:=1) (e:=3) (base:=w.heap.size) w #[] 0 (Nat.le_refl _) (by unfold maxLen;omega) rfl)
 have b0:=hide (below_alloc w (.cells #[] 3))
 clear h he
 go_enter Tryz.func106,Tryz.ntmps106
 go_wp2_with fail
 go_loopw [5,6] (fun p i wr=>∃ (j:Nat) (R:Option Addr) (d:Nat),j≤n∧i = .int .i64 j∧p = .slice R j d∧Hid (wr.ownsRow w.heap.size 3 1 (.slice R j d) j (((powRow xs e0).take j).map (Value.int .i64)))∧Hid (Below w.heap.size w wr)) (fun _ i _=>n - (intOf i).toNat)
 case atStart=>exact ⟨0,_,0,by omega,rfl,rfl,by show World.ownsRow _ _ _ _ _ _ _;simpa using own0.out,b0.out⟩
 case round =>
  obtain ⟨j,R,d,hj,rfl,rfl,hO,hb⟩:=hrel
  have hsz:=hb.out.size
  by_cases hlt:j<n
  ·obtain ⟨ad,x,rfl,hc,hxr,hdx,hx⟩:=(HI.out.below hb.out hh).at_ hlt
   have HPW:=hide fun W=>spec_Power x e0 W hxr HE.out
   have hpb:=powF_bd x e0
   have hT:Hid ((powRow xs e0).take j++[powF x e0]=(powRow xs e0).take (j+1)):=take_snoc0 (powRow_at hx.out)
   have hpr:R64 (powF x e0):=by constructor <;> omega
   clear hdx hx
   go_wp2_with (first
    | (go_at_call 99;refine (HPW.out _).mono ?_;rintro e w' ⟨rfl,rfl⟩)
    | (at_builtin;refine wpl_app1 rfl (.tmp 14) (.tmp 21) 24 rfl w.heap.size 3 i0 (.int .i64 0) 1 8 Tryz.underlying24 hi0 hz0 hz1 hz2 rfl (by omega) wr #[.int .i64 (powF x e0)] R j d 1 _ rfl rfl hO.out rfl (by simp [Value.oneCell']) (by omega) (by omega) hsz ?_;intro R2 d2 w5 happ hlt3))
   have hO5:Hid (w5.ownsRow w.heap.size 3 1 (.slice R2 (j+1) d2) (j+1) (((powRow xs e0).take (j+1)).map (Value.int .i64))):=by
    show World.ownsRow _ _ _ _ _ _ _
    rw [← hT.out,List.map_append]
    exact happ.1
   have hb5:=happ.low hb.out hsz (Nat.le_refl _) hO.out
   refine ⟨⟨j+1,R2,d2,by omega,by go_num,rfl,hO5.out,hb5⟩,?_⟩
   simp [intOf];omega
  ·obtain rfl:n=j:=by omega
   have hO2:=hO.out
   rw [List.take_of_length_le (by simp [powRow,hlx.out])] at hO2
   have HO:=hide hO2
   clear hO hO2
   go_wp2_with fail
   go_ret
   exact ⟨R,d,rfl,⟨HO.out,fun ad e=>(owns_lt HO.out ad e).2,powRow_rng _ _⟩,hb.out⟩
set_option maxRecDepth 100000 in
set_option maxHeartbeats 4000000 in
theorem spec_l7Weights (A0:Option Addr) (n c:Nat) (xs:List Int) (a0:Int) (lo hi:Nat) (w:World) (h:Ints w lo hi A0 n c xs) (hh:hi≤w.heap.size) (hn:0<n) (hn2:n≤8) (ha:R64 a0) (hf:FullF n (vanM xs n) (goalL (powGoal a0) n)) :
  Calls Tryz.prog 86 #[.slice A0 n c,.int .i64 a0] w fun e w'=>∃ R d,e = .returned (.slice R n d)∧OwnI w' w.heap.size w'.heap.size R n d (solF n (vanM xs n) (goalL (powGoal a0) n))∧Below w.heap.size w w':=by
 obtain ⟨i0,hi0,hz0,hz1,hz2⟩:=info_parts info_int
 obtain ⟨i1,hi1,hy0,hy1,hy2⟩:=info_parts info_ints
 have hcp:=h.cap
 have hm:=h.max
 have HI:=hide h
 have hlx:=hide h.len
 have HA:=hide ha
 have HF:=hide hf
 have s0:=hide (QuS.start w)
 clear h ha hf
 go_enter Tryz.func86,Tryz.ntmps86
 go_wp2_with fail
 go_loopw [5,6,7] (fun p g i wr=>∃ (q:Nat) (A:Option Addr) (c':Nat) (vs:List Value) (G:Option Addr) (d:Nat),q≤n∧i = .int .i64 ((q:Int)+1)∧p = .slice A q c'∧g = .slice G q d∧Hid (QuS w wr w.heap.size A q c' vs ((vanM xs n).take q) G q d ((goalL (powGoal a0) n).take q))) (fun _ _ i _=>n+1 - (intOf i).toNat)
 case atStart=>exact ⟨0,_,0,[],_,0,by omega,rfl,rfl,by simp,s0.out⟩
 case round =>
  clear s0
  obtain ⟨q,A,c',vs,G,d,hq,rfl,rfl,rfl,hQ⟩:=hrel
  have hsz:=hQ.out.low.size
  have hcA:=hQ.out.rows.capb
  have hcG:=hQ.out.goal.capb
  have hI:=HI.out.below hQ.out.low hh
  by_cases hlt:q<n
  ·have HPW:=hide (spec_l6Powers A0 n c xs (q:Int) lo hi wr hI (by omega) hn2 (by constructor <;> omega))
   have HPP:=hide fun W=>spec_Power a0 ((q:Int)+1) W HA.out (by constructor <;> omega)
   have hpb:=powF_bd a0 ((q:Int)+1)
   have HFR:=hide fun W=>spec_Fraction (powF a0 ((q:Int)+1)) ((q:Int)+1) W (by constructor <;> omega) (by constructor <;> omega)
   have hfb:=fracF_bd (powF a0 ((q:Int)+1)) ((q:Int)+1)
   have hfr:R64 (fracF (powF a0 ((q:Int)+1)) ((q:Int)+1)):=by constructor <;> omega
   have hT:Hid ((vanM xs n).take q++[powRow xs (q:Int)]=(vanM xs n).take (q+1)):=take_snoc0 (van_at hlt)
   have hU:Hid ((goalL (powGoal a0) n).take q++[fracF (powF a0 ((q:Int)+1)) ((q:Int)+1)]=(goalL (powGoal a0) n).take (q+1)):=take_snoc0 (goal_at (f:=powGoal a0) hlt)
   clear hI
   go_wp2_with (first
    | (go_at_call 106;refine HPW.out.mono ?_;rintro e w2 ⟨R2,d2,rfl,hO2,hb2⟩;have HQ2:=hide (hQ.out.below hsz hb2);have hO3:=hide hO2;have hsz2:=Nat.le_trans hsz hb2.size;clear hO2 hb2)
    | (go_at_call 99;refine (HPP.out _).mono ?_;rintro e w' ⟨rfl,rfl⟩)
    | (go_at_call 31;refine (HFR.out _).mono ?_;rintro e w' ⟨rfl,rfl⟩)
    | (at_builtin;refine wpl_app1 rfl (.tmp 18) (.tmp 23) 35 rfl w.heap.size 24 i1 (.slice none 0 0) 1 24 Tryz.underlying35 hi1 hy0 hy1 hy2 rfl (by omega) w2 #[.slice R2 n d2] A q c' 1 _ rfl rfl HQ2.out.rows.own rfl (by simp [Value.oneCell']) (by omega) (by omega) hsz2 ?_;intro A5 c5 w5 happ5 hlt5;have HQ5:=hide (HQ2.out.pushRow hsz2 hO3.out.own hO3.out.rng hsz hQ.out.old happ5);have hsz5:w.heap.size≤w5.heap.size:=(by omega);clear happ5)
    | (at_builtin;refine wpl_app1 rfl (.tmp 25) (.tmp 31) 24 rfl w.heap.size 3 i0 (.int .i64 0) 1 8 Tryz.underlying24 hi0 hz0 hz1 hz2 rfl (by omega) w5 #[.int .i64 (fracF (powF a0 ((q:Int)+1)) ((q:Int)+1))] G q d 1 _ rfl rfl HQ5.out.goal.own rfl (by simp [Value.oneCell']) (by omega) (by omega) hsz5 ?_;intro A6 c6 w6 happ6 hlt6;have HQ6:=hide (HQ5.out.pushGoal hsz5 hfr happ6);clear happ6))
   rw [hT.out,hU.out] at HQ6
   refine ⟨⟨q+1,A5,c5,_,A6,c6,by omega,by go_num,rfl,rfl,HQ6.out⟩,?_⟩
   simp [intOf];omega
  ·obtain rfl:n=q:=by omega
   have hQ2:=hQ.out
   rw [List.take_of_length_le (Nat.le_of_eq (van_len xs n)),List.take_of_length_le (Nat.le_of_eq (goal_len _ n))] at hQ2
   obtain ⟨gr,rfl,hr1,hr2⟩:=hQ2.rows.form hn
   obtain ⟨gt,rfl,ht1,ht2,_⟩:=hQ2.goal.form hn
   have hvn:=van_num xs n
   rw [hlx.out] at hvn
   have HSS:=hide (spec_SolveSystem gr n c' _ gt d _ w.heap.size wr.heap.size w.heap.size wr.heap.size wr hQ2.rows.ints2 hvn hQ2.goal.ints (goal_num fun k=>fracF_bd _ _) (Nat.le_refl _) (Nat.le_refl _) hn hn2 HF.out)
   have hbQ:=hide hQ2.low
   clear hQ hQ2 hvn hI
   go_wp2_with (go_at_call 87;refine HSS.out.mono ?_;rintro e w3 ⟨C,cc,rfl,hO,hb⟩;have HO:=hide (hO.wide (lo':=w.heap.size) hsz (Nat.le_refl _));have HB:=hide (hbQ.out.trans (hb.mono hsz));clear hO hb)
   go_ret
   exact ⟨C,cc,rfl,HO.out,HB.out⟩
end Go.Proofs.YtomgcbfcnjbofaaGreat
/- Tableaus of collocation: the reference's walk. -/
namespace Go.Proofs.YtomgcbfcnjbofaaGreat
open Go.RowKit
open List renaming setIfInBounds_toArray → sTA, set_cons_zero → sC0, set_cons_succ → sC1
set_option linter.unusedSimpArgs false
set_option linter.unusedVariables false
set_option maxRecDepth 20000
theorem owp_app {P:Program} {o:Oper} {a:Act} {K:Act→World→Prop} {Q:Exit→Act→World→Prop} (s x:Operand) (t:TypeId)
  (ho:o.op = .call { callee := .builtin .append,args := #[s,x],argTypes := #[t,t] }) (w:World)
  (base:Nat) (e:TypeId) (i:TypeInfo) (z:Value) (size bytes:Nat) (ht:P.underlying t=some (.slice e)) (hi:P.info? e=some i) (hz:i.zero=some z)
  (hsize:i.size=size) (hby:i.bytes=bytes) (hzs:z.cells.size=size) (hsz:0<size)
  (A:Option Addr) (n c:Nat) (xs:List Value) (hs:a.eval s = .slice A n c) (hown:w.ownsRow base e size (.slice A n c) n xs)
  (ad:Addr) (m d:Nat) (news:List Value) (hx:a.eval x = .slice (some ad) m d) (hl:news.length=m*size) (hnews:∀ j u,news[j]? = some u→w.cell? (ad.add j)=some u) (h1:∀ u∈news,u.oneCell'=true)
  (h63:n+m≤1099511627776) (hbytes:bytes≤128) (hbase:base≤w.heap.size)
  (h:∀ A' c' w',Appended w base e size A n c A' (n+m) c' (xs++news) w'→K (a.put o.dst (.slice A' (n+m) c')) w'):Oper.wp P o a w K Q:=by
 obtain ⟨A',c',w',hrun,h2⟩:=run_app (P:=P) w base t o.type e i z size bytes ht hi hz hsize hby hzs hsz A n c xs hown ad m d news hl hnews h1 h63 hbytes hbase
 unfold Oper.wp
 simp [execOp,ho,resolve,invoke,builtin,hs,hx,hrun,Result.andThen]
 exact h A' c' w' h2
structure ColT (w0 w:World) (gr g4 n:Nat) (A:Option Addr) (m cA:Nat) (za:List Int) (B:Option Addr) (cB:Nat) (zb:List Int):Prop where
 res:BlkN w gr #[.int .i64 0,.slice none 0 0,.slice none 0 0]
 tab:BlkN w g4 #[.int .i64 (n:Int),.slice A m cA,.slice B n cB]
 ha:OwnI w w0.heap.size w.heap.size A m cA za
 hb:OwnI w w0.heap.size w.heap.size B n cB zb
 low:Below w0.heap.size w0 w
 dA:∀ k,oBlk A m cA=some k→oBlk B n cB≠some k∧k≠g4∧k≠gr
 dB:∀ k,oBlk B n cB=some k→k≠g4∧k≠gr
 d:g4≠gr
 b1:w0.heap.size≤gr
 b2:w0.heap.size≤g4
section
variable {w0 w w':World} {gr g4 n:Nat} {A:Option Addr} {m cA:Nat} {za:List Int} {B:Option Addr} {cB:Nat} {zb:List Int}
theorem ColT.below (h:ColT w0 w gr g4 n A m cA za B cB zb) (hb:Below w.heap.size w w'):ColT w0 w' gr g4 n A m cA za B cB zb :=
 ⟨h.res.below hb,h.tab.below hb,(h.ha.below hb (Nat.le_refl _)).wide (Nat.le_refl _) hb.size,(h.hb.below hb (Nat.le_refl _)).wide (Nat.le_refl _) hb.size,h.low.trans (hb.mono h.low.size),h.dA,h.dB,h.d,h.b1,h.b2⟩
theorem ColT.mid (h:ColT w0 w gr g4 n A m cA za B cB zb) {A':Option Addr} {m' cA':Nat} {xs:List Value} (hap:Appended w w0.heap.size 3 1 A m cA A' m' cA' xs w'):BlkN w' g4 #[.int .i64 (n:Int),.slice A m cA,.slice B n cB]∧BlkN w' gr #[.int .i64 0,.slice none 0 0,.slice none 0 0] :=
 ⟨h.tab.same (hap.2.1.block g4 h.tab.lt fun e=>(h.dA g4 e.symm).2.1 rfl),h.res.same (hap.2.1.block gr h.res.lt fun e=>(h.dA gr e.symm).2.2 rfl)⟩
theorem ColT.push (h:ColT w0 w gr g4 n A m cA za B cB zb) {ys:List Int} {k:Nat} (hr:∀ y∈ys,R64 y) {A':Option Addr} {cA':Nat} (hap:Appended w w0.heap.size 3 1 A m cA A' (m+k) cA' (za.map (Value.int .i64)++ys.map (Value.int .i64)) w') :
  ColT w0 (w'.setCell ⟨g4,1,none⟩ (.slice A' (m+k) cA')) gr g4 n A' (m+k) cA' (za++ys) B cB zb:=by
 have hm:=h.mid hap
 have hlow:=hap.low h.low h.low.size (Nat.le_refl _) h.ha.own
 have kV:=hm.1.set 1 (.slice A' (m+k) cA')
 simp only [sTA,sC0,sC1] at kV
 have hne:∀ b,b≠g4→(w'.setCell ⟨g4,1,none⟩ (.slice A' (m+k) cA')).heap[b]? = w'.heap[b]? := fun b hb=>Below.heap_setCell _ ⟨g4,1,none⟩ _ b hb
 have hsz:(w'.setCell ⟨g4,1,none⟩ (.slice A' (m+k) cA')).heap.size=w'.heap.size:=by simp [World.setCell]
 have hgl:=h.tab.lt
 have hgr:=h.res.lt
 have nA:=new_blk hap
 have hd:=h.d
 have dA':∀ b,oBlk A' (m+k) cA'=some b→oBlk B n cB≠some b∧b≠g4∧b≠gr:=by
  intro b hb
  rcases nA b hb with e | e
  ·exact h.dA b e
  ·refine ⟨fun e2=>?_,by omega,by omega⟩
   obtain ⟨ad,e3,e4⟩:=ownBlock_eq.1 e2
   have:=h.hb.lt ad e3
   omega
 refine ⟨hm.2.far (Ne.symm h.d) _,kV,?_,?_,hlow.setCell (p:=⟨g4,1,none⟩) h.b2 _,dA',h.dB,h.d,h.b1,h.b2⟩
 ·rw [hsz]
  refine ⟨owns_same (by rw [List.map_append];exact hap.1) (fun ad e=>hne _ (dA' ad.block (ownBlock_eq.2 ⟨ad,e,rfl⟩)).2.1),fun ad e=>(owns_lt hap.1 ad e).2,fun y hy=>?_⟩
  rcases List.mem_append.1 hy with hy | hy
  ·exact h.ha.rng y hy
  ·exact hr y hy
 ·rw [hsz]
  have hBk:oBlk B n cB=none∨oBlk B n cB≠oBlk A m cA:=by
   cases hk:oBlk B n cB with
   | none=>exact .inl rfl
   | some b=>exact .inr fun e=>(h.dA b e.symm).1 hk
  have hB:=h.hb.kept hap.2.1 hBk
  exact ⟨owns_same hB.own (fun ad e=>hne _ (h.dB ad.block (ownBlock_eq.2 ⟨ad,e,rfl⟩)).1),hB.lt,hB.rng⟩
theorem ColT.done (h:ColT w0 w gr g4 n A m cA za B cB zb) (v1 v2 v3:Value) :
  OwnI (((w.setCell ⟨gr,0,none⟩ v1).setCell ⟨gr,1,none⟩ v2).setCell ⟨gr,2,none⟩ v3) w0.heap.size (((w.setCell ⟨gr,0,none⟩ v1).setCell ⟨gr,1,none⟩ v2).setCell ⟨gr,2,none⟩ v3).heap.size A m cA za ∧
  OwnI (((w.setCell ⟨gr,0,none⟩ v1).setCell ⟨gr,1,none⟩ v2).setCell ⟨gr,2,none⟩ v3) w0.heap.size (((w.setCell ⟨gr,0,none⟩ v1).setCell ⟨gr,1,none⟩ v2).setCell ⟨gr,2,none⟩ v3).heap.size B n cB zb ∧
  Below w0.heap.size w0 (((w.setCell ⟨gr,0,none⟩ v1).setCell ⟨gr,1,none⟩ v2).setCell ⟨gr,2,none⟩ v3):=by
 have hb:∀ b,b≠gr→(((w.setCell ⟨gr,0,none⟩ v1).setCell ⟨gr,1,none⟩ v2).setCell ⟨gr,2,none⟩ v3).heap[b]? = w.heap[b]? := fun b hb =>
  ((Below.heap_setCell _ ⟨gr,2,none⟩ _ b hb).trans (Below.heap_setCell _ ⟨gr,1,none⟩ _ b hb)).trans (Below.heap_setCell _ ⟨gr,0,none⟩ _ b hb)
 have hsz:(((w.setCell ⟨gr,0,none⟩ v1).setCell ⟨gr,1,none⟩ v2).setCell ⟨gr,2,none⟩ v3).heap.size=w.heap.size:=by simp [World.setCell]
 rw [hsz]
 exact ⟨⟨owns_same h.ha.own (fun ad e=>hb _ (h.dA ad.block (ownBlock_eq.2 ⟨ad,e,rfl⟩)).2.2),h.ha.lt,h.ha.rng⟩,⟨owns_same h.hb.own (fun ad e=>hb _ (h.dB ad.block (ownBlock_eq.2 ⟨ad,e,rfl⟩)).2),h.hb.lt,h.hb.rng⟩,
  ((h.low.setCell (p:=⟨gr,0,none⟩) h.b1 v1).setCell (p:=⟨gr,1,none⟩) h.b1 v2).setCell (p:=⟨gr,2,none⟩) h.b1 v3⟩
theorem ColT.start {w w0 w1:World} {gr:Nat} (k0:BlkN w0 gr #[.int .i64 0,.slice none 0 0,.slice none 0 0]) (hgr:w.heap.size≤gr) (b0:Below w.heap.size w w0) (hO:OwnI w1 w0.heap.size w1.heap.size B n cB zb) (b1:Below w0.heap.size w0 w1) :
  ColT w (w1.alloc (.cells #[.int .i64 (n:Int),.slice none 0 0,.slice B n cB] 26)) gr w1.heap.size n none 0 0 [] B cB zb:=by
 have hbV:=below_alloc w1 (.cells #[.int .i64 (n:Int),.slice none 0 0,.slice B n cB] 26)
 have hz0:=b0.size
 have hz1:=b1.size
 have hk0:=k0.lt
 refine ⟨(k0.below b1).below hbV,BlkN.new w1 _ _,OwnI.nil_ _ _ _,(hO.below hbV (Nat.le_refl _)).wide hz0 hbV.size,b0.trans ((b1.mono hz0).trans (hbV.mono (by omega))),by simp [Value.ownBlock],fun k hk=>?_,by omega,hgr,by omega⟩
 obtain ⟨ad,e,e2⟩:=ownBlock_eq.1 hk
 have h1:=hO.lt ad e
 have h2:=(hO.lt_size ad e).1
 exact ⟨by omega,by omega⟩
end
theorem news_of {w:World} {lo hi n c g:Nat} {xs:List Int} (hn:0<n) (h:Ints w lo hi (some ⟨g,0,none⟩) n c xs):∀ (j:Nat) (u:Value),(xs.map (Value.int .i64))[j]? = some u→w.cell? ((⟨g,0,none⟩:Addr).add j)=some u:=by
 intro j u hu
 obtain ⟨ad,e,_,_,hc⟩:=h.cells hn
 injection e with e
 subst e
 rw [List.getElem?_map] at hu
 cases hy:xs[j]? with
 | none=>rw [hy] at hu;cases hu
 | some y =>
  rw [hy] at hu
  injection hu with hu
  subst hu
  exact hc j y hy
theorem news_one' (xs:List Int):∀ u∈xs.map (Value.int .i64),u.oneCell'=true:=by
 intro u hu
 simp only [List.mem_map] at hu
 obtain ⟨y,_,rfl⟩:=hu
 rfl
set_option maxRecDepth 100000 in
set_option maxHeartbeats 8000000 in
theorem spec_Collocation (g0 n c:Nat) (xs:List Int) (lo hi:Nat) (w:World) (h:Ints w lo hi (some ⟨g0,0,none⟩) n c xs) (hh:hi≤w.heap.size) (hn:0<n) (hn2:n≤8) (hx:∀ x∈xs,0≤x∧x<1000000271) (hd:xs.Nodup)
  (hf:∀ x∈xs,FullF n (vanM xs n) (goalL (powGoal x) n)) (hf1:FullF n (vanM xs n) (goalL (powGoal 1) n)) :
  Calls Tryz.prog 92 #[.slice (some ⟨g0,0,none⟩) n c] w fun e w'=>∃ A cA B cB,e = .returned (.tuple #[.agg #[.int .i64 (n:Int),.slice A (n*n) cA,.slice B n cB],.bool true]) ∧
   OwnI w' w.heap.size w'.heap.size A (n*n) cA (catF xs n)∧OwnI w' w.heap.size w'.heap.size B n cB (solF n (vanM xs n) (goalL (powGoal 1) n))∧Below w.heap.size w w':=by
 obtain ⟨i0,hi0,hz0,hz1,hz2⟩:=info_parts info_int
 have hcp:=h.cap
 have hm:=h.max
 have hlx:=hide h.len
 have HX:=hide hx
 have HF:=hide hf
 have HF1:=hide hf1
 have b0:=below_alloc w (.cells #[.int .i64 0,.slice none 0 0,.slice none 0 0] 26)
 have k0:=BlkN.new w #[.int .i64 0,.slice none 0 0,.slice none 0 0] 26
 have hI0:=h.below b0 hh
 have hgw:g0<w.heap.size:=by
  obtain ⟨ad,e,_,h2,_⟩:=h.cells hn
  injection e with e
  subst e
  exact Nat.lt_of_lt_of_le h2 hh
 have HAD:=hide (spec_l7Different g0 n c xs lo hi _ hI0 hd (allNumF_of hx))
 have t1:(decide ((1:Int)≤n) && decide ((n:Int)≤8))=true:=by simp;omega
 have HI:=hide h
 clear h hx hd hf hf1 hI0
 go_enter Tryz.func92,Tryz.ntmps92
 go_wp2_with (first
  | (go_at_call 64;refine (spec_l1In _ _ _ _).mono ?_;rintro e w' ⟨rfl,rfl⟩)
  | (go_at_call 85;refine HAD.out.mono ?_;rintro e w' ⟨rfl,q1,rfl⟩;have k1:=hide (k0.same (w':=(w.alloc (.cells #[.int .i64 0,.slice none 0 0,.slice none 0 0] 26)).drewN q1) rfl);have b1:=hide (below_drewN b0 q1);have hI1:=hide (HI.out.below b1.out hh);clear k0 b0)
  | (go_at_call 86;refine (spec_l7Weights (some ⟨g0,0,none⟩) n c xs 1 lo hi _ hI1.out (by have:=b1.out.size;omega) hn hn2 (by constructor <;> omega) HF1.out).mono ?_;rintro e w1 ⟨B,cB,rfl,hO1,hb1⟩;have HS:=hide (ColT.start (n:=n) k1.out (Nat.le_refl _) b1.out hO1 hb1);clear hO1 hb1 b1 k1 hI1))
 clear HAD t1
 have h64:n*n≤64:=Nat.mul_le_mul hn2 hn2
 generalize w1.heap.size=g4 at HS ⊢
 generalize w1.alloc (.cells #[.int .i64 (n:Int),.slice none 0 0,.slice B n cB] 26)=W at HS ⊢
 go_loopw [5] (fun i wr=>∃ (q:Nat) (A:Option Addr) (m cA:Nat),q≤n∧i = .int .i64 q∧Hid (ColT w wr w.heap.size g4 n A m cA (catF xs q) B cB (solF n (vanM xs n) (goalL (powGoal 1) n)))∧Hid (m=q*n)) (fun i _=>n - (intOf i).toNat)
 case atStart=>exact ⟨0,none,0,0,by omega,rfl,HS.out,by show 0=0*n;simp⟩
 case round =>
  clear HS
  obtain ⟨q,A,m,cA,hq,rfl,hS,hm0⟩:=hrel
  have hsz:=hS.out.low.size
  by_cases hlt:q<n
  ·obtain ⟨ad,x,e,hc0,hxr,_,hxx⟩:=(HI.out.below hS.out.low hh).at_ hlt
   injection e with e
   subst e
   have hxm:=List.mem_of_getElem? hxx.out
   have hcx:wr.cell? ⟨g0,q,none⟩=some (.int .i64 x):=by simpa [Addr.add_lit] using hc0
   have hstep:Hid (catF xs (q+1)=catF xs q++solF n (vanM xs n) (goalL (powGoal x) n)):=by show _=_;rw [cat_step hxx.out,hlx.out]
   have hm8:m≤64:=by rw [hm0.out];exact Nat.le_trans (Nat.mul_le_mul_right n hq) h64
   have HFX:=hide (HF.out x hxm)
   have hSd:=hide (hS.out.below ((Below.refl _ _).drew))
   have hzd:=hSd.out.low.size
   have HW:=hide (spec_l7Weights (some ⟨g0,0,none⟩) n c xs x lo hi wr.drew (HI.out.below hSd.out.low hh) (by omega) hn hn2 hxr HFX.out)
   have HCX:=hide fun (v1:World) (hB:Below w.heap.size w v1)=>(((hB.cell (p:=⟨g0,q,none⟩) hgw).trans (hS.out.low.cell (p:=⟨g0,q,none⟩) hgw).symm).trans hcx:v1.cell? ⟨g0,q,none⟩=some (.int .i64 x))
   have hS0:=And.intro hSd.out.tab (HCX.out _ hSd.out.low)
   clear hc0 hxx hcx hS
   go_wp2_with fail
   refine wp_region_Z (fun W'=>BlkN W' g4 #[.int .i64 (n:Int),.slice A m cA,.slice B n cB]∧W'.cell? ⟨g0,q,none⟩=some (.int .i64 x)) 10 (by kernel_rfl) ?_
   refine wpAnyZ_takeW 0 (.pointer (some ⟨g4,1,none⟩)) rfl (by kernel_rfl) (by kernel_rfl) (fun _ _ _ h=>h) (by rfl) (fun _=>by go_simp) hS0 ?_
   try simp only [Act.put,sTA,sC0,sC1]
   refine wpAnyZ_take 1 (.slice A m cA) rfl (by kernel_rfl) (by kernel_rfl) (fun _ _ _ h=>h) (by rfl) (fun _ hS=>by have q0:=hS.1.c 1 rfl;clear hS;go_simp) hS0 ?_
   try simp only [Act.put,sTA,sC0,sC1]
   refine wpAnyZ_takeW 2 (.slice (some ⟨g0,0,none⟩) n c) rfl (by kernel_rfl) (by kernel_rfl) (fun _ _ _ h=>h) (by rfl) (fun _=>by go_simp) hS0 ?_
   try simp only [Act.put,sTA,sC0,sC1]
   refine wpAnyZ_takeW 3 (.slice (some ⟨g0,0,none⟩) n c) rfl (by kernel_rfl) (by kernel_rfl) (fun _ _ _ h=>h) (by rfl) (fun _=>by go_simp) hS0 ?_
   try simp only [Act.put,sTA,sC0,sC1]
   refine wpAnyZ_takeW 4 (.int .i64 (q:Int)) rfl (by kernel_rfl) (by kernel_rfl) (fun _ _ _ h=>h) (by rfl) (fun _=>by go_simp) hS0 ?_
   try simp only [Act.put,sTA,sC0,sC1]
   refine wpAnyZ_takeW 5 (.pointer (some ⟨g0,q,none⟩)) rfl (by kernel_rfl) (by kernel_rfl) (fun _ _ _ h=>h) (by rfl) (fun _=>by go_simp) hS0 ?_
   try simp only [Act.put,sTA,sC0,sC1]
   refine wpAnyZ_take 6 (.int .i64 x) rfl (by kernel_rfl) (by kernel_rfl) (fun _ _ _ h=>h) (by rfl) (fun _ hS=>by have q0:=hS.2;clear hS;go_simp) hS0 ?_
   try simp only [Act.put,sTA,sC0,sC1]
   refine wpAnyZ_one 7 (by kernel_rfl) rfl (by rfl) (fun K hK=>?_)
   go_simp
   refine HW.out.mono ?_
   rintro e w3 ⟨R,d,rfl,hO3,hb3⟩
   have hS4:=hide (hSd.out.below hb3)
   have hO4:=hide hO3
   have hS1:=And.intro hS4.out.tab (HCX.out _ hS4.out.low)
   have hz3:=hS4.out.low.size
   clear hO3 hb3
   go_wp2_with fail
   refine hK.out _ _ hS1 ?_
   clear hK K
   try simp only [Act.put,sTA,sC0,sC1]
   refine wpAnyZ_one 8 (by kernel_rfl) rfl (by rfl) (fun K hK=>?_)
   obtain ⟨gR,rfl,hR1,hR2,_⟩:=hO4.out.form hn
   refine owp_app (.tmp 28) (.tmp 34) 24 rfl w3 w.heap.size 3 i0 (.int .i64 0) 1 8 Tryz.underlying24 hi0 hz0 hz1 hz2 rfl (by omega) A m cA _ rfl hS4.out.ha.own ⟨gR,0,none⟩ n d _ rfl (by simpa using hO4.out.len) (news_of hn hO4.out.ints) (news_one' _) (by omega) (by omega) hz3 ?_
   intro A5 c5 w5 happ
   have hm5:=hS4.out.mid happ
   have HP:=hide (hS4.out.push hO4.out.rng happ)
   have hS2:=And.intro hm5.1 (HCX.out _ (happ.low hS4.out.low hz3 (Nat.le_refl _) hS4.out.ha.own))
   have c5':=hm5.1.c 1 rfl
   have f5':=hm5.1.f 1
   clear happ hm5 hS1
   refine hK.out _ _ hS2 ?_
   clear hK K
   try simp only [Act.put,sTA,sC0,sC1]
   refine wpAnyZ_takeW 9 (.pointer (some ⟨g4,1,none⟩)) rfl (by kernel_rfl) (by kernel_rfl) (fun _ _ _ h=>h) (by rfl) (fun _=>by go_simp) hS2 ?_
   try simp only [Act.put,sTA,sC0,sC1]
   refine wpAnyZ_last (by kernel_rfl) rfl (by kernel_rfl) (by rfl) (fun K hK=>?_)
   go_simp
   refine hK _ _ ?_
   clear hK K
   clear c5' f5' hS2
   rw [← hstep.out] at HP
   go_wp2_with fail
   go_roundw
   case rel=>exact ⟨q+1,A5,m+n,c5,by omega,by go_num,HP.out,by show m+n=(q+1)*n;rw [hm0.out,Nat.add_mul,Nat.one_mul]⟩
   case measure=>simp [intOf];omega
  ·obtain rfl:n=q:=by omega
   have hmn:Hid (m=n*n):=hm0
   obtain rfl:n*n=m:=hm0.out.symm
   have hD:=hide (hS.out.done (.int .i64 (n:Int)) (.slice A (n*n) cA) (.slice B n cB))
   have s0:=hS.out.tab.c 0 rfl
   have s1:=hS.out.tab.c 1 rfl
   have s2:=hS.out.tab.c 2 rfl
   have U1:=hS.out.res.c 0 rfl
   have U2:=hS.out.res.c 1 rfl
   have U3:=hS.out.res.c 2 rfl
   have V1:=hS.out.res.f 0
   have V2:=hS.out.res.f 1
   have V3:=hS.out.res.f 2
   have zk:=hS.out.res.lt
   clear hS hm0 hmn
   go_wp2_with fail
   refine bodyPost_ret (v := .tuple #[.agg #[.int .i64 (n:Int),.slice A (n*n) cA,.slice B n cB],.bool true]) (by simp [results,Tryz.results92,go_sem,U1,U2,U3,V1,V2,V3,zk]) rfl ⟨_,_,_,_,rfl,hD.out⟩
end Go.Proofs.YtomgcbfcnjbofaaGreat
/- Texts of numbers: the plain laws. -/
namespace Go.Proofs.YtomgcbfcnjbofaaGreat
open Go.RowKit
set_option linter.unusedSimpArgs false
set_option linter.unusedVariables false
set_option maxRecDepth 20000
def dgB (n:Nat):ByteArray:=⟨#[UInt8.ofNat (48+n)]⟩
def decB (n:Nat):ByteArray:=if n<10 then dgB n else decB (n / 10)++dgB (n % 10)
termination_by n
theorem decB_small {n:Nat} (h:n<10):decB n=dgB n:=by rw [decB,if_pos h]
theorem decB_big {n:Nat} (h:¬ n<10):decB n=decB (n / 10)++dgB (n % 10):=by rw [decB,if_neg h]
theorem dgB_size (n:Nat):(dgB n).size=1:=rfl
theorem decB_size_le:∀ (m n:Nat),n<10 ^ (m+1)→(decB n).size≤m+1
 | 0,n,h=>by rw [decB_small (by simpa using h),dgB_size];omega
 | m+1,n,h=>by
  by_cases hn:n<10
  ·rw [decB_small hn,dgB_size];omega
  ·rw [decB_big hn,ByteArray.size_append,dgB_size]
   have:n / 10<10 ^ (m+1):=by
    rw [Nat.div_lt_iff_lt_mul (by omega)]
    rw [Nat.pow_succ] at h
    exact h
   have:=decB_size_le m _ this
   omega
theorem decB_pos (n:Nat):0<(decB n).size:=by
 by_cases hn:n<10
 ·rw [decB_small hn,dgB_size];omega
 ·rw [decB_big hn,ByteArray.size_append,dgB_size];omega
def slashB (b:Nat):ByteArray:=if b=1 then ByteArray.empty else ⟨#[47]⟩++decB b
def fracTx (n:Nat) (b:Nat):Option ByteArray :=
 if n*b % 1000000271≤9999 then some (decB (n*b % 1000000271)++slashB b)
 else if 999990272≤n*b % 1000000271 then some (⟨#[45]⟩++decB (1000000271 - n*b % 1000000271)++slashB b)
 else none
def fmtFrom (n:Nat) (b:Nat):ByteArray :=
 if b≤9999 then (match fracTx n b with | some s=>s | none=>fmtFrom n (b+1)) else ⟨#[35]⟩++decB n
termination_by 10000 - b
theorem fmtFrom_some {n b:Nat} (h:b≤9999) {s:ByteArray} (hp:fracTx n b=some s):fmtFrom n b=s:=by rw [fmtFrom,if_pos h,hp]
theorem fmtFrom_none {n b:Nat} (h:b≤9999) (hp:fracTx n b=none):fmtFrom n b=fmtFrom n (b+1):=by rw [fmtFrom,if_pos h,hp]
theorem fmtFrom_end {n b:Nat} (h:¬ b≤9999):fmtFrom n b=⟨#[35]⟩++decB n:=by rw [fmtFrom,if_neg h]
theorem fracTx_size {n b:Nat} (hb:b≤9999) {s:ByteArray} (h:fracTx n b=some s):s.size≤11∧0<s.size:=by
 have h1:(slashB b).size≤5:=by
  unfold slashB
  split
  ·simp
  ·have:=decB_size_le 3 b (by omega)
   rw [ByteArray.size_append]
   show 1+_≤5
   omega
 unfold fracTx at h
 split at h
 ·injection h with h
  subst h
  have h2:=decB_size_le 3 (n*b % 1000000271) (by omega)
  have h3:=decB_pos (n*b % 1000000271)
  rw [ByteArray.size_append]
  omega
 ·split at h
  ·injection h with h
   subst h
   have h2:=decB_size_le 3 (1000000271 - n*b % 1000000271) (by omega)
   rw [ByteArray.size_append,ByteArray.size_append]
   show 1+_+_≤11∧0<1+_+_
   omega
  ·cases h
theorem fmtFrom_size (n:Nat) (hn:n<1000000271):∀ b,(fmtFrom n b).size≤11∧0<(fmtFrom n b).size:=by
 intro b
 by_cases hb:b≤9999
 ·cases hp:fracTx n b with
  | some s=>rw [fmtFrom_some hb hp];exact fracTx_size hb hp
  | none=>rw [fmtFrom_none hb hp];exact fmtFrom_size n hn (b+1)
 ·rw [fmtFrom_end hb,ByteArray.size_append]
  have:=decB_size_le 9 n (by omega)
  show 1+_≤11∧0<1+_
  omega
termination_by b=>10000 - b
def fmtF (n:Int):ByteArray:=if 0≤n∧n<1000000271 then fmtFrom n.toNat 1 else ByteArray.empty
theorem fmtF_size (n:Int):(fmtF n).size≤11:=by
 unfold fmtF
 split
 ·exact (fmtFrom_size _ (by omega) 1).1
 ·simp
def joinB (sep:ByteArray) (xs:List ByteArray):ByteArray:=⟨(Lib.join (xs.map (·.data.toList)) sep.data.toList).toArray⟩
theorem joinB_data (sep:ByteArray) (xs:List ByteArray):(joinB sep xs).data.toList=Lib.join (xs.map (·.data.toList)) sep.data.toList:=rfl
theorem bytes_ext {a b:ByteArray} (h:a.data.toList=b.data.toList):a=b:=by
 cases a;cases b
 simpa using h
theorem append_data (a b:ByteArray):(a++b).data.toList=a.data.toList++b.data.toList:=by
 rw [ByteArray.data_append,Array.toList_append]
theorem joinB_nil (sep:ByteArray):joinB sep []=ByteArray.empty:=rfl
theorem joinB_one (sep x:ByteArray):joinB sep [x]=x:=bytes_ext (by rw [joinB_data];exact Lib.join_one _ _)
theorem joinB_snoc (sep:ByteArray) {xs:List ByteArray} (h:xs≠[]) (x:ByteArray):joinB sep (xs++[x])=joinB sep xs++sep++x:=by
 refine bytes_ext ?_
 rw [joinB_data,append_data,append_data,joinB_data]
 cases xs with
 | nil=>exact absurd rfl h
 | cons y r =>
  rw [List.cons_append,List.map_cons,List.map_cons,Lib.join_cons,Lib.join_cons,List.map_append]
  simp [Lib.joinTail,List.append_assoc]
theorem joinB_cons (sep:ByteArray) {xs:List ByteArray} (h:xs≠[]) (x:ByteArray):(joinB sep (x :: xs)).data.toList=x.data.toList++sep.data.toList++(joinB sep xs).data.toList:=by
 rw [joinB_data,joinB_data]
 cases xs with
 | nil=>exact absurd rfl h
 | cons y r =>
  rw [List.map_cons,List.map_cons,Lib.join_cons,Lib.join_cons]
  simp [Lib.joinTail,List.append_assoc]
theorem joinB_take (sep:ByteArray) (xs:List ByteArray) (k:Nat) {x:ByteArray} (hx:xs[k]? = some x) (hk:0<k):joinB sep (xs.take (k+1))=joinB sep (xs.take k)++sep++x:=by
 rw [List.take_add_one,hx]
 refine joinB_snoc sep ?_ x
 intro e
 have h:=congrArg List.length e
 have h2:k<xs.length:=(List.getElem?_eq_some_iff.1 hx).1
 rw [List.length_take,List.length_nil] at h
 omega
theorem joinB_take0 (sep:ByteArray) (xs:List ByteArray) {x:ByteArray} (hx:xs[0]? = some x):joinB sep (xs.take 1)=x:=by
 rw [List.take_add_one,hx]
 exact joinB_one sep x
theorem joinB_size (sep:ByteArray) (m:Nat):∀ (xs:List ByteArray),(∀ x∈xs,x.size≤m)→(joinB sep xs).size≤(m+sep.size)*xs.length
 | [],_=>by simp [joinB_nil]
 | [x],h=>by
  have:=h x (by simp)
  rw [joinB_one]
  simp
  omega
 | x :: y :: r,h=>by
  have h1:=h x (by simp)
  have h2:=joinB_size sep m (y :: r) (fun z hz=>h z (List.mem_cons_of_mem _ hz))
  have e:(joinB sep (x :: y :: r)).size=x.size+sep.size+(joinB sep (y :: r)).size:=by
   rw [Lib.size_eq,joinB_cons sep (by simp) x,List.length_append,List.length_append,← Lib.size_eq,← Lib.size_eq,← Lib.size_eq]
  rw [e,List.length_cons,Nat.mul_succ]
  omega
theorem joinB_take_le (sep:ByteArray) (xs:List ByteArray) (m:Nat) (h:∀ x∈xs,x.size≤m) (k:Nat):(joinB sep (xs.take k)).size≤(m+sep.size)*xs.length:=by
 refine Nat.le_trans (joinB_size sep m _ (fun x hx=>h x (List.mem_of_mem_take hx))) (Nat.mul_le_mul_left _ ?_)
 rw [List.length_take]
 omega
end Go.Proofs.YtomgcbfcnjbofaaGreat
