/- Conjugate pairs: the walk of the reference's text. -/
import Derived.Test.YtomgcbfcnjbofaaGreatConjL
import Derived.Test.YtomgcbfcnjbofaaGreatConjC
namespace Go.Proofs.YtomgcbfcnjbofaaGreat
open Go.RowKit
open List renaming setIfInBounds_toArray → sTA, set_cons_zero → sC0, set_cons_succ → sC1
open Nat renaming le_refl → lR
set_option linter.unusedSimpArgs false
set_option linter.unusedVariables false
set_option maxRecDepth 20000
theorem OwnI.kept_ {w w':World} {lo hi:Nat} {A:Option Addr} {n c:Nat} {xs:List Int} {row:Option Nat} (h:OwnI w lo hi A n c xs) (hg:w.grownBy w' row) (hne:∀ ad,A=some ad→row≠some ad.block):OwnI w' lo hi A n c xs :=
 ⟨owns_same h.own (fun ad e=>hg.block ad.block (owns_lt h.own ad e).2 (fun e2=>hne ad e e2.symm)),h.lt,h.rng⟩
theorem nums_r {xs:List Int} (h:∀ x∈xs,0≤x∧x<1000000271):∀ x∈xs,R64 x:=fun x hx=>by
 have:=h x hx
 constructor <;> omega
theorem OwnI.setCell_ {w:World} {lo hi:Nat} {A:Option Addr} {n c:Nat} {xs:List Int} (h:OwnI w lo hi A n c xs) {p:Addr} (hne:∀ ad,A=some ad→ad.block≠p.block) (u:Value):OwnI (w.setCell p u) lo hi A n c xs:=⟨owns_setCell h.own hne u,h.lt,h.rng⟩
theorem idL_snoc (a:Nat):(idL a).map (Value.int .i64)++[.int .i64 (a:Int)]=(idL (a+1)).map (Value.int .i64):=by
 unfold idL
 rw [List.range_succ,List.map_append,List.map_append];rfl
theorem idL_rng {a:Nat} (h:a≤8):∀ x∈idL a,R64 x:=by
 intro x hx
 simp only [idL,List.mem_map,List.mem_range] at hx
 obtain ⟨i,hi,rfl⟩:=hx
 constructor <;> omega
theorem step_appSP {o:Oper} {a:Act} {K:Act→World→Prop} {Q:Exit→Act→World→Prop} (s x:Operand) (ho:o.op = .call { callee := .builtin .append,args := #[s,x],argTypes := #[24,24] }) (w:World)
  (base:Nat) (A:Option Addr) (n c:Nat) (xs:List Value) (hs:a.eval s = .slice A n c) (hown:w.ownsRow base 3 1 (.slice A n c) n xs) (B:Option Addr) (m d lo hi:Nat) (news:List Int) (hx:a.eval x = .slice B m d) (hI:Ints w lo hi B m d news) (hB:B=none→m=0∧d=0) (h63:n+m≤1099511627776) (hbase:base≤w.heap.size)
  (h:∀ A' c' w',Appended w base 3 1 A n c A' (n+m) c' (xs++news.map (Value.int .i64)) w'→K (a.put o.dst (.slice A' (n+m) c')) w'):Oper.wp Tryz.prog o a w K Q:=by
 obtain ⟨i0,hi0,hz0,hz1,hz2⟩:=info_parts info_int
 have hl:=hI.len
 cases B with
 | some ad =>
  obtain ⟨A',c',w',hrun,h2⟩:=run_app (P:=Tryz.prog) w base 24 o.type 3 i0 (.int .i64 0) 1 8 Tryz.underlying24 hi0 hz0 hz1 hz2 rfl (by omega) A n c xs hown ad m d (news.map (Value.int .i64)) (by simpa using hl) (fun j u hu=>by
   rw [List.getElem?_map] at hu
   cases hy:news[j]? with
   | none=>rw [hy] at hu;cases hu
   | some y =>
    rw [hy] at hu
    injection hu with hu
    subst hu
    have hj:j<news.length:=(List.getElem?_eq_some_iff.1 hy).1
    obtain ⟨ad',e,_,_,hc⟩:=hI.cells (by omega)
    injection e with e
    subst e
    exact hc j y hy) (by intro u hu;simp only [List.mem_map] at hu;obtain ⟨y,_,rfl⟩:=hu;rfl) h63 (by omega) hbase
  unfold Oper.wp
  simp [execOp,ho,resolve,invoke,builtin,hs,hx,hrun,Result.andThen]
  exact h A' c' w' h2
 | none =>
  obtain ⟨rfl,rfl⟩:=hB rfl
  obtain rfl:news=[]:=List.eq_nil_of_length_eq_zero hl
  have hrun:=run_append_owned_none (P:=Tryz.prog) w base 24 o.type 3 i0 1 Tryz.underlying24 hi0 (.slice A n c) n xs hown
  unfold Oper.wp
  simp [execOp,ho,resolve,invoke,builtin,hs,hx,hrun,Result.andThen]
  exact h A c w ⟨by simpa using hown,World.grownBy.refl _ _,.inl fun _ h=>h⟩
section
variable {w a:World} {b q B:Nat} {v0 v1 v2 v3 v4 v5 u0 u1 u2 u3 u4 u5:Value}
theorem store6_far (h:q≠b):((((((w.setCell ⟨b,0,none⟩ v0).setCell ⟨b,1,none⟩ v1).setCell ⟨b,2,none⟩ v2).setCell ⟨b,3,none⟩ v3).setCell ⟨b,4,none⟩ v4).setCell ⟨b,5,none⟩ v5).heap[q]? = w.heap[q]? := by
 rw [Below.heap_setCell _ ⟨b,5,none⟩ _ q h,Below.heap_setCell _ ⟨b,4,none⟩ _ q h,Below.heap_setCell _ ⟨b,3,none⟩ _ q h,Below.heap_setCell _ ⟨b,2,none⟩ _ q h,Below.heap_setCell _ ⟨b,1,none⟩ _ q h,Below.heap_setCell _ ⟨b,0,none⟩ _ q h]
theorem store6_blk (h:BlkN w b #[u0,u1,u2,u3,u4,u5]):BlkN ((((((w.setCell ⟨b,0,none⟩ v0).setCell ⟨b,1,none⟩ v1).setCell ⟨b,2,none⟩ v2).setCell ⟨b,3,none⟩ v3).setCell ⟨b,4,none⟩ v4).setCell ⟨b,5,none⟩ v5) b #[v0,v1,v2,v3,v4,v5]:=by
 have h1:=(((((h.set 0 v0).set 1 v1).set 2 v2).set 3 v3).set 4 v4).set 5 v5
 simpa only [sTA,sC0,sC1] using h1
theorem store6_size:((((((w.setCell ⟨b,0,none⟩ v0).setCell ⟨b,1,none⟩ v1).setCell ⟨b,2,none⟩ v2).setCell ⟨b,3,none⟩ v3).setCell ⟨b,4,none⟩ v4).setCell ⟨b,5,none⟩ v5).heap.size=w.heap.size:=by simp [World.setCell]
theorem store6_below (h:Below B a w) (hb:B≤b):Below B a ((((((w.setCell ⟨b,0,none⟩ v0).setCell ⟨b,1,none⟩ v1).setCell ⟨b,2,none⟩ v2).setCell ⟨b,3,none⟩ v3).setCell ⟨b,4,none⟩ v4).setCell ⟨b,5,none⟩ v5) :=
 (((((h.setCell (p:=⟨b,0,none⟩) hb v0).setCell (p:=⟨b,1,none⟩) hb v1).setCell (p:=⟨b,2,none⟩) hb v2).setCell (p:=⟨b,3,none⟩) hb v3).setCell (p:=⟨b,4,none⟩) hb v4).setCell (p:=⟨b,5,none⟩) hb v5
end
theorem OwnI.store6 {w:World} {lo hi:Nat} {A:Option Addr} {n c:Nat} {xs:List Int} (h:OwnI w lo hi A n c xs) {b:Nat} (hne:∀ ad,A=some ad→ad.block≠b) (v0 v1 v2 v3 v4 v5:Value):OwnI ((((((w.setCell ⟨b,0,none⟩ v0).setCell ⟨b,1,none⟩ v1).setCell ⟨b,2,none⟩ v2).setCell ⟨b,3,none⟩ v3).setCell ⟨b,4,none⟩ v4).setCell ⟨b,5,none⟩ v5) lo hi A n c xs :=
 ⟨owns_same h.own (fun ad e=>store6_far (hne ad e)),h.lt,h.rng⟩
set_option maxRecDepth 100000 in
set_option maxHeartbeats 8000000 in
theorem spec_Conj_ok (k:Nat) (A:Option Addr) (n c:Nat) (xs:List Int) (B:Option Addr) (d:Nat) (ys:List Int) (hi:Nat) (w:World) (h:Ints w 0 hi A n c xs) (g:Ints w 0 hi B k d ys) (hh:hi≤w.heap.size) (hk:k≤8) (hn:n=k*k) (t1:tabOkF k xs ys=true) (hz:¬ (0:Int)∈ys) (hBn:B=none→k=0∧d=0) :
  Calls Tryz.prog 7 #[.agg #[.int .i64 (k:Int),.slice A n c,.slice B k d]] w fun e w'=>∃ A1 c1 B1 d1 A2 c2 B2 d2,e = .returned (.tuple #[.agg #[.int .i64 (k:Int),.slice A1 n c1,.slice B1 k d1,.int .i64 (k:Int),.slice A2 n c2,.slice B2 k d2],.bool true]) ∧
   OwnI w' w.heap.size w'.heap.size A1 n c1 xs∧OwnI w' w.heap.size w'.heap.size B1 k d1 ys∧OwnI w' w.heap.size w'.heap.size A2 n c2 (conjL k xs ys)∧OwnI w' w.heap.size w'.heap.size B2 k d2 ys∧Below w.heap.size w w':=by
 obtain ⟨i0,hi0,hz0,hz1,hz2⟩:=info_parts info_int
 have hcp:=h.cap
 have hmx:=h.max
 have gcp:=g.cap
 have gmx:=g.max
 have h64:n≤64:=by rw [hn];exact Nat.mul_le_mul hk hk
 have hnH:=hide hn
 have TT_:=hide t1
 have ZZ:=hide hz
 have hBnH:=hide hBn
 clear hn t1 hz hBn
 have hly:=hide g.len
 go_enter Tryz.func7,Tryz.ntmps7
 go_wp2_with fail
 have a1:=below_alloc w (.cells #[.int .i64 (k:Int),.slice A n c,.slice B k d] 26)
 have j0:=BlkN.new w #[.int .i64 (k:Int),.slice A n c,.slice B k d] 26
 have z1:(w.alloc (.cells #[.int .i64 (k:Int),.slice A n c,.slice B k d] 26)).heap.size=w.heap.size+1:=by simp
 generalize w.alloc (.cells #[.int .i64 (k:Int),.slice A n c,.slice B k d] 26)=w1 at a1 j0 z1 ⊢
 have a2:=below_alloc w1 (.cells #[.int .i64 0,.slice none 0 0,.slice none 0 0,.int .i64 0,.slice none 0 0,.slice none 0 0] 30)
 have j0a:=j0.below a2
 have j1:=BlkN.new w1 #[.int .i64 0,.slice none 0 0,.slice none 0 0,.int .i64 0,.slice none 0 0,.slice none 0 0] 30
 rw [z1] at j1
 have z2:(w1.alloc (.cells #[.int .i64 0,.slice none 0 0,.slice none 0 0,.int .i64 0,.slice none 0 0,.slice none 0 0] 30)).heap.size=w.heap.size+1+1:=by simp;omega
 have bW:Below w.heap.size w (w1.alloc (.cells #[.int .i64 0,.slice none 0 0,.slice none 0 0,.int .i64 0,.slice none 0 0,.slice none 0 0] 30)):=a1.trans (a2.mono (by omega))
 generalize w1.alloc (.cells #[.int .i64 0,.slice none 0 0,.slice none 0 0,.int .i64 0,.slice none 0 0,.slice none 0 0] 30)=W at a2 j0a j1 z2 bW ⊢
 have zW:w.heap.size+2≤W.heap.size:=by omega
 clear a1 a2 j0 z1 z2
 refine (spec_TableauOk k A n c xs B k d ys 0 hi W (h.below bW hh) (g.below bW hh) (by omega)).mono ?_
 rintro e w2 ⟨rfl,b2⟩
 rw [TT_.out]
 have k0:=j0a.below b2
 have k1:=j1.below b2
 have B2_:=bW.trans (b2.mono (by omega))
 have y2:=b2.size
 have zV:w.heap.size+2≤w2.heap.size:=by omega
 clear j0a j1 b2 bW zW y2
 have aE:=below_alloc w2 (.cells #[] 3)
 have hown0:(w2.alloc (.cells #[] 3)).ownsRow w2.heap.size 3 1 (.slice (some ⟨w2.heap.size,0,none⟩) 0 0) 0 []:=by simpa using World.ownsRow_lit (size:=1) (e:=3) w2 #[] 0 (lR _) (by unfold maxLen;omega) rfl
 have bE:=B2_.trans (aE.mono (by omega))
 have m0:=k0.below aE
 have m1:=k1.below aE
 have zE:w.heap.size+2≤(w2.alloc (.cells #[] 3)).heap.size:=by have:=aE.size;omega
 go_wp2_with fail
 go_loopw [4,5] (fun al i wr=>∃ (a:Nat) (A':Option Addr) (c':Nat),a≤k∧i = .int .i64 a∧al = .slice A' a c'∧BlkN wr w.heap.size #[.int .i64 (k:Int),.slice A n c,.slice B k d]∧BlkN wr (w.heap.size+1) #[.int .i64 0,.slice none 0 0,.slice none 0 0,.int .i64 0,.slice none 0 0,.slice none 0 0]∧wr.ownsRow (w.heap.size+2) 3 1 (.slice A' a c') a ((idL a).map (Value.int .i64))∧Below w.heap.size w wr∧Hid (w.heap.size+2≤wr.heap.size))
  (fun _ i _=>k - (intOf i).toNat)
 case atStart=>exact ⟨0,_,_,by omega,rfl,rfl,m0,m1,owns_low hown0 zV,bE,zE⟩
 case round =>
  clear hown0 aE bE m0 m1 zE k0 k1 B2_ zV
  obtain ⟨a,A',c',ha,rfl,rfl,m0,m1,hown,hb,hzr⟩:=hrel
  have hz3:=hzr.out
  have p0:=m0.c 0 rfl
  by_cases hlt:a<k
  ·obtain ⟨ad,y,rfl,hcy,_,_,hy⟩:=(g.below hb hh).at_ hlt
   have hyn:(y == 0)=false:=by
    rw [beq_eq_false_iff_ne]
    intro e
    subst e
    exact ZZ.out (List.mem_of_getElem? hy.out)
   have p2:=m0.c 2 rfl
   have hbl:∀ ad,A'=some ad→w.heap.size+2≤ad.block:=fun ad e=>(owns_lt hown ad e).1
   clear hy
   go_wp2_with (at_builtin;refine wpl_app1 rfl (.tmp 27) (.tmp 29) 24 rfl (w.heap.size+2) 3 i0 (.int .i64 0) 1 8 Tryz.underlying24 hi0 hz0 hz1 hz2 rfl (by omega) wr #[.int .i64 (a:Int)] A' a c' 1 _ rfl rfl hown rfl (by simp [Value.oneCell']) (by omega) (by omega) hz3 ?_;intro A2 c2 w4 happ hlt2)
   have hbw:=happ.below (Below.refl (w.heap.size+2) wr) hz3 hbl
   have hr:wr.ownsRow (w.heap.size+2) 3 1 (.slice A' a c') a ((idL a).map (Value.int .i64)):=hown
   have HS:=hide (And.intro (m0.same (hbw.block _ (by omega))) (And.intro (m1.same (hbw.block _ (by omega))) (And.intro happ.1 (And.intro (hb.trans (hbw.mono (by omega))) (Nat.le_trans hz3 hbw.size)))))
   clear happ hown hb hbl m0 m1 p0 p2 hr hbw
   go_wp2_with fail
   go_roundw
   case rel=>exact ⟨a+1,A2,c2,by omega,by go_num,rfl,HS.out.1,HS.out.2.1,by rw [← idL_snoc];exact HS.out.2.2.1,HS.out.2.2.2.1,HS.out.2.2.2.2⟩
   case measure=>simp [intOf];omega
  ·obtain rfl:a=k:=by omega
   have ol:OwnI wr (w.heap.size+2) wr.heap.size A' a c' (idL a):=⟨hown,fun ad e=>(owns_lt hown ad e).2,idL_rng hk⟩
   clear hown
   go_upto_region 10 with fail
   clear p0
   have hs2:=ol.own
   go_cut [6] (fun s6 wx=>∃ (A1:Option Addr) (c1:Nat) (B1:Option Addr) (d1:Nat) (A3:Option Addr) (c3:Nat) (b:Nat),s6 = .pointer (some ⟨b,0,none⟩)∧Below wr.heap.size wr wx∧wr.heap.size≤b∧BlkN wx b #[.int .i64 (a:Int),.slice A1 n c1,.slice B1 a d1,.int .i64 (a:Int),.slice none 0 0,.slice A3 a c3]∧OwnI wx wr.heap.size wx.heap.size A1 n c1 xs∧OwnI wx wr.heap.size wx.heap.size B1 a d1 ys∧OwnI wx wr.heap.size wx.heap.size A3 a c3 ys∧(∀ ad,A1=some ad→ad.block≠b)∧(∀ ad,B1=some ad→ad.block≠b)∧(∀ ad,A3=some ad→ad.block≠b))
   case first =>
    have hS0:Below wr.heap.size wr wr.drew:=(Below.refl _ _).drew
    refine wp_region_Z (fun w'=>Below wr.heap.size wr w') 12 (by kernel_rfl) ?_
    refine wpAnyZ_take 0 (.agg #[.int .i64 (a:Int),.slice A n c,.slice B a d]) rfl (by kernel_rfl) (by kernel_rfl) (fun _ _ _ h=>h) (by rfl) (fun _ hS=>by have q0:=(m0.below hS).c 0 rfl;have q1:=(m0.below hS).c 1 rfl;have q2:=(m0.below hS).c 2 rfl;clear hS;go_simp) hS0 ?_
    try simp only [Act.put,sTA,sC0,sC1]
    refine wpAnyZ_takeW 1 (.slice A' a c') rfl (by kernel_rfl) (by kernel_rfl) (fun _ _ _ h=>h) (by rfl) (fun _=>by go_simp) hS0 ?_
    try simp only [Act.put,sTA,sC0,sC1]
    refine wpAnyZ_takeW 3 (.pointer (some ⟨w.heap.size,0,none⟩)) rfl (by kernel_rfl) (by kernel_rfl) (fun _ _ _ h=>h) (by rfl) (fun _=>by go_simp) hS0 ?_
    try simp only [Act.put,sTA,sC0,sC1]
    refine wpAnyZ_take 4 (.int .i64 (a:Int)) rfl (by kernel_rfl) (by kernel_rfl) (fun _ _ _ h=>h) (by rfl) (fun _ hS=>by have q0:=(m0.below hS).c 0 rfl;clear hS;go_simp) hS0 ?_
    try simp only [Act.put,sTA,sC0,sC1]
    refine wpAnyZ_takeW 6 (.pointer (some ⟨w.heap.size,2,none⟩)) rfl (by kernel_rfl) (by kernel_rfl) (fun _ _ _ h=>h) (by rfl) (fun _=>by go_simp) hS0 ?_
    try simp only [Act.put,sTA,sC0,sC1]
    refine wpAnyZ_take 7 (.slice B a d) rfl (by kernel_rfl) (by kernel_rfl) (fun _ _ _ h=>h) (by rfl) (fun _ hS=>by have q2:=(m0.below hS).c 2 rfl;clear hS;go_simp) hS0 ?_
    try simp only [Act.put,sTA,sC0,sC1]
    refine wpAnyZ_three 2 5 11 (by kernel_rfl) rfl rfl rfl (by rfl) (by rfl) (by rfl) (fun K hK=>?_) (fun K hK=>?_) (fun K hK=>?_)
    ·
     go_simp
     refine (spec_l6Choose a A n c xs B d ys A' c' hi wr.heap.size wr.drew (h.below (hb.trans (hS0.mono hb.size)) hh) (g.below (hb.trans (hS0.mono hb.size)) hh) ((ol.below hS0 (lR _)).ints.wide (Nat.zero_le _) (lR _)) (Nat.le_trans hh (Nat.le_trans hb.size hS0.size)) hS0.size hk hnH.out).mono ?_
     rintro e x1 ⟨A1,c1,B1,d1,rfl,oAx,oBx,bx1⟩
     have hS1:=hS0.trans (bx1.mono hS0.size)
     have oA1:=oAx.wide (lo':=wr.heap.size) (hi':=x1.heap.size) hS0.size (lR _)
     have oB1:=oBx.wide (lo':=wr.heap.size) (hi':=x1.heap.size) hS0.size (lR _)
     go_wp2_with fail
     refine hK.out _ _ hS1 ?_
     clear hK K
     try simp only [Act.put,sTA,sC0,sC1]
     refine wpAnyZ_two 5 11 (by kernel_rfl) rfl rfl (by rfl) (by rfl) (fun K hK=>?_) (fun K hK=>?_)
     ·
      go_simp
      have ax2:=below_alloc x1 (.cells #[] 3)
      have hS2:=hS1.trans (ax2.mono hS1.size)
      have oA2:=(oA1.below ax2 (lR _)).wide (lR _) ax2.size
      have oB2:=(oB1.below ax2 (lR _)).wide (lR _) ax2.size
      have hEn:(x1.alloc (.cells #[] 3)).ownsRow wr.heap.size 3 1 (.slice (some ⟨x1.heap.size,0,none⟩) 0 0) 0 []:=by simpa using World.ownsRow_lit (size:=1) (e:=3) x1 #[] 0 (base:=wr.heap.size) hS1.size (by unfold maxLen;omega) rfl
      obtain ⟨ge,hv⟩:∃ v,v=x1.heap.size:=⟨_,rfl⟩
      have hge:wr.heap.size≤ge:=by have:=hS1.size;omega
      have hE2:(x1.alloc (.cells #[] 3)).ownsRow wr.heap.size 3 1 (.slice (some ⟨ge,0,none⟩) 0 0) 0 []:=by rw [hv];exact hEn
      clear hEn
      have nEA1:∀ ad,A1=some ad→ad.block≠ge:=fun ad e=>by have h1:=(owns_lt oA1.own ad e).2;omega
      have nEB1:∀ ad,B1=some ad→ad.block≠ge:=fun ad e=>by have h1:=(owns_lt oB1.own ad e).2;omega
      try rw [← hv]
      clear hv
      generalize (x1.alloc (.cells #[] 3))=x2 at hS2 hE2 oA2 oB2 ax2 ⊢
      refine hK.out _ _ hS2 ?_
      clear hK K
      try simp only [Act.put,sTA,sC0,sC1]
      refine wpAnyZ_two 8 11 (by kernel_rfl) rfl rfl (by rfl) (by rfl) (fun K hK=>?_) (fun K hK=>?_)
      ·
       refine step_appSP (.tmp 36) (.tmp 38) rfl x2 wr.heap.size (some ⟨ge,0,none⟩) 0 0 [] rfl hE2 B a d 0 hi ys rfl (g.below (hb.trans (hS2.mono hb.size)) hh) hBnH.out (by omega) hS2.size ?_
       intro A3 c3 x3 happ
       rw [Nat.zero_add,List.nil_append] at happ
       have hS3:=hS2.grown happ.2.1 hS2.size (own_geL hE2 (lR _))
       have oP3:OwnI x3 wr.heap.size x3.heap.size A3 a c3 ys:=⟨happ.1,fun ad e=>(owns_lt happ.1 ad e).2,g.rng⟩
       have oA3:=(oA2.kept_ happ.2.1 (fun ad e=>by simp only [Value.ownBlock];intro e2;injection e2 with e2;exact nEA1 ad e e2.symm)).wide (lR _) happ.2.1.size
       have oB3:=(oB2.kept_ happ.2.1 (fun ad e=>by simp only [Value.ownBlock];intro e2;injection e2 with e2;exact nEB1 ad e e2.symm)).wide (lR _) happ.2.1.size
       refine hK.out _ _ hS3 ?_
       clear hK K
       try simp only [Act.put,sTA,sC0,sC1]
       refine wpAnyZ_takeW 9 (.agg #[.int .i64 (a:Int),.slice none 0 0,.slice A3 a c3]) rfl (by kernel_rfl) (by kernel_rfl) (fun _ _ _ h=>h) (by rfl) (fun _=>by go_simp) hS3 ?_
       try simp only [Act.put,sTA,sC0,sC1]
       refine wpAnyZ_takeW 10 (.agg #[.int .i64 (a:Int),.slice A1 n c1,.slice B1 a d1,.int .i64 (a:Int),.slice none 0 0,.slice A3 a c3]) rfl (by kernel_rfl) (by kernel_rfl) (fun _ _ _ h=>h) (by rfl) (fun _=>by go_simp) hS3 ?_
       try simp only [Act.put,sTA,sC0,sC1]
       refine wpAnyZ_one 11 (by kernel_rfl) rfl (by rfl) (fun K hK=>?_)
       go_simp
       have ax4:=below_alloc x3 (.cells #[.int .i64 0,.slice none 0 0,.slice none 0 0,.int .i64 0,.slice none 0 0,.slice none 0 0] 30)
       have hS4:=hS3.trans (ax4.mono hS3.size)
       have oA4:=(oA3.below ax4 (lR _)).wide (lR _) ax4.size
       have oB4:=(oB3.below ax4 (lR _)).wide (lR _) ax4.size
       have oP4:=(oP3.below ax4 (lR _)).wide (lR _) ax4.size
       have kzn:=BlkN.new x3 #[.int .i64 0,.slice none 0 0,.slice none 0 0,.int .i64 0,.slice none 0 0,.slice none 0 0] 30
       obtain ⟨gb,hv⟩:∃ v,v=x3.heap.size:=⟨_,rfl⟩
       have hgb:wr.heap.size≤gb:=by have:=hS3.size;omega
       have kz4:BlkN (x3.alloc (.cells #[.int .i64 0,.slice none 0 0,.slice none 0 0,.int .i64 0,.slice none 0 0,.slice none 0 0] 30)) gb #[.int .i64 0,.slice none 0 0,.slice none 0 0,.int .i64 0,.slice none 0 0,.slice none 0 0]:=by rw [hv];exact kzn
       clear kzn
       have nGA1:∀ ad,A1=some ad→ad.block≠gb:=fun ad e=>by have h1:=(owns_lt oA3.own ad e).2;omega
       have nGB1:∀ ad,B1=some ad→ad.block≠gb:=fun ad e=>by have h1:=(owns_lt oB3.own ad e).2;omega
       have nGA3:∀ ad,A3=some ad→ad.block≠gb:=fun ad e=>by have h1:=(owns_lt oP3.own ad e).2;omega
       try rw [← hv]
       clear hv
       generalize (x3.alloc (.cells #[.int .i64 0,.slice none 0 0,.slice none 0 0,.int .i64 0,.slice none 0 0,.slice none 0 0] 30))=x4 at hS4 kz4 oA4 oB4 oP4 ax4 ⊢
       refine hK.out _ _ hS4 ?_
       clear hK K
       try simp only [Act.put,sTA,sC0,sC1]
       have f0:=kz4.f 0
       have c0_:=kz4.c 0 rfl
       have f1:=kz4.f 1
       have c1_:=kz4.c 1 rfl
       have f2:=kz4.f 2
       have c2_:=kz4.c 2 rfl
       have f3:=kz4.f 3
       have c3_:=kz4.c 3 rfl
       have f4:=kz4.f 4
       have c4_:=kz4.c 4 rfl
       have f5:=kz4.f 5
       have c5_:=kz4.c 5 rfl
       have hlt_:=kz4.lt
       have HF:=hide (And.intro (store6_below hS4 hgb (v0:=(.int .i64 (a:Int))) (v1:=(.slice A1 n c1)) (v2:=(.slice B1 a d1)) (v3:=(.int .i64 (a:Int))) (v4:=(.slice none 0 0)) (v5:=(.slice A3 a c3))) (And.intro (store6_blk kz4 (v0:=(.int .i64 (a:Int))) (v1:=(.slice A1 n c1)) (v2:=(.slice B1 a d1)) (v3:=(.int .i64 (a:Int))) (v4:=(.slice none 0 0)) (v5:=(.slice A3 a c3))) (And.intro (oA4.store6 nGA1 (.int .i64 (a:Int)) (.slice A1 n c1) (.slice B1 a d1) (.int .i64 (a:Int)) (.slice none 0 0) (.slice A3 a c3)) (And.intro (oB4.store6 nGB1 (.int .i64 (a:Int)) (.slice A1 n c1) (.slice B1 a d1) (.int .i64 (a:Int)) (.slice none 0 0) (.slice A3 a c3)) (oP4.store6 nGA3 (.int .i64 (a:Int)) (.slice A1 n c1) (.slice B1 a d1) (.int .i64 (a:Int)) (.slice none 0 0) (.slice A3 a c3))))))
       refine wpAnyZ_last (by kernel_rfl) rfl (by kernel_rfl) (by rfl) (fun K hK=>?_)
       go_simp
       refine hK _ _ ?_
       clear hK K
       go_wp2_with fail
       go_meet
       exact ⟨A1,c1,B1,d1,A3,c3,gb,rfl,HF.out.1,hgb,HF.out.2.1,HF.out.2.2.1.wide (lR _) (by rw [store6_size];exact lR _),HF.out.2.2.2.1.wide (lR _) (by rw [store6_size];exact lR _),HF.out.2.2.2.2.wide (lR _) (by rw [store6_size];exact lR _),nGA1,nGB1,nGA3⟩
      ·
       go_simp
       have ax3:=below_alloc x2 (.cells #[.int .i64 0,.slice none 0 0,.slice none 0 0,.int .i64 0,.slice none 0 0,.slice none 0 0] 30)
       have hS3:=hS2.trans (ax3.mono hS2.size)
       have hE3:=owns_below hE2 ax3 (fun ad e=>(owns_lt hE2 ad e).2)
       have oA3:=(oA2.below ax3 (lR _)).wide (lR _) ax3.size
       have oB3:=(oB2.below ax3 (lR _)).wide (lR _) ax3.size
       have kzn:=BlkN.new x2 #[.int .i64 0,.slice none 0 0,.slice none 0 0,.int .i64 0,.slice none 0 0,.slice none 0 0] 30
       obtain ⟨gb,hv⟩:∃ v,v=x2.heap.size:=⟨_,rfl⟩
       have hgb:wr.heap.size≤gb:=by have:=hS2.size;omega
       have kz3:BlkN (x2.alloc (.cells #[.int .i64 0,.slice none 0 0,.slice none 0 0,.int .i64 0,.slice none 0 0,.slice none 0 0] 30)) gb #[.int .i64 0,.slice none 0 0,.slice none 0 0,.int .i64 0,.slice none 0 0,.slice none 0 0]:=by rw [hv];exact kzn
       clear kzn
       have nGA1:∀ ad,A1=some ad→ad.block≠gb:=fun ad e=>by have h1:=(owns_lt oA2.own ad e).2;omega
       have nGB1:∀ ad,B1=some ad→ad.block≠gb:=fun ad e=>by have h1:=(owns_lt oB2.own ad e).2;omega
       have nEG:ge≠gb:=by have h2:=(owns_lt hE2 _ rfl).2;dsimp only at h2;omega
       try rw [← hv]
       clear hv
       generalize (x2.alloc (.cells #[.int .i64 0,.slice none 0 0,.slice none 0 0,.int .i64 0,.slice none 0 0,.slice none 0 0] 30))=x3 at hS3 kz3 hE3 oA3 oB3 ax3 ⊢
       refine hK.out _ _ hS3 ?_
       clear hK K
       try simp only [Act.put,sTA,sC0,sC1]
       refine wpAnyZ_one 8 (by kernel_rfl) rfl (by rfl) (fun K hK=>?_)
       refine step_appSP (.tmp 36) (.tmp 38) rfl x3 wr.heap.size (some ⟨ge,0,none⟩) 0 0 [] rfl hE3 B a d 0 hi ys rfl (g.below (hb.trans (hS3.mono hb.size)) hh) hBnH.out (by omega) hS3.size ?_
       intro A3 c3 x4 happ
       rw [Nat.zero_add,List.nil_append] at happ
       have hS4:=hS3.grown happ.2.1 hS3.size (own_geL hE3 (lR _))
       have oP4:OwnI x4 wr.heap.size x4.heap.size A3 a c3 ys:=⟨happ.1,fun ad e=>(owns_lt happ.1 ad e).2,g.rng⟩
       have oA4:=(oA3.kept_ happ.2.1 (fun ad e=>by simp only [Value.ownBlock];intro e2;injection e2 with e2;exact nEA1 ad e e2.symm)).wide (lR _) happ.2.1.size
       have oB4:=(oB3.kept_ happ.2.1 (fun ad e=>by simp only [Value.ownBlock];intro e2;injection e2 with e2;exact nEB1 ad e e2.symm)).wide (lR _) happ.2.1.size
       have kz4:=grown_blk kz3 happ.2.1 (ownB_ne (fun ad e=>by injection e with e;subst e;exact nEG))
       have nGA3:∀ ad,A3=some ad→ad.block≠gb:=app_ne happ kz3.lt (fun ad e=>by injection e with e;subst e;exact nEG)
       refine hK.out _ _ hS4 ?_
       clear hK K
       try simp only [Act.put,sTA,sC0,sC1]
       refine wpAnyZ_takeW 9 (.agg #[.int .i64 (a:Int),.slice none 0 0,.slice A3 a c3]) rfl (by kernel_rfl) (by kernel_rfl) (fun _ _ _ h=>h) (by rfl) (fun _=>by go_simp) hS4 ?_
       try simp only [Act.put,sTA,sC0,sC1]
       refine wpAnyZ_takeW 10 (.agg #[.int .i64 (a:Int),.slice A1 n c1,.slice B1 a d1,.int .i64 (a:Int),.slice none 0 0,.slice A3 a c3]) rfl (by kernel_rfl) (by kernel_rfl) (fun _ _ _ h=>h) (by rfl) (fun _=>by go_simp) hS4 ?_
       try simp only [Act.put,sTA,sC0,sC1]
       have f0:=kz4.f 0
       have c0_:=kz4.c 0 rfl
       have f1:=kz4.f 1
       have c1_:=kz4.c 1 rfl
       have f2:=kz4.f 2
       have c2_:=kz4.c 2 rfl
       have f3:=kz4.f 3
       have c3_:=kz4.c 3 rfl
       have f4:=kz4.f 4
       have c4_:=kz4.c 4 rfl
       have f5:=kz4.f 5
       have c5_:=kz4.c 5 rfl
       have hlt_:=kz4.lt
       have HF:=hide (And.intro (store6_below hS4 hgb (v0:=(.int .i64 (a:Int))) (v1:=(.slice A1 n c1)) (v2:=(.slice B1 a d1)) (v3:=(.int .i64 (a:Int))) (v4:=(.slice none 0 0)) (v5:=(.slice A3 a c3))) (And.intro (store6_blk kz4 (v0:=(.int .i64 (a:Int))) (v1:=(.slice A1 n c1)) (v2:=(.slice B1 a d1)) (v3:=(.int .i64 (a:Int))) (v4:=(.slice none 0 0)) (v5:=(.slice A3 a c3))) (And.intro (oA4.store6 nGA1 (.int .i64 (a:Int)) (.slice A1 n c1) (.slice B1 a d1) (.int .i64 (a:Int)) (.slice none 0 0) (.slice A3 a c3)) (And.intro (oB4.store6 nGB1 (.int .i64 (a:Int)) (.slice A1 n c1) (.slice B1 a d1) (.int .i64 (a:Int)) (.slice none 0 0) (.slice A3 a c3)) (oP4.store6 nGA3 (.int .i64 (a:Int)) (.slice A1 n c1) (.slice B1 a d1) (.int .i64 (a:Int)) (.slice none 0 0) (.slice A3 a c3))))))
       refine wpAnyZ_last (by kernel_rfl) rfl (by kernel_rfl) (by rfl) (fun K hK=>?_)
       go_simp
       refine hK _ _ ?_
       clear hK K
       go_wp2_with fail
       go_meet
       exact ⟨A1,c1,B1,d1,A3,c3,gb,rfl,HF.out.1,hgb,HF.out.2.1,HF.out.2.2.1.wide (lR _) (by rw [store6_size];exact lR _),HF.out.2.2.2.1.wide (lR _) (by rw [store6_size];exact lR _),HF.out.2.2.2.2.wide (lR _) (by rw [store6_size];exact lR _),nGA1,nGB1,nGA3⟩
     ·
      go_simp
      have ax2:=below_alloc x1 (.cells #[.int .i64 0,.slice none 0 0,.slice none 0 0,.int .i64 0,.slice none 0 0,.slice none 0 0] 30)
      have hS2:=hS1.trans (ax2.mono hS1.size)
      have oA2:=(oA1.below ax2 (lR _)).wide (lR _) ax2.size
      have oB2:=(oB1.below ax2 (lR _)).wide (lR _) ax2.size
      have kzn:=BlkN.new x1 #[.int .i64 0,.slice none 0 0,.slice none 0 0,.int .i64 0,.slice none 0 0,.slice none 0 0] 30
      obtain ⟨gb,hv⟩:∃ v,v=x1.heap.size:=⟨_,rfl⟩
      have hgb:wr.heap.size≤gb:=by have:=hS1.size;omega
      have kz2:BlkN (x1.alloc (.cells #[.int .i64 0,.slice none 0 0,.slice none 0 0,.int .i64 0,.slice none 0 0,.slice none 0 0] 30)) gb #[.int .i64 0,.slice none 0 0,.slice none 0 0,.int .i64 0,.slice none 0 0,.slice none 0 0]:=by rw [hv];exact kzn
      clear kzn
      have nGA1:∀ ad,A1=some ad→ad.block≠gb:=fun ad e=>by have h1:=(owns_lt oA1.own ad e).2;omega
      have nGB1:∀ ad,B1=some ad→ad.block≠gb:=fun ad e=>by have h1:=(owns_lt oB1.own ad e).2;omega
      try rw [← hv]
      clear hv
      generalize (x1.alloc (.cells #[.int .i64 0,.slice none 0 0,.slice none 0 0,.int .i64 0,.slice none 0 0,.slice none 0 0] 30))=x2 at hS2 kz2 oA2 oB2 ax2 ⊢
      refine hK.out _ _ hS2 ?_
      clear hK K
      try simp only [Act.put,sTA,sC0,sC1]
      refine wpAnyZ_one 5 (by kernel_rfl) rfl (by rfl) (fun K hK=>?_)
      go_simp
      have ax3:=below_alloc x2 (.cells #[] 3)
      have hS3:=hS2.trans (ax3.mono hS2.size)
      have kz3:=kz2.below ax3
      have oA3:=(oA2.below ax3 (lR _)).wide (lR _) ax3.size
      have oB3:=(oB2.below ax3 (lR _)).wide (lR _) ax3.size
      have hEn:(x2.alloc (.cells #[] 3)).ownsRow wr.heap.size 3 1 (.slice (some ⟨x2.heap.size,0,none⟩) 0 0) 0 []:=by simpa using World.ownsRow_lit (size:=1) (e:=3) x2 #[] 0 (base:=wr.heap.size) hS2.size (by unfold maxLen;omega) rfl
      obtain ⟨ge,hv⟩:∃ v,v=x2.heap.size:=⟨_,rfl⟩
      have hge:wr.heap.size≤ge:=by have:=hS2.size;omega
      have hE3:(x2.alloc (.cells #[] 3)).ownsRow wr.heap.size 3 1 (.slice (some ⟨ge,0,none⟩) 0 0) 0 []:=by rw [hv];exact hEn
      clear hEn
      have nEA1:∀ ad,A1=some ad→ad.block≠ge:=fun ad e=>by have h1:=(owns_lt oA2.own ad e).2;omega
      have nEB1:∀ ad,B1=some ad→ad.block≠ge:=fun ad e=>by have h1:=(owns_lt oB2.own ad e).2;omega
      have nEG:ge≠gb:=by have:=kz2.lt;omega
      try rw [← hv]
      clear hv
      generalize (x2.alloc (.cells #[] 3))=x3 at hS3 kz3 hE3 oA3 oB3 ax3 ⊢
      refine hK.out _ _ hS3 ?_
      clear hK K
      try simp only [Act.put,sTA,sC0,sC1]
      refine wpAnyZ_one 8 (by kernel_rfl) rfl (by rfl) (fun K hK=>?_)
      refine step_appSP (.tmp 36) (.tmp 38) rfl x3 wr.heap.size (some ⟨ge,0,none⟩) 0 0 [] rfl hE3 B a d 0 hi ys rfl (g.below (hb.trans (hS3.mono hb.size)) hh) hBnH.out (by omega) hS3.size ?_
      intro A3 c3 x4 happ
      rw [Nat.zero_add,List.nil_append] at happ
      have hS4:=hS3.grown happ.2.1 hS3.size (own_geL hE3 (lR _))
      have oP4:OwnI x4 wr.heap.size x4.heap.size A3 a c3 ys:=⟨happ.1,fun ad e=>(owns_lt happ.1 ad e).2,g.rng⟩
      have oA4:=(oA3.kept_ happ.2.1 (fun ad e=>by simp only [Value.ownBlock];intro e2;injection e2 with e2;exact nEA1 ad e e2.symm)).wide (lR _) happ.2.1.size
      have oB4:=(oB3.kept_ happ.2.1 (fun ad e=>by simp only [Value.ownBlock];intro e2;injection e2 with e2;exact nEB1 ad e e2.symm)).wide (lR _) happ.2.1.size
      have kz4:=grown_blk kz3 happ.2.1 (ownB_ne (fun ad e=>by injection e with e;subst e;exact nEG))
      have nGA3:∀ ad,A3=some ad→ad.block≠gb:=app_ne happ kz3.lt (fun ad e=>by injection e with e;subst e;exact nEG)
      refine hK.out _ _ hS4 ?_
      clear hK K
      try simp only [Act.put,sTA,sC0,sC1]
      refine wpAnyZ_takeW 9 (.agg #[.int .i64 (a:Int),.slice none 0 0,.slice A3 a c3]) rfl (by kernel_rfl) (by kernel_rfl) (fun _ _ _ h=>h) (by rfl) (fun _=>by go_simp) hS4 ?_
      try simp only [Act.put,sTA,sC0,sC1]
      refine wpAnyZ_takeW 10 (.agg #[.int .i64 (a:Int),.slice A1 n c1,.slice B1 a d1,.int .i64 (a:Int),.slice none 0 0,.slice A3 a c3]) rfl (by kernel_rfl) (by kernel_rfl) (fun _ _ _ h=>h) (by rfl) (fun _=>by go_simp) hS4 ?_
      try simp only [Act.put,sTA,sC0,sC1]
      have f0:=kz4.f 0
      have c0_:=kz4.c 0 rfl
      have f1:=kz4.f 1
      have c1_:=kz4.c 1 rfl
      have f2:=kz4.f 2
      have c2_:=kz4.c 2 rfl
      have f3:=kz4.f 3
      have c3_:=kz4.c 3 rfl
      have f4:=kz4.f 4
      have c4_:=kz4.c 4 rfl
      have f5:=kz4.f 5
      have c5_:=kz4.c 5 rfl
      have hlt_:=kz4.lt
      have HF:=hide (And.intro (store6_below hS4 hgb (v0:=(.int .i64 (a:Int))) (v1:=(.slice A1 n c1)) (v2:=(.slice B1 a d1)) (v3:=(.int .i64 (a:Int))) (v4:=(.slice none 0 0)) (v5:=(.slice A3 a c3))) (And.intro (store6_blk kz4 (v0:=(.int .i64 (a:Int))) (v1:=(.slice A1 n c1)) (v2:=(.slice B1 a d1)) (v3:=(.int .i64 (a:Int))) (v4:=(.slice none 0 0)) (v5:=(.slice A3 a c3))) (And.intro (oA4.store6 nGA1 (.int .i64 (a:Int)) (.slice A1 n c1) (.slice B1 a d1) (.int .i64 (a:Int)) (.slice none 0 0) (.slice A3 a c3)) (And.intro (oB4.store6 nGB1 (.int .i64 (a:Int)) (.slice A1 n c1) (.slice B1 a d1) (.int .i64 (a:Int)) (.slice none 0 0) (.slice A3 a c3)) (oP4.store6 nGA3 (.int .i64 (a:Int)) (.slice A1 n c1) (.slice B1 a d1) (.int .i64 (a:Int)) (.slice none 0 0) (.slice A3 a c3))))))
      refine wpAnyZ_last (by kernel_rfl) rfl (by kernel_rfl) (by rfl) (fun K hK=>?_)
      go_simp
      refine hK _ _ ?_
      clear hK K
      go_wp2_with fail
      go_meet
      exact ⟨A1,c1,B1,d1,A3,c3,gb,rfl,HF.out.1,hgb,HF.out.2.1,HF.out.2.2.1.wide (lR _) (by rw [store6_size];exact lR _),HF.out.2.2.2.1.wide (lR _) (by rw [store6_size];exact lR _),HF.out.2.2.2.2.wide (lR _) (by rw [store6_size];exact lR _),nGA1,nGB1,nGA3⟩
    ·
     go_simp
     have hS1:=(below_alloc wr (.cells #[] 3)).drew
     have hEn:((wr.alloc (.cells #[] 3)).drew).ownsRow wr.heap.size 3 1 (.slice (some ⟨wr.heap.size,0,none⟩) 0 0) 0 []:=owns_same (w:=wr.alloc (.cells #[] 3)) (by simpa using World.ownsRow_lit (size:=1) (e:=3) wr #[] 0 (lR _) (by unfold maxLen;omega) rfl) (fun _ _=>rfl)
     obtain ⟨ge,hv⟩:∃ v,v=wr.heap.size:=⟨_,rfl⟩
     have hge:wr.heap.size≤ge:=by have:=lR wr.heap.size;omega
     have hE1:((wr.alloc (.cells #[] 3)).drew).ownsRow wr.heap.size 3 1 (.slice (some ⟨ge,0,none⟩) 0 0) 0 []:=by rw [hv];exact hEn
     clear hEn
     try rw [← hv]
     clear hv
     generalize ((wr.alloc (.cells #[] 3)).drew)=x1 at hS1 hE1 ⊢
     refine hK.out _ _ hS1 ?_
     clear hK K
     try simp only [Act.put,sTA,sC0,sC1]
     refine wpAnyZ_two 2 11 (by kernel_rfl) rfl rfl (by rfl) (by rfl) (fun K hK=>?_) (fun K hK=>?_)
     ·
      go_simp
      refine (spec_l6Choose a A n c xs B d ys A' c' hi wr.heap.size x1 (h.below (hb.trans (hS1.mono hb.size)) hh) (g.below (hb.trans (hS1.mono hb.size)) hh) ((ol.below hS1 (lR _)).ints.wide (Nat.zero_le _) (lR _)) (Nat.le_trans hh (Nat.le_trans hb.size hS1.size)) hS1.size hk hnH.out).mono ?_
      rintro e x2 ⟨A1,c1,B1,d1,rfl,oAx,oBx,bx2⟩
      have hS2:=hS1.trans (bx2.mono hS1.size)
      have oA2:=oAx.wide (lo':=wr.heap.size) (hi':=x2.heap.size) hS1.size (lR _)
      have oB2:=oBx.wide (lo':=wr.heap.size) (hi':=x2.heap.size) hS1.size (lR _)
      have hE2:=owns_below hE1 bx2 (fun ad e=>(owns_lt hE1 ad e).2)
      have nEA1:∀ ad,A1=some ad→ad.block≠ge:=fun ad e=>by have h1:=(owns_lt oAx.own ad e).1;have h2:=(owns_lt hE1 _ rfl).2;dsimp only at h2;omega
      have nEB1:∀ ad,B1=some ad→ad.block≠ge:=fun ad e=>by have h1:=(owns_lt oBx.own ad e).1;have h2:=(owns_lt hE1 _ rfl).2;dsimp only at h2;omega
      go_wp2_with fail
      refine hK.out _ _ hS2 ?_
      clear hK K
      try simp only [Act.put,sTA,sC0,sC1]
      refine wpAnyZ_two 8 11 (by kernel_rfl) rfl rfl (by rfl) (by rfl) (fun K hK=>?_) (fun K hK=>?_)
      ·
       refine step_appSP (.tmp 36) (.tmp 38) rfl x2 wr.heap.size (some ⟨ge,0,none⟩) 0 0 [] rfl hE2 B a d 0 hi ys rfl (g.below (hb.trans (hS2.mono hb.size)) hh) hBnH.out (by omega) hS2.size ?_
       intro A3 c3 x3 happ
       rw [Nat.zero_add,List.nil_append] at happ
       have hS3:=hS2.grown happ.2.1 hS2.size (own_geL hE2 (lR _))
       have oP3:OwnI x3 wr.heap.size x3.heap.size A3 a c3 ys:=⟨happ.1,fun ad e=>(owns_lt happ.1 ad e).2,g.rng⟩
       have oA3:=(oA2.kept_ happ.2.1 (fun ad e=>by simp only [Value.ownBlock];intro e2;injection e2 with e2;exact nEA1 ad e e2.symm)).wide (lR _) happ.2.1.size
       have oB3:=(oB2.kept_ happ.2.1 (fun ad e=>by simp only [Value.ownBlock];intro e2;injection e2 with e2;exact nEB1 ad e e2.symm)).wide (lR _) happ.2.1.size
       refine hK.out _ _ hS3 ?_
       clear hK K
       try simp only [Act.put,sTA,sC0,sC1]
       refine wpAnyZ_takeW 9 (.agg #[.int .i64 (a:Int),.slice none 0 0,.slice A3 a c3]) rfl (by kernel_rfl) (by kernel_rfl) (fun _ _ _ h=>h) (by rfl) (fun _=>by go_simp) hS3 ?_
       try simp only [Act.put,sTA,sC0,sC1]
       refine wpAnyZ_takeW 10 (.agg #[.int .i64 (a:Int),.slice A1 n c1,.slice B1 a d1,.int .i64 (a:Int),.slice none 0 0,.slice A3 a c3]) rfl (by kernel_rfl) (by kernel_rfl) (fun _ _ _ h=>h) (by rfl) (fun _=>by go_simp) hS3 ?_
       try simp only [Act.put,sTA,sC0,sC1]
       refine wpAnyZ_one 11 (by kernel_rfl) rfl (by rfl) (fun K hK=>?_)
       go_simp
       have ax4:=below_alloc x3 (.cells #[.int .i64 0,.slice none 0 0,.slice none 0 0,.int .i64 0,.slice none 0 0,.slice none 0 0] 30)
       have hS4:=hS3.trans (ax4.mono hS3.size)
       have oA4:=(oA3.below ax4 (lR _)).wide (lR _) ax4.size
       have oB4:=(oB3.below ax4 (lR _)).wide (lR _) ax4.size
       have oP4:=(oP3.below ax4 (lR _)).wide (lR _) ax4.size
       have kzn:=BlkN.new x3 #[.int .i64 0,.slice none 0 0,.slice none 0 0,.int .i64 0,.slice none 0 0,.slice none 0 0] 30
       obtain ⟨gb,hv⟩:∃ v,v=x3.heap.size:=⟨_,rfl⟩
       have hgb:wr.heap.size≤gb:=by have:=hS3.size;omega
       have kz4:BlkN (x3.alloc (.cells #[.int .i64 0,.slice none 0 0,.slice none 0 0,.int .i64 0,.slice none 0 0,.slice none 0 0] 30)) gb #[.int .i64 0,.slice none 0 0,.slice none 0 0,.int .i64 0,.slice none 0 0,.slice none 0 0]:=by rw [hv];exact kzn
       clear kzn
       have nGA1:∀ ad,A1=some ad→ad.block≠gb:=fun ad e=>by have h1:=(owns_lt oA3.own ad e).2;omega
       have nGB1:∀ ad,B1=some ad→ad.block≠gb:=fun ad e=>by have h1:=(owns_lt oB3.own ad e).2;omega
       have nGA3:∀ ad,A3=some ad→ad.block≠gb:=fun ad e=>by have h1:=(owns_lt oP3.own ad e).2;omega
       try rw [← hv]
       clear hv
       generalize (x3.alloc (.cells #[.int .i64 0,.slice none 0 0,.slice none 0 0,.int .i64 0,.slice none 0 0,.slice none 0 0] 30))=x4 at hS4 kz4 oA4 oB4 oP4 ax4 ⊢
       refine hK.out _ _ hS4 ?_
       clear hK K
       try simp only [Act.put,sTA,sC0,sC1]
       have f0:=kz4.f 0
       have c0_:=kz4.c 0 rfl
       have f1:=kz4.f 1
       have c1_:=kz4.c 1 rfl
       have f2:=kz4.f 2
       have c2_:=kz4.c 2 rfl
       have f3:=kz4.f 3
       have c3_:=kz4.c 3 rfl
       have f4:=kz4.f 4
       have c4_:=kz4.c 4 rfl
       have f5:=kz4.f 5
       have c5_:=kz4.c 5 rfl
       have hlt_:=kz4.lt
       have HF:=hide (And.intro (store6_below hS4 hgb (v0:=(.int .i64 (a:Int))) (v1:=(.slice A1 n c1)) (v2:=(.slice B1 a d1)) (v3:=(.int .i64 (a:Int))) (v4:=(.slice none 0 0)) (v5:=(.slice A3 a c3))) (And.intro (store6_blk kz4 (v0:=(.int .i64 (a:Int))) (v1:=(.slice A1 n c1)) (v2:=(.slice B1 a d1)) (v3:=(.int .i64 (a:Int))) (v4:=(.slice none 0 0)) (v5:=(.slice A3 a c3))) (And.intro (oA4.store6 nGA1 (.int .i64 (a:Int)) (.slice A1 n c1) (.slice B1 a d1) (.int .i64 (a:Int)) (.slice none 0 0) (.slice A3 a c3)) (And.intro (oB4.store6 nGB1 (.int .i64 (a:Int)) (.slice A1 n c1) (.slice B1 a d1) (.int .i64 (a:Int)) (.slice none 0 0) (.slice A3 a c3)) (oP4.store6 nGA3 (.int .i64 (a:Int)) (.slice A1 n c1) (.slice B1 a d1) (.int .i64 (a:Int)) (.slice none 0 0) (.slice A3 a c3))))))
       refine wpAnyZ_last (by kernel_rfl) rfl (by kernel_rfl) (by rfl) (fun K hK=>?_)
       go_simp
       refine hK _ _ ?_
       clear hK K
       go_wp2_with fail
       go_meet
       exact ⟨A1,c1,B1,d1,A3,c3,gb,rfl,HF.out.1,hgb,HF.out.2.1,HF.out.2.2.1.wide (lR _) (by rw [store6_size];exact lR _),HF.out.2.2.2.1.wide (lR _) (by rw [store6_size];exact lR _),HF.out.2.2.2.2.wide (lR _) (by rw [store6_size];exact lR _),nGA1,nGB1,nGA3⟩
      ·
       go_simp
       have ax3:=below_alloc x2 (.cells #[.int .i64 0,.slice none 0 0,.slice none 0 0,.int .i64 0,.slice none 0 0,.slice none 0 0] 30)
       have hS3:=hS2.trans (ax3.mono hS2.size)
       have hE3:=owns_below hE2 ax3 (fun ad e=>(owns_lt hE2 ad e).2)
       have oA3:=(oA2.below ax3 (lR _)).wide (lR _) ax3.size
       have oB3:=(oB2.below ax3 (lR _)).wide (lR _) ax3.size
       have kzn:=BlkN.new x2 #[.int .i64 0,.slice none 0 0,.slice none 0 0,.int .i64 0,.slice none 0 0,.slice none 0 0] 30
       obtain ⟨gb,hv⟩:∃ v,v=x2.heap.size:=⟨_,rfl⟩
       have hgb:wr.heap.size≤gb:=by have:=hS2.size;omega
       have kz3:BlkN (x2.alloc (.cells #[.int .i64 0,.slice none 0 0,.slice none 0 0,.int .i64 0,.slice none 0 0,.slice none 0 0] 30)) gb #[.int .i64 0,.slice none 0 0,.slice none 0 0,.int .i64 0,.slice none 0 0,.slice none 0 0]:=by rw [hv];exact kzn
       clear kzn
       have nGA1:∀ ad,A1=some ad→ad.block≠gb:=fun ad e=>by have h1:=(owns_lt oA2.own ad e).2;omega
       have nGB1:∀ ad,B1=some ad→ad.block≠gb:=fun ad e=>by have h1:=(owns_lt oB2.own ad e).2;omega
       have nEG:ge≠gb:=by have h2:=(owns_lt hE2 _ rfl).2;dsimp only at h2;omega
       try rw [← hv]
       clear hv
       generalize (x2.alloc (.cells #[.int .i64 0,.slice none 0 0,.slice none 0 0,.int .i64 0,.slice none 0 0,.slice none 0 0] 30))=x3 at hS3 kz3 hE3 oA3 oB3 ax3 ⊢
       refine hK.out _ _ hS3 ?_
       clear hK K
       try simp only [Act.put,sTA,sC0,sC1]
       refine wpAnyZ_one 8 (by kernel_rfl) rfl (by rfl) (fun K hK=>?_)
       refine step_appSP (.tmp 36) (.tmp 38) rfl x3 wr.heap.size (some ⟨ge,0,none⟩) 0 0 [] rfl hE3 B a d 0 hi ys rfl (g.below (hb.trans (hS3.mono hb.size)) hh) hBnH.out (by omega) hS3.size ?_
       intro A3 c3 x4 happ
       rw [Nat.zero_add,List.nil_append] at happ
       have hS4:=hS3.grown happ.2.1 hS3.size (own_geL hE3 (lR _))
       have oP4:OwnI x4 wr.heap.size x4.heap.size A3 a c3 ys:=⟨happ.1,fun ad e=>(owns_lt happ.1 ad e).2,g.rng⟩
       have oA4:=(oA3.kept_ happ.2.1 (fun ad e=>by simp only [Value.ownBlock];intro e2;injection e2 with e2;exact nEA1 ad e e2.symm)).wide (lR _) happ.2.1.size
       have oB4:=(oB3.kept_ happ.2.1 (fun ad e=>by simp only [Value.ownBlock];intro e2;injection e2 with e2;exact nEB1 ad e e2.symm)).wide (lR _) happ.2.1.size
       have kz4:=grown_blk kz3 happ.2.1 (ownB_ne (fun ad e=>by injection e with e;subst e;exact nEG))
       have nGA3:∀ ad,A3=some ad→ad.block≠gb:=app_ne happ kz3.lt (fun ad e=>by injection e with e;subst e;exact nEG)
       refine hK.out _ _ hS4 ?_
       clear hK K
       try simp only [Act.put,sTA,sC0,sC1]
       refine wpAnyZ_takeW 9 (.agg #[.int .i64 (a:Int),.slice none 0 0,.slice A3 a c3]) rfl (by kernel_rfl) (by kernel_rfl) (fun _ _ _ h=>h) (by rfl) (fun _=>by go_simp) hS4 ?_
       try simp only [Act.put,sTA,sC0,sC1]
       refine wpAnyZ_takeW 10 (.agg #[.int .i64 (a:Int),.slice A1 n c1,.slice B1 a d1,.int .i64 (a:Int),.slice none 0 0,.slice A3 a c3]) rfl (by kernel_rfl) (by kernel_rfl) (fun _ _ _ h=>h) (by rfl) (fun _=>by go_simp) hS4 ?_
       try simp only [Act.put,sTA,sC0,sC1]
       have f0:=kz4.f 0
       have c0_:=kz4.c 0 rfl
       have f1:=kz4.f 1
       have c1_:=kz4.c 1 rfl
       have f2:=kz4.f 2
       have c2_:=kz4.c 2 rfl
       have f3:=kz4.f 3
       have c3_:=kz4.c 3 rfl
       have f4:=kz4.f 4
       have c4_:=kz4.c 4 rfl
       have f5:=kz4.f 5
       have c5_:=kz4.c 5 rfl
       have hlt_:=kz4.lt
       have HF:=hide (And.intro (store6_below hS4 hgb (v0:=(.int .i64 (a:Int))) (v1:=(.slice A1 n c1)) (v2:=(.slice B1 a d1)) (v3:=(.int .i64 (a:Int))) (v4:=(.slice none 0 0)) (v5:=(.slice A3 a c3))) (And.intro (store6_blk kz4 (v0:=(.int .i64 (a:Int))) (v1:=(.slice A1 n c1)) (v2:=(.slice B1 a d1)) (v3:=(.int .i64 (a:Int))) (v4:=(.slice none 0 0)) (v5:=(.slice A3 a c3))) (And.intro (oA4.store6 nGA1 (.int .i64 (a:Int)) (.slice A1 n c1) (.slice B1 a d1) (.int .i64 (a:Int)) (.slice none 0 0) (.slice A3 a c3)) (And.intro (oB4.store6 nGB1 (.int .i64 (a:Int)) (.slice A1 n c1) (.slice B1 a d1) (.int .i64 (a:Int)) (.slice none 0 0) (.slice A3 a c3)) (oP4.store6 nGA3 (.int .i64 (a:Int)) (.slice A1 n c1) (.slice B1 a d1) (.int .i64 (a:Int)) (.slice none 0 0) (.slice A3 a c3))))))
       refine wpAnyZ_last (by kernel_rfl) rfl (by kernel_rfl) (by rfl) (fun K hK=>?_)
       go_simp
       refine hK _ _ ?_
       clear hK K
       go_wp2_with fail
       go_meet
       exact ⟨A1,c1,B1,d1,A3,c3,gb,rfl,HF.out.1,hgb,HF.out.2.1,HF.out.2.2.1.wide (lR _) (by rw [store6_size];exact lR _),HF.out.2.2.2.1.wide (lR _) (by rw [store6_size];exact lR _),HF.out.2.2.2.2.wide (lR _) (by rw [store6_size];exact lR _),nGA1,nGB1,nGA3⟩
     ·
      go_simp
      have ax2:=below_alloc x1 (.cells #[.int .i64 0,.slice none 0 0,.slice none 0 0,.int .i64 0,.slice none 0 0,.slice none 0 0] 30)
      have hS2:=hS1.trans (ax2.mono hS1.size)
      have hE2:=owns_below hE1 ax2 (fun ad e=>(owns_lt hE1 ad e).2)
      have kzn:=BlkN.new x1 #[.int .i64 0,.slice none 0 0,.slice none 0 0,.int .i64 0,.slice none 0 0,.slice none 0 0] 30
      obtain ⟨gb,hv⟩:∃ v,v=x1.heap.size:=⟨_,rfl⟩
      have hgb:wr.heap.size≤gb:=by have:=hS1.size;omega
      have kz2:BlkN (x1.alloc (.cells #[.int .i64 0,.slice none 0 0,.slice none 0 0,.int .i64 0,.slice none 0 0,.slice none 0 0] 30)) gb #[.int .i64 0,.slice none 0 0,.slice none 0 0,.int .i64 0,.slice none 0 0,.slice none 0 0]:=by rw [hv];exact kzn
      clear kzn
      have nEG:ge≠gb:=by have h2:=(owns_lt hE1 _ rfl).2;dsimp only at h2;omega
      try rw [← hv]
      clear hv
      generalize (x1.alloc (.cells #[.int .i64 0,.slice none 0 0,.slice none 0 0,.int .i64 0,.slice none 0 0,.slice none 0 0] 30))=x2 at hS2 kz2 hE2 ax2 ⊢
      refine hK.out _ _ hS2 ?_
      clear hK K
      try simp only [Act.put,sTA,sC0,sC1]
      refine wpAnyZ_one 2 (by kernel_rfl) rfl (by rfl) (fun K hK=>?_)
      go_simp
      refine (spec_l6Choose a A n c xs B d ys A' c' hi wr.heap.size x2 (h.below (hb.trans (hS2.mono hb.size)) hh) (g.below (hb.trans (hS2.mono hb.size)) hh) ((ol.below hS2 (lR _)).ints.wide (Nat.zero_le _) (lR _)) (Nat.le_trans hh (Nat.le_trans hb.size hS2.size)) hS2.size hk hnH.out).mono ?_
      rintro e x3 ⟨A1,c1,B1,d1,rfl,oAx,oBx,bx3⟩
      have hS3:=hS2.trans (bx3.mono hS2.size)
      have oA3:=oAx.wide (lo':=wr.heap.size) (hi':=x3.heap.size) hS2.size (lR _)
      have oB3:=oBx.wide (lo':=wr.heap.size) (hi':=x3.heap.size) hS2.size (lR _)
      have kz3:=kz2.below bx3
      have hE3:=owns_below hE2 bx3 (fun ad e=>(owns_lt hE2 ad e).2)
      have nEA1:∀ ad,A1=some ad→ad.block≠ge:=fun ad e=>by have h1:=(owns_lt oAx.own ad e).1;have h2:=(owns_lt hE2 _ rfl).2;dsimp only at h2;omega
      have nGA1:∀ ad,A1=some ad→ad.block≠gb:=fun ad e=>by have h1:=(owns_lt oAx.own ad e).1;have h2:=kz2.lt;omega
      have nEB1:∀ ad,B1=some ad→ad.block≠ge:=fun ad e=>by have h1:=(owns_lt oBx.own ad e).1;have h2:=(owns_lt hE2 _ rfl).2;dsimp only at h2;omega
      have nGB1:∀ ad,B1=some ad→ad.block≠gb:=fun ad e=>by have h1:=(owns_lt oBx.own ad e).1;have h2:=kz2.lt;omega
      go_wp2_with fail
      refine hK.out _ _ hS3 ?_
      clear hK K
      try simp only [Act.put,sTA,sC0,sC1]
      refine wpAnyZ_one 8 (by kernel_rfl) rfl (by rfl) (fun K hK=>?_)
      refine step_appSP (.tmp 36) (.tmp 38) rfl x3 wr.heap.size (some ⟨ge,0,none⟩) 0 0 [] rfl hE3 B a d 0 hi ys rfl (g.below (hb.trans (hS3.mono hb.size)) hh) hBnH.out (by omega) hS3.size ?_
      intro A3 c3 x4 happ
      rw [Nat.zero_add,List.nil_append] at happ
      have hS4:=hS3.grown happ.2.1 hS3.size (own_geL hE3 (lR _))
      have oP4:OwnI x4 wr.heap.size x4.heap.size A3 a c3 ys:=⟨happ.1,fun ad e=>(owns_lt happ.1 ad e).2,g.rng⟩
      have oA4:=(oA3.kept_ happ.2.1 (fun ad e=>by simp only [Value.ownBlock];intro e2;injection e2 with e2;exact nEA1 ad e e2.symm)).wide (lR _) happ.2.1.size
      have oB4:=(oB3.kept_ happ.2.1 (fun ad e=>by simp only [Value.ownBlock];intro e2;injection e2 with e2;exact nEB1 ad e e2.symm)).wide (lR _) happ.2.1.size
      have kz4:=grown_blk kz3 happ.2.1 (ownB_ne (fun ad e=>by injection e with e;subst e;exact nEG))
      have nGA3:∀ ad,A3=some ad→ad.block≠gb:=app_ne happ kz3.lt (fun ad e=>by injection e with e;subst e;exact nEG)
      refine hK.out _ _ hS4 ?_
      clear hK K
      try simp only [Act.put,sTA,sC0,sC1]
      refine wpAnyZ_takeW 9 (.agg #[.int .i64 (a:Int),.slice none 0 0,.slice A3 a c3]) rfl (by kernel_rfl) (by kernel_rfl) (fun _ _ _ h=>h) (by rfl) (fun _=>by go_simp) hS4 ?_
      try simp only [Act.put,sTA,sC0,sC1]
      refine wpAnyZ_takeW 10 (.agg #[.int .i64 (a:Int),.slice A1 n c1,.slice B1 a d1,.int .i64 (a:Int),.slice none 0 0,.slice A3 a c3]) rfl (by kernel_rfl) (by kernel_rfl) (fun _ _ _ h=>h) (by rfl) (fun _=>by go_simp) hS4 ?_
      try simp only [Act.put,sTA,sC0,sC1]
      have f0:=kz4.f 0
      have c0_:=kz4.c 0 rfl
      have f1:=kz4.f 1
      have c1_:=kz4.c 1 rfl
      have f2:=kz4.f 2
      have c2_:=kz4.c 2 rfl
      have f3:=kz4.f 3
      have c3_:=kz4.c 3 rfl
      have f4:=kz4.f 4
      have c4_:=kz4.c 4 rfl
      have f5:=kz4.f 5
      have c5_:=kz4.c 5 rfl
      have hlt_:=kz4.lt
      have HF:=hide (And.intro (store6_below hS4 hgb (v0:=(.int .i64 (a:Int))) (v1:=(.slice A1 n c1)) (v2:=(.slice B1 a d1)) (v3:=(.int .i64 (a:Int))) (v4:=(.slice none 0 0)) (v5:=(.slice A3 a c3))) (And.intro (store6_blk kz4 (v0:=(.int .i64 (a:Int))) (v1:=(.slice A1 n c1)) (v2:=(.slice B1 a d1)) (v3:=(.int .i64 (a:Int))) (v4:=(.slice none 0 0)) (v5:=(.slice A3 a c3))) (And.intro (oA4.store6 nGA1 (.int .i64 (a:Int)) (.slice A1 n c1) (.slice B1 a d1) (.int .i64 (a:Int)) (.slice none 0 0) (.slice A3 a c3)) (And.intro (oB4.store6 nGB1 (.int .i64 (a:Int)) (.slice A1 n c1) (.slice B1 a d1) (.int .i64 (a:Int)) (.slice none 0 0) (.slice A3 a c3)) (oP4.store6 nGA3 (.int .i64 (a:Int)) (.slice A1 n c1) (.slice B1 a d1) (.int .i64 (a:Int)) (.slice none 0 0) (.slice A3 a c3))))))
      refine wpAnyZ_last (by kernel_rfl) rfl (by kernel_rfl) (by rfl) (fun K hK=>?_)
      go_simp
      refine hK _ _ ?_
      clear hK K
      go_wp2_with fail
      go_meet
      exact ⟨A1,c1,B1,d1,A3,c3,gb,rfl,HF.out.1,hgb,HF.out.2.1,HF.out.2.2.1.wide (lR _) (by rw [store6_size];exact lR _),HF.out.2.2.2.1.wide (lR _) (by rw [store6_size];exact lR _),HF.out.2.2.2.2.wide (lR _) (by rw [store6_size];exact lR _),nGA1,nGB1,nGA3⟩
    ·
     go_simp
     have hS1:=(below_alloc wr (.cells #[.int .i64 0,.slice none 0 0,.slice none 0 0,.int .i64 0,.slice none 0 0,.slice none 0 0] 30)).drew
     have kzn:=(BlkN.new wr #[.int .i64 0,.slice none 0 0,.slice none 0 0,.int .i64 0,.slice none 0 0,.slice none 0 0] 30).drew
     obtain ⟨gb,hv⟩:∃ v,v=wr.heap.size:=⟨_,rfl⟩
     have hgb:wr.heap.size≤gb:=by have:=lR wr.heap.size;omega
     have kz1:BlkN ((wr.alloc (.cells #[.int .i64 0,.slice none 0 0,.slice none 0 0,.int .i64 0,.slice none 0 0,.slice none 0 0] 30)).drew) gb #[.int .i64 0,.slice none 0 0,.slice none 0 0,.int .i64 0,.slice none 0 0,.slice none 0 0]:=by rw [hv];exact kzn
     clear kzn
     try rw [← hv]
     clear hv
     generalize ((wr.alloc (.cells #[.int .i64 0,.slice none 0 0,.slice none 0 0,.int .i64 0,.slice none 0 0,.slice none 0 0] 30)).drew)=x1 at hS1 kz1 ⊢
     refine hK.out _ _ hS1 ?_
     clear hK K
     try simp only [Act.put,sTA,sC0,sC1]
     refine wpAnyZ_two 2 5 (by kernel_rfl) rfl rfl (by rfl) (by rfl) (fun K hK=>?_) (fun K hK=>?_)
     ·
      go_simp
      refine (spec_l6Choose a A n c xs B d ys A' c' hi wr.heap.size x1 (h.below (hb.trans (hS1.mono hb.size)) hh) (g.below (hb.trans (hS1.mono hb.size)) hh) ((ol.below hS1 (lR _)).ints.wide (Nat.zero_le _) (lR _)) (Nat.le_trans hh (Nat.le_trans hb.size hS1.size)) hS1.size hk hnH.out).mono ?_
      rintro e x2 ⟨A1,c1,B1,d1,rfl,oAx,oBx,bx2⟩
      have hS2:=hS1.trans (bx2.mono hS1.size)
      have oA2:=oAx.wide (lo':=wr.heap.size) (hi':=x2.heap.size) hS1.size (lR _)
      have oB2:=oBx.wide (lo':=wr.heap.size) (hi':=x2.heap.size) hS1.size (lR _)
      have kz2:=kz1.below bx2
      have nGA1:∀ ad,A1=some ad→ad.block≠gb:=fun ad e=>by have h1:=(owns_lt oAx.own ad e).1;have h2:=kz1.lt;omega
      have nGB1:∀ ad,B1=some ad→ad.block≠gb:=fun ad e=>by have h1:=(owns_lt oBx.own ad e).1;have h2:=kz1.lt;omega
      go_wp2_with fail
      refine hK.out _ _ hS2 ?_
      clear hK K
      try simp only [Act.put,sTA,sC0,sC1]
      refine wpAnyZ_one 5 (by kernel_rfl) rfl (by rfl) (fun K hK=>?_)
      go_simp
      have ax3:=below_alloc x2 (.cells #[] 3)
      have hS3:=hS2.trans (ax3.mono hS2.size)
      have kz3:=kz2.below ax3
      have oA3:=(oA2.below ax3 (lR _)).wide (lR _) ax3.size
      have oB3:=(oB2.below ax3 (lR _)).wide (lR _) ax3.size
      have hEn:(x2.alloc (.cells #[] 3)).ownsRow wr.heap.size 3 1 (.slice (some ⟨x2.heap.size,0,none⟩) 0 0) 0 []:=by simpa using World.ownsRow_lit (size:=1) (e:=3) x2 #[] 0 (base:=wr.heap.size) hS2.size (by unfold maxLen;omega) rfl
      obtain ⟨ge,hv⟩:∃ v,v=x2.heap.size:=⟨_,rfl⟩
      have hge:wr.heap.size≤ge:=by have:=hS2.size;omega
      have hE3:(x2.alloc (.cells #[] 3)).ownsRow wr.heap.size 3 1 (.slice (some ⟨ge,0,none⟩) 0 0) 0 []:=by rw [hv];exact hEn
      clear hEn
      have nEA1:∀ ad,A1=some ad→ad.block≠ge:=fun ad e=>by have h1:=(owns_lt oA2.own ad e).2;omega
      have nEB1:∀ ad,B1=some ad→ad.block≠ge:=fun ad e=>by have h1:=(owns_lt oB2.own ad e).2;omega
      have nEG:ge≠gb:=by have:=kz2.lt;omega
      try rw [← hv]
      clear hv
      generalize (x2.alloc (.cells #[] 3))=x3 at hS3 kz3 hE3 oA3 oB3 ax3 ⊢
      refine hK.out _ _ hS3 ?_
      clear hK K
      try simp only [Act.put,sTA,sC0,sC1]
      refine wpAnyZ_one 8 (by kernel_rfl) rfl (by rfl) (fun K hK=>?_)
      refine step_appSP (.tmp 36) (.tmp 38) rfl x3 wr.heap.size (some ⟨ge,0,none⟩) 0 0 [] rfl hE3 B a d 0 hi ys rfl (g.below (hb.trans (hS3.mono hb.size)) hh) hBnH.out (by omega) hS3.size ?_
      intro A3 c3 x4 happ
      rw [Nat.zero_add,List.nil_append] at happ
      have hS4:=hS3.grown happ.2.1 hS3.size (own_geL hE3 (lR _))
      have oP4:OwnI x4 wr.heap.size x4.heap.size A3 a c3 ys:=⟨happ.1,fun ad e=>(owns_lt happ.1 ad e).2,g.rng⟩
      have oA4:=(oA3.kept_ happ.2.1 (fun ad e=>by simp only [Value.ownBlock];intro e2;injection e2 with e2;exact nEA1 ad e e2.symm)).wide (lR _) happ.2.1.size
      have oB4:=(oB3.kept_ happ.2.1 (fun ad e=>by simp only [Value.ownBlock];intro e2;injection e2 with e2;exact nEB1 ad e e2.symm)).wide (lR _) happ.2.1.size
      have kz4:=grown_blk kz3 happ.2.1 (ownB_ne (fun ad e=>by injection e with e;subst e;exact nEG))
      have nGA3:∀ ad,A3=some ad→ad.block≠gb:=app_ne happ kz3.lt (fun ad e=>by injection e with e;subst e;exact nEG)
      refine hK.out _ _ hS4 ?_
      clear hK K
      try simp only [Act.put,sTA,sC0,sC1]
      refine wpAnyZ_takeW 9 (.agg #[.int .i64 (a:Int),.slice none 0 0,.slice A3 a c3]) rfl (by kernel_rfl) (by kernel_rfl) (fun _ _ _ h=>h) (by rfl) (fun _=>by go_simp) hS4 ?_
      try simp only [Act.put,sTA,sC0,sC1]
      refine wpAnyZ_takeW 10 (.agg #[.int .i64 (a:Int),.slice A1 n c1,.slice B1 a d1,.int .i64 (a:Int),.slice none 0 0,.slice A3 a c3]) rfl (by kernel_rfl) (by kernel_rfl) (fun _ _ _ h=>h) (by rfl) (fun _=>by go_simp) hS4 ?_
      try simp only [Act.put,sTA,sC0,sC1]
      have f0:=kz4.f 0
      have c0_:=kz4.c 0 rfl
      have f1:=kz4.f 1
      have c1_:=kz4.c 1 rfl
      have f2:=kz4.f 2
      have c2_:=kz4.c 2 rfl
      have f3:=kz4.f 3
      have c3_:=kz4.c 3 rfl
      have f4:=kz4.f 4
      have c4_:=kz4.c 4 rfl
      have f5:=kz4.f 5
      have c5_:=kz4.c 5 rfl
      have hlt_:=kz4.lt
      have HF:=hide (And.intro (store6_below hS4 hgb (v0:=(.int .i64 (a:Int))) (v1:=(.slice A1 n c1)) (v2:=(.slice B1 a d1)) (v3:=(.int .i64 (a:Int))) (v4:=(.slice none 0 0)) (v5:=(.slice A3 a c3))) (And.intro (store6_blk kz4 (v0:=(.int .i64 (a:Int))) (v1:=(.slice A1 n c1)) (v2:=(.slice B1 a d1)) (v3:=(.int .i64 (a:Int))) (v4:=(.slice none 0 0)) (v5:=(.slice A3 a c3))) (And.intro (oA4.store6 nGA1 (.int .i64 (a:Int)) (.slice A1 n c1) (.slice B1 a d1) (.int .i64 (a:Int)) (.slice none 0 0) (.slice A3 a c3)) (And.intro (oB4.store6 nGB1 (.int .i64 (a:Int)) (.slice A1 n c1) (.slice B1 a d1) (.int .i64 (a:Int)) (.slice none 0 0) (.slice A3 a c3)) (oP4.store6 nGA3 (.int .i64 (a:Int)) (.slice A1 n c1) (.slice B1 a d1) (.int .i64 (a:Int)) (.slice none 0 0) (.slice A3 a c3))))))
      refine wpAnyZ_last (by kernel_rfl) rfl (by kernel_rfl) (by rfl) (fun K hK=>?_)
      go_simp
      refine hK _ _ ?_
      clear hK K
      go_wp2_with fail
      go_meet
      exact ⟨A1,c1,B1,d1,A3,c3,gb,rfl,HF.out.1,hgb,HF.out.2.1,HF.out.2.2.1.wide (lR _) (by rw [store6_size];exact lR _),HF.out.2.2.2.1.wide (lR _) (by rw [store6_size];exact lR _),HF.out.2.2.2.2.wide (lR _) (by rw [store6_size];exact lR _),nGA1,nGB1,nGA3⟩
     ·
      go_simp
      have ax2:=below_alloc x1 (.cells #[] 3)
      have hS2:=hS1.trans (ax2.mono hS1.size)
      have kz2:=kz1.below ax2
      have hEn:(x1.alloc (.cells #[] 3)).ownsRow wr.heap.size 3 1 (.slice (some ⟨x1.heap.size,0,none⟩) 0 0) 0 []:=by simpa using World.ownsRow_lit (size:=1) (e:=3) x1 #[] 0 (base:=wr.heap.size) hS1.size (by unfold maxLen;omega) rfl
      obtain ⟨ge,hv⟩:∃ v,v=x1.heap.size:=⟨_,rfl⟩
      have hge:wr.heap.size≤ge:=by have:=hS1.size;omega
      have hE2:(x1.alloc (.cells #[] 3)).ownsRow wr.heap.size 3 1 (.slice (some ⟨ge,0,none⟩) 0 0) 0 []:=by rw [hv];exact hEn
      clear hEn
      have nEG:ge≠gb:=by have:=kz1.lt;omega
      try rw [← hv]
      clear hv
      generalize (x1.alloc (.cells #[] 3))=x2 at hS2 kz2 hE2 ax2 ⊢
      refine hK.out _ _ hS2 ?_
      clear hK K
      try simp only [Act.put,sTA,sC0,sC1]
      refine wpAnyZ_one 2 (by kernel_rfl) rfl (by rfl) (fun K hK=>?_)
      go_simp
      refine (spec_l6Choose a A n c xs B d ys A' c' hi wr.heap.size x2 (h.below (hb.trans (hS2.mono hb.size)) hh) (g.below (hb.trans (hS2.mono hb.size)) hh) ((ol.below hS2 (lR _)).ints.wide (Nat.zero_le _) (lR _)) (Nat.le_trans hh (Nat.le_trans hb.size hS2.size)) hS2.size hk hnH.out).mono ?_
      rintro e x3 ⟨A1,c1,B1,d1,rfl,oAx,oBx,bx3⟩
      have hS3:=hS2.trans (bx3.mono hS2.size)
      have oA3:=oAx.wide (lo':=wr.heap.size) (hi':=x3.heap.size) hS2.size (lR _)
      have oB3:=oBx.wide (lo':=wr.heap.size) (hi':=x3.heap.size) hS2.size (lR _)
      have kz3:=kz2.below bx3
      have hE3:=owns_below hE2 bx3 (fun ad e=>(owns_lt hE2 ad e).2)
      have nEA1:∀ ad,A1=some ad→ad.block≠ge:=fun ad e=>by have h1:=(owns_lt oAx.own ad e).1;have h2:=(owns_lt hE2 _ rfl).2;dsimp only at h2;omega
      have nGA1:∀ ad,A1=some ad→ad.block≠gb:=fun ad e=>by have h1:=(owns_lt oAx.own ad e).1;have h2:=kz2.lt;omega
      have nEB1:∀ ad,B1=some ad→ad.block≠ge:=fun ad e=>by have h1:=(owns_lt oBx.own ad e).1;have h2:=(owns_lt hE2 _ rfl).2;dsimp only at h2;omega
      have nGB1:∀ ad,B1=some ad→ad.block≠gb:=fun ad e=>by have h1:=(owns_lt oBx.own ad e).1;have h2:=kz2.lt;omega
      go_wp2_with fail
      refine hK.out _ _ hS3 ?_
      clear hK K
      try simp only [Act.put,sTA,sC0,sC1]
      refine wpAnyZ_one 8 (by kernel_rfl) rfl (by rfl) (fun K hK=>?_)
      refine step_appSP (.tmp 36) (.tmp 38) rfl x3 wr.heap.size (some ⟨ge,0,none⟩) 0 0 [] rfl hE3 B a d 0 hi ys rfl (g.below (hb.trans (hS3.mono hb.size)) hh) hBnH.out (by omega) hS3.size ?_
      intro A3 c3 x4 happ
      rw [Nat.zero_add,List.nil_append] at happ
      have hS4:=hS3.grown happ.2.1 hS3.size (own_geL hE3 (lR _))
      have oP4:OwnI x4 wr.heap.size x4.heap.size A3 a c3 ys:=⟨happ.1,fun ad e=>(owns_lt happ.1 ad e).2,g.rng⟩
      have oA4:=(oA3.kept_ happ.2.1 (fun ad e=>by simp only [Value.ownBlock];intro e2;injection e2 with e2;exact nEA1 ad e e2.symm)).wide (lR _) happ.2.1.size
      have oB4:=(oB3.kept_ happ.2.1 (fun ad e=>by simp only [Value.ownBlock];intro e2;injection e2 with e2;exact nEB1 ad e e2.symm)).wide (lR _) happ.2.1.size
      have kz4:=grown_blk kz3 happ.2.1 (ownB_ne (fun ad e=>by injection e with e;subst e;exact nEG))
      have nGA3:∀ ad,A3=some ad→ad.block≠gb:=app_ne happ kz3.lt (fun ad e=>by injection e with e;subst e;exact nEG)
      refine hK.out _ _ hS4 ?_
      clear hK K
      try simp only [Act.put,sTA,sC0,sC1]
      refine wpAnyZ_takeW 9 (.agg #[.int .i64 (a:Int),.slice none 0 0,.slice A3 a c3]) rfl (by kernel_rfl) (by kernel_rfl) (fun _ _ _ h=>h) (by rfl) (fun _=>by go_simp) hS4 ?_
      try simp only [Act.put,sTA,sC0,sC1]
      refine wpAnyZ_takeW 10 (.agg #[.int .i64 (a:Int),.slice A1 n c1,.slice B1 a d1,.int .i64 (a:Int),.slice none 0 0,.slice A3 a c3]) rfl (by kernel_rfl) (by kernel_rfl) (fun _ _ _ h=>h) (by rfl) (fun _=>by go_simp) hS4 ?_
      try simp only [Act.put,sTA,sC0,sC1]
      have f0:=kz4.f 0
      have c0_:=kz4.c 0 rfl
      have f1:=kz4.f 1
      have c1_:=kz4.c 1 rfl
      have f2:=kz4.f 2
      have c2_:=kz4.c 2 rfl
      have f3:=kz4.f 3
      have c3_:=kz4.c 3 rfl
      have f4:=kz4.f 4
      have c4_:=kz4.c 4 rfl
      have f5:=kz4.f 5
      have c5_:=kz4.c 5 rfl
      have hlt_:=kz4.lt
      have HF:=hide (And.intro (store6_below hS4 hgb (v0:=(.int .i64 (a:Int))) (v1:=(.slice A1 n c1)) (v2:=(.slice B1 a d1)) (v3:=(.int .i64 (a:Int))) (v4:=(.slice none 0 0)) (v5:=(.slice A3 a c3))) (And.intro (store6_blk kz4 (v0:=(.int .i64 (a:Int))) (v1:=(.slice A1 n c1)) (v2:=(.slice B1 a d1)) (v3:=(.int .i64 (a:Int))) (v4:=(.slice none 0 0)) (v5:=(.slice A3 a c3))) (And.intro (oA4.store6 nGA1 (.int .i64 (a:Int)) (.slice A1 n c1) (.slice B1 a d1) (.int .i64 (a:Int)) (.slice none 0 0) (.slice A3 a c3)) (And.intro (oB4.store6 nGB1 (.int .i64 (a:Int)) (.slice A1 n c1) (.slice B1 a d1) (.int .i64 (a:Int)) (.slice none 0 0) (.slice A3 a c3)) (oP4.store6 nGA3 (.int .i64 (a:Int)) (.slice A1 n c1) (.slice B1 a d1) (.int .i64 (a:Int)) (.slice none 0 0) (.slice A3 a c3))))))
      refine wpAnyZ_last (by kernel_rfl) rfl (by kernel_rfl) (by rfl) (fun K hK=>?_)
      go_simp
      refine hK _ _ ?_
      clear hK K
      go_wp2_with fail
      go_meet
      exact ⟨A1,c1,B1,d1,A3,c3,gb,rfl,HF.out.1,hgb,HF.out.2.1,HF.out.2.2.1.wide (lR _) (by rw [store6_size];exact lR _),HF.out.2.2.2.1.wide (lR _) (by rw [store6_size];exact lR _),HF.out.2.2.2.2.wide (lR _) (by rw [store6_size];exact lR _),nGA1,nGB1,nGA3⟩
   case rest =>
    obtain ⟨A1,c1,B1,d1,A3,c3,b6,rfl,bC,hb6,k6,oA,oB,oP,n1,n2,n3⟩:=hcut
    obtain ⟨V,rfl⟩:∃ W:World,W=wc:=⟨_,rfl⟩
    have M0:=m0.below bC
    have M1:=m1.below bC
    have BV:=hb.trans (bC.mono hb.size)
    have hlV:=k6.lt
    obtain ⟨l10,hl10⟩:∃ l,l=wr.heap.size:=⟨_,rfl⟩
    obtain ⟨lV,hlVe⟩:∃ l,l=V.heap.size:=⟨_,rfl⟩
    rw [← hl10] at hb6 oA oB oP hz3
    rw [← hlVe] at oA oB oP hlV
    have hlV2:lV≤V.heap.size:=by omega
    have hh10:hi≤l10:=by have:=hb.size;omega
    clear m0 m1 hb bC hzr ol hs2 hl10 hlVe
    have cL:=hide (conjL_len a xs ys)
    go_wp2_with fail
    go_loopw [7,8] (fun i _ wr=>∃ (i1:Nat) (A2:Option Addr) (c2:Nat),i1≤a∧i = .int .i64 i1∧BlkN wr w.heap.size #[.int .i64 (a:Int),.slice A n c,.slice B a d]∧BlkN wr (w.heap.size+1) #[.int .i64 0,.slice none 0 0,.slice none 0 0,.int .i64 0,.slice none 0 0,.slice none 0 0]∧BlkN wr b6 #[.int .i64 (a:Int),.slice A1 n c1,.slice B1 a d1,.int .i64 (a:Int),.slice A2 (i1*a) c2,.slice A3 a c3] ∧
      wr.ownsRow lV 3 1 (.slice A2 (i1*a) c2) (i1*a) (((conjL a xs ys).take (i1*a)).map (Value.int .i64))∧OwnI wr l10 lV A1 n c1 xs∧OwnI wr l10 lV B1 a d1 ys∧OwnI wr l10 lV A3 a c3 ys∧Below w.heap.size w wr∧Hid (lV≤wr.heap.size))
     (fun i _ _=>a - (intOf i).toNat)
    case atStart=>exact ⟨0,none,0,by omega,rfl,M0,M1,by simpa using k6,by simpa using World.ownsRow_nil _ _ _ _,oA,oB,oP,BV,hlV2⟩
    case round =>
     clear M0 M1 k6 oA oB oP BV hlV2
     obtain ⟨i1,A2,c2,hi1,rfl,M0,M1,k6,hA,oA,oB,oP,hb,hzr⟩:=hrel
     have hz4:=hzr.out
     have p0:=M0.c 0 rfl
     by_cases hlt:i1<a
     ·obtain ⟨r0,hr0⟩:∃ r0:Nat,r0=i1*a:=⟨_,rfl⟩
      have hr0H:=hide hr0
      have hrb:r0+a≤n:=by
       rw [hr0,hnH.out]
       have:(i1+1)*a≤a*a:=Nat.mul_le_mul_right _ hlt
       rwa [Nat.add_mul,Nat.one_mul] at this
      rw [← hr0] at k6 hA
      clear hr0
      go_wp2_with fail
      clear p0
      go_loopw [8] (fun j wr=>∃ (j1:Nat) (A2:Option Addr) (c2:Nat),j1≤a∧j = .int .i64 j1∧BlkN wr w.heap.size #[.int .i64 (a:Int),.slice A n c,.slice B a d]∧BlkN wr (w.heap.size+1) #[.int .i64 0,.slice none 0 0,.slice none 0 0,.int .i64 0,.slice none 0 0,.slice none 0 0]∧BlkN wr b6 #[.int .i64 (a:Int),.slice A1 n c1,.slice B1 a d1,.int .i64 (a:Int),.slice A2 (r0+j1) c2,.slice A3 a c3] ∧
        wr.ownsRow lV 3 1 (.slice A2 (r0+j1) c2) (r0+j1) (((conjL a xs ys).take (r0+j1)).map (Value.int .i64))∧OwnI wr l10 lV A1 n c1 xs∧OwnI wr l10 lV B1 a d1 ys∧OwnI wr l10 lV A3 a c3 ys∧Below w.heap.size w wr∧Hid (lV≤wr.heap.size))
       (fun j _=>a - (intOf j).toNat)
      case atStart=>exact ⟨0,A2,c2,by omega,rfl,M0,M1,k6,hA,oA,oB,oP,hb,hzr⟩
      case round =>
       clear M0 M1 k6 hA oA oB oP hb hzr hz4
       clear A2 c2
       obtain ⟨j1,A2,c2,hj1,rfl,M0,M1,k6,hA,oA,oB,oP,hb,hzr⟩:=hrel
       have hz4:=hzr.out
       have p0:=M0.c 0 rfl
       by_cases hlt2:j1<a
       ·obtain ⟨q0,hq0⟩:∃ q0:Nat,q0=j1*a:=⟨_,rfl⟩
        have hqb:q0+a≤n:=by
         rw [hq0,hnH.out]
         have:(j1+1)*a≤a*a:=Nat.mul_le_mul_right _ hlt2
         rwa [Nat.add_mul,Nat.one_mul] at this
        have hqi:(j1:Int)*(a:Int)=(q0:Int):=by rw [hq0];simp
        have w1a:=IntWalk.i64_in (q0:Int) (by omega)
        have w2a:=IntWalk.i64_in ((q0:Int)+(i1:Int)) (by omega)
        have l1:(q0:Int)+(i1:Int)<(n:Int):=by omega
        have l0:(0:Int)≤(q0:Int)+(i1:Int):=by omega
        have e1:((q0:Int)+(i1:Int)).toNat=q0+i1:=by omega
        obtain ⟨ay,bi,rfl,hbi,rbi,_,ybi⟩:=(g.below hb hh).at_ hlt
        obtain ⟨ay2,bj,hay,hbj,rbj,_,ybj⟩:=(g.below hb hh).at_ hlt2
        obtain rfl:ay=ay2:=by injection hay
        obtain ⟨ax,fv,rfl,hfv,rfv,_,xfv⟩:=(h.below hb hh).at_ (k:=q0+i1) (by omega)
        have hv:Hid ((conjL a xs ys)[r0+j1]? = some (minusF bj (fracF (timesF bj fv) bi))):=by
         show _=_
         rw [hr0H.out,conjL_at a xs ys hlt hlt2]
         unfold conjAt
         rw [← hq0]
         simp only [List.getD,ybi.out,ybj.out,xfv.out,Option.getD_some]
        have by1:ay.block<w.heap.size:=by
         obtain ⟨q,e,_,hq,_⟩:=g.cells (by omega)
         injection e with e;subst e;omega
        have bx1:ax.block<w.heap.size:=by
         obtain ⟨q,e,_,hq,_⟩:=h.cells (by omega)
         injection e with e;subst e;omega
        have hfar:∀ g,g<lV→∀ ad,A2=some ad→ad.block≠g:=fun g hg ad e=>by have:=(owns_lt hA ad e).1;omega
        have ob0:Value.ownBlock (.slice A2 (r0+j1) c2)≠some w.heap.size:=ownB_ne (hfar _ (by omega))
        have ob6:Value.ownBlock (.slice A2 (r0+j1) c2)≠some b6:=ownB_ne (hfar _ (by omega))
        have oby:∀ j,Value.ownBlock (.slice A2 (r0+j1) c2)≠some (ay.add j).block:=fun j=>ownB_ne (hfar _ (by rw [block_of_add];omega))
        have obx:∀ j,Value.ownBlock (.slice A2 (r0+j1) c2)≠some (ax.add j).block:=fun j=>ownB_ne (hfar _ (by rw [block_of_add];omega))
        have rt1:=r64_nm (timesF_bd bj fv)
        have rt2:=r64_nm (fracF_bd (timesF bj fv) bi)
        clear hq0 hay ybi ybj xfv
        go_wp2_with fail
        clear p0
        have hS0:wr.grownBy wr.drew (Value.ownBlock (.slice A2 (r0+j1) c2)):=grown_drew _ _
        refine wp_region_Z (fun w'=>wr.grownBy w' (Value.ownBlock (.slice A2 (r0+j1) c2))) 35 (by kernel_rfl) ?_
        refine wpAnyZ_takeW 0 (.pointer (some ⟨b6,3,none⟩)) rfl (by kernel_rfl) (by kernel_rfl) (fun _ _ _ h=>h) (by rfl) (fun _=>by go_simp) hS0 ?_
        try simp only [Act.put,sTA,sC0,sC1]
        refine wpAnyZ_takeW 1 (.pointer (some ⟨b6,4,none⟩)) rfl (by kernel_rfl) (by kernel_rfl) (fun _ _ _ h=>h) (by rfl) (fun _=>by go_simp) hS0 ?_
        try simp only [Act.put,sTA,sC0,sC1]
        refine wpAnyZ_take 2 (.slice A2 (r0+j1) c2) rfl (by kernel_rfl) (by kernel_rfl) (fun _ _ _ h=>h) (by rfl) (fun _ hS=>by have qq:=(grown_blk k6 hS ob6).c 4 rfl;clear hS;go_simp) hS0 ?_
        try simp only [Act.put,sTA,sC0,sC1]
        refine wpAnyZ_takeW 3 (.pointer (some ⟨w.heap.size,2,none⟩)) rfl (by kernel_rfl) (by kernel_rfl) (fun _ _ _ h=>h) (by rfl) (fun _=>by go_simp) hS0 ?_
        try simp only [Act.put,sTA,sC0,sC1]
        refine wpAnyZ_take 4 (.slice (some ay) a d) rfl (by kernel_rfl) (by kernel_rfl) (fun _ _ _ h=>h) (by rfl) (fun _ hS=>by have qq:=(grown_blk M0 hS ob0).c 2 rfl;clear hS;go_simp) hS0 ?_
        try simp only [Act.put,sTA,sC0,sC1]
        refine wpAnyZ_takeW 5 (.int .i64 (j1:Int)) rfl (by kernel_rfl) (by kernel_rfl) (fun _ _ _ h=>h) (by rfl) (fun _=>by go_simp) hS0 ?_
        try simp only [Act.put,sTA,sC0,sC1]
        refine wpAnyZ_takeW 6 (.pointer (some (ay.add j1))) rfl (by kernel_rfl) (by kernel_rfl) (fun _ _ _ h=>h) (by rfl) (fun _=>by go_simp) hS0 ?_
        try simp only [Act.put,sTA,sC0,sC1]
        refine wpAnyZ_take 7 (.int .i64 bj) rfl (by kernel_rfl) (by kernel_rfl) (fun _ _ _ h=>h) (by rfl) (fun _ hS=>by have qq:=grown_cell hbj hS (oby j1);clear hS;go_simp) hS0 ?_
        try simp only [Act.put,sTA,sC0,sC1]
        refine wpAnyZ_takeW 8 (.pointer (some ⟨w.heap.size,2,none⟩)) rfl (by kernel_rfl) (by kernel_rfl) (fun _ _ _ h=>h) (by rfl) (fun _=>by go_simp) hS0 ?_
        try simp only [Act.put,sTA,sC0,sC1]
        refine wpAnyZ_take 9 (.slice (some ay) a d) rfl (by kernel_rfl) (by kernel_rfl) (fun _ _ _ h=>h) (by rfl) (fun _ hS=>by have qq:=(grown_blk M0 hS ob0).c 2 rfl;clear hS;go_simp) hS0 ?_
        try simp only [Act.put,sTA,sC0,sC1]
        refine wpAnyZ_takeW 10 (.int .i64 (j1:Int)) rfl (by kernel_rfl) (by kernel_rfl) (fun _ _ _ h=>h) (by rfl) (fun _=>by go_simp) hS0 ?_
        try simp only [Act.put,sTA,sC0,sC1]
        refine wpAnyZ_takeW 11 (.pointer (some (ay.add j1))) rfl (by kernel_rfl) (by kernel_rfl) (fun _ _ _ h=>h) (by rfl) (fun _=>by go_simp) hS0 ?_
        try simp only [Act.put,sTA,sC0,sC1]
        refine wpAnyZ_take 12 (.int .i64 bj) rfl (by kernel_rfl) (by kernel_rfl) (fun _ _ _ h=>h) (by rfl) (fun _ hS=>by have qq:=grown_cell hbj hS (oby j1);clear hS;go_simp) hS0 ?_
        try simp only [Act.put,sTA,sC0,sC1]
        refine wpAnyZ_takeW 13 (.pointer (some ⟨w.heap.size,1,none⟩)) rfl (by kernel_rfl) (by kernel_rfl) (fun _ _ _ h=>h) (by rfl) (fun _=>by go_simp) hS0 ?_
        try simp only [Act.put,sTA,sC0,sC1]
        refine wpAnyZ_take 14 (.slice (some ax) n c) rfl (by kernel_rfl) (by kernel_rfl) (fun _ _ _ h=>h) (by rfl) (fun _ hS=>by have qq:=(grown_blk M0 hS ob0).c 1 rfl;clear hS;go_simp) hS0 ?_
        try simp only [Act.put,sTA,sC0,sC1]
        refine wpAnyZ_takeW 15 (.int .i64 (j1:Int)) rfl (by kernel_rfl) (by kernel_rfl) (fun _ _ _ h=>h) (by rfl) (fun _=>by go_simp) hS0 ?_
        try simp only [Act.put,sTA,sC0,sC1]
        refine wpAnyZ_takeW 16 (.pointer (some ⟨w.heap.size,0,none⟩)) rfl (by kernel_rfl) (by kernel_rfl) (fun _ _ _ h=>h) (by rfl) (fun _=>by go_simp) hS0 ?_
        try simp only [Act.put,sTA,sC0,sC1]
        refine wpAnyZ_take 17 (.int .i64 (a:Int)) rfl (by kernel_rfl) (by kernel_rfl) (fun _ _ _ h=>h) (by rfl) (fun _ hS=>by have qq:=(grown_blk M0 hS ob0).c 0 rfl;clear hS;go_simp) hS0 ?_
        try simp only [Act.put,sTA,sC0,sC1]
        refine wpAnyZ_takeW 18 (.int .i64 (q0:Int)) rfl (by kernel_rfl) (by kernel_rfl) (fun _ _ _ h=>h) (by rfl) (fun _=>by go_simp) hS0 ?_
        try simp only [Act.put,sTA,sC0,sC1]
        refine wpAnyZ_takeW 19 (.int .i64 (i1:Int)) rfl (by kernel_rfl) (by kernel_rfl) (fun _ _ _ h=>h) (by rfl) (fun _=>by go_simp) hS0 ?_
        try simp only [Act.put,sTA,sC0,sC1]
        refine wpAnyZ_takeW 20 (.int .i64 ((q0:Int)+(i1:Int))) rfl (by kernel_rfl) (by kernel_rfl) (fun _ _ _ h=>h) (by rfl) (fun _=>by go_simp) hS0 ?_
        try simp only [Act.put,sTA,sC0,sC1]
        refine wpAnyZ_takeW 21 (.pointer (some (ax.add (q0+i1)))) rfl (by kernel_rfl) (by kernel_rfl) (fun _ _ _ h=>h) (by rfl) (fun _=>by go_simp) hS0 ?_
        try simp only [Act.put,sTA,sC0,sC1]
        refine wpAnyZ_take 22 (.int .i64 fv) rfl (by kernel_rfl) (by kernel_rfl) (fun _ _ _ h=>h) (by rfl) (fun _ hS=>by have qq:=grown_cell hfv hS (obx (q0+i1));clear hS;go_simp) hS0 ?_
        try simp only [Act.put,sTA,sC0,sC1]
        refine wpAnyZ_takeW 24 (.pointer (some ⟨w.heap.size,2,none⟩)) rfl (by kernel_rfl) (by kernel_rfl) (fun _ _ _ h=>h) (by rfl) (fun _=>by go_simp) hS0 ?_
        try simp only [Act.put,sTA,sC0,sC1]
        refine wpAnyZ_take 25 (.slice (some ay) a d) rfl (by kernel_rfl) (by kernel_rfl) (fun _ _ _ h=>h) (by rfl) (fun _ hS=>by have qq:=(grown_blk M0 hS ob0).c 2 rfl;clear hS;go_simp) hS0 ?_
        try simp only [Act.put,sTA,sC0,sC1]
        refine wpAnyZ_takeW 26 (.int .i64 (i1:Int)) rfl (by kernel_rfl) (by kernel_rfl) (fun _ _ _ h=>h) (by rfl) (fun _=>by go_simp) hS0 ?_
        try simp only [Act.put,sTA,sC0,sC1]
        refine wpAnyZ_takeW 27 (.pointer (some (ay.add i1))) rfl (by kernel_rfl) (by kernel_rfl) (fun _ _ _ h=>h) (by rfl) (fun _=>by go_simp) hS0 ?_
        try simp only [Act.put,sTA,sC0,sC1]
        refine wpAnyZ_take 28 (.int .i64 bi) rfl (by kernel_rfl) (by kernel_rfl) (fun _ _ _ h=>h) (by rfl) (fun _ hS=>by have qq:=grown_cell hbi hS (oby i1);clear hS;go_simp) hS0 ?_
        try simp only [Act.put,sTA,sC0,sC1]
        refine wpAnyZ_one 23 (by kernel_rfl) rfl (by rfl) (fun K hK=>?_)
        go_simp
        refine (spec_Times bj fv wr.drew rbj rfv).mono ?_
        rintro e xw ⟨rfl,rfl⟩
        go_wp2_with fail
        refine hK.out _ _ hS0 ?_
        clear hK K
        try simp only [Act.put,sTA,sC0,sC1]
        refine wpAnyZ_one 29 (by kernel_rfl) rfl (by rfl) (fun K hK=>?_)
        go_simp
        refine (spec_Fraction (timesF bj fv) bi wr.drew rt1 rbi).mono ?_
        rintro e xw ⟨rfl,rfl⟩
        go_wp2_with fail
        refine hK.out _ _ hS0 ?_
        clear hK K
        try simp only [Act.put,sTA,sC0,sC1]
        refine wpAnyZ_one 30 (by kernel_rfl) rfl (by rfl) (fun K hK=>?_)
        go_simp
        refine (spec_Minus bj (fracF (timesF bj fv) bi) wr.drew rbj rt2).mono ?_
        rintro e xw ⟨rfl,rfl⟩
        go_wp2_with fail
        refine hK.out _ _ hS0 ?_
        clear hK K
        try simp only [Act.put,sTA,sC0,sC1]
        refine wpAnyZ_one 31 (by kernel_rfl) rfl (by rfl) (fun K hK=>?_)
        go_simp
        have hS1:wr.grownBy ((wr.alloc (.cells #[.int .i64 (minusF bj (fracF (timesF bj fv) bi))] 3)).drew) (Value.ownBlock (.slice A2 (r0+j1) c2)):=(grown_drew wr _).trans (World.grownBy_alloc wr.drew _ _)
        refine hK.out _ _ hS1 ?_
        clear hK K
        try simp only [Act.put,sTA,sC0,sC1]
        refine wpAnyZ_one 32 (by kernel_rfl) rfl (by rfl) (fun K hK=>?_)
        have hAd:=owns_same hA (w':=wr.drew) (fun _ _=>rfl)
        refine step_app1I (.tmp 56) (.tmp 85) rfl wr.drew lV A2 (r0+j1) c2 1 _ (minusF bj (fracF (timesF bj fv) bi)) rfl rfl hAd (by omega) hz4 ?_
        intro A4 c4 w4 happ
        have hS2:wr.grownBy w4 (Value.ownBlock (.slice A2 (r0+j1) c2)):=(grown_drew wr _).trans happ.2.1
        refine hK.out _ _ hS2 ?_
        clear hK K
        try simp only [Act.put,sTA,sC0,sC1]
        refine wpAnyZ_takeW 33 (.pointer (some ⟨b6,3,none⟩)) rfl (by kernel_rfl) (by kernel_rfl) (fun _ _ _ h=>h) (by rfl) (fun _=>by go_simp) hS2 ?_
        try simp only [Act.put,sTA,sC0,sC1]
        refine wpAnyZ_takeW 34 (.pointer (some ⟨b6,4,none⟩)) rfl (by kernel_rfl) (by kernel_rfl) (fun _ _ _ h=>h) (by rfl) (fun _=>by go_simp) hS2 ?_
        try simp only [Act.put,sTA,sC0,sC1]
        have u6:=grown_blk k6 hS2 ob6
        have u0:=grown_blk M0 hS2 ob0
        have u1:=grown_blk M1 hS2 (ownB_ne (hfar _ (by omega)))
        have hneA:∀ g,g<lV→∀ ad,A4=some ad→ad.block≠g:=fun g hg=>app_ne happ (show g<wr.heap.size by omega) (hfar g hg)
        have oA4:=(oA.kept_ hS2 (fun ad e=>ownB_ne (hfar _ (oA.lt ad e)))).setCell_ (p:=⟨b6,4,none⟩) n1 (.slice A4 (r0+j1+1) c4)
        have oB4:=(oB.kept_ hS2 (fun ad e=>ownB_ne (hfar _ (oB.lt ad e)))).setCell_ (p:=⟨b6,4,none⟩) n2 (.slice A4 (r0+j1+1) c4)
        have oP4:=(oP.kept_ hS2 (fun ad e=>ownB_ne (hfar _ (oP.lt ad e)))).setCell_ (p:=⟨b6,4,none⟩) n3 (.slice A4 (r0+j1+1) c4)
        have hbn:=hb.grown hS2 hb.size (own_geL hA (show w.heap.size≤lV by omega))
        have v6:=u6.set 4 (.slice A4 (r0+j1+1) c4)
        simp only [sTA,sC0,sC1] at v6
        have v0:=u0.far (b:=b6) (i:=4) (by omega) (.slice A4 (r0+j1+1) c4)
        have v1:=u1.far (b:=b6) (i:=4) (by omega) (.slice A4 (r0+j1+1) c4)
        have hA4:=owns_setCell happ.1 (p:=⟨b6,4,none⟩) (hneA b6 (by omega)) (.slice A4 (r0+j1+1) c4)
        have hb4:=hbn.setCell (p:=⟨b6,4,none⟩) (by show w.heap.size≤b6;omega) (.slice A4 (r0+j1+1) c4)
        have hz5:Hid (lV≤(w4.setCell ⟨b6,4,none⟩ (.slice A4 (r0+j1+1) c4)).heap.size):=by show _≤_;have:=hS2.size;simp [World.setCell];omega
        have HS:=hide (And.intro v0 (And.intro v1 (And.intro v6 (And.intro hA4 (And.intro oA4 (And.intro oB4 (And.intro oP4 (And.intro hb4 hz5))))))))
        have r1:=u6.c 4 rfl
        have r2:=u6.f 4
        have r3:=u6.lt
        clear u0 u1 v0 v1 v6 hA4 oA4 oB4 oP4 hb4 hz5 hbn hneA happ hAd hA oA oB oP hb M0 M1 k6 hS0 hS1 hS2
        refine wpAnyZ_last (by kernel_rfl) rfl (by kernel_rfl) (by rfl) (fun K hK=>?_)
        go_simp
        refine hK _ _ ?_
        clear hK K u6 r1 r2 r3
        go_wp2_with fail
        go_roundw
        case rel=>exact ⟨j1+1,A4,c4,by omega,by go_num,HS.out.1,HS.out.2.1,HS.out.2.2.1,by rw [show r0+(j1+1)=r0+j1+1 by omega,take_snocI hv.out];exact HS.out.2.2.2.1,HS.out.2.2.2.2.1,HS.out.2.2.2.2.2.1,HS.out.2.2.2.2.2.2.1,HS.out.2.2.2.2.2.2.2.1,HS.out.2.2.2.2.2.2.2.2⟩
        case measure=>simp [intOf];omega
       ·have e9:Hid ((i1+1)*a=r0+j1):=by show _=_;rw [Nat.add_mul,Nat.one_mul,hr0H.out];omega
        go_wp2_with fail
        go_roundw
        case rel=>exact ⟨i1+1,A2,c2,by omega,by go_num,M0,M1,by rw [e9.out];exact k6,by rw [e9.out];exact hA,oA,oB,oP,hb,hzr⟩
        case measure=>simp [intOf];omega
     ·obtain rfl:i1=a:=by omega
      rw [← hnH.out] at k6 hA
      have hF:Hid (wr.ownsRow lV 3 1 (.slice A2 n c2) n ((conjL i1 xs ys).map (Value.int .i64))∧OwnI wr l10 lV A1 n c1 xs∧OwnI wr l10 lV B1 i1 d1 ys∧OwnI wr l10 lV A3 i1 c3 ys∧Below w.heap.size w wr):=by
       rw [List.take_of_length_le (by rw [cL.out,hnH.out];exact lR _)] at hA
       exact ⟨hA,oA,oB,oP,hb⟩
      have q0:=k6.c 0 rfl
      have q1:=k6.c 1 rfl
      have q2:=k6.c 2 rfl
      have q3:=k6.c 3 rfl
      have q4:=k6.c 4 rfl
      have q5:=k6.c 5 rfl
      have g0:=M1.c 0 rfl
      have g1:=M1.c 1 rfl
      have g2:=M1.c 2 rfl
      have g3:=M1.c 3 rfl
      have g4:=M1.c 4 rfl
      have g5:=M1.c 5 rfl
      have f0:=M1.f 0
      have f1:=M1.f 1
      have f2:=M1.f 2
      have f3:=M1.f 3
      have f4:=M1.f 4
      have f5:=M1.f 5
      have lt1:=M1.lt
      clear hA oA oB oP hb
      go_wp2_with fail
      refine bodyPost_ret (v := .tuple #[.agg #[.int .i64 (i1:Int),.slice A1 n c1,.slice B1 i1 d1,.int .i64 (i1:Int),.slice A2 n c2,.slice A3 i1 c3],.bool true]) (by simp [results,Tryz.results7,go_sem,g0,g1,g2,g3,g4,g5,lt1]) rfl
       ⟨A1,c1,B1,d1,A2,c2,A3,c3,rfl,?_,?_,?_,?_,store6_below hF.out.2.2.2.2 (by omega)⟩
      ·exact ((hF.out.2.1.store6 (fun ad e=>by have:=(owns_lt hF.out.2.1.own ad e).1;omega) _ _ _ _ _ _).wide (by omega) (by rw [store6_size];omega))
      ·exact ((hF.out.2.2.1.store6 (fun ad e=>by have:=(owns_lt hF.out.2.2.1.own ad e).1;omega) _ _ _ _ _ _).wide (by omega) (by rw [store6_size];omega))
      ·refine ⟨owns_low (owns_same hF.out.1 (fun ad e=>store6_far (by have:=(owns_lt hF.out.1 ad e).1;omega))) (by omega),fun ad e=>by rw [store6_size];exact (owns_lt hF.out.1 ad e).2,nums_r (conjL_num _ _ _)⟩
      ·exact ((hF.out.2.2.2.1.store6 (fun ad e=>by have:=(owns_lt hF.out.2.2.2.1.own ad e).1;omega) _ _ _ _ _ _).wide (by omega) (by rw [store6_size];omega))
end Go.Proofs.YtomgcbfcnjbofaaGreat
