/- Conjugate pairs: the walk of the program's text. -/
import Derived.Test.YtomgcbfcnjbofaaGreatMgE
import Derived.Test.YtomgcbfcnjbofaaGreatMgC
import Derived.Laws.CopyOwn
namespace Go.Proofs.YtomgcbfcnjbofaaGreat
open Go.RowKit
open List renaming setIfInBounds_toArray → sTA, set_cons_zero → sC0, set_cons_succ → sC1
set_option linter.unusedSimpArgs false
set_option linter.unusedVariables false
set_option maxRecDepth 20000
theorem wpl_copyI {ops:Array Oper} {rest:List Oper} {o:Oper} {a:Act} {Q:Exit→Act→World→Prop} (hgd:o.guard=none) (d s:Operand)
  (ho:o.op = .call { callee := .builtin .copy,args := #[d,s],argTypes := #[24,24] }) (w:World) (g k c0:Nat) (A:Option Addr) (c:Nat) (ys zs:List Int) (lo hi:Nat)
  (hd:a.eval d = .slice (some ⟨g,0,none⟩) k c0) (hs:a.eval s = .slice A k c) (hown:OwnI w g (g+1) (some ⟨g,0,none⟩) k c0 zs) (hin:Ints w lo hi A k c ys)
  (h:∀ w',OwnI w' g (g+1) (some ⟨g,0,none⟩) k c0 ys→Touch g (g+1) w w'→w'.heap.size=w.heap.size→wpList Tryz.prog ops Q rest (a.put o.dst (.int .i64 (k:Int))) w'):wpList Tryz.prog ops Q (o :: rest) a w:=by
 obtain ⟨i0,hi0,hz0,hz1,hz2⟩:=info_parts info_int
 by_cases h0:k=0
 ·subst h0
  have e1:zs=[]:=List.eq_nil_of_length_eq_zero hown.len
  have e2:ys=[]:=List.eq_nil_of_length_eq_zero hin.len
  subst e1 e2
  refine wpList_copy_nothing hgd d s 24 24 ho 3 Tryz.underlying24 (by rw [hi0];simp [hz1]) _ _ 0 c0 0 c hd hs (by simp) ?_
  exact h w hown (.refl _ _ _) rfl
 ·obtain ⟨ad,rfl,_,_,hc⟩:=hin.cells (by omega)
  rcases hown.own.2 with ⟨e,_⟩ | ⟨g',cap,cur,e,h1,h2,h3,h4,h5,h6⟩
  ·cases e
  ·injection e with e1 e2 e3
   injection e1 with e1
   injection e1 with e1
   subst e1 e3
   have hl:=hin.len
   refine wpList_copy_own hgd d s 24 24 ho 3 Tryz.underlying24 (by rw [hi0];simp [hz1]) g 0 k c0 ad k c hd hs cur 3 h2 (ys.map (Value.int .i64)) (by simp [hl]) ?_ (by simp [hl];omega) ?_ ?_
   ·intro j v hv
    rw [List.getElem?_map] at hv
    cases hy:ys[j]? with
    | none=>rw [hy] at hv;cases hv
    | some y =>
     rw [hy] at hv
     simp at hv
     subst hv
     exact hc j y hy
   ·intro v hv
    simp only [List.mem_map] at hv
    obtain ⟨y,_,rfl⟩:=hv
    rfl
   ·have:=h (w.setRow g ((cur.toList.take 0++(ys.map (Value.int .i64)++cur.toList.drop (0+(ys.map (Value.int .i64)).length))).toArray)) ⟨⟨by simp [hl],.inr ⟨g,c0,_,rfl,h1,setRow_heap w g _ _ _ _ h2,h3,h4,by simp [hl,h5];omega,by simp [hl]⟩⟩,fun ad e=>by injection e with e;subst e;exact Nat.lt_succ_self _,hin.rng⟩
     ⟨rfl,rfl,rfl,by simp,fun b _ hb=>setRow_other w g b _ (by omega)⟩ (by simp)
    simpa [goInt,hl] using this
def conjAt (k:Nat) (xs ys:List Int) (i j:Nat):Int:=minusF (ys.getD j 0) (fracF (timesF (ys.getD j 0) (xs.getD (j*k+i) 0)) (ys.getD i 0))
def conjL (k:Nat) (xs ys:List Int):List Int:=(List.range (k*k)).map fun p=>conjAt k xs ys (p / k) (p % k)
theorem conjL_len (k:Nat) (xs ys:List Int):(conjL k xs ys).length=k*k:=by simp [conjL]
theorem conjL_at (k:Nat) (xs ys:List Int) {i j:Nat} (hi:i<k) (hj:j<k):(conjL k xs ys)[i*k+j]? = some (conjAt k xs ys i j):=by
 have h1:(i*k+j) / k=i:=by
  rw [Nat.mul_comm,Nat.mul_add_div (by omega),Nat.div_eq_of_lt hj];simp
 have h2:(i*k+j) % k=j:=by
  rw [Nat.mul_comm,Nat.mul_add_mod,Nat.mod_eq_of_lt hj]
 simp [conjL,idx_lt hi hj,h1,h2]
theorem conjL_num (k:Nat) (xs ys:List Int):∀ x∈conjL k xs ys,0≤x∧x<1000000271:=by
 intro x hx
 simp only [conjL,List.mem_map] at hx
 obtain ⟨p,_,rfl⟩:=hx
 exact minusF_bd _ _
def conjOkF (s:Int) (xs ys:List Int):Bool:=tabOkF s xs ys && !decide ((0:Int)∈ys)
theorem num_at {xs:List Int} (h:allNumF xs=true) {x:Int} (hx:x∈xs):0≤x∧x<1000000271:=by
 exact allNumF_mem h x hx
theorem times_one_map {xs:List Int} (h:allNumF xs=true):xs.map (fun x=>timesF x 1)=xs:=by
 conv=>rhs;rw [← List.map_id xs]
 refine List.map_congr_left fun x hx=>?_
 have:=num_at h hx
 rw [timesF_one]
 unfold resF
 exact Int.emod_eq_of_lt this.1 this.2
def Conj8 (b:Nat) (v0 v1 v2:Value) (b2:Nat) (u0 u1 u2:Value) (p q:Addr) (x y:Int) (w:World):Prop:=BlkN w b #[v0,v1,v2]∧BlkN w b2 #[u0,u1,u2]∧w.cell? p=some (.int .i64 x)∧w.cell? q=some (.int .i64 y)
theorem Conj8.below {b:Nat} {v0 v1 v2:Value} {b2:Nat} {u0 u1 u2:Value} {p q:Addr} {x y:Int} {w w':World} (h:Conj8 b v0 v1 v2 b2 u0 u1 u2 p q x y w) (hb:Below w.heap.size w w'):Conj8 b v0 v1 v2 b2 u0 u1 u2 p q x y w' :=
 ⟨h.1.below hb,h.2.1.below hb,(hb.cell (World.block_lt_of_cell? w _ h.2.2.1)).trans h.2.2.1,(hb.cell (World.block_lt_of_cell? w _ h.2.2.2)).trans h.2.2.2⟩
def Two3 (b:Nat) (v0 v1 v2:Value) (b2:Nat) (u0 u1 u2:Value) (w:World):Prop:=BlkN w b #[v0,v1,v2]∧BlkN w b2 #[u0,u1,u2]
theorem Two3.below {b:Nat} {v0 v1 v2:Value} {b2:Nat} {u0 u1 u2:Value} {w w':World} (h:Two3 b v0 v1 v2 b2 u0 u1 u2 w) (hb:Below w.heap.size w w'):Two3 b v0 v1 v2 b2 u0 u1 u2 w':=⟨h.1.below hb,h.2.below hb⟩
theorem fill_stepT {w3 wr:World} {g lo n c2 j:Nat} {vs zs:List Int} {v:Int} (hown:wr.ownsRow lo 3 1 (.slice (some ⟨g,0,none⟩) n c2) n (vs.map (Value.int .i64))) (ht:Touch g (g+1) w3 wr)
  (hys:vs.length=n∧vs.take j=zs.take j) (hv:zs[j]? = some v) (hj:j<n) :
  wr.cell? ⟨g,j,none⟩=some (.int .i64 (vs.getD j 0))∧wr.frozen? ⟨g,j,none⟩=false ∧
  Hid ((wr.setCell ⟨g,j,none⟩ (.int .i64 v)).ownsRow lo 3 1 (.slice (some ⟨g,0,none⟩) n c2) n ((vs.set j v).map (Value.int .i64))∧Touch g (g+1) w3 (wr.setCell ⟨g,j,none⟩ (.int .i64 v))∧Hid ((vs.set j v).length=n∧(vs.set j v).take (j+1)=zs.take (j+1))):=by
 have hst:=hown.stored j (.int .i64 v)
 refine ⟨?_,hown.frozenAt j,by simpa [List.map_set] using hst.1,ht.setCell (.inl ⟨Nat.le_refl _,by simp⟩) _,by simpa using hys.1,?_⟩
 ·rw [hown.cellAt j (by omega)]
  simp [List.getD,show j<vs.length by omega]
 ·rw [List.take_add_one,List.take_add_one,List.take_set_of_le (Nat.le_refl _),hys.2,List.getElem?_set_self (by omega),hv]
set_option maxRecDepth 100000 in
set_option maxHeartbeats 4000000 in
theorem impl_Conj_ok (k:Nat) (A:Option Addr) (n c:Nat) (xs:List Int) (B:Option Addr) (d:Nat) (ys:List Int) (lo hi:Nat) (w:World) (h:Ints w lo hi A n c xs) (g:Ints w lo hi B k d ys) (hh:hi≤w.heap.size) (hk:k≤8) (hn:n=k*k) (t1:tabOkF k xs ys=true) (hz:¬ (0:Int)∈ys) :
  Calls Tryz.prog 6 #[.agg #[.int .i64 (k:Int),.slice A n c,.slice B k d]] w fun e w'=>∃ gA gB gC gD,e = .returned (.tuple #[.agg #[.int .i64 (k:Int),.slice (some ⟨gA,0,none⟩) (k*k) (k*k),.slice (some ⟨gB,0,none⟩) k k,.int .i64 (k:Int),.slice (some ⟨gC,0,none⟩) (k*k) (k*k),.slice (some ⟨gD,0,none⟩) k k],.bool true]) ∧
   (gA≠gB∧gA≠gC∧gA≠gD∧gB≠gC∧gB≠gD∧gC≠gD)∧(w.heap.size≤gA∧w.heap.size≤gB∧w.heap.size≤gC∧w.heap.size≤gD∧gA<w'.heap.size∧gB<w'.heap.size∧gC<w'.heap.size∧gD<w'.heap.size) ∧
   OwnI w' gA (gA+1) (some ⟨gA,0,none⟩) (k*k) (k*k) xs∧OwnI w' gB (gB+1) (some ⟨gB,0,none⟩) k k ys∧OwnI w' gC (gC+1) (some ⟨gC,0,none⟩) (k*k) (k*k) (conjL k xs ys)∧OwnI w' gD (gD+1) (some ⟨gD,0,none⟩) k k ys∧Below w.heap.size w w':=by
 have hcp:=h.cap
 have hmx:=h.max
 have gcp:=g.cap
 have gmx:=g.max
 have h64:n≤64:=by rw [hn];exact Nat.mul_le_mul hk hk
 have hnx:allNumF xs=true:=by
  unfold tabOkF at t1;simp only [Bool.and_eq_true] at t1;exact t1.2.2.2.1
 have hny:allNumF ys=true:=by
  unfold tabOkF at t1;simp only [Bool.and_eq_true] at t1;exact t1.2.2.2.2
 have EX:=hide (times_one_map hnx)
 have EY:=hide (times_one_map hny)
 clear hnx hny
 have TT:=hide t1
 have hzd:decide ((0:Int)∈ys)=false:=by simpa using hz
 have ZZ:=hide hzd
 clear t1 hz hzd
 subst hn
 have a1:=below_alloc w (.cells #[.int .i64 (k:Int),.slice A (k*k) c,.slice B k d] 26)
 have j1:=BlkN.new w #[.int .i64 (k:Int),.slice A (k*k) c,.slice B k d] 26
 have a2:=below_alloc (w.alloc (.cells #[.int .i64 (k:Int),.slice A (k*k) c,.slice B k d] 26)) (.cells #[.int .i64 0,.slice none 0 0,.slice none 0 0,.int .i64 0,.slice none 0 0,.slice none 0 0] 30)
 have j1b:=j1.below a2
 have j2:=BlkN.new (w.alloc (.cells #[.int .i64 (k:Int),.slice A (k*k) c,.slice B k d] 26)) #[.int .i64 0,.slice none 0 0,.slice none 0 0,.int .i64 0,.slice none 0 0,.slice none 0 0] 30
 have c0:=a1.trans (a2.mono a1.size)
 simp only [World.size_alloc] at j2
 have z0:=c0.size
 clear a1 a2 j1
 obtain ⟨q,hq⟩:∃ q:Nat,q=k*k:=⟨_,rfl⟩
 have hqH:=hide hq
 have hzl:Hid ((conjL k xs ys).length=q):=(conjL_len k xs ys).trans hq.symm
 rw [← hq] at h j1b j2 c0 z0 hcp h64 ⊢
 clear hq
 go_enter Tryz.func6,Tryz.ntmps6
 go_wp2_with fail
 have h1:=h.below c0 hh
 have g1:=g.below c0 hh
 generalize (w.alloc (.cells #[.int .i64 (k:Int),.slice A q c,.slice B k d] 26)).alloc (.cells #[.int .i64 0,.slice none 0 0,.slice none 0 0,.int .i64 0,.slice none 0 0,.slice none 0 0] 30)=W at c0 j1b j2 z0 h1 g1 ⊢
 refine (impl_TableauOk k A q c xs B k d ys lo hi W h1 g1 (by omega)).mono ?_
 rintro e w1 ⟨rfl,b1⟩
 rw [TT.out]
 have k1:=j1b.below b1
 have k2:=j2.below b1
 have B1:=c0.trans (b1.mono z0)
 have z1:=B1.size
 have q2:=k2.lt
 clear j1b j2 c0 h1 g1 b1
 have p2:=k1.c 2 rfl
 go_wp2_with fail
 clear p2
 refine (slices_Contains B k d ys 0 lo hi w1 (g.below B1 hh) (by omega)).mono ?_
 rintro e w1' ⟨rfl,rfl⟩
 rw [ZZ.out]
 have hE:=impl_empty k hk w1
 rw [← hqH.out] at hE
 have p0:=k1.c 0 rfl
 go_wp2_with fail
 clear p0
 refine hE.mono ?_
 rintro e w2 ⟨gA,gB,rfl,hne,la,lb,ua,ub,oA,oB,b2⟩
 clear hE
 have z2:=b2.size
 have a3:=below_alloc w2 (.cells #[.int .i64 (k:Int),.slice (some ⟨gA,0,none⟩) q q,.slice (some ⟨gB,0,none⟩) k k] 26)
 have j5:=BlkN.new w2 #[.int .i64 (k:Int),.slice (some ⟨gA,0,none⟩) q q,.slice (some ⟨gB,0,none⟩) k k] 26
 have l1:=(k1.below b2).below a3
 have l2:=(k2.below b2).below a3
 have pA:=oA.below a3 (by omega)
 have pB:=oB.below a3 (by omega)
 have B3:=(B1.trans (b2.mono z1)).trans (a3.mono (by omega))
 have q5:=j5.lt
 clear k1 k2 oA oB B1
 have p2:=l1.c 2 rfl
 have p5:=j5.c 2 rfl
 have h3:=h.below B3 hh
 have g3:=g.below B3 hh
 have z3:=B3.size
 have sz3:=a3.size
 go_wp2_with (with_reducible refine wpl_copyI rfl _ _ rfl _ gB k k B d ys _ lo hi rfl rfl pB g3 ?_;intro wc ocB tc szc;have p2c:=(l1.touch tc (by omega)).c 2 rfl)
 generalize World.alloc w2 (.cells #[.int .i64 (k:Int),.slice (some ⟨gA,0,none⟩) q q,.slice (some ⟨gB,0,none⟩) k k] 26)=w3 at a3 j5 l1 l2 pA pB B3 q5 h3 g3 z3 sz3 tc szc
 clear a3 p2 p5 p2c
 have m1:=l1.touch tc (by omega)
 have m2:=l2.touch tc (by omega)
 have m5:=j5.touch tc (by omega)
 have mA:=pA.same (tc.same (by omega) (by omega))
 have h4:=h3.same (tc.same (.inl (by omega)) (by omega))
 have g4:=g3.same (tc.same (.inl (by omega)) (by omega))
 have B4:=B3.trans (tc.below (B:=w.heap.size) (by omega) z3)
 have z4:=B4.size
 clear l1 l2 j5 pA pB h3 g3 B3 tc
 go_loopw [5,6,27,33] (fun _ _ i _ wr=>∃ (a:Nat) (vs:List Int),a≤k∧i = .int .i64 a∧Touch gA (gA+1) wc wr∧wr.ownsRow gA 3 1 (.slice (some ⟨gA,0,none⟩) q q) q (vs.map (Value.int .i64))∧Hid (vs.length=q∧vs.take (a*k)=(conjL k xs ys).take (a*k)))
  (fun _ _ i _ _=>k - (intOf i).toNat)
 case atStart=>exact ⟨0,_,by omega,rfl,.refl _ _ _,mA.own,mA.len,by simp⟩
 case round =>
  clear mA
  obtain ⟨a,vs,ha,rfl,ht,hown,hys⟩:=hrel
  have zr:=ht.size
  by_cases hlt:a<k
  ·have n1:=m1.touch ht (by omega)
   have p2:=n1.c 2 rfl
   obtain ⟨p0,hp0⟩:∃ p0:Nat,p0=a*k:=⟨_,rfl⟩
   have hp0H:=hide hp0
   have hpb:p0+k≤q:=by
    rw [hp0,hqH.out]
    have:(a+1)*k≤k*k:=Nat.mul_le_mul_right _ hlt
    rwa [Nat.add_mul,Nat.one_mul] at this
   have hys0:Hid (vs.length=q∧vs.take p0=(conjL k xs ys).take p0):=by
    show _∧_
    rw [hp0];exact hys.out
   clear hp0 hys n1
   go_wp2_with fail
   clear p2
   go_loopw [6,33] (fun _ j wr=>∃ (b:Nat) (vs:List Int),b≤k∧j = .int .i64 b∧Touch gA (gA+1) wc wr∧wr.ownsRow gA 3 1 (.slice (some ⟨gA,0,none⟩) q q) q (vs.map (Value.int .i64))∧Hid (vs.length=q∧vs.take (p0+b)=(conjL k xs ys).take (p0+b)))
    (fun _ j _=>k - (intOf j).toNat)
   case atStart=>exact ⟨0,vs,by omega,rfl,ht,hown,hys0⟩
   case round =>
    clear ht hown hys0 zr
    obtain ⟨b,vs,hb,rfl,ht,hown,hys⟩:=hrel
    have zr:=ht.size
    by_cases hlt2:b<k
    ·have n1:=m1.touch ht (by omega)
     have n5:=m5.touch ht (by omega)
     have gI:=g4.same (ht.same (.inl (by omega)) (by omega))
     have hI:=h4.same (ht.same (.inl (by omega)) (by omega))
     obtain ⟨ad,eB,_,hadb,_⟩:=gI.cells (by omega)
     subst eB
     have hca:=gI.cellD hlt
     have hcb:=gI.cellD hlt2
     obtain ⟨bi,hbi⟩:∃ x,ys.getD a 0=x:=⟨_,rfl⟩
     obtain ⟨bj,hbj⟩:∃ x,ys.getD b 0=x:=⟨_,rfl⟩
     obtain ⟨fv,hfv⟩:∃ x,xs.getD (b*k+a) 0=x:=⟨_,rfl⟩
     have hEq:Hid ((conjL k xs ys)[p0+b]? = some (minusF bj (fracF (timesF bj fv) bi))):=by
      show _=_
      rw [hp0H.out,conjL_at k xs ys hlt hlt2]
      unfold conjAt
      rw [hbi,hbj,hfv]
     have rbi:R64 bi:=by rw [← hbi];exact r64_getD g.rng _
     have rbj:R64 bj:=by rw [← hbj];exact r64_getD g.rng _
     have rfv:R64 fv:=by rw [← hfv];exact r64_getD h.rng _
     have rt1:=r64_nm (timesF_bd bj fv)
     have rt2:=r64_nm (fracF_bd (timesF bj fv) bi)
     rw [hbi] at hca
     rw [hbj] at hcb
     have cRow:∀ w',Calls Tryz.prog 26 #[.agg #[.int .i64 (k:Int),.slice (some ⟨gA,0,none⟩) q q,.slice (some ⟨gB,0,none⟩) k k],.int .i64 (a:Int)] w' fun e w''=>e = .returned (.slice (some ⟨gA,p0,none⟩) k (q - p0))∧Below w'.heap.size w' w'':=fun w'=>by
      rw [hp0H.out];exact impl_row k gA q q (some ⟨gB,0,none⟩) k k a w' hk hqH.out hlt (Nat.le_refl _) (by omega)
     have cA:∀ w',Below wr.heap.size wr w'→Calls Tryz.prog 25 #[.agg #[.int .i64 (k:Int),.slice A q c,.slice (some ad) k d],.int .i64 (b:Int),.int .i64 (a:Int)] w' fun e w''=>e = .returned (.int .i64 fv)∧Below w'.heap.size w' w'':=fun w' hw=>by
      rw [← hfv];exact impl_a k A q c xs (some ad) k d b a lo hi w' (hI.below hw (by omega)) (by have:=hw.size;omega) hk hqH.out hlt2 hlt
     have d2:Below wr.heap.size wr wr.drew:=(Below.refl _ _).drew
     have dz:=d2.size
     have hS:Conj8 w.heap.size (.int .i64 (k:Int)) (.slice A q c) (.slice (some ad) k d) w2.heap.size (.int .i64 (k:Int)) (.slice (some ⟨gA,0,none⟩) q q) (.slice (some ⟨gB,0,none⟩) k k) (ad.add a) (ad.add b) bi bj wr:=⟨n1,n5,hca,hcb⟩
     have hS0:=hS.below d2
     have hlast:=hide (And.intro hown (And.intro ht hys))
     clear hbi hbj hfv gI hI n1 n5 hca hcb hS hown hys ht
     go_wp2_with fail
     refine wp_region_Z (Conj8 w.heap.size (.int .i64 (k:Int)) (.slice A q c) (.slice (some ad) k d) w2.heap.size (.int .i64 (k:Int)) (.slice (some ⟨gA,0,none⟩) q q) (.slice (some ⟨gB,0,none⟩) k k) (ad.add a) (ad.add b) bi bj) 27 (by kernel_rfl) ?_
     refine wpAnyZ_take 0 (.agg #[.int .i64 (k:Int),.slice (some ⟨gA,0,none⟩) q q,.slice (some ⟨gB,0,none⟩) k k]) rfl (by kernel_rfl) (by kernel_rfl) (fun _ _ _ h=>h) (by rfl) (fun _ hS=>by obtain ⟨h1,h2,h3,h4⟩:=hS;have s0:=h1.c 0 rfl;have s1:=h1.c 1 rfl;have s2:=h1.c 2 rfl;have u0:=h2.c 0 rfl;have u1:=h2.c 1 rfl;have u2:=h2.c 2 rfl;clear h1 h2;go_simp) hS0 ?_
     try simp only [Act.put,sTA,sC0,sC1]
     refine wpAnyZ_takeW 1 (.int .i64 (a:Int)) rfl (by kernel_rfl) (by kernel_rfl) (fun _ _ _ h=>h) (by rfl) (fun _=>by go_simp) hS0 ?_
     try simp only [Act.put,sTA,sC0,sC1]
     refine wpAnyZ_takeW 3 (.int .i64 (b:Int)) rfl (by kernel_rfl) (by kernel_rfl) (fun _ _ _ h=>h) (by rfl) (fun _=>by go_simp) hS0 ?_
     try simp only [Act.put,sTA,sC0,sC1]
     refine wpAnyZ_takeW 4 (.pointer (some ⟨w.heap.size,2,none⟩)) rfl (by kernel_rfl) (by kernel_rfl) (fun _ _ _ h=>h) (by rfl) (fun _=>by go_simp) hS0 ?_
     try simp only [Act.put,sTA,sC0,sC1]
     refine wpAnyZ_take 5 (.slice (some ad) k d) rfl (by kernel_rfl) (by kernel_rfl) (fun _ _ _ h=>h) (by rfl) (fun _ hS=>by obtain ⟨h1,h2,h3,h4⟩:=hS;have s0:=h1.c 0 rfl;have s1:=h1.c 1 rfl;have s2:=h1.c 2 rfl;have u0:=h2.c 0 rfl;have u1:=h2.c 1 rfl;have u2:=h2.c 2 rfl;clear h1 h2;go_simp) hS0 ?_
     try simp only [Act.put,sTA,sC0,sC1]
     refine wpAnyZ_takeW 6 (.int .i64 (b:Int)) rfl (by kernel_rfl) (by kernel_rfl) (fun _ _ _ h=>h) (by rfl) (fun _=>by go_simp) hS0 ?_
     try simp only [Act.put,sTA,sC0,sC1]
     refine wpAnyZ_takeW 7 (.pointer (some (ad.add b))) rfl (by kernel_rfl) (by kernel_rfl) (fun _ _ _ h=>h) (by rfl) (fun _=>by go_simp) hS0 ?_
     try simp only [Act.put,sTA,sC0,sC1]
     refine wpAnyZ_take 8 (.int .i64 bj) rfl (by kernel_rfl) (by kernel_rfl) (fun _ _ _ h=>h) (by rfl) (fun _ hS=>by obtain ⟨h1,h2,h3,h4⟩:=hS;have s0:=h1.c 0 rfl;have s1:=h1.c 1 rfl;have s2:=h1.c 2 rfl;have u0:=h2.c 0 rfl;have u1:=h2.c 1 rfl;have u2:=h2.c 2 rfl;clear h1 h2;go_simp) hS0 ?_
     try simp only [Act.put,sTA,sC0,sC1]
     refine wpAnyZ_takeW 9 (.pointer (some ⟨w.heap.size,2,none⟩)) rfl (by kernel_rfl) (by kernel_rfl) (fun _ _ _ h=>h) (by rfl) (fun _=>by go_simp) hS0 ?_
     try simp only [Act.put,sTA,sC0,sC1]
     refine wpAnyZ_take 10 (.slice (some ad) k d) rfl (by kernel_rfl) (by kernel_rfl) (fun _ _ _ h=>h) (by rfl) (fun _ hS=>by obtain ⟨h1,h2,h3,h4⟩:=hS;have s0:=h1.c 0 rfl;have s1:=h1.c 1 rfl;have s2:=h1.c 2 rfl;have u0:=h2.c 0 rfl;have u1:=h2.c 1 rfl;have u2:=h2.c 2 rfl;clear h1 h2;go_simp) hS0 ?_
     try simp only [Act.put,sTA,sC0,sC1]
     refine wpAnyZ_takeW 11 (.int .i64 (b:Int)) rfl (by kernel_rfl) (by kernel_rfl) (fun _ _ _ h=>h) (by rfl) (fun _=>by go_simp) hS0 ?_
     try simp only [Act.put,sTA,sC0,sC1]
     refine wpAnyZ_takeW 12 (.pointer (some (ad.add b))) rfl (by kernel_rfl) (by kernel_rfl) (fun _ _ _ h=>h) (by rfl) (fun _=>by go_simp) hS0 ?_
     try simp only [Act.put,sTA,sC0,sC1]
     refine wpAnyZ_take 13 (.int .i64 bj) rfl (by kernel_rfl) (by kernel_rfl) (fun _ _ _ h=>h) (by rfl) (fun _ hS=>by obtain ⟨h1,h2,h3,h4⟩:=hS;have s0:=h1.c 0 rfl;have s1:=h1.c 1 rfl;have s2:=h1.c 2 rfl;have u0:=h2.c 0 rfl;have u1:=h2.c 1 rfl;have u2:=h2.c 2 rfl;clear h1 h2;go_simp) hS0 ?_
     try simp only [Act.put,sTA,sC0,sC1]
     refine wpAnyZ_take 14 (.agg #[.int .i64 (k:Int),.slice A q c,.slice (some ad) k d]) rfl (by kernel_rfl) (by kernel_rfl) (fun _ _ _ h=>h) (by rfl) (fun _ hS=>by obtain ⟨h1,h2,h3,h4⟩:=hS;have s0:=h1.c 0 rfl;have s1:=h1.c 1 rfl;have s2:=h1.c 2 rfl;have u0:=h2.c 0 rfl;have u1:=h2.c 1 rfl;have u2:=h2.c 2 rfl;clear h1 h2;go_simp) hS0 ?_
     try simp only [Act.put,sTA,sC0,sC1]
     refine wpAnyZ_takeW 15 (.int .i64 (b:Int)) rfl (by kernel_rfl) (by kernel_rfl) (fun _ _ _ h=>h) (by rfl) (fun _=>by go_simp) hS0 ?_
     try simp only [Act.put,sTA,sC0,sC1]
     refine wpAnyZ_takeW 16 (.int .i64 (a:Int)) rfl (by kernel_rfl) (by kernel_rfl) (fun _ _ _ h=>h) (by rfl) (fun _=>by go_simp) hS0 ?_
     try simp only [Act.put,sTA,sC0,sC1]
     refine wpAnyZ_takeW 19 (.pointer (some ⟨w.heap.size,2,none⟩)) rfl (by kernel_rfl) (by kernel_rfl) (fun _ _ _ h=>h) (by rfl) (fun _=>by go_simp) hS0 ?_
     try simp only [Act.put,sTA,sC0,sC1]
     refine wpAnyZ_take 20 (.slice (some ad) k d) rfl (by kernel_rfl) (by kernel_rfl) (fun _ _ _ h=>h) (by rfl) (fun _ hS=>by obtain ⟨h1,h2,h3,h4⟩:=hS;have s0:=h1.c 0 rfl;have s1:=h1.c 1 rfl;have s2:=h1.c 2 rfl;have u0:=h2.c 0 rfl;have u1:=h2.c 1 rfl;have u2:=h2.c 2 rfl;clear h1 h2;go_simp) hS0 ?_
     try simp only [Act.put,sTA,sC0,sC1]
     refine wpAnyZ_takeW 21 (.int .i64 (a:Int)) rfl (by kernel_rfl) (by kernel_rfl) (fun _ _ _ h=>h) (by rfl) (fun _=>by go_simp) hS0 ?_
     try simp only [Act.put,sTA,sC0,sC1]
     refine wpAnyZ_takeW 22 (.pointer (some (ad.add a))) rfl (by kernel_rfl) (by kernel_rfl) (fun _ _ _ h=>h) (by rfl) (fun _=>by go_simp) hS0 ?_
     try simp only [Act.put,sTA,sC0,sC1]
     refine wpAnyZ_take 23 (.int .i64 bi) rfl (by kernel_rfl) (by kernel_rfl) (fun _ _ _ h=>h) (by rfl) (fun _ hS=>by obtain ⟨h1,h2,h3,h4⟩:=hS;have s0:=h1.c 0 rfl;have s1:=h1.c 1 rfl;have s2:=h1.c 2 rfl;have u0:=h2.c 0 rfl;have u1:=h2.c 1 rfl;have u2:=h2.c 2 rfl;clear h1 h2;go_simp) hS0 ?_
     try simp only [Act.put,sTA,sC0,sC1]
     refine wpAnyZ_one 2 (by kernel_rfl) rfl (by rfl) (fun K hK=>?_)
     go_simp
     refine (cRow wr.drew).mono ?_
     rintro e u1 ⟨rfl,b6⟩
     have y6:=b6.size
     have hS1:=hS0.below b6
     go_wp2_with fail
     refine hK.out _ _ hS1 ?_
     clear hK K
     try simp only [Act.put,sTA,sC0,sC1]
     refine wpAnyZ_one 17 (by kernel_rfl) rfl (by rfl) (fun K hK=>?_)
     go_simp
     refine (cA u1 (d2.trans (b6.mono dz))).mono ?_
     rintro e u2 ⟨rfl,b7⟩
     have y7:=b7.size
     have hS2:=hS1.below b7
     go_wp2_with fail
     refine hK.out _ _ hS2 ?_
     clear hK K
     try simp only [Act.put,sTA,sC0,sC1]
     refine wpAnyZ_one 18 (by kernel_rfl) rfl (by rfl) (fun K hK=>?_)
     go_simp
     refine (impl_Times bj fv u2 rbj rfv).mono ?_
     rintro e u3 ⟨rfl,rfl⟩
     go_wp2_with fail
     refine hK.out _ _ hS2 ?_
     clear hK K
     try simp only [Act.put,sTA,sC0,sC1]
     refine wpAnyZ_one 24 (by kernel_rfl) rfl (by rfl) (fun K hK=>?_)
     go_simp
     refine (impl_Fraction (timesF bj fv) bi u2 rt1 rbi).mono ?_
     rintro e u4 ⟨rfl,rfl⟩
     go_wp2_with fail
     refine hK.out _ _ hS2 ?_
     clear hK K
     try simp only [Act.put,sTA,sC0,sC1]
     refine wpAnyZ_one 25 (by kernel_rfl) rfl (by rfl) (fun K hK=>?_)
     go_simp
     refine (impl_Minus bj (fracF (timesF bj fv) bi) u2 rbj rt2).mono ?_
     rintro e u5 ⟨rfl,rfl⟩
     go_wp2_with fail
     refine hK.out _ _ hS2 ?_
     clear hK K
     try simp only [Act.put,sTA,sC0,sC1]
     refine wpAnyZ_takeW 26 (.pointer (some ⟨gA,p0+b,none⟩)) rfl (by kernel_rfl) (by kernel_rfl) (fun _ _ _ h=>h) (by rfl) (fun _=>by go_simp) hS2 ?_
     try simp only [Act.put,sTA,sC0,sC1]
     have HB:=(d2.trans (b6.mono dz)).trans (b7.mono (show wr.heap.size≤u1.heap.size by omega))
     have hown2:=owns_below hlast.out.1 HB (fun ad e=>(owns_lt hlast.out.1 ad e).2)
     have ht2:=hlast.out.2.1.trans (Touch.of_below (lo:=gA) (hi:=gA+1) HB)
     obtain ⟨hc1,hf1,HS⟩:=fill_stepT hown2 ht2 hlast.out.2.2 hEq.out (show p0+b<q by omega)
     clear hS0 hS1 hS2 b6 b7 d2 hown2 ht2 hlast HB cRow cA
     refine wpAnyZ_last (by kernel_rfl) rfl (by kernel_rfl) (by rfl) (fun K hK=>?_)
     go_simp
     refine hK _ _ ?_
     clear hK K hc1 hf1
     go_wp2_with fail
     go_roundw
     case rel=>exact ⟨b+1,_,by omega,by go_num,HS.out.2.1,HS.out.1,HS.out.2.2⟩
     case measure=>simp [intOf];omega
    ·have hys2:Hid (vs.length=q∧vs.take ((a+1)*k)=(conjL k xs ys).take ((a+1)*k)):=by
      show _∧_
      have e1:(a+1)*k=p0+b:=by rw [Nat.add_mul,Nat.one_mul,hp0H.out];omega
      rw [e1];exact hys.out
     clear hys
     go_wp2_with fail
     go_roundw
     case rel=>exact ⟨a+1,vs,by omega,by go_num,ht,hown,hys2⟩
     case measure=>simp [intOf];omega
  ·have e:vs=conjL k xs ys:=by
    have e1:=hys.out.2
    have e2:a=k:=by omega
    rw [e2,← hqH.out] at e1
    rwa [List.take_of_length_le (Nat.le_of_eq hys.out.1),List.take_of_length_le (Nat.le_of_eq hzl.out)] at e1
   subst e
   have n1:=m1.touch ht (by omega)
   have n2:=m2.touch ht (by omega)
   have n5:=m5.touch ht (by omega)
   have OA:OwnI wr gA (gA+1) (some ⟨gA,0,none⟩) q q (conjL k xs ys):=⟨hown,fun ad e=>by injection e with e;subst e;exact Nat.lt_succ_self _,fun y hy=>r64_of_num (conjL_num _ _ _ y hy)⟩
   have OB:=ocB.same (ht.same (by omega) (by omega))
   have h5:=h4.same (ht.same (.inl (by omega)) (by omega))
   have g5:=g4.same (ht.same (.inl (by omega)) (by omega))
   have B5:=B4.trans (ht.below (B:=w.heap.size) (by omega) z4)
   have z5:=B5.size
   clear hown ht hys m1 m2 m5 ocB h4 g4 B4
   have d2:Below wr.heap.size wr wr.drew:=(Below.refl _ _).drew
   have dz:=d2.size
   have hSc:=impl_ScaleTableau k A q c xs B d ys lo hi 1 wr.drew (h5.below d2 (by omega)) (g5.below d2 (by omega)) (by omega) hk hqH.out TT.out (by constructor <;> omega)
   rw [← hqH.out,EX.out,EY.out] at hSc
   have hS0:Two3 w.heap.size (.int .i64 (k:Int)) (.slice A q c) (.slice B k d) w2.heap.size (.int .i64 (k:Int)) (.slice (some ⟨gA,0,none⟩) q q) (.slice (some ⟨gB,0,none⟩) k k) wr.drew:=⟨n1.below d2,n5.below d2⟩
   have HO:=hide (And.intro (OA.below d2 (by omega)) (OB.below d2 (by omega)))
   have N2:=n2.below d2
   clear n1 n2 n5 OA OB h5 g5
   go_wp2_with fail
   refine wp_region_Z (Two3 w.heap.size (.int .i64 (k:Int)) (.slice A q c) (.slice B k d) w2.heap.size (.int .i64 (k:Int)) (.slice (some ⟨gA,0,none⟩) q q) (.slice (some ⟨gB,0,none⟩) k k)) 4 (by kernel_rfl) ?_
   refine wpAnyZ_take 0 (.agg #[.int .i64 (k:Int),.slice A q c,.slice B k d]) rfl (by kernel_rfl) (by kernel_rfl) (fun _ _ _ h=>h) (by rfl) (fun _ hS=>by obtain ⟨h1,h2⟩:=hS;have s0:=h1.c 0 rfl;have s1:=h1.c 1 rfl;have s2:=h1.c 2 rfl;have u0:=h2.c 0 rfl;have u1:=h2.c 1 rfl;have u2:=h2.c 2 rfl;clear h1 h2;go_simp) hS0 ?_
   try simp only [Act.put,sTA,sC0,sC1]
   refine wpAnyZ_take 2 (.agg #[.int .i64 (k:Int),.slice (some ⟨gA,0,none⟩) q q,.slice (some ⟨gB,0,none⟩) k k]) rfl (by kernel_rfl) (by kernel_rfl) (fun _ _ _ h=>h) (by rfl) (fun _ hS=>by obtain ⟨h1,h2⟩:=hS;have s0:=h1.c 0 rfl;have s1:=h1.c 1 rfl;have s2:=h1.c 2 rfl;have u0:=h2.c 0 rfl;have u1:=h2.c 1 rfl;have u2:=h2.c 2 rfl;clear h1 h2;go_simp) hS0 ?_
   try simp only [Act.put,sTA,sC0,sC1]
   refine wpAnyZ_one 1 (by kernel_rfl) rfl (by rfl) (fun K hK=>?_)
   go_simp
   refine (hSc).mono ?_
   rintro e u1 ⟨gC,gD,rfl,hne2,lc,ld,uc,ud,oC,oD,b6⟩
   have y6:=b6.size
   have hS1:=hS0.below b6
   go_wp2_with fail
   refine hK.out _ _ hS1 ?_
   clear hK K
   try simp only [Act.put,sTA,sC0,sC1]
   refine wpAnyZ_takeW 3 (.agg #[.int .i64 (k:Int),.slice (some ⟨gC,0,none⟩) q q,.slice (some ⟨gD,0,none⟩) k k,.int .i64 (k:Int),.slice (some ⟨gA,0,none⟩) q q,.slice (some ⟨gB,0,none⟩) k k]) rfl (by kernel_rfl) (by kernel_rfl) (fun _ _ _ h=>h) (by rfl) (fun _=>by go_simp) hS1 ?_
   try simp only [Act.put,sTA,sC0,sC1]
   have N3:=N2.below b6
   have oA:=HO.out.1.below b6 (by omega)
   have oB:=HO.out.2.below b6 (by omega)
   have B6:=(B5.drew).trans (b6.mono (show w.heap.size≤wr.drew.heap.size by omega))
   have f0:=N3.f 0
   have f1:=N3.f 1
   have f2:=N3.f 2
   have f3:=N3.f 3
   have f4:=N3.f 4
   have f5:=N3.f 5
   have r0:=N3.c 0 rfl
   have r1:=N3.c 1 rfl
   have r2:=N3.c 2 rfl
   have r3:=N3.c 3 rfl
   have r4:=N3.c 4 rfl
   have r5:=N3.c 5 rfl
   have lt2:=N3.lt
   clear hS0 hS1 hSc HO N2 b6 d2 B5
   have HQ:=hide (And.intro oC (And.intro oD (And.intro oA (And.intro oB B6))))
   clear oA oB oC oD B6
   refine wpAnyZ_last2 5 (by kernel_rfl) rfl (by kernel_rfl) rfl (by kernel_rfl) (by decide) (by rfl) (fun _=>rfl) (fun K hK=>?_)
   go_simp
   refine hK _ _ ?_
   clear hK K
   go_simp
   go_wp2_with fail
   refine bodyPost_ret (v := .tuple #[.agg #[.int .i64 (k:Int),.slice (some ⟨gC,0,none⟩) q q,.slice (some ⟨gD,0,none⟩) k k,.int .i64 (k:Int),.slice (some ⟨gA,0,none⟩) q q,.slice (some ⟨gB,0,none⟩) k k],.bool true]) (by simp [results,Tryz.results6,go_sem,r0,r1,r2,r3,r4,r5,lt2]) rfl ⟨gC,gD,gA,gB,rfl,by omega,?_,?_,?_,?_,?_,?_⟩
   ·simp [World.setCell];omega
   ·refine OwnI.same HQ.out.1 ?_
    (repeat (first | with_reducible exact Same.refl _ _ _ | with_reducible refine Same.drew ?_ | ((with_reducible refine Same.alloc ?_ ?_ _);rotate_left;· first | omega | (simp [World.setCell];done) | (simp [World.setCell];omega)) | ((with_reducible refine Same.setCell ?_ ?_ _);rotate_left;· first | omega | (simp;done) | (simp;omega))))
   ·refine OwnI.same HQ.out.2.1 ?_
    (repeat (first | with_reducible exact Same.refl _ _ _ | with_reducible refine Same.drew ?_ | ((with_reducible refine Same.alloc ?_ ?_ _);rotate_left;· first | omega | (simp [World.setCell];done) | (simp [World.setCell];omega)) | ((with_reducible refine Same.setCell ?_ ?_ _);rotate_left;· first | omega | (simp;done) | (simp;omega))))
   ·refine OwnI.same HQ.out.2.2.1 ?_
    (repeat (first | with_reducible exact Same.refl _ _ _ | with_reducible refine Same.drew ?_ | ((with_reducible refine Same.alloc ?_ ?_ _);rotate_left;· first | omega | (simp [World.setCell];done) | (simp [World.setCell];omega)) | ((with_reducible refine Same.setCell ?_ ?_ _);rotate_left;· first | omega | (simp;done) | (simp;omega))))
   ·refine OwnI.same HQ.out.2.2.2.1 ?_
    (repeat (first | with_reducible exact Same.refl _ _ _ | with_reducible refine Same.drew ?_ | ((with_reducible refine Same.alloc ?_ ?_ _);rotate_left;· first | omega | (simp [World.setCell];done) | (simp [World.setCell];omega)) | ((with_reducible refine Same.setCell ?_ ?_ _);rotate_left;· first | omega | (simp;done) | (simp;omega))))
   ·(repeat (first | with_reducible exact HQ.out.2.2.2.2 | with_reducible exact Below.refl _ _ | with_reducible refine Below.drew ?_ | ((with_reducible refine Below.alloc ?_ ?_ _);rotate_left;· first | omega | (simp [World.setCell];done) | (simp [World.setCell];omega)) | ((with_reducible refine Below.setCell ?_ ?_ _);rotate_left;· first | exact Nat.le_refl _ | omega | (simp;done) | (simp;omega))))
end Go.Proofs.YtomgcbfcnjbofaaGreat
