/- Tableaus of collocation: the reference's walk. -/
import Derived.Test.YtfijcieponfcpaaGreatDoorMgE
import Derived.Test.YtfijcieponfcpaaGreatDoorMgD
namespace Go.Proofs.YtfijcieponfcpaaGreatDoor
open Go.RowKit
set_option linter.unusedSimpArgs false
set_option linter.unusedVariables false
set_option maxRecDepth 20000

theorem owp_app {P : Program} {o : Oper} {a : Act} {K : Act → World → Prop} {Q : Exit → Act → World → Prop} (s x : Operand) (t : TypeId)
    (ho : o.op = .call { callee := .builtin .append, args := #[s, x], argTypes := #[t, t] }) (w : World)
    (base : Nat) (e : TypeId) (i : TypeInfo) (z : Value) (size bytes : Nat) (ht : P.underlying t = some (.slice e)) (hi : P.info? e = some i) (hz : i.zero = some z)
    (hsize : i.size = size) (hby : i.bytes = bytes) (hzs : z.cells.size = size) (hsz : 0 < size)
    (A : Option Addr) (n c : Nat) (xs : List Value) (hs : a.eval s = .slice A n c) (hown : w.ownsRow base e size (.slice A n c) n xs)
    (ad : Addr) (m d : Nat) (news : List Value) (hx : a.eval x = .slice (some ad) m d) (hl : news.length = m * size) (hnews : ∀ j u, news[j]? = some u → w.cell? (ad.add j) = some u) (h1 : ∀ u ∈ news, u.oneCell' = true)
    (h63 : n + m ≤ 1099511627776) (hbytes : bytes ≤ 128) (hbase : base ≤ w.heap.size)
    (h : ∀ A' c' w', Appended w base e size A n c A' (n + m) c' (xs ++ news) w' → K (a.put o.dst (.slice A' (n + m) c')) w') : Oper.wp P o a w K Q := by
  obtain ⟨A', c', w', hrun, h2⟩ := run_app (P := P) w base t o.type e i z size bytes ht hi hz hsize hby hzs hsz A n c xs hown ad m d news hl hnews h1 h63 hbytes hbase
  unfold Oper.wp
  simp [execOp, ho, resolve, invoke, builtin, hs, hx, hrun, Result.andThen]
  exact h A' c' w' h2

/-- The tableau under construction. -/
structure ColT (w0 w : World) (gr g4 n : Nat) (A : Option Addr) (m cA : Nat) (za : List Int) (B : Option Addr) (cB : Nat) (zb : List Int) : Prop where
  res : BlkN w gr #[.int .i64 0, .slice none 0 0, .slice none 0 0]
  tab : BlkN w g4 #[.int .i64 (n : Int), .slice A m cA, .slice B n cB]
  ha : OwnI w w0.heap.size w.heap.size A m cA za
  hb : OwnI w w0.heap.size w.heap.size B n cB zb
  low : Below w0.heap.size w0 w
  dA : ∀ k, oBlk A m cA = some k → oBlk B n cB ≠ some k ∧ k ≠ g4 ∧ k ≠ gr
  dB : ∀ k, oBlk B n cB = some k → k ≠ g4 ∧ k ≠ gr
  d : g4 ≠ gr
  b1 : w0.heap.size ≤ gr
  b2 : w0.heap.size ≤ g4
section
variable {w0 w w' : World} {gr g4 n : Nat} {A : Option Addr} {m cA : Nat} {za : List Int} {B : Option Addr} {cB : Nat} {zb : List Int}
theorem ColT.below (h : ColT w0 w gr g4 n A m cA za B cB zb) (hb : Below w.heap.size w w') : ColT w0 w' gr g4 n A m cA za B cB zb :=
  ⟨h.res.below hb, h.tab.below hb, (h.ha.below hb (Nat.le_refl _)).wide (Nat.le_refl _) hb.size, (h.hb.below hb (Nat.le_refl _)).wide (Nat.le_refl _) hb.size, h.low.trans (hb.mono h.low.size), h.dA, h.dB, h.d, h.b1, h.b2⟩
theorem ColT.mid (h : ColT w0 w gr g4 n A m cA za B cB zb) {A' : Option Addr} {m' cA' : Nat} {xs : List Value} (hap : Appended w w0.heap.size 3 1 A m cA A' m' cA' xs w') : BlkN w' g4 #[.int .i64 (n : Int), .slice A m cA, .slice B n cB] ∧ BlkN w' gr #[.int .i64 0, .slice none 0 0, .slice none 0 0] :=
  ⟨h.tab.same (hap.2.1.block g4 h.tab.lt fun e => (h.dA g4 e.symm).2.1 rfl), h.res.same (hap.2.1.block gr h.res.lt fun e => (h.dA gr e.symm).2.2 rfl)⟩
theorem ColT.push (h : ColT w0 w gr g4 n A m cA za B cB zb) {ys : List Int} {k : Nat} (hr : ∀ y ∈ ys, R64 y) {A' : Option Addr} {cA' : Nat} (hap : Appended w w0.heap.size 3 1 A m cA A' (m + k) cA' (za.map (Value.int .i64) ++ ys.map (Value.int .i64)) w') :
    ColT w0 (w'.setCell ⟨g4, 1, none⟩ (.slice A' (m + k) cA')) gr g4 n A' (m + k) cA' (za ++ ys) B cB zb := by
  have hm := h.mid hap
  have hlow := hap.low h.low h.low.size (Nat.le_refl _) h.ha.own
  have kV := hm.1.set 1 (.slice A' (m + k) cA')
  simp only [List.setIfInBounds_toArray, List.set_cons_zero, List.set_cons_succ] at kV
  have hne : ∀ b, b ≠ g4 → (w'.setCell ⟨g4, 1, none⟩ (.slice A' (m + k) cA')).heap[b]? = w'.heap[b]? := fun b hb => Below.heap_setCell _ ⟨g4, 1, none⟩ _ b hb
  have hsz : (w'.setCell ⟨g4, 1, none⟩ (.slice A' (m + k) cA')).heap.size = w'.heap.size := by simp [World.setCell]
  have hgl := h.tab.lt
  have hgr := h.res.lt
  have nA := new_blk hap
  have hd := h.d
  have dA' : ∀ b, oBlk A' (m + k) cA' = some b → oBlk B n cB ≠ some b ∧ b ≠ g4 ∧ b ≠ gr := by
    intro b hb
    rcases nA b hb with e | e
    · exact h.dA b e
    · refine ⟨fun e2 => ?_, by omega, by omega⟩
      obtain ⟨ad, e3, e4⟩ := ownBlock_eq.1 e2
      have := h.hb.lt ad e3
      omega
  refine ⟨hm.2.far (Ne.symm h.d) _, kV, ?_, ?_, hlow.setCell (p := ⟨g4, 1, none⟩) h.b2 _, dA', h.dB, h.d, h.b1, h.b2⟩
  · rw [hsz]
    refine ⟨owns_same (by rw [List.map_append]; exact hap.1) (fun ad e => hne _ (dA' ad.block (ownBlock_eq.2 ⟨ad, e, rfl⟩)).2.1), fun ad e => (owns_lt hap.1 ad e).2, fun y hy => ?_⟩
    rcases List.mem_append.1 hy with hy | hy
    · exact h.ha.rng y hy
    · exact hr y hy
  · rw [hsz]
    have hBk : oBlk B n cB = none ∨ oBlk B n cB ≠ oBlk A m cA := by
      cases hk : oBlk B n cB with
      | none => exact .inl rfl
      | some b => exact .inr fun e => (h.dA b e.symm).1 hk
    have hB := h.hb.kept hap.2.1 hBk
    exact ⟨owns_same hB.own (fun ad e => hne _ (h.dB ad.block (ownBlock_eq.2 ⟨ad, e, rfl⟩)).1), hB.lt, hB.rng⟩
theorem ColT.done (h : ColT w0 w gr g4 n A m cA za B cB zb) (v1 v2 v3 : Value) :
    OwnI (((w.setCell ⟨gr, 0, none⟩ v1).setCell ⟨gr, 1, none⟩ v2).setCell ⟨gr, 2, none⟩ v3) w0.heap.size (((w.setCell ⟨gr, 0, none⟩ v1).setCell ⟨gr, 1, none⟩ v2).setCell ⟨gr, 2, none⟩ v3).heap.size A m cA za ∧
    OwnI (((w.setCell ⟨gr, 0, none⟩ v1).setCell ⟨gr, 1, none⟩ v2).setCell ⟨gr, 2, none⟩ v3) w0.heap.size (((w.setCell ⟨gr, 0, none⟩ v1).setCell ⟨gr, 1, none⟩ v2).setCell ⟨gr, 2, none⟩ v3).heap.size B n cB zb ∧
    Below w0.heap.size w0 (((w.setCell ⟨gr, 0, none⟩ v1).setCell ⟨gr, 1, none⟩ v2).setCell ⟨gr, 2, none⟩ v3) := by
  have hb : ∀ b, b ≠ gr → (((w.setCell ⟨gr, 0, none⟩ v1).setCell ⟨gr, 1, none⟩ v2).setCell ⟨gr, 2, none⟩ v3).heap[b]? = w.heap[b]? := fun b hb =>
    ((Below.heap_setCell _ ⟨gr, 2, none⟩ _ b hb).trans (Below.heap_setCell _ ⟨gr, 1, none⟩ _ b hb)).trans (Below.heap_setCell _ ⟨gr, 0, none⟩ _ b hb)
  have hsz : (((w.setCell ⟨gr, 0, none⟩ v1).setCell ⟨gr, 1, none⟩ v2).setCell ⟨gr, 2, none⟩ v3).heap.size = w.heap.size := by simp [World.setCell]
  rw [hsz]
  exact ⟨⟨owns_same h.ha.own (fun ad e => hb _ (h.dA ad.block (ownBlock_eq.2 ⟨ad, e, rfl⟩)).2.2), h.ha.lt, h.ha.rng⟩, ⟨owns_same h.hb.own (fun ad e => hb _ (h.dB ad.block (ownBlock_eq.2 ⟨ad, e, rfl⟩)).2), h.hb.lt, h.hb.rng⟩,
    ((h.low.setCell (p := ⟨gr, 0, none⟩) h.b1 v1).setCell (p := ⟨gr, 1, none⟩) h.b1 v2).setCell (p := ⟨gr, 2, none⟩) h.b1 v3⟩
theorem ColT.start {w w0 w1 : World} {gr : Nat} (k0 : BlkN w0 gr #[.int .i64 0, .slice none 0 0, .slice none 0 0]) (hgr : w.heap.size ≤ gr) (b0 : Below w.heap.size w w0) (hO : OwnI w1 w0.heap.size w1.heap.size B n cB zb) (b1 : Below w0.heap.size w0 w1) :
    ColT w (w1.alloc (.cells #[.int .i64 (n : Int), .slice none 0 0, .slice B n cB] 24)) gr w1.heap.size n none 0 0 [] B cB zb := by
  have hbV := below_alloc w1 (.cells #[.int .i64 (n : Int), .slice none 0 0, .slice B n cB] 24)
  have hz0 := b0.size
  have hz1 := b1.size
  have hk0 := k0.lt
  refine ⟨(k0.below b1).below hbV, BlkN.new w1 _ _, OwnI.nil_ _ _ _, (hO.below hbV (Nat.le_refl _)).wide hz0 hbV.size, b0.trans ((b1.mono hz0).trans (hbV.mono (by omega))), by simp [Value.ownBlock], fun k hk => ?_, by omega, hgr, by omega⟩
  obtain ⟨ad, e, e2⟩ := ownBlock_eq.1 hk
  have h1 := hO.lt ad e
  have h2 := (hO.lt_size ad e).1
  exact ⟨by omega, by omega⟩
end
theorem news_of {w : World} {lo hi n c g : Nat} {xs : List Int} (hn : 0 < n) (h : Ints w lo hi (some ⟨g, 0, none⟩) n c xs) : ∀ (j : Nat) (u : Value), (xs.map (Value.int .i64))[j]? = some u → w.cell? ((⟨g, 0, none⟩ : Addr).add j) = some u := by
  intro j u hu
  obtain ⟨ad, e, _, _, hc⟩ := h.cells hn
  injection e with e
  subst e
  rw [List.getElem?_map] at hu
  cases hy : xs[j]? with
  | none => rw [hy] at hu; cases hu
  | some y =>
    rw [hy] at hu
    injection hu with hu
    subst hu
    exact hc j y hy
theorem news_one' (xs : List Int) : ∀ u ∈ xs.map (Value.int .i64), u.oneCell' = true := by
  intro u hu
  simp only [List.mem_map] at hu
  obtain ⟨y, _, rfl⟩ := hu
  rfl

set_option maxRecDepth 100000 in
set_option maxHeartbeats 8000000 in
theorem spec_Collocation (g0 n c : Nat) (xs : List Int) (lo hi : Nat) (w : World) (h : Ints w lo hi (some ⟨g0, 0, none⟩) n c xs) (hh : hi ≤ w.heap.size) (hn : 0 < n) (hn2 : n ≤ 8) (hx : ∀ x ∈ xs, 0 ≤ x ∧ x < 1000000271) (hd : xs.Nodup)
    (hf : ∀ x ∈ xs, FullF n (vanM xs n) (goalL (powGoal x) n)) (hf1 : FullF n (vanM xs n) (goalL (powGoal 1) n)) :
    Calls Tryz.prog 19 #[.slice (some ⟨g0, 0, none⟩) n c] w fun e w' => ∃ A cA B cB, e = .returned (.tuple #[.agg #[.int .i64 (n : Int), .slice A (n * n) cA, .slice B n cB], .bool true]) ∧
      OwnI w' w.heap.size w'.heap.size A (n * n) cA (catF xs n) ∧ OwnI w' w.heap.size w'.heap.size B n cB (solF n (vanM xs n) (goalL (powGoal 1) n)) ∧ Below w.heap.size w w' := by
  obtain ⟨i0, hi0, hz0, hz1, hz2⟩ := info_parts info_int
  have hcp := h.cap
  have hm := h.max
  have hlx := hide h.len
  have HX := hide hx
  have HF := hide hf
  have HF1 := hide hf1
  have b0 := below_alloc w (.cells #[.int .i64 0, .slice none 0 0, .slice none 0 0] 24)
  have k0 := BlkN.new w #[.int .i64 0, .slice none 0 0, .slice none 0 0] 24
  have hI0 := h.below b0 hh
  have hgw : g0 < w.heap.size := by
    obtain ⟨ad, e, _, h2, _⟩ := h.cells hn
    injection e with e
    subst e
    exact Nat.lt_of_lt_of_le h2 hh
  have HAD := hide (spec_l7Different g0 n c xs lo hi _ hI0 hd (allNumF_of hx))
  have t1 : (decide ((1 : Int) ≤ n) && decide ((n : Int) ≤ 8)) = true := by simp; omega
  have HI := hide h
  clear h hx hd hf hf1 hI0
  go_enter Tryz.func19, Tryz.ntmps19
  go_wp2_with (first
    | (go_at_call 49; refine (spec_l1In _ _ _ _).mono ?_; rintro e w' ⟨rfl, rfl⟩)
    | (go_at_call 50; refine HAD.out.mono ?_; rintro e w' ⟨rfl, q1, rfl⟩; have k1 := hide (k0.same (w' := (w.alloc (.cells #[.int .i64 0, .slice none 0 0, .slice none 0 0] 24)).drewN q1) rfl); have b1 := hide (below_drewN b0 q1); have hI1 := hide (HI.out.below b1.out hh); clear k0 b0)
    | (go_at_call 51; refine (spec_l7Weights (some ⟨g0, 0, none⟩) n c xs 1 lo hi _ hI1.out (by have := b1.out.size; omega) hn hn2 (by constructor <;> omega) HF1.out).mono ?_; rintro e w1 ⟨B, cB, rfl, hO1, hb1⟩; have HS := hide (ColT.start (n := n) k1.out (Nat.le_refl _) b1.out hO1 hb1); clear hO1 hb1 b1 k1 hI1))
  clear HAD t1
  have h64 : n * n ≤ 64 := Nat.mul_le_mul hn2 hn2
  generalize w1.heap.size = g4 at HS ⊢
  generalize w1.alloc (.cells #[.int .i64 (n : Int), .slice none 0 0, .slice B n cB] 24) = W at HS ⊢
  go_loopw [5] (fun i wr => ∃ (q : Nat) (A : Option Addr) (m cA : Nat), q ≤ n ∧ i = .int .i64 q ∧ Hid (ColT w wr w.heap.size g4 n A m cA (catF xs q) B cB (solF n (vanM xs n) (goalL (powGoal 1) n))) ∧ Hid (m = q * n)) (fun i _ => n - (intOf i).toNat)
  case atStart => exact ⟨0, none, 0, 0, by omega, rfl, HS.out, by show 0 = 0 * n; simp⟩
  case round =>
    clear HS
    obtain ⟨q, A, m, cA, hq, rfl, hS, hm0⟩ := hrel
    have hsz := hS.out.low.size
    by_cases hlt : q < n
    · obtain ⟨ad, x, e, hc0, hxr, _, hxx⟩ := (HI.out.below hS.out.low hh).at_ hlt
      injection e with e
      subst e
      have hxm := List.mem_of_getElem? hxx.out
      have hcx : wr.cell? ⟨g0, q, none⟩ = some (.int .i64 x) := by simpa [Addr.add_lit] using hc0
      have hstep : Hid (catF xs (q + 1) = catF xs q ++ solF n (vanM xs n) (goalL (powGoal x) n)) := by show _ = _; rw [cat_step hxx.out, hlx.out]
      have hm8 : m ≤ 64 := by rw [hm0.out]; exact Nat.le_trans (Nat.mul_le_mul_right n hq) h64
      have HFX := hide (HF.out x hxm)
      have hSd := hide (hS.out.below ((Below.refl _ _).drew))
      have hzd := hSd.out.low.size
      have HW := hide (spec_l7Weights (some ⟨g0, 0, none⟩) n c xs x lo hi wr.drew (HI.out.below hSd.out.low hh) (by omega) hn hn2 hxr HFX.out)
      have HCX := hide fun (v1 : World) (hB : Below w.heap.size w v1) => (((hB.cell (p := ⟨g0, q, none⟩) hgw).trans (hS.out.low.cell (p := ⟨g0, q, none⟩) hgw).symm).trans hcx : v1.cell? ⟨g0, q, none⟩ = some (.int .i64 x))
      have hS0 := And.intro hSd.out.tab (HCX.out _ hSd.out.low)
      clear hc0 hxx hcx hS
      go_wp2_with fail
      refine wp_region_Z (fun W' => BlkN W' g4 #[.int .i64 (n : Int), .slice A m cA, .slice B n cB] ∧ W'.cell? ⟨g0, q, none⟩ = some (.int .i64 x)) 10 (by kernel_rfl) ?_
      refine wpAnyZ_takeW 0 (.pointer (some ⟨g4, 1, none⟩)) rfl (by kernel_rfl) (by kernel_rfl) (fun _ _ _ h => h) (by rfl) (fun _ => by go_simp) hS0 ?_
      try simp only [Act.put, List.setIfInBounds_toArray, List.set_cons_zero, List.set_cons_succ]
      refine wpAnyZ_take 1 (.slice A m cA) rfl (by kernel_rfl) (by kernel_rfl) (fun _ _ _ h => h) (by rfl) (fun _ hS => by have q0 := hS.1.c 1 rfl; clear hS; go_simp) hS0 ?_
      try simp only [Act.put, List.setIfInBounds_toArray, List.set_cons_zero, List.set_cons_succ]
      refine wpAnyZ_takeW 2 (.slice (some ⟨g0, 0, none⟩) n c) rfl (by kernel_rfl) (by kernel_rfl) (fun _ _ _ h => h) (by rfl) (fun _ => by go_simp) hS0 ?_
      try simp only [Act.put, List.setIfInBounds_toArray, List.set_cons_zero, List.set_cons_succ]
      refine wpAnyZ_takeW 3 (.slice (some ⟨g0, 0, none⟩) n c) rfl (by kernel_rfl) (by kernel_rfl) (fun _ _ _ h => h) (by rfl) (fun _ => by go_simp) hS0 ?_
      try simp only [Act.put, List.setIfInBounds_toArray, List.set_cons_zero, List.set_cons_succ]
      refine wpAnyZ_takeW 4 (.int .i64 (q : Int)) rfl (by kernel_rfl) (by kernel_rfl) (fun _ _ _ h => h) (by rfl) (fun _ => by go_simp) hS0 ?_
      try simp only [Act.put, List.setIfInBounds_toArray, List.set_cons_zero, List.set_cons_succ]
      refine wpAnyZ_takeW 5 (.pointer (some ⟨g0, q, none⟩)) rfl (by kernel_rfl) (by kernel_rfl) (fun _ _ _ h => h) (by rfl) (fun _ => by go_simp) hS0 ?_
      try simp only [Act.put, List.setIfInBounds_toArray, List.set_cons_zero, List.set_cons_succ]
      refine wpAnyZ_take 6 (.int .i64 x) rfl (by kernel_rfl) (by kernel_rfl) (fun _ _ _ h => h) (by rfl) (fun _ hS => by have q0 := hS.2; clear hS; go_simp) hS0 ?_
      try simp only [Act.put, List.setIfInBounds_toArray, List.set_cons_zero, List.set_cons_succ]
      refine wpAnyZ_one 7 (by kernel_rfl) rfl (by rfl) (fun K hK => ?_)
      go_simp
      refine HW.out.mono ?_
      rintro e w3 ⟨R, d, rfl, hO3, hb3⟩
      have hS4 := hide (hSd.out.below hb3)
      have hO4 := hide hO3
      have hS1 := And.intro hS4.out.tab (HCX.out _ hS4.out.low)
      have hz3 := hS4.out.low.size
      clear hO3 hb3
      go_wp2_with fail
      refine hK.out _ _ hS1 ?_
      clear hK K
      try simp only [Act.put, List.setIfInBounds_toArray, List.set_cons_zero, List.set_cons_succ]
      refine wpAnyZ_one 8 (by kernel_rfl) rfl (by rfl) (fun K hK => ?_)
      obtain ⟨gR, rfl, hR1, hR2, _⟩ := hO4.out.form hn
      refine owp_app (.tmp 28) (.tmp 34) 22 rfl w3 w.heap.size 3 i0 (.int .i64 0) 1 8 Tryz.underlying22 hi0 hz0 hz1 hz2 rfl (by omega) A m cA _ rfl hS4.out.ha.own ⟨gR, 0, none⟩ n d _ rfl (by simpa using hO4.out.len) (news_of hn hO4.out.ints) (news_one' _) (by omega) (by omega) hz3 ?_
      intro A5 c5 w5 happ
      have hm5 := hS4.out.mid happ
      have HP := hide (hS4.out.push hO4.out.rng happ)
      have hS2 := And.intro hm5.1 (HCX.out _ (happ.low hS4.out.low hz3 (Nat.le_refl _) hS4.out.ha.own))
      have c5' := hm5.1.c 1 rfl
      have f5' := hm5.1.f 1
      clear happ hm5 hS1
      refine hK.out _ _ hS2 ?_
      clear hK K
      try simp only [Act.put, List.setIfInBounds_toArray, List.set_cons_zero, List.set_cons_succ]
      refine wpAnyZ_takeW 9 (.pointer (some ⟨g4, 1, none⟩)) rfl (by kernel_rfl) (by kernel_rfl) (fun _ _ _ h => h) (by rfl) (fun _ => by go_simp) hS2 ?_
      try simp only [Act.put, List.setIfInBounds_toArray, List.set_cons_zero, List.set_cons_succ]
      refine wpAnyZ_last (by kernel_rfl) rfl (by kernel_rfl) (by rfl) (fun K hK => ?_)
      go_simp
      refine hK _ _ ?_
      clear hK K
      clear c5' f5' hS2
      rw [← hstep.out] at HP
      go_wp2_with fail
      go_roundw
      case rel => exact ⟨q + 1, A5, m + n, c5, by omega, by go_num, HP.out, by show m + n = (q + 1) * n; rw [hm0.out, Nat.add_mul, Nat.one_mul]⟩
      case measure => simp [intOf]; omega
    · obtain rfl : n = q := by omega
      have hmn : Hid (m = n * n) := hm0
      obtain rfl : n * n = m := hm0.out.symm
      have hD := hide (hS.out.done (.int .i64 (n : Int)) (.slice A (n * n) cA) (.slice B n cB))
      have s0 := hS.out.tab.c 0 rfl
      have s1 := hS.out.tab.c 1 rfl
      have s2 := hS.out.tab.c 2 rfl
      have U1 := hS.out.res.c 0 rfl
      have U2 := hS.out.res.c 1 rfl
      have U3 := hS.out.res.c 2 rfl
      have V1 := hS.out.res.f 0
      have V2 := hS.out.res.f 1
      have V3 := hS.out.res.f 2
      have zk := hS.out.res.lt
      clear hS hm0 hmn
      go_wp2_with fail
      refine bodyPost_ret (v := .tuple #[.agg #[.int .i64 (n : Int), .slice A (n * n) cA, .slice B n cB], .bool true]) (by simp [results, Tryz.results19, go_sem, U1, U2, U3, V1, V2, V3, zk]) rfl ⟨_, _, _, _, rfl, hD.out⟩
end Go.Proofs.YtfijcieponfcpaaGreatDoor
