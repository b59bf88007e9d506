/- Tableaus of collocation: the program's walk. -/
import Derived.Test.YtfijcieponfcpaaGreatDoorMgE
import Derived.Test.YtfijcieponfcpaaGreatDoorMgC
import Derived.Test.YtfijcieponfcpaaGreatDoorConjR
namespace Go.Proofs.YtfijcieponfcpaaGreatDoor
open Go.RowKit
set_option linter.unusedSimpArgs false
set_option linter.unusedVariables false
set_option maxRecDepth 20000

/-- The tableau under construction. -/
structure ColS (w0 w : World) (gr g4 gA gB n : Nat) (za zb : List Int) : Prop where
  res : BlkN w gr #[.int .i64 0, .slice none 0 0, .slice none 0 0]
  tab : BlkN w g4 #[.int .i64 (n : Int), .slice (some ⟨gA, 0, none⟩) (n * n) (n * n), .slice (some ⟨gB, 0, none⟩) n n]
  ha : w.heap[gA]? = some (.cells (iCells za) 3 (0, 0))
  hb : w.heap[gB]? = some (.cells (iCells zb) 3 (0, 0))
  low : Below w0.heap.size w0 w
  d1 : gA ≠ gB
  d2 : gA ≠ g4
  d3 : gA ≠ gr
  d4 : gB ≠ g4
  d5 : gB ≠ gr
  b1 : w0.heap.size ≤ gr
  b2 : w0.heap.size ≤ g4
  b3 : w0.heap.size ≤ gA
  b4 : w0.heap.size ≤ gB
section
variable {w0 w w' : World} {gr g4 gA gB n : Nat} {za zb : List Int}
theorem ColS.below (h : ColS w0 w gr g4 gA gB n za zb) (hb : Below w.heap.size w w') : ColS w0 w' gr g4 gA gB n za zb :=
  ⟨h.res.below hb, h.tab.below hb, (hb.block gA (Array.getElem?_eq_some_iff.1 h.ha).1).trans h.ha, (hb.block gB (Array.getElem?_eq_some_iff.1 h.hb).1).trans h.hb, h.low.trans (hb.mono h.low.size), h.d1, h.d2, h.d3, h.d4, h.d5, h.b1, h.b2, h.b3, h.b4⟩
theorem ColS.setA (h : ColS w0 w gr g4 gA gB n za zb) {zs : List Int} (h1 : w'.heap[gA]? = some (.cells (iCells zs) 3 (0, 0))) (ht : Touch gA (gA + 1) w w') : ColS w0 w' gr g4 gA gB n zs zb := by
  have e1 := h.d1
  have e2 := h.d2
  have e3 := h.d3
  have lB := (Array.getElem?_eq_some_iff.1 h.hb).1
  exact ⟨h.res.touch ht (by omega), h.tab.touch ht (by omega), h1, (ht.block gB lB (by omega)).trans h.hb, h.low.trans (ht.below h.b3 h.low.size), h.d1, h.d2, h.d3, h.d4, h.d5, h.b1, h.b2, h.b3, h.b4⟩
theorem ColS.setB (h : ColS w0 w gr g4 gA gB n za zb) {zs : List Int} (h1 : w'.heap[gB]? = some (.cells (iCells zs) 3 (0, 0))) (ht : Touch gB (gB + 1) w w') : ColS w0 w' gr g4 gA gB n za zs := by
  have e1 := h.d1
  have e2 := h.d4
  have e3 := h.d5
  have lA := (Array.getElem?_eq_some_iff.1 h.ha).1
  exact ⟨h.res.touch ht (by omega), h.tab.touch ht (by omega), (ht.block gA lA (by omega)).trans h.ha, h1, h.low.trans (ht.below h.b4 h.low.size), h.d1, h.d2, h.d3, h.d4, h.d5, h.b1, h.b2, h.b3, h.b4⟩
end

theorem ColS.start {w w1 : World} {gr gA gB n : Nat} {za zb : List Int} (k1 : BlkN w1 gr #[.int .i64 0, .slice none 0 0, .slice none 0 0]) (hgr : w.heap.size ≤ gr) (b1 : Below w.heap.size w w1)
    (hne : gA ≠ gB) (hA0 : w.heap.size ≤ gA) (hB0 : w.heap.size ≤ gB) (hA1 : gA < w1.heap.size) (hB1 : gB < w1.heap.size) (dA : gA ≠ gr) (dB : gB ≠ gr) (hOA : OwnI w1 gA (gA + 1) (some ⟨gA, 0, none⟩) (n * n) (n * n) za) (hOB : OwnI w1 gB (gB + 1) (some ⟨gB, 0, none⟩) n n zb) :
    ColS w (w1.alloc (.cells #[.int .i64 (n : Int), .slice (some ⟨gA, 0, none⟩) (n * n) (n * n), .slice (some ⟨gB, 0, none⟩) n n] 24)) gr w1.heap.size gA gB n za zb := by
  have bV := below_alloc w1 (.cells #[.int .i64 (n : Int), .slice (some ⟨gA, 0, none⟩) (n * n) (n * n), .slice (some ⟨gB, 0, none⟩) n n] 24)
  have kV := BlkN.new w1 #[.int .i64 (n : Int), .slice (some ⟨gA, 0, none⟩) (n * n) (n * n), .slice (some ⟨gB, 0, none⟩) n n] 24
  have hz := b1.size
  exact ⟨k1.below bV, kV, (bV.block gA hA1).trans hOA.block, (bV.block gB hB1).trans hOB.block, b1.trans (bV.mono hz), hne, by omega, dA, by omega, dB, hgr, hz, hA0, hB0⟩

theorem ColS.done {w0 w : World} {gr g4 gA gB n : Nat} {za zb : List Int} (h : ColS w0 w gr g4 gA gB n za zb) (hA : za.length = n * n) (hB : zb.length = n) (hn : n ≤ 8) (rA : ∀ x ∈ za, R64 x) (rB : ∀ x ∈ zb, R64 x) (v1 v2 v3 : Value) :
    OwnI (((w.setCell ⟨gr, 0, none⟩ v1).setCell ⟨gr, 1, none⟩ v2).setCell ⟨gr, 2, none⟩ v3) w0.heap.size (((w.setCell ⟨gr, 0, none⟩ v1).setCell ⟨gr, 1, none⟩ v2).setCell ⟨gr, 2, none⟩ v3).heap.size (some ⟨gA, 0, none⟩) (n * n) (n * n) za ∧
    OwnI (((w.setCell ⟨gr, 0, none⟩ v1).setCell ⟨gr, 1, none⟩ v2).setCell ⟨gr, 2, none⟩ v3) w0.heap.size (((w.setCell ⟨gr, 0, none⟩ v1).setCell ⟨gr, 1, none⟩ v2).setCell ⟨gr, 2, none⟩ v3).heap.size (some ⟨gB, 0, none⟩) n n zb ∧
    Below w0.heap.size w0 (((w.setCell ⟨gr, 0, none⟩ v1).setCell ⟨gr, 1, none⟩ v2).setCell ⟨gr, 2, none⟩ v3) := by
  have h64 : n * n ≤ 64 := Nat.mul_le_mul hn hn
  have hb : ∀ b, b ≠ gr → (((w.setCell ⟨gr, 0, none⟩ v1).setCell ⟨gr, 1, none⟩ v2).setCell ⟨gr, 2, none⟩ v3).heap[b]? = w.heap[b]? := fun b hb =>
    ((Below.heap_setCell _ ⟨gr, 2, none⟩ _ b hb).trans (Below.heap_setCell _ ⟨gr, 1, none⟩ _ b hb)).trans (Below.heap_setCell _ ⟨gr, 0, none⟩ _ b hb)
  exact ⟨block_own ((hb _ h.d3).trans h.ha) hA h.b3 (by omega) rA, block_own ((hb _ h.d5).trans h.hb) hB h.b4 (by omega) rB, ((h.low.setCell (p := ⟨gr, 0, none⟩) h.b1 v1).setCell (p := ⟨gr, 1, none⟩) h.b1 v2).setCell (p := ⟨gr, 2, none⟩) h.b1 v3⟩

set_option maxRecDepth 100000 in
set_option maxHeartbeats 8000000 in
theorem impl_Collocation (g0 n c : Nat) (xs : List Int) (lo hi : Nat) (w : World) (h : Ints w lo hi (some ⟨g0, 0, none⟩) n c xs) (hh : hi ≤ w.heap.size) (hn : 0 < n) (hn2 : n ≤ 8) (hx : ∀ x ∈ xs, 0 ≤ x ∧ x < 1000000271) (hd : xs.Nodup)
    (hf : ∀ x ∈ xs, FullF n (vanM xs n) (goalL (powGoal x) n)) (hf1 : FullF n (vanM xs n) (goalL (fracF 1) n)) :
    Calls Tryz.prog 30 #[.slice (some ⟨g0, 0, none⟩) n c] w fun e w' => ∃ A cA B cB, e = .returned (.tuple #[.agg #[.int .i64 (n : Int), .slice A (n * n) cA, .slice B n cB], .bool true]) ∧
      OwnI w' w.heap.size w'.heap.size A (n * n) cA (catF xs n) ∧ OwnI w' w.heap.size w'.heap.size B n cB (solF n (vanM xs n) (goalL (fracF 1) n)) ∧ Below w.heap.size w w' := by
  have hcp := h.cap
  have hm := h.max
  have hlx := hide h.len
  have HX := hide hx
  have HF := hide hf
  have HF1 := hide hf1
  have b0 := below_alloc w (.cells #[.int .i64 0, .slice none 0 0, .slice none 0 0] 24)
  have k0 := BlkN.new w #[.int .i64 0, .slice none 0 0, .slice none 0 0] 24
  have hI0 := h.below b0 hh
  have hgw : g0 < w.heap.size := by
    obtain ⟨ad, e, _, h2, _⟩ := h.cells hn
    injection e with e
    subst e
    exact Nat.lt_of_lt_of_le h2 hh
  have HAN := hide (impl_allNumbers (some ⟨g0, 0, none⟩) n c xs lo hi _ hI0)
  rw [allNumF_of hx] at HAN
  have HAD := hide (impl_allDifferent g0 n c xs lo hi _ hI0 hd)
  have hn8 : ¬ (8 : Int) < n := by omega
  have hn0 : ((n : Int) == 0) = false := by simp; omega
  have HI := hide h
  clear h hx hd hf hf1 hI0
  go_enter Tryz.func30, Tryz.ntmps30
  go_wp2_with (first
    | (go_at_call 60; refine HAN.out.mono ?_; rintro e w' ⟨rfl, rfl⟩)
    | (go_at_call 61; refine HAD.out.mono ?_; rintro e w' ⟨rfl, rfl⟩)
    | (go_at_call 36; refine (impl_empty n hn2 _).mono ?_; rintro e w1 ⟨gA, gB, rfl, hne, hA0, hB0, hA1, hB1, hOA, hOB, hbE⟩; have k1 := k0.below hbE; have b1 := b0.trans (hbE.mono b0.size); have z0 := b0.size; have HS := hide (ColS.start k1 (Nat.le_refl _) b1 hne (by have : (w.alloc (.cells #[.int .i64 0, .slice none 0 0, .slice none 0 0] 24)).heap.size = w.heap.size + 1 := (by simp); omega) (by have : (w.alloc (.cells #[.int .i64 0, .slice none 0 0, .slice none 0 0] 24)).heap.size = w.heap.size + 1 := (by simp); omega) hA1 hB1 (by have : (w.alloc (.cells #[.int .i64 0, .slice none 0 0, .slice none 0 0] 24)).heap.size = w.heap.size + 1 := (by simp); omega) (by have : (w.alloc (.cells #[.int .i64 0, .slice none 0 0, .slice none 0 0] 24)).heap.size = w.heap.size + 1 := (by simp); omega) hOA hOB); clear hne hA0 hB0 hA1 hB1 hOA hOB hbE b1 k1 z0))
  clear HAN HAD k0 b0 hn0 hn8
  have h64 : n * n ≤ 64 := Nat.mul_le_mul hn2 hn2
  rw [show List.replicate (n * n) (0 : Int) = layF xs 0 by rw [lay_zero, hlx.out]] at HS
  generalize w1.alloc (.cells #[.int .i64 (n : Int), .slice (some ⟨gA, 0, none⟩) (n * n) (n * n), .slice (some ⟨gB, 0, none⟩) n n] 24) = W at HS ⊢
  go_loopw [31] (fun i wr => ∃ (q : Nat), q ≤ n ∧ i = .int .i64 q ∧ Hid (ColS w wr w.heap.size w1.heap.size gA gB n (layF xs q) (List.replicate n 0)) ∧ Hid (∀ y ∈ layF xs q, R64 y)) (fun i _ => n - (intOf i).toNat)
  case atStart => exact ⟨0, by omega, rfl, HS.out, fun y hy => by rw [lay_zero] at hy; have := (List.mem_replicate.1 hy).2; subst this; constructor <;> omega⟩
  case round =>
    clear HS
    obtain ⟨q, hq, rfl, hS, hR⟩ := hrel
    have hsz := hS.out.low.size
    by_cases hlt : q < n
    · obtain ⟨ad, x, e, hc0, hxr, _, hxx⟩ := (HI.out.below hS.out.low hh).at_ hlt
      injection e with e
      subst e
      have hcx : wr.cell? ⟨g0, q, none⟩ = some (.int .i64 x) := by simpa [Addr.add_lit] using hc0
      have hxm := List.mem_of_getElem? hxx.out
      have hqn : q * n + n ≤ n * n := by
        have := Nat.mul_le_mul_right n (show q + 1 ≤ n from hlt)
        rwa [Nat.add_mul, Nat.one_mul] at this
      have hll : Hid ((layF xs q).length = n * n) := by show _ = _; rw [lay_len (by rw [hlx.out]; exact hq), hlx.out]
      have hstep := hide (lay_step hlx.out hxx.out)
      have hbc := below_alloc wr (.cells #[.int .i64 x] 3)
      have hkc := hide (BlkN.new wr #[.int .i64 x] 3)
      have hS2 := hide (hS.out.below hbc)
      have HFX := hide (HF.out x hxm)
      have hb2' := hide (hS.out.low.trans (hbc.mono hsz))
      have t0 := hS2.out.tab.c 0 rfl
      have t1 := hS2.out.tab.c 1 rfl
      have t2 := hS2.out.tab.c 2 rfl
      clear hc0 hxx hbc
      have hgc := HI.out.cap
      go_wp2_with (first
        | (go_at_call 41; refine (impl_row n gA (n * n) (n * n) (some ⟨gB, 0, none⟩) n n q _ hn2 rfl hlt (Nat.le_refl _) (by omega)).mono ?_; rintro e w2 ⟨rfl, hbr⟩; have hS3 := hide (hS2.out.below hbr); have hkc2 := hide (hkc.out.below hbr); have hI2 := hide (HI.out.below hS3.out.low hh); have hz2 := hS3.out.low.size; clear hbr)
        | (go_at_call 62; refine (impl_quadrature1 (some ⟨g0, 0, none⟩) n c xs wr.heap.size (powGoal x) lo hi _ hI2.out (by omega) hn hn2 (fun k => fracF_bd _ _) HFX.out (fun W k hW h0 h8 => impl_clos1 wr.heap.size x k W ((hW.cell (p := ⟨wr.heap.size, 0, none⟩) hkc2.out.lt).trans (hkc2.out.c 0 rfl)) hxr h0 h8)).mono ?_; rintro e w3 ⟨R, d, rfl, hO3, hb3⟩; have hS4 := hide (hS3.out.below hb3); have hO4 := hide hO3; clear hO3 hb3)
        | (with_reducible refine wpl_copyO rfl _ _ rfl w3 gA (q * n) n (n * n - q * n) R d _ (layF xs q) _ _ rfl rfl hS4.out.ha hn (by rw [hll.out]; exact hqn) hO4.out.ints ?_; intro w4 hg4 ht4 hz4; rw [hstep.out] at hg4; have hS5 := hide (hS4.out.setA hg4 ht4); clear hg4 ht4))
      have hR5 : Hid (∀ y ∈ layF xs (q + 1), R64 y) := fun y hy => by
        rw [← hstep.out] at hy
        rcases List.mem_append.1 hy with hy | hy
        · exact hR.out y (List.mem_of_mem_take hy)
        · rcases List.mem_append.1 hy with hy | hy
          · exact hO4.out.rng y hy
          · exact hR.out y (List.mem_of_mem_drop hy)
      refine ⟨⟨q + 1, by omega, by go_num, hS5.out, hR5.out⟩, ?_⟩
      simp [intOf]; omega
    · obtain rfl : n = q := by omega
      have hSd := hide (hS.out.below ((Below.refl _ _).drew))
      have hId := hide (HI.out.below hSd.out.low hh)
      have hzd := hSd.out.low.size
      have t2 := hS.out.tab.c 2 rfl
      have t2d := hSd.out.tab.c 2 rfl
      have hll : Hid ((catF xs n).length = n * n) := by have h1 := cat_len xs n (Nat.le_of_eq hlx.out.symm); rw [hlx.out] at h1; exact h1
      rw [lay_all hlx.out] at hSd hR
      clear hS
      go_wp2_with fail
      go_region_held3 (fun w' => w'.cell? ⟨w1.heap.size, 2, none⟩ = some (.slice (some ⟨gB, 0, none⟩) n n)) (first | exact t2 | exact t2d | exact T3 | exact T4 | go_keep)
        (first
          | (go_at_call 62; refine (impl_quadrature2 (some ⟨g0, 0, none⟩) n c xs (fracF 1) lo hi _ hId.out (by omega) hn hn2 (fun k => fracF_bd _ _) HF1.out (fun W k _ h0 h8 => impl_clos2 k W h0 h8)).mono ?_; rintro e w3 ⟨R, d, rfl, hO3, hb3⟩; have hS4 := hide (hSd.out.below hb3); have hO4 := hide hO3; have T3 := hS4.out.tab.c 2 rfl; clear hO3 hb3)
          | (refine step_copyO (by rfl) _ _ (by rfl) w3 gB 0 n n R d _ (List.replicate n 0) _ _ (by rfl) (by rfl) hS4.out.hb hn (by simp) hO4.out.ints ?_; intro w4 hg4 ht4 hz4; have hS5 := hide (hS4.out.setB hg4 ht4); have T4 := hS5.out.tab.c 2 rfl; clear hg4 ht4))
      have e5 : (List.replicate n (0 : Int)).take 0 ++ (solF n (vanM xs n) (goalL (fracF 1) n) ++ (List.replicate n (0 : Int)).drop (0 + n)) = solF n (vanM xs n) (goalL (fracF 1) n) := by simp
      rw [e5] at hS5
      have hD := hide (hS5.out.done hll.out (wgt_len xs _ hlx.out) hn2 hR.out hO4.out.rng (.int .i64 (n : Int)) (.slice (some ⟨gA, 0, none⟩) (n * n) (n * n)) (.slice (some ⟨gB, 0, none⟩) n n))
      have s0 := hS5.out.tab.c 0 rfl
      have s1 := hS5.out.tab.c 1 rfl
      have U1 := hS5.out.res.c 0 rfl
      have U2 := hS5.out.res.c 1 rfl
      have U3 := hS5.out.res.c 2 rfl
      have V1 := hS5.out.res.f 0
      have V2 := hS5.out.res.f 1
      have V3 := hS5.out.res.f 2
      have zk := hS5.out.res.lt
      clear hS4 hO4 hSd T3 t2 t2d e5 hR
      go_wp2_with fail
      refine bodyPost_ret (v := .tuple #[.agg #[.int .i64 (n : Int), .slice (some ⟨gA, 0, none⟩) (n * n) (n * n), .slice (some ⟨gB, 0, none⟩) n n], .bool true]) (by simp [results, Tryz.results30, go_sem, U1, U2, U3, V1, V2, V3, zk]) rfl ⟨_, _, _, _, rfl, hD.out⟩
end Go.Proofs.YtfijcieponfcpaaGreatDoor
