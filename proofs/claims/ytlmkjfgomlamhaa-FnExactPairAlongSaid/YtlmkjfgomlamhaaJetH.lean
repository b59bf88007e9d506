/- Steps of pairs along paths: the reference's walk. -/
import Derived.Test.YtlmkjfgomlamhaaJetG
import Derived.Test.YtlmkjfgomlamhaaJetS
import Derived.Test.YtlmkjfgomlamhaaJetQ
namespace Go.Proofs.Ytlmkjfgomlamhaa
open Go.RowKit
set_option linter.unusedSimpArgs false
set_option linter.unusedVariables false
set_option maxRecDepth 20000

theorem info_rowsJ : (Try.prog.info? 30).map (fun i => (i.zero, i.size, i.bytes)) = some (some (.slice none 0 0), 1, 24) := by kernel_rfl
theorem plus_zero {n : Nat} {y : List Int} (hl : y.length = n) (hy : ∀ x ∈ y, 0 ≤ x ∧ x < 1000000271) (k : Int) : jplus y (later1 (zeroJ n)) k = y := by
  refine tabJ_eq (n := n) (by rw [jplus_len, hl]) hl fun j hj => ?_
  rw [jplus, tabJ_get _ (by omega)]
  have hz : (later1 (zeroJ n)).getD j 0 = 0 := by
    rw [later1, tabJ_get _ (by rw [zero_len]; exact hj)]
    split
    · rfl
    · simp [zeroJ, List.getD]
      by_cases h : j - 1 < n <;> simp [h]
  have hm := hy (y.getD j 0) (by rw [List.getD_eq_getElem?_getD, List.getElem?_eq_getElem (by omega)]; exact List.getElem_mem _)
  rw [hz]
  unfold plusF timesF
  rw [Int.zero_mul]
  omega
theorem acc_zero {n : Nat} {y : List Int} (hl : y.length = n) (hy : ∀ x ∈ y, 0 ≤ x ∧ x < 1000000271) (ws : List Int) : ∀ S, accJ y (fun _ => zeroJ n) ws S = y
  | 0 => rfl
  | S + 1 => by rw [accJ, acc_zero hl hy ws S, plus_zero hl hy]
theorem atL_zero {n dim : Nat} (S : Nat) {yss : List (List Int)} (row : Nat → Nat → List Int) (s : Nat) (hN : JNum n yss) (hl : yss.length = dim) : atL dim S yss row (fun _ _ => zeroJ n) s = yss := by
  apply List.ext_getElem?
  intro i
  by_cases hi : i < dim
  · have h := hN yss[i] (List.getElem_mem (by omega))
    rw [atL_at yss row _ s hi, List.getElem?_eq_getElem (by omega), show yss.getD i [] = yss[i] by simp [List.getD, show i < yss.length by omega]]
    exact congrArg some (acc_zero h.1 h.2 _ _)
  · rw [List.getElem?_eq_none (by rw [atL_len]; omega), List.getElem?_eq_none (by omega)]
theorem sel_acc {dim S : Nat} {cs : List Int} {yss : List (List Int)} (V : Nat → Nat → List Int) (u u' : List Int) (hl : yss.length = dim) (hcl : cs.length = dim) (hcc : ∀ c ∈ cs, c = 0 ∨ c = 1) :
    selL cs (movL yss u (stJ S dim V)) (movL yss u' (stJ S dim V)) = (List.range dim).map fun i => accJ (yss.getD i []) (fun s => V s i) (if cs.getD i 0 = 0 then u else u') S := by
  have key : ∀ (w : List Int) (i : Nat), i < dim → accJ (yss.getD i []) (fun s => ((stJ S dim V).getD s []).getD i []) w (stJ S dim V).length = accJ (yss.getD i []) (fun s => V s i) w S := fun w i hi => by
    rw [stJ_len]
    exact acc_congr _ _ _ fun s hs => stJ_at V hs hi
  apply List.ext_getElem?
  intro i
  by_cases hi : i < dim
  · have hc1 : cs[i]? = some (cs[i]'(by omega)) := List.getElem?_eq_getElem (by omega)
    have hgd : cs.getD i 0 = cs[i]'(by omega) := by rw [List.getD, hc1]; rfl
    have hyi : yss[i]? = some (yss.getD i []) := by rw [List.getD, List.getElem?_eq_getElem (by omega)]; rfl
    have hr : ((List.range dim).map fun i => accJ (yss.getD i []) (fun s => V s i) (if cs.getD i 0 = 0 then u else u') S)[i]? = some (accJ (yss.getD i []) (fun s => V s i) (if cs.getD i 0 = 0 then u else u') S) := by simp [hi]
    rw [hr]
    rcases hcc _ (List.mem_of_getElem? hc1) with hz | hz
    · rw [selL_none (c := 0) (by rw [movL_len]; omega) (by rw [hc1, hz]) (by omega), movL_at _ _ hyi, key _ _ hi, hgd, hz, if_pos rfl]
    · rw [selL_one (y := accJ (yss.getD i []) (fun s => ((stJ S dim V).getD s []).getD i []) u' (stJ S dim V).length) (by rw [movL_len]; omega) (by rw [hc1, hz]) (movL_at _ _ hyi), key _ _ hi, hgd, hz, if_neg (by omega)]
  · rw [List.getElem?_eq_none (by rw [selL_len, movL_len]; omega), List.getElem?_eq_none (by simp; omega)]
theorem sel_at {dim S : Nat} {cs : List Int} {yss : List (List Int)} (V : Nat → Nat → List Int) (xs xs' : List Int) (s : Nat) (hl : yss.length = dim) (hcl : cs.length = dim) (hcc : ∀ c ∈ cs, c = 0 ∨ c = 1) :
    selL cs (movL yss (rowJ xs S s) (stJ S dim V)) (movL yss (rowJ xs' S s) (stJ S dim V)) = atL dim S yss (fun i s => rowJ (if cs.getD i 0 = 0 then xs else xs') S s) V s := by
  rw [sel_acc V _ _ hl hcl hcc]
  unfold atL
  congr 1
  funext i
  show accJ _ _ (if cs.getD i 0 = 0 then rowJ xs S s else rowJ xs' S s) S = accJ _ _ (rowJ (if cs.getD i 0 = 0 then xs else xs') S s) S
  by_cases h : cs.getD i 0 = 0
  · rw [if_pos h, if_pos h]
  · rw [if_neg h, if_neg h]
theorem sel_out {n dim S : Nat} {cs : List Int} (ps : List (List Mono)) {yss : List (List Int)} (xs xs' ys ys' : List Int) (hl : yss.length = dim) (hcl : cs.length = dim) (hcc : ∀ c ∈ cs, c = 0 ∨ c = 1) :
    selL cs (movL yss ys (stJ S dim (itJ n S ps yss (fun i => if cs.getD i 0 = 0 then xs else xs') (n + 1)))) (movL yss ys' (stJ S dim (itJ n S ps yss (fun i => if cs.getD i 0 = 0 then xs else xs') (n + 1)))) = outJ n dim S ps yss (fun i => if cs.getD i 0 = 0 then xs else xs') (fun i => if cs.getD i 0 = 0 then ys else ys') := by
  rw [sel_acc _ _ _ hl hcl hcc]
  unfold outJ itJ
  rw [iter_rest]

set_option maxRecDepth 100000 in
set_option maxHeartbeats 8000000 in
theorem spec_PairAlong_bad (s : Int) (A : Option Addr) (n c : Nat) (xs : List Int) (B : Option Addr) (m d : Nat) (ys : List Int) (s' : Int) (A' : Option Addr) (n' c' : Nat) (xs' : List Int) (B' : Option Addr) (m' d' : Nat) (ys' : List Int) (o : Int) (P : Option Addr) (k e : Nat) (ps : List (List Mono)) (C : Option Addr) (nC cC : Nat) (cs : List Int) (X : Option Addr) (x f : Nat) (xss : List (List Int)) (lo hi : Nat) (w : World)
    (h : Ints w lo hi A n c xs) (g : Ints w lo hi B m d ys) (h' : Ints w lo hi A' n' c' xs') (g' : Ints w lo hi B' m' d' ys') (hp : Mons2 w lo hi P k e ps) (hc : Ints w lo hi C nC cC cs) (hx : Ints2 w lo hi X x f xss) (hh : hi ≤ w.heap.size) (hlen : ∀ p ∈ ps, ∀ m ∈ p, m.2.length ≤ 1048576)
    (hbad : pairAlOk s xs ys s' xs' ys' o ps cs xss = false) :
    Calls Try.prog 7 #[.agg #[.int .i64 s, .slice A n c, .slice B m d, .int .i64 s', .slice A' n' c', .slice B' m' d'], .agg #[.int .i64 o, .slice P k e], .slice C nC cC, .slice X x f] w fun r w' => r = .returned (.slice none 0 0) ∧ Below w.heap.size w w' := by
  have hcl := hc.len
  have b0 := below_alloc w (.cells #[.int .i64 s, .slice A n c, .slice B m d, .int .i64 s', .slice A' n' c', .slice B' m' d'] 37)
  have k0 := BlkN.new w #[.int .i64 s, .slice A n c, .slice B m d, .int .i64 s', .slice A' n' c', .slice B' m' d'] 37
  have z0 : (w.alloc (.cells #[.int .i64 s, .slice A n c, .slice B m d, .int .i64 s', .slice A' n' c', .slice B' m' d'] 37)).heap.size = w.heap.size + 1 := by simp
  go_enter Try.func7, Try.ntmps7
  go_wp2_with fail
  generalize w.alloc (.cells #[.int .i64 s, .slice A n c, .slice B m d, .int .i64 s', .slice A' n' c', .slice B' m' d'] 37) = W0 at b0 k0 z0 ⊢
  have k1 := BlkN.new W0 #[.int .i64 o, .slice P k e] 41
  rw [z0] at k1
  have b1 := b0.alloc (by omega) (.cells #[.int .i64 o, .slice P k e] 41)
  have k2 := k0.alloc (.cells #[.int .i64 o, .slice P k e] 41)
  generalize W0.alloc (.cells #[.int .i64 o, .slice P k e] 41) = W1 at b1 k1 k2 ⊢
  clear b0 k0 z0
  have z1 := b1.size
  refine (spec_l8FineJ o P k e ps X x f xss lo hi W1 (hp.below b1 hh) (hx.below b1 hh) (by omega) hlen).mono ?_
  rintro r w2 ⟨rfl, hb2⟩
  have b2 := b1.trans (hb2.mono z1)
  have k3 := k2.below hb2
  have k4 := k1.below hb2
  have z2 := b2.size
  cases ht : (fieldF o ps && pathOkF xss o) with
  | false =>
    clear ht k1 k2 k3 k4
    go_wp2_with fail
    go_ret
    exact ⟨rfl, b2⟩
  | true =>
    have v0 := k4.c 0 rfl
    have v1 := k4.c 1 rfl
    clear k1 k2
    go_wp2_with fail
    clear v0 v1
    refine (spec_l10Colours o P k e C nC cC cs lo hi w2 (hc.below b2 hh) (by omega)).mono ?_
    rintro r w3 ⟨rfl, hb3⟩
    have b3 := b2.trans (hb3.mono z2)
    have k5 := k3.below hb3
    have z3 := b3.size
    cases ht2 : (colGo cs && decide ((nC : Int) = o)) with
    | false =>
      clear ht ht2 k3 k4 k5
      go_wp2_with fail
      go_ret
      exact ⟨rfl, b3⟩
    | true =>
      have hP : pairOkF s xs ys s' xs' ys' = false := by
        unfold pairAlOk colOkF at hbad
        rw [ht, hcl, Bool.and_comm (decide _) (colGo cs), ht2] at hbad
        simpa using hbad
      have u0 := k5.c 0 rfl
      have u1 := k5.c 1 rfl
      have u2 := k5.c 2 rfl
      have u3 := k5.c 3 rfl
      have u4 := k5.c 4 rfl
      have u5 := k5.c 5 rfl
      clear ht ht2 k3 k4 k5
      go_wp2_with fail
      clear u0 u1 u2 u3 u4 u5
      refine (spec_PairOk s A n c xs B m d ys s' A' n' c' xs' B' m' d' ys' lo hi w3 (h.below b3 hh) (g.below b3 hh) (h'.below b3 hh) (g'.below b3 hh) (by omega)).mono ?_
      rw [hP]
      rintro r w4 ⟨rfl, hb4⟩
      have b4 := b3.trans (hb4.mono z3)
      go_wp2_with fail
      go_ret
      exact ⟨rfl, b4⟩

/-- the pair and the field in the call's own cells -/
structure EnvP (w wr : World) (vp vf : Array Value) : Prop where
  low : Below w.heap.size w wr
  par : BlkN wr w.heap.size vp
  fld : BlkN wr (w.heap.size + 1) vf
theorem EnvP.below {w wr w' : World} {vp vf : Array Value} (h : EnvP w wr vp vf) {B : Nat} (hb : Below B wr w') (hB : w.heap.size + 2 ≤ B) : EnvP w w' vp vf :=
  ⟨h.low.trans (hb.mono (by omega)), h.par.same (hb.block _ (by omega)), h.fld.same (hb.block _ (by omega))⟩
theorem EnvP.drew {w wr : World} {vp vf : Array Value} (h : EnvP w wr vp vf) : EnvP w wr.drew vp vf := ⟨h.low.drew, h.par.drew, h.fld.drew⟩
theorem EnvP.size {w wr : World} {vp vf : Array Value} (h : EnvP w wr vp vf) : w.heap.size + 2 ≤ wr.heap.size := h.fld.lt

set_option maxRecDepth 100000 in
set_option maxHeartbeats 16000000 in
theorem spec_PairAlong_good (S dim np : Nat) (A : Option Addr) (c : Nat) (xs : List Int) (B : Option Addr) (d : Nat) (ys : List Int) (A' : Option Addr) (c' : Nat) (xs' : List Int) (B' : Option Addr) (d' : Nat) (ys' : List Int) (P : Option Addr) (e : Nat) (ps : List (List Mono)) (C : Option Addr) (cC : Nat) (cs : List Int) (X : Option Addr) (f : Nat) (xss : List (List Int)) (lo hi : Nat) (w : World)
    (h : Ints w lo hi A (S * S) c xs) (g : Ints w lo hi B S d ys) (h' : Ints w lo hi A' (S * S) c' xs') (g' : Ints w lo hi B' S d' ys') (hp : Mons2 w lo hi P dim e ps) (hc : Ints w lo hi C dim cC cs) (hx : Ints2 w lo hi X np f xss) (hh : hi ≤ w.heap.size) (hlen : ∀ p ∈ ps, ∀ m ∈ p, m.2.length ≤ 1048576)
    (hA : 0 < S → ∃ gA, A = some ⟨gA, 0, none⟩) (hA' : 0 < S → ∃ gA, A' = some ⟨gA, 0, none⟩) (hok : AlOk S dim np xs ys xs' ys' ps cs xss) (hgood : pairAlOk (S : Int) xs ys (S : Int) xs' ys' (dim : Int) ps cs xss = true) :
    Calls Try.prog 7 #[.agg #[.int .i64 (S : Int), .slice A (S * S) c, .slice B S d, .int .i64 (S : Int), .slice A' (S * S) c', .slice B' S d'], .agg #[.int .i64 (dim : Int), .slice P dim e], .slice C dim cC, .slice X np f] w fun r w' => ∃ gR cR, r = .returned (.slice (some ⟨gR, 0, none⟩) np cR) ∧ Ints2 w' w.heap.size w'.heap.size (some ⟨gR, 0, none⟩) np cR (pairAl (S : Int) xs ys (S : Int) xs' ys' (dim : Int) ps cs xss) ∧ Below w.heap.size w w' := by
  obtain ⟨i0, hi0, hz0, hz1, hz2⟩ := info_parts info_rowsJ
  have hS8 := hok.s8
  have hd0 := hok.d0
  have hd6 := hok.d6
  have hn0 := hok.n0
  have hn7 := hok.n7
  have HK := hide hok
  have hxp := hx.cap
  have hxm := hx.max
  have HC := hide hc
  have HX := hide hx
  have HP := hide hp
  have HA := hide h
  have HB := hide g
  have HA' := hide h'
  have HB' := hide g'
  have hfA := hide hA
  have hfA' := hide hA'
  have b0 := below_alloc w (.cells #[.int .i64 (S : Int), .slice A (S * S) c, .slice B S d, .int .i64 (S : Int), .slice A' (S * S) c', .slice B' S d'] 37)
  have k0 := BlkN.new w #[.int .i64 (S : Int), .slice A (S * S) c, .slice B S d, .int .i64 (S : Int), .slice A' (S * S) c', .slice B' S d'] 37
  have z0 : (w.alloc (.cells #[.int .i64 (S : Int), .slice A (S * S) c, .slice B S d, .int .i64 (S : Int), .slice A' (S * S) c', .slice B' S d'] 37)).heap.size = w.heap.size + 1 := by simp
  obtain ⟨q0, hq0⟩ : ∃ q, q = S * S := ⟨_, rfl⟩
  have hqs := hide hq0
  have hq64 : q0 ≤ 64 := by rw [hq0]; exact Nat.mul_le_mul hS8 hS8
  rw [← hq0] at h h' b0 k0 z0 HA HA' ⊢
  have hac := h.cap
  have ham := h.max
  have hac' := h'.cap
  have ham' := h'.max
  have hbc := g.cap
  have hbm := g.max
  have hbc' := g'.cap
  have hbm' := g'.max
  clear hq0 hA hA' hok
  go_enter Try.func7, Try.ntmps7
  go_wp2_with fail
  generalize w.alloc (.cells #[.int .i64 (S : Int), .slice A q0 c, .slice B S d, .int .i64 (S : Int), .slice A' q0 c', .slice B' S d'] 37) = W0 at b0 k0 z0 ⊢
  have k1 := BlkN.new W0 #[.int .i64 (dim : Int), .slice P dim e] 41
  rw [z0] at k1
  have b1 := b0.alloc (by omega) (.cells #[.int .i64 (dim : Int), .slice P dim e] 41)
  have k2 := k0.alloc (.cells #[.int .i64 (dim : Int), .slice P dim e] 41)
  generalize W0.alloc (.cells #[.int .i64 (dim : Int), .slice P dim e] 41) = W1 at b1 k1 k2 ⊢
  clear b0 k0 z0
  have z1 := b1.size
  refine (spec_l8FineJ (dim : Int) P dim e ps X np f xss lo hi W1 (hp.below b1 hh) (hx.below b1 hh) (by omega) hlen).mono ?_
  have ht : (fieldF (dim : Int) ps && pathOkF xss (dim : Int)) = true := by unfold pairAlOk colOkF at hgood; simp only [Bool.and_eq_true] at hgood ⊢; exact hgood.1.1
  have htp : pairOkF (S : Int) xs ys (S : Int) xs' ys' = true := by unfold pairAlOk at hgood; rw [Bool.and_eq_true] at hgood; exact hgood.2
  rw [ht]
  rintro r w2 ⟨rfl, hb2⟩
  have b2 := b1.trans (hb2.mono z1)
  have k3 := k2.below hb2
  have k4 := k1.below hb2
  have z2 := b2.size
  have v0 := k4.c 0 rfl
  have v1 := k4.c 1 rfl
  clear ht k1 k2 hb2 b1 z1
  go_wp2_with fail
  clear v0 v1
  refine (spec_l10Colours (dim : Int) P dim e C dim cC cs lo hi w2 (hc.below b2 hh) (by omega)).mono ?_
  have ht2 : (colGo cs && decide ((dim : Int) = (dim : Int))) = true := by unfold pairAlOk colOkF at hgood; simp only [Bool.and_eq_true] at hgood; rw [hgood.1.2.2]; simp
  rw [ht2]
  rintro r w3 ⟨rfl, hb3⟩
  have b3 := b2.trans (hb3.mono z2)
  have k5 := k3.below hb3
  have k6 := k4.below hb3
  have z3 := b3.size
  have u0 := k5.c 0 rfl
  have u1 := k5.c 1 rfl
  have u2 := k5.c 2 rfl
  have u3 := k5.c 3 rfl
  have u4 := k5.c 4 rfl
  have u5 := k5.c 5 rfl
  clear ht2 k3 k4 hb3 b2 z2
  go_wp2_with fail
  clear u0 u1 u2 u3 u4 u5
  refine (spec_PairOk (S : Int) A q0 c xs B S d ys (S : Int) A' q0 c' xs' B' S d' ys' lo hi w3 (h.below b3 hh) (g.below b3 hh) (h'.below b3 hh) (g'.below b3 hh) (by omega)).mono ?_
  rw [htp]
  rintro r w4 ⟨rfl, hb4⟩
  have E4 := hide (⟨b3.trans (hb4.mono z3), k5.below hb4, k6.below hb4⟩ : EnvP w w4 #[.int .i64 (S : Int), .slice A q0 c, .slice B S d, .int .i64 (S : Int), .slice A' q0 c', .slice B' S d'] #[.int .i64 (dim : Int), .slice P dim e])
  have z4 := E4.out.low.size
  have z42 := E4.out.size
  clear htp hp hc hx h g h' g' k5 k6 hb4 b3 z3 W0
  have hnl := hide HK.out.nl
  have hNum : Hid (JNum np (turnL xss dim)) := by have := turn_num HK.out.rw'; rw [hnl.out] at this; exact this
  have HT0 := hide (spec_l8Turn X np f xss lo hi dim w4 (HX.out.below E4.out.low hh) (by omega) (fun r hr => (HK.out.rw' r hr).1) (by omega) (by omega) (by omega) (by omega))
  go_wp2_with (go_at_call 28; refine HT0.out.mono ?_; rintro r w5 ⟨gy, cy, rfl, hy5, hb5⟩; have hY := hide hy5; have E5 := hide (E4.out.below hb5 z42); have z5 := hb5.size; clear HT0 hb5 hy5)
  have hyl := hide (turn_len xss dim)
  have hcy := hY.out.cap
  have hmy := hY.out.max
  obtain ⟨tA, htA⟩ : ∃ tA : Nat → List Int, tA = fun i => if cs.getD i 0 = 0 then xs else xs' := ⟨_, rfl⟩
  have HtA := hide htA
  have hV1 : Hid (valL np ps (turnL xss dim) = (List.range dim).map fun i => itJ np S ps (turnL xss dim) tA 1 0 i) := by
    show _ = _
    rw [← val_it tA 0 0 HK.out.gf.1 hyl.out]
    exact congrArg _ (atL_zero S _ 0 hNum.out hyl.out).symm
  have hst1 : Hid (∀ s, s < S → (stJ S dim (itJ np S ps (turnL xss dim) tA 1))[s]? = some (valL np ps (turnL xss dim))) := fun s hs => by
    rw [stJ_get _ hs, hV1.out]
    congr 1
    apply List.map_congr_left
    intro i hi
    have h1 := val_it tA 0 s HK.out.gf.1 hyl.out (n := np) (S := S)
    have h0 := val_it tA 0 0 HK.out.gf.1 hyl.out (n := np) (S := S)
    have e1 : atL dim S (turnL xss dim) (fun i s => rowJ (tA i) S s) (itJ np S ps (turnL xss dim) tA 0) s = turnL xss dim := atL_zero S _ s hNum.out hyl.out
    have e0 : atL dim S (turnL xss dim) (fun i s => rowJ (tA i) S s) (itJ np S ps (turnL xss dim) tA 0) 0 = turnL xss dim := atL_zero S _ 0 hNum.out hyl.out
    rw [e1] at h1
    rw [e0] at h0
    have h2 := h1.symm.trans h0
    have h3 := congrArg (fun l => l[i]?) h2
    have hi' := List.mem_range.1 hi
    simp only [List.getElem?_map, List.getElem?_range hi', Option.map_some, Option.some.injEq] at h3
    exact h3
  have z52 := E5.out.size
  have hb1 := hide (below_alloc w5 (.cells #[] 30))
  have hL1 := hide ((Lst.empty kII 30 (fun _ => True) w5 w5.heap.size (Nat.le_refl _)).wide (hi2 := (w5.alloc (.cells #[] 30)).heap.size) (by simp))
  clear htA hV1 E4 HX
  generalize w5.alloc (.cells #[] 30) = W6 at hb1 hL1 ⊢
  go_loopw [10, 11] (fun p z wr => ∃ (s : Nat) (R : Option Addr) (cR : Nat) (vs : List Value), s ≤ S ∧ z = .int .i64 s ∧ p = .slice R s cR ∧ Hid (Lst kII 30 (fun _ => True) wr w5.heap.size wr.heap.size R s cR vs ((stJ S dim (itJ np S ps (turnL xss dim) tA 1)).take s)) ∧ Hid (Below w5.heap.size w5 wr)) (fun _ z _ => S - (intOf z).toNat)
  case atStart => exact ⟨0, _, _, [], by omega, rfl, rfl, hL1.out, hb1.out⟩
  case round =>
    clear hb1 hL1
    obtain ⟨s, R, cR, vs, hs, rfl, rfl, hL, hb⟩ := hrel
    have hsz := hb.out.size
    have hcR := hL.out.capb
    have hE := hide (E5.out.below hb.out z52)
    have p0 := hE.out.par.c 0 rfl
    by_cases hlt : s < S
    · have hT : Hid ((stJ S dim (itJ np S ps (turnL xss dim) tA 1)).take s ++ [valL np ps (turnL xss dim)] = (stJ S dim (itJ np S ps (turnL xss dim) tA 1)).take (s + 1)) := take_snocJ (hst1.out s hlt)
      have f0 := hE.out.fld.c 0 rfl
      have f1 := hE.out.fld.c 1 rfl
      have HD := hide (spec_l8Derivative P dim e ps lo hi gy cy (turnL xss dim) w4.heap.size w5.heap.size np wr (HP.out.below hE.out.low hh) (hY.out.below hb.out (Nat.le_refl _)) (by have := hE.out.low.size; omega) hsz HK.out.gf hNum.out (by omega) hd6 (by omega) (by omega))
      go_wp2_with (first
        | (go_at_call 29; refine HD.out.mono ?_; rintro r w7 ⟨g7, c7, rfl, hI7, hb7⟩; have hz7 := hb7.size; have HL7 := hide (hL.out.below hb7 (Nat.le_refl _)); have HI7 := hide hI7; have Hb7 := hide (hb.out.trans (hb7.mono hsz)); clear HD hI7 hb7)
        | (at_builtin; refine wpl_app1 rfl (.tmp 40) (.tmp 44) 58 rfl w5.heap.size 30 i0 (.slice none 0 0) 1 24 Try.underlying58 hi0 hz0 hz1 hz2 rfl (by omega) w7 #[.slice (some ⟨g7, 0, none⟩) dim c7] R s cR 1 _ rfl rfl HL7.out.own rfl (by simp [Value.oneCell']) (by omega) (by omega) (by omega) ?_; intro A5 c5 w8 happ5 hlt5; have hL5 := hide (HL7.out.push (l := wr.heap.size) (h' := w7.heap.size) (x := valL np ps (turnL xss dim)) ⟨some ⟨g7, 0, none⟩, dim, c7, rfl, HI7.out⟩ (Nat.le_refl _) (Nat.le_refl _) hsz hz7 happ5); have hb8 := hide (happ5.low Hb7.out (by omega) (Nat.le_refl _) HL7.out.own); clear happ5))
      rw [hT.out] at hL5
      refine ⟨⟨s + 1, A5, c5, _, by omega, by go_num, rfl, hL5.out, hb8.out⟩, ?_⟩
      simp [intOf]; omega
    · obtain rfl : S = s := by omega
      have hL2 := hL.out
      rw [List.take_of_length_le (Nat.le_of_eq (stJ_len _ _ _))] at hL2
      have HI3 := hide hL2.ints3
      clear hL hL2 hE
      go_wp2_with fail
      clear p0
      go_loopw [10, 12] (fun p z wr => ∃ (t : Nat) (R : Option Addr) (cR l3 : Nat), t ≤ np ∧ z = .int .i64 t ∧ p = .slice R S cR ∧ Hid (Ints3 wr l3 wr.heap.size R S cR (stJ S dim (itJ np S ps (turnL xss dim) tA (t + 1)))) ∧ Hid (Below w5.heap.size w5 wr)) (fun _ z _ => np - (intOf z).toNat)
      case atStart => exact ⟨0, _, _, _, by omega, rfl, rfl, HI3.out, hb.out⟩
      case round =>
        clear HI3 hb hsz hcR
        obtain ⟨t, R, cR, l3, ht, rfl, rfl, HI3, hb⟩ := hrel
        obtain ⟨wo, hwo⟩ : ∃ wo, wo = wr := ⟨_, rfl⟩
        subst hwo
        have hsz := hb.out.size
        have hE := hide (E5.out.below hb.out z52)
        have hEs := hE.out.size
        have hcR := HI3.out.cap
        have hmR := HI3.out.max
        by_cases hlt : t < np
        · have hb1 := hide (below_alloc wo (.cells #[] 30))
          have hL1 := hide ((Lst.empty kII 30 (fun _ => True) wo wo.heap.size (Nat.le_refl _)).wide (hi2 := (wo.alloc (.cells #[] 30)).heap.size) (by simp))
          go_wp2_with fail
          generalize wo.alloc (.cells #[] 30) = W2 at hb1 hL1 ⊢
          go_loopw [13, 14] (fun p z wr => ∃ (s : Nat) (A : Option Addr) (c : Nat) (vs : List Value), s ≤ S ∧ z = .int .i64 s ∧ p = .slice A s c ∧ Hid (Lst kII 30 (fun _ => True) wr wo.heap.size wr.heap.size A s c vs ((stJ S dim (itJ np S ps (turnL xss dim) tA (t + 1 + 1))).take s)) ∧ Hid (Below wo.heap.size wo wr)) (fun _ z _ => S - (intOf z).toNat)
          case atStart => exact ⟨0, _, _, [], by omega, rfl, rfl, hL1.out, hb1.out⟩
          case round =>
            clear hb1 hL1
            obtain ⟨s, R2, c2, vs, hs, rfl, rfl, hL, hb2⟩ := hrel
            have hsz2 := hb2.out.size
            have hc2 := hL.out.capb
            have hE2 := hide (hE.out.below hb2.out hEs)
            have p0 := hE2.out.par.c 0 rfl
            by_cases hlt2 : s < S
            · obtain ⟨gA, rfl⟩ := hfA.out (by omega)
              obtain ⟨gA', rfl⟩ := hfA'.out (by omega)
              have hT : Hid ((stJ S dim (itJ np S ps (turnL xss dim) tA (t + 1 + 1))).take s ++ [valL np ps (selL cs (movL (turnL xss dim) (rowJ xs S s) (stJ S dim (itJ np S ps (turnL xss dim) tA (t + 1)))) (movL (turnL xss dim) (rowJ xs' S s) (stJ S dim (itJ np S ps (turnL xss dim) tA (t + 1)))))] = (stJ S dim (itJ np S ps (turnL xss dim) tA (t + 1 + 1))).take (s + 1)) := by
                show _ = _
                rw [sel_at _ xs xs' s hyl.out HK.out.cl HK.out.cc]
                have := val_it tA (t + 1) s HK.out.gf.1 hyl.out (n := np) (S := S)
                rw [HtA.out] at this ⊢
                rw [this]
                exact take_snocJ (stJ_get _ hlt2)
              have hsS : s * S + S ≤ q0 := by
                have : (s + 1) * S ≤ S * S := Nat.mul_le_mul_right _ hlt2
                rw [hqs.out]
                rwa [Nat.add_mul, Nat.one_mul] at this
              have hIR := hide (Ints.takeJ (HA.out.dropJ (k := s * S) (by omega)) (k := S) (by omega))
              have hIR' := hide (Ints.takeJ (HA'.out.dropJ (k := s * S) (by omega)) (k := S) (by omega))
              have HCC := hide fun (w' : World) (hB : Below wo.heap.size wo w') => show w'.cell? ⟨w.heap.size, 0, none⟩ = some (.int .i64 (S : Int)) ∧ w'.cell? ⟨w.heap.size, 1, none⟩ = some (.slice (some ⟨gA, 0, none⟩) q0 c) ∧ w'.cell? ⟨w.heap.size, 2, none⟩ = some (.slice B S d) ∧ w'.cell? ⟨w.heap.size, 3, none⟩ = some (.int .i64 (S : Int)) ∧ w'.cell? ⟨w.heap.size, 4, none⟩ = some (.slice (some ⟨gA', 0, none⟩) q0 c') ∧ w'.cell? ⟨w.heap.size, 5, none⟩ = some (.slice B' S d') ∧ w'.cell? ⟨w.heap.size + 1, 0, none⟩ = some (.int .i64 (dim : Int)) ∧ w'.cell? ⟨w.heap.size + 1, 1, none⟩ = some (.slice P dim e) from
                have q := hE.out.below hB hEs
                ⟨q.par.c 0 rfl, q.par.c 1 rfl, q.par.c 2 rfl, q.par.c 3 rfl, q.par.c 4 rfl, q.par.c 5 rfl, q.fld.c 0 rfl, q.fld.c 1 rfl⟩
              have hbd := hide hb2.out.drew
              have zd : wo.heap.size ≤ wr.drew.heap.size := hsz2
              have HLd : Hid (Lst kII 30 (fun _ => True) wr.drew wo.heap.size wr.drew.heap.size R2 s c2 vs ((stJ S dim (itJ np S ps (turnL xss dim) tA (t + 1 + 1))).take s)) := hL.out.drew
              obtain ⟨c0, c1, c2', c3, c4, c5, c6, c7⟩ := HCC.out _ hb2.out
              have S1 := hide (HCC.out _ hbd.out)
              have HR1 := hide (spec_rowJ S gA q0 c B S d s wr.drew hS8 hqs.out hlt2 hac ham)
              have hlow : w.heap.size ≤ wo.heap.size := hE.out.low.size
              clear hL p0
              go_wp2_with fail
              go_region_held3 (fun w' => w'.cell? ⟨w.heap.size, 0, none⟩ = some (.int .i64 (S : Int)) ∧ w'.cell? ⟨w.heap.size, 1, none⟩ = some (.slice (some ⟨gA, 0, none⟩) q0 c) ∧ w'.cell? ⟨w.heap.size, 2, none⟩ = some (.slice B S d) ∧ w'.cell? ⟨w.heap.size, 3, none⟩ = some (.int .i64 (S : Int)) ∧ w'.cell? ⟨w.heap.size, 4, none⟩ = some (.slice (some ⟨gA', 0, none⟩) q0 c') ∧ w'.cell? ⟨w.heap.size, 5, none⟩ = some (.slice B' S d') ∧ w'.cell? ⟨w.heap.size + 1, 0, none⟩ = some (.int .i64 (dim : Int)) ∧ w'.cell? ⟨w.heap.size + 1, 1, none⟩ = some (.slice P dim e)) (first | exact S1.out | exact ⟨c0, c1, c2', c3, c4, c5, c6, c7⟩ | exact T6 | exact T7 | exact T8 | exact T9 | exact T9b | exact T10 | go_keep)
                (first
                  | (go_at_call 31; refine HR1.out.mono ?_; rintro r w6 ⟨rfl, hb6⟩; have z6 := hb6.size; have hB6 := hide (hbd.out.trans (hb6.mono zd)); have T6 := HCC.out _ hB6.out; have HR2 := hide (spec_rowJ S gA' q0 c' B' S d' s w6 hS8 hqs.out hlt2 hac' ham'); clear HR1)
                  | (go_at_call 31; refine HR2.out.mono ?_; rintro r w7 ⟨rfl, hb7⟩; have z7 := hb7.size; have hB7 := hide (hB6.out.trans (hb7.mono (by omega))); have T7 := HCC.out _ hB7.out; have hW7 := hide (hE.out.low.trans (hB7.out.mono hlow)); have HMV := hide (spec_l10Moved gy dim cy (turnL xss dim) w4.heap.size w5.heap.size np C cC cs lo hi (some ⟨gA, s * S, none⟩) S (c - s * S) (rowJ xs S s) lo hi (some ⟨gA', s * S, none⟩) S (c' - s * S) (rowJ xs' S s) lo hi R S cR (stJ S dim (itJ np S ps (turnL xss dim) tA (t + 1))) l3 wo.heap.size w7 (hY.out.below (hb.out.trans (hB7.out.mono hsz)) (Nat.le_refl _)) (HC.out.below hW7.out hh) (hIR.out.below hW7.out hh) (hIR'.out.below hW7.out hh) (HI3.out.below hB7.out (Nat.le_refl _)) (by omega) (by omega) (by omega) (by omega) (by omega) hNum.out (it_st3 _ _ _ _ _ _ _) (Nat.le_refl _) (Nat.le_refl _) (by omega) hd6 (by omega) (by omega) (by omega)); clear HR2)
                  | (go_at_call 30; refine HMV.out.mono ?_; rintro r w8 ⟨g8, c8, rfl, hI8, hb8⟩; have z8 := hb8.size; have hB8 := hide (hB7.out.trans (hb8.mono (by omega))); have T8 := HCC.out _ hB8.out; have HDV := hide (spec_l8Derivative P dim e ps lo hi g8 c8 _ w7.heap.size w8.heap.size np w8 (HP.out.below (hE.out.low.trans (hB8.out.mono hlow)) hh) hI8 (by omega) (Nat.le_refl _) HK.out.gf (selL_num (movL_num _ _ hNum.out) (movL_num _ _ hNum.out) (by rw [movL_len, movL_len])) (by omega) hd6 (by omega) (by omega)); clear HMV)
                  | (go_at_call 29; refine HDV.out.mono ?_; rintro r w9 ⟨g9, c9, rfl, hI9, hb9⟩; have z9 := hb9.size; have hB9 := hide (hB8.out.trans (hb9.mono (by omega))); have T9 := HCC.out _ hB9.out; have T9b := HCC.out _ (hB9.out.alloc (by omega) (.cells #[.slice (some ⟨g9, 0, none⟩) dim c9] 30)); have HL9 := hide (HLd.out.below ((hb6.trans (hb7.mono z6)).trans ((hb8.mono (by omega)).trans (hb9.mono (by omega)))) (Nat.le_refl _)); have HI9 := hide hI9; clear HDV)
                  | (refine step_app1 (by rfl) _ _ 58 (by rfl) wo.heap.size 30 i0 (.slice none 0 0) 1 24 Try.underlying58 hi0 hz0 hz1 hz2 rfl (by omega) w9 #[.slice (some ⟨g9, 0, none⟩) dim c9] _ rfl R2 s c2 1 _ (by rfl) (by rfl) HL9.out.own rfl (by simp [Value.oneCell']) (by omega) (by omega) (by omega) ?_; intro A5 k5 w10 happ hlt3; have hb10 := hide (happ.low hB9.out (by omega) (Nat.le_refl _) HL9.out.own); have T10 := HCC.out _ hb10.out; have hL5 := hide (HL9.out.push (l := w8.heap.size) (h' := w9.heap.size) (x := valL np ps (selL cs (movL (turnL xss dim) (rowJ xs S s) (stJ S dim (itJ np S ps (turnL xss dim) tA (t + 1)))) (movL (turnL xss dim) (rowJ xs' S s) (stJ S dim (itJ np S ps (turnL xss dim) tA (t + 1)))))) ⟨some ⟨g9, 0, none⟩, dim, c9, rfl, HI9.out⟩ (by omega) (Nat.le_refl _) (by omega) (by omega) happ)))
              rw [hT.out] at hL5
              clear T6 T7 T8 T9 T9b T10 S1 c0 c1 c2' c3 c4 c5 c6 c7
              clear HLd HL9 HI9 hI9 hI8 hB6 hB7 hB8 hB9 hb6 hb7 hb8 hb9 hbd HCC hIR hIR' happ
              go_wp2_with fail
              go_roundw
              case rel => exact ⟨s + 1, A5, k5, _, by omega, by go_num, rfl, hL5.out, hb10.out⟩
              case measure => simp [intOf]; omega
            · obtain rfl : S = s := by omega
              have hL2 := hL.out
              rw [List.take_of_length_le (Nat.le_of_eq (stJ_len _ _ _))] at hL2
              have HI4 := hide hL2.ints3
              have hb4 := hide (hb.out.trans (hb2.out.mono hsz))
              clear hL hL2
              go_wp2_with fail
              go_roundw
              case rel => exact ⟨t + 1, R2, c2, _, by omega, by go_num, rfl, HI4.out, hb4.out⟩
              case measure => simp [intOf]; omega
        · obtain rfl : np = t := by omega
          have c2 := hE.out.par.c 2 rfl
          have c5 := hE.out.par.c 5 rfl
          have hlow := hE.out.low.size
          have HMV := hide (spec_l10Moved gy dim cy (turnL xss dim) w4.heap.size w5.heap.size np C cC cs lo hi B S d ys lo hi B' S d' ys' lo hi R S cR (stJ S dim (itJ np S ps (turnL xss dim) tA (np + 1))) l3 wo.heap.size wo (hY.out.below hb.out (Nat.le_refl _)) (HC.out.below hE.out.low hh) (HB.out.below hE.out.low hh) (HB'.out.below hE.out.low hh) HI3.out (by omega) (by omega) (by omega) (by omega) (Nat.le_refl _) hNum.out (it_st3 _ _ _ _ _ _ _) (Nat.le_refl _) (Nat.le_refl _) (by omega) hd6 (by omega) (by omega) (by omega))
          have hso : Hid (selL cs (movL (turnL xss dim) ys (stJ S dim (itJ np S ps (turnL xss dim) tA (np + 1)))) (movL (turnL xss dim) ys' (stJ S dim (itJ np S ps (turnL xss dim) tA (np + 1)))) = outJ np dim S ps (turnL xss dim) (fun i => if cs.getD i 0 = 0 then xs else xs') (fun i => if cs.getD i 0 = 0 then ys else ys')) := by
            show _ = _
            rw [HtA.out]
            exact sel_out ps xs xs' ys ys' hyl.out HK.out.cl HK.out.cc
          rw [hso.out] at HMV
          have hEq : Hid (pairAl (S : Int) xs ys (S : Int) xs' ys' (dim : Int) ps cs xss = turnL (outJ np dim S ps (turnL xss dim) (fun i => if cs.getD i 0 = 0 then xs else xs') (fun i => if cs.getD i 0 = 0 then ys else ys')) np) := pairAl_ok hgood hnl.out
          have hOR := hide fun r hr => (outJ_rows (S := S) ps (fun i => if cs.getD i 0 = 0 then xs else xs') (fun i => if cs.getD i 0 = 0 then ys else ys') hNum.out hyl.out r hr).1
          go_wp2_with (first
            | (go_at_call 30; refine HMV.out.mono ?_; rintro r w8 ⟨g8, c8, rfl, hI8, hb8⟩; have z8 := hb8.size; have hB8 := hide (hE.out.low.trans (hb8.mono hlow)); have HT8 := hide (spec_l8Turn (some ⟨g8, 0, none⟩) dim c8 _ wo.heap.size w8.heap.size np w8 hI8 (Nat.le_refl _) hOR.out (by omega) (by omega) (by omega) (by omega)); clear HMV)
            | (go_at_call 28; refine HT8.out.mono ?_; rintro r w9 ⟨g9, c9, rfl, hI9, hb9⟩; have hB9 := hide (hB8.out.trans (hb9.mono (by omega))); have HI9 := hide (hI9.wide2 (lo' := w.heap.size) (by omega) (Nat.le_refl _)); clear HT8))
          rw [← hEq.out] at HI9
          go_ret
          exact ⟨_, _, rfl, HI9.out, hB9.out⟩
end Go.Proofs.Ytlmkjfgomlamhaa
