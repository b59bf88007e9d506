/- Steps of pairs along paths: the program's walk. -/
import Derived.Test.YtlmkjfgomlamhaaJetF
namespace Go.Proofs.Ytlmkjfgomlamhaa
open Go.RowKit
set_option linter.unusedSimpArgs false
set_option linter.unusedVariables false
set_option maxRecDepth 20000

theorem info_tabJ : (Try.prog.info? 35).map (fun i => (i.zero, i.size, i.bytes)) = some (some (.agg #[.int .i64 0, .slice none 0 0, .slice none 0 0]), 3, 56) := by kernel_rfl
theorem flat_at (tri : Int → List Value) (h3 : ∀ c, (tri c).length = 3) : ∀ (cs : List Int) (j i : Nat) (c : Int), cs[j]? = some c → i < 3 → (cs.flatMap tri)[j * 3 + i]? = (tri c)[i]?
  | [], j, i, c, h, _ => by simp at h
  | d :: r, 0, i, c, h, hi => by
    obtain rfl : d = c := by simpa using h
    rw [List.flatMap_cons, List.getElem?_append_left (by rw [h3]; omega)]
    simp
  | d :: r, j + 1, i, c, h, hi => by
    rw [List.flatMap_cons, List.getElem?_append_right (by rw [h3]; omega), h3, show (j + 1) * 3 + i - 3 = j * 3 + i by omega]
    exact flat_at tri h3 r j i c (by simpa using h) hi
theorem flat_len (tri : Int → List Value) (h3 : ∀ c, (tri c).length = 3) (cs : List Int) : (cs.flatMap tri).length = cs.length * 3 := by
  induction cs with
  | nil => rfl
  | cons c r ih => rw [List.flatMap_cons, List.length_append, h3, ih, List.length_cons]; omega
theorem own_formJ {w : World} {base T size : Nat} {A : Option Addr} {n c : Nat} {vs : List Value} (h : w.ownsRow base T size (.slice A n c) n vs) (hn : 0 < n) : ∃ g, A = some ⟨g, 0, none⟩ ∧ base ≤ g ∧ g < w.heap.size := by
  rcases h.2 with ⟨_, e⟩ | ⟨g, _, _, e, h1, h2, _⟩
  · omega
  · injection e with e
    exact ⟨g, e, h1, (Array.getElem?_eq_some_iff.1 h2).1⟩
theorem Tabs.below {w w' : World} {lo hi g dim S B : Nat} {tA tB : Nat → List Int} (h : Tabs w lo hi g dim S tA tB) (hb : Below B w w') (hB : hi ≤ B) (hg : g < B) : Tabs w' lo hi g dim S tA tB := by
  intro j hj
  obtain ⟨AA, cA, BB, cB, t0, t1, t2, hA, hB', hf⟩ := h j hj
  exact ⟨AA, cA, BB, cB, (hb.cell (p := ⟨g, j * 3, none⟩) hg).trans t0, (hb.cell (p := ⟨g, j * 3 + 1, none⟩) hg).trans t1, (hb.cell (p := ⟨g, j * 3 + 2, none⟩) hg).trans t2, hA.below hb hB, hB'.below hb hB, hf⟩
theorem outJ_rows {n dim S : Nat} (ps : List (List Mono)) {yss : List (List Int)} (tA tB : Nat → List Int) (h : JNum n yss) (hl : yss.length = dim) : ∀ r ∈ outJ n dim S ps yss tA tB, r.length = n ∧ ∀ x ∈ r, 0 ≤ x ∧ x < 1000000271 := by
  intro r hr
  simp only [outJ, List.mem_map, List.mem_range] at hr
  obtain ⟨i, hi, rfl⟩ := hr
  have := h yss[i] (List.getElem_mem (by omega))
  rw [show yss.getD i [] = yss[i] by simp [List.getD, show i < yss.length by omega]]
  exact ⟨by rw [acc_len]; exact this.1, acc_num _ _ this.2 _⟩
def tri2 (a b : List Value) (c : Int) : List Value := if c = 0 then a else b

set_option maxRecDepth 100000 in
set_option maxHeartbeats 8000000 in
theorem impl_PairAlong_bad (s : Int) (A : Option Addr) (n c : Nat) (xs : List Int) (B : Option Addr) (m d : Nat) (ys : List Int) (s' : Int) (A' : Option Addr) (n' c' : Nat) (xs' : List Int) (B' : Option Addr) (m' d' : Nat) (ys' : List Int) (o : Int) (P : Option Addr) (k e : Nat) (ps : List (List Mono)) (C : Option Addr) (nC cC : Nat) (cs : List Int) (X : Option Addr) (x f : Nat) (xss : List (List Int)) (lo hi : Nat) (w : World)
    (h : Ints w lo hi A n c xs) (g : Ints w lo hi B m d ys) (h' : Ints w lo hi A' n' c' xs') (g' : Ints w lo hi B' m' d' ys') (hp : Mons2 w lo hi P k e ps) (hc : Ints w lo hi C nC cC cs) (hx : Ints2 w lo hi X x f xss) (hh : hi ≤ w.heap.size) (hlen : ∀ p ∈ ps, ∀ m ∈ p, m.2.length ≤ 1048576)
    (hbad : pairAlOk s xs ys s' xs' ys' o ps cs xss = false) :
    Calls Try.prog 12 #[.agg #[.int .i64 s, .slice A n c, .slice B m d, .int .i64 s', .slice A' n' c', .slice B' m' d'], .agg #[.int .i64 o, .slice P k e], .slice C nC cC, .slice X x f] w fun r w' => r = .returned (.slice none 0 0) ∧ Below w.heap.size w w' := by
  have b0 := below_alloc w (.cells #[.int .i64 s, .slice A n c, .slice B m d, .int .i64 s', .slice A' n' c', .slice B' m' d'] 37)
  have k0 := BlkN.new w #[.int .i64 s, .slice A n c, .slice B m d, .int .i64 s', .slice A' n' c', .slice B' m' d'] 37
  have z0 : (w.alloc (.cells #[.int .i64 s, .slice A n c, .slice B m d, .int .i64 s', .slice A' n' c', .slice B' m' d'] 37)).heap.size = w.heap.size + 1 := by simp
  go_enter Try.func12, Try.ntmps12
  go_wp2_with fail
  generalize w.alloc (.cells #[.int .i64 s, .slice A n c, .slice B m d, .int .i64 s', .slice A' n' c', .slice B' m' d'] 37) = W0 at b0 k0 z0 ⊢
  have k1 := BlkN.new W0 #[.int .i64 o, .slice P k e] 41
  rw [z0] at k1
  have b1 := b0.alloc (by omega) (.cells #[.int .i64 o, .slice P k e] 41)
  have k2 := k0.alloc (.cells #[.int .i64 o, .slice P k e] 41)
  generalize W0.alloc (.cells #[.int .i64 o, .slice P k e] 41) = W1 at b1 k1 k2 ⊢
  clear b0 k0 z0
  have z1 := b1.size
  refine (impl_coloursOk o P k e ps C nC cC cs X x f xss lo hi W1 (hp.below b1 hh) (hc.below b1 hh) (hx.below b1 hh) (by omega) hlen).mono ?_
  rintro r w2 ⟨rfl, hb2⟩
  have b2 := b1.trans (hb2.mono z1)
  have k3 := k2.below hb2
  have z2 := b2.size
  cases ht : colOkF o ps cs xss with
  | false =>
    clear ht k1 k2 k3
    go_wp2_with fail
    go_ret
    exact ⟨rfl, b2⟩
  | true =>
    have hP : pairOkF s xs ys s' xs' ys' = false := by
      unfold pairAlOk at hbad
      rw [ht] at hbad
      simpa using hbad
    have u0 := k3.c 0 rfl
    have u1 := k3.c 1 rfl
    have u2 := k3.c 2 rfl
    have u3 := k3.c 3 rfl
    have u4 := k3.c 4 rfl
    have u5 := k3.c 5 rfl
    clear ht k1 k2 k3
    go_wp2_with fail
    clear u0 u1 u2 u3 u4 u5
    refine (impl_PairOk s A n c xs B m d ys s' A' n' c' xs' B' m' d' ys' lo hi w2 (h.below b2 hh) (g.below b2 hh) (h'.below b2 hh) (g'.below b2 hh) (by omega)).mono ?_
    rw [hP]
    rintro r w3 ⟨rfl, hb3⟩
    have b3 := b2.trans (hb3.mono z2)
    go_wp2_with fail
    go_ret
    exact ⟨rfl, b3⟩

set_option maxRecDepth 100000 in
set_option maxHeartbeats 16000000 in
theorem impl_PairAlong_good (S dim np : Nat) (A : Option Addr) (c : Nat) (xs : List Int) (B : Option Addr) (d : Nat) (ys : List Int) (A' : Option Addr) (c' : Nat) (xs' : List Int) (B' : Option Addr) (d' : Nat) (ys' : List Int) (P : Option Addr) (e : Nat) (ps : List (List Mono)) (C : Option Addr) (cC : Nat) (cs : List Int) (X : Option Addr) (f : Nat) (xss : List (List Int)) (lo hi : Nat) (w : World)
    (h : Ints w lo hi A (S * S) c xs) (g : Ints w lo hi B S d ys) (h' : Ints w lo hi A' (S * S) c' xs') (g' : Ints w lo hi B' S d' ys') (hp : Mons2 w lo hi P dim e ps) (hc : Ints w lo hi C dim cC cs) (hx : Ints2 w lo hi X np f xss) (hh : hi ≤ w.heap.size) (hlen : ∀ p ∈ ps, ∀ m ∈ p, m.2.length ≤ 1048576)
    (hA : 0 < S → ∃ gA, A = some ⟨gA, 0, none⟩) (hA' : 0 < S → ∃ gA, A' = some ⟨gA, 0, none⟩) (hok : AlOk S dim np xs ys xs' ys' ps cs xss) (hgood : pairAlOk (S : Int) xs ys (S : Int) xs' ys' (dim : Int) ps cs xss = true) :
    Calls Try.prog 12 #[.agg #[.int .i64 (S : Int), .slice A (S * S) c, .slice B S d, .int .i64 (S : Int), .slice A' (S * S) c', .slice B' S d'], .agg #[.int .i64 (dim : Int), .slice P dim e], .slice C dim cC, .slice X np f] w fun r w' => ∃ gR cR, r = .returned (.slice (some ⟨gR, 0, none⟩) np cR) ∧ Ros kO 22 w' w.heap.size w'.heap.size (some ⟨gR, 0, none⟩) np cR (pairAl (S : Int) xs ys (S : Int) xs' ys' (dim : Int) ps cs xss) ∧ Below w.heap.size w w' := by
  obtain ⟨i0, hi0, hz0, hz1, hz2⟩ := info_parts info_tabJ
  have hS8 := hok.s8
  have hd0 := hok.d0
  have hd6 := hok.d6
  have hn0 := hok.n0
  have hn7 := hok.n7
  have HK := hide hok
  have hcp := hc.cap
  have hcm := hc.max
  have hxp := hx.cap
  have hxm := hx.max
  have HC := hide hc
  have HX := hide hx
  have HP := hide hp
  have HA := hide h
  have HB := hide g
  have HA' := hide h'
  have HB' := hide g'
  have hfA := hide hA
  have hfA' := hide hA'
  have b0 := below_alloc w (.cells #[.int .i64 (S : Int), .slice A (S * S) c, .slice B S d, .int .i64 (S : Int), .slice A' (S * S) c', .slice B' S d'] 37)
  have k0 := BlkN.new w #[.int .i64 (S : Int), .slice A (S * S) c, .slice B S d, .int .i64 (S : Int), .slice A' (S * S) c', .slice B' S d'] 37
  have z0 : (w.alloc (.cells #[.int .i64 (S : Int), .slice A (S * S) c, .slice B S d, .int .i64 (S : Int), .slice A' (S * S) c', .slice B' S d'] 37)).heap.size = w.heap.size + 1 := by simp
  obtain ⟨q0, hq0⟩ : ∃ q, q = S * S := ⟨_, rfl⟩
  have hqs := hide hq0
  have hq64 : q0 ≤ 64 := by rw [hq0]; exact Nat.mul_le_mul hS8 hS8
  rw [← hq0] at h h' b0 k0 z0 HA HA' ⊢
  have hac := h.cap
  have ham := h.max
  have hac' := h'.cap
  have ham' := h'.max
  have hbc := g.cap
  have hbm := g.max
  have hbc' := g'.cap
  have hbm' := g'.max
  clear hq0 hA hA' hok
  go_enter Try.func12, Try.ntmps12
  go_wp2_with fail
  generalize w.alloc (.cells #[.int .i64 (S : Int), .slice A q0 c, .slice B S d, .int .i64 (S : Int), .slice A' q0 c', .slice B' S d'] 37) = W0 at b0 k0 z0 ⊢
  have k1 := BlkN.new W0 #[.int .i64 (dim : Int), .slice P dim e] 41
  rw [z0] at k1
  have b1 := b0.alloc (by omega) (.cells #[.int .i64 (dim : Int), .slice P dim e] 41)
  have k2 := k0.alloc (.cells #[.int .i64 (dim : Int), .slice P dim e] 41)
  generalize W0.alloc (.cells #[.int .i64 (dim : Int), .slice P dim e] 41) = W1 at b1 k1 k2 ⊢
  clear b0 k0 z0
  have z1 := b1.size
  refine (impl_coloursOk (dim : Int) P dim e ps C dim cC cs X np f xss lo hi W1 (hp.below b1 hh) (hc.below b1 hh) (hx.below b1 hh) (by omega) hlen).mono ?_
  have ht : colOkF (dim : Int) ps cs xss = true := by unfold pairAlOk at hgood; rw [Bool.and_eq_true] at hgood; exact hgood.1
  have htp : pairOkF (S : Int) xs ys (S : Int) xs' ys' = true := by unfold pairAlOk at hgood; rw [Bool.and_eq_true] at hgood; exact hgood.2
  rw [ht]
  rintro r w2 ⟨rfl, hb2⟩
  have b2 := b1.trans (hb2.mono z1)
  have k3 := k2.below hb2
  have k4 := k1.below hb2
  have z2 := b2.size
  have u0 := k3.c 0 rfl
  have u1 := k3.c 1 rfl
  have u2 := k3.c 2 rfl
  have u3 := k3.c 3 rfl
  have u4 := k3.c 4 rfl
  have u5 := k3.c 5 rfl
  clear ht k1 k2 hb2 b1 z1
  go_wp2_with fail
  clear u0 u1 u2 u3 u4 u5
  refine (impl_PairOk (S : Int) A q0 c xs B S d ys (S : Int) A' q0 c' xs' B' S d' ys' lo hi w2 (h.below b2 hh) (g.below b2 hh) (h'.below b2 hh) (g'.below b2 hh) (by omega)).mono ?_
  rw [htp]
  rintro r w3 ⟨rfl, hb3⟩
  have b3 := hide (b2.trans (hb3.mono z2))
  have k5 := hide (k3.below hb3)
  have k6 := hide (k4.below hb3)
  have z3 := b3.out.size
  have hk5 := k5.out.lt
  have hk6 := k6.out.lt
  clear htp hp hc hx h g h' g' k3 k4 hb3 b2 z2 W0
  have o0 : Hid ((w3.alloc (.cells #[] 35)).ownsRow w3.heap.size 35 3 (.slice (some ⟨w3.heap.size, 0, none⟩) 0 0) 0 ((cs.take 0).flatMap (tri2 [.int .i64 (S : Int), .slice A q0 c, .slice B S d] [.int .i64 (S : Int), .slice A' q0 c', .slice B' S d']))) := by
    show World.ownsRow _ _ _ _ _ _ _
    simpa using World.ownsRow_lit (size := 3) (e := 35) (base := w3.heap.size) w3 #[] 0 (Nat.le_refl _) (by unfold maxLen; omega) rfl
  have bo := hide (below_alloc w3 (.cells #[] 35))
  go_wp2_with fail
  generalize w3.alloc (.cells #[] 35) = W4 at o0 bo ⊢
  go_loopw [9, 25] (fun p z wr => ∃ (q : Nat) (R : Option Addr) (cR : Nat), q ≤ dim ∧ z = .int .i64 q ∧ p = .slice R q cR ∧ Hid (wr.ownsRow w3.heap.size 35 3 (.slice R q cR) q ((cs.take q).flatMap (tri2 [.int .i64 (S : Int), .slice A q0 c, .slice B S d] [.int .i64 (S : Int), .slice A' q0 c', .slice B' S d']))) ∧ Hid (Below w3.heap.size w3 wr)) (fun _ z _ => dim - (intOf z).toNat)
  case atStart => exact ⟨0, _, _, by omega, rfl, rfl, o0.out, bo.out⟩
  case round =>
    clear o0 bo
    obtain ⟨q, R, cR, hq, rfl, rfl, hO, hb⟩ := hrel
    have hsz := hb.out.size
    have hbw := hide (b3.out.trans (hb.out.mono z3))
    have hj5 := hide (k5.out.below hb.out)
    have hj6 := hide (k6.out.below hb.out)
    by_cases hlt : q < dim
    · obtain ⟨ac, cq, rfl, hcc, hcr, _, hcx⟩ := (HC.out.below hbw.out hh).at_ hlt
      have hq01 := HK.out.cc cq (List.mem_of_getElem? hcx.out)
      have hOF := hide (impl_of (S : Int) A q0 c B S d (S : Int) A' q0 c' B' S d' cq wr hq01)
      have hT : Hid ((cs.take q).flatMap (tri2 [.int .i64 (S : Int), .slice A q0 c, .slice B S d] [.int .i64 (S : Int), .slice A' q0 c', .slice B' S d']) ++ tri2 [.int .i64 (S : Int), .slice A q0 c, .slice B S d] [.int .i64 (S : Int), .slice A' q0 c', .slice B' S d'] cq = (cs.take (q + 1)).flatMap (tri2 [.int .i64 (S : Int), .slice A q0 c, .slice B S d] [.int .i64 (S : Int), .slice A' q0 c', .slice B' S d'])) := by
        show _ = _
        rw [← take_snocJ hcx.out, List.flatMap_append]
        simp
      have u0 := hj5.out.c 0 rfl
      have u1 := hj5.out.c 1 rfl
      have u2 := hj5.out.c 2 rfl
      have u3 := hj5.out.c 3 rfl
      have u4 := hj5.out.c 4 rfl
      have u5 := hj5.out.c 5 rfl
      have hOl := hO.out
      have hOc : q ≤ cR ∧ cR ≤ 9223372036854775807 := by
        rcases hO.out.2 with ⟨e, rfl⟩ | ⟨_, _, _, e, _, _, h1, h2, _⟩
        · injection e; omega
        · injection e with _ _ e3; unfold maxLen at h2; omega
      clear hcx hj5 hj6 hOl
      rcases hq01 with rfl | rfl
      · rw [if_pos rfl] at hOF
        go_wp2_with fail
        clear u0 u1 u2 u3 u4 u5
        refine hOF.out.mono ?_
        rintro r w6 ⟨rfl, hb6⟩
        have hO6 := hide (owns_below hO.out hb6 fun ad e => (owns_lt hO.out ad e).2)
        have hb7 := hide (hb.out.trans (hb6.mono hsz))
        have z6 := hb7.out.size
        clear hOF hO hb hb6 hbw hcc
        go_wp2_with (at_builtin; refine wpl_app1 rfl (.tmp 29) (.tmp 33) 65 rfl w3.heap.size 35 i0 (.agg #[.int .i64 0, .slice none 0 0, .slice none 0 0]) 3 56 Try.underlying65 hi0 hz0 hz1 hz2 rfl (by omega) w6 #[.int .i64 (S : Int), .slice A q0 c, .slice B S d] R q cR 1 _ rfl rfl hO6.out rfl (by simp [Value.oneCell']) (by omega) (by omega) (by omega) ?_; intro A5 c5 w5 happ5 hlt5; have hb5 := hide (happ5.low hb7.out (by omega) (Nat.le_refl _) hO6.out); have hO5 := hide happ5.1; clear happ5)
        refine ⟨⟨q + 1, A5, c5, by omega, by go_num, rfl, by rw [← hT.out]; exact hO5.out, hb5.out⟩, ?_⟩
        simp [intOf]; omega
      · rw [if_neg (by omega)] at hOF
        go_wp2_with fail
        clear u0 u1 u2 u3 u4 u5
        refine hOF.out.mono ?_
        rintro r w6 ⟨rfl, hb6⟩
        have hO6 := hide (owns_below hO.out hb6 fun ad e => (owns_lt hO.out ad e).2)
        have hb7 := hide (hb.out.trans (hb6.mono hsz))
        have z6 := hb7.out.size
        clear hOF hO hb hb6 hbw hcc
        go_wp2_with (at_builtin; refine wpl_app1 rfl (.tmp 29) (.tmp 33) 65 rfl w3.heap.size 35 i0 (.agg #[.int .i64 0, .slice none 0 0, .slice none 0 0]) 3 56 Try.underlying65 hi0 hz0 hz1 hz2 rfl (by omega) w6 #[.int .i64 (S : Int), .slice A' q0 c', .slice B' S d'] R q cR 1 _ rfl rfl hO6.out rfl (by simp [Value.oneCell']) (by omega) (by omega) (by omega) ?_; intro A5 c5 w5 happ5 hlt5; have hb5 := hide (happ5.low hb7.out (by omega) (Nat.le_refl _) hO6.out); have hO5 := hide happ5.1; clear happ5)
        refine ⟨⟨q + 1, A5, c5, by omega, by go_num, rfl, by rw [← hT.out]; exact hO5.out, hb5.out⟩, ?_⟩
        simp [intOf]; omega
    · obtain rfl : dim = q := by omega
      have hOw := hO.out
      rw [List.take_of_length_le (Nat.le_of_eq HK.out.cl)] at hOw
      have h3 : ∀ z, (tri2 [Value.int .i64 (S : Int), .slice A q0 c, .slice B S d] [.int .i64 (S : Int), .slice A' q0 c', .slice B' S d'] z).length = 3 := fun _ => by unfold tri2; split <;> rfl
      obtain ⟨gO, rfl, hg1, hg2⟩ := own_formJ hOw (by omega)
      have hOc : dim ≤ cR ∧ cR ≤ 9223372036854775807 := by
        rcases hOw.2 with ⟨e, rfl⟩ | ⟨_, _, _, e, _, _, h1, h2, _⟩
        · injection e; omega
        · injection e with _ _ e3; unfold maxLen at h2; omega
      have hTb : Hid (Tabs wr lo hi gO dim S (fun i => if cs.getD i 0 = 0 then xs else xs') (fun i => if cs.getD i 0 = 0 then ys else ys')) := by
        intro j hj
        have hcl := HK.out.cl
        have hcj : cs[j]? = some (cs[j]'(by omega)) := List.getElem?_eq_getElem (by omega)
        have hgd : cs.getD j 0 = cs[j]'(by omega) := by rw [List.getD, hcj]; rfl
        have hfl := flat_len _ h3 cs
        have e0 := hOw.cellAt (j * 3) (by omega)
        have e1 := hOw.cellAt (j * 3 + 1) (by omega)
        have e2 := hOw.cellAt (j * 3 + 2) (by omega)
        have f0 := flat_at _ h3 cs j 0 _ hcj (by omega)
        have f1 := flat_at _ h3 cs j 1 _ hcj (by omega)
        have f2 := flat_at _ h3 cs j 2 _ hcj (by omega)
        rw [Nat.add_zero] at f0
        rw [f0] at e0
        rw [f1] at e1
        rw [f2] at e2
        rw [← hqs.out]
        rcases HK.out.cc _ (List.mem_of_getElem? hcj) with hz | hz
        · rw [hz] at e0 e1 e2
          refine ⟨A, c, B, d, e0, e1, e2, ?_, ?_, hfA.out⟩
          · simp only [hgd, hz, if_true]
            exact HA.out.below hbw.out hh
          · simp only [hgd, hz, if_true]
            exact HB.out.below hbw.out hh
        · rw [hz] at e0 e1 e2
          refine ⟨A', c', B', d', e0, e1, e2, ?_, ?_, hfA'.out⟩
          · simp only [hgd, hz, if_neg (show ¬ (1 : Int) = 0 by omega)]
            exact HA'.out.below hbw.out hh
          · simp only [hgd, hz, if_neg (show ¬ (1 : Int) = 0 by omega)]
            exact HB'.out.below hbw.out hh
      have hnl := hide HK.out.nl
      have hNum : Hid (JNum np (turnL xss dim)) := by have := turn_num HK.out.rw'; rw [hnl.out] at this; exact this
      have hbd := hide hbw.out.drew
      have zwd : w.heap.size ≤ wr.drew.heap.size := hbw.out.size
      have HJ := hide (impl_jets X np f xss lo hi dim wr.drew (HX.out.below hbd.out hh) (by omega) (fun r hr => Nat.le_of_eq (HK.out.rw' r hr).1.symm) (by omega) (by omega) (by omega))
      have hj7 := hide hj6.out.drew
      have hTd := hide (hTb.out.below ((Below.refl wr.heap.size wr).drew) (by omega) hg2)
      have hgz : gO < wr.drew.heap.size := hg2
      have hE : Hid (pairAl (S : Int) xs ys (S : Int) xs' ys' (dim : Int) ps cs xss = turnL (outJ np dim S ps (turnL xss dim) (fun i => if cs.getD i 0 = 0 then xs else xs') (fun i => if cs.getD i 0 = 0 then ys else ys')) np) := pairAl_ok hgood hnl.out
      have u0 := hj6.out.c 0 rfl
      have u1 := hj6.out.c 1 rfl
      have y0 := hj7.out.c 0 rfl
      have y1 := hj7.out.c 1 rfl
      have hb9 := Below.refl wr.heap.size wr
      clear hOw hO hb hj5 hb9
      go_wp2_with fail
      go_region_held3 (fun w' => w'.cell? ⟨w.heap.size + 1, 0, none⟩ = some (.int .i64 (dim : Int)) ∧ w'.cell? ⟨w.heap.size + 1, 1, none⟩ = some (.slice P dim e)) (first | exact ⟨u0, u1⟩ | exact ⟨y0, y1⟩ | exact T6 | exact T7 | exact T8 | go_keep)
        (first
          | (go_at_call 39; refine HJ.out.mono ?_; rintro r w6 ⟨g6, c6, rfl, hI6, hb6⟩; have z6 := hb6.size; have hB6 := hide (hbd.out.trans (hb6.mono zwd)); have k6' := hide (hj7.out.below hb6); have T6 : w6.cell? ⟨w.heap.size + 1, 0, none⟩ = some (.int .i64 (dim : Int)) ∧ w6.cell? ⟨w.heap.size + 1, 1, none⟩ = some (.slice P dim e) := ⟨k6'.out.c 0 rfl, k6'.out.c 1 rfl⟩; have HST := hide (impl_stepJets gO dim cR (dim : Int) P e ps lo hi g6 c6 (turnL xss dim) wr.drew.heap.size w6.heap.size np S (fun i => if cs.getD i 0 = 0 then xs else xs') (fun i => if cs.getD i 0 = 0 then ys else ys') lo hi w6 (hTd.out.below hb6 (by omega) hgz) (by omega) (HP.out.below hB6.out hh) hI6 (by omega) (Nat.le_refl _) (by omega) HK.out.gf hNum.out (by omega) hd6 (by omega) (by omega) hS8 hOc.1 hOc.2); clear HJ)
          | (go_at_call 38; refine HST.out.mono ?_; rintro r w7 ⟨g7, c7, rfl, hI7, hb7⟩; have z7 := hb7.size; have hB7 := hide (hB6.out.trans (hb7.mono (by omega))); have k7 := hide (k6'.out.below hb7); have T7 : w7.cell? ⟨w.heap.size + 1, 0, none⟩ = some (.int .i64 (dim : Int)) ∧ w7.cell? ⟨w.heap.size + 1, 1, none⟩ = some (.slice P dim e) := ⟨k7.out.c 0 rfl, k7.out.c 1 rfl⟩; have HPT := hide (impl_pointsO (some ⟨g7, 0, none⟩) dim c7 _ 0 w7.heap.size np w7 hI7 (Nat.le_refl _) (fun r hr => Nat.le_of_eq (outJ_rows ps _ _ hNum.out (turn_len xss dim) r hr).1.symm) (by omega) (by omega) (by omega)); clear HST)
          | (go_at_call 37; refine HPT.out.mono ?_; rintro r w8 ⟨g8, c8, rfl, hI8, hb8⟩; have z8 := hb8.size; have hB8 := hide (hB7.out.trans (hb8.mono (by omega))); have k8 := hide (k7.out.below hb8); have T8 : w8.cell? ⟨w.heap.size + 1, 0, none⟩ = some (.int .i64 (dim : Int)) ∧ w8.cell? ⟨w.heap.size + 1, 1, none⟩ = some (.slice P dim e) := ⟨k8.out.c 0 rfl, k8.out.c 1 rfl⟩; have HI8 := hide (hI8.wide (lo' := w.heap.size) (by omega) (Nat.le_refl _)); clear HPT))
      rw [← hE.out] at HI8
      clear T6 T7 T8 u0 u1 y0 y1
      go_wp2_with fail
      go_ret
      exact ⟨_, _, rfl, HI8.out, hB8.out⟩
end Go.Proofs.Ytlmkjfgomlamhaa
