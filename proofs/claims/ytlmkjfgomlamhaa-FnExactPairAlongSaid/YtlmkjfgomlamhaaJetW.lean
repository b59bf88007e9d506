/- Rows of tableaus, colours, and whether a field, colours and a path are fine. -/
import Derived.Test.YtlmkjfgomlamhaaJetV
import Derived.Test.YtlmkjfgomlamhaaPoly4
import Derived.Test.YtlmkjfgomlamhaaPathW
import Derived.Test.YtlmkjfgomlamhaaPr
namespace Go.Proofs.Ytlmkjfgomlamhaa
open Go.RowKit
set_option linter.unusedSimpArgs false
set_option linter.unusedVariables false
set_option maxRecDepth 20000

theorem impl_rowJ (k : Nat) (gA n c : Nat) (B : Option Addr) (m d : Nat) (i : Nat) (w : World) (hk : k ≤ 8) (hn : n = k * k) (hi : i < k) (hc : n ≤ c) (hc2 : c ≤ 9223372036854775807) :
    Calls Try.prog 59 #[.agg #[.int .i64 (k : Int), .slice (some ⟨gA, 0, none⟩) n c, .slice B m d], .int .i64 (i : Int)] w fun e w' => e = .returned (.slice (some ⟨gA, i * k, none⟩) k (c - i * k)) ∧ Below w.heap.size w w' := by
  have a1 := below_alloc w (.cells #[.int .i64 (k : Int), .slice (some ⟨gA, 0, none⟩) n c, .slice B m d] 35)
  have h64 : n ≤ 64 := by rw [hn]; exact Nat.mul_le_mul hk hk
  have hle : i * k + k ≤ n := by
    rw [hn]
    have : (i + 1) * k ≤ k * k := Nat.mul_le_mul_right _ hi
    rwa [Nat.add_mul, Nat.one_mul] at this
  obtain ⟨q, hq⟩ : ∃ q : Nat, q = i * k := ⟨_, rfl⟩
  rw [← hq] at hle ⊢
  have hqi : (i : Int) * (k : Int) = (q : Int) := by rw [hq]; simp
  have hqj : ((i : Int) + 1) * (k : Int) = ((q + k : Nat) : Int) := by rw [Int.add_mul, Int.one_mul, hqi]; simp
  have hw1 := IntWalk.i64_in (q : Int) (by omega)
  have hw2 := IntWalk.i64_in ((q + k : Nat) : Int) (by omega)
  have hw3 := IntWalk.i64_in ((i : Int) + 1) (by omega)
  have hqc : ¬ c = q := by omega
  have hsub : q + k - q = k := by omega
  clear hq hn
  go_enter Try.func59, Try.ntmps59
  go_wp2_with fail
  rw [hsub]
  go_ret
  exact ⟨rfl, a1⟩
theorem spec_rowJ (k : Nat) (gA n c : Nat) (B : Option Addr) (m d : Nat) (i : Nat) (w : World) (hk : k ≤ 8) (hn : n = k * k) (hi : i < k) (hc : n ≤ c) (hc2 : c ≤ 9223372036854775807) :
    Calls Try.prog 31 #[.agg #[.int .i64 (k : Int), .slice (some ⟨gA, 0, none⟩) n c, .slice B m d], .int .i64 (i : Int)] w fun e w' => e = .returned (.slice (some ⟨gA, i * k, none⟩) k (c - i * k)) ∧ Below w.heap.size w w' := by
  have a1 := below_alloc w (.cells #[.int .i64 (k : Int), .slice (some ⟨gA, 0, none⟩) n c, .slice B m d] 35)
  have h64 : n ≤ 64 := by rw [hn]; exact Nat.mul_le_mul hk hk
  have hle : i * k + k ≤ n := by
    rw [hn]
    have : (i + 1) * k ≤ k * k := Nat.mul_le_mul_right _ hi
    rwa [Nat.add_mul, Nat.one_mul] at this
  obtain ⟨q, hq⟩ : ∃ q : Nat, q = i * k := ⟨_, rfl⟩
  rw [← hq] at hle ⊢
  have hqi : (i : Int) * (k : Int) = (q : Int) := by rw [hq]; simp
  have hqj : ((i : Int) + 1) * (k : Int) = ((q + k : Nat) : Int) := by rw [Int.add_mul, Int.one_mul, hqi]; simp
  have hw1 := IntWalk.i64_in (q : Int) (by omega)
  have hw2 := IntWalk.i64_in ((q + k : Nat) : Int) (by omega)
  have hw3 := IntWalk.i64_in ((i : Int) + 1) (by omega)
  have hqc : ¬ c = q := by omega
  have hsub : q + k - q = k := by omega
  clear hq hn
  go_enter Try.func31, Try.ntmps31
  go_wp2_with fail
  rw [hsub]
  go_ret
  exact ⟨rfl, a1⟩
set_option maxHeartbeats 1000000 in
theorem spec_l8FineJ (o : Int) (P : Option Addr) (k e : Nat) (ps : List (List Mono)) (X : Option Addr) (x f : Nat) (xss : List (List Int)) (lo hi : Nat) (w : World) (hp : Mons2 w lo hi P k e ps) (hx : Ints2 w lo hi X x f xss) (hh : hi ≤ w.heap.size) (hlen : ∀ p ∈ ps, ∀ m ∈ p, m.2.length ≤ 1048576) :
    Calls Try.prog 25 #[.agg #[.int .i64 o, .slice P k e], .slice X x f] w fun r w' => r = .returned (.bool (fieldF o ps && pathOkF xss o)) ∧ Below w.heap.size w w' := by
  have xcp := hx.cap
  have xmx := hx.max
  have B0 := below_alloc w (.cells #[.int .i64 o, .slice P k e] 41)
  have j1 := BlkN.new w #[.int .i64 o, .slice P k e] 41
  go_enter Try.func25, Try.ntmps25
  go_wp2_with fail
  generalize w.alloc (.cells #[.int .i64 o, .slice P k e] 41) = W at B0 j1 ⊢
  have s0 := B0.size
  refine (spec_FieldOk o P k e ps lo hi W (hp.below B0 hh) (by omega) hlen).mono ?_
  rintro r w1 ⟨rfl, b1⟩
  have B1 := B0.trans (b1.mono s0)
  have s1 := B1.size
  have j2 := j1.below b1
  clear b1 B0 j1
  have p1 := j2.c 0 rfl
  cases ht : fieldF o ps with
  | false =>
    have hG : Hid ((fieldF o ps && pathOkF xss o) = false) := by show _ = _; rw [ht]; rfl
    clear ht
    go_wp2_with fail
    go_ret
    exact ⟨ret_bool hG.out.symm, B1⟩
  | true =>
    have hG : Hid ((fieldF o ps && pathOkF xss o) = pathOkF xss o) := by show _ = _; rw [ht]; rfl
    clear ht
    go_wp2_with fail
    refine (spec_PathOk X x f xss lo hi o w1 (hx.below B1 hh)).mono ?_
    rintro r w2 ⟨rfl, rfl⟩
    go_wp2_with fail
    go_ret
    exact ⟨ret_bool hG.out.symm, B1⟩

set_option maxHeartbeats 1000000 in
theorem impl_fieldPathOkJ (o : Int) (P : Option Addr) (k e : Nat) (ps : List (List Mono)) (X : Option Addr) (x f : Nat) (xss : List (List Int)) (lo hi : Nat) (w : World) (hp : Mons2 w lo hi P k e ps) (hx : Ints2 w lo hi X x f xss) (hh : hi ≤ w.heap.size) (hlen : ∀ p ∈ ps, ∀ m ∈ p, m.2.length ≤ 1048576) :
    Calls Try.prog 54 #[.agg #[.int .i64 o, .slice P k e], .slice X x f] w fun r w' => r = .returned (.bool (fieldF o ps && pathOkF xss o)) ∧ Below w.heap.size w w' := by
  have xcp := hx.cap
  have xmx := hx.max
  have B0 := below_alloc w (.cells #[.int .i64 o, .slice P k e] 41)
  have j1 := BlkN.new w #[.int .i64 o, .slice P k e] 41
  go_enter Try.func54, Try.ntmps54
  go_wp2_with fail
  generalize w.alloc (.cells #[.int .i64 o, .slice P k e] 41) = W at B0 j1 ⊢
  have s0 := B0.size
  refine (impl_FieldOk o P k e ps lo hi W (hp.below B0 hh) (by omega) hlen).mono ?_
  rintro r w1 ⟨rfl, b1⟩
  have B1 := B0.trans (b1.mono s0)
  have s1 := B1.size
  have j2 := j1.below b1
  clear b1 B0 j1
  have p1 := j2.c 0 rfl
  cases ht : fieldF o ps with
  | false =>
    have hG : Hid ((fieldF o ps && pathOkF xss o) = false) := by show _ = _; rw [ht]; rfl
    clear ht
    go_wp2_with fail
    go_ret
    exact ⟨ret_bool hG.out.symm, B1⟩
  | true =>
    have hG : Hid ((fieldF o ps && pathOkF xss o) = pathOkF xss o) := by show _ = _; rw [ht]; rfl
    clear ht
    go_wp2_with fail
    refine (impl_PathOk X x f xss lo hi o w1 (hx.below B1 hh)).mono ?_
    rintro r w2 ⟨rfl, rfl⟩
    go_wp2_with fail
    go_ret
    exact ⟨ret_bool hG.out.symm, B1⟩


def colGo : List Int → Bool
  | [] => true
  | c :: r => if c = 0 ∨ c = 1 then colGo r else false
theorem colGo_step {cs : List Int} {k : Nat} {c : Int} (hd : cs.drop k = c :: cs.drop (k + 1)) (h : c = 0 ∨ c = 1) : colGo (cs.drop k) = colGo (cs.drop (k + 1)) := by rw [hd, colGo, if_pos h]
theorem colGo_no {cs : List Int} {k : Nat} {c : Int} (hd : cs.drop k = c :: cs.drop (k + 1)) (h : ¬ (c = 0 ∨ c = 1)) : colGo (cs.drop k) = false := by rw [hd, colGo, if_neg h]
theorem colGo_mem : ∀ (cs : List Int), colGo cs = true → ∀ c ∈ cs, c = 0 ∨ c = 1
  | [], _, _, h => absurd h (by simp)
  | c :: r, h, d, hd => by
    rw [colGo] at h
    split at h
    · rcases List.mem_cons.1 hd with rfl | hd
      · assumption
      · exact colGo_mem r h d hd
    · cases h

set_option maxRecDepth 100000 in
set_option maxHeartbeats 1000000 in
theorem spec_l10Colours (o : Int) (P : Option Addr) (k e : Nat) (C : Option Addr) (n c : Nat) (cs : List Int) (lo hi : Nat) (w : World) (hc : Ints w lo hi C n c cs) (hh : hi ≤ w.heap.size) :
    Calls Try.prog 26 #[.agg #[.int .i64 o, .slice P k e], .slice C n c] w fun r w' => r = .returned (.bool (colGo cs && decide ((n : Int) = o))) ∧ Below w.heap.size w w' := by
  have ccp := hc.cap
  have cmx := hc.max
  have B0 := hide (below_alloc w (.cells #[.int .i64 o, .slice P k e] 41))
  have j1 := hide (BlkN.new w #[.int .i64 o, .slice P k e] 41)
  have HC := hide (hc.below B0.out hh)
  have hcl := hide hc.len
  clear hc
  go_enter Try.func26, Try.ntmps26
  go_wp2_with fail
  generalize w.alloc (.cells #[.int .i64 o, .slice P k e] 41) = W at B0 j1 HC ⊢
  go_loop [5] (fun i => ∃ (j : Nat), j ≤ n ∧ i = .int .i64 j ∧ Hid (colGo cs = colGo (cs.drop j))) (fun i => n - (intOf i).toNat)
  case atStart => exact ⟨0, by omega, rfl, rfl⟩
  case round =>
    obtain ⟨j, hj, rfl, hG⟩ := hrel
    by_cases hlt : j < n
    · obtain ⟨ad, x, rfl, hcx, hr, hd, _⟩ := HC.out.at_ hlt
      have hI := hide (fun v : World => spec_l1In x 0 1 v)
      by_cases hx : x = 0 ∨ x = 1
      · have hG2 : Hid (colGo cs = colGo (cs.drop (j + 1))) := by show _ = _; rw [hG.out]; exact colGo_step hd.out hx
        have hb : (decide (0 ≤ x) && decide (x ≤ 1)) = true := by rcases hx with rfl | rfl <;> rfl
        rw [hb] at hI
        clear hd hG hr hb hx
        go_wp2_with (go_at_call 48; refine (hI.out _).mono ?_; rintro e w' ⟨rfl, rfl⟩)
        go_round
        case rel => exact ⟨j + 1, by omega, by go_num, hG2.out⟩
        case measure => simp [intOf]; omega
      · have hF : Hid ((colGo cs && decide ((n : Int) = o)) = false) := by show _ = _; rw [hG.out, colGo_no hd.out hx]; rfl
        have hb : (decide (0 ≤ x) && decide (x ≤ 1)) = false := by
          have h1 : ¬ (0 ≤ x ∧ x ≤ 1) := by omega
          simpa using h1
        rw [hb] at hI
        clear hd hG hr hb hx
        go_wp2_with (go_at_call 48; refine (hI.out _).mono ?_; rintro e w' ⟨rfl, rfl⟩)
        go_ret
        exact ⟨ret_bool hF.out.symm, B0.out⟩
    · obtain rfl : n = j := by omega
      have hG2 : Hid ((colGo cs && decide ((n : Int) = o)) = decide ((n : Int) = o)) := by show _ = _; rw [hG.out, List.drop_eq_nil_of_le (Nat.le_of_eq hcl.out), colGo]; rfl
      have p0 := j1.out.c 0 rfl
      clear hG
      go_wp2_with fail
      go_ret
      exact ⟨ret_bool (by rw [hG2.out]; try rfl), B0.out⟩

def colOkF (o : Int) (ps : List (List Mono)) (cs : List Int) (xss : List (List Int)) : Bool := (fieldF o ps && pathOkF xss o) && (decide ((cs.length : Int) = o) && colGo cs)

set_option maxRecDepth 100000 in
set_option maxHeartbeats 1000000 in
theorem impl_coloursOk (o : Int) (P : Option Addr) (k e : Nat) (ps : List (List Mono)) (C : Option Addr) (n c : Nat) (cs : List Int) (X : Option Addr) (x f : Nat) (xss : List (List Int)) (lo hi : Nat) (w : World) (hp : Mons2 w lo hi P k e ps) (hc : Ints w lo hi C n c cs) (hx : Ints2 w lo hi X x f xss) (hh : hi ≤ w.heap.size) (hlen : ∀ p ∈ ps, ∀ m ∈ p, m.2.length ≤ 1048576) :
    Calls Try.prog 34 #[.agg #[.int .i64 o, .slice P k e], .slice C n c, .slice X x f] w fun r w' => r = .returned (.bool (colOkF o ps cs xss)) ∧ Below w.heap.size w w' := by
  have ccp := hc.cap
  have cmx := hc.max
  have xcp := hx.cap
  have xmx := hx.max
  have B0 := below_alloc w (.cells #[.int .i64 o, .slice P k e] 41)
  have j1 := BlkN.new w #[.int .i64 o, .slice P k e] 41
  have hcl := hide hc.len
  go_enter Try.func34, Try.ntmps34
  go_wp2_with fail
  generalize w.alloc (.cells #[.int .i64 o, .slice P k e] 41) = W at B0 j1 ⊢
  have s0 := B0.size
  refine (impl_fieldPathOkJ o P k e ps X x f xss lo hi W (hp.below B0 hh) (hx.below B0 hh) (by omega) hlen).mono ?_
  rintro r w1 ⟨rfl, b1⟩
  have B1 := hide (B0.trans (b1.mono s0))
  have HC := hide (hc.below B1.out hh)
  have s1 := B1.out.size
  have j2 := j1.below b1
  clear b1 B0 j1 hp hx hc
  have p0 := j2.c 0 rfl
  cases ht : (fieldF o ps && pathOkF xss o) with
  | false =>
    have hG : Hid (colOkF o ps cs xss = false) := by show _ = _; unfold colOkF; rw [ht]; rfl
    clear ht
    go_wp2_with fail
    go_ret
    exact ⟨ret_bool hG.out.symm, B1.out⟩
  | true =>
    by_cases hn : (n : Int) = o
    · have hG : Hid (colOkF o ps cs xss = colGo (cs.drop 0)) := by show _ = _; unfold colOkF; rw [ht, hcl.out, decide_eq_true hn]; rfl
      clear ht
      subst hn
      go_wp2_with fail
      clear p0 j2
      go_loop [22] (fun i => ∃ (j : Nat), j ≤ n ∧ i = .int .i64 j ∧ Hid (colOkF (n : Int) ps cs xss = colGo (cs.drop j))) (fun i => n - (intOf i).toNat)
      case atStart => exact ⟨0, by omega, rfl, hG.out⟩
      case round =>
        clear hG
        obtain ⟨j, hj, rfl, hG⟩ := hrel
        by_cases hlt : j < n
        · obtain ⟨ad, y, rfl, hcx, hr, hd, _⟩ := HC.out.at_ hlt
          by_cases hy : y = 0 ∨ y = 1
          · have hG2 : Hid (colOkF (n : Int) ps cs xss = colGo (cs.drop (j + 1))) := by show _ = _; rw [hG.out]; exact colGo_step hd.out hy
            clear hd hG hr
            rcases hy with rfl | rfl
            all_goals
              go_wp2_with fail
              go_round
              case rel => exact ⟨j + 1, by omega, by go_num, hG2.out⟩
              case measure => simp [intOf]; omega
          · have hF : Hid (colOkF (n : Int) ps cs xss = false) := by show _ = _; rw [hG.out, colGo_no hd.out hy]
            have y0 : (y != 0) = true := by simp; omega
            have y1 : (y != 1) = true := by simp; omega
            clear hd hG hr hy
            go_wp2_with fail
            go_ret
            exact ⟨ret_bool hF.out.symm, B1.out⟩
        · obtain rfl : n = j := by omega
          have hG2 : Hid (colOkF (n : Int) ps cs xss = true) := by show _ = _; rw [hG.out, List.drop_eq_nil_of_le (Nat.le_of_eq hcl.out), colGo]
          clear hG
          go_wp2_with fail
          go_ret
          exact ⟨ret_bool hG2.out.symm, B1.out⟩
    · have hG : Hid (colOkF o ps cs xss = false) := by show _ = _; unfold colOkF; rw [ht, hcl.out, decide_eq_false hn]; rfl
      have hne : ((n : Int) != o) = true := by simpa using hn
      clear ht hn
      go_wp2_with fail
      go_ret
      exact ⟨ret_bool hG.out.symm, B1.out⟩

set_option maxHeartbeats 1000000 in
theorem impl_of (s : Int) (A : Option Addr) (n c : Nat) (B : Option Addr) (m d : Nat) (s' : Int) (A' : Option Addr) (n' c' : Nat) (B' : Option Addr) (m' d' : Nat) (q : Int) (w : World) (hq : q = 0 ∨ q = 1) :
    Calls Try.prog 36 #[.agg #[.int .i64 s, .slice A n c, .slice B m d, .int .i64 s', .slice A' n' c', .slice B' m' d'], .int .i64 q] w fun r w' => r = .returned (if q = 0 then .agg #[.int .i64 s, .slice A n c, .slice B m d] else .agg #[.int .i64 s', .slice A' n' c', .slice B' m' d']) ∧ Below w.heap.size w w' := by
  have b0 := below_alloc w (.cells #[.int .i64 s, .slice A n c, .slice B m d, .int .i64 s', .slice A' n' c', .slice B' m' d'] 37)
  have k0 := BlkN.new w #[.int .i64 s, .slice A n c, .slice B m d, .int .i64 s', .slice A' n' c', .slice B' m' d'] 37
  have z0 : (w.alloc (.cells #[.int .i64 s, .slice A n c, .slice B m d, .int .i64 s', .slice A' n' c', .slice B' m' d'] 37)).heap.size = w.heap.size + 1 := by simp
  go_enter Try.func36, Try.ntmps36
  rcases hq with rfl | rfl
  · go_wp2_with fail
    generalize w.alloc (.cells #[.int .i64 s, .slice A n c, .slice B m d, .int .i64 s', .slice A' n' c', .slice B' m' d'] 37) = W0 at b0 k0 z0 ⊢
    have k1 := BlkN.new W0 #[.int .i64 s, .slice A n c, .slice B m d] 35
    rw [z0] at k1
    have r0 := k1.c 0 rfl
    have r1 := k1.c 1 rfl
    have r2 := k1.c 2 rfl
    have lt1 := k1.lt
    refine bodyPost_ret (v := .agg #[.int .i64 s, .slice A n c, .slice B m d]) (by simp [results, Try.results36, go_sem, r0, r1, r2, lt1]) rfl ⟨by rfl, b0.alloc (by omega) _⟩
  · go_wp2_with fail
    generalize w.alloc (.cells #[.int .i64 s, .slice A n c, .slice B m d, .int .i64 s', .slice A' n' c', .slice B' m' d'] 37) = W0 at b0 k0 z0 ⊢
    have k1 := BlkN.new W0 #[.int .i64 s', .slice A' n' c', .slice B' m' d'] 35
    rw [z0] at k1
    have r0 := k1.c 0 rfl
    have r1 := k1.c 1 rfl
    have r2 := k1.c 2 rfl
    have lt1 := k1.lt
    refine bodyPost_ret (v := .agg #[.int .i64 s', .slice A' n' c', .slice B' m' d']) (by simp [results, Try.results36, go_sem, r0, r1, r2, lt1]) rfl ⟨by rfl, b0.alloc (by omega) _⟩
end Go.Proofs.Ytlmkjfgomlamhaa
