/- Sessions: whether they are well formed. -/
import Derived.Test.YtajcamimffgnmaaSes
namespace Go.Proofs.Ytajcamimffgnmaa
open Go.RowKit
set_option linter.unusedSimpArgs false
set_option linter.unusedVariables false
set_option maxRecDepth 20000

def sesF (s : Int) (us vs : List Int) (o : Int) (ps : List (List Mono)) (xs : List Int) : Bool := tabOkF s us vs && (fieldF o ps && pathOkF [xs] o)
/-- A slice of one row. -/
theorem ints2_one {w : World} {hi : Nat} {X : Option Addr} {x f : Nat} {xs : List Int} {g : Nat} (h : Ints w 0 hi X x f xs) (hg : g < hi) (hc : w.cell? ⟨g, 0, none⟩ = some (.slice X x f)) : Ints2 w 0 hi (some ⟨g, 0, none⟩) 1 1 [xs] :=
  ⟨rfl, by omega, by omega, fun _ => ⟨_, rfl, by omega, hg, fun j ys hj => by
    cases j with
    | zero =>
      simp at hj
      subst hj
      exact ⟨X, x, f, by simpa [Addr.add] using hc, h⟩
    | succ j => simp at hj⟩⟩

set_option maxHeartbeats 2000000 in
theorem impl_SessionOk (s : Int) (A : Option Addr) (n c : Nat) (us : List Int) (B : Option Addr) (m d : Nat) (vs : List Int) (o : Int) (P : Option Addr) (k e : Nat) (ps : List (List Mono)) (X : Option Addr) (x f : Nat) (xs : List Int) (lo hi : Nat) (w : World) (ha : Ints w lo hi A n c us) (hb : Ints w lo hi B m d vs) (hp : Mons2 w lo hi P k e ps) (hx : Ints w lo hi X x f xs) (hh : hi ≤ w.heap.size) (hlen : ∀ p ∈ ps, ∀ m ∈ p, m.2.length ≤ 1048576) :
    Calls Try.prog 7 #[.agg #[.int .i64 s, .slice A n c, .slice B m d, .int .i64 o, .slice P k e, .slice X x f]] w fun r w' => r = .returned (.bool (sesF s us vs o ps xs)) ∧ Below w.heap.size w w' := by
  have acp := ha.cap
  have amx := ha.max
  have bcp := hb.cap
  have bmx := hb.max
  have xcp := hx.cap
  have xmx := hx.max
  have B0 := below_alloc w (.cells #[.int .i64 s, .slice A n c, .slice B m d, .int .i64 o, .slice P k e, .slice X x f] 37)
  have j1 := BlkN.new w #[.int .i64 s, .slice A n c, .slice B m d, .int .i64 o, .slice P k e, .slice X x f] 37
  go_enter Try.func7, Try.ntmps7
  go_wp2_with fail
  generalize w.alloc (.cells #[.int .i64 s, .slice A n c, .slice B m d, .int .i64 o, .slice P k e, .slice X x f] 37) = W at B0 j1 ⊢
  have s0 := B0.size
  refine (impl_TableauOk s A n c us B m d vs lo hi W (ha.below B0 hh) (hb.below B0 hh) (by omega)).mono ?_
  rintro r w1 ⟨rfl, b1⟩
  have B1 := B0.trans (b1.mono s0)
  have s1 := B1.size
  have j2 := j1.below b1
  clear b1 B0 j1
  cases ht : tabOkF s us vs with
  | false =>
    have hG : Hid (sesF s us vs o ps xs = false) := by show _ = _; unfold sesF; rw [ht]; rfl
    clear ht
    go_wp2_with fail
    go_ret
    exact ⟨ret_bool hG.out.symm, B1⟩
  | true =>
    have hG : Hid (sesF s us vs o ps xs = (fieldF o ps && pathOkF [xs] o)) := by show _ = _; unfold sesF; rw [ht]; rfl
    clear ht
    have p1 := j2.c 3 rfl
    have p2 := j2.c 4 rfl
    go_wp2_with fail
    refine (impl_FieldOk o P k e ps lo hi w1 (hp.below B1 hh) (by omega) hlen).mono ?_
    rintro r w2 ⟨rfl, b2⟩
    have B2 := B1.trans (b2.mono s1)
    have s2 := B2.size
    have j3 := j2.below b2
    clear b2 B1 j2 p1 p2
    cases ht : fieldF o ps with
    | false =>
      have hG2 : Hid (sesF s us vs o ps xs = false) := by show _ = _; rw [hG.out, ht]; rfl
      clear ht
      go_wp2_with fail
      go_ret
      exact ⟨ret_bool hG2.out.symm, B2⟩
    | true =>
      have hG2 : Hid (sesF s us vs o ps xs = pathOkF [xs] o) := by show _ = _; rw [hG.out, ht]; rfl
      clear ht
      have p1 := j3.c 3 rfl
      have p2 := j3.c 5 rfl
      have aw := below_alloc w2 (.cells #[.slice X x f] 22)
      have p4 : (w2.alloc (.cells #[.slice X x f] 22)).cell? ⟨w.heap.size, 3, none⟩ = some (.int .i64 o) := (j3.alloc (.cells #[.slice X x f] 22)).c 3 rfl
      go_wp2_with fail
      refine (impl_PathOk (some ⟨w2.heap.size, 0, none⟩) 1 1 [xs] 0 (w2.heap.size + 1) o _ (ints2_one (((hx.below B2 hh).below aw (by omega)).wide (by omega) (by omega)) (by omega) (by simp))).mono ?_
      rintro r w3 ⟨rfl, rfl⟩
      have B3 := B2.trans (aw.mono s2)
      clear p4 p1 p2
      go_wp2_with fail
      go_ret
      exact ⟨ret_bool hG2.out.symm, B3⟩

theorem spec_l8Fine (o : Int) (P : Option Addr) (k e : Nat) (ps : List (List Mono)) (X : Option Addr) (x f : Nat) (xss : List (List Int)) (lo hi : Nat) (w : World) (hp : Mons2 w lo hi P k e ps) (hx : Ints2 w lo hi X x f xss) (hh : hi ≤ w.heap.size) (hlen : ∀ p ∈ ps, ∀ m ∈ p, m.2.length ≤ 1048576) :
    Calls Try.prog 13 #[.agg #[.int .i64 o, .slice P k e], .slice X x f] w fun r w' => r = .returned (.bool (fieldF o ps && pathOkF xss o)) ∧ Below w.heap.size w w' := by
  have xcp := hx.cap
  have xmx := hx.max
  have B0 := below_alloc w (.cells #[.int .i64 o, .slice P k e] 35)
  have j1 := BlkN.new w #[.int .i64 o, .slice P k e] 35
  go_enter Try.func13, Try.ntmps13
  go_wp2_with fail
  generalize w.alloc (.cells #[.int .i64 o, .slice P k e] 35) = W at B0 j1 ⊢
  have s0 := B0.size
  refine (spec_FieldOk o P k e ps lo hi W (hp.below B0 hh) (by omega) hlen).mono ?_
  rintro r w1 ⟨rfl, b1⟩
  have B1 := B0.trans (b1.mono s0)
  have s1 := B1.size
  have j2 := j1.below b1
  clear b1 B0 j1
  have p1 := j2.c 0 rfl
  cases ht : fieldF o ps with
  | false =>
    have hG : Hid ((fieldF o ps && pathOkF xss o) = false) := by show _ = _; rw [ht]; rfl
    clear ht
    go_wp2_with fail
    go_ret
    exact ⟨ret_bool hG.out.symm, B1⟩
  | true =>
    have hG : Hid ((fieldF o ps && pathOkF xss o) = pathOkF xss o) := by show _ = _; rw [ht]; rfl
    clear ht
    go_wp2_with fail
    refine (spec_PathOk X x f xss lo hi o w1 (hx.below B1 hh)).mono ?_
    rintro r w2 ⟨rfl, rfl⟩
    go_wp2_with fail
    go_ret
    exact ⟨ret_bool hG.out.symm, B1⟩

set_option maxHeartbeats 2000000 in
theorem spec_SessionOk (s : Int) (A : Option Addr) (n c : Nat) (us : List Int) (B : Option Addr) (m d : Nat) (vs : List Int) (o : Int) (P : Option Addr) (k e : Nat) (ps : List (List Mono)) (X : Option Addr) (x f : Nat) (xs : List Int) (lo hi : Nat) (w : World) (ha : Ints w lo hi A n c us) (hb : Ints w lo hi B m d vs) (hp : Mons2 w lo hi P k e ps) (hx : Ints w lo hi X x f xs) (hh : hi ≤ w.heap.size) (hlen : ∀ p ∈ ps, ∀ m ∈ p, m.2.length ≤ 1048576) :
    Calls Try.prog 5 #[.agg #[.int .i64 s, .slice A n c, .slice B m d, .int .i64 o, .slice P k e, .slice X x f]] w fun r w' => r = .returned (.bool (sesF s us vs o ps xs)) ∧ Below w.heap.size w w' := by
  have acp := ha.cap
  have amx := ha.max
  have bcp := hb.cap
  have bmx := hb.max
  have xcp := hx.cap
  have xmx := hx.max
  have B0 := below_alloc w (.cells #[.int .i64 s, .slice A n c, .slice B m d, .int .i64 o, .slice P k e, .slice X x f] 37)
  have j1 := BlkN.new w #[.int .i64 s, .slice A n c, .slice B m d, .int .i64 o, .slice P k e, .slice X x f] 37
  go_enter Try.func5, Try.ntmps5
  go_wp2_with fail
  generalize w.alloc (.cells #[.int .i64 s, .slice A n c, .slice B m d, .int .i64 o, .slice P k e, .slice X x f] 37) = W at B0 j1 ⊢
  have s0 := B0.size
  refine (spec_TableauOk s A n c us B m d vs lo hi W (ha.below B0 hh) (hb.below B0 hh) (by omega)).mono ?_
  rintro r w1 ⟨rfl, b1⟩
  have B1 := B0.trans (b1.mono s0)
  have s1 := B1.size
  have j2 := j1.below b1
  clear b1 B0 j1
  cases ht : tabOkF s us vs with
  | false =>
    have hG : Hid (sesF s us vs o ps xs = false) := by show _ = _; unfold sesF; rw [ht]; rfl
    clear ht
    go_wp2_with fail
    go_ret
    exact ⟨ret_bool hG.out.symm, B1⟩
  | true =>
    have hG : Hid (sesF s us vs o ps xs = (fieldF o ps && pathOkF [xs] o)) := by show _ = _; unfold sesF; rw [ht]; rfl
    clear ht
    have p1 := j2.c 3 rfl
    have p2 := j2.c 4 rfl
    have p3 := j2.c 5 rfl
    go_wp2_with fail
    have aw := below_alloc w1 (.cells #[.slice X x f] 22)
    refine (spec_l8Fine o P k e ps (some ⟨w1.heap.size, 0, none⟩) 1 1 [xs] 0 (w1.heap.size + 1) _ (((hp.below B1 hh).below aw (by omega)).wide (by omega) (by omega)) (ints2_one (((hx.below B1 hh).below aw (by omega)).wide (by omega) (by omega)) (by omega) (by simp)) (by simp) hlen).mono ?_
    rintro r w2 ⟨rfl, b2⟩
    have B2 := (B1.trans (aw.mono s1)).trans (b2.mono (by simp; omega))
    clear p1 p2 p3
    go_wp2_with fail
    go_ret
    exact ⟨ret_bool hG.out.symm, B2⟩

end Go.Proofs.Ytajcamimffgnmaa
