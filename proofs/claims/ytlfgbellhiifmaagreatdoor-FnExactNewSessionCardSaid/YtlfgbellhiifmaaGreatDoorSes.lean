/- Sessions: sameness. -/
import Derived.Test.YtlfgbellhiifmaaGreatDoorFld
namespace Go.Proofs.YtlfgbellhiifmaaGreatDoor
open Go.RowKit
set_option linter.unusedSimpArgs false
set_option linter.unusedVariables false
set_option maxRecDepth 20000

set_option maxHeartbeats 2000000 in
theorem laws_eqSession (s : Int) (A : Option Addr) (n c : Nat) (us : List Int) (B : Option Addr) (m d : Nat) (vs : List Int) (o : Int) (P : Option Addr) (k e : Nat) (ps : List (List Mono)) (X : Option Addr) (x f : Nat) (xs : List Int) (lo hi : Nat) (w : World) (ha : Ints w lo hi A n c us) (hb : Ints w lo hi B m d vs) (hp : Mons2 w lo hi P k e ps) (hx : Ints w lo hi X x f xs) (hh : hi ≤ w.heap.size) (A' : Option Addr) (c' : Nat) (B' : Option Addr) (d' : Nat) (P' : Option Addr) (e' : Nat) (X' : Option Addr) (f' : Nat) (lo' hi' : Nat) (ha' : Ints w lo' hi' A' n c' us) (hb' : Ints w lo' hi' B' m d' vs) (hp' : Mons2 w lo' hi' P' k e' ps) (hx' : Ints w lo' hi' X' x f' xs) (hh' : hi' ≤ w.heap.size) :
    Calls Tryz.prog 6 #[.agg #[.int .i64 s, .slice A n c, .slice B m d, .int .i64 o, .slice P k e, .slice X x f], .agg #[.int .i64 s, .slice A' n c', .slice B' m d', .int .i64 o, .slice P' k e', .slice X' x f']] w fun r w' => r = .returned (.bool true) ∧ Below w.heap.size w w' := by
  have a1 := below_alloc w (.cells #[.int .i64 s, .slice A n c, .slice B m d, .int .i64 o, .slice P k e, .slice X x f] 29)
  have j1 := BlkN.new w #[.int .i64 s, .slice A n c, .slice B m d, .int .i64 o, .slice P k e, .slice X x f] 29
  have i1 := below_alloc (w.alloc (.cells #[.int .i64 s, .slice A n c, .slice B m d, .int .i64 o, .slice P k e, .slice X x f] 29)) (.cells #[.int .i64 s, .slice A' n c', .slice B' m d', .int .i64 o, .slice P' k e', .slice X' x f'] 29)
  have i2 := BlkN.new (w.alloc (.cells #[.int .i64 s, .slice A n c, .slice B m d, .int .i64 o, .slice P k e, .slice X x f] 29)) #[.int .i64 s, .slice A' n c', .slice B' m d', .int .i64 o, .slice P' k e', .slice X' x f'] 29
  have j2 := j1.below i1
  have z1 : (w.alloc (.cells #[.int .i64 s, .slice A n c, .slice B m d, .int .i64 o, .slice P k e, .slice X x f] 29)).heap.size = w.heap.size + 1 := by simp
  rw [z1] at i2 i1
  have B0 := a1.trans (i1.mono (by omega))
  clear a1 j1 i1 z1
  go_enter Tryz.func6, Tryz.ntmps6
  go_wp2_with fail
  generalize (w.alloc (.cells #[.int .i64 s, .slice A n c, .slice B m d, .int .i64 o, .slice P k e, .slice X x f] 29)).alloc (.cells #[.int .i64 s, .slice A' n c', .slice B' m d', .int .i64 o, .slice P' k e', .slice X' x f'] 29) = W at B0 i2 j2 ⊢
  have s0 := B0.size
  refine (laws_eqTableau s A n c us B m d vs lo hi s A' n c' us B' m d' vs lo' hi' W (ha.below B0 hh) (hb.below B0 hh) (ha'.below B0 hh') (hb'.below B0 hh') (by omega) (by omega)).mono ?_
  rintro r w1 ⟨rfl, b1⟩
  have ht : tabEqF s us vs s us vs = true := by unfold tabEqF; simp
  rw [ht]
  clear ht
  have B1 := B0.trans (b1.mono s0)
  have j3 := j2.below b1
  have i3 := i2.below b1
  have p1 := j3.c 3 rfl
  have p2 := j3.c 4 rfl
  have q1 := i3.c 3 rfl
  have q2 := i3.c 4 rfl
  have s1 := B1.size
  clear b1 B0 j2 i2
  go_wp2_with fail
  refine (laws_eqField o P k e ps lo hi o P' k e' ps lo' hi' w1 (hp.below B1 hh) (hp'.below B1 hh') (by omega) (by omega)).mono ?_
  rintro r w2 ⟨rfl, b2⟩
  have ht : (decide (o = o) && decide (ps = ps)) = true := by simp
  rw [ht]
  clear ht
  have B2 := B1.trans (b2.mono s1)
  have j4 := j3.below b2
  have i4 := i3.below b2
  clear p1 p2 q1 q2 b2 B1 j3 i3
  have p1 := j4.c 5 rfl
  have q1 := i4.c 5 rfl
  go_wp2_with fail
  refine (laws_eqIntS X x f xs lo hi X' x f' xs lo' hi' w2 (hx.below B2 hh) (hx'.below B2 hh')).mono ?_
  rintro r w3 ⟨rfl, q, rfl⟩
  rw [decide_eq_true rfl]
  have B3 : Below w.heap.size w (w2.drewN q) := below_drewN B2 q
  go_wp2_with fail
  go_ret
  exact ⟨rfl, B3⟩

end Go.Proofs.YtlfgbellhiifmaaGreatDoor
