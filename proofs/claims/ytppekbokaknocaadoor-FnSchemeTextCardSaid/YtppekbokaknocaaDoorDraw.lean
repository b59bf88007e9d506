/- What the statements draw out of bytes: a cursor over them, numbers, words, moves: every draw is well formed. -/
import Derived.Test.YtppekbokaknocaaDoorTab
import Derived.Test.YtppekbokaknocaaDoorWords
import Derived.Test.YtppekbokaknocaaDoorMoves
import Derived.WalkLawsBesides
namespace Go.Proofs.YtppekbokaknocaaDoor
open Go.RowKit
set_option linter.unusedSimpArgs false
set_option linter.unusedVariables false
set_option maxRecDepth 20000

/-- A slice of bytes that can be read; its cells lie in the blocks from lo up to hi. -/
structure Bytes (w : World) (lo hi : Nat) (A : Option Addr) (n c : Nat) : Prop where
  cap : n ≤ c
  max : c ≤ 9223372036854775807
  cells : 0 < n → ∃ ad, A = some ad ∧ lo ≤ ad.block ∧ ad.block < hi ∧ ∀ j, j < n → ∃ x : Int, w.cell? (ad.add j) = some (.int .u8 x) ∧ 0 ≤ x ∧ x ≤ 255
section
variable {w w' : World} {lo hi : Nat} {A : Option Addr} {n c : Nat}
theorem Bytes.at_ (h : Bytes w lo hi A n c) {k : Nat} (hk : k < n) : ∃ ad x, A = some ad ∧ w.cell? (ad.add k) = some (.int .u8 x) ∧ 0 ≤ x ∧ x ≤ 255 := by
  obtain ⟨ad, e, _, _, hc⟩ := h.cells (by omega)
  obtain ⟨x, h1, h2, h3⟩ := hc k hk
  exact ⟨ad, x, e, h1, h2, h3⟩
theorem Bytes.same (h : Bytes w lo hi A n c) (hs : Same lo hi w w') : Bytes w' lo hi A n c :=
  ⟨h.cap, h.max, fun hn => by
    obtain ⟨ad, e, h1, h2, hc⟩ := h.cells hn
    refine ⟨ad, e, h1, h2, fun j hj => ?_⟩
    obtain ⟨x, h3, h4⟩ := hc j hj
    exact ⟨x, (hs.cell (by rw [block_of_add]; exact h1) (by rw [block_of_add]; exact h2)).trans h3, h4⟩⟩
theorem Bytes.below {B : Nat} (h : Bytes w lo hi A n c) (hb : Below B w w') (hB : hi ≤ B) : Bytes w' lo hi A n c := h.same (.of_below hb hB)
end

/-- A cursor over bytes, in the block g. -/
def Cur (w : World) (hi g : Nat) : Prop := ∃ A n c i h, BlkN w g #[.slice A n c, .int .i64 i, .int .i64 h] ∧ Bytes w 0 hi A n c ∧ 0 ≤ i ∧ i ≤ (n : Int) ∧ hi ≤ g
theorem Cur.touch {w w' : World} {hi g lo' hi' : Nat} (h : Cur w hi g) (ht : Touch lo' hi' w w') (hd : g < lo' ∨ hi' ≤ g) (hd2 : hi ≤ lo') : Cur w' hi g := by
  obtain ⟨A, n, c, i, x, h1, h2, h3, h4, h5⟩ := h
  have := h1.lt
  exact ⟨A, n, c, i, x, h1.touch ht hd, h2.same (ht.same (.inl hd2) (by omega)), h3, h4, h5⟩
theorem Cur.below {w w' : World} {hi g : Nat} (h : Cur w hi g) (hb : Below w.heap.size w w') : Cur w' hi g := by
  obtain ⟨A, n, c, i, x, h1, h2, h3, h4, h5⟩ := h
  have := h1.lt
  exact ⟨A, n, c, i, x, h1.below hb, h2.below hb (by omega), h3, h4, h5⟩
theorem Cur.low {w w' : World} {hi g B : Nat} (h : Cur w hi g) (hb : Below B w w') (hB : g < B) : Cur w' hi g := by
  obtain ⟨A, n, c, i, x, h1, h2, h3, h4, h5⟩ := h
  exact ⟨A, n, c, i, x, h1.same (hb.block g hB), h2.below hb (by omega), h3, h4, h5⟩
theorem Touch.then_below {lo hi B : Nat} {a b c : World} (h : Touch lo hi a b) (hb : Below B b c) (hB : a.heap.size ≤ B) : Touch lo hi a c :=
  ⟨hb.os.trans h.os, hb.tape.trans h.tape, hb.output.trans h.output, Nat.le_trans h.size hb.size, fun k hk hd => (hb.block k (by omega)).trans (h.block k hk hd)⟩
theorem Cur.lt {w : World} {hi g : Nat} (h : Cur w hi g) : g < w.heap.size ∧ hi ≤ g := by
  obtain ⟨A, n, c, i, x, h1, h2, h3, h4, h5⟩ := h
  exact ⟨h1.lt, h5⟩

theorem and255 (n : Int) : 0 ≤ bits BinOp.and .i64 n 255 ∧ bits BinOp.and .i64 n 255 ≤ 255 := by
  have h : bits BinOp.and .i64 n 255 = IntKind.i64.wrap ((BitVec.ofInt 64 n &&& BitVec.ofInt 64 255).toNat : Int) := rfl
  have h2 : (BitVec.ofInt 64 n &&& BitVec.ofInt 64 255).toNat ≤ 255 := by
    have e : (BitVec.ofInt 64 (255 : Int)).toNat = 255 := by simp
    rw [BitVec.toNat_and, e]
    generalize (BitVec.ofInt 64 n).toNat = q
    have hq := Nat.and_le_right (n := q) (m := 255)
    omega
  rw [h]
  generalize (BitVec.ofInt 64 n &&& BitVec.ofInt 64 255).toNat = m at h2
  have h3 : IntKind.i64.wrap (m : Int) = m := by
    rw [IntKind.wrap_i64]
    omega
  rw [h3]
  omega

set_option maxHeartbeats 1000000 in
theorem spec_l1Byte (hi g : Nat) (w : World) (h : Cur w hi g) :
    Calls Tryd.prog 56 #[.pointer (some ⟨g, 0, none⟩)] w fun e w' => ∃ x : Int, e = .returned (.int .i64 x) ∧ 0 ≤ x ∧ x ≤ 255 ∧ Cur w' hi g ∧ Touch g (g + 1) w w' := by
  obtain ⟨A, n, c, i, h0, hB, hby, hi0, hi1, hg⟩ := h
  have c0 := hB.c 0 rfl
  have c1 := hB.c 1 rfl
  have c2 := hB.c 2 rfl
  have f1 := hB.f 1
  have f2 := hB.f 2
  go_enter Tryd.func56, Tryd.ntmps56
  go_wp2_with fail
  obtain ⟨h1, hh1⟩ : ∃ h1 : Int, h1 = wrap64 (wrap64 (h0 * 6364136223846793005) + 1442695040888963407) := ⟨_, rfl⟩
  rw [← hh1]
  clear hh1 c0 c1 c2
  have hB2 := hB.set 2 (.int .i64 h1)
  simp only [List.setIfInBounds_toArray, List.set_cons_zero, List.set_cons_succ] at hB2
  have t2 := (Touch.refl g (g + 1) w).setCell (p := ⟨g, 2, none⟩) (.inl ⟨Nat.le_refl _, Nat.lt_succ_self _⟩) (.int .i64 h1)
  have glt := hB.lt
  have hby2 := hby.same (t2.same (.inl hg) (by omega))
  clear hB f1 f2 hby
  generalize w.setCell ⟨g, 2, none⟩ (.int .i64 h1) = W at hB2 t2 hby2 ⊢
  have c0 := hB2.c 0 rfl
  have c1 := hB2.c 1 rfl
  have c2 := hB2.c 2 rfl
  go_quiet (fail)
  have hx := and255 (bits BinOp.xor IntKind.i64 (h1 / 8589934592) (h1 / 35184372088832))
  generalize bits BinOp.and IntKind.i64 (bits BinOp.xor IntKind.i64 (h1 / 8589934592) (h1 / 35184372088832)) 255 = x0 at hx ⊢
  obtain ⟨hx0, hx1⟩ := hx
  have hcp := hby2.cap
  have hmx := hby2.max
  by_cases hlt : i < (n : Int)
  · obtain ⟨k, rfl⟩ : ∃ k : Nat, i = k := ⟨i.toNat, by omega⟩
    obtain ⟨ad, b, rfl, hb, hb0, hb1⟩ := hby2.at_ (k := k) (by omega)
    go_wp2_with fail
    go_quiet (fail)
    go_wp2_with fail
    go_quiet (fail)
    have hy := and255 (x0 + b)
    generalize bits BinOp.and IntKind.i64 (x0 + b) 255 = x2 at hy ⊢
    have f1 := hB2.f 1
    have lt2 := hB2.lt
    go_wp2_with fail
    go_ret
    have hB3 := hB2.set 1 (.int .i64 ((k : Int) + 1))
    simp only [List.setIfInBounds_toArray, List.set_cons_zero, List.set_cons_succ] at hB3
    have t3 := (Touch.refl g (g + 1) W).setCell (p := ⟨g, 1, none⟩) (.inl ⟨Nat.le_refl _, Nat.lt_succ_self _⟩) (.int .i64 ((k : Int) + 1))
    have hby3 := hby2.same (t3.same (.inl hg) (by omega))
    exact ⟨x2, rfl, hy.1, hy.2, ⟨some ad, n, c, (k : Int) + 1, h1, hB3.same rfl, hby3.same (fun _ _ _ => rfl), by omega, by omega, hg⟩, (t2.drewN _).setCell (p := ⟨g, 1, none⟩) (.inl ⟨Nat.le_refl _, Nat.lt_succ_self _⟩) _⟩
  · go_wp2_with fail
    go_quiet (fail)
    go_wp2_with fail
    go_ret
    exact ⟨x0, rfl, hx0, hx1, ⟨A, n, c, i, h1, hB2.same rfl, hby2.same (fun _ _ _ => rfl), hi0, hi1, hg⟩, (t2.drewN _).drewN _⟩

theorem spec_l1Below (hi g : Nat) (k : Int) (w : World) (h : Cur w hi g) (hk0 : 0 < k) (hk1 : k ≤ 1000000271) :
    Calls Tryd.prog 32 #[.pointer (some ⟨g, 0, none⟩), .int .i64 k] w fun e w' => ∃ x : Int, e = .returned (.int .i64 x) ∧ 0 ≤ x ∧ x < k ∧ Cur w' hi g ∧ Touch g (g + 1) w w' := by
  by_cases h256 : k ≤ 256
  · go_enter Tryd.func32, Tryd.ntmps32
    go_wp2_with fail
    refine (spec_l1Byte hi g w h).mono ?_
    rintro e w1 ⟨x, rfl, hx0, hx1, c1, t1⟩
    have hm := Int.tmod_eq_emod_of_nonneg (b := k) hx0
    have hm0 := Int.emod_nonneg x (show k ≠ 0 by omega)
    have hm1 := Int.emod_lt_of_pos x hk0
    go_wp2_with fail
    go_ret
    exact ⟨_, rfl, by omega, by omega, c1, t1⟩
  · go_enter Tryd.func32, Tryd.ntmps32
    go_wp2_with fail
    refine (spec_l1Byte hi g w h).mono ?_
    rintro e w1 ⟨x, rfl, hx0, hx1, c1, t1⟩
    go_wp2_with fail
    refine (spec_l1Byte hi g w1 c1).mono ?_
    rintro e w2 ⟨y, rfl, hy0, hy1, c2, t2⟩
    go_wp2_with fail
    refine (spec_l1Byte hi g w2 c2).mono ?_
    rintro e w3 ⟨z, rfl, hz0, hz1, c3, t3⟩
    go_wp2_with fail
    refine (spec_l1Byte hi g w3 c3).mono ?_
    rintro e w4 ⟨u, rfl, hu0, hu1, c4, t4⟩
    have hs : 0 ≤ x * 16777216 + y * 65536 + z * 256 + u := by omega
    have hm := Int.tmod_eq_emod_of_nonneg (b := k) hs
    have hm0 := Int.emod_nonneg (x * 16777216 + y * 65536 + z * 256 + u) (show k ≠ 0 by omega)
    have hm1 := Int.emod_lt_of_pos (x * 16777216 + y * 65536 + z * 256 + u) hk0
    go_wp2_with fail
    go_ret
    exact ⟨_, rfl, by omega, by omega, c4, ((t1.trans t2).trans t3).trans t4⟩

theorem spec_l1Once (hi g : Nat) (k : Int) (w : World) (h : Cur w hi g) (hk0 : 0 < k) (hk1 : k ≤ 1000000271) :
    Calls Tryd.prog 33 #[.pointer (some ⟨g, 0, none⟩), .int .i64 k] w fun e w' => ∃ b : Bool, e = .returned (.bool b) ∧ Cur w' hi g ∧ Touch g (g + 1) w w' := by
  go_enter Tryd.func33, Tryd.ntmps33
  go_wp2_with fail
  refine (spec_l1Below hi g k w h hk0 hk1).mono ?_
  rintro e w1 ⟨x, rfl, hx0, hx1, c1, t1⟩
  go_wp2_with fail
  go_ret
  exact ⟨_, rfl, c1, t1⟩

theorem spec_dNum (hi g : Nat) (w : World) (h : Cur w hi g) :
    Calls Tryd.prog 48 #[.pointer (some ⟨g, 0, none⟩)] w fun e w' => ∃ x : Int, e = .returned (.int .i64 x) ∧ 0 ≤ x ∧ x < 1000000271 ∧ Cur w' hi g ∧ Touch g (g + 1) w w' := by
  have f12 := fracF_bd 1 2
  go_enter Tryd.func48, Tryd.ntmps48
  go_wp2_with fail
  refine (spec_l1Below hi g 8 w h (by omega) (by omega)).mono ?_
  rintro e w1 ⟨x, rfl, hx0, hx1, c1, t1⟩
  by_cases e0 : x = 0
  · subst e0
    go_wp2_with fail
    go_ret
    exact ⟨_, rfl, by omega, by omega, c1, t1⟩
  by_cases e1 : x = 1
  · subst e1
    go_wp2_with fail
    go_ret
    exact ⟨_, rfl, by omega, by omega, c1, t1⟩
  by_cases e2 : x = 2
  · subst e2
    go_wp2_with fail
    refine (spec_Fraction 1 2 w1 (by constructor <;> omega) (by constructor <;> omega)).mono ?_
    rintro e w2 ⟨rfl, rfl⟩
    go_wp2_with fail
    go_ret
    exact ⟨_, rfl, by omega, by omega, c1, t1⟩
  by_cases e3 : x = 3
  · subst e3
    go_wp2_with fail
    refine (spec_l1Below hi g 1000000271 w1 c1 (by omega) (by omega)).mono ?_
    rintro e w2 ⟨y, rfl, hy0, hy1, c2, t2⟩
    go_wp2_with fail
    go_ret
    exact ⟨_, rfl, by omega, by omega, c2, t1.trans t2⟩
  go_wp2_with fail
  refine (spec_l1Below hi g 13 w1 c1 (by omega) (by omega)).mono ?_
  rintro e w2 ⟨y, rfl, hy0, hy1, c2, t2⟩
  go_wp2_with fail
  refine (spec_l1Below hi g 6 w2 c2 (by omega) (by omega)).mono ?_
  rintro e w3 ⟨z, rfl, hz0, hz1, c3, t3⟩
  have fyz := fracF_bd (y - 6) (1 + z)
  go_wp2_with fail
  refine (spec_Fraction (y - 6) (1 + z) w3 (by constructor <;> omega) (by constructor <;> omega)).mono ?_
  rintro e w4 ⟨rfl, rfl⟩
  go_wp2_with fail
  go_ret
  exact ⟨_, rfl, by omega, by omega, c3, (t1.trans t2).trans t3⟩
end Go.Proofs.YtppekbokaknocaaDoor
