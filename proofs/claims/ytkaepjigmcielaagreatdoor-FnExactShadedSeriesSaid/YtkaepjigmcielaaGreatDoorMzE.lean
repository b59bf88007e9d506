/- Polynomials in h modulo the prime, as far as a power of h, as a ring; and that a step of a symplectic pair keeps the form of two tangents. -/
import Derived.Test.YtkaepjigmcielaaGreatDoorMzD
import Derived.Test.YtkaepjigmcielaaGreatDoorMzA
namespace Go.Proofs.YtkaepjigmcielaaGreatDoor
set_option linter.unusedSimpArgs false
set_option linter.unusedVariables false

abbrev Sr := Nat → Int
/-- the product of two series -/
def conv : Sr → Sr → Nat → Int
  | a, b, 0 => a 0 * b 0
  | a, b, k + 1 => a 0 * b (k + 1) + conv (fun i => a (i + 1)) b k
theorem conv_addl : ∀ (k : Nat) (a a' b : Sr), conv (fun i => a i + a' i) b k = conv a b k + conv a' b k
  | 0, a, a', b => by rw [conv, conv, conv, Int.add_mul]
  | k + 1, a, a', b => by rw [conv, conv, conv, conv_addl k, Int.add_mul]; omega
theorem conv_smul : ∀ (k : Nat) (c : Int) (a b : Sr), conv (fun i => c * a i) b k = c * conv a b k
  | 0, c, a, b => by rw [conv, conv, Int.mul_assoc]
  | k + 1, c, a, b => by rw [conv, conv, conv_smul k c, Int.mul_add, Int.mul_assoc]
theorem conv_right : ∀ (k : Nat) (a b : Sr), conv a b (k + 1) = conv a (fun i => b (i + 1)) k + a (k + 1) * b 0
  | 0, a, b => by rw [conv, conv, conv]
  | k + 1, a, b => by
    rw [conv, conv_right k, conv]
    omega
theorem conv_comm : ∀ (k : Nat) (a b : Sr), conv a b k = conv b a k
  | 0, a, b => by rw [conv, conv, Int.mul_comm]
  | k + 1, a, b => by rw [conv_right, conv, conv_comm k, Int.mul_comm (a (k + 1))]; omega
theorem conv_assoc : ∀ (k : Nat) (a b c : Sr), conv (conv a b) c k = conv a (conv b c) k
  | 0, a, b, c => by rw [conv, conv, conv, conv, Int.mul_assoc]
  | k + 1, a, b, c => by
    have e : (fun i => conv a b (i + 1)) = fun i => a 0 * (fun j => b (j + 1)) i + conv (fun j => a (j + 1)) b i := by
      funext i; rw [conv]
    rw [conv, e, conv_addl, conv_smul, conv_assoc k, conv, conv, conv, Int.mul_add, Int.mul_assoc]
    omega
def oneS : Sr := fun k => if k = 0 then 1 else 0
def xS : Sr := fun k => if k = 1 then 1 else 0
theorem conv_zero : ∀ (k : Nat) (b : Sr), conv (fun _ => 0) b k = 0
  | 0, b => by rw [conv, Int.zero_mul]
  | k + 1, b => by rw [conv, conv_zero k]; omega
theorem conv_one (k : Nat) (b : Sr) : conv oneS b k = b k := by
  cases k with
  | zero => show 1 * b 0 = b 0; omega
  | succ k =>
    rw [conv]
    have e : (fun i => oneS (i + 1)) = fun _ => 0 := by funext i; simp [oneS]
    rw [e, conv_zero]
    show 1 * b (k + 1) + 0 = _
    omega
theorem conv_x (k : Nat) (b : Sr) : conv xS b k = if k = 0 then 0 else b (k - 1) := by
  cases k with
  | zero => show 0 * b 0 = _; simp
  | succ k =>
    rw [conv]
    have e : (fun i => xS (i + 1)) = oneS := by funext i; simp [xS, oneS]
    rw [e, conv_one]
    show 0 * b (k + 1) + b k = _
    simp

/-- equal modulo the prime as far as h to the power n -/
def RelJ (n : Nat) (a b : Sr) : Prop := ∀ k, k < n → a k % 1000000271 = b k % 1000000271
def relS (n : Nat) : Setoid Sr := ⟨RelJ n, fun _ _ _ => rfl, fun h k hk => (h k hk).symm, fun h g k hk => (h k hk).trans (g k hk)⟩
def Jr (n : Nat) : Type := Quotient (relS n)
theorem emod_add {a a' b b' : Int} (h : a % 1000000271 = a' % 1000000271) (g : b % 1000000271 = b' % 1000000271) : (a + b) % 1000000271 = (a' + b') % 1000000271 := by omega
theorem emod_mul {a a' b b' : Int} (h : a % 1000000271 = a' % 1000000271) (g : b % 1000000271 = b' % 1000000271) : (a * b) % 1000000271 = (a' * b') % 1000000271 := by
  rw [Int.mul_emod, h, g, ← Int.mul_emod]
theorem conv_rel : ∀ (k : Nat) {a a' b b' : Sr}, RelJ (k + 1) a a' → RelJ (k + 1) b b' → conv a b k % 1000000271 = conv a' b' k % 1000000271
  | 0, _, _, _, _, h, g => by rw [conv, conv]; exact emod_mul (h 0 (by omega)) (g 0 (by omega))
  | k + 1, _, _, _, _, h, g => by
    rw [conv, conv]
    exact emod_add (emod_mul (h 0 (by omega)) (g (k + 1) (by omega))) (conv_rel k (fun i hi => h (i + 1) (by omega)) (fun i hi => g i (by omega)))
namespace Jr
variable {n : Nat}
def mk (a : Sr) : Jr n := Quotient.mk (relS n) a
theorem sound {a b : Sr} (h : RelJ n a b) : (mk a : Jr n) = mk b := Quotient.sound h
theorem exact {a b : Sr} (h : (mk a : Jr n) = mk b) : RelJ n a b := Quotient.exact h
def add : Jr n → Jr n → Jr n := Quotient.lift₂ (fun a b => mk fun i => a i + b i) fun _ _ _ _ h g => sound fun k hk => emod_add (h k hk) (g k hk)
def mul : Jr n → Jr n → Jr n := Quotient.lift₂ (fun a b => mk (conv a b)) fun _ _ _ _ h g => sound fun k hk => conv_rel k (fun i hi => h i (by omega)) (fun i hi => g i (by omega))
def cst (c : Int) : Jr n := mk fun i => c * oneS i
instance : Add (Jr n) := ⟨add⟩
instance : Mul (Jr n) := ⟨mul⟩
instance : Zero (Jr n) := ⟨mk fun _ => 0⟩
instance : One (Jr n) := ⟨mk oneS⟩
def x : Jr n := mk xS
theorem ind {p : Jr n → Prop} (h : ∀ a, p (mk a)) (u : Jr n) : p u := Quotient.ind h u
theorem mk_add (a b : Sr) : (mk a : Jr n) + mk b = mk fun i => a i + b i := rfl
theorem mk_mul (a b : Sr) : (mk a : Jr n) * mk b = mk (conv a b) := rfl
theorem eq_of {a b : Sr} (h : ∀ k, a k = b k) : (mk a : Jr n) = mk b := sound fun k _ => by rw [h k]
theorem add_comm (u v : Jr n) : u + v = v + u := by
  induction u using ind with | _ a; induction v using ind with | _ b
  exact eq_of fun k => Int.add_comm _ _
theorem add_assoc (u v w : Jr n) : u + v + w = u + (v + w) := by
  induction u using ind with | _ a; induction v using ind with | _ b; induction w using ind with | _ c
  exact eq_of fun k => Int.add_assoc _ _ _
theorem add_zero (u : Jr n) : u + 0 = u := by
  induction u using ind with | _ a
  exact eq_of fun k => Int.add_zero _
theorem zero_add (u : Jr n) : 0 + u = u := by rw [add_comm, add_zero]
theorem mul_comm (u v : Jr n) : u * v = v * u := by
  induction u using ind with | _ a; induction v using ind with | _ b
  exact eq_of fun k => conv_comm k a b
theorem mul_assoc (u v w : Jr n) : u * v * w = u * (v * w) := by
  induction u using ind with | _ a; induction v using ind with | _ b; induction w using ind with | _ c
  exact eq_of fun k => conv_assoc k a b c
theorem add_mul (u v w : Jr n) : (u + v) * w = u * w + v * w := by
  induction u using ind with | _ a; induction v using ind with | _ b; induction w using ind with | _ c
  exact eq_of fun k => conv_addl k a b c
theorem mul_add (u v w : Jr n) : u * (v + w) = u * v + u * w := by rw [mul_comm, add_mul, mul_comm v, mul_comm w]
theorem one_mul (u : Jr n) : 1 * u = u := by
  induction u using ind with | _ a
  exact eq_of fun k => conv_one k a
theorem zero_mul (u : Jr n) : 0 * u = 0 := by
  induction u using ind with | _ a
  exact eq_of fun k => conv_zero k a
theorem mul_zero (u : Jr n) : u * 0 = 0 := by rw [mul_comm, zero_mul]
theorem cst_mul (c : Int) (a : Sr) : cst c * (mk a : Jr n) = mk fun i => c * a i := eq_of fun k => by rw [conv_smul, conv_one]
theorem cst_add (c d : Int) : (cst (c + d) : Jr n) = cst c + cst d := eq_of fun k => Int.add_mul _ _ _
theorem cst_zero : (cst 0 : Jr n) = 0 := eq_of fun k => Int.zero_mul _
theorem cst_one : (cst 1 : Jr n) = 1 := eq_of fun k => Int.one_mul _
instance : Std.Associative (α := Jr n) (· + ·) := ⟨add_assoc⟩
instance : Std.Commutative (α := Jr n) (· + ·) := ⟨add_comm⟩
instance : Std.Associative (α := Jr n) (· * ·) := ⟨mul_assoc⟩
instance : Std.Commutative (α := Jr n) (· * ·) := ⟨mul_comm⟩
def sum (f : Nat → Jr n) : Nat → Jr n
  | 0 => 0
  | s + 1 => sum f s + f s
theorem sum_congr {f g : Nat → Jr n} : ∀ {S : Nat}, (∀ s, s < S → f s = g s) → sum f S = sum g S
  | 0, _ => rfl
  | S + 1, h => by rw [sum, sum, sum_congr (fun s hs => h s (by omega)), h S (by omega)]
theorem sum_add (f g : Nat → Jr n) : ∀ S : Nat, sum (fun s => f s + g s) S = sum f S + sum g S
  | 0 => (add_zero 0).symm
  | S + 1 => by rw [sum, sum, sum, sum_add f g S]; ac_rfl
theorem mul_sum (u : Jr n) (f : Nat → Jr n) : ∀ S : Nat, u * sum f S = sum (fun s => u * f s) S
  | 0 => mul_zero u
  | S + 1 => by rw [sum, sum, mul_add, mul_sum u f S]
theorem sum_mul (u : Jr n) (f : Nat → Jr n) (S : Nat) : sum f S * u = sum (fun s => f s * u) S := by
  rw [mul_comm, mul_sum]
  exact sum_congr fun s _ => mul_comm _ _
theorem sum_zero : ∀ S : Nat, sum (fun _ => (0 : Jr n)) S = 0
  | 0 => rfl
  | S + 1 => by rw [sum, sum_zero S, add_zero]
theorem sum_swap (f : Nat → Nat → Jr n) (T : Nat) : ∀ S : Nat, sum (fun s => sum (f s) T) S = sum (fun j => sum (fun s => f s j) S) T
  | 0 => (sum_zero T).symm
  | S + 1 => by
    rw [sum, sum_swap f T S, ← sum_add]
    exact sum_congr fun j _ => rfl

/-- one product behind a step -/
theorem half {S : Nat} {U W : Jr n} {k l : Nat → Jr n} {a ah : Nat → Nat → Jr n} {b : Nat → Jr n} {Us Ws : Nat → Jr n} (hU : ∀ s, s < S → Us s = U + sum (fun j => a s j * k j) S) (hW : ∀ s, s < S → Ws s = W + sum (fun j => ah s j * l j) S)
    (hs : ∀ s, s < S → ∀ j, j < S → b s * b j = b j * a j s + b s * ah s j) :
    (U + sum (fun s => b s * k s) S) * (W + sum (fun s => b s * l s) S) = U * W + sum (fun s => b s * (Us s * l s + k s * Ws s)) S := by
  have e1 : sum (fun s => b s * (Us s * l s + k s * Ws s)) S = sum (fun s => b s * l s * U) S + sum (fun s => b s * k s * W) S + sum (fun s => sum (fun j => (b j * a j s + b s * ah s j) * (k s * l j)) S) S := by
    have h1 : ∀ s, s < S → b s * (Us s * l s + k s * Ws s) = (b s * l s * U + b s * k s * W) + (sum (fun j => b s * a s j * (k j * l s)) S + sum (fun j => b s * ah s j * (k s * l j)) S) := fun s hs' => by
      rw [hU s hs', hW s hs', add_mul, mul_add (k s), mul_add, mul_add, mul_add, sum_mul, mul_sum (k s), mul_sum, mul_sum]
      have t1 : sum (fun j => b s * (a s j * k j * l s)) S = sum (fun j => b s * a s j * (k j * l s)) S := sum_congr fun j _ => by ac_rfl
      have t2 : sum (fun j => b s * (k s * (ah s j * l j))) S = sum (fun j => b s * ah s j * (k s * l j)) S := sum_congr fun j _ => by ac_rfl
      rw [t1, t2]
      ac_rfl
    rw [sum_congr h1, sum_add, sum_add, sum_add, sum_swap (fun s j => b s * a s j * (k j * l s)), ← sum_add (fun j => sum (fun s => b s * a s j * (k j * l s)) S)]
    congr 1
    refine sum_congr fun s _ => ?_
    rw [← sum_add]
    exact sum_congr fun j _ => (add_mul _ _ _).symm
  have e2 : sum (fun s => sum (fun j => (b j * a j s + b s * ah s j) * (k s * l j)) S) S = sum (fun s => b s * k s) S * sum (fun s => b s * l s) S := by
    rw [sum_mul]
    refine sum_congr fun s hs' => ?_
    rw [mul_sum]
    refine sum_congr fun j hj => ?_
    rw [← hs s hs' j hj]
    ac_rfl
  rw [e1, e2, add_mul, mul_add, mul_add, mul_sum, sum_mul]
  have t1 : sum (fun s => U * (b s * l s)) S = sum (fun s => b s * l s * U) S := sum_congr fun s _ => by ac_rfl
  rw [t1]
  ac_rfl
end Jr
end Go.Proofs.YtkaepjigmcielaaGreatDoor
/- Comparing lists of numbers: the plain order and its walks. -/
namespace Go.Proofs.YtkaepjigmcielaaGreatDoor
open Go.RowKit
set_option linter.unusedSimpArgs false
set_option linter.unusedVariables false
set_option maxRecDepth 20000

def cmpI (a b : Int) : Int := if a < b then -1 else if b < a then 1 else 0
def cmpF : List Int → List Int → Int
  | [], [] => 0
  | [], _ :: _ => -1
  | _ :: _, [] => 1
  | a :: x, b :: y => if cmpI a b ≠ 0 then cmpI a b else cmpF x y
def lessF : List Int → List Int → Bool
  | _, [] => false
  | [], _ :: _ => true
  | a :: x, b :: y => if a ≠ b then decide (a < b) else lessF x y
theorem cmp_less : ∀ (q p : List Int), decide (cmpF q p ≤ 0) = !lessF p q
  | [], [] => rfl
  | [], _ :: _ => rfl
  | _ :: _, [] => rfl
  | a :: x, b :: y => by
    rw [cmpF, lessF]
    unfold cmpI
    by_cases h : a < b
    · rw [if_pos h, if_pos (by omega), if_pos (by omega), decide_eq_false (by omega : ¬ b < a)]; rfl
    · rw [if_neg h]
      by_cases h2 : b < a
      · rw [if_pos h2, if_pos (by omega), if_pos (by omega), decide_eq_true h2]; rfl
      · rw [if_neg h2, if_neg (by omega), if_neg (by omega)]
        exact cmp_less x y

theorem cmp_Compare (a b : Int) (w : World) :
    Calls Tryz.prog 91 #[.int .i64 a, .int .i64 b] w fun e w' => e = .returned (.int .i64 (cmpI a b)) ∧ w = w' := by
  by_cases h : a < b
  · have hF : Hid (cmpI a b = -1) := if_pos h
    go_enter Tryz.func91, Tryz.ntmps91
    go_wp2
    go_ret
    exact ⟨ret_int hF.out.symm, rfl⟩
  · by_cases h2 : b < a
    · have hF : Hid (cmpI a b = 1) := by show _ = _; rw [cmpI, if_neg h, if_pos h2]
      go_enter Tryz.func91, Tryz.ntmps91
      go_wp2
      go_ret
      exact ⟨ret_int hF.out.symm, rfl⟩
    · have hF : Hid (cmpI a b = 0) := by show _ = _; rw [cmpI, if_neg h, if_neg h2]
      go_enter Tryz.func91, Tryz.ntmps91
      go_wp2
      go_ret
      exact ⟨ret_int hF.out.symm, rfl⟩

set_option maxHeartbeats 1000000 in
theorem slices_Compare (A : Option Addr) (n c : Nat) (xs : List Int) (lo hi : Nat) (B : Option Addr) (m d : Nat) (ys : List Int) (lo' hi' : Nat) (w : World) (h : Ints w lo hi A n c xs) (g : Ints w lo' hi' B m d ys) :
    Calls Tryz.prog 65 #[.slice A n c, .slice B m d] w fun e w' => e = .returned (.int .i64 (cmpF xs ys)) ∧ w = w' := by
  have hcp := h.cap
  have hm := h.max
  have gcp := g.cap
  have gm := g.max
  go_enter Tryz.func65, Tryz.ntmps65
  go_wp2_with fail
  go_loop [5, 6, 7, 8, 11] (fun _ _ _ _ i => ∃ (k : Nat), k ≤ n ∧ k ≤ m ∧ i = .int .i64 k ∧ Hid (cmpF xs ys = cmpF (xs.drop k) (ys.drop k))) (fun _ _ _ _ i => n - (intOf i).toNat)
  case atStart => exact ⟨0, by omega, by omega, rfl, rfl⟩
  case round =>
    obtain ⟨k, hk, hkm, rfl, hr⟩ := hrel
    by_cases hlt : k < n
    · obtain ⟨ad, x, rfl, hc, hxr, hdx, _⟩ := h.at_ hlt
      by_cases hlt2 : k < m
      · obtain ⟨ae, y, rfl, hd, hyr, hdy, _⟩ := g.at_ hlt2
        have hC := hide (cmp_Compare x y w)
        have hst : Hid (cmpF xs ys = if cmpI x y ≠ 0 then cmpI x y else cmpF (xs.drop (k+1)) (ys.drop (k+1))) := by show _ = _; rw [hr.out, hdx.out, hdy.out, cmpF]
        obtain ⟨z, hz⟩ : ∃ z, cmpI x y = z := ⟨_, rfl⟩
        rw [hz] at hC hst
        clear hz hxr hyr
        by_cases h0 : z = 0
        · have hst2 : Hid (cmpF xs ys = cmpF (xs.drop (k+1)) (ys.drop (k+1))) := hst.out.trans (if_neg (by omega))
          subst h0
          go_wp2_with fail
          refine hC.out.mono ?_
          rintro e w' ⟨rfl, rfl⟩
          go_wp2_with fail
          go_round
          case rel => exact ⟨k + 1, by omega, by omega, by go_num, hst2⟩
          case measure => simp [intOf]; omega
        · have hst2 : Hid (cmpF xs ys = z) := hst.out.trans (if_pos h0)
          have hz0 : (z != 0) = true := by simpa using h0
          go_wp2_with fail
          refine hC.out.mono ?_
          rintro e w' ⟨rfl, rfl⟩
          go_wp2_with fail
          go_ret
          exact ⟨ret_int hst2.out.symm, rfl⟩
      · obtain rfl : k = m := by omega
        have e := g.drop_end
        have hst2 : Hid (cmpF xs ys = 1) := by show _ = _; rw [hr.out, hdx.out, e.out, cmpF]
        go_wp2_with fail
        go_ret
        exact ⟨ret_int hst2.out.symm, rfl⟩
    · obtain rfl : k = n := by omega
      have e := h.drop_end
      by_cases hlt2 : k < m
      · obtain ⟨ae, y, rfl, _, _, hdy, _⟩ := g.at_ hlt2
        have hst2 : Hid (cmpF xs ys = -1) := by show _ = _; rw [hr.out, hdy.out, e.out, cmpF]
        go_wp2_with fail
        go_ret
        exact ⟨ret_int hst2.out.symm, rfl⟩
      · obtain rfl : k = m := by omega
        have e2 := g.drop_end
        have hst2 : Hid (cmpF xs ys = 0) := by show _ = _; rw [hr.out, e.out, e2.out, cmpF]
        go_wp2_with fail
        go_ret
        exact ⟨ret_int hst2.out.symm, rfl⟩

set_option maxHeartbeats 1000000 in
theorem spec_l2Less (A : Option Addr) (n c : Nat) (xs : List Int) (lo hi : Nat) (B : Option Addr) (m d : Nat) (ys : List Int) (lo' hi' : Nat) (w : World) (h : Ints w lo hi A n c xs) (g : Ints w lo' hi' B m d ys) :
    Calls Tryz.prog 81 #[.slice A n c, .slice B m d] w fun e w' => e = .returned (.bool (lessF xs ys)) ∧ ∃ q, w' = w.drewN q := by
  have hcp := h.cap
  have hm := h.max
  have gcp := g.cap
  have gm := g.max
  go_enter Tryz.func81, Tryz.ntmps81
  go_wp2_with fail
  go_loopw [5] (fun i wr => ∃ (k q : Nat), k ≤ n ∧ k ≤ m ∧ i = .int .i64 k ∧ wr = w.drewN q ∧ Hid (lessF xs ys = lessF (xs.drop k) (ys.drop k))) (fun i _ => n - (intOf i).toNat)
  case atStart => exact ⟨0, 0, by omega, by omega, rfl, rfl, rfl⟩
  case round =>
    obtain ⟨k, q, hk, hkm, rfl, rfl, hr⟩ := hrel
    by_cases hlt : k < n
    · obtain ⟨ad, x, rfl, hc, hxr, hdx, _⟩ := h.at_ hlt
      by_cases hlt2 : k < m
      · obtain ⟨ae, y, rfl, hd, hyr, hdy, _⟩ := g.at_ hlt2
        have hst : Hid (lessF xs ys = if x ≠ y then decide (x < y) else lessF (xs.drop (k+1)) (ys.drop (k+1))) := by show _ = _; rw [hr.out, hdx.out, hdy.out, lessF]
        by_cases h0 : x = y
        · have hst2 : Hid (lessF xs ys = lessF (xs.drop (k+1)) (ys.drop (k+1))) := hst.out.trans (if_neg (by simpa using h0))
          subst h0
          go_wp2_with fail
          go_quiet (fail)
          go_wp2_with fail
          go_roundw
          case rel => exact ⟨k + 1, _, by omega, by omega, by go_num, rfl, hst2⟩
          case measure => simp [intOf]; omega
        · have hst2 : Hid (lessF xs ys = decide (x < y)) := hst.out.trans (if_pos h0)
          have hne : (x != y) = true := by simpa using h0
          go_wp2_with fail
          go_quiet (fail)
          go_wp2_with fail
          go_quiet (fail)
          go_wp2_with fail
          go_ret
          exact ⟨ret_bool hst2.out.symm, _, (World.drewN_drewN _ _ _).trans (World.drewN_drewN _ _ _)⟩
      · obtain rfl : k = m := by omega
        have e := g.drop_end
        have hst2 : Hid (lessF xs ys = false) := by show _ = _; rw [hr.out, hdx.out, e.out, lessF]
        go_wp2_with fail
        go_ret
        exact ⟨ret_bool (by first | exact hst2.out.symm | (rw [hst2.out]; done) | (rw [hst2.out]; simp; done) | (rw [hst2.out]; simp; omega)), _, rfl⟩
    · obtain rfl : k = n := by omega
      have e := h.drop_end
      by_cases hlt2 : k < m
      · obtain ⟨ae, y, rfl, _, _, hdy, _⟩ := g.at_ hlt2
        have hst2 : Hid (lessF xs ys = true) := by show _ = _; rw [hr.out, hdy.out, e.out, lessF]
        go_wp2_with fail
        go_ret
        exact ⟨ret_bool (by first | exact hst2.out.symm | (rw [hst2.out]; done) | (rw [hst2.out]; simp; done) | (rw [hst2.out]; simp; omega)), _, rfl⟩
      · obtain rfl : k = m := by omega
        have e2 := g.drop_end
        have hst2 : Hid (lessF xs ys = false) := by show _ = _; rw [hr.out, e.out, e2.out, lessF]
        go_wp2_with fail
        go_ret
        exact ⟨ret_bool (by first | exact hst2.out.symm | (rw [hst2.out]; done) | (rw [hst2.out]; simp; done) | (rw [hst2.out]; simp; omega)), _, rfl⟩

end Go.Proofs.YtkaepjigmcielaaGreatDoor
/- Polynomials and fields: copies and comparisons. -/
namespace Go.Proofs.YtkaepjigmcielaaGreatDoor
open Go.RowKit
set_option linter.unusedSimpArgs false
set_option linter.unusedVariables false
set_option maxRecDepth 20000

theorem info_mono : (Tryz.prog.info? 95).map (fun i => (i.zero, i.size, i.bytes)) = some (some (.agg #[.int .i64 0, .slice none 0 0]), 2, 32) := by kernel_rfl
theorem info_monos : (Tryz.prog.info? 78).map (fun i => (i.zero, i.size, i.bytes)) = some (some (.slice none 0 0), 1, 24) := by kernel_rfl

set_option maxRecDepth 100000 in
set_option maxHeartbeats 2000000 in
theorem laws_eqMonomialS (A : Option Addr) (n c : Nat) (xs : List Mono) (lo hi : Nat) (B : Option Addr) (m d : Nat) (ys : List Mono) (lo' hi' : Nat) (w : World) (h : Mons w lo hi A n c xs) (g : Mons w lo' hi' B m d ys) (hh : hi ≤ w.heap.size) (gh : hi' ≤ w.heap.size) :
    Calls Tryz.prog 77 #[.slice A n c, .slice B m d] w fun e w' => e = .returned (.bool (decide (xs = ys))) ∧ Below w.heap.size w w' := by
  have hcp := h.cap
  have hm := h.max
  have gcp := g.cap
  have gm := g.max
  by_cases hnm : n = m
  · subst hnm
    go_enter Tryz.func77, Tryz.ntmps77
    go_wp2_with fail
    go_loopw [5] (fun i wr => ∃ (k : Nat), k ≤ n ∧ i = .int .i64 k ∧ Hid (Below w.heap.size w wr) ∧ Hid (xs.take k = ys.take k)) (fun i _ => n - (intOf i).toNat)
    case atStart => exact ⟨0, by omega, rfl, Below.refl _ _, rfl⟩
    case round =>
      obtain ⟨k, hk, rfl, hb, hr⟩ := hrel
      by_cases hlt : k < n
      · have hsz := hb.out.size
        have H1 := h.below hb.out hh
        have G1 := g.below hb.out gh
        obtain ⟨ad, x, B1, m1, d1, px, rfl, hc1, hc2, _, hi1, _, hx⟩ := H1.at_ hlt
        obtain ⟨ae, y, B2, m2, d2, py, rfl, hd1, hd2, _, hi2, _, hy⟩ := G1.at_ hlt
        have hlt' : (k : Int) < n := by omega
        have HE := hide (laws_eqMonomial x B1 m1 d1 px lo hi y B2 m2 d2 py lo' hi' wr.drew (hi1.same fun _ _ _ => rfl) (hi2.same fun _ _ _ => rfl) (Nat.le_trans hh hsz) (Nat.le_trans gh hsz))
        cases hxy : decide ((x, px) = (y, py)) with
        | true =>
          have hxy' : (x, px) = (y, py) := of_decide_eq_true hxy
          rw [hxy] at HE
          have ht : Hid (xs.take (k + 1) = ys.take (k + 1)) := take_snoc2 hr.out hx.out (by rw [hy.out, hxy'])
          clear hxy hxy' hx hy H1 G1
          go_wp2_with fail
          go_region_held3 (fun w' => w'.cell? (ad.add (k * 2)) = some (.int .i64 x) ∧ w'.cell? ⟨(ad.add (k * 2)).block, (ad.add (k * 2)).off + 1, none⟩ = some (.slice B1 m1 d1) ∧ w'.cell? (ae.add (k * 2)) = some (.int .i64 y) ∧ w'.cell? ⟨(ae.add (k * 2)).block, (ae.add (k * 2)).off + 1, none⟩ = some (.slice B2 m2 d2)) (first | exact ⟨hc1, hc2, hd1, hd2⟩ | go_keep)
            (first
              | (go_at_call 99; refine HE.out.mono ?_; rintro e w2 ⟨rfl, bF0⟩; have bF : Below wr.heap.size wr w2 := ((Below.refl _ wr).drew).trans bF0; have T0 := And.intro ((bF.cell (World.block_lt_of_cell? wr _ hc1)).trans hc1) (And.intro ((bF.cell (World.block_lt_of_cell? wr _ hc2)).trans hc2) (And.intro ((bF.cell (World.block_lt_of_cell? wr _ hd1)).trans hd1) ((bF.cell (World.block_lt_of_cell? wr _ hd2)).trans hd2)))))
          have HB : Hid (Below w.heap.size w w2) := hb.out.trans (bF.mono hsz)
          clear bF bF0 T0 HE hb
          go_wp2_with fail
          go_roundw
          case rel => exact ⟨k + 1, by omega, by go_num, HB, ht⟩
          case measure => simp [intOf]; omega
        | false =>
          have hxy' : ¬ (x, px) = (y, py) := of_decide_eq_false hxy
          rw [hxy] at HE
          have hF : Hid (decide (xs = ys) = false) := decide_eq_false fun e => by
            have h1 := hx.out
            rw [e, hy.out] at h1
            exact hxy' (by injection h1 with h1; exact h1.symm)
          clear hxy hxy' hx hy H1 G1
          go_wp2_with fail
          go_region_held3 (fun w' => w'.cell? (ad.add (k * 2)) = some (.int .i64 x) ∧ w'.cell? ⟨(ad.add (k * 2)).block, (ad.add (k * 2)).off + 1, none⟩ = some (.slice B1 m1 d1) ∧ w'.cell? (ae.add (k * 2)) = some (.int .i64 y) ∧ w'.cell? ⟨(ae.add (k * 2)).block, (ae.add (k * 2)).off + 1, none⟩ = some (.slice B2 m2 d2)) (first | exact ⟨hc1, hc2, hd1, hd2⟩ | go_keep)
            (first
              | (go_at_call 99; refine HE.out.mono ?_; rintro e w2 ⟨rfl, bF0⟩; have bF : Below wr.heap.size wr w2 := ((Below.refl _ wr).drew).trans bF0; have T0 := And.intro ((bF.cell (World.block_lt_of_cell? wr _ hc1)).trans hc1) (And.intro ((bF.cell (World.block_lt_of_cell? wr _ hc2)).trans hc2) (And.intro ((bF.cell (World.block_lt_of_cell? wr _ hd1)).trans hd1) ((bF.cell (World.block_lt_of_cell? wr _ hd2)).trans hd2)))))
          have HB := hb.out.trans (bF.mono hsz)
          clear bF bF0 T0 HE hb
          go_wp2_with fail
          go_ret
          exact ⟨ret_bool hF.out.symm, HB⟩
      · obtain rfl : k = n := by omega
        have HB := hb.out
        have hF : Hid (decide (xs = ys) = true) := by
          show _ = _
          have h1 := hr.out
          have h2 := h.len
          have h3 := g.len
          rw [List.take_of_length_le (by omega), List.take_of_length_le (by omega)] at h1
          simpa using h1
        go_wp2_with fail
        go_ret
        exact ⟨ret_bool hF.out.symm, HB⟩
  · have hne : ((n : Int) != (m : Int)) = true := by simpa using (by omega : ¬ (n : Int) = m)
    have hF : Hid (decide (xs = ys) = false) := decide_eq_false fun e => hnm (by rw [← h.len, ← g.len, e])
    clear hnm
    go_enter Tryz.func77, Tryz.ntmps77
    go_wp2_with fail
    go_ret
    exact ⟨ret_bool hF.out.symm, Below.refl _ _⟩

set_option maxRecDepth 100000 in
set_option maxHeartbeats 2000000 in
theorem laws_eqMonomialSS (A : Option Addr) (n c : Nat) (xs : List (List Mono)) (lo hi : Nat) (B : Option Addr) (m d : Nat) (ys : List (List Mono)) (lo' hi' : Nat) (w : World) (h : Mons2 w lo hi A n c xs) (g : Mons2 w lo' hi' B m d ys) (hh : hi ≤ w.heap.size) (gh : hi' ≤ w.heap.size) :
    Calls Tryz.prog 42 #[.slice A n c, .slice B m d] w fun e w' => e = .returned (.bool (decide (xs = ys))) ∧ Below w.heap.size w w' := by
  have hcp := h.cap
  have hm := h.max
  have gcp := g.cap
  have gm := g.max
  by_cases hnm : n = m
  · subst hnm
    go_enter Tryz.func42, Tryz.ntmps42
    go_wp2_with fail
    go_loopw [5] (fun i wr => ∃ (k : Nat), k ≤ n ∧ i = .int .i64 k ∧ Hid (Below w.heap.size w wr) ∧ Hid (xs.take k = ys.take k)) (fun i _ => n - (intOf i).toNat)
    case atStart => exact ⟨0, by omega, rfl, Below.refl _ _, rfl⟩
    case round =>
      obtain ⟨k, hk, rfl, hb, hr⟩ := hrel
      by_cases hlt : k < n
      · have hsz := hb.out.size
        have H1 := h.below hb.out hh
        have G1 := g.below hb.out gh
        obtain ⟨ad, B1, m1, d1, px, rfl, hc1, hi1, _, hx⟩ := H1.at_ hlt
        obtain ⟨ae, B2, m2, d2, py, rfl, hd1, hi2, _, hy⟩ := G1.at_ hlt
        have hlt' : (k : Int) < n := by omega
        have HE := hide (laws_eqMonomialS B1 m1 d1 px lo hi B2 m2 d2 py lo' hi' wr.drew (hi1.same fun _ _ _ => rfl) (hi2.same fun _ _ _ => rfl) (Nat.le_trans hh hsz) (Nat.le_trans gh hsz))
        cases hxy : decide (px = py) with
        | true =>
          have hxy' : px = py := of_decide_eq_true hxy
          rw [hxy] at HE
          have ht : Hid (xs.take (k + 1) = ys.take (k + 1)) := take_snoc2 hr.out hx.out (by rw [hy.out, hxy'])
          clear hxy hxy' hx hy H1 G1
          go_wp2_with fail
          go_region_held3 (fun w' => w'.cell? (ad.add k) = some (.slice B1 m1 d1) ∧ w'.cell? (ae.add k) = some (.slice B2 m2 d2)) (first | exact ⟨hc1, hd1⟩ | go_keep)
            (first
              | (go_at_call 77; refine HE.out.mono ?_; rintro e w2 ⟨rfl, bF0⟩; have bF : Below wr.heap.size wr w2 := ((Below.refl _ wr).drew).trans bF0; have T0 := And.intro ((bF.cell (World.block_lt_of_cell? wr _ hc1)).trans hc1) ((bF.cell (World.block_lt_of_cell? wr _ hd1)).trans hd1)))
          have HB : Hid (Below w.heap.size w w2) := hb.out.trans (bF.mono hsz)
          clear bF bF0 T0 HE hb
          go_wp2_with fail
          go_roundw
          case rel => exact ⟨k + 1, by omega, by go_num, HB, ht⟩
          case measure => simp [intOf]; omega
        | false =>
          have hxy' : ¬ px = py := of_decide_eq_false hxy
          rw [hxy] at HE
          have hF : Hid (decide (xs = ys) = false) := decide_eq_false fun e => by
            have h1 := hx.out
            rw [e, hy.out] at h1
            exact hxy' (by injection h1 with h1; exact h1.symm)
          clear hxy hxy' hx hy H1 G1
          go_wp2_with fail
          go_region_held3 (fun w' => w'.cell? (ad.add k) = some (.slice B1 m1 d1) ∧ w'.cell? (ae.add k) = some (.slice B2 m2 d2)) (first | exact ⟨hc1, hd1⟩ | go_keep)
            (first
              | (go_at_call 77; refine HE.out.mono ?_; rintro e w2 ⟨rfl, bF0⟩; have bF : Below wr.heap.size wr w2 := ((Below.refl _ wr).drew).trans bF0; have T0 := And.intro ((bF.cell (World.block_lt_of_cell? wr _ hc1)).trans hc1) ((bF.cell (World.block_lt_of_cell? wr _ hd1)).trans hd1)))
          have HB := hb.out.trans (bF.mono hsz)
          clear bF bF0 T0 HE hb
          go_wp2_with fail
          go_ret
          exact ⟨ret_bool hF.out.symm, HB⟩
      · obtain rfl : k = n := by omega
        have HB := hb.out
        have hF : Hid (decide (xs = ys) = true) := by
          show _ = _
          have h1 := hr.out
          have h2 := h.len
          have h3 := g.len
          rw [List.take_of_length_le (by omega), List.take_of_length_le (by omega)] at h1
          simpa using h1
        go_wp2_with fail
        go_ret
        exact ⟨ret_bool hF.out.symm, HB⟩
  · have hne : ((n : Int) != (m : Int)) = true := by simpa using (by omega : ¬ (n : Int) = m)
    have hF : Hid (decide (xs = ys) = false) := decide_eq_false fun e => hnm (by rw [← h.len, ← g.len, e])
    clear hnm
    go_enter Tryz.func42, Tryz.ntmps42
    go_wp2_with fail
    go_ret
    exact ⟨ret_bool hF.out.symm, Below.refl _ _⟩
end Go.Proofs.YtkaepjigmcielaaGreatDoor
