/- Words for memory that all my walks use: what a slice of integers reads as, and what stays when the world grows. -/
import Derived.Test.YtkaepjigmcielaaGreatDoorChecked
import Derived.WalkKit
import Derived.Deep.QuietTactic
import Derived.BigQuiet
import Derived.Deep.RegionHeld3
import Derived.Deep.RegionLaw
import Derived.Deep.AppendLies
import Derived.Deep.LoopGhost
import Derived.Deep.DeepMust
import Derived.Deep.DeepFit
import Derived.WalkSmall
import Derived.StillTailTactics
import Derived.Deep.DeepCutAuto
namespace Go.Proofs.YtkaepjigmcielaaGreatDoor
open Go.RowKit
set_option linter.unusedSimpArgs false
set_option linter.unusedVariables false
set_option maxRecDepth 20000

theorem hide {p : Prop} (h : p) : Hid p := h

def R64 (n : Int) : Prop := -9223372036854775808 ≤ n ∧ n ≤ 9223372036854775807

theorem ret_int {k : IntKind} {a b : Int} (h : a = b) : Ending.returned (.int k a) = .returned (.int k b) := by rw [h]
theorem ret_bool {a b : Bool} (h : a = b) : Ending.returned (.bool a) = .returned (.bool b) := by rw [h]

theorem quiet_left {P : Program} {f : FuncId} {args : Array Value} {w : World} {n : Nat} {v : Value}
    (h : Calls P f args (w.drewN n) fun e w' => e = .returned v ∧ w.drewN n = w') : Calls P f args (w.drewN n) fun e w'' => e = .returned v ∧ ∃ m, w'' = w.drewN m :=
  h.mono fun _ _ ⟨he, hm⟩ => ⟨he, n, hm.symm⟩
theorem quiet_add_left {P : Program} {f : FuncId} {args : Array Value} {w : World} {a n : Nat} {v : Value}
    (h : Calls P f args (w.drewN (a + n)) fun e w' => e = .returned v ∧ w.drewN (a + n) = w') :
    Calls P f args (w.drewN (a + n)) fun e w'' => e = .returned v ∧ ∃ m, w'' = w.drewN (a + m) :=
  h.mono fun _ _ ⟨he, hm⟩ => ⟨he, n, hm.symm⟩
theorem quiet_add {P : Program} {f : FuncId} {args : Array Value} {w : World} {a n : Nat} {v : Value}
    (h : Calls P f args (w.drewN (a + n)) fun e w' => e = .returned v ∧ ∃ m, w' = (w.drewN (a + n)).drewN m) :
    Calls P f args (w.drewN (a + n)) fun e w'' => e = .returned v ∧ ∃ m, w'' = w.drewN (a + m) :=
  h.mono fun _ _ ⟨he, m, hm⟩ => ⟨he, n + m, by rw [hm, World.drewN_drewN, Nat.add_assoc]⟩

theorem still_tail {P : Program} {id : Nat} {Q : Exit → Act → World → Prop} {a : Act} {w : World} {l : List Oper} (n : Nat) (hm : P.follows .mixedOrders = true) (hB : Region.lexTailB .any l.toArray n = true)
    (h : wpStill P l.toArray w.drew (fun a' => wpList P l.toArray Q (l.drop n) a' w.drew) (l.take n) a) : (Code.region id l.toArray true).wp P Q a w :=
  wp_region_still_tail n hm hB h
theorem still_same {P : Program} {f : FuncId} {args : Array Value} {w : World} {v : Value} (h : Calls P f args w fun e w' => e = .returned v ∧ w = w') : Calls P f args w fun e w' => e = .returned v ∧ w' = w :=
  h.mono fun _ _ ⟨he, hm⟩ => ⟨he, hm.symm⟩

theorem block_of_add (a : Addr) (n : Nat) : (a.add n).block = a.block := by unfold Addr.add; split <;> rfl

theorem bcell {B : Nat} {W w1 : World} (hb : Below B W w1) : (∀ b o, b < B → w1.cell? ⟨b, o, none⟩ = W.cell? ⟨b, o, none⟩) ∧ (∀ b o, b < B → w1.frozen? ⟨b, o, none⟩ = W.frozen? ⟨b, o, none⟩) :=
  ⟨fun b o h => hb.cell (p := ⟨b, o, none⟩) h, fun b o h => hb.frozen (p := ⟨b, o, none⟩) h⟩

/-- The blocks from lo up to hi are as they were. -/
def Same (lo hi : Nat) (w w' : World) : Prop := ∀ k, lo ≤ k → k < hi → w'.heap[k]? = w.heap[k]?

theorem Same.of_below {B lo hi : Nat} {w w' : World} (h : Below B w w') (hB : hi ≤ B) : Same lo hi w w' := fun k _ h2 => h.block k (by omega)
theorem Same.cell {lo hi : Nat} {w w' : World} (h : Same lo hi w w') {p : Addr} (h1 : lo ≤ p.block) (h2 : p.block < hi) : w'.cell? p = w.cell? p := World.cell?_of_block (h p.block h1 h2)
theorem Same.refl (lo hi : Nat) (w : World) : Same lo hi w w := fun _ _ _ => rfl

theorem Same.setCell {lo hi : Nat} {w w' : World} (h : Same lo hi w w') {p : Addr} (hp : p.block < lo ∨ hi ≤ p.block) (u : Value) : Same lo hi w (w'.setCell p u) :=
  fun k h1 h2 => (Below.heap_setCell _ _ _ _ (by omega)).trans (h k h1 h2)
theorem Same.alloc {lo hi : Nat} {w w' : World} (h : Same lo hi w w') (hh : hi ≤ w'.heap.size) (o : Obj) : Same lo hi w (w'.alloc o) :=
  fun k h1 h2 => (Below.heap_alloc _ _ _ (by omega)).trans (h k h1 h2)
theorem Same.drew {lo hi : Nat} {w w' : World} (h : Same lo hi w w') : Same lo hi w w'.drew := h
theorem Same.trans {lo hi : Nat} {a b c : World} (h : Same lo hi a b) (k : Same lo hi b c) : Same lo hi a c := fun i h1 h2 => (k i h1 h2).trans (h i h1 h2)

/-- A block of two cells that the call has laid first: what it holds behind a contract. -/
theorem res2 {w w1 : World} {a b : Value} {T : TypeId} (h : Below (w.alloc (.cells #[a, b] T)).heap.size (w.alloc (.cells #[a, b] T)) w1) :
    w1.cell? ⟨w.heap.size, 0, none⟩ = some a ∧ w1.cell? ⟨w.heap.size, 1, none⟩ = some b ∧ w1.frozen? ⟨w.heap.size, 0, none⟩ = false ∧ w1.frozen? ⟨w.heap.size, 1, none⟩ = false ∧ w.heap.size < w1.heap.size := by
  obtain ⟨hq, hqf⟩ := bcell h
  have hq0 := hq w.heap.size 0 (by simp)
  have hq1 := hq w.heap.size 1 (by simp)
  have hf0 := hqf w.heap.size 0 (by simp)
  have hf1 := hqf w.heap.size 1 (by simp)
  have hsz := h.size
  simp at hq0 hq1 hf0 hf1 hsz
  exact ⟨hq0, hq1, hf0, hf1, by omega⟩

/-- A slice of integers that can be read; its cells lie in the blocks from lo up to hi. -/
structure Ints (w : World) (lo hi : Nat) (A : Option Addr) (n c : Nat) (xs : List Int) : Prop where
  len : xs.length = n
  cap : n ≤ c
  max : c ≤ 9223372036854775807
  cells : 0 < n → ∃ ad, A = some ad ∧ lo ≤ ad.block ∧ ad.block < hi ∧ ∀ j x, xs[j]? = some x → w.cell? (ad.add j) = some (.int .i64 x)
  rng : ∀ x ∈ xs, R64 x

section
variable {w w' : World} {lo hi : Nat} {A : Option Addr} {n c : Nat} {xs : List Int}
theorem Ints.at_ (h : Ints w lo hi A n c xs) {k : Nat} (hk : k < n) :
    ∃ ad x, A = some ad ∧ w.cell? (ad.add k) = some (.int .i64 x) ∧ R64 x ∧ Hid (xs.drop k = x :: xs.drop (k+1)) ∧ Hid (xs[k]? = some x) := by
  obtain ⟨ad, e, _, _, hc⟩ := h.cells (by omega)
  have hl : k < xs.length := by have := h.len; omega
  refine ⟨ad, xs[k], e, hc k _ (List.getElem?_eq_getElem hl), h.rng _ (List.getElem_mem hl), ?_, List.getElem?_eq_getElem hl⟩
  exact List.drop_eq_getElem_cons hl
theorem Ints.same (h : Ints w lo hi A n c xs) (hs : Same lo hi w w') : Ints w' lo hi A n c xs :=
  ⟨h.len, h.cap, h.max, fun hn => by
    obtain ⟨ad, e, h1, h2, hc⟩ := h.cells hn
    exact ⟨ad, e, h1, h2, fun j x hx => (hs.cell (by rw [block_of_add]; exact h1) (by rw [block_of_add]; exact h2)).trans (hc j x hx)⟩, h.rng⟩
theorem Ints.below {B : Nat} (h : Ints w lo hi A n c xs) (hb : Below B w w') (hB : hi ≤ B) : Ints w' lo hi A n c xs := h.same (.of_below hb hB)
theorem Ints.wide {lo' hi' : Nat} (h : Ints w lo hi A n c xs) (h1 : lo' ≤ lo) (h2 : hi ≤ hi') : Ints w lo' hi' A n c xs :=
  ⟨h.len, h.cap, h.max, fun hn => by
    obtain ⟨ad, e, h3, h4, hc⟩ := h.cells hn
    exact ⟨ad, e, by omega, by omega, hc⟩, h.rng⟩
theorem Ints.drop_end (h : Ints w lo hi A n c xs) : Hid (xs.drop n = []) := List.drop_eq_nil_of_le (Nat.le_of_eq h.len)
theorem Ints.nil_ (w : World) (lo hi : Nat) : Ints w lo hi none 0 0 [] := ⟨rfl, Nat.le_refl _, by omega, fun h => absurd h (by omega), by simp⟩
end

theorem info_int : (Tryz.prog.info? 3).map (fun i => (i.zero, i.size, i.bytes)) = some (some (.int .i64 0), 1, 8) := by kernel_rfl

theorem made_int (n : Nat) : (madeCells (Value.int .i64 0).cells (n * 1)).toList = (List.replicate n 0).map (Value.int .i64) := by
  apply List.ext_getElem?
  intro j
  simp only [madeCells, Value.cells]
  by_cases hj : j < n
  · simp [hj, Nat.mod_one]
  · simp [hj]

def zeros (n : Nat) : Array Value := madeCells #[.int .i64 0] n
theorem zeros_size (n : Nat) : (zeros n).size = n := by simp [zeros, madeCells]
theorem zeros_list (n : Nat) : (zeros n).toList = (List.replicate n 0).map (Value.int .i64) := by
  have := made_int n
  rw [Nat.mul_one] at this
  exact this
theorem make_ints (n : Nat) (hn : n ≤ 1099511627776) (W : World) :
    (Instr.makeSlice 22 (.int .i64 (n : Int)) (.int .i64 (n : Int))).run Tryz.prog W = .ok (.slice (some ⟨W.heap.size, 0, none⟩) n n) (W.alloc (.cells (zeros n) 3)) := by
  obtain ⟨i0, hi0, hz0, hz1, hz2⟩ := info_parts info_int
  have h := run_make (P := Tryz.prog) W 22 3 i0 (.int .i64 0) Tryz.underlying22 hi0 hz0 .i64 .i64 n n (by omega) (by omega) (by rw [hz2]; omega) (by omega)
  simp only [Int.toNat_natCast, hz1, Nat.mul_one] at h
  exact h
theorem owns_zeros (W : World) (n : Nat) (hn : n ≤ 1099511627776) {lo : Nat} (hl : lo ≤ W.heap.size) : (W.alloc (.cells (zeros n) 3)).ownsRow lo 3 1 (.slice (some ⟨W.heap.size, 0, none⟩) n n) n ((List.replicate n 0).map (Value.int .i64)) := by
  have := World.ownsRow_lit (size := 1) (e := 3) W (zeros n) n hl (by unfold maxLen; omega) (by rw [zeros_size]; omega)
  rwa [zeros_list] at this

/-- A slice of integers in a row of the call's own, in a block from lo up to hi (or nil): it may be written. -/
structure OwnI (w : World) (lo hi : Nat) (A : Option Addr) (n c : Nat) (xs : List Int) : Prop where
  own : w.ownsRow lo 3 1 (.slice A n c) n (xs.map (Value.int .i64))
  lt : ∀ ad, A = some ad → ad.block < hi
  rng : ∀ x ∈ xs, R64 x

section
variable {w w' : World} {lo hi : Nat} {A : Option Addr} {n c : Nat} {xs : List Int}
theorem OwnI.len (h : OwnI w lo hi A n c xs) : xs.length = n := by simpa using h.own.1
theorem OwnI.cap (h : OwnI w lo hi A n c xs) : n ≤ c := by
  rcases h.own.2 with ⟨e, rfl⟩ | ⟨g, cap, cur, e, _, _, h1, _⟩
  · omega
  · injection e with _ _ e3; omega
theorem OwnI.max (h : OwnI w lo hi A n c xs) : c ≤ 9223372036854775807 := by
  rcases h.own.2 with ⟨e, rfl⟩ | ⟨g, cap, cur, e, _, _, _, h1, _⟩
  · injection e with _ _ e3; omega
  · injection e with _ _ e3; unfold maxLen at h1; omega
theorem OwnI.form (h : OwnI w lo hi A n c xs) (hn : 0 < n) : ∃ g, A = some ⟨g, 0, none⟩ ∧ lo ≤ g ∧ g < hi ∧ g < w.heap.size := by
  rcases h.own.2 with ⟨_, rfl⟩ | ⟨g, cap, cur, e, h1, h2, _⟩
  · omega
  · injection e with e1
    exact ⟨g, e1, h1, h.lt _ e1, (Array.getElem?_eq_some_iff.1 h2).1⟩
theorem OwnI.ints (h : OwnI w lo hi A n c xs) : Ints w lo hi A n c xs := by
  refine ⟨h.len, h.cap, h.max, fun hn => ?_, h.rng⟩
  obtain ⟨g, rfl, h1, h2, _⟩ := h.form hn
  refine ⟨_, rfl, h1, h2, fun j x hx => h.own.cells (g := g) rfl j _ (by simp [hx])⟩
theorem OwnI.same (h : OwnI w lo hi A n c xs) (hs : Same lo hi w w') : OwnI w' lo hi A n c xs := by
  refine ⟨⟨h.own.1, ?_⟩, h.lt, h.rng⟩
  rcases h.own.2 with h2 | ⟨g, cap, cur, e, h1, h2, r⟩
  · exact .inl h2
  · have e' := e
    injection e' with e1
    exact .inr ⟨g, cap, cur, e, h1, (hs g h1 (h.lt _ e1)).trans h2, r⟩
theorem OwnI.below {B : Nat} (h : OwnI w lo hi A n c xs) (hb : Below B w w') (hB : hi ≤ B) : OwnI w' lo hi A n c xs := h.same (.of_below hb hB)
theorem OwnI.wide {lo' hi' : Nat} (h : OwnI w lo hi A n c xs) (h1 : lo' ≤ lo) (h2 : hi ≤ hi') : OwnI w lo' hi' A n c xs := by
  refine ⟨⟨h.own.1, ?_⟩, fun ad e => by have := h.lt ad e; omega, h.rng⟩
  rcases h.own.2 with h3 | ⟨g, cap, cur, e, h3, r⟩
  · exact .inl h3
  · exact .inr ⟨g, cap, cur, e, by omega, r⟩
theorem OwnI.nil_ (w : World) (lo hi : Nat) : OwnI w lo hi none 0 0 [] := ⟨World.ownsRow_nil _ _ _ _, by simp, by simp⟩
theorem OwnI.lt_size (h : OwnI w lo hi A n c xs) : ∀ ad, A = some ad → lo ≤ ad.block ∧ ad.block < w.heap.size := fun ad e => h.own.lt ad.block (by rw [e]; rfl)
end

theorem owns_same {w w' : World} {base e size : Nat} {A : Option Addr} {n c : Nat} {xs : List Value} (h : w.ownsRow base e size (.slice A n c) n xs) (hs : ∀ ad, A = some ad → w'.heap[ad.block]? = w.heap[ad.block]?) : w'.ownsRow base e size (.slice A n c) n xs := by
  refine ⟨h.1, ?_⟩
  rcases h.2 with h2 | ⟨g, cap, cur, e, h1, h2, r⟩
  · exact .inl h2
  · have e' := e
    injection e' with e1
    exact .inr ⟨g, cap, cur, e, h1, (hs _ e1).trans h2, r⟩
theorem owns_below {B : Nat} {w w' : World} {base e size : Nat} {A : Option Addr} {n c : Nat} {xs : List Value} (h : w.ownsRow base e size (.slice A n c) n xs) (hb : Below B w w') (hlt : ∀ ad, A = some ad → ad.block < B) : w'.ownsRow base e size (.slice A n c) n xs :=
  owns_same h fun ad e => hb.block _ (hlt ad e)
theorem owns_lt {w : World} {base e size : Nat} {A : Option Addr} {n c : Nat} {xs : List Value} (h : w.ownsRow base e size (.slice A n c) n xs) : ∀ ad, A = some ad → base ≤ ad.block ∧ ad.block < w.heap.size := fun ad e => h.lt ad.block (by rw [e]; rfl)
theorem owns_setCell {w : World} {base e size : Nat} {A : Option Addr} {n c : Nat} {xs : List Value} (h : w.ownsRow base e size (.slice A n c) n xs) {p : Addr} (hp : ∀ ad, A = some ad → ad.block ≠ p.block) (u : Value) : (w.setCell p u).ownsRow base e size (.slice A n c) n xs :=
  owns_same h fun ad e => Below.heap_setCell _ _ _ _ (hp ad e)
theorem below_alloc_inv {w w1 : World} {o : Obj} (h : Below (w.alloc o).heap.size (w.alloc o) w1) : Below w.heap.size w w1 :=
  ((Below.refl _ _).alloc (Nat.le_refl _) o).trans (h.mono (by simp))
theorem owns_low {w : World} {base base' e size : Nat} {A : Option Addr} {n c : Nat} {xs : List Value} (h : w.ownsRow base e size (.slice A n c) n xs) (hb : base' ≤ base) : w.ownsRow base' e size (.slice A n c) n xs := by
  refine ⟨h.1, ?_⟩
  rcases h.2 with h2 | ⟨g, cap, cur, e, h1, r⟩
  · exact .inl h2
  · exact .inr ⟨g, cap, cur, e, by omega, r⟩

/-- w' is w but for the blocks from lo up to hi and for new ones. -/
structure Touch (lo hi : Nat) (w w' : World) : Prop where
  os : w'.os = w.os
  tape : w'.tape = w.tape
  output : w'.output = w.output
  size : w.heap.size ≤ w'.heap.size
  block : ∀ k, k < w.heap.size → (k < lo ∨ hi ≤ k) → w'.heap[k]? = w.heap[k]?

theorem Touch.below {lo hi B : Nat} {w w' : World} (h : Touch lo hi w w') (h1 : B ≤ lo) (h2 : B ≤ w.heap.size) : Below B w w' :=
  ⟨h.os, h.tape, h.output, h.size, fun k hk => h.block k (by omega) (.inl (by omega))⟩
theorem Touch.same {lo hi lo' hi' : Nat} {w w' : World} (h : Touch lo hi w w') (h1 : hi' ≤ lo ∨ hi ≤ lo') (h2 : hi' ≤ w.heap.size) : Same lo' hi' w w' :=
  fun k h3 h4 => h.block k (by omega) (by omega)
theorem Touch.of_below {lo hi : Nat} {w w' : World} (h : Below w.heap.size w w') : Touch lo hi w w' := ⟨h.os, h.tape, h.output, h.size, fun k hk _ => h.block k hk⟩
theorem Touch.refl (lo hi : Nat) (w : World) : Touch lo hi w w := .of_below (Below.refl _ _)
theorem Touch.trans {lo hi : Nat} {a b c : World} (h : Touch lo hi a b) (k : Touch lo hi b c) : Touch lo hi a c :=
  ⟨k.os.trans h.os, k.tape.trans h.tape, k.output.trans h.output, Nat.le_trans h.size k.size, fun i hi hd => (k.block i (Nat.lt_of_lt_of_le hi h.size) hd).trans (h.block i hi hd)⟩
theorem Touch.wide {lo hi lo' hi' : Nat} {w w' : World} (h : Touch lo hi w w') (h1 : lo' ≤ lo) (h2 : hi ≤ hi') : Touch lo' hi' w w' :=
  ⟨h.os, h.tape, h.output, h.size, fun k hk hd => h.block k hk (by omega)⟩
theorem Touch.setCell {lo hi : Nat} {a w : World} (h : Touch lo hi a w) {p : Addr} (hp : (lo ≤ p.block ∧ p.block < hi) ∨ a.heap.size ≤ p.block) (u : Value) : Touch lo hi a (w.setCell p u) :=
  ⟨h.os, h.tape, h.output, by have := h.size; simpa [World.setCell] using this, fun k hk hd => (Below.heap_setCell _ _ _ _ (by omega)).trans (h.block k hk hd)⟩
theorem Touch.alloc {lo hi : Nat} {a w : World} (h : Touch lo hi a w) (o : Obj) : Touch lo hi a (w.alloc o) :=
  ⟨h.os, h.tape, h.output, by have := h.size; simp; omega, fun k hk hd => (Below.heap_alloc _ _ _ (Nat.lt_of_lt_of_le hk h.size)).trans (h.block k hk hd)⟩
theorem below_drewN {B : Nat} {a w : World} (h : Below B a w) (n : Nat) : Below B a (w.drewN n) := ⟨h.os, h.tape, h.output, h.size, h.block⟩
theorem Touch.drew {lo hi : Nat} {a w : World} (h : Touch lo hi a w) : Touch lo hi a w.drew := ⟨h.os, h.tape, h.output, h.size, h.block⟩
theorem Touch.drewN {lo hi : Nat} {a w : World} (h : Touch lo hi a w) (n : Nat) : Touch lo hi a (w.drewN n) := ⟨h.os, h.tape, h.output, h.size, h.block⟩

/-- A block of two cells, as it reads. -/
structure Cell2 (w : World) (g : Nat) (a b : Value) : Prop where
  c0 : w.cell? ⟨g, 0, none⟩ = some a
  c1 : w.cell? ⟨g, 1, none⟩ = some b
  lt : g < w.heap.size
theorem Cell2.new (w : World) (a b : Value) (T : TypeId) : Cell2 (w.alloc (.cells #[a, b] T)) w.heap.size a b := ⟨by simp, by simp, by simp⟩
theorem Cell2.same {w w' : World} {g : Nat} {a b : Value} (h : Cell2 w g a b) (hs : w'.heap[g]? = w.heap[g]?) (hl : w.heap.size ≤ w'.heap.size) : Cell2 w' g a b :=
  ⟨(World.cell?_of_block (w := w) (a := ⟨g, 0, none⟩) hs).trans h.c0, (World.cell?_of_block (w := w) (a := ⟨g, 1, none⟩) hs).trans h.c1, Nat.lt_of_lt_of_le h.lt hl⟩
theorem Cell2.below {w w' : World} {g : Nat} {a b : Value} (h : Cell2 w g a b) (hb : Below w.heap.size w w') : Cell2 w' g a b := h.same (hb.block g h.lt) hb.size
theorem Cell2.touch {w w' : World} {g lo hi : Nat} {a b : Value} (h : Cell2 w g a b) (ht : Touch lo hi w w') (hd : g < lo ∨ hi ≤ g) : Cell2 w' g a b := h.same (ht.block g h.lt hd) ht.size
theorem Cell2.alloc {w : World} {g : Nat} {a b : Value} (h : Cell2 w g a b) (o : Obj) : Cell2 (w.alloc o) g a b := h.same (Below.heap_alloc _ _ _ h.lt) (by simp)
theorem below_alloc (w : World) (o : Obj) : Below w.heap.size w (w.alloc o) := (Below.refl _ _).alloc (Nat.le_refl _) o
end Go.Proofs.YtkaepjigmcielaaGreatDoor
/- Plain arithmetic of the residues by the prime 1000000271: no program in sight. -/
namespace Go.Proofs.YtkaepjigmcielaaGreatDoor
open Go.RowKit
set_option linter.unusedSimpArgs false
set_option linter.unusedVariables false
set_option maxRecDepth 20000

theorem tmod_bd (n : Int) : -1000000271 < n.tmod 1000000271 ∧ n.tmod 1000000271 < 1000000271 := by
  rcases Int.le_total 0 n with h | h
  · rw [Int.tmod_eq_emod_of_nonneg h]; omega
  · obtain ⟨m, rfl⟩ : ∃ m, n = -m := ⟨-n, by omega⟩
    rw [Int.neg_tmod, Int.tmod_eq_emod_of_nonneg (by omega)]; omega

def resF (n : Int) : Int := n % 1000000271
theorem resF_bd (n : Int) : 0 ≤ resF n ∧ resF n < 1000000271 := by unfold resF; omega
theorem res_eq (n : Int) : (n.tmod 1000000271 + 1000000271).tmod 1000000271 = resF n := by
  unfold resF
  rw [Int.tmod_eq_emod_of_nonneg (by have := tmod_bd n; omega)]
  rcases Int.le_total 0 n with h | h
  · rw [Int.tmod_eq_emod_of_nonneg h]; omega
  · obtain ⟨m, rfl⟩ : ∃ m, n = -m := ⟨-n, by omega⟩
    rw [Int.neg_tmod, Int.tmod_eq_emod_of_nonneg (by omega)]; omega

theorem res_eq' (n : Int) : (n.tmod 1000000271 + 1000000271) % 1000000271 = resF n := by
  rw [← res_eq, Int.tmod_eq_emod_of_nonneg (a := n.tmod 1000000271 + 1000000271) (by have := tmod_bd n; omega)]

def plusF (a b : Int) : Int := (a + b) % 1000000271
def timesF (a b : Int) : Int := (a * b) % 1000000271
theorem plusF_bd (a b : Int) : 0 ≤ plusF a b ∧ plusF a b < 1000000271 := by unfold plusF; omega
theorem timesF_bd (a b : Int) : 0 ≤ timesF a b ∧ timesF a b < 1000000271 := ⟨Int.emod_nonneg _ (by omega), Int.emod_lt_of_pos _ (by omega)⟩
theorem plus_eq (a b : Int) : (resF a + resF b) % 1000000271 = plusF a b := by unfold resF plusF; omega
theorem times_eq (a b : Int) : (resF a * resF b) % 1000000271 = timesF a b := by unfold resF timesF; rw [← Int.mul_emod]
theorem mul_bd {a b : Int} (ha : 0 ≤ a) (ha' : a < 1000000271) (hb : 0 ≤ b) (hb' : b < 1000000271) : 0 ≤ a * b ∧ a * b ≤ 1000000542000073441 := by
  refine ⟨Int.mul_nonneg ha hb, ?_⟩
  have h1 : a * b ≤ 1000000271 * b := Int.mul_le_mul_of_nonneg_right (by omega) hb
  omega

theorem timesF_comm (a b : Int) : timesF a b = timesF b a := by unfold timesF; rw [Int.mul_comm]
theorem pow_mod (a : Int) (n : Nat) : (a % 1000000271) ^ n % 1000000271 = a ^ n % 1000000271 := by
  induction n with
  | zero => simp
  | succ n ih => rw [Int.pow_succ, Int.pow_succ, Int.mul_emod, ih, Int.emod_emod_of_dvd _ (by omega), ← Int.mul_emod]

@[irreducible] def powF (a k : Int) : Int := if k < 0 then 0 else a ^ k.toNat % 1000000271
theorem powF_bd (a k : Int) : 0 ≤ powF a k ∧ powF a k < 1000000271 := by
  unfold powF
  split
  · omega
  · exact ⟨Int.emod_nonneg _ (by omega), Int.emod_lt_of_pos _ (by omega)⟩
theorem powF_neg {a k : Int} (h : k < 0) : powF a k = 0 := by unfold powF; rw [if_pos h]
theorem powF_start {a k : Int} (h : 0 ≤ k) : powF a k = (1 * resF a ^ k.toNat) % 1000000271 := by
  unfold powF resF
  rw [if_neg (by omega), Int.one_mul, pow_mod]
theorem pow_odd {o x k : Int} (h : 0 ≤ k) (h2 : k % 2 = 1) : (o * x ^ k.toNat) % 1000000271 = ((o * x % 1000000271) * (x * x % 1000000271) ^ (k / 2).toNat) % 1000000271 := by
  have e : k.toNat = 2 * (k / 2).toNat + 1 := by omega
  rw [Int.mul_emod (o * x % 1000000271), pow_mod, Int.emod_emod_of_dvd _ (by omega), ← Int.mul_emod, e, Int.pow_succ, Int.pow_mul]
  congr 1
  rw [show x ^ 2 = x * x from by rw [Int.pow_succ, Int.pow_succ, Int.pow_zero, Int.one_mul]]
  rw [Int.mul_assoc, Int.mul_comm x ((x * x) ^ _)]
theorem pow_even {o x k : Int} (h : 0 ≤ k) (h2 : k % 2 = 0) : (o * x ^ k.toNat) % 1000000271 = (o * (x * x % 1000000271) ^ (k / 2).toNat) % 1000000271 := by
  have e : k.toNat = 2 * (k / 2).toNat := by omega
  rw [Int.mul_emod o ((x * x % 1000000271) ^ _), pow_mod, ← Int.mul_emod, e, Int.pow_mul]
  congr 1
  rw [show x ^ 2 = x * x from by rw [Int.pow_succ, Int.pow_succ, Int.pow_zero, Int.one_mul]]
theorem pow_stop {o x : Int} (h0 : 0 ≤ o) (h1 : o < 1000000271) : (o * x ^ (0 : Int).toNat) % 1000000271 = o := by
  simp only [Int.toNat_zero, Int.pow_zero, Int.mul_one]
  exact Int.emod_eq_of_lt h0 h1

def invF (a : Int) : Int := powF a 1000000269
def fracF (a b : Int) : Int := timesF a (invF b)
theorem invF_bd (a : Int) : 0 ≤ invF a ∧ invF a < 1000000271 := powF_bd _ _
theorem fracF_bd (a b : Int) : 0 ≤ fracF a b ∧ fracF a b < 1000000271 := timesF_bd _ _
def isNumF (n : Int) : Bool := decide (0 ≤ n) && decide (n < 1000000271)
theorem isNumF_iff (n : Int) : isNumF n = true ↔ 0 ≤ n ∧ n < 1000000271 := by simp [isNumF]
end Go.Proofs.YtkaepjigmcielaaGreatDoor
