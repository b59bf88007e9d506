/- Own slices whose elements own their memory, one behind the other: copies, marks. -/
import Derived.Test.YtkaepjigmcielaaGreatDoorMzI
import Derived.Test.YtkaepjigmcielaaGreatDoorMzB
namespace Go.Proofs.YtkaepjigmcielaaGreatDoor
open Go.RowKit
set_option linter.unusedSimpArgs false
set_option linter.unusedVariables false
set_option maxRecDepth 20000

/-- the call's own row of integers -/
def kO : Kd (List Int) := ⟨fun w l h v xs => ∃ B m d, v = .slice B m d ∧ OwnI w l h B m d xs, fun ⟨B, m, d, e, hI⟩ hs => ⟨B, m, d, e, hI.same hs⟩, fun ⟨_, _, _, e, _⟩ => by rw [e]; rfl⟩
/-- each element in blocks of its own, one behind the other -/
def Stk {α : Type} (K : Kd α) (w : World) : Nat → Nat → List Value → List α → Prop
  | lo, hi, [], [] => lo ≤ hi
  | lo, hi, v :: vs, x :: xs => ∃ l m, lo ≤ l ∧ l ≤ m ∧ K.rd w l m v x ∧ Stk K w m hi vs xs
  | _, _, _, _ => False
section
variable {α : Type} {K : Kd α} {w w' : World}
theorem Stk.le : ∀ {vs : List Value} {xs : List α} {lo hi : Nat}, Stk K w lo hi vs xs → lo ≤ hi
  | [], [], _, _, h => h
  | v :: vs, x :: xs, _, _, ⟨_, _, h1, h1', _, h2⟩ => Nat.le_trans (Nat.le_trans h1 h1') h2.le
  | [], _ :: _, _, _, h => by cases h
  | _ :: _, [], _, _, h => by cases h
theorem Stk.len : ∀ {vs : List Value} {xs : List α} {lo hi : Nat}, Stk K w lo hi vs xs → vs.length = xs.length
  | [], [], _, _, _ => rfl
  | v :: vs, x :: xs, _, _, ⟨_, _, _, _, _, h2⟩ => by simp [h2.len]
  | [], _ :: _, _, _, h => by cases h
  | _ :: _, [], _, _, h => by cases h
theorem Stk.same : ∀ {vs : List Value} {xs : List α} {lo hi : Nat}, Stk K w lo hi vs xs → Same lo hi w w' → Stk K w' lo hi vs xs
  | [], [], _, _, h, _ => h
  | v :: vs, x :: xs, _, _, ⟨l, m, h1, h1', h2, h3⟩, hs => ⟨l, m, h1, h1', K.same h2 (fun k a b => hs k (Nat.le_trans h1 a) (Nat.lt_of_lt_of_le b h3.le)), h3.same (fun k a b => hs k (Nat.le_trans (Nat.le_trans h1 h1') a) b)⟩
  | [], _ :: _, _, _, h, _ => by cases h
  | _ :: _, [], _, _, h, _ => by cases h
theorem Stk.wide : ∀ {vs : List Value} {xs : List α} {lo lo' hi hi' : Nat}, Stk K w lo hi vs xs → lo' ≤ lo → hi ≤ hi' → Stk K w lo' hi' vs xs
  | [], [], _, _, _, _, h, h1, h2 => Nat.le_trans (Nat.le_trans h1 h) h2
  | v :: vs, x :: xs, _, _, _, _, ⟨l, m, h1, h1', h2, h3⟩, a, b => ⟨l, m, Nat.le_trans a h1, h1', h2, h3.wide (Nat.le_refl _) b⟩
  | [], _ :: _, _, _, _, _, h, _, _ => by cases h
  | _ :: _, [], _, _, _, _, h, _, _ => by cases h
theorem Stk.snoc : ∀ {vs : List Value} {xs : List α} {lo m l hi : Nat} {v : Value} {x : α}, Stk K w lo m vs xs → K.rd w l hi v x → m ≤ l → l ≤ hi → Stk K w lo hi (vs ++ [v]) (xs ++ [x])
  | [], [], _, _, l, hi, v, x, h, hr, hm, hl => ⟨l, hi, Nat.le_trans h hm, hl, hr, Nat.le_refl _⟩
  | u :: vs, y :: xs, _, _, _, _, _, _, ⟨q, q', h1, h1', h2, h3⟩, hr, hm, hl => ⟨q, q', h1, h1', h2, h3.snoc hr hm hl⟩
  | [], _ :: _, _, _, _, _, _, _, h, _, _, _ => by cases h
  | _ :: _, [], _, _, _, _, _, _, h, _, _, _ => by cases h
theorem Stk.append : ∀ {vs us : List Value} {xs ys : List α} {lo m hi : Nat}, Stk K w lo m vs xs → Stk K w m hi us ys → Stk K w lo hi (vs ++ us) (xs ++ ys)
  | [], _, [], _, _, _, _, h, h2 => h2.wide h (Nat.le_refl _)
  | u :: vs, _, y :: xs, _, _, _, _, ⟨q, q', h1, h1', h2, h3⟩, h4 => ⟨q, q', h1, h1', h2, h3.append h4⟩
  | [], _, _ :: _, _, _, _, _, h, _ => by cases h
  | _ :: _, _, [], _, _, _, _, h, _ => by cases h
theorem Stk.head {vs : List Value} {xs : List α} {lo hi : Nat} {v : Value} {x : α} (h : Stk K w lo hi (v :: vs) (x :: xs)) : ∃ l m, lo ≤ l ∧ l ≤ m ∧ m ≤ hi ∧ K.rd w l m v x ∧ Stk K w m hi vs xs := by
  obtain ⟨l, m, h1, h1', h2, h3⟩ := h
  exact ⟨l, m, h1, h1', h3.le, h2, h3⟩
theorem Stk.get : ∀ {vs : List Value} {xs : List α} {lo hi : Nat}, Stk K w lo hi vs xs → ∀ {j : Nat} {x : α}, xs[j]? = some x → ∃ v l m, vs[j]? = some v ∧ K.rd w l m v x ∧ lo ≤ l ∧ l ≤ m ∧ m ≤ hi
  | [], [], _, _, _, j, x, hx => by simp at hx
  | v :: vs, y :: xs, _, _, ⟨l, m, h1, h1', h2, h3⟩, 0, x, hx => by
    obtain rfl : y = x := by simpa using hx
    exact ⟨v, l, m, rfl, h2, h1, h1', h3.le⟩
  | v :: vs, y :: xs, _, _, ⟨l, m, h1, h1', h2, h3⟩, j + 1, x, hx => by
    obtain ⟨u, l2, m2, e, r, a, b, c⟩ := h3.get (j := j) (x := x) (by simpa using hx)
    exact ⟨u, l2, m2, by simpa using e, r, by omega, b, c⟩
  | [], _ :: _, _, _, h, _, _, _ => by cases h
  | _ :: _, [], _, _, h, _, _, _ => by cases h
theorem Stk.below {vs : List Value} {xs : List α} {lo hi B : Nat} (h : Stk K w lo hi vs xs) (hb : Below B w w') (hB : hi ≤ B) : Stk K w' lo hi vs xs := h.same (.of_below hb hB)
end

/-- The call's own outer slice, its first i elements laid, one behind the other. -/
structure OutS {α : Type} (K : Kd α) (w : World) (lo mid : Nat) (T : TypeId) (g n c i : Nat) (vs : List Value) (xs : List α) : Prop where
  own : w.ownsRow lo T 1 (.slice (some ⟨g, 0, none⟩) n c) n vs
  stk : Stk K w (g + 1) mid (vs.take i) (xs.take i)
  len : xs.length = n
section
variable {α : Type} {K : Kd α} {T : TypeId} {w w' : World} {lo mid g n c i : Nat} {vs : List Value} {xs : List α}
theorem OutS.vlen (h : OutS K w lo mid T g n c i vs xs) : vs.length = n := own_len h.own
theorem OutS.lt (h : OutS K w lo mid T g n c i vs xs) : g < mid := h.stk.le
theorem OutS.below (h : OutS K w lo mid T g n c i vs xs) {B : Nat} (hb : Below B w w') (hB : mid ≤ B) : OutS K w' lo mid T g n c i vs xs :=
  ⟨owns_below h.own hb fun ad e => by injection e with e; subst e; have := h.lt; show g < B; omega, h.stk.below hb hB, h.len⟩
theorem OutS.drew (h : OutS K w lo mid T g n c i vs xs) : OutS K w.drew lo mid T g n c i vs xs := ⟨h.own, h.stk.same (fun _ _ _ => rfl), h.len⟩
theorem OutS.wide (h : OutS K w lo mid T g n c i vs xs) {mid' : Nat} (h2 : mid ≤ mid') : OutS K w lo mid' T g n c i vs xs := ⟨h.own, h.stk.wide (Nat.le_refl _) h2, h.len⟩
theorem OutS.hole (h : OutS K w lo mid T g n c i vs xs) (v : Value) : OutS K (w.setCell ⟨g, i, none⟩ v) lo mid T g n c i (vs.set i v) xs :=
  ⟨(h.own.stored i v).1, by
    rw [List.take_set_of_le (Nat.le_refl i)]
    exact h.stk.same ((Same.refl _ _ _).setCell (p := ⟨g, i, none⟩) (.inl (Nat.lt_succ_self g)) v), h.len⟩
theorem OutS.fill (h : OutS K w lo mid T g n c i vs xs) {l h' : Nat} {v : Value} {x : α} (hv : vs[i]? = some v) (hx : xs[i]? = some x) (hr : K.rd w l h' v x) (hl : mid ≤ l) (hl2 : l ≤ h') : OutS K w lo h' T g n c (i + 1) vs xs :=
  ⟨h.own, by rw [List.take_add_one, List.take_add_one, hv, hx]; exact h.stk.snoc hr hl hl2, h.len⟩
theorem OutS.at_ (h : OutS K w lo mid T g n c i vs xs) {k : Nat} (hk : k < n) : ∃ v, w.cell? ⟨g, k, none⟩ = some v ∧ vs[k]? = some v ∧ w.frozen? ⟨g, k, none⟩ = false := by
  have hvl := h.vlen
  exact ⟨vs[k], (h.own.cellAt k (by omega)).trans (List.getElem?_eq_getElem (by omega)), List.getElem?_eq_getElem (by omega), h.own.frozenAt k⟩
theorem OutS.capb (h : OutS K w lo mid T g n c i vs xs) : n ≤ c ∧ c ≤ 9223372036854775807 := by
  rcases h.own.2 with ⟨e, rfl⟩ | ⟨g', cap, cur, e, _, _, h1, h2, _⟩
  · injection e; omega
  · injection e with _ _ e3; unfold maxLen at h2; omega
end
theorem OutS.nils {α : Type} (K : Kd α) (T : TypeId) (w : World) (n : Nat) {xs : List α} (hl : xs.length = n) (hn : n ≤ 9223372036854775807) (v : Value) (hv : v.oneCell' = true) : OutS K (w.alloc (.cells (madeCells #[v] n) T)) w.heap.size (w.heap.size + 1) T w.heap.size n n 0 (List.replicate n v) xs := by
  have e : (madeCells #[v] n).toList = List.replicate n v := by
    apply List.ext_getElem?
    intro j
    simp only [madeCells]
    by_cases hj : j < n
    · simp [hj, Nat.mod_one]
    · simp [hj]
  have ho := World.ownsRow_lit (size := 1) (e := T) (base := w.heap.size) w (madeCells #[v] n) n (Nat.le_refl _) (by unfold maxLen; omega) (by rw [← Array.length_toList, e]; simp)
  rw [e] at ho
  exact ⟨ho, Nat.le_refl _, hl⟩
/-- own, or nil -/
def Ros {α : Type} (K : Kd α) (T : TypeId) (w : World) (lo hi : Nat) (A : Option Addr) (n c : Nat) (xs : List α) : Prop :=
  (A = none ∧ n = 0 ∧ c = 0 ∧ xs = [] ∧ lo ≤ hi) ∨ ∃ g vs, A = some ⟨g, 0, none⟩ ∧ OutS K w lo hi T g n c n vs xs
theorem Ros.same {α : Type} {K : Kd α} {T : TypeId} {w w' : World} {lo hi : Nat} {A : Option Addr} {n c : Nat} {xs : List α} (h : Ros K T w lo hi A n c xs) (hs : Same lo hi w w') : Ros K T w' lo hi A n c xs := by
  rcases h with h | ⟨g, vs, e, h⟩
  · exact .inl h
  · have h1 := (h.own.lt g rfl).1
    have h2 := h.lt
    exact .inr ⟨g, vs, e, owns_same h.own (fun ad e => by injection e with e; subst e; exact hs g h1 h2), h.stk.same (fun k a b => hs k (by omega) b), h.len⟩
theorem Ros.below {α : Type} {K : Kd α} {T : TypeId} {w w' : World} {lo hi B : Nat} {A : Option Addr} {n c : Nat} {xs : List α} (h : Ros K T w lo hi A n c xs) (hb : Below B w w') (hB : hi ≤ B) : Ros K T w' lo hi A n c xs := h.same (.of_below hb hB)
theorem Ros.wide {α : Type} {K : Kd α} {T : TypeId} {w : World} {lo hi lo' hi' : Nat} {A : Option Addr} {n c : Nat} {xs : List α} (h : Ros K T w lo hi A n c xs) (h1 : lo' ≤ lo) (h2 : hi ≤ hi') : Ros K T w lo' hi' A n c xs := by
  rcases h with ⟨a, b, c, d, e⟩ | ⟨g, vs, e, h⟩
  · exact .inl ⟨a, b, c, d, by omega⟩
  · exact .inr ⟨g, vs, e, owns_low h.own h1, h.stk.wide (Nat.le_refl _) h2, h.len⟩
theorem Ros.len {α : Type} {K : Kd α} {T : TypeId} {w : World} {lo hi : Nat} {A : Option Addr} {n c : Nat} {xs : List α} (h : Ros K T w lo hi A n c xs) : xs.length = n := by
  rcases h with ⟨_, rfl, _, rfl, _⟩ | ⟨_, _, _, h⟩
  · rfl
  · exact h.len
theorem Ros.capb {α : Type} {K : Kd α} {T : TypeId} {w : World} {lo hi : Nat} {A : Option Addr} {n c : Nat} {xs : List α} (h : Ros K T w lo hi A n c xs) : n ≤ c ∧ c ≤ 9223372036854775807 := by
  rcases h with ⟨_, rfl, rfl, _⟩ | ⟨_, _, _, h⟩
  · omega
  · exact h.capb
theorem Ros.le {α : Type} {K : Kd α} {T : TypeId} {w : World} {lo hi : Nat} {A : Option Addr} {n c : Nat} {xs : List α} (h : Ros K T w lo hi A n c xs) : lo ≤ hi := by
  rcases h with ⟨_, _, _, _, h⟩ | ⟨g, _, _, h⟩
  · exact h
  · have h1 := (h.own.lt g rfl).1
    have h2 := h.lt
    omega
theorem Ros.ints2 {T : TypeId} {w : World} {lo hi : Nat} {A : Option Addr} {n c : Nat} {xss : List (List Int)} (h : Ros kO T w lo hi A n c xss) : Ints2 w lo hi A n c xss := by
  rcases h with ⟨rfl, rfl, rfl, rfl, _⟩ | ⟨g, vs, rfl, h⟩
  · exact Ints2.nil_ _ _ _
  · have h1 := (h.own.lt g rfl).1
    have h2 := h.lt
    have hvl := h.vlen
    have hs := h.stk
    rw [List.take_of_length_le (by omega), List.take_of_length_le (Nat.le_of_eq h.len)] at hs
    refine ⟨h.len, h.capb.1, h.capb.2, fun hn => ⟨_, rfl, h1, h2, fun j xs hj => ?_⟩⟩
    obtain ⟨v, l, m, e, ⟨B, k, d, rfl, hO⟩, a, b, c⟩ := hs.get hj
    refine ⟨B, k, d, ?_, hO.ints.wide (by omega) c⟩
    have hj2 := (List.getElem?_eq_some_iff.1 e).1
    simpa [Addr.add_lit] using (h.own.cellAt j (by omega)).trans e
end Go.Proofs.YtkaepjigmcielaaGreatDoor
