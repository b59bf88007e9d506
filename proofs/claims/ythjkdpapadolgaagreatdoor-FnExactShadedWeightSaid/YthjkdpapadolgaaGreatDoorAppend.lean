/- append onto a slice of the call's own: laws for the walk whose results keep the shape of a slice. -/
import Derived.Test.YthjkdpapadolgaaGreatDoorBase
import Derived.Maps.AppendAt
namespace Go.Proofs.YthjkdpapadolgaaGreatDoor
open Go.RowKit
set_option linter.unusedSimpArgs false
set_option linter.unusedVariables false
set_option maxRecDepth 20000

theorem own_shape {w : World} {base e size : Nat} {v : Value} {n : Nat} {xs : List Value} (h : w.ownsRow base e size v n xs) : ∃ A c, v = .slice A n c ∧ (∀ ad, A = some ad → ad = ⟨ad.block, 0, none⟩) := by
  rcases h.2 with ⟨rfl, rfl⟩ | ⟨g, cap, cur, rfl, _⟩
  · exact ⟨none, 0, rfl, by simp⟩
  · exact ⟨some ⟨g, 0, none⟩, cap, rfl, fun ad e => by injection e with e; subst e; rfl⟩

section
variable {P : Program}
/-- What an append leaves: the new slice, where it lies, and that only its row and new blocks have turned. -/
def Appended (w0 : World) (base e size : Nat) (A : Option Addr) (n c : Nat) (A' : Option Addr) (m c' : Nat) (xs : List Value) (w' : World) : Prop :=
  w'.ownsRow base e size (.slice A' m c') m xs ∧ w0.grownBy w' (Value.ownBlock (.slice A n c)) ∧ ((∀ ad, A' = some ad → A = some ad) ∨ ∀ ad, A' = some ad → w0.heap.size ≤ ad.block)

theorem run_app (w : World) (base : Nat) (t ty e : TypeId) (i : TypeInfo) (z : Value) (size bytes : Nat) (ht : P.underlying t = some (.slice e)) (hi : P.info? e = some i) (hz : i.zero = some z)
    (hsize : i.size = size) (hby : i.bytes = bytes) (hzs : z.cells.size = size) (hsz : 0 < size)
    (A : Option Addr) (n c : Nat) (xs : List Value) (hown : w.ownsRow base e size (.slice A n c) n xs)
    (a : Addr) (m d : Nat) (news : List Value) (hl : news.length = m * size) (hnews : ∀ j u, news[j]? = some u → w.cell? (a.add j) = some u) (h1 : ∀ u ∈ news, u.oneCell' = true)
    (h63 : n + m ≤ 1099511627776) (hbytes : bytes ≤ 128) (hbase : base ≤ w.heap.size) :
    ∃ A' c' w', (Builtin.append_ #[t, t] ty #[.slice A n c, .slice (some a) m d]).run P w = .ok (.slice A' (n + m) c') w' ∧ Appended w base e size A n c A' (n + m) c' (xs ++ news) w' := by
  obtain ⟨v', w', hrun, h2, h3, _, h5⟩ := run_append_own_at (P := P) w base t ty e i z size bytes ht hi hz hsize hby hzs hsz (.slice A n c) n xs hown a m d news hl hnews h1 (by unfold maxLen; omega)
    (Nat.le_trans (Nat.mul_le_mul h63 hbytes) (by omega)) hbase
  obtain ⟨A', c', rfl, hA'⟩ := own_shape h2
  refine ⟨A', c', w', hrun, h2, h3, ?_⟩
  obtain ⟨_, _, hv, hA⟩ := own_shape hown
  injection hv with hv
  subst hv
  rcases h5 with h5 | h5
  · left
    intro ad had
    subst had
    cases A with
    | none => simp [Value.ownBlock] at h5
    | some ad0 =>
      simp [Value.ownBlock] at h5
      rw [hA ad0 rfl, hA' ad rfl, h5]
  · right
    intro ad had
    subst had
    simp [Value.ownBlock] at h5
    omega

/-- append of one element that has just been laid in a block of its own. -/
theorem run_app1 (w0 : World) (base : Nat) (t ty e : TypeId) (i : TypeInfo) (z : Value) (size bytes : Nat) (ht : P.underlying t = some (.slice e)) (hi : P.info? e = some i) (hz : i.zero = some z)
    (hsize : i.size = size) (hby : i.bytes = bytes) (hzs : z.cells.size = size) (hsz : 0 < size)
    (A : Option Addr) (n c : Nat) (xs : List Value) (hown : w0.ownsRow base e size (.slice A n c) n xs)
    (cs : Array Value) (d : Nat) (hcs : cs.size = size) (h1 : ∀ u ∈ cs.toList, u.oneCell' = true) (hn : n + 1 ≤ 1099511627776) (hbytes : bytes ≤ 128) (hbase : base ≤ w0.heap.size) :
    ∃ A' c' w', (Builtin.append_ #[t, t] ty #[.slice A n c, .slice (some ⟨w0.heap.size, 0, none⟩) 1 d]).run P (w0.alloc (.cells cs e)) = .ok (.slice A' (n + 1) c') w' ∧
      Appended w0 base e size A n c A' (n + 1) c' (xs ++ cs.toList) w' ∧ w0.heap.size < w'.heap.size := by
  obtain ⟨A', c', w', hr, h2, h3, h4⟩ := run_app (P := P) (w0.alloc (.cells cs e)) base t ty e i z size bytes ht hi hz hsize hby hzs hsz A n c xs (hown.alloc _) ⟨w0.heap.size, 0, none⟩ 1 d cs.toList (by simpa using hcs)
    (fun j u hu => by
      rw [Addr.add_lit, Nat.zero_add, cell_of_row _ _ _ cs e (0, 0) (heap_alloc_new w0 _)]
      simpa using hu) h1 hn hbytes (by simp; omega)
  have hz' := h3.size
  simp at hz'
  refine ⟨A', c', w', hr, ⟨h2, ⟨h3.os, h3.tape, h3.output, by omega, fun k hk hne => (h3.block k (by simp; omega) hne).trans (Below.heap_alloc w0 _ k hk)⟩, ?_⟩, by omega⟩
  rcases h4 with h4 | h4
  · exact .inl h4
  · exact .inr fun ad had => by have := h4 ad had; simp at this; omega

theorem wpl_app1 {ops : Array Oper} {rest : List Oper} {o : Oper} {a : Act} {Q : Exit → Act → World → Prop} (hgd : o.guard = none) (s x : Operand) (t : TypeId)
    (ho : o.op = .call { callee := .builtin .append, args := #[s, x], argTypes := #[t, t] })
    (base : Nat) (e : TypeId) (i : TypeInfo) (z : Value) (size bytes : Nat) (ht : P.underlying t = some (.slice e)) (hi : P.info? e = some i) (hz : i.zero = some z)
    (hsize : i.size = size) (hby : i.bytes = bytes) (hzs : z.cells.size = size) (hsz : 0 < size) (w0 : World) (cs : Array Value)
    (A : Option Addr) (n c d : Nat) (xs : List Value) (hs : a.eval s = .slice A n c) (hx : a.eval x = .slice (some ⟨w0.heap.size, 0, none⟩) 1 d) (hown : w0.ownsRow base e size (.slice A n c) n xs)
    (hcs : cs.size = size) (h1 : ∀ u ∈ cs.toList, u.oneCell' = true) (hn : n + 1 ≤ 1099511627776) (hbytes : bytes ≤ 128) (hbase : base ≤ w0.heap.size)
    (h : ∀ A' c' w', Appended w0 base e size A n c A' (n + 1) c' (xs ++ cs.toList) w' → w0.heap.size < w'.heap.size → wpList P ops Q rest (a.put o.dst (.slice A' (n + 1) c')) w') : wpList P ops Q (o :: rest) a (w0.alloc (.cells cs e)) := by
  refine wpList_plain hgd fun K hK => ?_
  obtain ⟨A', c', w', hrun, h2, h3⟩ := run_app1 (P := P) w0 base t o.type e i z size bytes ht hi hz hsize hby hzs hsz A n c xs hown cs d hcs h1 hn hbytes hbase
  unfold Oper.wp
  simp [execOp, ho, resolve, invoke, builtin, hs, hx, hrun, Result.andThen]
  exact hK _ _ (h A' c' w' h2 h3)

/-- append of the elements of a slice that can be read. -/
theorem wpl_app {ops : Array Oper} {rest : List Oper} {o : Oper} {a : Act} {Q : Exit → Act → World → Prop} (hgd : o.guard = none) (s x : Operand) (t : TypeId)
    (ho : o.op = .call { callee := .builtin .append, args := #[s, x], argTypes := #[t, t] }) (w : World)
    (base : Nat) (e : TypeId) (i : TypeInfo) (z : Value) (size bytes : Nat) (ht : P.underlying t = some (.slice e)) (hi : P.info? e = some i) (hz : i.zero = some z)
    (hsize : i.size = size) (hby : i.bytes = bytes) (hzs : z.cells.size = size) (hsz : 0 < size)
    (A : Option Addr) (n c : Nat) (xs : List Value) (hs : a.eval s = .slice A n c) (hown : w.ownsRow base e size (.slice A n c) n xs)
    (B : Option Addr) (m d : Nat) (news : List Value) (hx : a.eval x = .slice B m d) (hl : news.length = m * size) (hnews : ∀ ad, B = some ad → ∀ j u, news[j]? = some u → w.cell? (ad.add j) = some u) (hB : B = none → m = 0 ∧ d = 0) (h1 : ∀ u ∈ news, u.oneCell' = true)
    (h63 : n + m ≤ 1099511627776) (hbytes : bytes ≤ 128) (hbase : base ≤ w.heap.size)
    (h : ∀ A' c' w', Appended w base e size A n c A' (n + m) c' (xs ++ news) w' → wpList P ops Q rest (a.put o.dst (.slice A' (n + m) c')) w') : wpList P ops Q (o :: rest) a w := by
  refine wpList_plain hgd fun K hK => ?_
  cases B with
  | some ad =>
    obtain ⟨A', c', w', hrun, h2⟩ := run_app (P := P) w base t o.type e i z size bytes ht hi hz hsize hby hzs hsz A n c xs hown ad m d news hl (hnews ad rfl) h1 h63 hbytes hbase
    unfold Oper.wp
    simp [execOp, ho, resolve, invoke, builtin, hs, hx, hrun, Result.andThen]
    exact hK _ _ (h A' c' w' h2)
  | none =>
    obtain ⟨rfl, rfl⟩ := hB rfl
    obtain rfl : news = [] := List.eq_nil_of_length_eq_zero (by simpa using hl)
    have hrun := run_append_owned_none (P := P) w base t o.type e i size ht hi (.slice A n c) n xs hown
    unfold Oper.wp
    simp [execOp, ho, resolve, invoke, builtin, hs, hx, hrun, Result.andThen]
    exact hK _ _ (h A c w ⟨by simpa using hown, World.grownBy.refl _ _, .inl fun _ h => h⟩)
end

/-- The same in my words for slices of integers. -/
theorem Appended.below {w0 : World} {base e size : Nat} {A : Option Addr} {n c : Nat} {A' : Option Addr} {m c' : Nat} {xs : List Value} {w' : World} (h : Appended w0 base e size A n c A' m c' xs w')
    {B : Nat} {a : World} (hb : Below B a w0) (hB : B ≤ w0.heap.size) (ho : ∀ ad, A = some ad → B ≤ ad.block) : Below B a w' :=
  hb.grown h.2.1 hB fun k hk => by
    cases A with
    | none => simp [Value.ownBlock] at hk
    | some ad => simp [Value.ownBlock] at hk; subst hk; exact ho ad rfl
end Go.Proofs.YthjkdpapadolgaaGreatDoor
