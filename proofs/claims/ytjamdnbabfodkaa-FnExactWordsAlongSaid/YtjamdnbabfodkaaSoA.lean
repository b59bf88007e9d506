/- A row of monomials of the call's own while it is put in order: what it holds, exchanges, and the comparing closure. -/
import Derived.Test.YtjamdnbabfodkaaPoly
import Derived.WalkSpells
import Derived.BigRegion
namespace Go.Proofs.Ytjamdnbabfodkaa
open Go.RowKit
set_option linter.unusedSimpArgs false
set_option linter.unusedVariables false
set_option maxRecDepth 20000

/-- an element of a row of monomials: its number, its slice of powers, and what that reads as -/
structure El where
  x : Int
  B : Option Addr
  m : Nat
  d : Nat
  xs : List Int
def El.cells (e : El) : List Value := [.int .i64 e.x, .slice e.B e.m e.d]
def El.agg (e : El) : Value := .agg #[.int .i64 e.x, .slice e.B e.m e.d]
def El.mono (e : El) : Mono := (e.x, e.xs)
instance : Inhabited El := ⟨⟨0, none, 0, 0, []⟩⟩

theorem elc_len (es : List El) : (es.flatMap El.cells).length = es.length * 2 := by
  induction es with
  | nil => rfl
  | cons m r ih => rw [List.flatMap_cons, List.length_append, ih, List.length_cons, show m.cells.length = 2 from rfl]; omega
theorem elc_at (es : List El) : ∀ (j : Nat) (e : El), es[j]? = some e → (es.flatMap El.cells)[j * 2]? = some (.int .i64 e.x) ∧ (es.flatMap El.cells)[j * 2 + 1]? = some (.slice e.B e.m e.d) := by
  induction es with
  | nil => intro j m h; simp at h
  | cons q r ih =>
    intro j m h
    cases j with
    | zero =>
      simp at h
      subst h
      simp [List.flatMap_cons, El.cells]
    | succ j =>
      have := ih j m (by simpa using h)
      rw [List.flatMap_cons, show (j + 1) * 2 = 2 + j * 2 from by omega, show 2 + j * 2 + 1 = 2 + (j * 2 + 1) from by omega]
      rw [show q.cells = [.int .i64 q.x, .slice q.B q.m q.d] from rfl]
      rw [List.getElem?_append_right (by simp), List.getElem?_append_right (by simp)]
      simpa using this
theorem elc_set (es : List El) : ∀ (j : Nat) (e : El), j < es.length → ((es.flatMap El.cells).set (j * 2) (.int .i64 e.x)).set (j * 2 + 1) (.slice e.B e.m e.d) = (es.set j e).flatMap El.cells := by
  induction es with
  | nil => intro j e h; simp at h
  | cons q r ih =>
    intro j e h
    cases j with
    | zero => simp [List.flatMap_cons, El.cells]
    | succ j =>
      have := ih j e (by simpa using h)
      rw [List.flatMap_cons, List.set_cons_succ, List.flatMap_cons, ← this, show (j + 1) * 2 = (j * 2 + 1) + 1 from by omega]
      simp [El.cells]
theorem elc_one (es : List El) : ∀ u ∈ es.flatMap El.cells, u.oneCell' = true := by
  intro u hu
  simp only [List.mem_flatMap, El.cells] at hu
  obtain ⟨m, _, hm⟩ := hu
  rcases List.mem_cons.1 hm with rfl | hm
  · rfl
  · rw [List.mem_singleton] at hm
    rw [hm]; rfl

/-- the powers of an element can be read, in no cell of the block g -/
def PowR (W : World) (g : Nat) (e : El) : Prop := ∃ l h, Ints W l h e.B e.m e.d e.xs ∧ (h ≤ g ∨ g < l) ∧ h ≤ W.heap.size
theorem PowR.same {W W' : World} {g : Nat} {e : El} (h : PowR W g e) (hs : W.heap.size ≤ W'.heap.size) (hb : ∀ k, k < W.heap.size → k ≠ g → W'.heap[k]? = W.heap[k]?) : PowR W' g e := by
  obtain ⟨l, h, hI, hg, hw⟩ := h
  exact ⟨l, h, hI.same (fun k h1 h2 => hb k (by omega) (by omega)), hg, by omega⟩

/-- the row g of W, while it is put in order: w is the world before -/
structure SortC (w W : World) (lo g n c : Nat) (es : List El) : Prop where
  own : W.ownsRow lo 53 2 (.slice (some ⟨g, 0, none⟩) n c) n (es.flatMap El.cells)
  len : es.length = n
  pow : ∀ e ∈ es, PowR W g e ∧ R64 e.x
  chg : Touch g (g + 1) w W
section
variable {w W W' : World} {lo g n c : Nat} {es : List El}
theorem SortC.glt (h : SortC w W lo g n c es) : g < W.heap.size := (h.own.lt g rfl).2
theorem SortC.below (h : SortC w W lo g n c es) (hb : Below W.heap.size W W') : SortC w W' lo g n c es :=
  ⟨owns_below h.own hb (fun ad e => by injection e with e; subst e; exact h.glt), h.len, fun e he => ⟨(h.pow e he).1.same hb.size (fun k hk _ => hb.block k hk), (h.pow e he).2⟩, h.chg.trans (.of_below hb)⟩
theorem SortC.drew (h : SortC w W lo g n c es) : SortC w W.drew lo g n c es := h.below ((Below.refl _ _).drew)
theorem SortC.capb (h : SortC w W lo g n c es) : n ≤ c ∧ c ≤ 9223372036854775807 := by
  rcases h.own.2 with ⟨e, rfl⟩ | ⟨g', cap, cur, e, _, _, h1, h2, _⟩
  · injection e; omega
  · injection e with _ _ e3; unfold maxLen at h2; omega
theorem SortC.at_ (h : SortC w W lo g n c es) {k : Nat} (hk : k < n) : ∃ e, Hid (es[k]? = some e) ∧ W.cell? ⟨g, k * 2, none⟩ = some (.int .i64 e.x) ∧ W.cell? ⟨g, k * 2 + 1, none⟩ = some (.slice e.B e.m e.d) ∧ W.frozen? ⟨g, k * 2, none⟩ = false ∧ W.frozen? ⟨g, k * 2 + 1, none⟩ = false ∧ Hid (PowR W g e) := by
  have hl := h.len
  have he : es[k]? = some es[k] := List.getElem?_eq_getElem (by omega)
  have hc := elc_at es k _ he
  exact ⟨_, he, (h.own.cellAt (k * 2) (by omega)).trans hc.1, (h.own.cellAt (k * 2 + 1) (by omega)).trans hc.2, h.own.frozenAt _, h.own.frozenAt _, (h.pow _ (List.getElem_mem _)).1⟩
theorem setCell_frozen {w : World} {a : Addr} {u : Value} {b : Addr} : (w.setCell a u).frozen? b = w.frozen? b := World.frozen?_setCell _ _ _ _
theorem SortC.set (h : SortC w W lo g n c es) {k : Nat} (hk : k < n) (e : El) (he : PowR W g e ∧ R64 e.x) :
    SortC w ((W.setCell ⟨g, k * 2, none⟩ (.int .i64 e.x)).setCell ⟨g, k * 2 + 1, none⟩ (.slice e.B e.m e.d)) lo g n c (es.set k e) := by
  have hl := h.len
  have t1 := h.own.stored (k * 2) (.int .i64 e.x)
  have t2 := t1.1.stored (k * 2 + 1) (.slice e.B e.m e.d)
  rw [elc_set es k e (by omega)] at t2
  have hsz : ((W.setCell ⟨g, k * 2, none⟩ (.int .i64 e.x)).setCell ⟨g, k * 2 + 1, none⟩ (.slice e.B e.m e.d)).heap.size = W.heap.size := by simp [World.setCell]
  have hbl : ∀ q, q ≠ g → ((W.setCell ⟨g, k * 2, none⟩ (.int .i64 e.x)).setCell ⟨g, k * 2 + 1, none⟩ (.slice e.B e.m e.d)).heap[q]? = W.heap[q]? := fun q hq =>
    (Below.heap_setCell _ _ _ _ hq).trans (Below.heap_setCell _ _ _ _ hq)
  refine ⟨t2.1, by simpa using hl, fun e' he' => ?_, (h.chg.setCell (.inl ⟨Nat.le_refl _, Nat.lt_succ_self _⟩) _).setCell (.inl ⟨Nat.le_refl _, Nat.lt_succ_self _⟩) _⟩
  have hp : PowR W g e' ∧ R64 e'.x := by
    rcases List.mem_or_eq_of_mem_set he' with h1 | h1
    · exact h.pow e' h1
    · rw [h1]; exact he
  exact ⟨hp.1.same (by omega) (fun q hq hne => hbl q hne), hp.2⟩
end
theorem perm_swap {es : List El} {i j : Nat} {a b : El} (ha : es[i]? = some a) (hb : es[j]? = some b) : ((es.set i b).set j a).Perm es := by
  obtain ⟨hi, rfl⟩ := List.getElem?_eq_some_iff.1 ha
  obtain ⟨hj, rfl⟩ := List.getElem?_eq_some_iff.1 hb
  exact List.set_set_perm hi hj
theorem SortC.swap {w W : World} {lo g n c : Nat} {es : List El} (h : SortC w W lo g n c es) {i j : Nat} (hi : i < n) (hj : j < n) {a b : El} (ha : es[i]? = some a) (hb : es[j]? = some b) :
    SortC w ((((W.setCell ⟨g, i * 2, none⟩ (.int .i64 b.x)).setCell ⟨g, i * 2 + 1, none⟩ (.slice b.B b.m b.d)).setCell ⟨g, j * 2, none⟩ (.int .i64 a.x)).setCell ⟨g, j * 2 + 1, none⟩ (.slice a.B a.m a.d)) lo g n c ((es.set i b).set j a) := by
  have h1 := h.set hi b (h.pow b (List.mem_of_getElem? hb))
  refine h1.set hj a ?_
  have ha2 := h.pow a (List.mem_of_getElem? ha)
  refine ⟨ha2.1.same (by simp [World.setCell]) (fun q _ hq => ?_), ha2.2⟩
  exact (Below.heap_setCell _ _ _ _ hq).trans (Below.heap_setCell _ _ _ _ hq)
theorem SortC.mem {w W : World} {lo g n c : Nat} {es : List El} (h : SortC w W lo g n c es) {k : Nat} {e : El} (he : es[k]? = some e) : PowR W g e := (h.pow e (List.mem_of_getElem? he)).1

theorem cmpF_bd : ∀ (a b : List Int), -1 ≤ cmpF a b ∧ cmpF a b ≤ 1
  | [], [] => by simp [cmpF]
  | [], _ :: _ => by simp [cmpF]
  | _ :: _, [] => by simp [cmpF]
  | a :: x, b :: y => by
    rw [cmpF]
    split
    · unfold cmpI; split
      · omega
      · split <;> omega
    · exact cmpF_bd x y

/-- the closure that compares two monomials -/
theorem collect_cmp (x1 : Int) (B1 : Option Addr) (m1 d1 : Nat) (xs1 : List Int) (x2 : Int) (B2 : Option Addr) (m2 d2 : Nat) (xs2 : List Int) (g : Nat) (W : World) (h1 : PowR W g ⟨x1, B1, m1, d1, xs1⟩) (h2 : PowR W g ⟨x2, B2, m2, d2, xs2⟩) :
    Calls Try.prog 82 #[.agg #[.int .i64 x1, .slice B1 m1 d1], .agg #[.int .i64 x2, .slice B2 m2 d2]] W fun r W' => ∃ z : Int, r = .returned (.int .i64 z) ∧ R64 z ∧ Below W.heap.size W W' := by
  obtain ⟨l1, q1, I1, _, s1⟩ := h1
  obtain ⟨l2, q2, I2, _, s2⟩ := h2
  have c1 := I1.cap
  have c2 := I1.max
  have c3 := I2.cap
  have c4 := I2.max
  have H1 := hide I1
  have H2 := hide I2
  clear I1 I2
  go_enter Try.func82, Try.ntmps82
  go_wp2_with fail
  refine (slices_Compare B2 m2 d2 xs2 l2 q2 B1 m1 d1 xs1 l1 q1 _ (H2.out.below (B := W.heap.size) (by (repeat (first | with_reducible exact Below.refl _ _ | with_reducible exact Below.refl _ _ | with_reducible refine Below.drew ?_ | ((with_reducible refine Below.alloc ?_ ?_ _); rotate_left; · first | omega | (simp [World.setCell]; done) | (simp [World.setCell]; omega)) | ((with_reducible refine Below.setCell ?_ ?_ _); rotate_left; · first | exact Nat.le_refl _ | omega | (simp; done) | (simp; omega))))) s2) (H1.out.below (B := W.heap.size) (by (repeat (first | with_reducible exact Below.refl _ _ | with_reducible exact Below.refl _ _ | with_reducible refine Below.drew ?_ | ((with_reducible refine Below.alloc ?_ ?_ _); rotate_left; · first | omega | (simp [World.setCell]; done) | (simp [World.setCell]; omega)) | ((with_reducible refine Below.setCell ?_ ?_ _); rotate_left; · first | exact Nat.le_refl _ | omega | (simp; done) | (simp; omega))))) s1)).mono ?_
  rintro e w1 ⟨rfl, rfl⟩
  go_wp2_with fail
  go_ret
  have hb := cmpF_bd xs2 xs1
  exact ⟨_, rfl, ⟨by omega, by omega⟩, by (repeat (first | with_reducible exact Below.refl _ _ | with_reducible exact Below.refl _ _ | with_reducible refine Below.drew ?_ | ((with_reducible refine Below.alloc ?_ ?_ _); rotate_left; · first | omega | (simp [World.setCell]; done) | (simp [World.setCell]; omega)) | ((with_reducible refine Below.setCell ?_ ?_ _); rotate_left; · first | exact Nat.le_refl _ | omega | (simp; done) | (simp; omega))))⟩

set_option maxHeartbeats 4000000 in
theorem lib_swapRange (w W : World) (lo g n c : Nat) (es : List El) (h : SortC w W lo g n c es) (a b k : Nat) (hab : a + k ≤ b) (hb : b + k ≤ n) (cl : Value) :
    Calls Try.prog 96 #[.slice (some ⟨g, 0, none⟩) n c, .int .i64 a, .int .i64 b, .int .i64 k, cl] W fun r W' => r = .returned (.tuple #[]) ∧ ∃ es', List.Perm es' es ∧ SortC w W' lo g n c es' := by
  have hcb := h.capb
  have HS := hide h
  clear h
  go_enter Try.func96, Try.ntmps96
  go_wp2_with fail
  go_loopw [10] (fun i wr => ∃ (j : Nat) (es' : List El), j ≤ k ∧ i = .int .i64 j ∧ Hid (List.Perm es' es) ∧ Hid (SortC w wr lo g n c es')) (fun i _ => k - (intOf i).toNat)
  case atStart => exact ⟨0, es, by omega, rfl, List.Perm.refl _, HS.out⟩
  case round =>
    clear HS
    obtain ⟨j, es', hj, rfl, hP, hS⟩ := hrel
    by_cases hlt : j < k
    · have hw0 : IntKind.i64.wrap ((a : Int) + (j : Int)) = ((a + j : Nat) : Int) := by rw [show ((a + j : Nat) : Int) = (a : Int) + j by simp]; exact IntWalk.i64_in _ (by omega)
      have hw1 : IntKind.i64.wrap ((b : Int) + (j : Int)) = ((b + j : Nat) : Int) := by rw [show ((b + j : Nat) : Int) = (b : Int) + j by simp]; exact IntWalk.i64_in _ (by omega)
      obtain ⟨p, hp⟩ : ∃ p, p = a + j := ⟨_, rfl⟩
      obtain ⟨q, hq⟩ : ∃ q, q = b + j := ⟨_, rfl⟩
      rw [← hp] at hw0
      rw [← hq] at hw1
      have hpn : p < n := by omega
      have hqn : q < n := by omega
      have hpq : p < q := by omega
      obtain ⟨e1, he1, c1, c2, f1, f2, _⟩ := hS.out.at_ hpn
      obtain ⟨e2, he2, c3, c4, f3, f4, _⟩ := hS.out.at_ hqn
      have n1 : ¬ p * 2 = q * 2 := by omega
      have n2 : ¬ p * 2 = q * 2 + 1 := by omega
      have n3 : ¬ p * 2 + 1 = q * 2 := by omega
      have n4 : ¬ p * 2 + 1 = q * 2 + 1 := by omega
      have g1 := hide (hS.out.swap hpn hqn he1.out he2.out).drew
      have g2 : Hid (List.Perm ((es'.set p e2).set q e1) es) := (perm_swap he1.out he2.out).trans hP.out
      clear he1 he2 hS hP hp hq
      go_wp2_with fail
      go_region
      go_wp2_with fail
      go_roundw
      case rel => exact ⟨j + 1, _, by omega, by go_num, g2.out, g1.out⟩
      case measure => simp [intOf]; omega
    · go_wp2_with fail
      go_end0
      exact ⟨rfl, es', hP.out, hS.out⟩
end Go.Proofs.Ytjamdnbabfodkaa
