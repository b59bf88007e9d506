/- Slices whose elements can be read, built by appending or by storing: laws for walks. -/
import Derived.Test.YtkaepjigmcielaaGreatDoorMzG
import Derived.Test.YtkaepjigmcielaaGreatDoorMzA
namespace Go.Proofs.YtkaepjigmcielaaGreatDoor
open Go.RowKit
set_option linter.unusedSimpArgs false
set_option linter.unusedVariables false
set_option maxRecDepth 20000

theorem owp_appJ {P : Program} {o : Oper} {a : Act} {K : Act → World → Prop} {Q : Exit → Act → World → Prop} (s x : Operand) (t : TypeId)
    (ho : o.op = .call { callee := .builtin .append, args := #[s, x], argTypes := #[t, t] })
    (base : Nat) (e : TypeId) (i : TypeInfo) (z : Value) (size bytes : Nat) (ht : P.underlying t = some (.slice e)) (hi : P.info? e = some i) (hz : i.zero = some z)
    (hsize : i.size = size) (hby : i.bytes = bytes) (hzs : z.cells.size = size) (hsz : 0 < size) (w0 : World) (cs : Array Value) (b : Nat) (hb : w0.heap.size = b)
    (A : Option Addr) (n c d : Nat) (xs : List Value) (hs : a.eval s = .slice A n c) (hx : a.eval x = .slice (some ⟨b, 0, none⟩) 1 d) (hown : w0.ownsRow base e size (.slice A n c) n xs)
    (hcs : cs.size = size) (h1 : ∀ u ∈ cs.toList, u.oneCell' = true) (hn : n + 1 ≤ 1099511627776) (hbytes : bytes ≤ 128) (hbase : base ≤ w0.heap.size)
    (h : ∀ A' c' w', Appended w0 base e size A n c A' (n + 1) c' (xs ++ cs.toList) w' → w0.heap.size < w'.heap.size → K (a.put o.dst (.slice A' (n + 1) c')) w') : Oper.wp P o a (w0.alloc (.cells cs e)) K Q := by
  subst hb
  obtain ⟨A', c', w', hrun, h2, h3⟩ := run_app1 (P := P) w0 base t o.type e i z size bytes ht hi hz hsize hby hzs hsz A n c xs hown cs d hcs h1 hn hbytes hbase
  unfold Oper.wp
  simp [execOp, ho, resolve, invoke, builtin, hs, hx, hrun, Result.andThen]
  exact h A' c' w' h2 h3

/-- an append of one value onto the call's own slice, at a step of a region that draws its order -/
theorem step_app1 {P : Program} {ops : Array Oper} {o : Oper} {a : Act} {K : Act → World → Prop} {Q : Exit → Act → World → Prop} {E : Prop} (hgd : o.guard = none) (s x : Operand) (t : TypeId)
    (ho : o.op = .call { callee := .builtin .append, args := #[s, x], argTypes := #[t, t] })
    (base : Nat) (e : TypeId) (i : TypeInfo) (z : Value) (size bytes : Nat) (ht : P.underlying t = some (.slice e)) (hi : P.info? e = some i) (hz : i.zero = some z)
    (hsize : i.size = size) (hby : i.bytes = bytes) (hzs : z.cells.size = size) (hsz : 0 < size) (w0 : World) (cs : Array Value) (b : Nat) (hb : w0.heap.size = b)
    (A : Option Addr) (n c d : Nat) (xs : List Value) (hs : a.eval s = .slice A n c) (hx : a.eval x = .slice (some ⟨b, 0, none⟩) 1 d) (hown : w0.ownsRow base e size (.slice A n c) n xs)
    (hcs : cs.size = size) (h1 : ∀ u ∈ cs.toList, u.oneCell' = true) (hn : n + 1 ≤ 1099511627776) (hbytes : bytes ≤ 128) (hbase : base ≤ w0.heap.size)
    (h : ∀ A' c' w', Appended w0 base e size A n c A' (n + 1) c' (xs ++ cs.toList) w' → w0.heap.size < w'.heap.size → K (a.put o.dst (.slice A' (n + 1) c')) w') :
    if Region.wanted o (yielded ops a.tmps) = true then Oper.wp P o a (w0.alloc (.cells cs e)) K Q else E := by
  have hw : Region.wanted o (yielded ops a.tmps) = true := by simp [Region.wanted, hgd]
  rw [if_pos hw]
  exact owp_appJ s x t ho base e i z size bytes ht hi hz hsize hby hzs hsz w0 cs b hb A n c d xs hs hx hown hcs h1 hn hbytes hbase h

/-- A kind of thing that can be read in the blocks from l up to h. -/
structure Kd (α : Type) where
  rd : World → Nat → Nat → Value → α → Prop
  same : ∀ {w w' : World} {l h : Nat} {v : Value} {x : α}, rd w l h v x → Same l h w w' → rd w' l h v x
  one : ∀ {w : World} {l h : Nat} {v : Value} {x : α}, rd w l h v x → v.oneCell' = true

def kI : Kd (List Int) := ⟨fun w l h v xs => ∃ B m d, v = .slice B m d ∧ Ints w l h B m d xs, fun ⟨B, m, d, e, hI⟩ hs => ⟨B, m, d, e, hI.same hs⟩, fun ⟨_, _, _, e, _⟩ => by rw [e]; rfl⟩
def kII : Kd (List (List Int)) := ⟨fun w l h v xss => ∃ B m d, v = .slice B m d ∧ Ints2 w l h B m d xss, fun ⟨B, m, d, e, hI⟩ hs => ⟨B, m, d, e, hI.same hs⟩, fun ⟨_, _, _, e, _⟩ => by rw [e]; rfl⟩

/-- The call's own slice; its elements can be read (those of P), in no block of the slice itself. -/
structure Lst {α : Type} (K : Kd α) (T : TypeId) (P : Nat → Prop) (w : World) (lo hi : Nat) (A : Option Addr) (n c : Nat) (vs : List Value) (xs : List α) : Prop where
  own : w.ownsRow lo T 1 (.slice A n c) n vs
  lt : ∀ ad, A = some ad → ad.block < hi
  len : xs.length = n
  row : ∀ (j : Nat) (x : α), xs[j]? = some x → P j → ∃ (v : Value) (l h : Nat), vs[j]? = some v ∧ K.rd w l h v x ∧ lo ≤ l ∧ h ≤ hi ∧ (∀ ad, A = some ad → h ≤ ad.block ∨ ad.block < l)

section
variable {α : Type} {K : Kd α} {T : TypeId} {P : Nat → Prop} {w w' : World} {lo hi : Nat} {A : Option Addr} {n c : Nat} {vs : List Value} {xs : List α}
theorem Lst.vlen (h : Lst K T P w lo hi A n c vs xs) : vs.length = n := own_len h.own
theorem Lst.capb (h : Lst K T P w lo hi A n c vs xs) : n ≤ c ∧ c ≤ 9223372036854775807 := by
  rcases h.own.2 with ⟨e, rfl⟩ | ⟨g, cap, cur, e, _, _, h1, h2, _⟩
  · injection e; omega
  · injection e with _ _ e3; unfold maxLen at h2; omega
theorem Lst.form (h : Lst K T P w lo hi A n c vs xs) (hn : 0 < n) : ∃ g, A = some ⟨g, 0, none⟩ ∧ lo ≤ g ∧ g < hi ∧ g < w.heap.size := by
  rcases h.own.2 with ⟨_, e⟩ | ⟨g, _, _, e, h1, h2, _⟩
  · omega
  · injection e with e
    exact ⟨g, e, h1, h.lt _ e, (Array.getElem?_eq_some_iff.1 h2).1⟩
theorem Lst.below (h : Lst K T P w lo hi A n c vs xs) {B : Nat} (hb : Below B w w') (hB : hi ≤ B) : Lst K T P w' lo hi A n c vs xs :=
  ⟨owns_below h.own hb fun ad e => by have := h.lt ad e; omega, h.lt, h.len, fun j x hx hP => by
    obtain ⟨v, l, h', e1, e2, e3, e4, e5⟩ := h.row j x hx hP
    exact ⟨v, l, h', e1, K.same e2 (.of_below hb (by omega)), e3, e4, e5⟩⟩
theorem Lst.wide (h : Lst K T P w lo hi A n c vs xs) {hi2 : Nat} (h2 : hi ≤ hi2) : Lst K T P w lo hi2 A n c vs xs :=
  ⟨h.own, fun ad e => by have := h.lt ad e; omega, h.len, fun j x hx hP => by
    obtain ⟨v, l, h', e1, e2, e3, e4, e5⟩ := h.row j x hx hP
    exact ⟨v, l, h', e1, e2, e3, by omega, e5⟩⟩
theorem Lst.drew (h : Lst K T P w lo hi A n c vs xs) : Lst K T P w.drew lo hi A n c vs xs :=
  ⟨h.own, h.lt, h.len, fun j x hx hP => by
    obtain ⟨v, l, h', e1, e2, e3⟩ := h.row j x hx hP
    exact ⟨v, l, h', e1, K.same e2 (fun _ _ _ => rfl), e3⟩⟩
theorem Lst.imp {P' : Nat → Prop} (h : Lst K T P w lo hi A n c vs xs) (hp : ∀ j, P' j → P j) : Lst K T P' w lo hi A n c vs xs :=
  ⟨h.own, h.lt, h.len, fun j x hx hP => h.row j x hx (hp j hP)⟩
theorem Lst.empty (K : Kd α) (T : TypeId) (P : Nat → Prop) (w : World) (lo : Nat) (h : lo ≤ w.heap.size) : Lst K T P (w.alloc (.cells #[] T)) lo (w.heap.size + 1) (some ⟨w.heap.size, 0, none⟩) 0 0 [] [] :=
  ⟨by simpa using World.ownsRow_lit (size := 1) (e := T) w #[] 0 h (by unfold maxLen; omega) (by simp), fun ad e => by injection e with e; subst e; exact Nat.lt_succ_self _, rfl, by simp⟩
/-- an element appended that was built behind all that there was -/
theorem Lst.push (h : Lst K T P w lo hi A n c vs xs) {l h' : Nat} {v : Value} {x : α} (hr : K.rd w l h' v x) (hl : hi ≤ l) (hh' : h' ≤ w.heap.size) (hlo : lo ≤ hi) (hhi : hi ≤ w.heap.size) {A' : Option Addr} {c' : Nat}
    (hap : Appended w lo T 1 A n c A' (n + 1) c' (vs ++ [v]) w') : Lst K T P w' lo w'.heap.size A' (n + 1) c' (vs ++ [v]) (xs ++ [x]) := by
  obtain ⟨h1, h2, h3⟩ := hap
  have hvl := h.vlen
  have hxl := h.len
  have hsz := h2.size
  -- what lies in no block of the old slice stays, and lies in no block of the new one
  have keep : ∀ (l h' : Nat), h' ≤ w.heap.size → (∀ ad, A = some ad → h' ≤ ad.block ∨ ad.block < l) → Same l h' w w' ∧ ∀ ad, A' = some ad → h' ≤ ad.block ∨ ad.block < l := by
    intro l h' hw hA
    refine ⟨fun k hk1 hk2 => h2.block k (by omega) fun e => ?_, fun ad e => ?_⟩
    · obtain ⟨ad, e1, e2⟩ := ownBlock_eq.1 e.symm
      have := hA ad e1
      omega
    · rcases h3 with h3 | h3
      · exact hA ad (h3 ad e)
      · exact .inl (by have := h3 ad e; omega)
  refine ⟨h1, fun ad e => (owns_lt h1 ad e).2, by simp [hxl], fun j y hy hP => ?_⟩
  by_cases hj : j < n
  · rw [List.getElem?_append_left (by omega)] at hy
    obtain ⟨u, l1, h1', e1, e2, e3, e4, e5⟩ := h.row j y hy hP
    have hw : h1' ≤ w.heap.size := by omega
    have kk := keep l1 h1' hw e5
    exact ⟨u, l1, h1', by rw [List.getElem?_append_left (by omega)]; exact e1, K.same e2 kk.1, e3, by omega, kk.2⟩
  · have hlt := (List.getElem?_eq_some_iff.1 hy).1
    simp at hlt
    obtain rfl : j = n := by omega
    obtain rfl : x = y := by rw [← hxl] at hy; simpa using hy
    have kk := keep l h' hh' (fun ad e => .inr (by have := h.lt ad e; omega))
    exact ⟨v, l, h', by rw [← hvl]; simp, K.same hr kk.1, by omega, by omega, kk.2⟩
/-- an element stored that was built behind all that there was -/
theorem Lst.put {g : Nat} (h : Lst K T P w lo hi (some ⟨g, 0, none⟩) n c vs xs) {l h' : Nat} {v : Value} {x : α} (hr : K.rd w l h' v x) (hl : hi ≤ l) (hlo : lo ≤ hi) {hi2 : Nat} (h2 : h' ≤ hi2) (h3 : hi ≤ hi2) {k : Nat} (hk : k < n) {P' : Nat → Prop} (hP' : ∀ j, P' j → j ≠ k → P j) :
    Lst K T P' (w.setCell ⟨g, k, none⟩ v) lo hi2 (some ⟨g, 0, none⟩) n c (vs.set k v) (xs.set k x) := by
  have hvl := h.vlen
  have hxl := h.len
  have hg := h.lt _ rfl
  simp only at hg
  refine ⟨(h.own.stored k v).1, fun ad e => by have := h.lt ad e; omega, by simpa using hxl, fun j y hy hP => ?_⟩
  by_cases e : j = k
  · subst e
    rw [List.getElem?_set_self (by omega)] at hy
    injection hy with hy
    subst hy
    exact ⟨v, l, h', List.getElem?_set_self (by omega), K.same hr (Same.setCell (p := ⟨g, j, none⟩) (Same.refl _ _ _) (.inl (by show g < l; omega)) _), by omega, h2, fun ad e => .inr (by injection e with e; subst e; show g < l; omega)⟩
  · rw [List.getElem?_set_ne (by omega)] at hy
    obtain ⟨u, l1, h1, e1, e2, e3, e4, e5⟩ := h.row j y hy (hP' j hP e)
    refine ⟨u, l1, h1, by rw [List.getElem?_set_ne (by omega)]; exact e1, K.same e2 (Same.setCell (p := ⟨g, k, none⟩) (Same.refl _ _ _) ?_ _), e3, by omega, e5⟩
    rcases e5 _ rfl with e7 | e7
    · exact .inr e7
    · exact .inl e7
/-- the place of k stored into, whatever lies there -/
theorem Lst.hole {g k : Nat} (h : Lst K T (fun j => j ≠ k) w lo hi (some ⟨g, 0, none⟩) n c vs xs) (v : Value) : Lst K T (fun j => j ≠ k) (w.setCell ⟨g, k, none⟩ v) lo hi (some ⟨g, 0, none⟩) n c (vs.set k v) xs := by
  have hvl := h.vlen
  refine ⟨(h.own.stored k v).1, h.lt, h.len, fun j y hy hP => ?_⟩
  obtain ⟨u, l1, h1, e1, e2, e3, e4, e5⟩ := h.row j y hy hP
  refine ⟨u, l1, h1, by rw [List.getElem?_set_ne (Ne.symm hP)]; exact e1, K.same e2 (Same.setCell (p := ⟨g, k, none⟩) (Same.refl _ _ _) ?_ _), e3, e4, e5⟩
  rcases e5 _ rfl with e7 | e7
  · exact .inr e7
  · exact .inl e7
/-- the place of k holds what can be read behind all the others -/
theorem Lst.fill {k : Nat} (h : Lst K T (fun j => j ≠ k) w lo hi A n c vs xs) {l h' : Nat} {v : Value} {x : α} (hv : vs[k]? = some v) (hr : K.rd w l h' v x) (hl : hi ≤ l) (hlo : lo ≤ hi) {hi2 : Nat} (h2 : h' ≤ hi2) (h3 : hi ≤ hi2) {P' : Nat → Prop} :
    Lst K T P' w lo hi2 A n c vs (xs.set k x) := by
  have hvl := h.vlen
  have hxl := h.len
  have hk := (List.getElem?_eq_some_iff.1 hv).1
  refine ⟨h.own, fun ad e => by have := h.lt ad e; omega, by simpa using hxl, fun j y hy _ => ?_⟩
  by_cases e : j = k
  · subst e
    rw [List.getElem?_set_self (by omega)] at hy
    injection hy with hy
    subst hy
    exact ⟨v, l, h', hv, hr, by omega, h2, fun ad e => .inr (by have := h.lt ad e; omega)⟩
  · rw [List.getElem?_set_ne (by omega)] at hy
    obtain ⟨u, l1, h1, e1, e2, e3, e4, e5⟩ := h.row j y hy e
    exact ⟨u, l1, h1, e1, e2, e3, by omega, e5⟩
theorem Lst.at_ {g : Nat} (h : Lst K T P w lo hi (some ⟨g, 0, none⟩) n c vs xs) {k : Nat} (hk : k < n) (hP : P k) : ∃ v l h' x, w.cell? ⟨g, k, none⟩ = some v ∧ K.rd w l h' v x ∧ lo ≤ l ∧ h' ≤ hi ∧ Hid (xs[k]? = some x) := by
  have hxl := h.len
  obtain ⟨v, l, h', e1, e2, e3, e4, _⟩ := h.row k _ (List.getElem?_eq_getElem (by omega)) hP
  have hvl := h.vlen
  exact ⟨v, l, h', _, (h.own.cellAt k (by omega)).trans e1, e2, e3, e4, List.getElem?_eq_getElem (by omega)⟩
end
theorem Ints2.wide2 {w : World} {lo hi lo' hi' : Nat} {A : Option Addr} {n c : Nat} {xss : List (List Int)} (h : Ints2 w lo hi A n c xss) (h1 : lo' ≤ lo) (h2 : hi ≤ hi') : Ints2 w lo' hi' A n c xss :=
  ⟨h.len, h.cap, h.max, fun hn => by
    obtain ⟨ad, e, e1, e2, hc⟩ := h.cells hn
    refine ⟨ad, e, by omega, by omega, fun j xs hj => ?_⟩
    obtain ⟨B, m, d, e3, e4⟩ := hc j xs hj
    exact ⟨B, m, d, e3, e4.wide h1 h2⟩⟩
theorem Ints2.nil_ (w : World) (lo hi : Nat) : Ints2 w lo hi none 0 0 [] := ⟨rfl, Nat.le_refl _, by omega, fun h => absurd h (by omega)⟩
theorem Lst.ints2 {T : TypeId} {w : World} {lo hi : Nat} {A : Option Addr} {n c : Nat} {vs : List Value} {xss : List (List Int)} (h : Lst kI T (fun _ => True) w lo hi A n c vs xss) : Ints2 w lo hi A n c xss := by
  have hc := h.capb
  refine ⟨h.len, hc.1, hc.2, fun hn => ?_⟩
  obtain ⟨g, rfl, h1, h2, _⟩ := h.form hn
  refine ⟨_, rfl, h1, h2, fun j xs hj => ?_⟩
  obtain ⟨v, l, h', e1, ⟨B, m, d, rfl, e2⟩, e3, e4, _⟩ := h.row j xs hj trivial
  have hvl := h.vlen
  refine ⟨B, m, d, ?_, e2.wide e3 e4⟩
  have hj2 := (List.getElem?_eq_some_iff.1 e1).1
  simpa [Addr.add_lit] using (h.own.cellAt j (by omega)).trans e1

/-- A slice of slices of slices of integers that can be read. -/
structure Ints3 (w : World) (lo hi : Nat) (A : Option Addr) (n c : Nat) (xsss : List (List (List Int))) : Prop where
  len : xsss.length = n
  cap : n ≤ c
  max : c ≤ 9223372036854775807
  cells : 0 < n → ∃ ad, A = some ad ∧ lo ≤ ad.block ∧ ad.block < hi ∧ ∀ j xss, xsss[j]? = some xss → ∃ B m d, w.cell? (ad.add j) = some (.slice B m d) ∧ Ints2 w lo hi B m d xss
section
variable {w w' : World} {lo hi : Nat} {A : Option Addr} {n c : Nat} {xsss : List (List (List Int))}
theorem Ints3.at_ (h : Ints3 w lo hi A n c xsss) {k : Nat} (hk : k < n) :
    ∃ ad B m d xss, A = some ad ∧ w.cell? (ad.add k) = some (.slice B m d) ∧ Ints2 w lo hi B m d xss ∧ Hid (xsss[k]? = some xss) := by
  obtain ⟨ad, e, _, _, hc⟩ := h.cells (by omega)
  have hl : k < xsss.length := by have := h.len; omega
  obtain ⟨B, m, d, h1, h2⟩ := hc k _ (List.getElem?_eq_getElem hl)
  exact ⟨ad, B, m, d, _, e, h1, h2, List.getElem?_eq_getElem hl⟩
theorem Ints3.same (h : Ints3 w lo hi A n c xsss) (hs : Same lo hi w w') : Ints3 w' lo hi A n c xsss :=
  ⟨h.len, h.cap, h.max, fun hn => by
    obtain ⟨ad, e, h1, h2, hc⟩ := h.cells hn
    refine ⟨ad, e, h1, h2, fun j xs hx => ?_⟩
    obtain ⟨B, m, d, h3, h4⟩ := hc j xs hx
    exact ⟨B, m, d, (hs.cell (by rw [block_of_add]; exact h1) (by rw [block_of_add]; exact h2)).trans h3, h4.same hs⟩⟩
theorem Ints3.below {B : Nat} (h : Ints3 w lo hi A n c xsss) (hb : Below B w w') (hB : hi ≤ B) : Ints3 w' lo hi A n c xsss := h.same (.of_below hb hB)
end
theorem Lst.ints3 {T : TypeId} {w : World} {lo hi : Nat} {A : Option Addr} {n c : Nat} {vs : List Value} {xsss : List (List (List Int))} (h : Lst kII T (fun _ => True) w lo hi A n c vs xsss) : Ints3 w lo hi A n c xsss := by
  have hc := h.capb
  refine ⟨h.len, hc.1, hc.2, fun hn => ?_⟩
  obtain ⟨g, rfl, h1, h2, _⟩ := h.form hn
  refine ⟨_, rfl, h1, h2, fun j xs hj => ?_⟩
  obtain ⟨v, l, h', e1, ⟨B, m, d, rfl, e2⟩, e3, e4, _⟩ := h.row j xs hj trivial
  have hvl := h.vlen
  refine ⟨B, m, d, ?_, e2.wide2 e3 e4⟩
  have hj2 := (List.getElem?_eq_some_iff.1 e1).1
  simpa [Addr.add_lit] using (h.own.cellAt j (by omega)).trans e1
end Go.Proofs.YtkaepjigmcielaaGreatDoor
/- A region that draws its order and ends in one operation for which all others wait: the world's condition need not hold behind that last one. -/
namespace Go.Proofs.YtkaepjigmcielaaGreatDoor
open Go.RowKit
set_option linter.unusedSimpArgs false
set_option linter.unusedVariables false
set_option maxRecDepth 20000

section
variable {P : Program} {ops : Array Oper} {Q : Exit → Act → World → Prop} {md : Region.Mode} {S : World → Prop} {z : Nat}

def wpAnyZ (P : Program) (md : Region.Mode) (ops : Array Oper) (Q : Exit → Act → World → Prop) (S : World → Prop) (z : Nat) : Nat → Array Bool → Act → World → Prop
  | 0, listed, a, w => Region.ready md ops listed = [] ∧ Q .normal a w
  | fuel + 1, listed, a, w =>
    (Region.ready md ops listed = [] → Q .normal a w) ∧
    ∀ i ∈ Region.ready md ops listed, wpOp P ops Q i (fun a' w' => ((listed.setIfInBounds i true).getD z true = false → S w') ∧ wpAnyZ P md ops Q S z fuel (listed.setIfInBounds i true) a' w') a w

theorem wpAny_of_Z : ∀ (fuel : Nat) (listed : Array Bool) (a : Act) (w : World), wpAnyZ P md ops Q S z fuel listed a w → wpAny P md ops Q fuel listed a w
  | 0, _, _, _, h => h
  | fuel + 1, _, _, _, h => ⟨h.1, fun i hi => wpOp_mono (fun a' w' h' => wpAny_of_Z fuel _ a' w' h'.2) (h.2 i hi)⟩

theorem waits_spec {j i : Nat} (h : (ops[j]?.any fun o => o.after.any fun e => Region.binds md e && e.on == i) = true) : ∃ oj, ops[j]? = some oj ∧ ∃ e ∈ oj.after, Region.binds md e = true ∧ e.on = i := by
  cases hj : ops[j]? with
  | none => rw [hj] at h; cases h
  | some oj =>
    rw [hj] at h
    obtain ⟨e, he, hb⟩ := Array.any_eq_true'.1 (show oj.after.any (fun e => Region.binds md e && e.on == i) = true from h)
    simp only [Bool.and_eq_true, beq_iff_eq] at hb
    exact ⟨oj, rfl, e, he, hb.1, hb.2⟩

theorem set_at (listed : Array Bool) (z : Nat) : (listed.setIfInBounds z true).getD z true = true := by
  rcases Nat.lt_or_ge z listed.size with h | h
  · simp [h]
  · simp [Nat.not_lt.2 h]
theorem unset {listed : Array Bool} {i z : Nat} (h : (listed.setIfInBounds i true).getD z true = false) : listed.getD z true = false := by
  by_cases hiz : i = z
  · subst hiz; rw [set_at] at h; cases h
  · rwa [getD_set_ne true hiz] at h

theorem wpAnyZ_first {T : World → Prop} {i : Nat} {oi : Oper} {v : Value} (hi : ops[i]? = some oi) (hsel : ∀ (j : Nat) (o : Oper) cs b, ops[j]? = some o → o.op ≠ .select cs b)
    (hQ : ∀ c a w, Q (.panic c) (a.put oi.dst v) w → Q (.panic c) a w) (hiz : i ≠ z) (hT : ∀ w, S w → T w) :
    ∀ (fuel : Nat) (listed : Array Bool) (a : Act) (w : World),
      ((ops[z]?.any fun o => o.after.any fun e => Region.binds md e && e.on == i) = true ∧ listed.getD z true = false ∨ ∀ w, T w) →
      (∀ j oj, ops[j]? = some oj → j ≠ i → listed.getD j true = false → (∀ e ∈ oj.after, Region.binds md e = true → e.on ≠ i) → oi.apart ops oj = true) →
      i ∈ Region.ready md ops listed → YieldsIf P ops T oi v a → T w → (listed.getD z true = false → S w) →
      wpAnyZ P md ops Q S z fuel (listed.setIfInBounds i true) (a.put oi.dst v) w → wpAnyZ P md ops Q S z (fuel + 1) listed a w := by
  intro fuel
  induction fuel with
  | zero =>
    intro listed a w _ _ hr hy hTw hS H
    refine ⟨fun h => (by rw [h] at hr; cases hr), fun j hj => ?_⟩
    by_cases hji : j = i
    · subst hji; exact hy.wpOp hi hTw ⟨fun h => hS (unset h), H⟩
    · have := ready_mono hj hji
      rw [H.1] at this
      cases this
  | succ fuel ih =>
    intro listed a w hz hfree hr hy hTw hS H
    refine ⟨fun h => (by rw [h] at hr; cases hr), fun j hj => ?_⟩
    by_cases hji : j = i
    · subst hji; exact hy.wpOp hi hTw ⟨fun h => hS (unset h), H⟩
    · have h1 := H.2 j (ready_mono hj hji)
      obtain ⟨hjun, oj, hoj, hall⟩ := mem_ready.1 hj
      have hnot : ∀ e ∈ oj.after, Region.binds md e = true → e.on ≠ i := fun e he hb heq => by
        have h1 := hall e he hb
        have h0 := (mem_ready.1 hr).1
        rw [heq] at h1
        rcases Nat.lt_or_ge i listed.size with h' | h'
        · simp [h'] at h0 h1; rw [h0] at h1; cases h1
        · simp [Array.getElem?_eq_none h'] at h1
      have hz' : (ops[z]?.any fun o => o.after.any fun e => Region.binds md e && e.on == i) = true ∧ (listed.setIfInBounds j true).getD z true = false ∨ ∀ w, T w := by
        rcases hz with ⟨hz, hu⟩ | hz
        · refine .inl ⟨hz, ?_⟩
          have hjz : j ≠ z := fun hjz => by
            obtain ⟨oz, hoz, e, he, hb, hon⟩ := waits_spec hz
            subst hjz
            have : oz = oj := Option.some.inj (hoz.symm.trans hoj)
            subst this
            exact hnot e he hb hon
          rw [getD_set_ne true hjz]; exact hu
        · exact .inr hz
      have hset : ∀ {x : World}, (((listed.setIfInBounds i true).setIfInBounds j true).getD z true = false → S x) → (listed.setIfInBounds j true).getD z true = false → S x := fun h hu => h (by
        rw [Array.setIfInBounds_comm _ _ (Ne.symm hji), getD_set_ne true hiz]; exact hu)
      have h2 := wpOp_putIf hoj (hfree j oj hoj hji hjun hnot) (fun cs b => hsel i oi cs b hi) (fun cs b => hsel j oj cs b hoj) hQ hy h1
      have hfree' : ∀ k ok, ops[k]? = some ok → k ≠ i → (listed.setIfInBounds j true).getD k true = false →
          (∀ e ∈ ok.after, Region.binds md e = true → e.on ≠ i) → oi.apart ops ok = true := fun k ok hk hki hun hno => by
        refine hfree k ok hk hki ?_ hno
        by_cases hjk : j = k
        · subst hjk; exact hjun
        · rw [getD_set_ne true hjk] at hun; exact hun
      refine wpOp_mono (fun a' w' h3 => ⟨hset h3.2.1, ih (listed.setIfInBounds j true) a' w' hz' hfree' (ready_mono hr (Ne.symm hji)) h3.1 ?_ (hset h3.2.1) ?_⟩) h2
      · rcases hz' with ⟨_, hu⟩ | hz'
        · exact hT _ (hset h3.2.1 hu)
        · exact hz' _
      · rw [Array.setIfInBounds_comm _ _ hji]
        exact h3.2.2

/-- Number i may be taken first: it yields v in every world that meets S. -/
theorem wpAnyZ_take (i : Nat) (v : Value) {oi : Oper} {fuel : Nat} {listed : Array Bool} {a : Act} {w : World} (hi : ops[i]? = some oi)
    (hs : Region.noSelect ops = true) (hf : (Region.free md ops listed i && (Region.ready md ops listed).contains i && (decide (i ≠ z) && ((ops[z]?.any fun o => o.after.any fun e => Region.binds md e && e.on == i) && !(listed.getD z true)))) = true)
    (hQ : ∀ c a w, Q (.panic c) (a.put oi.dst v) w → Q (.panic c) a w) (hw : Region.wanted oi (yielded ops a.tmps) = true) (hy : ∀ w, S w → (execOp a.eval oi).run P w = .ok (.value v) w) (hS : S w)
    (h : wpAnyZ P md ops Q S z fuel (listed.setIfInBounds i true) (a.put oi.dst v) w) : wpAnyZ P md ops Q S z (fuel + 1) listed a w := by
  simp only [Bool.and_eq_true, decide_eq_true_eq, Bool.not_eq_true'] at hf
  exact wpAnyZ_first (T := S) hi (Region.noSelect_spec hs) hQ hf.2.1 (fun _ h => h) fuel listed a w (.inl ⟨hf.2.2.1, hf.2.2.2⟩) (Region.free_spec hi hf.1.1) (by simpa using hf.1.2) (Or.inl ⟨hw, hy⟩) hS (fun _ => hS) h

/-- Number i may be taken first: it yields v in every world. -/
theorem wpAnyZ_takeW (i : Nat) (v : Value) {oi : Oper} {fuel : Nat} {listed : Array Bool} {a : Act} {w : World} (hi : ops[i]? = some oi)
    (hs : Region.noSelect ops = true) (hf : (Region.free md ops listed i && (Region.ready md ops listed).contains i && decide (i ≠ z)) = true)
    (hQ : ∀ c a w, Q (.panic c) (a.put oi.dst v) w → Q (.panic c) a w) (hw : Region.wanted oi (yielded ops a.tmps) = true) (hy : ∀ w, (execOp a.eval oi).run P w = .ok (.value v) w) (hS : S w)
    (h : wpAnyZ P md ops Q S z fuel (listed.setIfInBounds i true) (a.put oi.dst v) w) : wpAnyZ P md ops Q S z (fuel + 1) listed a w := by
  simp only [Bool.and_eq_true, decide_eq_true_eq] at hf
  exact wpAnyZ_first (T := fun _ => True) hi (Region.noSelect_spec hs) hQ hf.2 (fun _ _ => trivial) fuel listed a w (.inr fun _ => trivial) (Region.free_spec hi hf.1.1) (by simpa using hf.1.2) (Or.inl ⟨hw, fun w _ => hy w⟩) trivial (fun _ => hS) h

/-- Number i alone may come up now. -/
theorem wpAnyZ_one (i : Nat) {oi : Oper} {fuel : Nat} {listed : Array Bool} {a : Act} {w : World} (hr : Region.ready md ops listed = [i]) (hi : ops[i]? = some oi) (hw : Region.wanted oi (yielded ops a.tmps) = true)
    (h : ∀ K' : Act → World → Prop, Hid (∀ a w, S w → wpAnyZ P md ops Q S z fuel (listed.setIfInBounds i true) a w → K' a w) → Oper.wp P oi a w K' Q) : wpAnyZ P md ops Q S z (fuel + 1) listed a w := by
  refine ⟨fun h0 => (by rw [h0] at hr; cases hr), fun j hj => ?_⟩
  rw [hr] at hj
  obtain rfl : j = i := by simpa using hj
  refine wpOp_step hi (fun K' hK => ?_)
  rw [if_pos hw]
  exact h K' (fun a w hS hW => hK a w ⟨fun _ => hS, hW⟩)

/-- Two operations may come up now. -/
theorem wpAnyZ_two (i j : Nat) {oi oj : Oper} {fuel : Nat} {listed : Array Bool} {a : Act} {w : World} (hr : Region.ready md ops listed = [i, j]) (hi : ops[i]? = some oi) (hj : ops[j]? = some oj) (hwi : Region.wanted oi (yielded ops a.tmps) = true) (hwj : Region.wanted oj (yielded ops a.tmps) = true)
    (h1 : ∀ K' : Act → World → Prop, Hid (∀ a w, S w → wpAnyZ P md ops Q S z fuel (listed.setIfInBounds i true) a w → K' a w) → Oper.wp P oi a w K' Q)
    (h2 : ∀ K' : Act → World → Prop, Hid (∀ a w, S w → wpAnyZ P md ops Q S z fuel (listed.setIfInBounds j true) a w → K' a w) → Oper.wp P oj a w K' Q) : wpAnyZ P md ops Q S z (fuel + 1) listed a w := by
  refine ⟨fun h0 => (by rw [h0] at hr; cases hr), fun k hk => ?_⟩
  rw [hr] at hk
  rcases List.mem_cons.1 hk with rfl | hk
  · refine wpOp_step hi (fun K' hK => ?_)
    rw [if_pos hwi]
    exact h1 K' (fun a w hS hW => hK a w ⟨fun _ => hS, hW⟩)
  · obtain rfl : k = j := by simpa using hk
    refine wpOp_step hj (fun K' hK => ?_)
    rw [if_pos hwj]
    exact h2 K' (fun a w hS hW => hK a w ⟨fun _ => hS, hW⟩)

/-- The last one. -/
theorem wpAnyZ_last {oz : Oper} {fuel : Nat} {listed : Array Bool} {a : Act} {w : World} (hr : Region.ready md ops listed = [z]) (hi : ops[z]? = some oz) (hr2 : Region.ready md ops (listed.setIfInBounds z true) = []) (hw : Region.wanted oz (yielded ops a.tmps) = true)
    (h : ∀ K' : Act → World → Prop, (∀ a w, Q .normal a w → K' a w) → Oper.wp P oz a w K' Q) : wpAnyZ P md ops Q S z (fuel + 1) listed a w := by
  refine ⟨fun h0 => (by rw [h0] at hr; cases hr), fun j hj => ?_⟩
  rw [hr] at hj
  obtain rfl : j = z := by simpa using hj
  refine wpOp_step hi (fun K' hK => ?_)
  rw [if_pos hw]
  refine h K' (fun a w hW => hK a w ⟨fun h => (by rw [set_at] at h; cases h), ?_⟩)
  cases fuel with
  | zero => exact ⟨hr2, hW⟩
  | succ n => exact ⟨fun _ => hW, by rw [hr2]; simp⟩

theorem wp_region_Z (S : World → Prop) (z : Nat) {id : Nat} {a : Act} {w : World} (hm : P.follows .mixedOrders = true)
    (h : wpAnyZ P .any ops Q S z ops.size (Array.replicate ops.size false) a w.drew) : (Code.region id ops true).wp P Q a w :=
  wp_region_any hm (wpAny_of_Z _ _ _ _ h)
end
end Go.Proofs.YtkaepjigmcielaaGreatDoor
