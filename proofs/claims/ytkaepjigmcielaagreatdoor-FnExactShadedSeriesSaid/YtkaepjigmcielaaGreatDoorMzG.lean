/- Slices of slices of integers that the call itself makes: built row by row; read; stored into. -/
import Derived.Test.YtkaepjigmcielaaGreatDoorMzC
import Derived.Test.YtkaepjigmcielaaGreatDoorMzF
import Derived.Test.YtkaepjigmcielaaGreatDoorMzE
namespace Go.Proofs.YtkaepjigmcielaaGreatDoor
open Go.RowKit
set_option linter.unusedSimpArgs false
set_option linter.unusedVariables false
set_option maxRecDepth 20000

abbrev oBlk (A : Option Addr) (n c : Nat) : Option Nat := (Value.slice A n c).ownBlock

theorem wpl_app1b {P : Program} {ops : Array Oper} {rest : List Oper} {o : Oper} {a : Act} {Q : Exit → Act → World → Prop} (hgd : o.guard = none) (s x : Operand) (t : TypeId)
    (ho : o.op = .call { callee := .builtin .append, args := #[s, x], argTypes := #[t, t] })
    (base : Nat) (e : TypeId) (i : TypeInfo) (z : Value) (size bytes : Nat) (ht : P.underlying t = some (.slice e)) (hi : P.info? e = some i) (hz : i.zero = some z)
    (hsize : i.size = size) (hby : i.bytes = bytes) (hzs : z.cells.size = size) (hsz : 0 < size) (w0 : World) (cs : Array Value) (b : Nat) (hb : w0.heap.size = b)
    (A : Option Addr) (n c d : Nat) (xs : List Value) (hs : a.eval s = .slice A n c) (hx : a.eval x = .slice (some ⟨b, 0, none⟩) 1 d) (hown : w0.ownsRow base e size (.slice A n c) n xs)
    (hcs : cs.size = size) (h1 : ∀ u ∈ cs.toList, u.oneCell' = true) (hn : n + 1 ≤ 1099511627776) (hbytes : bytes ≤ 128) (hbase : base ≤ w0.heap.size)
    (h : ∀ A' c' w', Appended w0 base e size A n c A' (n + 1) c' (xs ++ cs.toList) w' → w0.heap.size < w'.heap.size → wpList P ops Q rest (a.put o.dst (.slice A' (n + 1) c')) w') : wpList P ops Q (o :: rest) a (w0.alloc (.cells cs e)) := by
  subst hb
  exact wpl_app1 hgd s x t ho base e i z size bytes ht hi hz hsize hby hzs hsz w0 cs A n c d xs hs hx hown hcs h1 hn hbytes hbase h

/-- Built: the outer slice and each of its rows own their cells, no two of them in one block. -/
structure RowsO (w : World) (lo : Nat) (A : Option Addr) (n c : Nat) (vs : List Value) (xss : List (List Int)) : Prop where
  own : w.ownsRow lo 22 1 (.slice A n c) n vs
  len : xss.length = n
  row : ∀ (j : Nat) (xs : List Int), xss[j]? = some xs → ∃ (B : Option Addr) (m d : Nat), vs[j]? = some (Value.slice B m d) ∧ w.ownsRow lo 3 1 (.slice B m d) m (xs.map (Value.int .i64)) ∧ ∀ x ∈ xs, R64 x
  sep : ∀ (j : Nat) (v : Value), vs[j]? = some v → v.ownBlock = none ∨ v.ownBlock ≠ oBlk A n c
  sep2 : ∀ (i j : Nat) (u v : Value), i ≠ j → vs[i]? = some u → vs[j]? = some v → u.ownBlock = none ∨ u.ownBlock ≠ v.ownBlock

theorem ownBlock_eq {A : Option Addr} {n c : Nat} {k : Nat} : (Value.slice A n c).ownBlock = some k ↔ ∃ ad, A = some ad ∧ ad.block = k := by
  cases A <;> simp [Value.ownBlock]

theorem own_len {w : World} {lo e : Nat} {v : Value} {n : Nat} {xs : List Value} (h : w.ownsRow lo e 1 v n xs) : xs.length = n := by simpa using h.1

section
variable {w w' : World} {lo : Nat} {A : Option Addr} {n c : Nat} {vs : List Value} {xss : List (List Int)}

theorem RowsO.empty (w : World) (lo : Nat) (h : lo ≤ w.heap.size) : RowsO (w.alloc (.cells #[] 22)) lo (some ⟨w.heap.size, 0, none⟩) 0 0 [] [] :=
  ⟨World.ownsRow_lit w #[] 0 h (by unfold maxLen; omega) (by simp), rfl, by simp, by simp, by simp⟩

theorem RowsO.vlen (h : RowsO w lo A n c vs xss) : vs.length = n := own_len h.own

theorem RowsO.push (h : RowsO w lo A n c vs xss) (hlo : lo ≤ w.heap.size) {A' : Option Addr} {c' : Nat}
    (hap : Appended (w.alloc (.cells #[] 3)) lo 22 1 A n c A' (n + 1) c' (vs ++ [.slice (some ⟨w.heap.size, 0, none⟩) 0 0]) w') :
    RowsO w' lo A' (n + 1) c' (vs ++ [.slice (some ⟨w.heap.size, 0, none⟩) 0 0]) (xss ++ [[]]) := by
  obtain ⟨h1, h2, h3⟩ := hap
  have hvl := h.vlen
  have hvx : vs.length = xss.length := by rw [hvl, h.len]
  have hAl := fun k (hk : oBlk A n c = some k) => h.own.lt k hk
  have new : (w.alloc (.cells #[] 3)).ownsRow lo 3 1 (.slice (some ⟨w.heap.size, 0, none⟩) 0 0) 0 (([] : List Int).map (Value.int .i64)) := World.ownsRow_lit w #[] 0 hlo (by unfold maxLen; omega) (by simp)
  have hnew : (Value.slice (some ⟨w.heap.size, 0, none⟩) 0 0).ownBlock = some w.heap.size := rfl
  have olt : ∀ (j : Nat) (v : Value), vs[j]? = some v → ∀ k, v.ownBlock = some k → k < w.heap.size := by
    intro j v hv k hk
    have hj := (List.getElem?_eq_some_iff.1 hv).1
    obtain ⟨B, m, d, e1, e2, _⟩ := h.row j _ (List.getElem?_eq_getElem (by omega))
    rw [hv] at e1
    injection e1 with e1
    subst e1
    exact (e2.lt k hk).2
  have sepA : ∀ v : Value, (v.ownBlock = none ∨ v.ownBlock ≠ oBlk A n c) → (∀ k, v.ownBlock = some k → k < w.heap.size + 1) → v.ownBlock = none ∨ v.ownBlock ≠ oBlk A' (n+1) c' := by
    intro v hv hk
    cases hb : v.ownBlock with
    | none => exact .inl rfl
    | some k =>
      refine .inr fun e => ?_
      obtain ⟨ad, rfl, had⟩ := ownBlock_eq.1 e.symm
      rcases h3 with h3 | h3
      · have := h3 ad rfl
        subst this
        rcases hv with hv | hv
        · rw [hb] at hv; exact absurd hv (by simp)
        · exact hv (by rw [hb]; simp [Value.ownBlock, had])
      · have h4 := h3 ad rfl
        have h5 := hk k hb
        simp at h4
        omega
  have hc : ∀ (j : Nat) (v : Value), (vs ++ [Value.slice (some ⟨w.heap.size, 0, none⟩) 0 0])[j]? = some v → (j < n ∧ vs[j]? = some v) ∨ (j = n ∧ v = .slice (some ⟨w.heap.size, 0, none⟩) 0 0) := by
    intro j v hj
    by_cases hl : j < n
    · rw [List.getElem?_append_left (by omega)] at hj
      exact .inl ⟨hl, hj⟩
    · have hlt := (List.getElem?_eq_some_iff.1 hj).1
      simp at hlt
      obtain rfl : j = n := by omega
      rw [← hvl] at hj
      simp at hj
      exact .inr ⟨rfl, hj.symm⟩
  refine ⟨h1, by simp [h.len], fun j xs hj => ?_, fun j v hj => ?_, fun i j u v hij hi hj => ?_⟩
  · by_cases hl : j < n
    · rw [List.getElem?_append_left (by have := h.len; omega)] at hj
      obtain ⟨B, m, d, e1, e2, e3⟩ := h.row j xs hj
      exact ⟨B, m, d, by rw [List.getElem?_append_left (by omega)]; exact e1, (e2.alloc _).kept h2 (h.sep j _ e1), e3⟩
    · have hlt := (List.getElem?_eq_some_iff.1 hj).1
      have hln := h.len
      simp at hlt
      obtain rfl : j = n := by omega
      obtain rfl : [] = xs := by rw [← hln] at hj; simpa using hj
      refine ⟨_, _, _, ?_, new.kept h2 (.inr fun e => ?_), by simp⟩
      · rw [← hvl]; simp
      · have := (hAl _ e.symm).2
        exact Nat.lt_irrefl _ this
  · rcases hc j v hj with ⟨_, hv⟩ | ⟨_, rfl⟩
    · exact sepA v (h.sep j v hv) fun k hk => by have := olt j v hv k hk; omega
    · refine sepA _ (.inr fun e => ?_) fun k hk => ?_
      · have := (hAl _ e.symm).2
        exact Nat.lt_irrefl _ this
      · rw [hnew] at hk
        injection hk with hk
        omega
  · rcases hc i u hi with ⟨_, hu⟩ | ⟨hi1, rfl⟩
    · rcases hc j v hj with ⟨_, hv⟩ | ⟨_, rfl⟩
      · exact h.sep2 i j u v hij hu hv
      · cases hb : u.ownBlock with
        | none => exact .inl rfl
        | some k => exact .inr (by rw [hnew]; have := olt i u hu k hb; intro e; injection e with e; omega)
    · rcases hc j v hj with ⟨_, hv⟩ | ⟨hj1, rfl⟩
      · refine .inr fun e => ?_
        have := olt j v hv _ (e.symm.trans hnew)
        omega
      · omega

theorem RowsO.grow {g : Nat} (h : RowsO w lo (some ⟨g, 0, none⟩) n c vs xss) {k : Nat} {xs : List Int} {B : Option Addr} {m d : Nat} (hx : xss[k]? = some xs) (hv : vs[k]? = some (.slice B m d)) {B' : Option Addr} {d' : Nat} {x : Int}
    (hap : Appended w lo 3 1 B m d B' (m + 1) d' (xs.map (Value.int .i64) ++ [.int .i64 x]) w') (hr : R64 x) :
    RowsO (w'.setCell ⟨g, k, none⟩ (.slice B' (m + 1) d')) lo (some ⟨g, 0, none⟩) n c (vs.set k (.slice B' (m + 1) d')) (xss.set k (xs ++ [x])) := by
  obtain ⟨h1, h2, h3⟩ := hap
  have hvl := h.vlen
  have hg : oBlk (some ⟨g, 0, none⟩) n c = some g := rfl
  have hkn := (List.getElem?_eq_some_iff.1 hv).1
  have gl := (h.own.lt g rfl).2
  have hBg : oBlk B m d = none ∨ oBlk B m d ≠ some g := h.sep k _ hv
  have olt : ∀ (j : Nat) (v : Value), vs[j]? = some v → ∀ k, v.ownBlock = some k → k < w.heap.size := by
    intro j v hv k hk
    have hj := (List.getElem?_eq_some_iff.1 hv).1
    obtain ⟨B, m, d, e1, e2, _⟩ := h.row j _ (List.getElem?_eq_getElem (by have := h.len; omega))
    rw [hv] at e1
    injection e1 with e1
    subst e1
    exact (e2.lt k hk).2
  have nb : ∀ kb, oBlk B' (m+1) d' = some kb → oBlk B m d = some kb ∨ w.heap.size ≤ kb := by
    intro kb hk
    obtain ⟨ad, rfl, had⟩ := ownBlock_eq.1 hk
    rcases h3 with h3 | h3
    · have := h3 ad rfl
      subst this
      exact .inl (by simp [Value.ownBlock, had])
    · exact .inr (by have := h3 ad rfl; omega)
  have nbg : oBlk B' (m+1) d' ≠ some g := fun e => by
    rcases nb g e with h | h
    · rcases hBg with h5 | h5
      · rw [h5] at h; exact absurd h (by simp)
      · exact h5 h
    · omega
  have own' : w'.ownsRow lo 22 1 (.slice (some ⟨g, 0, none⟩) n c) n vs := h.own.kept h2 (.inr fun e => by
    rcases hBg with h5 | h5
    · exact absurd ((show oBlk B m d = some g from e.symm).symm.trans h5) (by simp)
    · exact h5 e.symm)
  have st := own'.stored k (.slice B' (m + 1) d')
  have hset : ∀ (j : Nat) (v : Value), (vs.set k (.slice B' (m + 1) d'))[j]? = some v → (j = k ∧ v = .slice B' (m+1) d') ∨ (j ≠ k ∧ vs[j]? = some v) := by
    intro j v hj
    by_cases e : j = k
    · subst e
      rw [List.getElem?_set_self hkn] at hj
      injection hj with hj
      exact .inl ⟨rfl, hj.symm⟩
    · rw [List.getElem?_set_ne (by omega)] at hj
      exact .inr ⟨e, hj⟩
  refine ⟨st.1, by simpa using h.len, fun j ys hj => ?_, fun j v hj => ?_, fun i j u v hij hi hj => ?_⟩
  · by_cases e : j = k
    · subst e
      have hkx := (List.getElem?_eq_some_iff.1 hx).1
      rw [List.getElem?_set_self hkx] at hj
      injection hj with hj
      subst hj
      obtain ⟨B0, m0, d0, e1, _, e3⟩ := h.row _ xs hx
      refine ⟨B', m + 1, d', List.getElem?_set_self hkn, ?_, ?_⟩
      · rw [List.map_append]
        exact World.ownsRow.kept h1 st.2 (.inr nbg)
      · intro y hy
        rcases List.mem_append.1 hy with hy | hy
        · exact e3 y hy
        · obtain rfl : y = x := by simpa using hy
          exact hr
    · rw [List.getElem?_set_ne (by omega)] at hj
      obtain ⟨B1, m1, d1, e1, e2, e3⟩ := h.row j ys hj
      refine ⟨B1, m1, d1, by rw [List.getElem?_set_ne (by omega)]; exact e1, ?_, e3⟩
      refine (e2.kept h2 (h.sep2 j k _ _ e e1 hv)).kept st.2 ?_
      rcases h.sep j _ e1 with h5 | h5
      · exact .inl h5
      · exact .inr h5
  · rcases hset j v hj with ⟨_, rfl⟩ | ⟨_, hv2⟩
    · exact .inr nbg
    · exact h.sep j v hv2
  · rcases hset i u hi with ⟨hi1, rfl⟩ | ⟨hi1, hu⟩
    · rcases hset j v hj with ⟨hj1, rfl⟩ | ⟨hj1, hv2⟩
      · omega
      · cases hb : (Value.slice B' (m + 1) d').ownBlock with
        | none => exact .inl rfl
        | some kb =>
          refine .inr fun e => ?_
          rcases nb kb hb with h5 | h5
          · rcases h.sep2 j k _ _ hj1 hv2 hv with h6 | h6
            · rw [h6] at e; exact absurd e (by simp)
            · exact h6 (e.symm.trans h5.symm)
          · have := olt j v hv2 kb e.symm
            omega
    · rcases hset j v hj with ⟨hj1, rfl⟩ | ⟨hj1, hv2⟩
      · cases hb : u.ownBlock with
        | none => exact .inl rfl
        | some kb =>
          refine .inr fun e => ?_
          rcases nb kb e.symm with h5 | h5
          · rcases h.sep2 i k _ _ hi1 hu hv with h6 | h6
            · rw [h6] at hb; exact absurd hb (by simp)
            · exact h6 (hb.trans h5.symm)
          · have := olt i u hu kb hb
            omega
      · exact h.sep2 i j u v hij hu hv2
end

/-- Read: the outer slice owns its cells; each row can be read and lies in no block of the outer one. -/
structure RowsI (w : World) (lo hi : Nat) (A : Option Addr) (n c : Nat) (vs : List Value) (xss : List (List Int)) : Prop where
  own : w.ownsRow lo 22 1 (.slice A n c) n vs
  lt : ∀ ad, A = some ad → ad.block < hi
  len : xss.length = n
  row : ∀ (j : Nat) (xs : List Int), xss[j]? = some xs → ∃ (B : Option Addr) (m d l h : Nat), vs[j]? = some (Value.slice B m d) ∧ Ints w l h B m d xs ∧ lo ≤ l ∧ h ≤ hi ∧ (∀ ad, A = some ad → h ≤ ad.block ∨ ad.block < l) ∧ ∀ ad, B = some ad → ad = ⟨ad.block, 0, none⟩

section
variable {w w' : World} {lo hi : Nat} {A : Option Addr} {n c : Nat} {vs : List Value} {xss : List (List Int)}

theorem RowsI.vlen (h : RowsI w lo hi A n c vs xss) : vs.length = n := own_len h.own

theorem RowsO.rows (h : RowsO w lo A n c vs xss) : RowsI w lo w.heap.size A n c vs xss := by
  refine ⟨h.own, fun ad e => (h.own.lt ad.block (by rw [e]; rfl)).2, h.len, fun j xs hj => ?_⟩
  obtain ⟨B, m, d, e1, e2, e3⟩ := h.row j xs hj
  have hs := h.sep j _ e1
  obtain ⟨_, _, hB, hB2⟩ := own_shape e2
  injection hB with hB
  subst hB
  cases hBc : B with
  | none =>
    subst hBc
    obtain rfl : m = 0 := by
      rcases e2.2 with ⟨e, _⟩ | ⟨_, _, _, e, _⟩
      · injection e
      · injection e with e; exact absurd e (by simp)
    obtain rfl : xs = [] := by have := own_len e2; simpa using this
    obtain rfl : d = 0 := by
      rcases e2.2 with ⟨e, _⟩ | ⟨_, _, _, e, _⟩
      · injection e
      · injection e with e; exact absurd e (by simp)
    have hn : 0 < n := by have := (List.getElem?_eq_some_iff.1 e1).1; have := h.vlen; omega
    obtain ⟨g, hg⟩ : ∃ g, oBlk A n c = some g := by
      rcases h.own.2 with ⟨_, e⟩ | ⟨g, _, _, e, _⟩
      · omega
      · injection e with e; subst e; exact ⟨g, rfl⟩
    have hl := h.own.lt g hg
    refine ⟨none, 0, 0, w.heap.size, w.heap.size, e1, Ints.nil_ _ _ _, by omega, Nat.le_refl _, fun ad e => .inr ?_, by simp⟩
    exact (h.own.lt ad.block (by rw [e]; rfl)).2
  | some ad =>
    subst hBc
    have hlt := e2.lt ad.block rfl
    have o : OwnI w lo w.heap.size (some ad) m d xs := ⟨e2, fun ad' e => by injection e with e; subst e; exact hlt.2, e3⟩
    refine ⟨some ad, m, d, ad.block, ad.block + 1, e1, ?_, hlt.1, hlt.2, fun ad2 e => ?_, fun ad2 e => hB2 ad2 e⟩
    · have oi := o.ints
      refine ⟨oi.len, oi.cap, oi.max, fun h0 => ?_, oi.rng⟩
      obtain ⟨a2, e4, _, _, e5⟩ := oi.cells h0
      injection e4 with e4
      subst e4
      exact ⟨_, rfl, Nat.le_refl _, Nat.lt_succ_self _, e5⟩
    · subst e
      rcases hs with hs | hs
      · simp [Value.ownBlock] at hs
      · simp [Value.ownBlock] at hs
        omega
end
theorem RowsI.put {w w2 : World} {lo hi hi2 g n c : Nat} {vs : List Value} {xss : List (List Int)} (h : RowsI w lo hi (some ⟨g, 0, none⟩) n c vs xss) (hh : hi ≤ w.heap.size) (hb : Below w.heap.size w w2) {l' h' b m d : Nat} {ys : List Int}
    (o : Ints w2 l' h' (some ⟨b, 0, none⟩) m d ys) (hl : w.heap.size ≤ l') (hr : h' ≤ hi2) (h2 : hi ≤ hi2) {k : Nat} (hk : k < n) :
    RowsI (w2.setCell ⟨g, k, none⟩ (.slice (some ⟨b, 0, none⟩) m d)) lo hi2 (some ⟨g, 0, none⟩) n c (vs.set k (.slice (some ⟨b, 0, none⟩) m d)) (xss.set k ys) := by
  have hg : g < hi := h.lt _ rfl
  have hlg : lo ≤ g := (h.own.lt g rfl).1
  have hvl := h.vlen
  have hxl := h.len
  have own2 := owns_below h.own hb (fun ad e => by injection e with e; subst e; show g < _; omega)
  refine ⟨(own2.stored k _).1, fun ad e => by have := h.lt ad e; omega, by simpa using hxl, fun j xs hj => ?_⟩
  by_cases hjk : j = k
  · subst hjk
    rw [List.getElem?_set_self (by omega)] at hj
    injection hj with hj
    subst hj
    refine ⟨_, m, d, l', h', List.getElem?_set_self (by omega), o.same (Same.setCell (p := ⟨g, j, none⟩) (Same.refl _ _ _) (.inl (by show g < l'; omega)) _), by omega, hr, fun ad e => .inr ?_, fun ad e => by injection e with e; subst e; rfl⟩
    injection e with e
    subst e
    show g < l'
    omega
  · rw [List.getElem?_set_ne (by omega)] at hj
    obtain ⟨B1, m1, d1, l1, h1, e1, e2, e3, e4, e5, e6⟩ := h.row j xs hj
    refine ⟨B1, m1, d1, l1, h1, by rw [List.getElem?_set_ne (by omega)]; exact e1, (e2.below hb (by omega)).same (Same.setCell (p := ⟨g, k, none⟩) (Same.refl _ _ _) ?_ _), e3, by omega, e5, e6⟩
    have := e5 _ rfl
    rcases this with e7 | e7
    · exact .inr e7
    · exact .inl e7
theorem RowsI.below {w w2 : World} {lo hi n c : Nat} {A : Option Addr} {vs : List Value} {xss : List (List Int)} (h : RowsI w lo hi A n c vs xss) {B : Nat} (hb : Below B w w2) (hB : hi ≤ B) : RowsI w2 lo hi A n c vs xss :=
  ⟨owns_below h.own hb fun ad e => by have := h.lt ad e; omega, h.lt, h.len, fun j xs hj => by
    obtain ⟨B1, m1, d1, l1, h1, e1, e2, e3, e4, e5, e6⟩ := h.row j xs hj
    exact ⟨B1, m1, d1, l1, h1, e1, e2.below hb (by omega), e3, e4, e5, e6⟩⟩
theorem RowsI.wide {w : World} {lo hi hi2 n c : Nat} {A : Option Addr} {vs : List Value} {xss : List (List Int)} (h : RowsI w lo hi A n c vs xss) (h2 : hi ≤ hi2) : RowsI w lo hi2 A n c vs xss :=
  ⟨h.own, fun ad e => by have := h.lt ad e; omega, h.len, fun j xs hj => by
    obtain ⟨B1, m1, d1, l1, h1, e1, e2, e3, e4, e5, e6⟩ := h.row j xs hj
    exact ⟨B1, m1, d1, l1, h1, e1, e2, e3, by omega, e5, e6⟩⟩
theorem RowsI.drewN {w : World} {lo hi n c : Nat} {A : Option Addr} {vs : List Value} {xss : List (List Int)} (h : RowsI w lo hi A n c vs xss) (q : Nat) : RowsI (w.drewN q) lo hi A n c vs xss :=
  ⟨h.own, h.lt, h.len, fun j xs hj => by
    obtain ⟨B1, m1, d1, l1, h1, e1, e2, e3⟩ := h.row j xs hj
    exact ⟨B1, m1, d1, l1, h1, e1, e2.same (fun _ _ _ => rfl), e3⟩⟩
theorem OwnI.capb {w : World} {lo hi n c : Nat} {A : Option Addr} {xs : List Int} (h : OwnI w lo hi A n c xs) : n ≤ c ∧ c ≤ 9223372036854775807 := ⟨h.cap, h.max⟩
theorem RowsI.at_ {w : World} {lo hi g n c : Nat} {vs : List Value} {xss : List (List Int)} (h : RowsI w lo hi (some ⟨g, 0, none⟩) n c vs xss) {k : Nat} (hk : k < n) :
    ∃ B m d l h xs, w.cell? ⟨g, k, none⟩ = some (.slice B m d) ∧ Ints w l h B m d xs ∧ lo ≤ l ∧ h ≤ hi ∧ Hid (xss[k]? = some xs) ∧ Hid (vs[k]? = some (.slice B m d)) ∧ ∀ ad, B = some ad → ad = ⟨ad.block, 0, none⟩ := by
  have hxl := h.len
  obtain ⟨B, m, d, l, h', e1, e2, e3, e4, _, e6⟩ := h.row k _ (List.getElem?_eq_getElem (by omega))
  exact ⟨B, m, d, l, h', _, (h.own.cellAt k (by omega)).trans e1, e2, e3, e4, List.getElem?_eq_getElem (by omega), e1, e6⟩
theorem RowsI.capb {w : World} {lo hi n c : Nat} {A : Option Addr} {vs : List Value} {xss : List (List Int)} (h : RowsI w lo hi A n c vs xss) : n ≤ c ∧ c ≤ 9223372036854775807 := by
  rcases h.own.2 with ⟨e, rfl⟩ | ⟨g, cap, cur, e, _, _, h1, h2, _⟩
  · injection e; omega
  · injection e with _ _ e3; unfold maxLen at h2; omega

theorem Ints.tail_if {w : World} {lo hi g : Nat} {n c : Nat} {a : Int} {r : List Int} (h : Ints w lo hi (some ⟨g, 0, none⟩) n c (a :: r)) : Ints w lo hi (if c = 1 then some ⟨g, 0, none⟩ else some ⟨g, 1, none⟩) (n - 1) (c - 1) r := by
  have hl := h.len
  have hc := h.cap
  have hm := h.max
  simp at hl
  refine ⟨by omega, by omega, by omega, fun h0 => ?_, fun x hx => h.rng x (List.mem_cons_of_mem _ hx)⟩
  obtain ⟨ad, e, h1, h2, hcs⟩ := h.cells (by omega)
  injection e with e
  subst e
  rw [if_neg (by omega)]
  refine ⟨_, rfl, h1, h2, fun j x hx => ?_⟩
  have := hcs (j + 1) x (by simpa using hx)
  simpa [Addr.add_lit, Nat.add_comm] using this

theorem RowsO.mid {w w' : World} {lo g n c : Nat} {vs : List Value} {xss : List (List Int)} (h : RowsO w lo (some ⟨g, 0, none⟩) n c vs xss) {k : Nat} {B : Option Addr} {m d : Nat} (hv : vs[k]? = some (.slice B m d)) {B' : Option Addr} {d' : Nat} {ys : List Value}
    (hap : Appended w lo 3 1 B m d B' (m + 1) d' ys w') : w'.cell? ⟨g, k, none⟩ = some (.slice B m d) ∧ w'.frozen? ⟨g, k, none⟩ = false := by
  have hvl := h.vlen
  have hkn := (List.getElem?_eq_some_iff.1 hv).1
  have hBg : oBlk B m d = none ∨ oBlk B m d ≠ some g := h.sep k _ hv
  have own' : w'.ownsRow lo 22 1 (.slice (some ⟨g, 0, none⟩) n c) n vs := h.own.kept hap.2.1 (.inr fun e => by
    rcases hBg with h5 | h5
    · exact absurd ((show oBlk B m d = some g from e.symm).symm.trans h5) (by simp)
    · exact h5 e.symm)
  exact ⟨(own'.cellAt k (by omega)).trans hv, own'.frozenAt k⟩
theorem RowsO.drewN {w : World} {lo n c : Nat} {A : Option Addr} {vs : List Value} {xss : List (List Int)} (h : RowsO w lo A n c vs xss) (q : Nat) : RowsO (w.drewN q) lo A n c vs xss := ⟨h.own, h.len, h.row, h.sep, h.sep2⟩
theorem RowsO.drew {w : World} {lo n c : Nat} {A : Option Addr} {vs : List Value} {xss : List (List Int)} (h : RowsO w lo A n c vs xss) : RowsO w.drew lo A n c vs xss := ⟨h.own, h.len, h.row, h.sep, h.sep2⟩
theorem RowsO.cell {w : World} {lo g n c : Nat} {vs : List Value} {xss : List (List Int)} (h : RowsO w lo (some ⟨g, 0, none⟩) n c vs xss) {k : Nat} {v : Value} (hv : vs[k]? = some v) : w.cell? ⟨g, k, none⟩ = some v := by
  have hkn := (List.getElem?_eq_some_iff.1 hv).1
  have := h.vlen
  exact (h.own.cellAt k (by omega)).trans hv
theorem RowsO.form {w : World} {lo n c : Nat} {A : Option Addr} {vs : List Value} {xss : List (List Int)} (h : RowsO w lo A n c vs xss) (hn : 0 < n) : ∃ g, A = some ⟨g, 0, none⟩ ∧ lo ≤ g ∧ g < w.heap.size := by
  rcases h.own.2 with ⟨_, e⟩ | ⟨g, _, _, e, h1, h2, _⟩
  · omega
  · injection e with e
    exact ⟨g, e, h1, (Array.getElem?_eq_some_iff.1 h2).1⟩
theorem RowsO.last {w : World} {lo n c : Nat} {A : Option Addr} {vs : List Value} {xss : List (List Int)} (h : RowsO w lo A (n + 1) c vs xss) : ∃ B m d xs, vs[n]? = some (.slice B m d) ∧ xss[n]? = some xs ∧ m = xs.length ∧ w.ownsRow lo 3 1 (.slice B m d) m (xs.map (Value.int .i64)) := by
  have hl := h.len
  obtain ⟨B, m, d, h1, h2, _⟩ := h.row n _ (List.getElem?_eq_getElem (by omega))
  exact ⟨B, m, d, _, h1, List.getElem?_eq_getElem (by omega), by have := own_len h2; simpa using this.symm, h2⟩
theorem RowsO.nilrow {w : World} {lo n c : Nat} {A : Option Addr} {vs : List Value} {xss : List (List Int)} (h : RowsO w lo A n c vs xss) {k : Nat} {B : Option Addr} {d : Nat} (hv : vs[k]? = some (.slice B 0 d)) : w.ownsRow lo 3 1 (.slice B 0 d) 0 (([] : List Int).map (Value.int .i64)) := by
  have hl := h.len
  have hvl := h.vlen
  have hk := (List.getElem?_eq_some_iff.1 hv).1
  obtain ⟨B', m, d', h1, h2, _⟩ := h.row k _ (List.getElem?_eq_getElem (by omega))
  rw [hv] at h1
  injection h1 with h1
  injection h1 with e1 e2 e3
  subst e1 e2 e3
  have := own_len h2
  have e : xss[k] = [] := by simpa using this
  rw [e] at h2
  exact h2
theorem RowsO.capb {w : World} {lo n c : Nat} {A : Option Addr} {vs : List Value} {xss : List (List Int)} (h : RowsO w lo A n c vs xss) : n ≤ c ∧ c ≤ 9223372036854775807 := by
  rcases h.own.2 with ⟨e, rfl⟩ | ⟨g, cap, cur, e, _, _, h1, h2, _⟩
  · injection e; omega
  · injection e with _ _ e3; unfold maxLen at h2; omega
theorem Appended.low {w0 : World} {base e size : Nat} {A : Option Addr} {n c : Nat} {A' : Option Addr} {m c' : Nat} {xs : List Value} {w' : World} {ys : List Value} (h : Appended w0 base e size A n c A' m c' xs w') {B : Nat} {a : World} (hb : Below B a w0) (hB : B ≤ w0.heap.size) (hlo : B ≤ base) (ho : w0.ownsRow base e size (.slice A n c) n ys) : Below B a w' :=
  h.below hb hB fun ad e => by have := (owns_lt ho ad e).1; omega
end Go.Proofs.YtkaepjigmcielaaGreatDoor
/- Rows of monomials under construction: elements with powers of their own; copies of powers. -/
namespace Go.Proofs.YtkaepjigmcielaaGreatDoor
open Go.RowKit
set_option linter.unusedSimpArgs false
set_option linter.unusedVariables false
set_option maxRecDepth 20000

theorem Ints.src {w : World} {lo hi : Nat} {A : Option Addr} {n c : Nat} {xs : List Int} (h : Ints w lo hi A n c xs) : ∀ ad, A = some ad → ∀ j u, (xs.map (Value.int .i64))[j]? = some u → w.cell? (ad.add j) = some u := by
  intro ad e j u hu
  rw [List.getElem?_map] at hu
  cases hx : xs[j]? with
  | none => rw [hx] at hu; cases hu
  | some x =>
    rw [hx] at hu
    injection hu with hu
    subst hu
    have hn : 0 < n := by
      have := (List.getElem?_eq_some_iff.1 hx).1
      have := h.len
      omega
    obtain ⟨ad', e', _, _, hc⟩ := h.cells hn
    obtain rfl : ad = ad' := by rw [e] at e'; injection e'
    exact hc j x hx

/-- a row of the call's own under construction; its elements' powers can be read, in no block of the row -/
structure LstE (w : World) (lo hi : Nat) (A : Option Addr) (n c : Nat) (es : List El) : Prop where
  own : w.ownsRow lo 95 2 (.slice A n c) n (es.flatMap El.cells)
  lt : ∀ ad, A = some ad → ad.block < hi
  len : es.length = n
  row : ∀ e ∈ es, R64 e.x ∧ ∃ l h, lo ≤ l ∧ h ≤ hi ∧ Ints w l h e.B e.m e.d e.xs ∧ ∀ ad, A = some ad → h ≤ ad.block ∨ ad.block < l
section
variable {w w' : World} {lo hi : Nat} {A : Option Addr} {n c : Nat} {es : List El}
theorem LstE.capb (h : LstE w lo hi A n c es) : n ≤ c ∧ c ≤ 9223372036854775807 := by
  rcases h.own.2 with ⟨e, rfl⟩ | ⟨g, cap, cur, e, _, _, h1, h2, _⟩
  · injection e; omega
  · injection e with _ _ e3; unfold maxLen at h2; omega
theorem LstE.form (h : LstE w lo hi A n c es) (hn : 0 < n) : ∃ g, A = some ⟨g, 0, none⟩ ∧ lo ≤ g ∧ g < hi ∧ g < w.heap.size := by
  rcases h.own.2 with ⟨_, e⟩ | ⟨g, _, _, e, h1, h2, _⟩
  · omega
  · injection e with e
    exact ⟨g, e, h1, h.lt _ e, (Array.getElem?_eq_some_iff.1 h2).1⟩
theorem LstE.below (h : LstE w lo hi A n c es) {B : Nat} (hb : Below B w w') (hB : hi ≤ B) : LstE w' lo hi A n c es :=
  ⟨owns_below h.own hb fun ad e => by have := h.lt ad e; omega, h.lt, h.len, fun e he => by
    obtain ⟨r, l, q, e1, e2, e3, e4⟩ := h.row e he
    exact ⟨r, l, q, e1, e2, e3.same (.of_below hb (by omega)), e4⟩⟩
theorem LstE.wide (h : LstE w lo hi A n c es) {hi2 : Nat} (h2 : hi ≤ hi2) : LstE w lo hi2 A n c es :=
  ⟨h.own, fun ad e => by have := h.lt ad e; omega, h.len, fun e he => by
    obtain ⟨r, l, q, e1, e2, e3, e4⟩ := h.row e he
    exact ⟨r, l, q, e1, by omega, e3, e4⟩⟩
theorem LstE.empty (w : World) (lo : Nat) (h : lo ≤ w.heap.size) : LstE (w.alloc (.cells #[] 95)) lo (w.heap.size + 1) (some ⟨w.heap.size, 0, none⟩) 0 0 [] :=
  ⟨by simpa using World.ownsRow_lit (size := 2) (e := 95) w #[] 0 h (by unfold maxLen; omega) (by simp), fun ad e => by injection e with e; subst e; exact Nat.lt_succ_self _, rfl, by simp⟩
theorem LstE.keep (h : LstE w lo hi A n c es) (hhi : hi ≤ w.heap.size) {A' : Option Addr} {m c' : Nat} {xs : List Value} (hap : Appended w lo 95 2 A n c A' m c' xs w') :
    ∀ (l q : Nat), q ≤ w.heap.size → (∀ ad, A = some ad → q ≤ ad.block ∨ ad.block < l) → Same l q w w' ∧ ∀ ad, A' = some ad → q ≤ ad.block ∨ ad.block < l := by
  obtain ⟨h1, h2, h3⟩ := hap
  intro l q hw hA
  refine ⟨fun k hk1 hk2 => h2.block k (by omega) fun e => ?_, fun ad e => ?_⟩
  · obtain ⟨ad, e1, e2⟩ := ownBlock_eq.1 e.symm
    have := hA ad e1
    omega
  · rcases h3 with h3 | h3
    · exact hA ad (h3 ad e)
    · exact .inl (by have := h3 ad e; omega)
/-- elements appended whose powers were built behind all that there was -/
theorem LstE.cat (h : LstE w lo hi A n c es) {l q : Nat} {fs : List El} (hf : ∀ e ∈ fs, R64 e.x ∧ Ints w l q e.B e.m e.d e.xs) (hl : hi ≤ l) (hq : q ≤ w.heap.size) (hlo : lo ≤ hi) (hhi : hi ≤ w.heap.size) {A' : Option Addr} {c' : Nat}
    (hap : Appended w lo 95 2 A n c A' (n + fs.length) c' (es.flatMap El.cells ++ fs.flatMap El.cells) w') : LstE w' lo w'.heap.size A' (n + fs.length) c' (es ++ fs) := by
  have kp := h.keep hhi hap
  obtain ⟨h1, h2, h3⟩ := hap
  have hsz := h2.size
  refine ⟨by rw [List.flatMap_append]; exact h1, fun ad e => (owns_lt h1 ad e).2, by simp [h.len], fun e he => ?_⟩
  rcases List.mem_append.1 he with he | he
  · obtain ⟨r, l1, q1, e1, e2, e3, e4⟩ := h.row e he
    have kk := kp l1 q1 (by omega) e4
    exact ⟨r, l1, q1, e1, by omega, e3.same kk.1, kk.2⟩
  · obtain ⟨r, hI⟩ := hf e he
    have kk := kp l q hq (fun ad e => .inr (by have := h.lt ad e; omega))
    exact ⟨r, l, q, by omega, by omega, hI.same kk.1, kk.2⟩
theorem LstE.push (h : LstE w lo hi A n c es) {l q : Nat} {e : El} (hr : R64 e.x) (hI : Ints w l q e.B e.m e.d e.xs) (hl : hi ≤ l) (hq : q ≤ w.heap.size) (hlo : lo ≤ hi) (hhi : hi ≤ w.heap.size) {A' : Option Addr} {c' : Nat}
    (hap : Appended w lo 95 2 A n c A' (n + 1) c' (es.flatMap El.cells ++ e.cells) w') : LstE w' lo w'.heap.size A' (n + 1) c' (es ++ [e]) := by
  refine h.cat (fs := [e]) (l := l) (q := q) (fun e' he => ?_) hl hq hlo hhi (by simpa using hap)
  obtain rfl : e' = e := by simpa using he
  exact ⟨hr, hI⟩
theorem LstE.mons (h : LstE w lo hi A n c es) : Mons w lo hi A n c (es.map El.mono) := by
  have hc := h.capb
  refine ⟨by simpa using h.len, hc.1, hc.2, fun hn => ?_⟩
  obtain ⟨g, rfl, h1, h2, _⟩ := h.form hn
  refine ⟨_, rfl, h1, h2, fun j m hm => ?_⟩
  rw [List.getElem?_map] at hm
  cases he : es[j]? with
  | none => rw [he] at hm; cases hm
  | some e =>
    rw [he] at hm
    injection hm with hm
    subst hm
    have hj := (List.getElem?_eq_some_iff.1 he).1
    have hl := h.len
    obtain ⟨c1, c2⟩ := elc_at es j e he
    obtain ⟨r, l, q, e1, e2, e3, _⟩ := h.row e (List.mem_of_getElem? he)
    have k1 := (h.own.cellAt (j * 2) (by omega)).trans c1
    have k2 := (h.own.cellAt (j * 2 + 1) (by omega)).trans c2
    refine ⟨by show w.cell? _ = some (.int .i64 e.x); simpa [Addr.add_lit] using k1, r, e.B, e.m, e.d, ?_, e3.wide e1 e2⟩
    rw [Addr.add_lit]
    simpa using k2
end
end Go.Proofs.YtkaepjigmcielaaGreatDoor
