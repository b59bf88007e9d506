/- Solutions of systems: helpers of both walks. -/
import Derived.Test.YtfijcieponfcpaaGreatDoorMgA
import Derived.Test.YtfijcieponfcpaaGreatDoorSysT
import Derived.Test.YtfijcieponfcpaaGreatDoorAppG
import Derived.Test.YtfijcieponfcpaaGreatDoorNum
namespace Go.Proofs.YtfijcieponfcpaaGreatDoor
open Go.RowKit
set_option linter.unusedSimpArgs false
set_option linter.unusedVariables false
set_option maxRecDepth 20000

theorem RowsO.below {w w' : World} {lo n c : Nat} {A : Option Addr} {vs : List Value} {xss : List (List Int)} (h : RowsO w lo A n c vs xss) (hb : Below w.heap.size w w') : RowsO w' lo A n c vs xss := by
  refine ⟨owns_below h.own hb fun ad e => (owns_lt h.own ad e).2, h.len, fun j xs hj => ?_, h.sep, h.sep2⟩
  obtain ⟨B, m, d, e1, e2, e3⟩ := h.row j xs hj
  exact ⟨B, m, d, e1, owns_below e2 hb fun ad e => (owns_lt e2 ad e).2, e3⟩
theorem RowsO.olt2 {w : World} {lo n c : Nat} {A : Option Addr} {vs : List Value} {xss : List (List Int)} (h : RowsO w lo A n c vs xss) : ∀ ad, A = some ad → ad.block < w.heap.size := fun ad e => (owns_lt h.own ad e).2
theorem RowsO.mat {w : World} {lo n c g k : Nat} {vs : List Value} {xss : List (List Int)} (h : RowsO w lo (some ⟨g, 0, none⟩) n c vs xss) (hN : NumM k xss) : MatB w w lo w.heap.size g n c k vs xss :=
  ⟨h, fun j v hv b hb => (h.olt j v hv b hb).2, h.olt2 _ rfl, hN, Below.refl _ _⟩

theorem owp_appS {P : Program} {o : Oper} {a : Act} {K : Act → World → Prop} {Q : Exit → Act → World → Prop} (s x : Operand) (t : TypeId)
    (ho : o.op = .call { callee := .builtin .append, args := #[s, x], argTypes := #[t, t] })
    (base : Nat) (e : TypeId) (i : TypeInfo) (z : Value) (size bytes : Nat) (ht : P.underlying t = some (.slice e)) (hi : P.info? e = some i) (hz : i.zero = some z)
    (hsize : i.size = size) (hby : i.bytes = bytes) (hzs : z.cells.size = size) (hsz : 0 < size) (w0 : World) (cs : Array Value) (b : Nat) (hb : w0.heap.size = b)
    (A : Option Addr) (n c d : Nat) (xs : List Value) (hs : a.eval s = .slice A n c) (hx : a.eval x = .slice (some ⟨b, 0, none⟩) 1 d) (hown : w0.ownsRow base e size (.slice A n c) n xs)
    (hcs : cs.size = size) (h1 : ∀ u ∈ cs.toList, u.oneCell' = true) (hn : n + 1 ≤ 1099511627776) (hbytes : bytes ≤ 128) (hbase : base ≤ w0.heap.size)
    (h : ∀ A' c' w', Appended w0 base e size A n c A' (n + 1) c' (xs ++ cs.toList) w' → w0.heap.size < w'.heap.size → K (a.put o.dst (.slice A' (n + 1) c')) w') : Oper.wp P o a (w0.alloc (.cells cs e)) K Q := by
  subst hb
  obtain ⟨A', c', w', hrun, h2, h3⟩ := run_app1 (P := P) w0 base t o.type e i z size bytes ht hi hz hsize hby hzs hsz A n c xs hown cs d hcs h1 hn hbytes hbase
  unfold Oper.wp
  simp [execOp, ho, resolve, invoke, builtin, hs, hx, hrun, Result.andThen]
  exact h A' c' w' h2 h3

/-- an append of one value onto the call's own slice, at a step of a region that draws its order -/
theorem step_app1 {P : Program} {ops : Array Oper} {o : Oper} {a : Act} {K : Act → World → Prop} {Q : Exit → Act → World → Prop} {E : Prop} (hgd : o.guard = none) (s x : Operand) (t : TypeId)
    (ho : o.op = .call { callee := .builtin .append, args := #[s, x], argTypes := #[t, t] })
    (base : Nat) (e : TypeId) (i : TypeInfo) (z : Value) (size bytes : Nat) (ht : P.underlying t = some (.slice e)) (hi : P.info? e = some i) (hz : i.zero = some z)
    (hsize : i.size = size) (hby : i.bytes = bytes) (hzs : z.cells.size = size) (hsz : 0 < size) (w0 : World) (cs : Array Value) (b : Nat) (hb : w0.heap.size = b)
    (A : Option Addr) (n c d : Nat) (xs : List Value) (hs : a.eval s = .slice A n c) (hx : a.eval x = .slice (some ⟨b, 0, none⟩) 1 d) (hown : w0.ownsRow base e size (.slice A n c) n xs)
    (hcs : cs.size = size) (h1 : ∀ u ∈ cs.toList, u.oneCell' = true) (hn : n + 1 ≤ 1099511627776) (hbytes : bytes ≤ 128) (hbase : base ≤ w0.heap.size)
    (h : ∀ A' c' w', Appended w0 base e size A n c A' (n + 1) c' (xs ++ cs.toList) w' → w0.heap.size < w'.heap.size → K (a.put o.dst (.slice A' (n + 1) c')) w') :
    if Region.wanted o (yielded ops a.tmps) = true then Oper.wp P o a (w0.alloc (.cells cs e)) K Q else E := by
  have hw : Region.wanted o (yielded ops a.tmps) = true := by simp [Region.wanted, hgd]
  rw [if_pos hw]
  exact owp_appS s x t ho base e i z size bytes ht hi hz hsize hby hzs hsz w0 cs b hb A n c d xs hs hx hown hcs h1 hn hbytes hbase h

/-- appending one element, in which both ways an append may go give the same form of slice -/
theorem step_appI0 {ops : Array Oper} {o : Oper} {a : Act} {K : Act → World → Prop} {Q : Exit → Act → World → Prop} {E : Prop} (hgd : o.guard = none) (s x : Operand)
    (ho : o.op = .call { callee := .builtin .append, args := #[s, x], argTypes := #[22, 22] }) (w : World)
    (B g n c : Nat) (xs : List Int) (hs : a.eval s = .slice (some ⟨g, 0, none⟩) n c) (hown : w.ownsRow B 3 1 (.slice (some ⟨g, 0, none⟩) n c) n (xs.map (Value.int .i64)))
    (ad : Addr) (m d lo hi : Nat) (ys : List Int) (hx : a.eval x = .slice (some ad) m d) (hI : Ints w lo hi (some ad) m d ys) (hm : 0 < m) (N : Nat) (hN : n + m = N) (hsm : N ≤ 1000) (hB : B ≤ w.heap.size)
    (h : ∀ g' c' w', w'.ownsRow B 3 1 (.slice (some ⟨g', 0, none⟩) N c') N ((xs ++ ys).map (Value.int .i64)) → w.grownBy w' (some g) → (g = g' ∨ g' = w.heap.size) → g' < w'.heap.size → K (a.put o.dst (.slice (some ⟨g', 0, none⟩) N c')) w') :
    if Region.wanted o (yielded ops a.tmps) = true then Oper.wp Tryz.prog o a w K Q else E := by
  obtain ⟨i0, hi0, hz0, hz1, hz2⟩ := info_parts info_int
  subst hN
  have hl := hI.len
  refine step_append_lies (P := Tryz.prog) w hgd s x 22 ho B 3 i0 (.int .i64 0) 1 8 Tryz.underlying22 hi0 hz0 hz1 hz2 rfl (by omega) _ n _ hs hown ad m d (ys.map (Value.int .i64)) hx (by simpa using hl) ?_ ?_ hm (by unfold maxLen; omega) (by omega) hB w.heap.size rfl ?_
  · intro j u hu
    rw [List.getElem?_map] at hu
    cases hy : ys[j]? with
    | none => rw [hy] at hu; cases hu
    | some y =>
      rw [hy] at hu
      injection hu with hu
      subst hu
      obtain ⟨ad', e, _, _, hc⟩ := hI.cells hm
      injection e with e
      subst e
      exact hc j y hy
  · intro u hu
    simp only [List.mem_map] at hu
    obtain ⟨y, _, rfl⟩ := hu
    rfl
  · intro g' c' w' h1 h2 h3 h4
    refine h g' c' w' (by rw [List.map_append]; exact h1) h2 ?_ h4
    rcases h3 with h3 | h3
    · left; simpa [Value.ownBlock] using h3
    · exact .inr h3
theorem ints_lit0 (W : World) (x : Int) (hx : R64 x) (hi : Nat) (hh : W.heap.size < hi) : Ints (W.alloc (.cells #[.int .i64 x] 3)) 0 hi (some ⟨W.heap.size, 0, none⟩) 1 1 [x] := by
  refine ⟨rfl, Nat.le_refl _, by omega, fun _ => ⟨_, rfl, Nat.zero_le _, hh, fun j y hy => ?_⟩, by simpa using hx⟩
  cases j with
  | zero =>
    simp at hy
    subst hy
    simp [Addr.add]
  | succ j => simp at hy
theorem Ints.grown_far0 {w w' : World} {lo hi k : Nat} {n c : Nat} {xs : List Int} {b : Nat} (h : Ints w lo hi (some ⟨b, 0, none⟩) n c xs) (hg : w.grownBy w' (some k)) (hne : b ≠ k) : Ints w' lo hi (some ⟨b, 0, none⟩) n c xs :=
  ⟨h.len, h.cap, h.max, fun hn => by
    obtain ⟨ad, e, h1, h2, hc⟩ := h.cells hn
    injection e with e
    subst e
    refine ⟨_, rfl, h1, h2, fun j x hx => ?_⟩
    have h3 := hc j x hx
    refine (World.cell?_of_block (hg.block _ (World.block_lt_of_cell? w _ h3) ?_)).trans h3
    rw [block_of_add]
    intro e
    injection e with e
    exact hne e, h.rng⟩

theorem aug_at {M : List (List Int)} {r : List Int} {j : Nat} {x : List Int} {y : Int} (hx : M[j]? = some x) (hy : r[j]? = some y) : (augF M r)[j]? = some (x ++ [y]) := by
  simp [augF, List.getElem?_zipWith, hx, hy]
theorem aug_len {M : List (List Int)} {r : List Int} {n : Nat} (h : M.length = n) (h2 : r.length = n) : (augF M r).length = n := by simp [augF, h, h2]
theorem aug_num {M : List (List Int)} {r : List Int} {n k : Nat} (hM : NumM k M) (hl : M.length = n) (h2 : r.length = n) (hr : ∀ x ∈ r, 0 ≤ x ∧ x < 1000000271) : NumM (k + 1) (augF M r) := by
  intro s hs
  obtain ⟨j, hj, e⟩ := List.getElem_of_mem hs
  have hj' : j < n := by rw [aug_len hl h2] at hj; exact hj
  have e2 := aug_at (List.getElem?_eq_getElem (show j < M.length by omega)) (List.getElem?_eq_getElem (show j < r.length by omega))
  rw [List.getElem?_eq_getElem hj, e] at e2
  injection e2 with e2
  subst e2
  have h3 := hM _ (List.getElem_mem (show j < M.length by omega))
  refine ⟨by simp [h3.1], fun x hx => ?_⟩
  rcases List.mem_append.1 hx with hx | hx
  · exact h3.2 x hx
  · obtain rfl : x = r[j] := by simpa using hx
    exact hr _ (List.getElem_mem _)
theorem take_snoc0 {α : Type} {xs : List α} {k : Nat} {x : α} (hx : xs[k]? = some x) : xs.take k ++ [x] = xs.take (k + 1) := by
  rw [List.take_add_one, hx]; rfl

def idxL (n : Nat) : List Int := (List.range n).map fun i : Nat => (i : Int)
theorem idxL_at {n i : Nat} (h : i < n) : (idxL n)[i]? = some (i : Int) := by simp [idxL, h]
/-- the solution being taken out of the reduced rows -/
structure SolS (w0 w : World) (lo hi g n c k : Nat) (vs : List Value) (M : List (List Int)) (go : Nat) (A : Option Addr) (d : Nat) (zs : List Int) : Prop where
  mat : MatB w0 w lo hi g n c k vs M
  piv : OwnI w hi go A n d (idxL n)
  out : OwnI w go (go + 1) (some ⟨go, 0, none⟩) n n zs
  hig : hi ≤ go
section
variable {w0 w : World} {lo hi g n c k : Nat} {vs : List Value} {M : List (List Int)} {go : Nat} {A : Option Addr} {d : Nat} {zs : List Int}
theorem SolS.drew (h : SolS w0 w lo hi g n c k vs M go A d zs) : SolS w0 w.drew lo hi g n c k vs M go A d zs :=
  ⟨h.mat.drew, h.piv.same (fun _ _ _ => rfl), h.out.same (fun _ _ _ => rfl), h.hig⟩
theorem SolS.set (h : SolS w0 w lo hi g n c k vs M go A d zs) (hlo : lo ≤ go) {i : Nat} {x : Int} (hx : R64 x) : SolS w0 (w.setCell ⟨go, i, none⟩ (.int .i64 x)) lo hi g n c k vs M go A d (zs.set i x) := by
  have hg := h.hig
  refine ⟨h.mat.keep (fun b hb => Below.heap_setCell _ _ _ _ (by show b ≠ go; omega)) ((Below.refl _ _).setCell hlo _), h.piv.same (Same.setCell (p := ⟨go, i, none⟩) (Same.refl _ _ _) (.inr (Nat.le_refl _)) _), ⟨?_, fun ad e => by injection e with e; subst e; exact Nat.lt_succ_self _, fun y hy => ?_⟩, hg⟩
  · rw [List.map_set]
    exact (h.out.own.stored i (.int .i64 x)).1
  · rcases List.mem_or_eq_of_mem_set hy with hy | rfl
    · exact h.out.rng y hy
    · exact hx
theorem SolS.start {w1 : World} {m : Nat} {pc : List Int} (h : RedS w0 w1 lo hi g n c k vs M w1.heap.size A m d pc) (hp : pc = idxL n) (hn : n ≤ 8) (hhi : hi = w0.heap.size) : n = m ∧ SolS w0 (w1.alloc (.cells (zeros n) 3)) lo hi g n c k vs M w1.heap.size A d (List.replicate n 0) := by
  have hb := below_alloc w1 (.cells (zeros n) 3)
  have hs := h.mat.low.size
  subst hp hhi
  have hm : n = m := by have := h.own.len; simpa [idxL] using this
  subst hm
  refine ⟨rfl, h.mat.keep (fun b hb2 => hb.block b (by omega)) (hb.mono ?_), h.own.below hb (Nat.le_refl _), ⟨owns_zeros w1 n (by omega) (Nat.le_refl _), fun ad e => by injection e with e; subst e; exact Nat.lt_succ_self _, fun x hx => by have := (List.mem_replicate.1 hx).2; subst this; constructor <;> omega⟩, hs⟩
  have := (h.mat.rows.own.lt g rfl)
  omega
end
theorem sol_at {n i : Nat} {M : List (List Int)} (h : i < M.length) : (M.map fun x => x.getD n 0)[i]? = some (atM M i n) := by
  rw [List.getElem?_map, List.getElem?_eq_getElem h]
  simp [atM, h]
theorem red_len (f c : Nat) (M : List (List Int)) (p : List Int) : (redF f c M p).1.length = M.length := by
  induction f generalizing c M p with
  | zero => rfl
  | succ f ih =>
    rw [redF, ih]
    unfold stepF
    simp only []
    split
    · rfl
    · have : ∀ (f i : Nat) (M : List (List Int)) (t : Nat), (elimsF c t f i M).length = M.length := by
        intro f
        induction f with
        | zero => intros; rfl
        | succ f ih2 => intro i M t; rw [elimsF, ih2]; split <;> simp
      rw [this]
      simp [swapF]
theorem sol_len {n : Nat} {xss : List (List Int)} {ys : List Int} (h : xss.length = n) (h2 : ys.length = n) : (solF n xss ys).length = n := by
  unfold solF
  rw [List.length_map, red_len, aug_len h h2]
def mixR {α : Type} (new old : List α) (j : Nat) : List α := new.take j ++ old.drop j
theorem mixR_zero {α : Type} (new old : List α) : mixR new old 0 = old := by simp [mixR]
theorem mixR_all {α : Type} {new old : List α} {k : Nat} (h1 : new.length = k) (h2 : old.length = k) : mixR new old k = new := by simp [mixR, List.take_of_length_le (Nat.le_of_eq h1), List.drop_eq_nil_of_le (Nat.le_of_eq h2)]
theorem mixR_at {α : Type} {new old : List α} {k j : Nat} (h1 : new.length = k) (hj : j < k) : (mixR new old j)[j]? = old[j]? := by
  unfold mixR
  rw [List.getElem?_append_right (by simp; omega)]
  simp [h1, Nat.min_eq_left (Nat.le_of_lt hj)]
theorem mixR_set {α : Type} {new old : List α} {k j : Nat} {x : α} (h1 : new.length = k) (h2 : old.length = k) (hj : j < k) (hx : new[j]? = some x) : (mixR new old j).set j x = mixR new old (j + 1) := by
  unfold mixR
  apply List.ext_getElem?
  intro i
  by_cases e : i = j
  · subst e
    rw [List.getElem?_set_self (by simp [h1, h2]; omega), List.getElem?_append_left (by simp; omega), List.getElem?_take_of_lt (by omega), hx]
  · rw [List.getElem?_set_ne (by omega)]
    by_cases e2 : i < j
    · rw [List.getElem?_append_left (by simp; omega), List.getElem?_append_left (by simp; omega), List.getElem?_take_of_lt e2, List.getElem?_take_of_lt (by omega)]
    · rw [List.getElem?_append_right (by simp; omega), List.getElem?_append_right (by simp; omega)]
      simp [h1]
      congr 1
      omega
end Go.Proofs.YtfijcieponfcpaaGreatDoor
/- Weights of nodes: the systems of quadratures, built row by row. -/
namespace Go.Proofs.YtfijcieponfcpaaGreatDoor
open Go.RowKit
set_option linter.unusedSimpArgs false
set_option linter.unusedVariables false
set_option maxRecDepth 20000

def powRow (xs : List Int) (k : Int) : List Int := xs.map fun x => powF x k
def vanM (xs : List Int) (n : Nat) : List (List Int) := (List.range n).map fun q : Nat => powRow xs (q : Int)
def goalL (f : Int → Int) (n : Nat) : List Int := (List.range n).map fun q : Nat => f ((q : Int) + 1)
theorem van_at {xs : List Int} {n q : Nat} (h : q < n) : (vanM xs n)[q]? = some (powRow xs (q : Int)) := by simp [vanM, h]
theorem goal_at {f : Int → Int} {n q : Nat} (h : q < n) : (goalL f n)[q]? = some (f ((q : Int) + 1)) := by simp [goalL, h]
theorem van_num (xs : List Int) (n : Nat) : NumM xs.length (vanM xs n) := by
  intro r hr
  simp only [vanM, List.mem_map] at hr
  obtain ⟨q, _, rfl⟩ := hr
  refine ⟨by simp [powRow], fun x hx => ?_⟩
  simp only [powRow, List.mem_map] at hx
  obtain ⟨y, _, rfl⟩ := hx
  exact powF_bd _ _
theorem van_len (xs : List Int) (n : Nat) : (vanM xs n).length = n := by simp [vanM]
theorem goal_len (f : Int → Int) (n : Nat) : (goalL f n).length = n := by simp [goalL]
theorem powRow_at {xs : List Int} {k : Int} {j : Nat} {x : Int} (h : xs[j]? = some x) : (powRow xs k)[j]? = some (powF x k) := by simp [powRow, h]
theorem powRow_rng (xs : List Int) (k : Int) : ∀ y ∈ powRow xs k, R64 y := by
  intro y hy
  simp only [powRow, List.mem_map] at hy
  obtain ⟨x, _, rfl⟩ := hy
  have := powF_bd x k
  constructor <;> omega

theorem RowsO.kept {w w' : World} {lo n c : Nat} {A : Option Addr} {vs : List Value} {xss : List (List Int)} {k : Option Nat} (h : RowsO w lo A n c vs xss) (hg : w.grownBy w' k) (h1 : (oBlk A n c = none ∨ oBlk A n c ≠ k)) (h2 : ∀ (j : Nat) (v : Value), vs[j]? = some v → v.ownBlock = none ∨ v.ownBlock ≠ k) : RowsO w' lo A n c vs xss := by
  refine ⟨h.own.kept hg h1, h.len, fun j xs hj => ?_, h.sep, h.sep2⟩
  obtain ⟨B, m, d, e1, e2, e3⟩ := h.row j xs hj
  exact ⟨B, m, d, e1, e2.kept hg (h2 j _ e1), e3⟩

/-- The rows so far and the right sides so far, in blocks of their own. -/
structure QuS (w0 w : World) (lo : Nat) (A : Option Addr) (q c : Nat) (vs : List Value) (M : List (List Int)) (G : Option Addr) (p d : Nat) (gs : List Int) : Prop where
  rows : RowsO w lo A q c vs M
  goal : OwnI w lo w.heap.size G p d gs
  sep1 : ∀ k, oBlk G p d = some k → oBlk A q c ≠ some k
  sep2 : ∀ (j : Nat) (v : Value), vs[j]? = some v → ∀ k, v.ownBlock = some k → oBlk G p d ≠ some k
  low : Below lo w0 w
section
variable {w0 w w' : World} {lo : Nat} {A : Option Addr} {q c : Nat} {vs : List Value} {M : List (List Int)} {G : Option Addr} {p d : Nat} {gs : List Int}
theorem OwnI.kept {k : Option Nat} {xs : List Int} {hi : Nat} (h : OwnI w lo hi A q c xs) (hg : w.grownBy w' k) (h1 : oBlk A q c = none ∨ oBlk A q c ≠ k) : OwnI w' lo w'.heap.size A q c xs :=
  ⟨h.own.kept hg h1, fun ad e => (owns_lt (h.own.kept hg h1) ad e).2, h.rng⟩
theorem QuS.below (h : QuS w0 w lo A q c vs M G p d gs) (hlo : lo ≤ w.heap.size) (hb : Below w.heap.size w w') : QuS w0 w' lo A q c vs M G p d gs :=
  ⟨h.rows.below hb, (h.goal.below hb (Nat.le_refl _)).wide (Nat.le_refl _) hb.size, h.sep1, h.sep2, h.low.trans (hb.mono hlo)⟩
theorem new_blk {A' : Option Addr} {q' c' : Nat} {xs : List Value} {e s : Nat} (hap : Appended w lo e s A q c A' q' c' xs w') : ∀ k, oBlk A' q' c' = some k → oBlk A q c = some k ∨ w.heap.size ≤ k := by
  intro k hk
  obtain ⟨ad, rfl, had⟩ := ownBlock_eq.1 hk
  rcases hap.2.2 with h3 | h3
  · have := h3 ad rfl
    subst this
    exact .inl (by simp [Value.ownBlock, had])
  · exact .inr (by have := h3 ad rfl; omega)
theorem QuS.pushRow (h : QuS w0 w lo A q c vs M G p d gs) (hlo : lo ≤ w.heap.size) {B : Option Addr} {m d' : Nat} {xs : List Int} {hb : Nat}
    (hr : w.ownsRow hb 3 1 (.slice B m d') m (xs.map (Value.int .i64))) (hR : ∀ x ∈ xs, R64 x) (hlb : lo ≤ hb)
    (hold : ∀ k, (oBlk A q c = some k ∨ oBlk G p d = some k ∨ ∃ (j : Nat) (v : Value), vs[j]? = some v ∧ v.ownBlock = some k) → k < hb)
    {A' : Option Addr} {c' : Nat} (hap : Appended w lo 22 1 A q c A' (q + 1) c' (vs ++ [.slice B m d']) w') :
    QuS w0 w' lo A' (q + 1) c' (vs ++ [.slice B m d']) (M ++ [xs]) G p d gs := by
  have hGk : oBlk G p d = none ∨ oBlk G p d ≠ oBlk A q c := by
    cases hk : oBlk G p d with
    | none => exact .inl rfl
    | some k => exact .inr fun e => h.sep1 k hk e.symm
  have hG := h.goal.kept hap.2.1 hGk
  refine ⟨h.rows.pushRow (owns_low hr hlb) hR (fun ad e => (owns_lt hr ad e).1) (fun ad e => hold _ (.inl (ownBlock_eq.2 ⟨ad, e, rfl⟩))) (fun j v hv b hb => hold _ (.inr (.inr ⟨j, v, hv, hb⟩))) hap, hG, fun k hk e => ?_, fun j v hv k hk e => ?_, hap.low h.low hlo (Nat.le_refl _) h.rows.own⟩
  · rcases new_blk hap k e with e2 | e2
    · exact h.sep1 k hk e2
    · obtain ⟨ad, e3, e4⟩ := ownBlock_eq.1 hk
      have := h.goal.lt ad e3
      omega
  · by_cases hj : j < vs.length
    · rw [List.getElem?_append_left hj] at hv
      exact h.sep2 j v hv k hk e
    · rw [List.getElem?_append_right (by omega)] at hv
      have hv2 : Value.slice B m d' = v := by
        cases hjj : j - vs.length with
        | zero => rw [hjj] at hv; simpa using hv
        | succ j2 => rw [hjj] at hv; simp at hv
      subst hv2
      obtain ⟨ad, e3, e4⟩ := ownBlock_eq.1 hk
      have h1 := (owns_lt hr ad e3).1
      have h2 := hold k (.inr (.inl e))
      omega
theorem QuS.pushGoal (h : QuS w0 w lo A q c vs M G p d gs) (hlo : lo ≤ w.heap.size) {x : Int} (hx : R64 x) {G' : Option Addr} {d' : Nat} (hap : Appended w lo 3 1 G p d G' (p + 1) d' (gs.map (Value.int .i64) ++ (#[Value.int .i64 x] : Array Value).toList) w') :
    QuS w0 w' lo A q c vs M G' (p + 1) d' (gs ++ [x]) := by
  have hAk : oBlk A q c = none ∨ oBlk A q c ≠ oBlk G p d := by
    cases hk : oBlk A q c with
    | none => exact .inl rfl
    | some k => exact .inr fun e => h.sep1 k e.symm hk
  have hrow : ∀ (j : Nat) (v : Value), vs[j]? = some v → v.ownBlock = none ∨ v.ownBlock ≠ oBlk G p d := by
    intro j v hv
    cases hk : v.ownBlock with
    | none => exact .inl rfl
    | some k => exact .inr fun e => h.sep2 j v hv k hk e.symm
  refine ⟨h.rows.kept hap.2.1 hAk hrow, ⟨by simpa using hap.1, fun ad e => (owns_lt hap.1 ad e).2, fun y hy => ?_⟩, fun k hk e => ?_, fun j v hv k hk e => ?_, hap.low h.low hlo (Nat.le_refl _) h.goal.own⟩
  · rcases List.mem_append.1 hy with hy | hy
    · exact h.goal.rng y hy
    · obtain rfl : y = x := by simpa using hy
      exact hx
  · rcases new_blk hap k hk with e2 | e2
    · exact h.sep1 k e2 e
    · obtain ⟨ad, e3, e4⟩ := ownBlock_eq.1 e
      have := h.rows.olt2 ad e3
      omega
  · rcases new_blk hap k e with e2 | e2
    · exact h.sep2 j v hv k hk e2
    · have := (h.rows.olt j v hv k hk).2
      omega
theorem QuS.old (h : QuS w0 w lo A q c vs M G p d gs) : ∀ k, (oBlk A q c = some k ∨ oBlk G p d = some k ∨ ∃ (j : Nat) (v : Value), vs[j]? = some v ∧ v.ownBlock = some k) → k < w.heap.size := by
  rintro k (e | e | ⟨j, v, hv, e⟩)
  · obtain ⟨ad, e1, e2⟩ := ownBlock_eq.1 e
    have := h.rows.olt2 ad e1
    omega
  · obtain ⟨ad, e1, e2⟩ := ownBlock_eq.1 e
    have := h.goal.lt ad e1
    omega
  · exact (h.rows.olt j v hv k e).2
end
theorem QuS.start (w : World) : QuS w ((w.alloc (.cells #[] 22)).alloc (.cells #[] 3)) w.heap.size (some ⟨w.heap.size, 0, none⟩) 0 0 [] [] (some ⟨w.heap.size + 1, 0, none⟩) 0 0 [] := by
  have b1 := below_alloc w (.cells #[] 22)
  have b2 := below_alloc (w.alloc (.cells #[] 22)) (.cells #[] 3)
  refine ⟨(RowsO.empty w w.heap.size (Nat.le_refl _)).below b2, ⟨?_, fun ad e => by injection e with e; subst e; simp, by simp⟩, fun k hk e => ?_, by simp, b1.trans (b2.mono b1.size)⟩
  · simpa using World.ownsRow_lit (size := 1) (e := 3) (base := w.heap.size) (w.alloc (.cells #[] 22)) #[] 0 (by simp) (by unfold maxLen; omega) rfl
  · simp [Value.ownBlock] at hk e
    omega
def powGoal (a0 : Int) (k : Int) : Int := fracF (powF a0 k) k
def wgtL (xs : List Int) (f : Int → Int) : List Int := solF xs.length (vanM xs xs.length) (goalL f xs.length)
theorem goal_num {f : Int → Int} {n : Nat} (h : ∀ k, 0 ≤ f k ∧ f k < 1000000271) : ∀ y ∈ goalL f n, 0 ≤ y ∧ y < 1000000271 := by
  intro y hy
  simp only [goalL, List.mem_map] at hy
  obtain ⟨q, _, rfl⟩ := hy
  exact h _
end Go.Proofs.YtfijcieponfcpaaGreatDoor
