/- append onto a slice of the call's own: laws for the walk whose results keep the shape of a slice. -/
import Derived.Test.YtkaepjigmcielaaGreatDoorMzA
import Derived.Maps.AppendAt
import Derived.Test.YtkaepjigmcielaaGreatDoorMzB
namespace Go.Proofs.YtkaepjigmcielaaGreatDoor
open Go.RowKit
set_option linter.unusedSimpArgs false
set_option linter.unusedVariables false
set_option maxRecDepth 20000

theorem own_shape {w : World} {base e size : Nat} {v : Value} {n : Nat} {xs : List Value} (h : w.ownsRow base e size v n xs) : ∃ A c, v = .slice A n c ∧ (∀ ad, A = some ad → ad = ⟨ad.block, 0, none⟩) := by
  rcases h.2 with ⟨rfl, rfl⟩ | ⟨g, cap, cur, rfl, _⟩
  · exact ⟨none, 0, rfl, by simp⟩
  · exact ⟨some ⟨g, 0, none⟩, cap, rfl, fun ad e => by injection e with e; subst e; rfl⟩

section
variable {P : Program}
/-- What an append leaves: the new slice, where it lies, and that only its row and new blocks have turned. -/
def Appended (w0 : World) (base e size : Nat) (A : Option Addr) (n c : Nat) (A' : Option Addr) (m c' : Nat) (xs : List Value) (w' : World) : Prop :=
  w'.ownsRow base e size (.slice A' m c') m xs ∧ w0.grownBy w' (Value.ownBlock (.slice A n c)) ∧ ((∀ ad, A' = some ad → A = some ad) ∨ ∀ ad, A' = some ad → w0.heap.size ≤ ad.block)

theorem run_app (w : World) (base : Nat) (t ty e : TypeId) (i : TypeInfo) (z : Value) (size bytes : Nat) (ht : P.underlying t = some (.slice e)) (hi : P.info? e = some i) (hz : i.zero = some z)
    (hsize : i.size = size) (hby : i.bytes = bytes) (hzs : z.cells.size = size) (hsz : 0 < size)
    (A : Option Addr) (n c : Nat) (xs : List Value) (hown : w.ownsRow base e size (.slice A n c) n xs)
    (a : Addr) (m d : Nat) (news : List Value) (hl : news.length = m * size) (hnews : ∀ j u, news[j]? = some u → w.cell? (a.add j) = some u) (h1 : ∀ u ∈ news, u.oneCell' = true)
    (h63 : n + m ≤ 1099511627776) (hbytes : bytes ≤ 128) (hbase : base ≤ w.heap.size) :
    ∃ A' c' w', (Builtin.append_ #[t, t] ty #[.slice A n c, .slice (some a) m d]).run P w = .ok (.slice A' (n + m) c') w' ∧ Appended w base e size A n c A' (n + m) c' (xs ++ news) w' := by
  obtain ⟨v', w', hrun, h2, h3, _, h5⟩ := run_append_own_at (P := P) w base t ty e i z size bytes ht hi hz hsize hby hzs hsz (.slice A n c) n xs hown a m d news hl hnews h1 (by unfold maxLen; omega)
    (Nat.le_trans (Nat.mul_le_mul h63 hbytes) (by omega)) hbase
  obtain ⟨A', c', rfl, hA'⟩ := own_shape h2
  refine ⟨A', c', w', hrun, h2, h3, ?_⟩
  obtain ⟨_, _, hv, hA⟩ := own_shape hown
  injection hv with hv
  subst hv
  rcases h5 with h5 | h5
  · left
    intro ad had
    subst had
    cases A with
    | none => simp [Value.ownBlock] at h5
    | some ad0 =>
      simp [Value.ownBlock] at h5
      rw [hA ad0 rfl, hA' ad rfl, h5]
  · right
    intro ad had
    subst had
    simp [Value.ownBlock] at h5
    omega

/-- append of one element that has just been laid in a block of its own. -/
theorem run_app1 (w0 : World) (base : Nat) (t ty e : TypeId) (i : TypeInfo) (z : Value) (size bytes : Nat) (ht : P.underlying t = some (.slice e)) (hi : P.info? e = some i) (hz : i.zero = some z)
    (hsize : i.size = size) (hby : i.bytes = bytes) (hzs : z.cells.size = size) (hsz : 0 < size)
    (A : Option Addr) (n c : Nat) (xs : List Value) (hown : w0.ownsRow base e size (.slice A n c) n xs)
    (cs : Array Value) (d : Nat) (hcs : cs.size = size) (h1 : ∀ u ∈ cs.toList, u.oneCell' = true) (hn : n + 1 ≤ 1099511627776) (hbytes : bytes ≤ 128) (hbase : base ≤ w0.heap.size) :
    ∃ A' c' w', (Builtin.append_ #[t, t] ty #[.slice A n c, .slice (some ⟨w0.heap.size, 0, none⟩) 1 d]).run P (w0.alloc (.cells cs e)) = .ok (.slice A' (n + 1) c') w' ∧
      Appended w0 base e size A n c A' (n + 1) c' (xs ++ cs.toList) w' ∧ w0.heap.size < w'.heap.size := by
  obtain ⟨A', c', w', hr, h2, h3, h4⟩ := run_app (P := P) (w0.alloc (.cells cs e)) base t ty e i z size bytes ht hi hz hsize hby hzs hsz A n c xs (hown.alloc _) ⟨w0.heap.size, 0, none⟩ 1 d cs.toList (by simpa using hcs)
    (fun j u hu => by
      rw [Addr.add_lit, Nat.zero_add, cell_of_row _ _ _ cs e (0, 0) (heap_alloc_new w0 _)]
      simpa using hu) h1 hn hbytes (by simp; omega)
  have hz' := h3.size
  simp at hz'
  refine ⟨A', c', w', hr, ⟨h2, ⟨h3.os, h3.tape, h3.output, by omega, fun k hk hne => (h3.block k (by simp; omega) hne).trans (Below.heap_alloc w0 _ k hk)⟩, ?_⟩, by omega⟩
  rcases h4 with h4 | h4
  · exact .inl h4
  · exact .inr fun ad had => by have := h4 ad had; simp at this; omega

theorem wpl_app1 {ops : Array Oper} {rest : List Oper} {o : Oper} {a : Act} {Q : Exit → Act → World → Prop} (hgd : o.guard = none) (s x : Operand) (t : TypeId)
    (ho : o.op = .call { callee := .builtin .append, args := #[s, x], argTypes := #[t, t] })
    (base : Nat) (e : TypeId) (i : TypeInfo) (z : Value) (size bytes : Nat) (ht : P.underlying t = some (.slice e)) (hi : P.info? e = some i) (hz : i.zero = some z)
    (hsize : i.size = size) (hby : i.bytes = bytes) (hzs : z.cells.size = size) (hsz : 0 < size) (w0 : World) (cs : Array Value)
    (A : Option Addr) (n c d : Nat) (xs : List Value) (hs : a.eval s = .slice A n c) (hx : a.eval x = .slice (some ⟨w0.heap.size, 0, none⟩) 1 d) (hown : w0.ownsRow base e size (.slice A n c) n xs)
    (hcs : cs.size = size) (h1 : ∀ u ∈ cs.toList, u.oneCell' = true) (hn : n + 1 ≤ 1099511627776) (hbytes : bytes ≤ 128) (hbase : base ≤ w0.heap.size)
    (h : ∀ A' c' w', Appended w0 base e size A n c A' (n + 1) c' (xs ++ cs.toList) w' → w0.heap.size < w'.heap.size → wpList P ops Q rest (a.put o.dst (.slice A' (n + 1) c')) w') : wpList P ops Q (o :: rest) a (w0.alloc (.cells cs e)) := by
  refine wpList_plain hgd fun K hK => ?_
  obtain ⟨A', c', w', hrun, h2, h3⟩ := run_app1 (P := P) w0 base t o.type e i z size bytes ht hi hz hsize hby hzs hsz A n c xs hown cs d hcs h1 hn hbytes hbase
  unfold Oper.wp
  simp [execOp, ho, resolve, invoke, builtin, hs, hx, hrun, Result.andThen]
  exact hK _ _ (h A' c' w' h2 h3)

/-- append of the elements of a slice that can be read. -/
theorem wpl_app {ops : Array Oper} {rest : List Oper} {o : Oper} {a : Act} {Q : Exit → Act → World → Prop} (hgd : o.guard = none) (s x : Operand) (t : TypeId)
    (ho : o.op = .call { callee := .builtin .append, args := #[s, x], argTypes := #[t, t] }) (w : World)
    (base : Nat) (e : TypeId) (i : TypeInfo) (z : Value) (size bytes : Nat) (ht : P.underlying t = some (.slice e)) (hi : P.info? e = some i) (hz : i.zero = some z)
    (hsize : i.size = size) (hby : i.bytes = bytes) (hzs : z.cells.size = size) (hsz : 0 < size)
    (A : Option Addr) (n c : Nat) (xs : List Value) (hs : a.eval s = .slice A n c) (hown : w.ownsRow base e size (.slice A n c) n xs)
    (B : Option Addr) (m d : Nat) (news : List Value) (hx : a.eval x = .slice B m d) (hl : news.length = m * size) (hnews : ∀ ad, B = some ad → ∀ j u, news[j]? = some u → w.cell? (ad.add j) = some u) (hB : B = none → m = 0 ∧ d = 0) (h1 : ∀ u ∈ news, u.oneCell' = true)
    (h63 : n + m ≤ 1099511627776) (hbytes : bytes ≤ 128) (hbase : base ≤ w.heap.size)
    (h : ∀ A' c' w', Appended w base e size A n c A' (n + m) c' (xs ++ news) w' → wpList P ops Q rest (a.put o.dst (.slice A' (n + m) c')) w') : wpList P ops Q (o :: rest) a w := by
  refine wpList_plain hgd fun K hK => ?_
  cases B with
  | some ad =>
    obtain ⟨A', c', w', hrun, h2⟩ := run_app (P := P) w base t o.type e i z size bytes ht hi hz hsize hby hzs hsz A n c xs hown ad m d news hl (hnews ad rfl) h1 h63 hbytes hbase
    unfold Oper.wp
    simp [execOp, ho, resolve, invoke, builtin, hs, hx, hrun, Result.andThen]
    exact hK _ _ (h A' c' w' h2)
  | none =>
    obtain ⟨rfl, rfl⟩ := hB rfl
    obtain rfl : news = [] := List.eq_nil_of_length_eq_zero (by simpa using hl)
    have hrun := run_append_owned_none (P := P) w base t o.type e i size ht hi (.slice A n c) n xs hown
    unfold Oper.wp
    simp [execOp, ho, resolve, invoke, builtin, hs, hx, hrun, Result.andThen]
    exact hK _ _ (h A c w ⟨by simpa using hown, World.grownBy.refl _ _, .inl fun _ h => h⟩)
end

/-- The same in my words for slices of integers. -/
theorem Appended.below {w0 : World} {base e size : Nat} {A : Option Addr} {n c : Nat} {A' : Option Addr} {m c' : Nat} {xs : List Value} {w' : World} (h : Appended w0 base e size A n c A' m c' xs w')
    {B : Nat} {a : World} (hb : Below B a w0) (hB : B ≤ w0.heap.size) (ho : ∀ ad, A = some ad → B ≤ ad.block) : Below B a w' :=
  hb.grown h.2.1 hB fun k hk => by
    cases A with
    | none => simp [Value.ownBlock] at hk
    | some ad => simp [Value.ownBlock] at hk; subst hk; exact ho ad rfl
end Go.Proofs.YtkaepjigmcielaaGreatDoor
/- Slices of slices of integers: what they read as, and the statements' helpers on them. -/
namespace Go.Proofs.YtkaepjigmcielaaGreatDoor
open Go.RowKit
set_option linter.unusedSimpArgs false
set_option linter.unusedVariables false
set_option maxRecDepth 20000

/-- A slice of slices of integers that can be read; all its cells lie in the blocks from lo up to hi. -/
structure Ints2 (w : World) (lo hi : Nat) (A : Option Addr) (n c : Nat) (xss : List (List Int)) : Prop where
  len : xss.length = n
  cap : n ≤ c
  max : c ≤ 9223372036854775807
  cells : 0 < n → ∃ ad, A = some ad ∧ lo ≤ ad.block ∧ ad.block < hi ∧ ∀ j xs, xss[j]? = some xs → ∃ B m d, w.cell? (ad.add j) = some (.slice B m d) ∧ Ints w lo hi B m d xs

section
variable {w w' : World} {lo hi : Nat} {A : Option Addr} {n c : Nat} {xss : List (List Int)}
theorem Ints2.at_ (h : Ints2 w lo hi A n c xss) {k : Nat} (hk : k < n) :
    ∃ ad B m d xs, A = some ad ∧ w.cell? (ad.add k) = some (.slice B m d) ∧ Ints w lo hi B m d xs ∧ Hid (xss.drop k = xs :: xss.drop (k+1)) ∧ Hid (xss[k]? = some xs) := by
  obtain ⟨ad, e, _, _, hc⟩ := h.cells (by omega)
  have hl : k < xss.length := by have := h.len; omega
  obtain ⟨B, m, d, h1, h2⟩ := hc k _ (List.getElem?_eq_getElem hl)
  exact ⟨ad, B, m, d, _, e, h1, h2, List.drop_eq_getElem_cons hl, List.getElem?_eq_getElem hl⟩
theorem Ints2.same (h : Ints2 w lo hi A n c xss) (hs : Same lo hi w w') : Ints2 w' lo hi A n c xss :=
  ⟨h.len, h.cap, h.max, fun hn => by
    obtain ⟨ad, e, h1, h2, hc⟩ := h.cells hn
    refine ⟨ad, e, h1, h2, fun j xs hx => ?_⟩
    obtain ⟨B, m, d, h3, h4⟩ := hc j xs hx
    exact ⟨B, m, d, (hs.cell (by rw [block_of_add]; exact h1) (by rw [block_of_add]; exact h2)).trans h3, h4.same hs⟩⟩
theorem Ints2.below {B : Nat} (h : Ints2 w lo hi A n c xss) (hb : Below B w w') (hB : hi ≤ B) : Ints2 w' lo hi A n c xss := h.same (.of_below hb hB)
theorem Ints2.drop_end (h : Ints2 w lo hi A n c xss) : Hid (xss.drop n = []) := List.drop_eq_nil_of_le (Nat.le_of_eq h.len)
end

def szRowsGo : List (List Int) → Int → Int
  | [], l => l
  | xs :: r, l => if l - xs.length < 0 then -1 else szRowsGo r (l - xs.length)
def szRowsF (xss : List (List Int)) (l : Int) : Int := if l - xss.length < 0 then -1 else szRowsGo xss (l - xss.length)
theorem szRowsGo_bd : ∀ (xss : List (List Int)) (l : Int), 0 ≤ l → (-1 ≤ szRowsGo xss l ∧ szRowsGo xss l ≤ l) ∧ (0 ≤ szRowsGo xss l → ∀ xs ∈ xss, (xs.length : Int) ≤ l)
  | [], l, h => ⟨⟨by unfold szRowsGo; omega, by unfold szRowsGo; omega⟩, fun _ _ h => absurd h (by simp)⟩
  | xs :: r, l, h => by
    rw [szRowsGo]
    split
    · exact ⟨⟨by omega, by omega⟩, fun h => absurd h (by omega)⟩
    · have ih := szRowsGo_bd r (l - xs.length) (by omega)
      refine ⟨⟨ih.1.1, by omega⟩, fun h0 ys hy => ?_⟩
      rcases List.mem_cons.1 hy with rfl | hy
      · omega
      · have := ih.2 h0 ys hy
        omega

set_option maxHeartbeats 400000 in
theorem laws_szIntSS (A : Option Addr) (n c : Nat) (xss : List (List Int)) (lo hi : Nat) (left : Int) (w : World) (h : Ints2 w lo hi A n c xss) (h0 : 0 ≤ left) (h1 : left ≤ 1048576) :
    Calls Tryz.prog 5 #[.slice A n c, .int .i64 left] w fun e w' => e = .returned (.int .i64 (szRowsF xss left)) ∧ w = w' := by
  have hcp := h.cap
  have hm := h.max
  by_cases hlt : left - n < 0
  · have hF : Hid (szRowsF xss left = -1) := if_pos (by rw [h.len]; exact hlt)
    go_enter Tryz.func5, Tryz.ntmps5
    go_wp2_with fail
    go_ret
    exact ⟨ret_int hF.out.symm, rfl⟩
  · have hF : Hid (szRowsF xss left = szRowsGo xss (left - n)) := by
      show _ = _
      unfold szRowsF
      rw [h.len, if_neg hlt]
    go_enter Tryz.func5, Tryz.ntmps5
    go_wp2_with fail
    go_loop [1, 5] (fun l i => ∃ (k : Nat) (r : Int), k ≤ n ∧ i = .int .i64 k ∧ l = .int .i64 r ∧ 0 ≤ r ∧ r ≤ 1048576 ∧ Hid (szRowsF xss left = szRowsGo (xss.drop k) r)) (fun _ i => n - (intOf i).toNat)
    case atStart => exact ⟨0, left - n, by omega, rfl, rfl, by omega, by omega, hF⟩
    case round =>
      obtain ⟨k, r, hk, rfl, rfl, hr0, hr1, hr⟩ := hrel
      by_cases hlt : k < n
      · obtain ⟨ad, B, m, d, xs, rfl, hc, hi, hd, hx⟩ := h.at_ hlt
        have hmm := hi.max
        have hml := hi.len
        have hcm := hi.cap
        by_cases hlt2 : r - m < 0
        · have hF2 : szF m r = -1 := if_pos hlt2
          have hG : Hid (szRowsF xss left = -1) := by
            show _ = _
            rw [hr.out, hd.out, szRowsGo, hml, if_pos hlt2]
          clear hml
          go_wp2_with fail
          refine (laws_szIntS B m d r w (by omega) hr0 hr1).mono ?_
          rintro e w' ⟨rfl, rfl⟩
          rw [hF2]
          go_wp2_with fail
          go_ret
          exact ⟨ret_int hG.out.symm, rfl⟩
        · have hF2 : szF m r = r - m := if_neg hlt2
          have hG : Hid (szRowsF xss left = szRowsGo (xss.drop (k + 1)) (r - m)) := by
            show _ = _
            rw [hr.out, hd.out, szRowsGo, hml, if_neg hlt2]
          clear hml
          go_wp2_with fail
          refine (laws_szIntS B m d r w (by omega) hr0 hr1).mono ?_
          rintro e w' ⟨rfl, rfl⟩
          rw [hF2]
          go_wp2_with fail
          go_round
          case rel => exact ⟨k + 1, r - m, by omega, by go_num, rfl, by omega, by omega, hG⟩
          case measure => simp [intOf]; omega
      · obtain rfl : k = n := by omega
        have e := h.drop_end
        have hG : Hid (szRowsF xss left = r) := by show _ = _; rw [hr.out, e.out, szRowsGo]
        go_wp2_with fail
        go_ret
        exact ⟨ret_int hG.out.symm, rfl⟩

theorem take_snoc2 {α : Type} {xs ys : List α} {k : Nat} {x : α} (h : xs.take k = ys.take k) (hx : xs[k]? = some x) (hy : ys[k]? = some x) : xs.take (k+1) = ys.take (k+1) := by
  rw [List.take_add_one, List.take_add_one, h, hx, hy]

set_option maxHeartbeats 400000 in
theorem laws_eqIntSS (A : Option Addr) (n c : Nat) (xs : List (List Int)) (lo hi : Nat) (B : Option Addr) (m d : Nat) (ys : List (List Int)) (lo' hi' : Nat) (w : World) (h : Ints2 w lo hi A n c xs) (g : Ints2 w lo' hi' B m d ys) :
    Calls Tryz.prog 11 #[.slice A n c, .slice B m d] w fun e w' => e = .returned (.bool (decide (xs = ys))) ∧ ∃ q, w' = w.drewN q := by
  have hcp := h.cap
  have hm := h.max
  have gcp := g.cap
  have gm := g.max
  by_cases hnm : n = m
  · subst hnm
    go_enter Tryz.func11, Tryz.ntmps11
    go_wp2_with fail
    go_loopw [5] (fun i wr => ∃ (k q : Nat), k ≤ n ∧ i = .int .i64 k ∧ wr = w.drewN q ∧ Hid (xs.take k = ys.take k)) (fun i _ => n - (intOf i).toNat)
    case atStart => exact ⟨0, 0, by omega, rfl, rfl, rfl⟩
    case round =>
      obtain ⟨k, q, hk, rfl, rfl, hr⟩ := hrel
      by_cases hlt : k < n
      · obtain ⟨ad, A1, n1, c1, x, rfl, hc, hi1, _, hx⟩ := h.at_ hlt
        obtain ⟨ae, B1, m1, d1, y, rfl, hd, hi2, _, hy⟩ := g.at_ hlt
        have hE := fun W (hW : ∃ q, W = w.drewN q) => (laws_eqIntS A1 n1 c1 x _ _ B1 m1 d1 y _ _ W (by obtain ⟨q, rfl⟩ := hW; exact hi1.same (fun _ _ _ => rfl)) (by obtain ⟨q, rfl⟩ := hW; exact hi2.same (fun _ _ _ => rfl)))
        by_cases hxy : x = y
        · subst hxy
          rw [decide_eq_true rfl] at hE
          have HE := hide hE
          clear hE
          go_wp2_with fail
          go_quiet ((go_at_call 12; first | exact Calls.quiet_of (HE.out _ ⟨_, rfl⟩) | exact quiet_add (HE.out _ ⟨_, rfl⟩)))
          go_wp2_with fail
          go_roundw
          case rel => exact ⟨k + 1, _, by omega, by go_num, rfl, take_snoc2 hr.out hx.out hy.out⟩
          case measure => simp [intOf]; omega
        · have hF : Hid (¬ xs = ys) := fun e => by
            have h1 := hx.out
            rw [e, hy.out] at h1
            exact hxy (by injection h1 with h1; exact h1.symm)
          rw [decide_eq_false hxy] at hE
          have HE := hide hE
          clear hE hxy
          go_wp2_with fail
          go_quiet ((go_at_call 12; first | exact Calls.quiet_of (HE.out _ ⟨_, rfl⟩) | exact quiet_add (HE.out _ ⟨_, rfl⟩)))
          go_wp2_with fail
          go_ret
          exact ⟨ret_bool (by simpa using hF.out), _, World.drewN_drewN _ _ _⟩
      · obtain rfl : k = n := by omega
        go_wp2_with fail
        go_ret
        refine ⟨ret_bool ?_, _, rfl⟩
        have h1 := hr.out
        have h2 := h.len
        have h3 := g.len
        rw [List.take_of_length_le (by omega), List.take_of_length_le (by omega)] at h1
        simpa using h1
  · have hne : ((n : Int) != (m : Int)) = true := by simpa using (by omega : ¬ (n : Int) = m)
    have hF : Hid (¬ xs = ys) := fun e => hnm (by rw [← h.len, ← g.len, e])
    clear hnm
    go_enter Tryz.func11, Tryz.ntmps11
    go_wp2_with fail
    go_ret
    exact ⟨ret_bool (by simpa using hF.out), 0, rfl⟩

theorem info_ints : (Tryz.prog.info? 22).map (fun i => (i.zero, i.size, i.bytes)) = some (some (.slice none 0 0), 1, 24) := by kernel_rfl

end Go.Proofs.YtkaepjigmcielaaGreatDoor
/- Tableaus and pairs of them: the statements' helpers, TableauOk and PairOk of both texts. -/
namespace Go.Proofs.YtkaepjigmcielaaGreatDoor
open Go.RowKit
set_option linter.unusedSimpArgs false
set_option linter.unusedVariables false
set_option maxRecDepth 20000

/-- A block of cells, whole. -/
structure BlkN (w : World) (g : Nat) (vs : Array Value) : Prop where
  h : ∃ T, w.heap[g]? = some (.cells vs T (0, 0))
section
variable {w w' : World} {g lo hi : Nat} {vs : Array Value}
theorem BlkN.lt (h : BlkN w g vs) : g < w.heap.size := by
  obtain ⟨T, h⟩ := h.h
  exact (Array.getElem?_eq_some_iff.1 h).1
theorem BlkN.c (h : BlkN w g vs) (i : Nat) {v : Value} (hv : vs[i]? = some v) : w.cell? ⟨g, i, none⟩ = some v := by
  obtain ⟨T, h⟩ := h.h
  rw [cell_of_row w g i vs T (0, 0) h]; exact hv
theorem BlkN.f (h : BlkN w g vs) (i : Nat) : w.frozen? ⟨g, i, none⟩ = false := by
  obtain ⟨T, h⟩ := h.h
  exact frozen_of_row w g i vs T h
theorem BlkN.new (w : World) (vs : Array Value) (T : TypeId) : BlkN (w.alloc (.cells vs T)) w.heap.size vs := ⟨T, heap_alloc_new w _⟩
theorem BlkN.same (h : BlkN w g vs) (hs : w'.heap[g]? = w.heap[g]?) : BlkN w' g vs := by
  obtain ⟨T, h⟩ := h.h
  exact ⟨T, hs.trans h⟩
theorem BlkN.below (h : BlkN w g vs) (hb : Below w.heap.size w w') : BlkN w' g vs := h.same (hb.block g h.lt)
theorem BlkN.drew (h : BlkN w g vs) : BlkN w.drew g vs := h.same rfl
theorem BlkN.touch (h : BlkN w g vs) (ht : Touch lo hi w w') (hd : g < lo ∨ hi ≤ g) : BlkN w' g vs := h.same (ht.block g h.lt hd)
theorem BlkN.alloc (h : BlkN w g vs) (o : Obj) : BlkN (w.alloc o) g vs := h.same (Below.heap_alloc _ _ _ h.lt)
theorem BlkN.set (h : BlkN w g vs) (i : Nat) (x : Value) : BlkN (w.setCell ⟨g, i, none⟩ x) g (vs.setIfInBounds i x) := by
  obtain ⟨T, hh⟩ := h.h
  exact ⟨T, by simp [World.setCell, Array.getElem?_modify, hh]⟩
theorem BlkN.far (h : BlkN w g vs) {b i : Nat} (hne : g ≠ b) (x : Value) : BlkN (w.setCell ⟨b, i, none⟩ x) g vs := h.same (Below.heap_setCell _ ⟨b, i, none⟩ _ g hne)
end

end Go.Proofs.YtkaepjigmcielaaGreatDoor
