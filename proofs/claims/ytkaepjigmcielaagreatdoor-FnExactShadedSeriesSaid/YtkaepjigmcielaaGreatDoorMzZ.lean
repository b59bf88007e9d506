/- Rows of tableaus, colours, and whether a field, colours and a path are fine. -/
import Derived.Test.YtkaepjigmcielaaGreatDoorMzX
import Derived.Test.YtkaepjigmcielaaGreatDoorMzY
import Derived.Test.YtkaepjigmcielaaGreatDoorMzF
import Derived.Test.YtkaepjigmcielaaGreatDoorMzO
import Derived.Test.YtkaepjigmcielaaGreatDoorJetA
namespace Go.Proofs.YtkaepjigmcielaaGreatDoor
open Go.RowKit
set_option linter.unusedSimpArgs false
set_option linter.unusedVariables false
set_option maxRecDepth 20000

set_option maxHeartbeats 1000000 in
theorem spec_l8FineJ (o : Int) (P : Option Addr) (k e : Nat) (ps : List (List Mono)) (X : Option Addr) (x f : Nat) (xss : List (List Int)) (lo hi : Nat) (w : World) (hp : Mons2 w lo hi P k e ps) (hx : Ints2 w lo hi X x f xss) (hh : hi ≤ w.heap.size) (hlen : ∀ p ∈ ps, ∀ m ∈ p, m.2.length ≤ 1048576) :
    Calls Tryz.prog 20 #[.agg #[.int .i64 o, .slice P k e], .slice X x f] w fun r w' => r = .returned (.bool (fieldF o ps && pathOkF xss o)) ∧ Below w.heap.size w w' := by
  have xcp := hx.cap
  have xmx := hx.max
  have B0 := below_alloc w (.cells #[.int .i64 o, .slice P k e] 33)
  have j1 := BlkN.new w #[.int .i64 o, .slice P k e] 33
  go_enter Tryz.func20, Tryz.ntmps20
  go_wp2_with fail
  generalize w.alloc (.cells #[.int .i64 o, .slice P k e] 33) = W at B0 j1 ⊢
  have s0 := B0.size
  refine (spec_FieldOk o P k e ps lo hi W (hp.below B0 hh) (by omega) hlen).mono ?_
  rintro r w1 ⟨rfl, b1⟩
  have B1 := B0.trans (b1.mono s0)
  have s1 := B1.size
  have j2 := j1.below b1
  clear b1 B0 j1
  have p1 := j2.c 0 rfl
  cases ht : fieldF o ps with
  | false =>
    have hG : Hid ((fieldF o ps && pathOkF xss o) = false) := by show _ = _; rw [ht]; rfl
    clear ht
    go_wp2_with fail
    go_ret
    exact ⟨ret_bool hG.out.symm, B1⟩
  | true =>
    have hG : Hid ((fieldF o ps && pathOkF xss o) = pathOkF xss o) := by show _ = _; rw [ht]; rfl
    clear ht
    go_wp2_with fail
    refine (spec_PathOk X x f xss lo hi o w1 (hx.below B1 hh)).mono ?_
    rintro r w2 ⟨rfl, rfl⟩
    go_wp2_with fail
    go_ret
    exact ⟨ret_bool hG.out.symm, B1⟩

set_option maxHeartbeats 1000000 in
theorem impl_fieldPathOkJ (o : Int) (P : Option Addr) (k e : Nat) (ps : List (List Mono)) (X : Option Addr) (x f : Nat) (xss : List (List Int)) (lo hi : Nat) (w : World) (hp : Mons2 w lo hi P k e ps) (hx : Ints2 w lo hi X x f xss) (hh : hi ≤ w.heap.size) (hlen : ∀ p ∈ ps, ∀ m ∈ p, m.2.length ≤ 1048576) :
    Calls Tryz.prog 58 #[.agg #[.int .i64 o, .slice P k e], .slice X x f] w fun r w' => r = .returned (.bool (fieldF o ps && pathOkF xss o)) ∧ Below w.heap.size w w' := by
  have xcp := hx.cap
  have xmx := hx.max
  have B0 := below_alloc w (.cells #[.int .i64 o, .slice P k e] 33)
  have j1 := BlkN.new w #[.int .i64 o, .slice P k e] 33
  go_enter Tryz.func58, Tryz.ntmps58
  go_wp2_with fail
  generalize w.alloc (.cells #[.int .i64 o, .slice P k e] 33) = W at B0 j1 ⊢
  have s0 := B0.size
  refine (impl_FieldOk o P k e ps lo hi W (hp.below B0 hh) (by omega) hlen).mono ?_
  rintro r w1 ⟨rfl, b1⟩
  have B1 := B0.trans (b1.mono s0)
  have s1 := B1.size
  have j2 := j1.below b1
  clear b1 B0 j1
  have p1 := j2.c 0 rfl
  cases ht : fieldF o ps with
  | false =>
    have hG : Hid ((fieldF o ps && pathOkF xss o) = false) := by show _ = _; rw [ht]; rfl
    clear ht
    go_wp2_with fail
    go_ret
    exact ⟨ret_bool hG.out.symm, B1⟩
  | true =>
    have hG : Hid ((fieldF o ps && pathOkF xss o) = pathOkF xss o) := by show _ = _; rw [ht]; rfl
    clear ht
    go_wp2_with fail
    refine (impl_PathOk X x f xss lo hi o w1 (hx.below B1 hh)).mono ?_
    rintro r w2 ⟨rfl, rfl⟩
    go_wp2_with fail
    go_ret
    exact ⟨ret_bool hG.out.symm, B1⟩


def colGo : List Int → Bool
  | [] => true
  | c :: r => if c = 0 ∨ c = 1 then colGo r else false
theorem colGo_step {cs : List Int} {k : Nat} {c : Int} (hd : cs.drop k = c :: cs.drop (k + 1)) (h : c = 0 ∨ c = 1) : colGo (cs.drop k) = colGo (cs.drop (k + 1)) := by rw [hd, colGo, if_pos h]
theorem colGo_no {cs : List Int} {k : Nat} {c : Int} (hd : cs.drop k = c :: cs.drop (k + 1)) (h : ¬ (c = 0 ∨ c = 1)) : colGo (cs.drop k) = false := by rw [hd, colGo, if_neg h]
theorem colGo_mem : ∀ (cs : List Int), colGo cs = true → ∀ c ∈ cs, c = 0 ∨ c = 1
  | [], _, _, h => absurd h (by simp)
  | c :: r, h, d, hd => by
    rw [colGo] at h
    split at h
    · rcases List.mem_cons.1 hd with rfl | hd
      · assumption
      · exact colGo_mem r h d hd
    · cases h

set_option maxRecDepth 100000 in
set_option maxHeartbeats 1000000 in
theorem spec_l10Colours (o : Int) (P : Option Addr) (k e : Nat) (C : Option Addr) (n c : Nat) (cs : List Int) (lo hi : Nat) (w : World) (hc : Ints w lo hi C n c cs) (hh : hi ≤ w.heap.size) :
    Calls Tryz.prog 21 #[.agg #[.int .i64 o, .slice P k e], .slice C n c] w fun r w' => r = .returned (.bool (colGo cs && decide ((n : Int) = o))) ∧ Below w.heap.size w w' := by
  have ccp := hc.cap
  have cmx := hc.max
  have B0 := hide (below_alloc w (.cells #[.int .i64 o, .slice P k e] 33))
  have j1 := hide (BlkN.new w #[.int .i64 o, .slice P k e] 33)
  have HC := hide (hc.below B0.out hh)
  have hcl := hide hc.len
  clear hc
  go_enter Tryz.func21, Tryz.ntmps21
  go_wp2_with fail
  generalize w.alloc (.cells #[.int .i64 o, .slice P k e] 33) = W at B0 j1 HC ⊢
  go_loop [5] (fun i => ∃ (j : Nat), j ≤ n ∧ i = .int .i64 j ∧ Hid (colGo cs = colGo (cs.drop j))) (fun i => n - (intOf i).toNat)
  case atStart => exact ⟨0, by omega, rfl, rfl⟩
  case round =>
    obtain ⟨j, hj, rfl, hG⟩ := hrel
    by_cases hlt : j < n
    · obtain ⟨ad, x, rfl, hcx, hr, hd, _⟩ := HC.out.at_ hlt
      have hI := hide (fun v : World => spec_l1In x 0 1 v)
      by_cases hx : x = 0 ∨ x = 1
      · have hG2 : Hid (colGo cs = colGo (cs.drop (j + 1))) := by show _ = _; rw [hG.out]; exact colGo_step hd.out hx
        have hb : (decide (0 ≤ x) && decide (x ≤ 1)) = true := by rcases hx with rfl | rfl <;> rfl
        rw [hb] at hI
        clear hd hG hr hb hx
        go_wp2_with (go_at_call 48; refine (hI.out _).mono ?_; rintro e w' ⟨rfl, rfl⟩)
        go_round
        case rel => exact ⟨j + 1, by omega, by go_num, hG2.out⟩
        case measure => simp [intOf]; omega
      · have hF : Hid ((colGo cs && decide ((n : Int) = o)) = false) := by show _ = _; rw [hG.out, colGo_no hd.out hx]; rfl
        have hb : (decide (0 ≤ x) && decide (x ≤ 1)) = false := by
          have h1 : ¬ (0 ≤ x ∧ x ≤ 1) := by omega
          simpa using h1
        rw [hb] at hI
        clear hd hG hr hb hx
        go_wp2_with (go_at_call 48; refine (hI.out _).mono ?_; rintro e w' ⟨rfl, rfl⟩)
        go_ret
        exact ⟨ret_bool hF.out.symm, B0.out⟩
    · obtain rfl : n = j := by omega
      have hG2 : Hid ((colGo cs && decide ((n : Int) = o)) = decide ((n : Int) = o)) := by show _ = _; rw [hG.out, List.drop_eq_nil_of_le (Nat.le_of_eq hcl.out), colGo]; rfl
      have p0 := j1.out.c 0 rfl
      clear hG
      go_wp2_with fail
      go_ret
      exact ⟨ret_bool (by rw [hG2.out]; try rfl), B0.out⟩

def colOkF (o : Int) (ps : List (List Mono)) (cs : List Int) (xss : List (List Int)) : Bool := (fieldF o ps && pathOkF xss o) && (decide ((cs.length : Int) = o) && colGo cs)

set_option maxRecDepth 100000 in
set_option maxHeartbeats 1000000 in
theorem impl_coloursOk (o : Int) (P : Option Addr) (k e : Nat) (ps : List (List Mono)) (C : Option Addr) (n c : Nat) (cs : List Int) (X : Option Addr) (x f : Nat) (xss : List (List Int)) (lo hi : Nat) (w : World) (hp : Mons2 w lo hi P k e ps) (hc : Ints w lo hi C n c cs) (hx : Ints2 w lo hi X x f xss) (hh : hi ≤ w.heap.size) (hlen : ∀ p ∈ ps, ∀ m ∈ p, m.2.length ≤ 1048576) :
    Calls Tryz.prog 31 #[.agg #[.int .i64 o, .slice P k e], .slice C n c, .slice X x f] w fun r w' => r = .returned (.bool (colOkF o ps cs xss)) ∧ Below w.heap.size w w' := by
  have ccp := hc.cap
  have cmx := hc.max
  have xcp := hx.cap
  have xmx := hx.max
  have B0 := below_alloc w (.cells #[.int .i64 o, .slice P k e] 33)
  have j1 := BlkN.new w #[.int .i64 o, .slice P k e] 33
  have hcl := hide hc.len
  go_enter Tryz.func31, Tryz.ntmps31
  go_wp2_with fail
  generalize w.alloc (.cells #[.int .i64 o, .slice P k e] 33) = W at B0 j1 ⊢
  have s0 := B0.size
  refine (impl_fieldPathOkJ o P k e ps X x f xss lo hi W (hp.below B0 hh) (hx.below B0 hh) (by omega) hlen).mono ?_
  rintro r w1 ⟨rfl, b1⟩
  have B1 := hide (B0.trans (b1.mono s0))
  have HC := hide (hc.below B1.out hh)
  have s1 := B1.out.size
  have j2 := j1.below b1
  clear b1 B0 j1 hp hx hc
  have p0 := j2.c 0 rfl
  cases ht : (fieldF o ps && pathOkF xss o) with
  | false =>
    have hG : Hid (colOkF o ps cs xss = false) := by show _ = _; unfold colOkF; rw [ht]; rfl
    clear ht
    go_wp2_with fail
    go_ret
    exact ⟨ret_bool hG.out.symm, B1.out⟩
  | true =>
    by_cases hn : (n : Int) = o
    · have hG : Hid (colOkF o ps cs xss = colGo (cs.drop 0)) := by show _ = _; unfold colOkF; rw [ht, hcl.out, decide_eq_true hn]; rfl
      clear ht
      subst hn
      go_wp2_with fail
      clear p0 j2
      go_loop [22] (fun i => ∃ (j : Nat), j ≤ n ∧ i = .int .i64 j ∧ Hid (colOkF (n : Int) ps cs xss = colGo (cs.drop j))) (fun i => n - (intOf i).toNat)
      case atStart => exact ⟨0, by omega, rfl, hG.out⟩
      case round =>
        clear hG
        obtain ⟨j, hj, rfl, hG⟩ := hrel
        by_cases hlt : j < n
        · obtain ⟨ad, y, rfl, hcx, hr, hd, _⟩ := HC.out.at_ hlt
          by_cases hy : y = 0 ∨ y = 1
          · have hG2 : Hid (colOkF (n : Int) ps cs xss = colGo (cs.drop (j + 1))) := by show _ = _; rw [hG.out]; exact colGo_step hd.out hy
            clear hd hG hr
            rcases hy with rfl | rfl
            all_goals
              go_wp2_with fail
              go_round
              case rel => exact ⟨j + 1, by omega, by go_num, hG2.out⟩
              case measure => simp [intOf]; omega
          · have hF : Hid (colOkF (n : Int) ps cs xss = false) := by show _ = _; rw [hG.out, colGo_no hd.out hy]
            have y0 : (y != 0) = true := by simp; omega
            have y1 : (y != 1) = true := by simp; omega
            clear hd hG hr hy
            go_wp2_with fail
            go_ret
            exact ⟨ret_bool hF.out.symm, B1.out⟩
        · obtain rfl : n = j := by omega
          have hG2 : Hid (colOkF (n : Int) ps cs xss = true) := by show _ = _; rw [hG.out, List.drop_eq_nil_of_le (Nat.le_of_eq hcl.out), colGo]
          clear hG
          go_wp2_with fail
          go_ret
          exact ⟨ret_bool hG2.out.symm, B1.out⟩
    · have hG : Hid (colOkF o ps cs xss = false) := by show _ = _; unfold colOkF; rw [ht, hcl.out, decide_eq_false hn]; rfl
      have hne : ((n : Int) != o) = true := by simpa using hn
      clear ht hn
      go_wp2_with fail
      go_ret
      exact ⟨ret_bool hG.out.symm, B1.out⟩

end Go.Proofs.YtkaepjigmcielaaGreatDoor
/- One step's sums: the program's closure. -/
namespace Go.Proofs.YtkaepjigmcielaaGreatDoor
open Go.RowKit
set_option linter.unusedSimpArgs false
set_option linter.unusedVariables false
set_option maxRecDepth 20000

end Go.Proofs.YtkaepjigmcielaaGreatDoor
/- Steps: the tableaus of the coordinates, the stages, and lemmas for the walks. -/
namespace Go.Proofs.YtkaepjigmcielaaGreatDoor
open Go.RowKit
set_option linter.unusedSimpArgs false
set_option linter.unusedVariables false
set_option maxRecDepth 20000

theorem Lst.nil_ {α : Type} (K : Kd α) (T : TypeId) (P : Nat → Prop) (w : World) (lo hi : Nat) : Lst K T P w lo hi none 0 0 [] [] :=
  ⟨World.ownsRow_nil _ _ _ _, fun ad e => (by cases e), rfl, by simp⟩
theorem Lst.far {α : Type} {K : Kd α} {T : TypeId} {P : Nat → Prop} {w : World} {lo hi : Nat} {A : Option Addr} {n c : Nat} {vs : List Value} {xs : List α} (h : Lst K T P w lo hi A n c vs xs) {p : Addr} (hp : p.block < lo) (u : Value) : Lst K T P (w.setCell p u) lo hi A n c vs xs :=
  ⟨owns_setCell h.own (fun ad e => by have := (owns_lt h.own ad e).1; omega) u, h.lt, h.len, fun j x hx hP => by
    obtain ⟨v, l, h', e1, e2, e3, e4, e5⟩ := h.row j x hx hP
    exact ⟨v, l, h', e1, K.same e2 ((Same.refl _ _ _).setCell (.inl (by omega)) u), e3, e4, e5⟩⟩
/-- the tableau of each coordinate -/
def Tabs (w : World) (lo hi g dim S : Nat) (tA tB : Nat → List Int) : Prop := ∀ j, j < dim → ∃ AA cA BB cB,
  w.cell? ⟨g, j * 3, none⟩ = some (.int .i64 (S : Int)) ∧ w.cell? ⟨g, j * 3 + 1, none⟩ = some (.slice AA (S * S) cA) ∧ w.cell? ⟨g, j * 3 + 2, none⟩ = some (.slice BB S cB) ∧
  Ints w lo hi AA (S * S) cA (tA j) ∧ Ints w lo hi BB S cB (tB j) ∧ (0 < S → ∃ gA, AA = some ⟨gA, 0, none⟩)
end Go.Proofs.YtkaepjigmcielaaGreatDoor
/- Steps: the program's walk. -/
namespace Go.Proofs.YtkaepjigmcielaaGreatDoor
open Go.RowKit
set_option linter.unusedSimpArgs false
set_option linter.unusedVariables false
set_option maxRecDepth 20000

/-- the field and the path in the call's own cells -/
structure Env (w wr : World) (o : Int) (P : Option Addr) (dim cP gy cy : Nat) : Prop where
  low : Below w.heap.size w wr
  fld : BlkN wr w.heap.size #[.int .i64 o, .slice P dim cP]
  pth : BlkN wr (w.heap.size + 1) #[.slice (some ⟨gy, 0, none⟩) dim cy]
section
variable {w wr w' : World} {o : Int} {P : Option Addr} {dim cP gy cy : Nat}
theorem Env.below (h : Env w wr o P dim cP gy cy) {B : Nat} (hb : Below B wr w') (hB : w.heap.size + 2 ≤ B) : Env w w' o P dim cP gy cy :=
  ⟨h.low.trans (hb.mono (by omega)), h.fld.same (hb.block _ (by omega)), h.pth.same (hb.block _ (by omega))⟩
theorem Env.drew (h : Env w wr o P dim cP gy cy) : Env w wr.drew o P dim cP gy cy := ⟨h.low.drew, h.fld.drew, h.pth.drew⟩
theorem Env.far (h : Env w wr o P dim cP gy cy) {p : Addr} (hp : w.heap.size + 1 < p.block) (u : Value) : Env w (wr.setCell p u) o P dim cP gy cy :=
  ⟨h.low.setCell (p := p) (by omega) u, h.fld.same (Below.heap_setCell _ _ _ _ (by omega)), h.pth.same (Below.heap_setCell _ _ _ _ (by omega))⟩
theorem Env.size (h : Env w wr o P dim cP gy cy) : w.heap.size + 1 < wr.heap.size := h.pth.lt
end

end Go.Proofs.YtkaepjigmcielaaGreatDoor
/- Paths: own copies, marks. -/
namespace Go.Proofs.YtkaepjigmcielaaGreatDoor
open Go.RowKit
set_option linter.unusedSimpArgs false
set_option linter.unusedVariables false
set_option maxRecDepth 20000

theorem Kd.setCell {α : Type} (K : Kd α) {w : World} {l h : Nat} {v : Value} {x : α} (hr : K.rd w l h v x) {p : Addr} (hp : p.block < l ∨ h ≤ p.block) (u : Value) : K.rd (w.setCell p u) l h v x := K.same hr ((Same.refl _ _ _).setCell hp u)

set_option maxHeartbeats 1000000 in
theorem laws_toIntSSO (A : Option Addr) (n c : Nat) (xss : List (List Int)) (lo hi : Nat) (w : World) (h : Ints2 w lo hi A n c xss) (hh : hi ≤ w.heap.size) (hn : n ≤ 1048576) (hr : ∀ xs ∈ xss, xs.length ≤ 1048576) :
    Calls Tryz.prog 9 #[.slice A n c] w fun e w' => ∃ A' c', e = .returned (.slice A' n c') ∧ Ros kO 22 w' w.heap.size w'.heap.size A' n c' xss ∧ Below w.heap.size w w' := by
  obtain ⟨i0, hi0, hz0, hz1, hz2⟩ := info_parts info_ints
  have hcp := h.cap
  have hm := h.max
  have hl := hide h.len
  have HR := hide hr
  clear hr
  go_enter Tryz.func9, Tryz.ntmps9
  go_wp2_with (at_make; refine wpList_make_full _ rfl _ _ 26 rfl w.heap.size 22 i0 (.slice none 0 0) 1 Tryz.underlying26 hi0 hz0 hz1 .i64 .i64 n n n rfl rfl rfl rfl (by rw [hz2]; omega) (by unfold maxLen; omega) (Nat.le_refl _) ?_; intro w1 hown hg1)
  have hs1 : w.heap.size < w1.heap.size := (hown.lt w.heap.size rfl).2
  have hb1 : Hid (Below w.heap.size w w1) := (Below.refl _ _).grown hg1 (Nat.le_refl _) (by simp)
  obtain ⟨vs0, hvs0⟩ : ∃ vs, w1.ownsRow w.heap.size 22 1 (.slice (some ⟨w.heap.size, 0, none⟩) n n) n vs := ⟨_, hown⟩
  have hO0 : Hid (OutS kO w1 w.heap.size w1.heap.size 22 w.heap.size n n 0 vs0 xss) := ⟨hvs0, hs1, hl.out⟩
  clear hg1 hown hvs0
  go_loopw [4] (fun i wr => ∃ (k : Nat) (vs : List Value), k ≤ n ∧ i = .int .i64 k ∧ Hid (OutS kO wr w.heap.size wr.heap.size 22 w.heap.size n n k vs xss) ∧ Hid (Below w.heap.size w wr)) (fun i _ => n - (intOf i).toNat)
  case atStart => exact ⟨0, _, by omega, rfl, hO0.out, hb1.out⟩
  case round =>
    clear hO0 hb1 hs1
    obtain ⟨k, vs, hk, rfl, hO, hb⟩ := hrel
    have hsz := hb.out.size
    by_cases hlt : k < n
    · obtain ⟨ad, B, m, d, xs, rfl, hc, hi1, _, hx⟩ := (h.below hb.out hh).at_ hlt
      have hml : m ≤ 1048576 := by
        have := HR.out xs (List.mem_of_getElem? hx.out)
        have := hi1.len
        omega
      have hT := hide (laws_toIntS B m d xs lo hi wr hi1 (Nat.le_trans hh hsz) hml)
      have hvl := hO.out.vlen
      clear hi1
      go_wp2_with fail
      refine hT.out.mono ?_
      rintro e w2 ⟨B2, d2, rfl, o2, b2⟩
      have z2 := b2.size
      have hO2 := hO.out.below b2 (Nat.le_refl _)
      obtain ⟨v0, hc2, _, hf2⟩ := hO2.at_ hlt
      have sz : (w2.setCell ⟨w.heap.size, k, none⟩ (.slice B2 m d2)).heap.size = w2.heap.size := by simp [World.setCell]
      have hlo : w.heap.size < wr.heap.size := hO.out.lt
      have hO3 := (hO2.hole (.slice B2 m d2)).fill (l := wr.heap.size) (h' := w2.heap.size) (List.getElem?_set_self (by omega)) hx.out (Kd.setCell kO (⟨B2, m, d2, rfl, o2⟩ : kO.rd w2 wr.heap.size w2.heap.size (.slice B2 m d2) xs) (p := ⟨w.heap.size, k, none⟩) (.inl hlo) _) (Nat.le_refl _) z2
      rw [← sz] at hO3
      have HO := hide hO3
      have HB : Hid (Below w.heap.size w (w2.setCell ⟨w.heap.size, k, none⟩ (.slice B2 m d2))) := (hb.out.trans (b2.mono hsz)).setCell (Nat.le_refl _) _
      clear hO2 hO3 hO hb o2 hx hvl sz
      go_wp2_with fail
      go_roundw
      case rel => exact ⟨k + 1, _, by omega, by go_num, HO.out, HB.out⟩
      case measure => simp [intOf]; omega
    · obtain rfl : k = n := by omega
      go_wp2_with fail
      go_ret
      exact ⟨_, _, rfl, .inr ⟨_, _, rfl, hO.out⟩, hb.out⟩

/-- the rows marked one behind the other -/
def mksS : Int → List (List Int) → List (List Int)
  | _, [] => []
  | k, xs :: r => marks k xs.length :: mksS (k + xs.length) r
def totS : List (List Int) → Nat
  | [] => 0
  | xs :: r => xs.length + totS r
theorem totS_bd {C : Nat} : ∀ (xss : List (List Int)), (∀ xs ∈ xss, xs.length ≤ C) → totS xss ≤ xss.length * C
  | [], _ => by simp [totS]
  | xs :: r, h => by
    have h1 := totS_bd r (fun y hy => h y (List.mem_cons_of_mem _ hy))
    have h2 := h xs (List.mem_cons_self ..)
    simp only [totS, List.length_cons]
    rw [Nat.add_mul, Nat.one_mul]
    omega
theorem mksS_len : ∀ (k : Int) (xss : List (List Int)), (mksS k xss).length = xss.length
  | _, [] => rfl
  | k, xs :: r => by simp [mksS, mksS_len]

set_option maxHeartbeats 1000000 in
theorem laws_markIntSSO (A : Option Addr) (n c : Nat) (xss : List (List Int)) (lo hi : Nat) (k0 : Int) (w : World) (h : Ros kO 22 w lo hi A n c xss) (hh : hi ≤ w.heap.size) (hk0 : 0 ≤ k0) (hk1 : k0 + totS xss ≤ 4611686018427387904) :
    Calls Tryz.prog 16 #[.slice A n c, .int .i64 k0] w fun e w' => e = .returned (.int .i64 (k0 + totS xss)) ∧ Ros kO 22 w' lo hi A n c (mksS k0 xss) ∧ Touch lo hi w w' ∧ w'.heap.size = w.heap.size := by
  have hcb := h.capb
  rcases h with ⟨rfl, rfl, rfl, rfl, hle⟩ | ⟨g, vs, rfl, h⟩
  · go_enter Tryz.func16, Tryz.ntmps16
    go_wp2_with fail
    go_loopw [1, 5] (fun q i wr => q = .int .i64 k0 ∧ i = .int .i64 0 ∧ wr = w) (fun _ _ _ => 0)
    case atStart => exact ⟨rfl, rfl, rfl⟩
    case round =>
      obtain ⟨rfl, rfl, rfl⟩ := hrel
      go_wp2_with fail
      go_ret
      exact ⟨by simp [totS], .inl ⟨rfl, rfl, rfl, rfl, hle⟩, Touch.refl _ _ _, rfl⟩
  · have hvl := h.vlen
    have hxl := h.len
    have hlo := (h.own.lt g rfl).1
    have hst := h.stk
    rw [List.take_of_length_le (by omega), List.take_of_length_le (by omega)] at hst
    have hst0 := hide hst
    have HO := hide h.own
    clear h hst
    go_enter Tryz.func16, Tryz.ntmps16
    go_wp2_with fail
    go_loopw [1, 5] (fun q i wr => ∃ (k m : Nat) (z : Int) (done : List (List Int)), k ≤ n ∧ i = .int .i64 k ∧ q = .int .i64 z ∧ 0 ≤ z ∧ z + totS (xss.drop k) = k0 + totS xss ∧ Hid (Stk kO wr (g + 1) m (vs.take k) done) ∧ Hid (Stk kO wr m hi (vs.drop k) (xss.drop k)) ∧ Hid (done ++ mksS z (xss.drop k) = mksS k0 xss) ∧ Hid (Touch lo hi w wr ∧ wr.heap.size = w.heap.size ∧ wr.ownsRow lo 22 1 (.slice (some ⟨g, 0, none⟩) n c) n vs)) (fun _ i _ => n - (intOf i).toNat)
    case atStart => exact ⟨0, g + 1, k0, [], by omega, rfl, rfl, hk0, by simp, Nat.le_refl _, hst0.out, rfl, Touch.refl _ _ _, rfl, HO.out⟩
    case round =>
      obtain ⟨k, m, z, done, hk, rfl, rfl, hz0, hz1, hD, hR, hE, hT⟩ := hrel
      by_cases hlt : k < n
      · have hR2 := hR.out
        rw [List.drop_eq_getElem_cons (by omega), List.drop_eq_getElem_cons (l := xss) (by omega)] at hR2
        obtain ⟨l, m', h1, h2, h3, ⟨B, mm, d, hv, hB⟩, hR3⟩ := hR2.head
        have hml := hB.len
        have hcc : wr.cell? ⟨g, k, none⟩ = some (.slice B mm d) := by
          rw [hT.out.2.2.cellAt k (by omega), List.getElem?_eq_getElem (by omega), hv]
        have htd : totS (xss.drop k) = mm + totS (xss.drop (k + 1)) := by rw [List.drop_eq_getElem_cons (l := xss) (i := k) (by omega), totS, hml]
        have hgm := hD.out.le
        have hws : hi ≤ wr.heap.size := by rw [hT.out.2.1]; exact hh
        have hMK := hide (laws_markIntS B mm d _ l m' z wr hB hz0 (by omega))
        have hE2 : Hid (done ++ [marks z mm] ++ mksS (z + mm) (xss.drop (k + 1)) = mksS k0 xss) := by
          show _ = _
          rw [← hE.out, List.drop_eq_getElem_cons (l := xss) (i := k) (by omega), mksS, hml]
          simp
        have hT0 := hT
        have hRR := hide hR3
        have hDD := hD
        clear hR2 hR hB hD hE hT hR3
        have hz2 : z + mm ≤ 4611686018427387904 := by omega
        go_wp2_with fail
        refine hMK.out.mono ?_
        rintro e w2 ⟨rfl, o2, t2, e2⟩
        have hD2 := hide ((hDD.out.same (t2.same (by omega) (by omega))).snoc (l := l) (hi := m') (⟨B, mm, d, rfl, o2⟩ : kO.rd w2 l m' (.slice B mm d) (marks z mm)) (by omega) (by omega))
        have hR4 := hide (hRR.out.same (t2.same (by omega) (by omega)))
        have hT2 : Hid (Touch lo hi w w2 ∧ w2.heap.size = w.heap.size ∧ w2.ownsRow lo 22 1 (.slice (some ⟨g, 0, none⟩) n c) n vs) := ⟨hT0.out.1.trans (t2.wide (by omega) (by omega)), by rw [e2]; exact hT0.out.2.1, owns_same hT0.out.2.2 (fun ad e => by injection e with e; subst e; exact t2.block g (hT0.out.2.2.lt g rfl).2 (by omega))⟩
        clear hMK
        go_wp2_with fail
        refine ⟨⟨k + 1, m', z + mm, done ++ [marks z mm], by omega, by go_num, by go_num, by omega, by omega, ?_, hR4.out, hE2.out, hT2.out⟩, ?_⟩
        · show Stk kO w2 (g + 1) m' (vs.take (k + 1)) _
          rw [List.take_add_one, List.getElem?_eq_getElem (by omega), hv]
          exact hD2.out
        · simp [intOf]; omega
      · obtain rfl : k = n := by omega
        have hR2 := hR.out
        have hD2 := hD.out
        have hE2 := hE.out
        rw [List.drop_eq_nil_of_le (by omega), List.drop_eq_nil_of_le (by omega)] at hR2
        rw [List.drop_eq_nil_of_le (by omega), mksS, List.append_nil] at hE2
        rw [List.drop_eq_nil_of_le (by omega), totS] at hz1
        have hml : m ≤ hi := hR2
        rw [List.take_of_length_le (by omega)] at hD2
        have hF : Hid (Ros kO 22 wr lo hi (some ⟨g, 0, none⟩) k c (mksS k0 xss)) := by
          refine .inr ⟨g, vs, rfl, hT.out.2.2, ?_, by rw [mksS_len]; exact hxl⟩
          rw [List.take_of_length_le (by omega), List.take_of_length_le (by rw [mksS_len]; omega), ← hE2]
          exact hD2.wide (Nat.le_refl _) hml
        have hzz : Hid (z = k0 + totS xss) := by show _ = _; omega
        clear hR2 hD2 hE2 hR hD hE
        go_wp2_with fail
        go_ret
        exact ⟨ret_int hzz.out, hF.out, hT.out.1, hT.out.2.1⟩

set_option maxHeartbeats 1000000 in
theorem laws_heldIntSSO (A : Option Addr) (n c : Nat) (xss : List (List Int)) (lo hi : Nat) (k0 : Int) (w : World) (h : Ints2 w lo hi A n c (mksS k0 xss)) (hk0 : 0 ≤ k0) (hk1 : k0 + totS xss ≤ 4611686018427387904) :
    Calls Tryz.prog 17 #[.slice A n c, .int .i64 k0] w fun e w' => e = .returned (.int .i64 (k0 + totS xss)) ∧ w = w' := by
  have hcp := h.cap
  have hmx := h.max
  have hl := h.len
  rw [mksS_len] at hl
  have HH := hide h
  clear h
  go_enter Tryz.func17, Tryz.ntmps17
  go_wp2_with fail
  go_loop [1, 5] (fun q i => ∃ (k : Nat) (z : Int), k ≤ n ∧ i = .int .i64 k ∧ q = .int .i64 z ∧ 0 ≤ z ∧ z + totS (xss.drop k) = k0 + totS xss ∧ Hid (mksS z (xss.drop k) = (mksS k0 xss).drop k)) (fun _ i => n - (intOf i).toNat)
  case atStart => exact ⟨0, k0, by omega, rfl, rfl, hk0, by simp, rfl⟩
  case round =>
    obtain ⟨k, z, hk, rfl, rfl, hz0, hz1, hE⟩ := hrel
    by_cases hlt : k < n
    · obtain ⟨ad, B, m, d, xs, rfl, hc, hi1, hdx, _⟩ := HH.out.at_ hlt
      have hE2 := hE.out
      rw [hdx.out, List.drop_eq_getElem_cons (by omega), mksS] at hE2
      injection hE2 with h1 h2
      have hml := hi1.len
      rw [← h1, marks_len] at hml
      rw [← h1, hml] at hi1
      have htd : totS (xss.drop k) = m + totS (xss.drop (k + 1)) := by rw [List.drop_eq_getElem_cons (l := xss) (i := k) (by omega), totS, hml]
      have HK := hide (laws_heldIntS B m d lo hi z w hi1 hz0 (by omega))
      rw [hml] at h2
      have HE := hide h2
      have hnn : ¬ z + (m : Int) < 0 := by omega
      clear hE hi1 hdx h1 h2
      go_wp2_with (go_at_call 44; refine HK.out.mono ?_; rintro e w2 ⟨rfl, rfl⟩)
      go_round
      case rel => exact ⟨k + 1, z + m, by omega, by go_num, by go_num, by omega, by omega, HE.out⟩
      case measure => simp [intOf]; omega
    · obtain rfl : k = n := by omega
      rw [List.drop_eq_nil_of_le (by omega), totS] at hz1
      have hzz : Hid (z = k0 + totS xss) := by show _ = _; omega
      go_wp2_with fail
      go_ret
      exact ⟨ret_int hzz.out, rfl⟩
end Go.Proofs.YtkaepjigmcielaaGreatDoor
