/- Paths: whether they are well formed; the walks. -/
import Derived.Test.YtkaepjigmcielaaGreatDoorMzC
import Derived.Test.YtkaepjigmcielaaGreatDoorMzE
import Derived.WalkSpells
import Derived.BigRegion
namespace Go.Proofs.YtkaepjigmcielaaGreatDoor
open Go.RowKit
set_option linter.unusedSimpArgs false
set_option linter.unusedVariables false
set_option maxRecDepth 20000

def pathGo (dim : Int) : List (List Int) → Bool
  | [] => true
  | xs :: r => if (decide ((xs.length : Int) = dim) && allNumF xs) = true then pathGo dim r else false
def pathOkF (xss : List (List Int)) (dim : Int) : Bool := (decide (1 ≤ xss.length) && decide (xss.length ≤ 7)) && pathGo dim xss

section
variable {xss : List (List Int)} {dim : Int} {k : Nat} {xs : List Int}
theorem pathGo_step (hd : xss.drop k = xs :: xss.drop (k+1)) (h1 : (xs.length : Int) = dim) (h2 : allNumF xs = true) : pathGo dim (xss.drop k) = pathGo dim (xss.drop (k+1)) := by
  rw [hd, pathGo, if_pos (by rw [decide_eq_true h1, h2]; rfl)]
theorem pathGo_no1 (hd : xss.drop k = xs :: xss.drop (k+1)) (h1 : ¬ (xs.length : Int) = dim) : pathGo dim (xss.drop k) = false := by
  rw [hd, pathGo, if_neg (by rw [decide_eq_false h1]; simp)]
theorem pathGo_no2 (hd : xss.drop k = xs :: xss.drop (k+1)) (h2 : allNumF xs = false) : pathGo dim (xss.drop k) = false := by
  rw [hd, pathGo, if_neg (by rw [h2]; simp)]
end

set_option maxHeartbeats 400000 in
theorem impl_PathOk (A : Option Addr) (n c : Nat) (xss : List (List Int)) (lo hi : Nat) (dim : Int) (w : World) (h : Ints2 w lo hi A n c xss) :
    Calls Tryz.prog 87 #[.slice A n c, .int .i64 dim] w fun e w' => e = .returned (.bool (pathOkF xss dim)) ∧ w = w' := by
  have hcp := h.cap
  have hm := h.max
  by_cases h0 : n = 0
  · have hF : Hid (pathOkF xss dim = false) := by show _ = _; unfold pathOkF; rw [h.len, h0]; rfl
    subst h0
    go_enter Tryz.func87, Tryz.ntmps87
    go_wp2_with fail
    go_ret
    exact ⟨ret_bool hF.out.symm, rfl⟩
  · by_cases h7 : 7 < n
    · have hF : Hid (pathOkF xss dim = false) := by show _ = _; unfold pathOkF; rw [h.len, decide_eq_false (by omega : ¬ n ≤ 7), Bool.and_false]; rfl
      go_enter Tryz.func87, Tryz.ntmps87
      go_wp2_with fail
      go_ret
      exact ⟨ret_bool hF.out.symm, rfl⟩
    · have hF : Hid (pathOkF xss dim = pathGo dim (xss.drop 0)) := by show _ = _; unfold pathOkF; rw [h.len, decide_eq_true (by omega : n ≤ 7), decide_eq_true (by omega : 1 ≤ n)]; rfl
      have h00 : ((n : Int) == 0) = false := by simpa using h0
      have h07 : ¬ (7 < (n : Int)) := by omega
      go_enter Tryz.func87, Tryz.ntmps87
      go_wp2_with fail
      go_loop [6, 17] (fun _ i => ∃ (k : Nat), k ≤ n ∧ i = .int .i64 k ∧ Hid (pathOkF xss dim = pathGo dim (xss.drop k))) (fun _ i => n - (intOf i).toNat)
      case atStart => exact ⟨0, by omega, rfl, hF⟩
      case round =>
        obtain ⟨k, hk, rfl, hr⟩ := hrel
        by_cases hlt : k < n
        · obtain ⟨ad, B, m, d, xs, rfl, hc, hi1, hd, hx⟩ := h.at_ hlt
          have hA := hide (impl_allNumbers B m d xs lo hi w hi1)
          have hml := hide hi1.len
          have hcm := hi1.cap
          have hmm := hi1.max
          by_cases hdim : (m : Int) = dim
          · have hdim2 := hide hdim
            cases hv : allNumF xs with
            | true =>
              rw [hv] at hA
              have hG : Hid (pathOkF xss dim = pathGo dim (xss.drop (k+1))) := hr.out.trans (pathGo_step hd.out (by rw [hml.out]; exact hdim) hv)
              clear hv
              subst hdim
              go_wp2_with fail
              refine hA.out.mono ?_
              rintro e w' ⟨rfl, rfl⟩
              go_wp2_with fail
              go_round
              case rel => exact ⟨k + 1, by omega, by go_num, hG⟩
              case measure => simp [intOf]; omega
            | false =>
              rw [hv] at hA
              have hG : Hid (pathOkF xss dim = false) := hr.out.trans (pathGo_no2 hd.out hv)
              clear hv
              subst hdim
              go_wp2_with fail
              refine hA.out.mono ?_
              rintro e w' ⟨rfl, rfl⟩
              go_wp2_with fail
              go_ret
              exact ⟨ret_bool hG.out.symm, rfl⟩
          · have hG : Hid (pathOkF xss dim = false) := hr.out.trans (pathGo_no1 hd.out (by rw [hml.out]; exact hdim))
            have hne : ((m : Int) != dim) = true := by simpa using hdim
            go_wp2_with fail
            go_ret
            exact ⟨ret_bool hG.out.symm, rfl⟩
        · obtain rfl : k = n := by omega
          have e := h.drop_end
          have hG : Hid (pathOkF xss dim = true) := by show _ = _; rw [hr.out, e.out, pathGo]
          go_wp2_with fail
          go_ret
          exact ⟨ret_bool hG.out.symm, rfl⟩

set_option maxHeartbeats 400000 in
theorem spec_PathOk (A : Option Addr) (n c : Nat) (xss : List (List Int)) (lo hi : Nat) (dim : Int) (w : World) (h : Ints2 w lo hi A n c xss) :
    Calls Tryz.prog 47 #[.slice A n c, .int .i64 dim] w fun e w' => e = .returned (.bool (pathOkF xss dim)) ∧ w = w' := by
  have hcp := h.cap
  have hm := h.max
  have hI := hide (spec_l1In (n : Int) 1 7 w)
  by_cases h17 : 1 ≤ n ∧ n ≤ 7
  · have hF : Hid (pathOkF xss dim = pathGo dim (xss.drop 0)) := by show _ = _; unfold pathOkF; rw [h.len, decide_eq_true h17.1, decide_eq_true h17.2]; rfl
    rw [decide_eq_true (by omega : (1 : Int) ≤ n), decide_eq_true (by omega : (n : Int) ≤ 7)] at hI
    go_enter Tryz.func47, Tryz.ntmps47
    go_wp2_with fail
    refine hI.out.mono ?_
    rintro e w' ⟨rfl, rfl⟩
    go_wp2_with fail
    go_loop [5] (fun i => ∃ (k : Nat), k ≤ n ∧ i = .int .i64 k ∧ Hid (pathOkF xss dim = pathGo dim (xss.drop k))) (fun i => n - (intOf i).toNat)
    case atStart => exact ⟨0, by omega, rfl, hF⟩
    case round =>
      obtain ⟨k, hk, rfl, hr⟩ := hrel
      by_cases hlt : k < n
      · obtain ⟨ad, B, m, d, xs, rfl, hc, hi1, hd, hx⟩ := h.at_ hlt
        have hA := hide (spec_l1All B m d xs lo hi w hi1)
        have hml := hide hi1.len
        have hcm := hi1.cap
        have hmm := hi1.max
        by_cases hdim : (m : Int) = dim
        · cases hv : allNumF xs with
          | true =>
            rw [hv] at hA
            have hG : Hid (pathOkF xss dim = pathGo dim (xss.drop (k+1))) := hr.out.trans (pathGo_step hd.out (by rw [hml.out]; exact hdim) hv)
            clear hv
            subst hdim
            go_wp2_with fail
            refine hA.out.mono ?_
            rintro e w' ⟨rfl, rfl⟩
            go_wp2_with fail
            go_round
            case rel => exact ⟨k + 1, by omega, by go_num, hG⟩
            case measure => simp [intOf]; omega
          | false =>
            rw [hv] at hA
            have hG : Hid (pathOkF xss dim = false) := hr.out.trans (pathGo_no2 hd.out hv)
            clear hv
            subst hdim
            go_wp2_with fail
            refine hA.out.mono ?_
            rintro e w' ⟨rfl, rfl⟩
            go_wp2_with fail
            go_ret
            exact ⟨ret_bool hG.out.symm, rfl⟩
        · have hG : Hid (pathOkF xss dim = false) := hr.out.trans (pathGo_no1 hd.out (by rw [hml.out]; exact hdim))
          have hne : ((m : Int) != dim) = true := by simpa using hdim
          go_wp2_with fail
          go_ret
          exact ⟨ret_bool hG.out.symm, rfl⟩
      · obtain rfl : k = n := by omega
        have e := h.drop_end
        have hG : Hid (pathOkF xss dim = true) := by show _ = _; rw [hr.out, e.out, pathGo]
        go_wp2_with fail
        go_ret
        exact ⟨ret_bool hG.out.symm, rfl⟩
  · have hF : Hid (pathOkF xss dim = false) := by
      show _ = _
      unfold pathOkF
      rw [h.len, show (decide (1 ≤ n) && decide (n ≤ 7)) = false by simp; omega]
      rfl
    rw [show (decide ((1 : Int) ≤ n) && decide ((n : Int) ≤ 7)) = false by simp; omega] at hI
    go_enter Tryz.func47, Tryz.ntmps47
    go_wp2_with fail
    refine hI.out.mono ?_
    rintro e w' ⟨rfl, rfl⟩
    go_wp2_with fail
    go_ret
    exact ⟨ret_bool hF.out.symm, rfl⟩
end Go.Proofs.YtkaepjigmcielaaGreatDoor
/- Polynomials: whether they are well formed; the plain law and small walks. -/
namespace Go.Proofs.YtkaepjigmcielaaGreatDoor
open Go.RowKit
set_option linter.unusedSimpArgs false
set_option linter.unusedVariables false
set_option maxRecDepth 20000

def degGo : Int → List Int → Int
  | s, [] => s
  | s, p :: r => if p < 0 ∨ 5 < p then -1 else degGo (s + p) r
theorem degGo_bd : ∀ (l : List Int) (s : Int), 0 ≤ s → -1 ≤ degGo s l ∧ degGo s l ≤ s + 5 * l.length
  | [], s, h => by unfold degGo; simp; omega
  | p :: r, s, h => by
    rw [degGo]
    split
    · simp only [List.length_cons]; omega
    · have := degGo_bd r (s + p) (by omega)
      simp only [List.length_cons]; omega
def pless : Option (List Int) → List Int → Bool
  | none, _ => true
  | some q, xs => lessF xs q
def monoOk (dim : Int) (prev : Option (List Int)) (m : Mono) : Bool :=
  !(m.1 == 0) && isNumF m.1 && decide ((m.2.length : Int) = dim) && decide (0 ≤ degGo 0 m.2) && decide (degGo 0 m.2 ≤ 5) && pless prev m.2
def polyGo (dim : Int) : Option (List Int) → List Mono → Bool
  | _, [] => true
  | prev, m :: r => if monoOk dim prev m = true then polyGo dim (some m.2) r else false
def polyF (ms : List Mono) (dim : Int) : Bool := (decide (1 ≤ dim) && decide (dim ≤ 6)) && decide (ms.length ≤ 12) && polyGo dim none ms
def fieldGo (dim : Int) : List (List Mono) → Bool
  | [] => true
  | p :: r => if polyF p dim = true then fieldGo dim r else false
def fieldF (dim : Int) (ps : List (List Mono)) : Bool := (decide (1 ≤ dim) && decide (dim ≤ 6)) && decide ((ps.length : Int) = dim) && fieldGo dim ps

theorem impl_isDim (d : Int) (w : World) :
    Calls Tryz.prog 101 #[.int .i64 d] w fun e w' => e = .returned (.bool (decide (1 ≤ d) && decide (d ≤ 6))) ∧ w = w' := by
  by_cases h0 : 1 ≤ d
  · by_cases h1 : d ≤ 6
    · go_enter Tryz.func101, Tryz.ntmps101
      go_wp2_with fail
      go_ret
      exact ⟨by simp [h0, h1], rfl⟩
    · go_enter Tryz.func101, Tryz.ntmps101
      go_wp2_with fail
      go_ret
      exact ⟨by simp [h1], rfl⟩
  · go_enter Tryz.func101, Tryz.ntmps101
    go_wp2_with fail
    go_ret
    exact ⟨ret_bool (by simp; omega), rfl⟩

set_option maxHeartbeats 1000000 in
theorem impl_degree (A : Option Addr) (n c : Nat) (xs : List Int) (lo hi : Nat) (w : World) (h : Ints w lo hi A n c xs) (hn : n ≤ 1048576) :
    Calls Tryz.prog 125 #[.slice A n c] w fun e w' => e = .returned (.int .i64 (degGo 0 xs)) ∧ w = w' := by
  have hcp := h.cap
  have hm := h.max
  go_enter Tryz.func125, Tryz.ntmps125
  go_wp2_with fail
  go_loop [3, 5, 8] (fun s _ i => ∃ (k : Nat) (r : Int), k ≤ n ∧ i = .int .i64 k ∧ s = .int .i64 r ∧ 0 ≤ r ∧ r ≤ 5 * (k : Int) ∧ Hid (degGo 0 xs = degGo r (xs.drop k))) (fun _ _ i => n - (intOf i).toNat)
  case atStart => exact ⟨0, 0, by omega, rfl, rfl, by omega, by omega, rfl⟩
  case round =>
    obtain ⟨k, r, hk, rfl, rfl, hr0, hr1, hr⟩ := hrel
    by_cases hlt : k < n
    · obtain ⟨ad, x, rfl, hc, hxr, hdx, _⟩ := h.at_ hlt
      have hst : Hid (degGo 0 xs = if x < 0 ∨ 5 < x then -1 else degGo (r + x) (xs.drop (k+1))) := by show _ = _; rw [hr.out, hdx.out, degGo]
      obtain ⟨hx1, hx2⟩ := hxr
      by_cases h0 : x < 0
      · have hst2 : Hid (degGo 0 xs = -1) := hst.out.trans (if_pos (.inl h0))
        go_wp2_with fail
        go_ret
        exact ⟨ret_int hst2.out.symm, rfl⟩
      · by_cases h5 : 5 < x
        · have hst2 : Hid (degGo 0 xs = -1) := hst.out.trans (if_pos (.inr h5))
          go_wp2_with fail
          go_ret
          exact ⟨ret_int hst2.out.symm, rfl⟩
        · have hst2 : Hid (degGo 0 xs = degGo (r + x) (xs.drop (k+1))) := hst.out.trans (if_neg (by omega))
          go_wp2_with fail
          go_round
          case rel => exact ⟨k + 1, r + x, by omega, by go_num, rfl, by omega, by omega, hst2⟩
          case measure => simp [intOf]; omega
    · obtain rfl : k = n := by omega
      have e := h.drop_end
      have hst2 : Hid (degGo 0 xs = r) := by show _ = _; rw [hr.out, e.out, degGo]
      go_wp2_with fail
      go_ret
      exact ⟨ret_int hst2.out.symm, rfl⟩
end Go.Proofs.YtkaepjigmcielaaGreatDoor
/- A row of monomials of the call's own while it is put in order: what it holds, exchanges, and the comparing closure. -/
namespace Go.Proofs.YtkaepjigmcielaaGreatDoor
open Go.RowKit
set_option linter.unusedSimpArgs false
set_option linter.unusedVariables false
set_option maxRecDepth 20000

/-- an element of a row of monomials: its number, its slice of powers, and what that reads as -/
structure El where
  x : Int
  B : Option Addr
  m : Nat
  d : Nat
  xs : List Int
def El.cells (e : El) : List Value := [.int .i64 e.x, .slice e.B e.m e.d]
def El.agg (e : El) : Value := .agg #[.int .i64 e.x, .slice e.B e.m e.d]
def El.mono (e : El) : Mono := (e.x, e.xs)
instance : Inhabited El := ⟨⟨0, none, 0, 0, []⟩⟩

theorem elc_at (es : List El) : ∀ (j : Nat) (e : El), es[j]? = some e → (es.flatMap El.cells)[j * 2]? = some (.int .i64 e.x) ∧ (es.flatMap El.cells)[j * 2 + 1]? = some (.slice e.B e.m e.d) := by
  induction es with
  | nil => intro j m h; simp at h
  | cons q r ih =>
    intro j m h
    cases j with
    | zero =>
      simp at h
      subst h
      simp [List.flatMap_cons, El.cells]
    | succ j =>
      have := ih j m (by simpa using h)
      rw [List.flatMap_cons, show (j + 1) * 2 = 2 + j * 2 from by omega, show 2 + j * 2 + 1 = 2 + (j * 2 + 1) from by omega]
      rw [show q.cells = [.int .i64 q.x, .slice q.B q.m q.d] from rfl]
      rw [List.getElem?_append_right (by simp), List.getElem?_append_right (by simp)]
      simpa using this
theorem elc_set (es : List El) : ∀ (j : Nat) (e : El), j < es.length → ((es.flatMap El.cells).set (j * 2) (.int .i64 e.x)).set (j * 2 + 1) (.slice e.B e.m e.d) = (es.set j e).flatMap El.cells := by
  induction es with
  | nil => intro j e h; simp at h
  | cons q r ih =>
    intro j e h
    cases j with
    | zero => simp [List.flatMap_cons, El.cells]
    | succ j =>
      have := ih j e (by simpa using h)
      rw [List.flatMap_cons, List.set_cons_succ, List.flatMap_cons, ← this, show (j + 1) * 2 = (j * 2 + 1) + 1 from by omega]
      simp [El.cells]
/-- the powers of an element can be read, in no cell of the block g -/
def PowR (W : World) (g : Nat) (e : El) : Prop := ∃ l h, Ints W l h e.B e.m e.d e.xs ∧ (h ≤ g ∨ g < l) ∧ h ≤ W.heap.size
theorem PowR.same {W W' : World} {g : Nat} {e : El} (h : PowR W g e) (hs : W.heap.size ≤ W'.heap.size) (hb : ∀ k, k < W.heap.size → k ≠ g → W'.heap[k]? = W.heap[k]?) : PowR W' g e := by
  obtain ⟨l, h, hI, hg, hw⟩ := h
  exact ⟨l, h, hI.same (fun k h1 h2 => hb k (by omega) (by omega)), hg, by omega⟩

/-- the row g of W, while it is put in order: w is the world before -/
structure SortC (w W : World) (lo g n c : Nat) (es : List El) : Prop where
  own : W.ownsRow lo 95 2 (.slice (some ⟨g, 0, none⟩) n c) n (es.flatMap El.cells)
  len : es.length = n
  pow : ∀ e ∈ es, PowR W g e ∧ R64 e.x
  chg : Touch g (g + 1) w W
section
variable {w W W' : World} {lo g n c : Nat} {es : List El}
theorem SortC.glt (h : SortC w W lo g n c es) : g < W.heap.size := (h.own.lt g rfl).2
theorem SortC.below (h : SortC w W lo g n c es) (hb : Below W.heap.size W W') : SortC w W' lo g n c es :=
  ⟨owns_below h.own hb (fun ad e => by injection e with e; subst e; exact h.glt), h.len, fun e he => ⟨(h.pow e he).1.same hb.size (fun k hk _ => hb.block k hk), (h.pow e he).2⟩, h.chg.trans (.of_below hb)⟩
theorem SortC.drew (h : SortC w W lo g n c es) : SortC w W.drew lo g n c es := h.below ((Below.refl _ _).drew)
theorem SortC.capb (h : SortC w W lo g n c es) : n ≤ c ∧ c ≤ 9223372036854775807 := by
  rcases h.own.2 with ⟨e, rfl⟩ | ⟨g', cap, cur, e, _, _, h1, h2, _⟩
  · injection e; omega
  · injection e with _ _ e3; unfold maxLen at h2; omega
theorem SortC.at_ (h : SortC w W lo g n c es) {k : Nat} (hk : k < n) : ∃ e, Hid (es[k]? = some e) ∧ W.cell? ⟨g, k * 2, none⟩ = some (.int .i64 e.x) ∧ W.cell? ⟨g, k * 2 + 1, none⟩ = some (.slice e.B e.m e.d) ∧ W.frozen? ⟨g, k * 2, none⟩ = false ∧ W.frozen? ⟨g, k * 2 + 1, none⟩ = false ∧ Hid (PowR W g e) := by
  have hl := h.len
  have he : es[k]? = some es[k] := List.getElem?_eq_getElem (by omega)
  have hc := elc_at es k _ he
  exact ⟨_, he, (h.own.cellAt (k * 2) (by omega)).trans hc.1, (h.own.cellAt (k * 2 + 1) (by omega)).trans hc.2, h.own.frozenAt _, h.own.frozenAt _, (h.pow _ (List.getElem_mem _)).1⟩
theorem SortC.set (h : SortC w W lo g n c es) {k : Nat} (hk : k < n) (e : El) (he : PowR W g e ∧ R64 e.x) :
    SortC w ((W.setCell ⟨g, k * 2, none⟩ (.int .i64 e.x)).setCell ⟨g, k * 2 + 1, none⟩ (.slice e.B e.m e.d)) lo g n c (es.set k e) := by
  have hl := h.len
  have t1 := h.own.stored (k * 2) (.int .i64 e.x)
  have t2 := t1.1.stored (k * 2 + 1) (.slice e.B e.m e.d)
  rw [elc_set es k e (by omega)] at t2
  have hsz : ((W.setCell ⟨g, k * 2, none⟩ (.int .i64 e.x)).setCell ⟨g, k * 2 + 1, none⟩ (.slice e.B e.m e.d)).heap.size = W.heap.size := by simp [World.setCell]
  have hbl : ∀ q, q ≠ g → ((W.setCell ⟨g, k * 2, none⟩ (.int .i64 e.x)).setCell ⟨g, k * 2 + 1, none⟩ (.slice e.B e.m e.d)).heap[q]? = W.heap[q]? := fun q hq =>
    (Below.heap_setCell _ _ _ _ hq).trans (Below.heap_setCell _ _ _ _ hq)
  refine ⟨t2.1, by simpa using hl, fun e' he' => ?_, (h.chg.setCell (.inl ⟨Nat.le_refl _, Nat.lt_succ_self _⟩) _).setCell (.inl ⟨Nat.le_refl _, Nat.lt_succ_self _⟩) _⟩
  have hp : PowR W g e' ∧ R64 e'.x := by
    rcases List.mem_or_eq_of_mem_set he' with h1 | h1
    · exact h.pow e' h1
    · rw [h1]; exact he
  exact ⟨hp.1.same (by omega) (fun q hq hne => hbl q hne), hp.2⟩
end
theorem SortC.swap {w W : World} {lo g n c : Nat} {es : List El} (h : SortC w W lo g n c es) {i j : Nat} (hi : i < n) (hj : j < n) {a b : El} (ha : es[i]? = some a) (hb : es[j]? = some b) :
    SortC w ((((W.setCell ⟨g, i * 2, none⟩ (.int .i64 b.x)).setCell ⟨g, i * 2 + 1, none⟩ (.slice b.B b.m b.d)).setCell ⟨g, j * 2, none⟩ (.int .i64 a.x)).setCell ⟨g, j * 2 + 1, none⟩ (.slice a.B a.m a.d)) lo g n c ((es.set i b).set j a) := by
  have h1 := h.set hi b (h.pow b (List.mem_of_getElem? hb))
  refine h1.set hj a ?_
  have ha2 := h.pow a (List.mem_of_getElem? ha)
  refine ⟨ha2.1.same (by simp [World.setCell]) (fun q _ hq => ?_), ha2.2⟩
  exact (Below.heap_setCell _ _ _ _ hq).trans (Below.heap_setCell _ _ _ _ hq)
end Go.Proofs.YtkaepjigmcielaaGreatDoor
