/- Rows of monomials under construction: elements with powers of their own; copies of powers. -/
import Derived.Test.YtjamdnbabfodkaaSoA
import Derived.Test.YtjamdnbabfodkaaRowsW
import Derived.Test.YtjamdnbabfodkaaMono2
namespace Go.Proofs.Ytjamdnbabfodkaa
open Go.RowKit
set_option linter.unusedSimpArgs false
set_option linter.unusedVariables false
set_option maxRecDepth 20000

theorem Ints.src {w : World} {lo hi : Nat} {A : Option Addr} {n c : Nat} {xs : List Int} (h : Ints w lo hi A n c xs) : ∀ ad, A = some ad → ∀ j u, (xs.map (Value.int .i64))[j]? = some u → w.cell? (ad.add j) = some u := by
  intro ad e j u hu
  rw [List.getElem?_map] at hu
  cases hx : xs[j]? with
  | none => rw [hx] at hu; cases hu
  | some x =>
    rw [hx] at hu
    injection hu with hu
    subst hu
    have hn : 0 < n := by
      have := (List.getElem?_eq_some_iff.1 hx).1
      have := h.len
      omega
    obtain ⟨ad', e', _, _, hc⟩ := h.cells hn
    obtain rfl : ad = ad' := by rw [e] at e'; injection e'
    exact hc j x hx

set_option maxHeartbeats 1000000 in
theorem slices_Clone (A : Option Addr) (n c : Nat) (xs : List Int) (lo hi : Nat) (w : World) (h : Ints w lo hi A n c xs) (hh : hi ≤ w.heap.size) (hn : n ≤ 1048576) :
    Calls Try.prog 80 #[.slice A n c] w fun e w' => ∃ A' c', e = .returned (.slice A' n c') ∧ OwnI w' w.heap.size w'.heap.size A' n c' xs ∧ Below w.heap.size w w' := by
  obtain ⟨i0, hi0, hz0, hz1, hz2⟩ := info_parts info_int
  have heq := fun W : World => Lib.run_eql_slice_nil (P := Try.prog) W 22 3 A n c 0 0 Try.underlying22
  cases A with
  | none =>
    have hn0 : n = 0 := by
      rcases Nat.eq_zero_or_pos n with h0 | h0
      · exact h0
      · obtain ⟨ad, e, _⟩ := h.cells h0
        cases e
    subst hn0
    have hms : xs = [] := List.eq_nil_of_length_eq_zero h.len
    go_enter Try.func80, Try.ntmps80
    go_wp2_with fail
    go_ret
    subst hms
    exact ⟨_, _, rfl, OwnI.nil_ _ _ _, Below.refl _ _⟩
  | some ad =>
    have hown : (w.alloc (.cells #[] 3)).ownsRow w.heap.size 3 1 (.slice (some ⟨w.heap.size, 0, none⟩) 0 0) 0 [] := by
      simpa using World.ownsRow_lit (size := 1) (e := 3) w #[] 0 (Nat.le_refl _) (by unfold maxLen; omega) rfl
    have h2 := hide ((h.below (below_alloc w (.cells #[] 3)) hh).src)
    have hl := hide h.len
    have hr := hide h.rng
    go_enter Try.func80, Try.ntmps80
    go_wp2_with (at_builtin; refine wpl_app rfl (.tmp 5) (.tmp 6) 22 rfl _ w.heap.size 3 i0 (.int .i64 0) 1 8 Try.underlying22 hi0 hz0 hz1 hz2 rfl (by omega) (some ⟨w.heap.size, 0, none⟩) 0 0 [] rfl hown (some ad) n c (xs.map (Value.int .i64)) rfl (by simp [hl.out]) (fun ad' e => h2.out ad' e) (fun e => by cases e) (by intro u hu; obtain ⟨x, _, rfl⟩ := List.mem_map.1 hu; rfl) (by omega) (by omega) (by simp) ?_; intro A2 c2 w2 happ)
    have e : 0 + n = n := by omega
    rw [e] at happ
    have h3 := happ.1
    rw [List.nil_append] at h3
    have hb : Below w.heap.size w w2 := happ.below (below_alloc w _) (by simp) (by intro ad e; cases e; exact Nat.le_refl _)
    clear happ
    go_wp2_with fail
    go_ret
    exact ⟨_, _, rfl, ⟨h3, fun ad e => (owns_lt h3 ad e).2, hr.out⟩, hb⟩

/-- a row of the call's own under construction; its elements' powers can be read, in no block of the row -/
structure LstE (w : World) (lo hi : Nat) (A : Option Addr) (n c : Nat) (es : List El) : Prop where
  own : w.ownsRow lo 53 2 (.slice A n c) n (es.flatMap El.cells)
  lt : ∀ ad, A = some ad → ad.block < hi
  len : es.length = n
  row : ∀ e ∈ es, R64 e.x ∧ ∃ l h, lo ≤ l ∧ h ≤ hi ∧ Ints w l h e.B e.m e.d e.xs ∧ ∀ ad, A = some ad → h ≤ ad.block ∨ ad.block < l
section
variable {w w' : World} {lo hi : Nat} {A : Option Addr} {n c : Nat} {es : List El}
theorem LstE.capb (h : LstE w lo hi A n c es) : n ≤ c ∧ c ≤ 9223372036854775807 := by
  rcases h.own.2 with ⟨e, rfl⟩ | ⟨g, cap, cur, e, _, _, h1, h2, _⟩
  · injection e; omega
  · injection e with _ _ e3; unfold maxLen at h2; omega
theorem LstE.nil_cap (h : LstE w lo hi A n c es) : A = none → n = 0 ∧ c = 0 := by
  rintro rfl
  rcases h.own.2 with ⟨e, e2⟩ | ⟨g, cap, cur, e, _⟩
  · injection e with _ _ e3
    exact ⟨e2, e3⟩
  · injection e with e
    cases e
theorem LstE.form (h : LstE w lo hi A n c es) (hn : 0 < n) : ∃ g, A = some ⟨g, 0, none⟩ ∧ lo ≤ g ∧ g < hi ∧ g < w.heap.size := by
  rcases h.own.2 with ⟨_, e⟩ | ⟨g, _, _, e, h1, h2, _⟩
  · omega
  · injection e with e
    exact ⟨g, e, h1, h.lt _ e, (Array.getElem?_eq_some_iff.1 h2).1⟩
theorem LstE.below (h : LstE w lo hi A n c es) {B : Nat} (hb : Below B w w') (hB : hi ≤ B) : LstE w' lo hi A n c es :=
  ⟨owns_below h.own hb fun ad e => by have := h.lt ad e; omega, h.lt, h.len, fun e he => by
    obtain ⟨r, l, q, e1, e2, e3, e4⟩ := h.row e he
    exact ⟨r, l, q, e1, e2, e3.same (.of_below hb (by omega)), e4⟩⟩
theorem LstE.wide (h : LstE w lo hi A n c es) {hi2 : Nat} (h2 : hi ≤ hi2) : LstE w lo hi2 A n c es :=
  ⟨h.own, fun ad e => by have := h.lt ad e; omega, h.len, fun e he => by
    obtain ⟨r, l, q, e1, e2, e3, e4⟩ := h.row e he
    exact ⟨r, l, q, e1, by omega, e3, e4⟩⟩
theorem LstE.empty (w : World) (lo : Nat) (h : lo ≤ w.heap.size) : LstE (w.alloc (.cells #[] 53)) lo (w.heap.size + 1) (some ⟨w.heap.size, 0, none⟩) 0 0 [] :=
  ⟨by simpa using World.ownsRow_lit (size := 2) (e := 53) w #[] 0 h (by unfold maxLen; omega) (by simp), fun ad e => by injection e with e; subst e; exact Nat.lt_succ_self _, rfl, by simp⟩
theorem LstE.keep (h : LstE w lo hi A n c es) (hhi : hi ≤ w.heap.size) {A' : Option Addr} {m c' : Nat} {xs : List Value} (hap : Appended w lo 53 2 A n c A' m c' xs w') :
    ∀ (l q : Nat), q ≤ w.heap.size → (∀ ad, A = some ad → q ≤ ad.block ∨ ad.block < l) → Same l q w w' ∧ ∀ ad, A' = some ad → q ≤ ad.block ∨ ad.block < l := by
  obtain ⟨h1, h2, h3⟩ := hap
  intro l q hw hA
  refine ⟨fun k hk1 hk2 => h2.block k (by omega) fun e => ?_, fun ad e => ?_⟩
  · obtain ⟨ad, e1, e2⟩ := ownBlock_eq.1 e.symm
    have := hA ad e1
    omega
  · rcases h3 with h3 | h3
    · exact hA ad (h3 ad e)
    · exact .inl (by have := h3 ad e; omega)
/-- elements appended whose powers were built behind all that there was -/
theorem LstE.cat (h : LstE w lo hi A n c es) {l q : Nat} {fs : List El} (hf : ∀ e ∈ fs, R64 e.x ∧ Ints w l q e.B e.m e.d e.xs) (hl : hi ≤ l) (hq : q ≤ w.heap.size) (hlo : lo ≤ hi) (hhi : hi ≤ w.heap.size) {A' : Option Addr} {c' : Nat}
    (hap : Appended w lo 53 2 A n c A' (n + fs.length) c' (es.flatMap El.cells ++ fs.flatMap El.cells) w') : LstE w' lo w'.heap.size A' (n + fs.length) c' (es ++ fs) := by
  have kp := h.keep hhi hap
  obtain ⟨h1, h2, h3⟩ := hap
  have hsz := h2.size
  refine ⟨by rw [List.flatMap_append]; exact h1, fun ad e => (owns_lt h1 ad e).2, by simp [h.len], fun e he => ?_⟩
  rcases List.mem_append.1 he with he | he
  · obtain ⟨r, l1, q1, e1, e2, e3, e4⟩ := h.row e he
    have kk := kp l1 q1 (by omega) e4
    exact ⟨r, l1, q1, e1, by omega, e3.same kk.1, kk.2⟩
  · obtain ⟨r, hI⟩ := hf e he
    have kk := kp l q hq (fun ad e => .inr (by have := h.lt ad e; omega))
    exact ⟨r, l, q, by omega, by omega, hI.same kk.1, kk.2⟩
theorem LstE.push (h : LstE w lo hi A n c es) {l q : Nat} {e : El} (hr : R64 e.x) (hI : Ints w l q e.B e.m e.d e.xs) (hl : hi ≤ l) (hq : q ≤ w.heap.size) (hlo : lo ≤ hi) (hhi : hi ≤ w.heap.size) {A' : Option Addr} {c' : Nat}
    (hap : Appended w lo 53 2 A n c A' (n + 1) c' (es.flatMap El.cells ++ e.cells) w') : LstE w' lo w'.heap.size A' (n + 1) c' (es ++ [e]) := by
  refine h.cat (fs := [e]) (l := l) (q := q) (fun e' he => ?_) hl hq hlo hhi (by simpa using hap)
  obtain rfl : e' = e := by simpa using he
  exact ⟨hr, hI⟩
theorem LstE.mons (h : LstE w lo hi A n c es) : Mons w lo hi A n c (es.map El.mono) := by
  have hc := h.capb
  refine ⟨by simpa using h.len, hc.1, hc.2, fun hn => ?_⟩
  obtain ⟨g, rfl, h1, h2, _⟩ := h.form hn
  refine ⟨_, rfl, h1, h2, fun j m hm => ?_⟩
  rw [List.getElem?_map] at hm
  cases he : es[j]? with
  | none => rw [he] at hm; cases hm
  | some e =>
    rw [he] at hm
    injection hm with hm
    subst hm
    have hj := (List.getElem?_eq_some_iff.1 he).1
    have hl := h.len
    obtain ⟨c1, c2⟩ := elc_at es j e he
    obtain ⟨r, l, q, e1, e2, e3, _⟩ := h.row e (List.mem_of_getElem? he)
    have k1 := (h.own.cellAt (j * 2) (by omega)).trans c1
    have k2 := (h.own.cellAt (j * 2 + 1) (by omega)).trans c2
    refine ⟨by show w.cell? _ = some (.int .i64 e.x); simpa [Addr.add_lit] using k1, r, e.B, e.m, e.d, ?_, e3.wide e1 e2⟩
    rw [Addr.add_lit]
    simpa using k2
/-- as the sort sees it -/
theorem LstE.sort {g : Nat} (h : LstE w lo hi (some ⟨g, 0, none⟩) n c es) (hh : hi ≤ w.heap.size) : SortC w w lo g n c es :=
  ⟨h.own, h.len, fun e he => by
    obtain ⟨r, l, q, e1, e2, e3, e4⟩ := h.row e he
    exact ⟨⟨l, q, e3, e4 _ rfl, by omega⟩, r⟩, .refl _ _ _⟩
end
/-- elements behind a slice that can be read -/
theorem Mons.els {w : World} {lo hi : Nat} {A : Option Addr} {n c : Nat} {ms : List Mono} (h : Mons w lo hi A n c ms) : ∃ es : List El, es.map El.mono = ms ∧ (∀ e ∈ es, R64 e.x ∧ Ints w lo hi e.B e.m e.d e.xs) ∧ ∀ ad, A = some ad → ∀ j u, (es.flatMap El.cells)[j]? = some u → w.cell? (ad.add j) = some u := by
  rcases Nat.eq_zero_or_pos n with h0 | h0
  · have hms : ms = [] := List.eq_nil_of_length_eq_zero (by rw [h.len, h0])
    exact ⟨[], by simp [hms], by simp, by simp⟩
  · obtain ⟨ad, rfl, h1, h2, hc⟩ := h.cells h0
    have key : ∀ (k : Nat) (r : List Mono), ms.drop k = r → ∃ es : List El, es.map El.mono = r ∧ (∀ e ∈ es, R64 e.x ∧ Ints w lo hi e.B e.m e.d e.xs) ∧ ∀ j e, es[j]? = some e → w.cell? (ad.add ((k + j) * 2)) = some (.int .i64 e.x) ∧ w.cell? ⟨(ad.add ((k + j) * 2)).block, (ad.add ((k + j) * 2)).off + 1, none⟩ = some (.slice e.B e.m e.d) := by
      intro k r
      induction r generalizing k with
      | nil => exact fun _ => ⟨[], rfl, by simp, by simp⟩
      | cons m r ih =>
        intro hd
        have hm : ms[k]? = some m := by
          have := congrArg List.head? hd
          rw [List.head?_drop] at this
          simpa using this
        have hd2 : ms.drop (k + 1) = r := by
          have := congrArg List.tail hd
          rw [List.tail_drop] at this
          simpa using this
        obtain ⟨es, e1, e2, e3⟩ := ih (k + 1) hd2
        obtain ⟨c1, r1, B, kk, d, c2, hI⟩ := hc k m hm
        refine ⟨⟨m.1, B, kk, d, m.2⟩ :: es, by rw [List.map_cons, e1]; rfl, fun e he => ?_, fun j e he => ?_⟩
        · rcases List.mem_cons.1 he with rfl | he
          · exact ⟨r1, hI⟩
          · exact e2 e he
        · cases j with
          | zero =>
            simp at he
            subst he
            exact ⟨c1, c2⟩
          | succ j =>
            have := e3 j e (by simpa using he)
            rw [show k + 1 + j = k + (j + 1) by omega] at this
            exact this
    obtain ⟨es, e1, e2, e3⟩ := key 0 ms (by simp)
    refine ⟨es, e1, e2, fun ad' e j u hu => ?_⟩
    injection e with e
    subst e
    have hj : j < es.length * 2 := by
      have := (List.getElem?_eq_some_iff.1 hu).1
      rwa [elc_len] at this
    obtain ⟨e, he⟩ : ∃ e, es[j / 2]? = some e := ⟨_, List.getElem?_eq_getElem (by omega)⟩
    obtain ⟨c1, c2⟩ := elc_at es (j / 2) e he
    obtain ⟨k1, k2⟩ := e3 (j / 2) e he
    rw [Nat.zero_add] at k1 k2
    rcases Nat.mod_two_eq_zero_or_one j with h0 | h0
    · have e4 : j / 2 * 2 = j := by omega
      rw [e4] at c1 k1
      rw [c1] at hu
      injection hu with hu
      rw [← hu]; exact k1
    · have e4 : j / 2 * 2 + 1 = j := by omega
      rw [e4] at c2
      rw [c2] at hu
      injection hu with hu
      rw [← hu]
      have e5 : (⟨(ad.add (j / 2 * 2)).block, (ad.add (j / 2 * 2)).off + 1, none⟩ : Addr) = ad.add j := by
        unfold Addr.add
        have hj0 : j ≠ 0 := by omega
        by_cases hk : j / 2 * 2 = 0
        · have hj1 : j = 1 := by omega
          subst hj1
          simp
        · simp [hk, hj0]
          omega
      rw [← e5]; exact k2
end Go.Proofs.Ytjamdnbabfodkaa
