/- Fields: own copies, marks. -/
import Derived.Test.YtkaepjigmcielaaGreatDoorMzZ
import Derived.Test.YtkaepjigmcielaaGreatDoorMzE
import Derived.Test.YtkaepjigmcielaaGreatDoorMzC
import Derived.Test.YtkaepjigmcielaaGreatDoorMzO
namespace Go.Proofs.YtkaepjigmcielaaGreatDoor
open Go.RowKit
set_option linter.unusedSimpArgs false
set_option linter.unusedVariables false
set_option maxRecDepth 20000

/-- The call's own slice of monomials, the first k of them laid. -/
structure OutM (w : World) (lo mid g n c k : Nat) (vs pws : List Value) (ms : List Mono) : Prop where
  own : w.ownsRow lo 95 2 (.slice (some ⟨g, 0, none⟩) n c) n vs
  len : ms.length = n
  pair : ∀ j m, j < k → ms[j]? = some m → vs[j * 2]? = some (.int .i64 m.1) ∧ R64 m.1 ∧ vs[j * 2 + 1]? = pws[j]?
  stk : Stk kO w (g + 1) mid pws ((ms.take k).map Prod.snd)
section
variable {w w' : World} {lo mid g n c k : Nat} {vs pws : List Value} {ms : List Mono}
theorem OutM.lt (h : OutM w lo mid g n c k vs pws ms) : g < mid := h.stk.le
theorem OutM.vlen (h : OutM w lo mid g n c k vs pws ms) : vs.length = n * 2 := by simpa using h.own.1
theorem OutM.same (h : OutM w lo mid g n c k vs pws ms) (hs : Same lo mid w w') : OutM w' lo mid g n c k vs pws ms := by
  have h1 := (h.own.lt g rfl).1
  have h2 := h.lt
  exact ⟨owns_same h.own (fun ad e => by injection e with e; subst e; exact hs g h1 h2), h.len, h.pair, h.stk.same (fun q a b => hs q (by omega) b)⟩
theorem OutM.below (h : OutM w lo mid g n c k vs pws ms) {B : Nat} (hb : Below B w w') (hB : mid ≤ B) : OutM w' lo mid g n c k vs pws ms := h.same (.of_below hb hB)
theorem OutM.capb (h : OutM w lo mid g n c k vs pws ms) : n ≤ c ∧ c ≤ 9223372036854775807 := by
  rcases h.own.2 with ⟨e, rfl⟩ | ⟨g', cap, cur, e, _, _, h1, h2, _⟩
  · injection e; omega
  · injection e with _ _ e3; unfold maxLen at h2; omega
/-- one more monomial laid -/
theorem OutM.put (h : OutM w lo mid g n c k vs pws ms) (hk : k < n) {m : Mono} (hm : ms[k]? = some m) (hr : R64 m.1) {B : Option Addr} {mm d l h' : Nat} (hO : OwnI w l h' B mm d m.2) (hl : mid ≤ l) (hl2 : l ≤ h') :
    OutM ((w.setCell ⟨g, k * 2, none⟩ (.int .i64 m.1)).setCell ⟨g, k * 2 + 1, none⟩ (.slice B mm d)) lo h' g n c (k + 1) ((vs.set (k * 2) (.int .i64 m.1)).set (k * 2 + 1) (.slice B mm d)) (pws ++ [.slice B mm d]) ms := by
  have hvl := h.vlen
  have hpl := h.stk.len
  have hml := h.len
  have hgm := h.lt
  simp only [List.length_map, List.length_take] at hpl
  have hsame : ∀ a b, g < a → Same a b w ((w.setCell ⟨g, k * 2, none⟩ (.int .i64 m.1)).setCell ⟨g, k * 2 + 1, none⟩ (.slice B mm d)) := fun a b hg => Same.setCell (p := ⟨g, k * 2 + 1, none⟩) (Same.setCell (p := ⟨g, k * 2, none⟩) (Same.refl _ _ _) (.inl hg) _) (.inl hg) _
  refine ⟨((h.own.stored (k * 2) (.int .i64 m.1)).1.stored (k * 2 + 1) (.slice B mm d)).1, h.len, fun j m' hj hm' => ?_, ?_⟩
  · by_cases e : j = k
    · subst e
      obtain rfl : m = m' := by rw [hm] at hm'; injection hm'
      refine ⟨?_, hr, ?_⟩
      · rw [List.getElem?_set_ne (by omega), List.getElem?_set_self (by omega)]
      · rw [List.getElem?_set_self (by simp; omega), List.getElem?_append_right (by omega)]
        simp [show j - pws.length = 0 by omega]
    · obtain ⟨a, b, e2⟩ := h.pair j m' (by omega) hm'
      refine ⟨?_, b, ?_⟩
      · rw [List.getElem?_set_ne (by omega), List.getElem?_set_ne (by omega)]; exact a
      · rw [List.getElem?_set_ne (by omega), List.getElem?_set_ne (by omega), List.getElem?_append_left (by omega)]; exact e2
  · rw [List.take_add_one, hm, List.map_append]
    exact (h.stk.same (hsame _ _ (Nat.lt_succ_self g))).snoc (⟨B, mm, d, rfl, hO.same (hsame _ _ (by omega))⟩ : kO.rd _ l h' _ _) hl hl2
end
/-- a slice of monomials of the call's own -/
def kM : Kd (List Mono) := ⟨fun w l h v ms => ∃ g n c vs pws, v = .slice (some ⟨g, 0, none⟩) n c ∧ OutM w l h g n c n vs pws ms, fun ⟨g, n, c, vs, pws, e, hI⟩ hs => ⟨g, n, c, vs, pws, e, hI.same hs⟩, fun ⟨_, _, _, _, _, e, _⟩ => by rw [e]; rfl⟩
theorem OutM.mons {w : World} {lo hi g n c : Nat} {vs pws : List Value} {ms : List Mono} (h : OutM w lo hi g n c n vs pws ms) : Mons w lo hi (some ⟨g, 0, none⟩) n c ms := by
  have hl := h.len
  have hc := h.capb
  refine ⟨hl, hc.1, hc.2, fun hn => ⟨_, rfl, (h.own.lt g rfl).1, h.lt, fun j m hm => ?_⟩⟩
  have hj := (List.getElem?_eq_some_iff.1 hm).1
  obtain ⟨a, b, e⟩ := h.pair j m (by omega) hm
  have hs := h.stk
  rw [List.take_of_length_le (by omega)] at hs
  obtain ⟨v, l, q, e2, ⟨B, kk, d, rfl, hO⟩, x, y, z⟩ := hs.get (j := j) (x := m.2) (by rw [List.getElem?_map, hm]; rfl)
  have e1 := h.own.cells (g := g) rfl (j * 2) _ a
  have e3 := h.own.cells (g := g) rfl (j * 2 + 1) _ (e.trans e2)
  have h1 := (h.own.lt g rfl).1
  refine ⟨e1, b, B, kk, d, ?_, hO.ints.wide (by omega) z⟩
  rw [Addr.add_lit] at e3
  rw [Addr.add_lit]
  exact e3
theorem Ros.mons2 {T : TypeId} {w : World} {lo hi : Nat} {A : Option Addr} {n c : Nat} {ps : List (List Mono)} (h : Ros kM T w lo hi A n c ps) : Mons2 w lo hi A n c ps := by
  rcases h with ⟨rfl, rfl, rfl, rfl, _⟩ | ⟨g, vs, rfl, h⟩
  · exact ⟨rfl, Nat.le_refl _, by omega, fun h => absurd h (by omega)⟩
  · have h1 := (h.own.lt g rfl).1
    have h2 := h.lt
    have hvl := h.vlen
    have hs := h.stk
    rw [List.take_of_length_le (by omega), List.take_of_length_le (Nat.le_of_eq h.len)] at hs
    refine ⟨h.len, h.capb.1, h.capb.2, fun hn => ⟨_, rfl, h1, h2, fun j xs hj => ?_⟩⟩
    obtain ⟨v, l, m, e, ⟨g2, k, d, vs2, pws, rfl, hO⟩, a, b, c⟩ := hs.get hj
    refine ⟨_, k, d, ?_, hO.mons.wide (by omega) c⟩
    have hj2 := (List.getElem?_eq_some_iff.1 e).1
    simpa [Addr.add_lit] using (h.own.cellAt j (by omega)).trans e

set_option maxHeartbeats 2000000 in
theorem laws_toMonomialSO (A : Option Addr) (n c : Nat) (ms : List Mono) (lo hi : Nat) (w : World) (h : Mons w lo hi A n c ms) (hh : hi ≤ w.heap.size) (hn : n ≤ 1048576) (hr : ∀ m ∈ ms, m.2.length ≤ 1048576) :
    Calls Tryz.prog 57 #[.slice A n c] w fun e w' => ∃ A' c', e = .returned (.slice A' n c') ∧ kM.rd w' w.heap.size w'.heap.size (.slice A' n c') ms ∧ Below w.heap.size w w' := by
  obtain ⟨i0, hi0, hz0, hz1, hz2⟩ := info_parts info_mono
  have hcp := h.cap
  have hm := h.max
  have hl := hide h.len
  have HR := hide hr
  clear hr
  go_enter Tryz.func57, Tryz.ntmps57
  go_wp2_with (at_make; refine wpList_make_full _ rfl _ _ 78 rfl w.heap.size 95 i0 (.agg #[.int .i64 0, .slice none 0 0]) 2 Tryz.underlying78 hi0 hz0 hz1 .i64 .i64 n n n rfl rfl rfl rfl (by rw [hz2]; omega) (by unfold maxLen; omega) (Nat.le_refl _) ?_; intro w1 hown hg1)
  have hs1 : w.heap.size < w1.heap.size := (hown.lt w.heap.size rfl).2
  have hb1 : Hid (Below w.heap.size w w1) := (Below.refl _ _).grown hg1 (Nat.le_refl _) (by simp)
  obtain ⟨vs0, hvs0⟩ : ∃ vs, w1.ownsRow w.heap.size 95 2 (.slice (some ⟨w.heap.size, 0, none⟩) n n) n vs := ⟨_, hown⟩
  have hO0 : Hid (OutM w1 w.heap.size w1.heap.size w.heap.size n n 0 vs0 [] ms) := ⟨hvs0, hl.out, fun j m hj => absurd hj (by omega), hs1⟩
  clear hg1 hown hvs0
  go_loopw [4] (fun i wr => ∃ (k : Nat) (vs pws : List Value), k ≤ n ∧ i = .int .i64 k ∧ Hid (OutM wr w.heap.size wr.heap.size w.heap.size n n k vs pws ms) ∧ Hid (Below w.heap.size w wr)) (fun i _ => n - (intOf i).toNat)
  case atStart => exact ⟨0, _, _, by omega, rfl, hO0.out, hb1.out⟩
  case round =>
    clear hO0 hb1 hs1
    obtain ⟨k, vs, pws, hk, rfl, hO, hb⟩ := hrel
    have hsz := hb.out.size
    by_cases hlt : k < n
    · obtain ⟨ad, x, B, m, d, xs, rfl, hc1, hc2, hxr, hi1, _, hx⟩ := (h.below hb.out hh).at_ hlt
      have hml : m ≤ 1048576 := by
        have := HR.out (x, xs) (List.mem_of_getElem? hx.out)
        have := hi1.len
        simp only at *
        omega
      have hT := hide (laws_toMonomial x B m d xs lo hi wr hi1 (Nat.le_trans hh hsz) hml)
      have hvl := hO.out.vlen
      clear hi1
      go_wp2_with fail
      refine hT.out.mono ?_
      rintro e w2 ⟨B2, d2, rfl, o2, b2⟩
      have z2 := b2.size
      have hO2 := hO.out.below b2 (Nat.le_refl _)
      have hc3 : w2.cell? ⟨w.heap.size, k * 2, none⟩ = some (vs[k * 2]'(by omega)) := by
        rw [hO2.own.cellAt (k * 2) (by omega)]
        exact List.getElem?_eq_getElem (by omega)
      have hc4 : w2.cell? ⟨w.heap.size, k * 2 + 1, none⟩ = some (vs[k * 2 + 1]'(by omega)) := by
        rw [hO2.own.cellAt (k * 2 + 1) (by omega)]
        exact List.getElem?_eq_getElem (by omega)
      have hf3 := hO2.own.frozenAt (k * 2)
      have hf4 := hO2.own.frozenAt (k * 2 + 1)
      have sz : ((w2.setCell ⟨w.heap.size, k * 2, none⟩ (.int .i64 x)).setCell ⟨w.heap.size, k * 2 + 1, none⟩ (.slice B2 m d2)).heap.size = w2.heap.size := by simp [World.setCell]
      have hO3 := hO2.put hlt hx.out hxr o2 (Nat.le_refl _) z2
      rw [← sz] at hO3
      have HO := hide hO3
      have HB : Hid (Below w.heap.size w ((w2.setCell ⟨w.heap.size, k * 2, none⟩ (.int .i64 x)).setCell ⟨w.heap.size, k * 2 + 1, none⟩ (.slice B2 m d2))) := ((hb.out.trans (b2.mono hsz)).setCell (Nat.le_refl _) _).setCell (Nat.le_refl _) _
      clear hO2 hO3 hO hb o2 hx sz hxr
      go_wp2_with fail
      go_roundw
      case rel => exact ⟨k + 1, _, _, by omega, by go_num, HO.out, HB.out⟩
      case measure => simp [intOf]; omega
    · obtain rfl : k = n := by omega
      go_wp2_with fail
      go_ret
      exact ⟨_, _, rfl, ⟨_, _, _, _, _, rfl, hO.out⟩, hb.out⟩

set_option maxHeartbeats 1000000 in
theorem laws_toMonomialSSO (A : Option Addr) (n c : Nat) (xss : List (List Mono)) (lo hi : Nat) (w : World) (h : Mons2 w lo hi A n c xss) (hh : hi ≤ w.heap.size) (hn : n ≤ 1048576) (hr : ∀ xs ∈ xss, xs.length ≤ 1048576 ∧ ∀ m ∈ xs, m.2.length ≤ 1048576) :
    Calls Tryz.prog 30 #[.slice A n c] w fun e w' => ∃ A' c', e = .returned (.slice A' n c') ∧ Ros kM 78 w' w.heap.size w'.heap.size A' n c' xss ∧ Below w.heap.size w w' := by
  obtain ⟨i0, hi0, hz0, hz1, hz2⟩ := info_parts info_monos
  have hcp := h.cap
  have hm := h.max
  have hl := hide h.len
  have HR := hide hr
  clear hr
  go_enter Tryz.func30, Tryz.ntmps30
  go_wp2_with (at_make; refine wpList_make_full _ rfl _ _ 31 rfl w.heap.size 78 i0 (.slice none 0 0) 1 Tryz.underlying31 hi0 hz0 hz1 .i64 .i64 n n n rfl rfl rfl rfl (by rw [hz2]; omega) (by unfold maxLen; omega) (Nat.le_refl _) ?_; intro w1 hown hg1)
  have hs1 : w.heap.size < w1.heap.size := (hown.lt w.heap.size rfl).2
  have hb1 : Hid (Below w.heap.size w w1) := (Below.refl _ _).grown hg1 (Nat.le_refl _) (by simp)
  obtain ⟨vs0, hvs0⟩ : ∃ vs, w1.ownsRow w.heap.size 78 1 (.slice (some ⟨w.heap.size, 0, none⟩) n n) n vs := ⟨_, hown⟩
  have hO0 : Hid (OutS kM w1 w.heap.size w1.heap.size 78 w.heap.size n n 0 vs0 xss) := ⟨hvs0, hs1, hl.out⟩
  clear hg1 hown hvs0
  go_loopw [4] (fun i wr => ∃ (k : Nat) (vs : List Value), k ≤ n ∧ i = .int .i64 k ∧ Hid (OutS kM wr w.heap.size wr.heap.size 78 w.heap.size n n k vs xss) ∧ Hid (Below w.heap.size w wr)) (fun i _ => n - (intOf i).toNat)
  case atStart => exact ⟨0, _, by omega, rfl, hO0.out, hb1.out⟩
  case round =>
    clear hO0 hb1 hs1
    obtain ⟨k, vs, hk, rfl, hO, hb⟩ := hrel
    have hsz := hb.out.size
    by_cases hlt : k < n
    · obtain ⟨ad, B, m, d, xs, rfl, hc, hi1, _, hx⟩ := (h.below hb.out hh).at_ hlt
      have hml : m ≤ 1048576 := by
        have := (HR.out xs (List.mem_of_getElem? hx.out)).1
        have := hi1.len
        omega
      have hT := hide (laws_toMonomialSO B m d xs lo hi wr hi1 (Nat.le_trans hh hsz) hml (HR.out xs (List.mem_of_getElem? hx.out)).2)
      have hvl := hO.out.vlen
      clear hi1
      go_wp2_with fail
      refine hT.out.mono ?_
      rintro e w2 ⟨B2, d2, rfl, o2, b2⟩
      have z2 := b2.size
      have hO2 := hO.out.below b2 (Nat.le_refl _)
      obtain ⟨v0, hc2, _, hf2⟩ := hO2.at_ hlt
      have sz : (w2.setCell ⟨w.heap.size, k, none⟩ (.slice B2 m d2)).heap.size = w2.heap.size := by simp [World.setCell]
      have hlo : w.heap.size < wr.heap.size := hO.out.lt
      have hO3 := (hO2.hole (.slice B2 m d2)).fill (l := wr.heap.size) (h' := w2.heap.size) (List.getElem?_set_self (by omega)) hx.out (Kd.setCell kM o2 (p := ⟨w.heap.size, k, none⟩) (.inl hlo) _) (Nat.le_refl _) z2
      rw [← sz] at hO3
      have HO := hide hO3
      have HB : Hid (Below w.heap.size w (w2.setCell ⟨w.heap.size, k, none⟩ (.slice B2 m d2))) := (hb.out.trans (b2.mono hsz)).setCell (Nat.le_refl _) _
      clear hO2 hO3 hO hb o2 hx hvl sz
      go_wp2_with fail
      go_roundw
      case rel => exact ⟨k + 1, _, by omega, by go_num, HO.out, HB.out⟩
      case measure => simp [intOf]; omega
    · obtain rfl : k = n := by omega
      go_wp2_with fail
      go_ret
      exact ⟨_, _, rfl, .inr ⟨_, _, rfl, hO.out⟩, hb.out⟩

theorem laws_toFieldO (o : Int) (A : Option Addr) (n c : Nat) (xs : List (List Mono)) (lo hi : Nat) (w : World) (h : Mons2 w lo hi A n c xs) (hh : hi ≤ w.heap.size) (hn : n ≤ 1048576) (hr : ∀ p ∈ xs, p.length ≤ 1048576 ∧ ∀ m ∈ p, m.2.length ≤ 1048576) :
    Calls Tryz.prog 8 #[.agg #[.int .i64 o, .slice A n c]] w fun e w' => ∃ A' c', e = .returned (.agg #[.int .i64 o, .slice A' n c']) ∧ Ros kM 78 w' w.heap.size w'.heap.size A' n c' xs ∧ Below w.heap.size w w' := by
  have hcp := h.cap
  have hm := h.max
  go_enter Tryz.func8, Tryz.ntmps8
  go_wp2_with fail
  refine (laws_toMonomialSSO A n c xs lo hi _ (h.below (B := w.heap.size) (by (repeat (first | with_reducible exact Below.refl _ _ | with_reducible exact Below.refl _ _ | with_reducible refine Below.drew ?_ | ((with_reducible refine Below.alloc ?_ ?_ _); rotate_left; · first | omega | (simp [World.setCell]; done) | (simp [World.setCell]; omega)) | ((with_reducible refine Below.setCell ?_ ?_ _); rotate_left; · first | exact Nat.le_refl _ | omega | (simp; done) | (simp; omega))))) hh) (by simp; omega) hn hr).mono ?_
  rintro e w1 ⟨A1, c1, rfl, o1, b1⟩
  obtain ⟨p20, p21, f20, f21, hlt2⟩ := res2 b1
  obtain ⟨p10, p11, f10, f11, hlt1⟩ := res2 (below_alloc_inv b1)
  simp at p10 p11 p20 p21 f10 f11 f20 f21 hlt1 hlt2
  have b2 : Below w.heap.size w w1 := below_alloc_inv (below_alloc_inv (below_alloc_inv b1))
  have HO : Hid (Ros kM 78 w1 (w.heap.size + 1 + 1 + 1) w1.heap.size A1 n c1 xs) := o1.wide (by simp) (Nat.le_refl _)
  clear b1 o1
  go_wp2_with fail
  refine bodyPost_ret (v := .agg #[.int .i64 o, .slice A1 n c1]) (by simp [results, Tryz.results8, go_sem, p10, p11, p20, p21, hlt1, hlt2]) rfl ⟨_, _, rfl, ?_, ?_⟩
  · refine (Ros.same HO.out ?_).wide (by omega) ?_
    · (repeat (first | with_reducible exact Same.refl _ _ _ | with_reducible refine Same.drew ?_ | ((with_reducible refine Same.alloc ?_ ?_ _); rotate_left; · first | omega | (simp [World.setCell]; done) | (simp [World.setCell]; omega)) | ((with_reducible refine Same.setCell ?_ ?_ _); rotate_left; · first | omega | (simp; done) | (simp; omega))))
    · simp [World.setCell]
  · (repeat (first | with_reducible exact b2 | with_reducible exact Below.refl _ _ | with_reducible refine Below.drew ?_ | ((with_reducible refine Below.alloc ?_ ?_ _); rotate_left; · first | omega | (simp [World.setCell]; done) | (simp [World.setCell]; omega)) | ((with_reducible refine Below.setCell ?_ ?_ _); rotate_left; · first | exact Nat.le_refl _ | omega | (simp; done) | (simp; omega))))
end Go.Proofs.YtkaepjigmcielaaGreatDoor
/- Fields: marks. -/
namespace Go.Proofs.YtkaepjigmcielaaGreatDoor
open Go.RowKit
set_option linter.unusedSimpArgs false
set_option linter.unusedVariables false
set_option maxRecDepth 20000

def totM : List Mono → Nat
  | [] => 0
  | m :: r => 1 + m.2.length + totM r
def totMM : List (List Mono) → Nat
  | [] => 0
  | p :: r => totM p + totMM r
theorem totM_bd {C : Nat} : ∀ (ms : List Mono), (∀ m ∈ ms, m.2.length ≤ C) → totM ms ≤ ms.length * (1 + C)
  | [], _ => by simp [totM]
  | m :: r, h => by
    have h1 := totM_bd r (fun y hy => h y (List.mem_cons_of_mem _ hy))
    have h2 := h m (List.mem_cons_self ..)
    simp only [totM, List.length_cons]
    rw [Nat.add_mul, Nat.one_mul]
    omega
theorem totMM_bd {C : Nat} : ∀ (ps : List (List Mono)), (∀ p ∈ ps, totM p ≤ C) → totMM ps ≤ ps.length * C
  | [], _ => by simp [totMM]
  | m :: r, h => by
    have h1 := totMM_bd r (fun y hy => h y (List.mem_cons_of_mem _ hy))
    have h2 := h m (List.mem_cons_self ..)
    simp only [totMM, List.length_cons]
    rw [Nat.add_mul, Nat.one_mul]
    omega

set_option maxHeartbeats 2000000 in
theorem laws_markMonomialSO (v : Value) (ms : List Mono) (lo hi : Nat) (k0 : Int) (w : World) (h : kM.rd w lo hi v ms) (hh : hi ≤ w.heap.size) (hk0 : 0 ≤ k0) (hk1 : k0 + totM ms ≤ 4611686018427387904) :
    Calls Tryz.prog 78 #[v, .int .i64 k0] w fun e w' => e = .returned (.int .i64 (k0 + totM ms)) ∧ Touch lo hi w w' ∧ w'.heap.size = w.heap.size := by
  obtain ⟨g, n, c, vs, pws, rfl, h⟩ := h
  have hcb := h.capb
  have hvl := h.vlen
  have hxl := h.len
  have hlo := (h.own.lt g rfl).1
  have hst := h.stk
  rw [List.take_of_length_le (by omega)] at hst
  have hpl := hst.len
  simp only [List.length_map] at hpl
  have hst0 := hide hst
  have HO := hide h.own
  have HPr : Hid (∀ j, j < n → vs[j * 2 + 1]? = pws[j]?) := fun j hj => (h.pair j _ hj (List.getElem?_eq_getElem (by omega))).2.2
  have hgh := h.lt
  clear h hst
  go_enter Tryz.func78, Tryz.ntmps78
  go_wp2_with fail
  go_loopw [1, 5] (fun q i wr => ∃ (k m : Nat) (z : Int) (us : List Value), k ≤ n ∧ i = .int .i64 k ∧ q = .int .i64 z ∧ 0 ≤ z ∧ z + totM (ms.drop k) = k0 + totM ms ∧ g + 1 ≤ m ∧ Hid (Stk kO wr m hi (pws.drop k) ((ms.drop k).map Prod.snd)) ∧ Hid (∀ j, j < n → us[j * 2 + 1]? = pws[j]?) ∧ Hid (Touch lo hi w wr ∧ wr.heap.size = w.heap.size ∧ wr.ownsRow lo 95 2 (.slice (some ⟨g, 0, none⟩) n c) n us)) (fun _ i _ => n - (intOf i).toNat)
  case atStart => exact ⟨0, g + 1, k0, vs, by omega, rfl, rfl, hk0, by simp, Nat.le_refl _, hst0.out, HPr.out, Touch.refl _ _ _, rfl, HO.out⟩
  case round =>
    clear hst0 HO HPr
    obtain ⟨k, m, z, us, hk, rfl, rfl, hz0, hz1, hgm, hR, hPr, hT⟩ := hrel
    by_cases hlt : k < n
    · have hR2 := hR.out
      rw [List.drop_eq_getElem_cons (by omega), List.drop_eq_getElem_cons (l := ms) (by omega), List.map_cons] at hR2
      obtain ⟨l, m', h1, h2, h3, ⟨B, mm, d, hv, hB⟩, hR3⟩ := hR2.head
      have hml := hB.len
      have hul : us.length = n * 2 := by simpa using hT.out.2.2.1
      have hc1 : wr.cell? ⟨g, k * 2, none⟩ = some (us[k * 2]'(by omega)) := (hT.out.2.2.cellAt (k * 2) (by omega)).trans (List.getElem?_eq_getElem (by omega))
      have hc2 : wr.cell? ⟨g, k * 2 + 1, none⟩ = some (.slice B mm d) := by
        rw [hT.out.2.2.cellAt (k * 2 + 1) (by omega), hPr.out k hlt, List.getElem?_eq_getElem (by omega), hv]
      have hf1 := hT.out.2.2.frozenAt (k * 2)
      have htd : totM (ms.drop k) = 1 + mm + totM (ms.drop (k + 1)) := by rw [List.drop_eq_getElem_cons (l := ms) (i := k) (by omega), totM, hml]
      have hws : hi ≤ wr.heap.size := by rw [hT.out.2.1]; exact hh
      have hz2 : z + 1 + mm ≤ 4611686018427387904 := by omega
      have hfar : Same (g + 1) hi wr (wr.setCell ⟨g, k * 2, none⟩ (.int .i64 z)) := (Same.refl _ _ _).setCell (p := ⟨g, k * 2, none⟩) (.inl (Nat.lt_succ_self g)) _
      have hc3 : (wr.setCell ⟨g, k * 2, none⟩ (.int .i64 z)).cell? ⟨g, k * 2 + 1, none⟩ = some (.slice B mm d) := by
        rw [(hT.out.2.2.stored (k * 2) (.int .i64 z)).1.cellAt (k * 2 + 1) (by omega), List.getElem?_set_ne (by omega), hPr.out k hlt, List.getElem?_eq_getElem (by omega), hv]
      have sz : (wr.setCell ⟨g, k * 2, none⟩ (.int .i64 z)).heap.size = wr.heap.size := by simp [World.setCell]
      have hMK := hide (laws_markIntS B mm d _ l m' (z + 1) (wr.setCell ⟨g, k * 2, none⟩ (.int .i64 z)) (hB.same fun q a b => hfar q (by omega) (by omega)) (by omega) (by omega))
      have hRR := hide (hR3.same fun q a b => hfar q (by omega) b)
      have HP2 : Hid (∀ j, j < n → (us.set (k * 2) (.int .i64 z))[j * 2 + 1]? = pws[j]?) := fun j hj => by rw [List.getElem?_set_ne (by omega)]; exact hPr.out j hj
      have hT0 : Hid (Touch lo hi w (wr.setCell ⟨g, k * 2, none⟩ (.int .i64 z)) ∧ (wr.setCell ⟨g, k * 2, none⟩ (.int .i64 z)).heap.size = w.heap.size ∧ (wr.setCell ⟨g, k * 2, none⟩ (.int .i64 z)).ownsRow lo 95 2 (.slice (some ⟨g, 0, none⟩) n c) n (us.set (k * 2) (.int .i64 z))) :=
        ⟨hT.out.1.setCell (p := ⟨g, k * 2, none⟩) (.inl ⟨hlo, hgh⟩) _, sz.trans hT.out.2.1, (hT.out.2.2.stored (k * 2) (.int .i64 z)).1⟩
      have hws2 : hi ≤ (wr.setCell ⟨g, k * 2, none⟩ (.int .i64 z)).heap.size := by rw [sz]; exact hws
      clear hR2 hR hB hT hR3 hfar hPr sz hc2 hv
      go_wp2_with fail
      generalize wr.setCell ⟨g, k * 2, none⟩ (.int .i64 z) = W5 at hc3 hMK hRR hT0 hws2 ⊢
      refine hMK.out.mono ?_
      rintro e w2 ⟨rfl, o2, t2, e2⟩
      have hR4 := hide (hRR.out.same (t2.same (by omega) (by omega)))
      have hT2 : Hid (Touch lo hi w w2 ∧ w2.heap.size = w.heap.size ∧ w2.ownsRow lo 95 2 (.slice (some ⟨g, 0, none⟩) n c) n (us.set (k * 2) (.int .i64 z))) := ⟨hT0.out.1.trans (t2.wide (by omega) (by omega)), by rw [e2]; exact hT0.out.2.1, owns_same hT0.out.2.2 (fun ad e => by injection e with e; subst e; exact t2.block g (hT0.out.2.2.lt g rfl).2 (by omega))⟩
      clear hMK hRR hT0 o2 t2 e2
      go_wp2_with fail
      refine ⟨⟨k + 1, m', z + 1 + mm, _, by omega, by go_num, by go_num, by omega, by omega, by omega, hR4.out, HP2.out, hT2.out⟩, ?_⟩
      simp [intOf]; omega
    · obtain rfl : k = n := by omega
      rw [List.drop_eq_nil_of_le (by omega), totM] at hz1
      have hzz : Hid (z = k0 + totM ms) := by show _ = _; omega
      go_wp2_with fail
      go_ret
      exact ⟨ret_int hzz.out, hT.out.1, hT.out.2.1⟩

set_option maxHeartbeats 1000000 in
theorem laws_markMonomialSSO (A : Option Addr) (n c : Nat) (ps : List (List Mono)) (lo hi : Nat) (k0 : Int) (w : World) (h : Ros kM 78 w lo hi A n c ps) (hh : hi ≤ w.heap.size) (hk0 : 0 ≤ k0) (hk1 : k0 + totMM ps ≤ 4611686018427387904) :
    Calls Tryz.prog 43 #[.slice A n c, .int .i64 k0] w fun e w' => e = .returned (.int .i64 (k0 + totMM ps)) ∧ Touch lo hi w w' ∧ w'.heap.size = w.heap.size := by
  have hcb := h.capb
  rcases h with ⟨rfl, rfl, rfl, rfl, hle⟩ | ⟨g, vs, rfl, h⟩
  · go_enter Tryz.func43, Tryz.ntmps43
    go_wp2_with fail
    go_loopw [1, 5] (fun q i wr => q = .int .i64 k0 ∧ i = .int .i64 0 ∧ wr = w) (fun _ _ _ => 0)
    case atStart => exact ⟨rfl, rfl, rfl⟩
    case round =>
      obtain ⟨rfl, rfl, rfl⟩ := hrel
      go_wp2_with fail
      go_ret
      exact ⟨by simp [totMM], Touch.refl _ _ _, rfl⟩
  · have hvl := h.vlen
    have hxl := h.len
    have hlo := (h.own.lt g rfl).1
    have hst := h.stk
    rw [List.take_of_length_le (by omega), List.take_of_length_le (by omega)] at hst
    have hst0 := hide hst
    have HO := hide h.own
    clear h hst
    go_enter Tryz.func43, Tryz.ntmps43
    go_wp2_with fail
    go_loopw [1, 5] (fun q i wr => ∃ (k m : Nat) (z : Int), k ≤ n ∧ i = .int .i64 k ∧ q = .int .i64 z ∧ 0 ≤ z ∧ z + totMM (ps.drop k) = k0 + totMM ps ∧ g + 1 ≤ m ∧ Hid (Stk kM wr m hi (vs.drop k) (ps.drop k)) ∧ Hid (Touch lo hi w wr ∧ wr.heap.size = w.heap.size ∧ wr.ownsRow lo 78 1 (.slice (some ⟨g, 0, none⟩) n c) n vs)) (fun _ i _ => n - (intOf i).toNat)
    case atStart => exact ⟨0, g + 1, k0, by omega, rfl, rfl, hk0, by simp, Nat.le_refl _, hst0.out, Touch.refl _ _ _, rfl, HO.out⟩
    case round =>
      clear hst0 HO
      obtain ⟨k, m, z, hk, rfl, rfl, hz0, hz1, hgm, hR, hT⟩ := hrel
      by_cases hlt : k < n
      · have hR2 := hR.out
        rw [List.drop_eq_getElem_cons (by omega), List.drop_eq_getElem_cons (l := ps) (by omega)] at hR2
        obtain ⟨l, m', h1, h2, h3, hB, hR3⟩ := hR2.head
        have hcc : wr.cell? ⟨g, k, none⟩ = some (vs[k]'(by omega)) := by
          rw [hT.out.2.2.cellAt k (by omega), List.getElem?_eq_getElem (by omega)]
        have htd : totMM (ps.drop k) = totM (ps[k]'(by omega)) + totMM (ps.drop (k + 1)) := by rw [List.drop_eq_getElem_cons (l := ps) (i := k) (by omega), totMM]
        have hws : hi ≤ wr.heap.size := by rw [hT.out.2.1]; exact hh
        have hz2 : z + totM (ps[k]'(by omega)) ≤ 4611686018427387904 := by omega
        have hMK := hide (laws_markMonomialSO _ _ l m' z wr hB (by omega) hz0 hz2)
        obtain ⟨B, mm, d, _, _, hv, _⟩ := hB
        rw [hv] at hcc hMK
        have hT0 := hT
        have hRR := hide hR3
        clear hR2 hR hT hR3 hv
        go_wp2_with fail
        refine hMK.out.mono ?_
        rintro e w2 ⟨rfl, t2, e2⟩
        have hR4 := hide (hRR.out.same (t2.same (by omega) (by omega)))
        have hT2 : Hid (Touch lo hi w w2 ∧ w2.heap.size = w.heap.size ∧ w2.ownsRow lo 78 1 (.slice (some ⟨g, 0, none⟩) n c) n vs) := ⟨hT0.out.1.trans (t2.wide (by omega) (by omega)), by rw [e2]; exact hT0.out.2.1, owns_same hT0.out.2.2 (fun ad e => by injection e with e; subst e; exact t2.block g (hT0.out.2.2.lt g rfl).2 (by omega))⟩
        clear hMK hRR hT0 t2 e2
        go_wp2_with fail
        refine ⟨⟨k + 1, m', z + totM (ps[k]'(by omega)), by omega, by go_num, rfl, by omega, by omega, by omega, hR4.out, hT2.out⟩, ?_⟩
        simp [intOf]; omega
      · obtain rfl : k = n := by omega
        rw [List.drop_eq_nil_of_le (by omega), totMM] at hz1
        have hzz : Hid (z = k0 + totMM ps) := by show _ = _; omega
        go_wp2_with fail
        go_ret
        exact ⟨ret_int hzz.out, hT.out.1, hT.out.2.1⟩

theorem laws_markFieldO (o : Int) (A : Option Addr) (n c : Nat) (ps : List (List Mono)) (lo hi : Nat) (k0 : Int) (w : World) (h : Ros kM 78 w lo hi A n c ps) (hh : hi ≤ w.heap.size) (hk0 : 0 ≤ k0) (hk1 : k0 + totMM ps ≤ 4611686018427387904) :
    Calls Tryz.prog 15 #[.agg #[.int .i64 o, .slice A n c], .int .i64 k0] w fun e w' => e = .returned (.int .i64 (k0 + totMM ps)) ∧ Touch lo hi w w' := by
  have b0 := below_alloc w (.cells #[.int .i64 o, .slice A n c] 33)
  go_enter Tryz.func15, Tryz.ntmps15
  go_wp2_with fail
  refine (laws_markMonomialSSO A n c ps lo hi k0 _ (h.below b0 hh) (by simp; omega) hk0 hk1).mono ?_
  rintro e w2 ⟨rfl, t2, e2⟩
  have T := (Touch.of_below (lo := lo) (hi := hi) b0).trans t2
  go_wp2_with fail
  go_ret
  exact ⟨rfl, T⟩
end Go.Proofs.YtkaepjigmcielaaGreatDoor
/- Marks on tableaus and pairs: the statements' helpers. -/
namespace Go.Proofs.YtkaepjigmcielaaGreatDoor
open Go.RowKit
set_option linter.unusedSimpArgs false
set_option linter.unusedVariables false
set_option maxRecDepth 20000

end Go.Proofs.YtkaepjigmcielaaGreatDoor
