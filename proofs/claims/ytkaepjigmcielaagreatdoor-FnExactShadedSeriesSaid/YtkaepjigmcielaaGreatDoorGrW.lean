/- All lists of shaded trees of an order: the reference's walk. -/
import Derived.Test.YtkaepjigmcielaaGreatDoorMzR
import Derived.Test.YtkaepjigmcielaaGreatDoorMzL
import Derived.Test.YtkaepjigmcielaaGreatDoorFormX
namespace Go.Proofs.YtkaepjigmcielaaGreatDoor
open Go.RowKit
set_option linter.unusedSimpArgs false
set_option linter.unusedVariables false
set_option maxRecDepth 20000

def mostF (l : List Int) : Int := if l = [] then 1 else 2 * (lastZ l / 2 + 1) + 1
def lowF (l : List Int) : Int := if l = [] then 0 else 2
def xsF (l : List Int) : List Int := (List.range (mostF l + 1 - lowF l).toNat).map fun i => mostF l - ((i : Nat) : Int)
/-- all lists of an order that go on from a list -/
def growF : Nat → List Int → List (List Int)
  | 0, l => [l]
  | r + 1, l => (xsF l).flatMap fun x => growF r (l ++ [x])
theorem grow_tab : ∀ n ∈ [1, 2, 3, 4], (growF n []).filter (fun l => decide (formF 4 l = l)) = rowsT n := by decide +kernel
theorem grow_ok : ∀ n ∈ [1, 2, 3, 4], ((growF n []).all fun l => isShadesF l && l.all fun x => decide (0 ≤ x ∧ x ≤ 1000)) = true := by decide +kernel
theorem grow_num : ∀ n ∈ [1, 2, 3, 4], (growF n []).length ≤ 1000 := by decide +kernel
theorem xs_len (l : List Int) : (xsF l).length = (mostF l + 1 - lowF l).toNat := by simp [xsF]
theorem xs_at {l : List Int} {k : Nat} (h : k < (mostF l + 1 - lowF l).toNat) : (xsF l)[k]? = some (mostF l - (k : Int)) := by simp [xsF, h]
theorem flat_stepG {α β : Type} {ls : List α} {f : α → List β} {k : Nat} {l : α} (h : ls[k]? = some l) : (ls.take (k + 1)).flatMap f = (ls.take k).flatMap f ++ f l := by
  rw [List.take_add_one, h]
  simp
theorem flat_le {α β : Type} {f : α → List β} {K : Nat} : ∀ {ds : List α}, (∀ x ∈ ds, (f x).length ≤ K) → (ds.flatMap f).length ≤ ds.length * K
  | [], _ => by simp
  | x :: r, h => by
    rw [List.flatMap_cons, List.length_append, List.length_cons, Nat.add_mul, Nat.one_mul]
    have h1 := h x (by simp)
    have h2 := flat_le (ds := r) (fun y hy => h y (List.mem_cons_of_mem _ hy))
    omega
theorem most_bd {l : List Int} (h : ∀ x ∈ l, 0 ≤ x ∧ x ≤ 2 * (l.length : Int) - 1) : 0 ≤ mostF l ∧ mostF l ≤ 2 * ((l.length + 1 : Nat) : Int) - 1 := by
  unfold mostF
  split
  · rename_i e
    subst e
    simp
  · rename_i e
    have := h _ (lastZ_mem l e)
    have h1 := List.length_pos_iff.2 e
    omega
theorem snoc_bd {l : List Int} (h : ∀ x ∈ l, 0 ≤ x ∧ x ≤ 2 * (l.length : Int) - 1) {x : Int} (h0 : 0 ≤ x) (h1 : x ≤ mostF l) : ∀ y ∈ l ++ [x], 0 ≤ y ∧ y ≤ 2 * ((l ++ [x]).length : Int) - 1 := by
  intro y hy
  have hm := most_bd h
  rw [List.length_append, List.length_singleton]
  rcases List.mem_append.1 hy with hy | hy
  · have := h y hy
    omega
  · obtain rfl : y = x := by simpa using hy
    omega
theorem xs_mem {l : List Int} {x : Int} (h : x ∈ xsF l) : lowF l ≤ x ∧ x ≤ mostF l := by
  simp only [xsF, List.mem_map, List.mem_range] at h
  obtain ⟨i, hi, rfl⟩ := h
  omega
theorem low_bd (l : List Int) : 0 ≤ lowF l ∧ lowF l ≤ 2 := by unfold lowF; split <;> omega
theorem grow_len : ∀ (r : Nat) (l : List Int), (∀ x ∈ l, 0 ≤ x ∧ x ≤ 2 * (l.length : Int) - 1) → l.length + r ≤ 4 → (growF r l).length ≤ 8 ^ r
  | 0, l, _, _ => by simp [growF]
  | r + 1, l, h, h4 => by
    rw [growF]
    have h1 := flat_le (ds := xsF l) (f := fun x => growF r (l ++ [x])) (K := 8 ^ r) (fun x hx => by
      have h2 := xs_mem hx
      have h3 := low_bd l
      exact grow_len r (l ++ [x]) (snoc_bd h (by omega) h2.2) (by simp; omega))
    have h2 : (xsF l).length ≤ 8 := by
      rw [xs_len]
      have := most_bd h
      have := low_bd l
      omega
    calc (List.flatMap (fun x => growF r (l ++ [x])) (xsF l)).length ≤ (xsF l).length * 8 ^ r := h1
      _ ≤ 8 * 8 ^ r := Nat.mul_le_mul_right _ h2
      _ = 8 ^ (r + 1) := by rw [Nat.pow_succ, Nat.mul_comm]
theorem grow_small {r : Nat} {l : List Int} (h : ∀ x ∈ l, 0 ≤ x ∧ x ≤ 2 * (l.length : Int) - 1) (h4 : l.length + r ≤ 4) (hr : r ≤ 3) : (growF r l).length ≤ 512 :=
  Nat.le_trans (grow_len r l h h4) (Nat.le_trans (Nat.pow_le_pow_right (by omega) hr) (by decide))

theorem RowsI.one {w : World} {lo hi n c : Nat} {A : Option Addr} {vs : List Value} {xss : List (List Int)} (h : RowsI w lo hi A n c vs xss) : ∀ u ∈ vs, u.oneCell' = true := by
  intro u hu
  obtain ⟨j, hj⟩ := List.getElem?_of_mem hu
  have hl := (List.getElem?_eq_some_iff.1 hj).1
  obtain ⟨B, m, d, l, h', e1, _⟩ := h.row j _ (List.getElem?_eq_getElem (by have := h.vlen; have := h.len; omega))
  rw [hj] at e1
  injection e1 with e1
  subst e1
  rfl
/-- rows appended that were built behind all that there was -/
theorem RowsI.cat {w w' : World} {lo hi n c lo2 hi2 m d : Nat} {A A2 A' : Option Addr} {vs us : List Value} {xss yss : List (List Int)} {c' : Nat} (h : RowsI w lo hi A n c vs xss) (hhi : hi ≤ w.heap.size) (h2 : RowsI w lo2 hi2 A2 m d us yss) (hl : hi ≤ lo2) (hh2 : hi2 ≤ w.heap.size) (hlo : lo ≤ lo2)
    (hap : Appended w lo 22 1 A n c A' (n + m) c' (vs ++ us) w') : RowsI w' lo w'.heap.size A' (n + m) c' (vs ++ us) (xss ++ yss) := by
  obtain ⟨a1, a2, a3⟩ := hap
  have hsz := a2.size
  have hvl := h.vlen
  have hxl := h.len
  have key : ∀ {l q : Nat} {B : Option Addr} {k f : Nat} {xs : List Int}, Ints w l q B k f xs → q ≤ w.heap.size → (∀ ad, A = some ad → q ≤ ad.block ∨ ad.block < l) → Ints w' l q B k f xs ∧ ∀ ad, A' = some ad → q ≤ ad.block ∨ ad.block < l := by
    intro l q B k f xs hI hq hA
    refine ⟨hI.same fun i i1 i2 => a2.block i (by omega) fun e => ?_, fun ad e => ?_⟩
    · obtain ⟨ad, e1, e2⟩ := ownBlock_eq.1 e.symm
      have := hA ad e1
      omega
    · rcases a3 with a3 | a3
      · exact hA ad (a3 ad e)
      · exact .inl (by have := a3 ad e; omega)
  refine ⟨a1, fun ad e => (owns_lt a1 ad e).2, by simp [h.len, h2.len], fun j xs hj => ?_⟩
  by_cases hjn : j < n
  · rw [List.getElem?_append_left (by omega)] at hj
    obtain ⟨B, k, f, l, q, e1, e2, e3, e4, e5, e6⟩ := h.row j xs hj
    obtain ⟨k1, k2⟩ := key e2 (by omega) e5
    exact ⟨B, k, f, l, q, by rw [List.getElem?_append_left (by omega)]; exact e1, k1, e3, by omega, k2, e6⟩
  · rw [List.getElem?_append_right (by omega), hxl] at hj
    obtain ⟨B, k, f, l, q, e1, e2, e3, e4, e5, e6⟩ := h2.row (j - n) xs hj
    obtain ⟨k1, k2⟩ := key e2 (by omega) (fun ad e => .inr (by have := h.lt ad e; omega))
    exact ⟨B, k, f, l, q, by rw [List.getElem?_append_right (by omega), hvl]; exact e1, k1, by omega, by omega, k2, e6⟩
/-- one more row that can be read, in no block of the outer slice -/
theorem RowsI.snoc {w w' : World} {lo hi n c l q k f : Nat} {A A' B : Option Addr} {vs : List Value} {xss : List (List Int)} {xs : List Int} {c' : Nat} (h : RowsI w lo hi A n c vs xss) (hhi : hi ≤ w.heap.size) (hI : Ints w l q B k f xs) (hl : lo ≤ l) (hq : q ≤ w.heap.size) (hA : ∀ ad, A = some ad → q ≤ ad.block ∨ ad.block < l) (hB : ∀ ad, B = some ad → ad = ⟨ad.block, 0, none⟩)
    (hap : Appended w lo 22 1 A n c A' (n + 1) c' (vs ++ [.slice B k f]) w') : RowsI w' lo w'.heap.size A' (n + 1) c' (vs ++ [.slice B k f]) (xss ++ [xs]) := by
  obtain ⟨a1, a2, a3⟩ := hap
  have hsz := a2.size
  have hvl := h.vlen
  have hxl := h.len
  have key : ∀ {l q : Nat} {B : Option Addr} {k f : Nat} {xs : List Int}, Ints w l q B k f xs → q ≤ w.heap.size → (∀ ad, A = some ad → q ≤ ad.block ∨ ad.block < l) → Ints w' l q B k f xs ∧ ∀ ad, A' = some ad → q ≤ ad.block ∨ ad.block < l := by
    intro l q B k f xs hI hq hA
    refine ⟨hI.same fun i i1 i2 => a2.block i (by omega) fun e => ?_, fun ad e => ?_⟩
    · obtain ⟨ad, e1, e2⟩ := ownBlock_eq.1 e.symm
      have := hA ad e1
      omega
    · rcases a3 with a3 | a3
      · exact hA ad (a3 ad e)
      · exact .inl (by have := a3 ad e; omega)
  refine ⟨a1, fun ad e => (owns_lt a1 ad e).2, by simp [h.len], fun j ys hj => ?_⟩
  by_cases hjn : j < n
  · rw [List.getElem?_append_left (by omega)] at hj
    obtain ⟨B', k', f', l', q', e1, e2, e3, e4, e5, e6⟩ := h.row j ys hj
    obtain ⟨k1, k2⟩ := key e2 (by omega) e5
    exact ⟨B', k', f', l', q', by rw [List.getElem?_append_left (by omega)]; exact e1, k1, e3, by omega, k2, e6⟩
  · have hjl := (List.getElem?_eq_some_iff.1 hj).1
    simp at hjl
    obtain rfl : j = n := by omega
    obtain rfl : xs = ys := by rw [← hxl] at hj; simpa using hj
    obtain ⟨k1, k2⟩ := key hI hq hA
    exact ⟨B, k, f, l, q, by rw [← hvl]; simp, k1, hl, by omega, k2, hB⟩

theorem RowsI.nil_n {w : World} {lo hi n c : Nat} {vs : List Value} {xss : List (List Int)} (h : RowsI w lo hi none n c vs xss) : n = 0 := by
  rcases h.own.2 with ⟨_, e⟩ | ⟨g, _, _, e, _⟩
  · exact e
  · injection e with e
    cases e
theorem grow_pos : ∀ (r : Nat) (l : List Int), (∀ x ∈ l, 0 ≤ x ∧ x ≤ 2 * (l.length : Int) - 1) → 0 < (growF r l).length
  | 0, _, _ => by simp [growF]
  | r + 1, l, h => by
    have hm : mostF l ∈ xsF l := by
      have h1 : 0 < (mostF l + 1 - lowF l).toNat := by
        unfold mostF lowF
        split
        · decide
        · rename_i e
          have := h _ (lastZ_mem l e)
          omega
      have := xs_at h1
      simpa using List.mem_of_getElem? this
    have h0 := most_bd h
    have := grow_pos r (l ++ [mostF l]) (snoc_bd h h0.1 (Int.le_refl _))
    obtain ⟨y, hy⟩ := List.exists_mem_of_length_pos this
    rw [growF]
    exact List.length_pos_of_mem (List.mem_flatMap.2 ⟨_, hm, hy⟩)

set_option maxRecDepth 100000 in
set_option maxHeartbeats 8000000 in
theorem spec_l10Grow : ∀ (r n : Nat) (A : Option Addr) (m c : Nat) (l : List Int) (lo hi : Nat) (w : World), Ints w lo hi A m c l → hi ≤ w.heap.size → m + r = n → n ≤ 4 → (∀ x ∈ l, 0 ≤ x ∧ x ≤ 2 * (l.length : Int) - 1) → (A = none → m = 0 ∧ c = 0) →
    Calls Tryz.prog 50 #[.int .i64 (n : Int), .slice A m c] w fun e w' => ∃ g n' c' vs, e = .returned (.slice (some ⟨g, 0, none⟩) n' c') ∧ RowsI w' w.heap.size w'.heap.size (some ⟨g, 0, none⟩) n' c' vs (growF r l) ∧ Below w.heap.size w w' := by
  intro r
  induction r with
  | zero =>
    intro n A m c l lo hi w h hh hn h4 hb hnil
    obtain rfl : m = n := by omega
    obtain ⟨i0, hi0, hz0, hz1, hz2⟩ := info_parts info_int
    have hl := hide h.len
    have hcap := h.cap
    have hmax := h.max
    have bA := below_alloc w (.cells #[] 3)
    have oA := hide (show (w.alloc (.cells #[] 3)).ownsRow w.heap.size 3 1 (.slice (some ⟨w.heap.size, 0, none⟩) 0 0) 0 [] by simpa using World.ownsRow_lit (size := 1) (e := 3) w #[] 0 (Nat.le_refl _) (by unfold maxLen; omega) rfl)
    have hsrc := hide ((h.below bA hh).srcL)
    have HR := hide h.rng
    have HNil := hide hnil
    clear h hb hnil
    go_enter Tryz.func50, Tryz.ntmps50
    go_wp2_with (at_builtin; refine wpl_app rfl (.tmp 12) (.tmp 13) 22 rfl _ w.heap.size 3 i0 (.int .i64 0) 1 8 Tryz.underlying22 hi0 hz0 hz1 hz2 rfl (by omega) (some ⟨w.heap.size, 0, none⟩) 0 0 [] rfl oA.out A m c (l.map (Value.int .i64)) rfl (by simp [hl.out]) (fun ad' e => hsrc.out ad' e) HNil.out (by intro u hu; obtain ⟨x, _, rfl⟩ := List.mem_map.1 hu; rfl) (by omega) (by omega) (by simp) ?_; intro A3 c3 w3 hap3)
    have bA3 := hap3.low bA (by simp) (Nat.le_refl _) oA.out
    have oA3 : w3.ownsRow w.heap.size 3 1 (.slice A3 m c3) m (l.map (Value.int .i64)) := by have := hap3.1; simpa using this
    have b4 := below_alloc w3 (.cells #[.slice A3 m c3] 22)
    have o4 := World.ownsRow_lit (size := 1) (e := 22) (base := w.heap.size) w3 #[.slice A3 m c3] 1 bA3.size (by unfold maxLen; omega) rfl
    have z4 : (w3.alloc (.cells #[.slice A3 m c3] 22)).heap.size = w3.heap.size + 1 := by simp
    have oI : OwnI w3 w.heap.size w3.heap.size A3 m c3 l := ⟨oA3, fun ad e => (owns_lt oA3 ad e).2, HR.out⟩
    have hsf : ∀ ad, A3 = some ad → ad = ⟨ad.block, 0, none⟩ := by
      obtain ⟨A0, c0, e, hf⟩ := own_shape oA3
      injection e with e1
      subst e1
      exact hf
    have hI := hide (show RowsI (w3.alloc (.cells #[.slice A3 m c3] 22)) w.heap.size (w3.alloc (.cells #[.slice A3 m c3] 22)).heap.size (some ⟨w3.heap.size, 0, none⟩) 1 1 [.slice A3 m c3] (growF 0 l) by
      refine ⟨o4, fun ad e => by injection e with e; subst e; show w3.heap.size < _; omega, rfl, fun j xs hj => ?_⟩
      have hjl := (List.getElem?_eq_some_iff.1 hj).1
      simp [growF] at hjl
      subst hjl
      obtain rfl : l = xs := by simpa [growF] using hj
      exact ⟨A3, m, c3, w.heap.size, w3.heap.size, rfl, oI.ints.below b4 (Nat.le_refl _), Nat.le_refl _, by omega, fun ad e => by injection e with e; subst e; exact .inl (Nat.le_refl _), hsf⟩)
    have hB := hide (bA3.trans (b4.mono bA3.size))
    clear hap3 bA3 oA3 b4 o4 oI hsf oA hsrc bA
    go_wp2_with fail
    go_ret
    exact ⟨_, 1, 1, _, rfl, hI.out, hB.out⟩
  | succ r ih =>
    intro n A m c l lo hi w h hh hn h4 hb hnil
    obtain ⟨i0, hi0, hz0, hz1, hz2⟩ := info_parts info_int
    obtain ⟨i1, hi1, hy0, hy1, hy2⟩ := info_parts info_ints
    have hl := hide h.len
    have hcap := h.cap
    have hmax := h.max
    have HI := hide h
    have HBd := hide hb
    have HNil := hide hnil
    have IH := hide ih
    have hbm := most_bd hb
    rw [h.len] at hbm
    have hlow := low_bd l
    have hxl := hide (xs_len l)
    have hmn : ((m : Int) == (n : Int)) = false := by simp; omega
    have b0 := below_alloc w (.cells #[] 22)
    have o0 := hide (RowsO.empty w w.heap.size (Nat.le_refl _)).rows
    have hgr : Hid (growF (r + 1) l = (xsF l).flatMap fun x => growF r (l ++ [x])) := rfl
    obtain ⟨mo, hmo⟩ : ∃ z, z = mostF l := ⟨_, rfl⟩
    rw [← hmo] at hbm
    have HMo := hide hmo
    have hm3 : m ≤ 3 := by omega
    clear h hb hnil ih hmo
    rcases Nat.eq_zero_or_pos m with h0 | h0
    · have hle : l = [] := List.eq_nil_of_length_eq_zero (by rw [hl.out]; exact h0)
      have hmo1 : mo = 1 := by rw [HMo.out, hle]; rfl
      have hlo0 : Hid (lowF l = 0) := by rw [hle]; rfl
      subst h0
      subst hmo1
      clear hle
      go_enter Tryz.func50, Tryz.ntmps50
      go_wp2_with fail
      generalize World.alloc w (.cells #[] 22) = W0 at o0 b0 ⊢
      go_loopw [5, 7] (fun o i wr => ∃ (k N c' : Nat) (A' : Option Addr) (x : Int), k ≤ (xsF l).length ∧ i = .int .i64 x ∧ o = .slice A' N c' ∧ N ≤ 512 * k ∧ Hid (x = 1 - (k : Int)) ∧ Hid (∃ vs, RowsI wr w.heap.size wr.heap.size A' N c' vs (((xsF l).take k).flatMap fun x => growF r (l ++ [x]))) ∧ Hid (Below w.heap.size w wr)) (fun _ i _ => (intOf i + 1).toNat)
      case atStart => exact ⟨0, 0, 0, _, 1, by omega, rfl, rfl, by omega, by show _ = _; omega, ⟨[], o0.out⟩, b0⟩
      case round =>
        clear o0 b0
        obtain ⟨k, N, c', A', x, hk, rfl, rfl, hNk, hxk, hO, hbw⟩ := hrel
        have zr := hbw.out.size
        have hxl2 := hxl.out
        rw [hlo0.out, ← HMo.out] at hxl2
        have hxk2 := hxk.out
        by_cases hlt : k < (xsF l).length
        · have hx0 : 0 ≤ x := by omega
          skip
          have hxm : x ≤ 1 := by omega
          have hxat : Hid ((xsF l)[k]? = some x) := by
            show _ = _
            rw [xs_at (by rw [← hxl.out]; exact hlt), ← HMo.out, hxk2]
          have hst := hide (flat_stepG (f := fun x => growF r (l ++ [x])) hxat.out)
          have hsb := hide (snoc_bd HBd.out (x := x) (by omega) (by rw [← HMo.out]; exact hxm))
          have hIr := hide (HI.out.below hbw.out hh)
          have bA := below_alloc wr (.cells #[] 3)
          have oA := hide (show (wr.alloc (.cells #[] 3)).ownsRow wr.heap.size 3 1 (.slice (some ⟨wr.heap.size, 0, none⟩) 0 0) 0 [] by simpa using World.ownsRow_lit (size := 1) (e := 3) wr #[] 0 (Nat.le_refl _) (by unfold maxLen; omega) rfl)
          have hsrc := hide ((hIr.out.below bA (by omega)).srcL)
          have hlL := hl.out
          have hrng := hide hIr.out.rng
          have hN9 : N ≤ 4608 := by omega
          clear hxk2 hxl2 hIr hxat
          go_wp2_with (first
            | (at_builtin; refine wpl_app rfl (.tmp 46) (.tmp 47) 22 rfl _ wr.heap.size 3 i0 (.int .i64 0) 1 8 Tryz.underlying22 hi0 hz0 hz1 hz2 rfl (by omega) (some ⟨wr.heap.size, 0, none⟩) 0 0 [] rfl oA.out A 0 c (l.map (Value.int .i64)) rfl (by simp [hlL]) (fun ad' e => hsrc.out ad' e) (fun e => ⟨rfl, (HNil.out e).2⟩) (by intro u hu; obtain ⟨x, _, rfl⟩ := List.mem_map.1 hu; rfl) (by omega) (by omega) (by simp) ?_; intro A3 c3 w3 hap3; have bA3 := hide (hap3.low bA (by simp) (Nat.le_refl _) oA.out); have oA3 := hide (show w3.ownsRow wr.heap.size 3 1 (.slice A3 0 c3) 0 (l.map (Value.int .i64)) by (have := hap3.1; simpa using this)); have zA3 : wr.heap.size ≤ w3.heap.size := bA3.out.size; clear hap3)
            | (at_builtin; refine wpl_app1b rfl (.tmp 48) (.tmp 50) 22 rfl wr.heap.size 3 i0 (.int .i64 0) 1 8 Tryz.underlying22 hi0 hz0 hz1 hz2 rfl (by omega) _ #[.int .i64 x] _ rfl A3 0 c3 1 _ rfl (by rfl) oA3.out rfl (by simp [Value.oneCell']) (by omega) (by omega) zA3 ?_; intro A4 c4 w4 hap4 hlt4; have bA4 := hide (hap4.low bA3.out zA3 (Nat.le_refl _) oA3.out); have oA4 := hide hap4.1; have zA4 : wr.heap.size ≤ w4.heap.size := bA4.out.size; clear hap4))
          have oI : OwnI w4 wr.heap.size w4.heap.size A4 (0 + 1) c4 (l ++ [x]) := ⟨by have := oA4.out; simpa using this, fun ad e => (owns_lt oA4.out ad e).2, fun y hy => by
            have := hsb.out y hy
            rw [List.length_append, hlL] at this
            constructor <;> simp at this <;> omega⟩
          have hrec := hide (IH.out n A4 (0 + 1) c4 (l ++ [x]) _ _ w4 oI.ints (Nat.le_refl _) (by omega) h4 hsb.out (fun e => by
            obtain ⟨g, e2, _⟩ := oI.form (by omega)
            rw [e] at e2
            cases e2))
          have hcnt := grow_small (r := r) hsb.out (by rw [List.length_append, hlL]; simp; omega) (by omega)
          have hbw4 := hide (hbw.out.trans (bA4.out.mono zr))
          have hO4 : Hid (∃ vs, RowsI w4 w.heap.size wr.heap.size A' N c' vs (((xsF l).take k).flatMap fun x => growF r (l ++ [x]))) := by
            obtain ⟨vs, hv⟩ := hO.out
            exact ⟨vs, hv.below bA4.out (Nat.le_refl _)⟩
          clear oI oA oA3 oA4 bA bA3 bA4 hsrc hO hbw
          refine hrec.out.mono ?_
          rintro e w5 ⟨g5, n5, c5, us, rfl, h5, b5⟩
          have z5 := b5.size
          have hn5 : n5 ≤ 512 := by have := h5.len; omega
          obtain ⟨vs, hv4⟩ := hO4.out
          have hv5 := hide (hv4.below b5 (by omega))
          have H5 := hide h5
          have hb5 := hide (hbw4.out.trans (b5.mono (by omega)))
          have h5c := h5.capb
          have h5o := hide h5.one
          have h5s := hide fun (ad : Addr) (e : some (⟨g5, 0, none⟩ : Addr) = some ad) (j : Nat) (u : Value) (hu : us[j]? = some u) => (show w5.cell? (ad.add j) = some u by
            injection e with e
            subst e
            exact h5.own.cells (g := g5) rfl j u (by simpa using hu))
          have h5l := h5.vlen
          clear hv4 h5 hO4 hrec b5
          go_wp2_with (at_builtin; refine wpl_app rfl (.tmp 44) (.tmp 52) 26 rfl w5 w.heap.size 22 i1 (.slice none 0 0) 1 24 Tryz.underlying26 hi1 hy0 hy1 hy2 rfl (by omega) A' N c' vs rfl hv5.out.own (some ⟨g5, 0, none⟩) n5 c5 us rfl (by omega) h5s.out (fun e => by cases e) h5o.out (by omega) (by omega) (by omega) ?_; intro A6 c6 w6 hap6)
          have hcat := hide (hv5.out.cat (by omega) H5.out (by omega) (Nat.le_refl _) (by omega) hap6)
          have hb6 := hide (hap6.low hb5.out (by omega) (Nat.le_refl _) hv5.out.own)
          rw [← hst.out] at hcat
          clear hap6 hv5 H5 h5s h5o hb5 hbw4
          go_wp2_with fail
          go_roundw
          case rel => exact ⟨k + 1, N + n5, c6, A6, x - 1, by omega, by go_num, rfl, by omega, by show _ = _; have := hxk.out; omega, ⟨_, hcat.out⟩, hb6.out⟩
          case measure => simp [intOf]; omega
        · have hxend : x = -1 := by omega
          have htk : (xsF l).take k = xsF l := List.take_of_length_le (by omega)
          rw [htk, ← hgr.out] at hO
          obtain ⟨vs, hv⟩ := hO.out
          have hv := hide hv
          obtain ⟨g, rfl⟩ : ∃ g, A' = some ⟨g, 0, none⟩ := by
            have hN : 0 < N := by
              have := hv.out.len
              have h2 := grow_pos (r + 1) l HBd.out
              omega
            obtain ⟨_, _, hsh, hsf⟩ := own_shape hv.out.own
            injection hsh with hsh
            cases A' with
            | none => exact absurd (RowsI.nil_n hv.out) (by omega)
            | some ad => exact ⟨ad.block, by rw [hsf ad hsh.symm]⟩
          subst hxend
          clear hxk hxk2 hxl2 htk hO
          go_wp2_with fail
          go_ret
          exact ⟨g, N, c', vs, rfl, hv.out, hbw.out⟩
    · have hle : ¬ l = [] := fun e => by have := hl.out; rw [e] at this; simp at this; omega
      have hlo2 : Hid (lowF l = 2) := by show _ = _; rw [lowF, if_neg hle]
      obtain ⟨m, rfl⟩ : ∃ q, m = q + 1 := ⟨m - 1, by omega⟩
      obtain ⟨ad, rfl⟩ : ∃ ad, A = some ad := by
        obtain ⟨ad, e, _⟩ := HI.out.cells (by omega)
        exact ⟨ad, e⟩
      obtain ⟨z, hz⟩ : ∃ z, z = lastZ l := ⟨_, rfl⟩
      have hzl : Hid (l[m]? = some z) := by show _ = _; rw [hz]; exact lastZ_at l m hl.out
      have hzb := HBd.out z (by rw [hz]; exact lastZ_mem l hle)
      rw [hl.out] at hzb
      have hmz : Hid (mo = 2 * (z / 2 + 1) + 1) := by show _ = _; rw [HMo.out, mostF, if_neg hle, hz]
      obtain ⟨W1, hW1⟩ : ∃ W1, W1 = w.alloc (.cells #[] 22) := ⟨_, rfl⟩
      have hcz : W1.cell? (ad.add m) = some (.int .i64 z) := by
        rw [hW1]
        obtain ⟨ad2, e, _, _, hc⟩ := (HI.out.below b0 hh).cells (by omega)
        injection e with e
        subst e
        exact hc m z hzl.out
      have hwm : IntKind.i64.wrap (((m + 1 : Nat) : Int) - 1) = m := by rw [IntWalk.i64_in _ (by omega)]; omega
      have hm0 : (0 : Int) ≤ ((m + 1 : Nat) : Int) - 1 := by omega
      have hm1 : (((m + 1 : Nat) : Int) == 0) = false := by simp; omega
      have hz0' : 0 ≤ z := hzb.1
      have hz7 : z ≤ 7 := by omega
      rw [hW1] at hcz
      clear hz hle hW1
      go_enter Tryz.func50, Tryz.ntmps50
      go_wp2_with fail
      have hme : 2 * (z / 2 + 1) + 1 = mo := hmz.out.symm
      have hmo3 : 3 ≤ mo := by omega
      rw [hme]
      generalize World.alloc w (.cells #[] 22) = W0 at o0 b0 hcz ⊢
      have hmn2 : ((m : Int) + 1 == (n : Int)) = false := by simpa using hmn
      simp only [hmn2]
      clear hme hmn
      go_loopw [5, 7] (fun o i wr => ∃ (k N c' : Nat) (A' : Option Addr) (x : Int), k ≤ (xsF l).length ∧ i = .int .i64 x ∧ o = .slice A' N c' ∧ N ≤ 512 * k ∧ Hid (x = mo - (k : Int)) ∧ Hid (∃ vs, RowsI wr w.heap.size wr.heap.size A' N c' vs (((xsF l).take k).flatMap fun x => growF r (l ++ [x]))) ∧ Hid (Below w.heap.size w wr)) (fun _ i _ => (intOf i + 1).toNat)
      case atStart => exact ⟨0, 0, 0, _, mo, by omega, rfl, rfl, by omega, by show _ = _; omega, ⟨[], o0.out⟩, b0⟩
      case round =>
        clear o0 b0 hcz
        obtain ⟨k, N, c', A', x, hk, rfl, rfl, hNk, hxk, hO, hbw⟩ := hrel
        have zr := hbw.out.size
        have hxl2 := hxl.out
        rw [hlo2.out, ← HMo.out] at hxl2
        have hxk2 := hxk.out
        by_cases hlt : k < (xsF l).length
        · have hx0 : 2 ≤ x := by omega
          have hx00 : 0 ≤ x := by omega
          have hxm : x ≤ mo := by omega
          have hxat : Hid ((xsF l)[k]? = some x) := by
            show _ = _
            rw [xs_at (by rw [← hxl.out]; exact hlt), ← HMo.out, hxk2]
          have hst := hide (flat_stepG (f := fun x => growF r (l ++ [x])) hxat.out)
          have hsb := hide (snoc_bd HBd.out (x := x) (by omega) (by rw [← HMo.out]; exact hxm))
          have hIr := hide (HI.out.below hbw.out hh)
          have bA := below_alloc wr (.cells #[] 3)
          have oA := hide (show (wr.alloc (.cells #[] 3)).ownsRow wr.heap.size 3 1 (.slice (some ⟨wr.heap.size, 0, none⟩) 0 0) 0 [] by simpa using World.ownsRow_lit (size := 1) (e := 3) wr #[] 0 (Nat.le_refl _) (by unfold maxLen; omega) rfl)
          have hsrc := hide ((hIr.out.below bA (by omega)).srcL)
          have hlL := hl.out
          have hrng := hide hIr.out.rng
          have hN9 : N ≤ 4608 := by omega
          clear hxk2 hxl2 hIr hxat
          go_wp2_with (first
            | (at_builtin; refine wpl_app rfl (.tmp 46) (.tmp 47) 22 rfl _ wr.heap.size 3 i0 (.int .i64 0) 1 8 Tryz.underlying22 hi0 hz0 hz1 hz2 rfl (by omega) (some ⟨wr.heap.size, 0, none⟩) 0 0 [] rfl oA.out (some ad) (m + 1) c (l.map (Value.int .i64)) rfl (by simp [hlL]) (fun ad' e => hsrc.out ad' e) (fun e => by cases e) (by intro u hu; obtain ⟨x, _, rfl⟩ := List.mem_map.1 hu; rfl) (by omega) (by omega) (by simp) ?_; intro A3 c3 w3 hap3; have bA3 := hide (hap3.low bA (by simp) (Nat.le_refl _) oA.out); have oA3 := hide (show w3.ownsRow wr.heap.size 3 1 (.slice A3 (m + 1) c3) (m + 1) (l.map (Value.int .i64)) by (have := hap3.1; simpa using this)); have zA3 : wr.heap.size ≤ w3.heap.size := bA3.out.size; clear hap3)
            | (at_builtin; refine wpl_app1b rfl (.tmp 48) (.tmp 50) 22 rfl wr.heap.size 3 i0 (.int .i64 0) 1 8 Tryz.underlying22 hi0 hz0 hz1 hz2 rfl (by omega) _ #[.int .i64 x] _ rfl A3 (m + 1) c3 1 _ rfl (by rfl) oA3.out rfl (by simp [Value.oneCell']) (by omega) (by omega) zA3 ?_; intro A4 c4 w4 hap4 hlt4; have bA4 := hide (hap4.low bA3.out zA3 (Nat.le_refl _) oA3.out); have oA4 := hide hap4.1; have zA4 : wr.heap.size ≤ w4.heap.size := bA4.out.size; clear hap4))
          have oI : OwnI w4 wr.heap.size w4.heap.size A4 ((m + 1) + 1) c4 (l ++ [x]) := ⟨by have := oA4.out; simpa using this, fun ad e => (owns_lt oA4.out ad e).2, fun y hy => by
            have := hsb.out y hy
            rw [List.length_append, hlL] at this
            constructor <;> simp at this <;> omega⟩
          have hrec := hide (IH.out n A4 ((m + 1) + 1) c4 (l ++ [x]) _ _ w4 oI.ints (Nat.le_refl _) (by omega) h4 hsb.out (fun e => by
            obtain ⟨g, e2, _⟩ := oI.form (by omega)
            rw [e] at e2
            cases e2))
          have hcnt := grow_small (r := r) hsb.out (by rw [List.length_append, hlL]; simp; omega) (by omega)
          have hbw4 := hide (hbw.out.trans (bA4.out.mono zr))
          have hO4 : Hid (∃ vs, RowsI w4 w.heap.size wr.heap.size A' N c' vs (((xsF l).take k).flatMap fun x => growF r (l ++ [x]))) := by
            obtain ⟨vs, hv⟩ := hO.out
            exact ⟨vs, hv.below bA4.out (Nat.le_refl _)⟩
          clear oI oA oA3 oA4 bA bA3 bA4 hsrc hO hbw
          refine hrec.out.mono ?_
          rintro e w5 ⟨g5, n5, c5, us, rfl, h5, b5⟩
          have z5 := b5.size
          have hn5 : n5 ≤ 512 := by have := h5.len; omega
          obtain ⟨vs, hv4⟩ := hO4.out
          have hv5 := hide (hv4.below b5 (by omega))
          have H5 := hide h5
          have hb5 := hide (hbw4.out.trans (b5.mono (by omega)))
          have h5c := h5.capb
          have h5o := hide h5.one
          have h5s := hide fun (ad : Addr) (e : some (⟨g5, 0, none⟩ : Addr) = some ad) (j : Nat) (u : Value) (hu : us[j]? = some u) => (show w5.cell? (ad.add j) = some u by
            injection e with e
            subst e
            exact h5.own.cells (g := g5) rfl j u (by simpa using hu))
          have h5l := h5.vlen
          clear hv4 h5 hO4 hrec b5
          go_wp2_with (at_builtin; refine wpl_app rfl (.tmp 44) (.tmp 52) 26 rfl w5 w.heap.size 22 i1 (.slice none 0 0) 1 24 Tryz.underlying26 hi1 hy0 hy1 hy2 rfl (by omega) A' N c' vs rfl hv5.out.own (some ⟨g5, 0, none⟩) n5 c5 us rfl (by omega) h5s.out (fun e => by cases e) h5o.out (by omega) (by omega) (by omega) ?_; intro A6 c6 w6 hap6)
          have hcat := hide (hv5.out.cat (by omega) H5.out (by omega) (Nat.le_refl _) (by omega) hap6)
          have hb6 := hide (hap6.low hb5.out (by omega) (Nat.le_refl _) hv5.out.own)
          rw [← hst.out] at hcat
          clear hap6 hv5 H5 h5s h5o hb5 hbw4
          go_wp2_with fail
          go_roundw
          case rel => exact ⟨k + 1, N + n5, c6, A6, x - 1, by omega, by go_num, rfl, by omega, by show _ = _; have := hxk.out; omega, ⟨_, hcat.out⟩, hb6.out⟩
          case measure => simp [intOf]; omega
        · have hxend : x = 1 := by omega
          have htk : (xsF l).take k = xsF l := List.take_of_length_le (by omega)
          rw [htk, ← hgr.out] at hO
          obtain ⟨vs, hv⟩ := hO.out
          have hv := hide hv
          obtain ⟨g, rfl⟩ : ∃ g, A' = some ⟨g, 0, none⟩ := by
            have hN : 0 < N := by
              have := hv.out.len
              have h2 := grow_pos (r + 1) l HBd.out
              omega
            obtain ⟨_, _, hsh, hsf⟩ := own_shape hv.out.own
            injection hsh with hsh
            cases A' with
            | none => exact absurd (RowsI.nil_n hv.out) (by omega)
            | some ad => exact ⟨ad.block, by rw [hsf ad hsh.symm]⟩
          subst hxend
          clear hxk hxk2 hxl2 htk hO
          go_wp2_with fail
          go_ret
          exact ⟨g, N, c', vs, rfl, hv.out, hbw.out⟩
end Go.Proofs.YtkaepjigmcielaaGreatDoor
