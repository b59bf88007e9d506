/- impl.sorted, whatever the step of the levels: the program's walk. -/
import Derived.Test.YtkaepjigmcielaaGreatDoorMzN
import Derived.Shelf.SlicesE.IndexFunc
import Derived.Shelf.SlicesQ.IndexFunc
import Derived.Shelf.Sort.Plain
import Derived.Shelf.Bits.Mul64
import Derived.Shelf.SlGeneric
import Derived.Ground.SlgfProg
import Derived.Ground.NamesProg
import Derived.Test.YtkaepjigmcielaaGreatDoorChecked
import Derived.Test.YtkaepjigmcielaaGreatDoorMzC
namespace Go.Proofs.YtkaepjigmcielaaGreatDoor
open Go.RowKit
set_option linter.unusedSimpArgs false
set_option linter.unusedVariables false
set_option maxRecDepth 20000

theorem parts_flatG (st : Int) : ∀ (r : List Int) (acc : List (List Int)), (partsG st acc r).flatten = acc.flatten ++ r.map (· - st)
  | [], acc => by simp [partsG]
  | n :: r, acc => by
    rw [partsG, parts_flatG st r, flat_push]
    split <;> simp
theorem partsG_len (st : Int) : ∀ (r : List Int) (acc : List (List Int)), acc ≠ [] ∨ (∀ n ∈ r.head?, n - st < st) → (partsG st acc r).length ≤ acc.length + r.length
  | [], acc, _ => by simp [partsG]
  | n :: r, acc, h => by
    rw [partsG]
    by_cases hn : n - st < st
    · rw [if_pos hn]
      have h1 := partsG_len st r (pushLast (acc ++ [[]]) (n - st)) (.inl (by unfold pushLast; simp))
      rw [pushLast_len _ _ (by simp)] at h1
      simp at h1 ⊢
      omega
    · rw [if_neg hn]
      have ha : acc ≠ [] := by
        rcases h with h | h
        · exact h
        · exact absurd (h n (by simp)) hn
      have h1 := partsG_len st r (pushLast acc (n - st)) (.inl (by unfold pushLast; simp))
      rw [pushLast_len _ _ ha] at h1
      simp
      omega
theorem partsG_mem_len {st : Int} {r : List Int} {p : List Int} (h : p ∈ partsG st [] r) : p.length ≤ r.length := by
  have h1 := len_flat h
  rw [parts_flatG] at h1
  simpa using h1
theorem perm_flat_mapG {st : Int} {f : List Int → List Int} : ∀ (ps : List (List Int)), (∀ p ∈ ps, (f p).Perm p) → ((ps.map f).flatMap (·.map (· + st))).Perm (ps.flatten.map (· + st))
  | [], _ => List.Perm.refl _
  | p :: r, h => by
    rw [List.map_cons, List.flatMap_cons, List.flatten_cons, List.map_append]
    exact ((h p (by simp)).map _).append (perm_flat_mapG r fun q hq => h q (List.mem_cons_of_mem _ hq))
theorem formG_perm (st : Int) : ∀ (k : Nat) (l : List Int), (formG k st l).Perm l
  | 0, _ => List.Perm.refl _
  | _ + 1, [] => List.Perm.refl _
  | k + 1, a :: r => by
    rw [formG]
    refine List.Perm.cons a ?_
    refine ((sortF_perm _).flatMap_right _).trans ((perm_flat_mapG _ fun p _ => formG_perm st k p).trans ?_)
    rw [parts_flatG]
    have e : (([] : List (List Int)).flatten ++ r.map (· - st)).map (· + st) = r := by
      simp [List.map_map, Function.comp_def]
    rw [e]
theorem okG_parts {st : Int} {k : Nat} {l : List Int} (h : okG (k + 1) st l = true) : ∃ a r, l = a :: r ∧ 0 ≤ a ∧ a ≤ 1000 ∧ (∀ x ∈ r, st ≤ x) ∧ (∀ x ∈ r, x ≤ 1000) ∧ (∀ x ∈ r.head?, x - st < st) ∧ ∀ p ∈ partsG st [] r, okG k st p = true := by
  cases l with
  | nil => cases h
  | cons a r =>
    rw [okG] at h
    simp only [Bool.and_eq_true, decide_eq_true_eq, List.all_eq_true] at h
    obtain ⟨⟨⟨h1, h2⟩, h3⟩, h4⟩ := h
    refine ⟨a, r, rfl, h1.1, h1.2, fun x hx => (h2 x hx).1, fun x hx => (h2 x hx).2, fun x hx => ?_, h4⟩
    cases r with
    | nil => simp at hx
    | cons y r =>
      obtain rfl : y = x := by simpa using hx
      simpa using h3
theorem okG_pos {st : Int} {k : Nat} {l : List Int} (h : okG k st l = true) : 0 < l.length := by
  cases k with
  | zero => cases h
  | succ k =>
    obtain ⟨a, r, rfl, _⟩ := okG_parts h
    simp
def flatG (st : Int) (s : List (List Int)) : List Int := s.flatMap (·.map (· + st))
theorem flatG_len {st : Int} (s : List (List Int)) : (flatG st s).length = s.flatten.length := by
  unfold flatG
  induction s with
  | nil => rfl
  | cons p r ih => rw [List.flatMap_cons, List.flatten_cons, List.length_append, List.length_append, ih, List.length_map]
theorem flatG_take {st : Int} {s : List (List Int)} {j : Nat} {p : List Int} (h : s[j]? = some p) : flatG st (s.take (j + 1)) = flatG st (s.take j) ++ p.map (· + st) := by
  unfold flatG
  rw [List.take_add_one, h]
  simp
theorem flatG_take_len {st : Int} {s : List (List Int)} {j : Nat} {p : List Int} (h : s[j]? = some p) : (flatG st (s.take j)).length + p.length ≤ s.flatten.length := by
  have h1 := flatG_take (st := st) h
  have h2 : (flatG st (s.take (j + 1))).length ≤ (flatG st s).length := by
    have : flatG st s = flatG st (s.take (j + 1)) ++ flatG st (s.drop (j + 1)) := by
      unfold flatG
      rw [← List.flatMap_append, List.take_append_drop]
    rw [this, List.length_append]
    omega
  rw [h1, List.length_append, List.length_map, flatG_len s] at h2
  exact h2

/-- the rows when the first j of them have been put into form -/
def uptoG (st : Int) (k j : Nat) (ps : List (List Int)) : List (List Int) := (ps.take j).map (formG k st) ++ ps.drop j
theorem uptoG_zero (st : Int) (k : Nat) (ps : List (List Int)) : uptoG st k 0 ps = ps := by simp [uptoG]
theorem uptoG_all (st : Int) (k : Nat) (ps : List (List Int)) : uptoG st k ps.length ps = ps.map (formG k st) := by simp [uptoG]
theorem uptoG_at {st : Int} {k j : Nat} {ps : List (List Int)} {p : List Int} (h : ps[j]? = some p) : (uptoG st k j ps)[j]? = some p := by
  have hl := (List.getElem?_eq_some_iff.1 h).1
  unfold uptoG
  rw [List.getElem?_append_right (by simp; omega)]
  simp [Nat.min_eq_left (Nat.le_of_lt hl), h]
theorem uptoG_set {st : Int} {k j : Nat} {ps : List (List Int)} {p : List Int} (h : ps[j]? = some p) : (uptoG st k j ps).set j (formG k st p) = uptoG st k (j + 1) ps := by
  have hl := (List.getElem?_eq_some_iff.1 h).1
  unfold uptoG
  have e : ((ps.take j).map (formG k st)).length = j := by simp; omega
  rw [List.set_append_right _ _ (by omega), e, Nat.sub_self, List.take_add_one, h]
  have hd : ps.drop j = p :: ps.drop (j + 1) := by
    rw [List.drop_eq_getElem_cons hl]
    have := List.getElem?_eq_getElem hl
    rw [h] at this
    injection this with this
    rw [this]
  rw [hd]
  simp

theorem formG_len (st : Int) (k : Nat) (l : List Int) : (formG k st l).length = l.length := (formG_perm st k l).length_eq
theorem map_flat_lenG (st : Int) (k : Nat) : ∀ ps : List (List Int), (ps.map (formG k st)).flatten.length = ps.flatten.length
  | [] => rfl
  | p :: r => by rw [List.map_cons, List.flatten_cons, List.flatten_cons, List.length_append, List.length_append, formG_len, map_flat_lenG st k r]
theorem sorted_flat_lenG (st : Int) (k : Nat) (r : List Int) : (sortF ((partsG st [] r).map (formG k st))).flatten.length = r.length := by
  rw [flatten_perm (sortF_perm _), map_flat_lenG, parts_flatG]
  simp
theorem sorted_memG {st : Int} {k : Nat} {r : List Int} {p : List Int} (h : p ∈ sortF ((partsG st [] r).map (formG k st))) : ∀ x ∈ p, x + st ∈ r := by
  intro x hx
  have h1 := (sortF_perm _).mem_iff.1 h
  obtain ⟨q, hq, rfl⟩ := List.mem_map.1 h1
  have h2 := (formG_perm st k q).mem_iff.1 hx
  have h3 : x ∈ (partsG st [] r).flatten := List.mem_flatten.2 ⟨q, hq, h2⟩
  rw [parts_flatG] at h3
  obtain ⟨y, hy, rfl⟩ := List.mem_map.1 (by simpa using h3 : x ∈ r.map (· - st))
  simpa using hy
theorem own_snocG {st : Int} {w0 w4 : World} {lo n c c4 : Nat} {A A4 : Option Addr} {xs p : List Int} {u : Nat} {x : Int} (h : Appended w0 lo 3 1 A n c A4 (n + 1) c4 ((xs ++ (p.take u).map (· + st)).map (Value.int .i64) ++ [.int .i64 (x + st)]) w4) (hx : p[u]? = some x) (hr : ∀ y ∈ xs ++ (p.take (u + 1)).map (· + st), R64 y) : OwnI w4 lo w4.heap.size A4 (n + 1) c4 (xs ++ (p.take (u + 1)).map (· + st)) :=
  ⟨by
    have := h.1
    rw [List.take_add_one, hx]
    simpa using this, fun ad e => (owns_lt h.1 ad e).2, hr⟩
theorem start_okG {st : Int} {w : World} {lo hi n c : Nat} {A : Option Addr} {xs p : List Int} (h : OwnI w lo hi A n c xs) : OwnI w lo hi A n c (xs ++ (p.take 0).map (· + st)) := by simpa using h
theorem r64_snocG {st : Int} {xs p : List Int} {u : Nat} {x : Int} (h : ∀ y ∈ xs ++ (p.take u).map (· + st), R64 y) (hx : p[u]? = some x) (hr : 0 ≤ x + st ∧ x + st ≤ 1000) : ∀ y ∈ xs ++ (p.take (u + 1)).map (· + st), R64 y := by
  intro y hy
  rw [List.take_add_one, hx, List.map_append, ← List.append_assoc] at hy
  rcases List.mem_append.1 hy with hy | hy
  · exact h y hy
  · obtain rfl : y = x + st := by simpa using hy
    constructor <;> omega
theorem r64_oneG {st a : Int} (h0 : 0 ≤ a) (h2 : a ≤ 1000) : ∀ x ∈ a :: flatG st (([] : List (List Int)).take 0), R64 x := by
  intro x hx
  obtain rfl : x = a := by simpa [flatG] using hx
  constructor <;> omega
theorem formG_unfold (st : Int) (k : Nat) (a : Int) (r : List Int) : formG (k + 1) st (a :: r) = a :: flatG st (sortF ((partsG st [] r).map (formG k st))) := rfl

set_option maxHeartbeats 4000000 in
theorem impl_sortedG (st : Int) (hs1 : 1 ≤ st) (hs2 : st ≤ 2) : ∀ (k gw n c : Nat) (l : List Int) (lo hi : Nat) (w : World), Ints w lo hi (some ⟨gw, 0, none⟩) n c l → hi ≤ w.heap.size → okG k st l = true → l.length ≤ 4 →
    Calls Tryz.prog 62 #[.slice (some ⟨gw, 0, none⟩) n c, .int .i64 st] w fun e w' => ∃ g' c', e = .returned (.slice (some ⟨g', 0, none⟩) n c') ∧ OwnI w' w.heap.size w'.heap.size (some ⟨g', 0, none⟩) n c' (formG k st l) ∧ Below w.heap.size w w' := by
  intro k
  induction k with
  | zero =>
    intro gw n c l lo hi w h hh hg
    cases hg
  | succ k ih =>
    intro gw n c l lo hi w h hh hgood hl4
    obtain ⟨a, r, rfl, ha0, ha2, hr2, hr3, hh4, hp⟩ := okG_parts hgood
    obtain ⟨i0, hi0, hz0, hz1, hz2⟩ := info_parts info_int
    have hln : r.length + 1 = n := h.len
    have hrk : r.length ≤ 3 := by simpa using hl4
    have hm := h.max
    have hcp := h.cap
    have hnum : (partsG st [] r).length ≤ r.length := by have := partsG_len st r [] (.inr hh4); simpa using this
    have HB := hide (impl_branchListsG st hs1 hs2 gw n c a r lo hi w h hh (by omega) hr2 hh4)
    have HI := hide h
    have HP := hide hp
    have HBD := hide hr3
    have IH := hide ih
    have HLN := hide hln
    have hnk : n ≤ 4 := by omega
    have hn1p : 1 ≤ n := by omega
    have HR2 := hide hr2
    clear h hp hr3 ih hgood hh4 hr2 hl4 hln
    go_enter Tryz.func62, Tryz.ntmps62
    go_wp2_with fail
    refine HB.out.mono ?_
    rintro e w1 ⟨g1, n1, c1, vs, rfl, hO, b1⟩
    have hR := hide hO.rows
    have hcb1 := hO.capb
    have hpl := hide hO.len
    have hn1 : n1 ≤ 3 := by
      have := hO.len
      omega
    have z1 := b1.size
    have hg1 : w.heap.size ≤ g1 ∧ g1 < w1.heap.size := hO.own.lt g1 rfl
    clear hO HB
    go_wp2_with fail
    go_loopw [6, 17] (fun _ i wr => ∃ j : Nat, j ≤ n1 ∧ i = .int .i64 j ∧ Hid (Below w.heap.size w wr) ∧ w1.heap.size ≤ wr.heap.size ∧ Hid (∃ vs', RowsI wr w.heap.size wr.heap.size (some ⟨g1, 0, none⟩) n1 c1 vs' (uptoG st k j (partsG st [] r)))) (fun _ i _ => n1 - (intOf i).toNat)
    case atStart => exact ⟨0, by omega, rfl, b1, Nat.le_refl _, _, by rw [uptoG_zero]; exact hR.out⟩
    case round =>
      obtain ⟨j, hj, rfl, hb, hzr, hrel⟩ := hrel
      obtain ⟨vs', hI⟩ := hrel.out
      have zr := hb.out.size
      by_cases hlt : j < n1
      · obtain ⟨p, hpj⟩ : ∃ p, (partsG st [] r)[j]? = some p := ⟨_, List.getElem?_eq_getElem (by have := hpl.out; omega)⟩
        obtain ⟨B, m, d, l', h', p', hc, hin, e3, e4, hx, hv, hform⟩ := hI.at_ hlt
        obtain rfl : p = p' := by have := hx.out; rw [uptoG_at hpj] at this; injection this
        have hpm := List.mem_of_getElem? hpj
        have hgp := HP.out p hpm
        have hmp : 0 < m := by
          have h1 := okG_pos hgp
          have := hin.len
          omega
        obtain ⟨ad, rfl, _⟩ := hin.cells hmp
        obtain ⟨b, hb0⟩ : ∃ b, ad = ⟨b, 0, none⟩ := ⟨_, hform ad rfl⟩
        subst hb0
        have hcall := hide (IH.out b m d p l' h' wr hin (by omega) hgp (by have := partsG_mem_len hpm; omega))
        have HII := hide hI
        have HPJ := hide hpj
        have hgr : g1 < wr.heap.size := by omega
        clear hI hrel hform hin hpj hgp hpm hx hv
        go_wp2_with fail
        refine hcall.out.mono ?_
        rintro e w2 ⟨g2, c2, rfl, o2, b2⟩
        have z2 := b2.size
        have own2 := owns_below HII.out.own b2 (fun ad e => by injection e with e; subst e; exact hgr)
        have hf2 := own2.frozenAt j
        have hvj : ∃ v, w2.cell? ⟨g1, j, none⟩ = some v := by
          have := own2.cellAt j (by omega)
          have hl := HII.out.vlen
          exact ⟨_, this.trans (List.getElem?_eq_getElem (by omega))⟩
        obtain ⟨v, hvj⟩ := hvj
        have HN := hide (HII.out.put (Nat.le_refl _) b2 o2.ints (Nat.le_refl _) (hi2 := w2.heap.size) (Nat.le_refl _) z2 hlt)
        have HB2 := hide ((hb.out.trans (b2.mono zr)).setCell (p := ⟨g1, j, none⟩) hg1.1 (.slice (some ⟨g2, 0, none⟩) m c2))
        have HZ : w1.heap.size ≤ (w2.setCell ⟨g1, j, none⟩ (.slice (some ⟨g2, 0, none⟩) m c2)).heap.size := by simpa [World.setCell] using (by omega : w1.heap.size ≤ w2.heap.size)
        have HS : (w2.setCell ⟨g1, j, none⟩ (.slice (some ⟨g2, 0, none⟩) m c2)).heap.size = w2.heap.size := by simp [World.setCell]
        rw [uptoG_set HPJ.out, ← HS] at HN
        clear own2 o2 HS HII hcall
        go_wp2_with fail
        go_roundw
        case rel => exact ⟨j + 1, by omega, by go_num, HB2.out, HZ, _, HN.out⟩
        case measure => simp [intOf]; omega
      · obtain rfl : j = n1 := by omega
        have hI2 : RowsI wr w.heap.size wr.heap.size (some ⟨g1, 0, none⟩) j c1 vs' ((partsG st [] r).map (formG k st)) := by
          rw [← uptoG_all, hpl.out]
          exact hI
        have hS := hide (sort_rows hI2 (by omega) (Nat.le_refl _))
        have hcs := hide (sorted_flat_lenG st k r)
        have hmem := hide (fun p (hp : p ∈ sortF ((partsG st [] r).map (formG k st))) => sorted_memG hp)
        have hfu := hide (formG_unfold st k a r)
        obtain ⟨ss, hss⟩ : ∃ ss, ss = sortF ((partsG st [] r).map (formG k st)) := ⟨_, rfl⟩
        rw [← hss] at hS hcs hmem hfu
        clear hI hI2 hrel hpl hss IH HP hR
        go_wp2_with fail
        refine hS.out.mono ?_
        rintro e w2 ⟨rfl, vs2, hR2, t2⟩
        have hb2 : Below w.heap.size w w2 := hb.out.trans (t2.below hg1.1 zr)
        have z2 := hb2.size
        have zz2 := t2.size
        have hR3 := hide (hR2.wide (hi2 := w2.heap.size) (by omega))
        have hca : w2.cell? ⟨gw, 0, none⟩ = some (.int .i64 a) := by
          obtain ⟨ad, e, _, _, hc⟩ := (HI.out.below hb2 hh).cells (by omega)
          injection e with e
          subst e
          simpa [Addr.add] using hc 0 a rfl
        have HB2 := hide hb2
        have hfl : ∀ j p, ss[j]? = some p → (flatG st (ss.take j)).length + p.length ≤ r.length := fun j p h => by have := flatG_take_len (st := st) h; rw [hcs.out] at this; exact this
        have HFL := hide hfl
        have hr64 : ∀ x ∈ a :: r, 0 ≤ x ∧ x ≤ 1000 := fun x hx => by
          rcases List.mem_cons.1 hx with rfl | hx
          · exact ⟨ha0, ha2⟩
          · have := HR2.out x hx
            have := HBD.out x hx
            omega
        have HR64 := hide hr64
        clear hR2 hb2 hb t2 hfl hr64
        go_wp2_with fail
        have ow := World.ownsRow_lit (size := 1) (e := 3) w2 #[.int .i64 a] 1 (Nat.le_refl _) (by unfold maxLen; omega) rfl
        have a3 := below_alloc w2 (.cells #[.int .i64 a] 3)
        generalize World.alloc w2 (.cells #[.int .i64 a] 3) = w3 at ow a3 ⊢
        have z3 := a3.size
        have hsl : ss.length = j := hR3.out.len
        have HSL := hide hsl
        clear hsl hca
        go_loopw [7, 9, 11, 38] (fun o _ _ i wr => ∃ (q N c' : Nat) (A : Option Addr), q ≤ j ∧ i = .int .i64 q ∧ o = .slice A N c' ∧ Hid (OwnI wr w2.heap.size wr.heap.size A N c' (a :: flatG st (ss.take q))) ∧ Hid (Below w2.heap.size w2 wr)) (fun _ _ _ i _ => j - (intOf i).toNat)
        case atStart => exact ⟨0, 1, 1, _, by omega, rfl, rfl, ⟨ow, fun ad e => (owns_lt ow ad e).2, r64_oneG ha0 ha2⟩, a3⟩
        case round =>
          obtain ⟨q, N, c', A, hq, rfl, rfl, hO, hbr⟩ := hrel
          have zr2 := hbr.out.size
          by_cases hlt2 : q < j
          · obtain ⟨B, m, d, l', h', p, hc, hin, e3, e4, hx, _, hform⟩ := hR3.out.at_ hlt2
            clear hform
            have hc := (hbr.out.cell (p := ⟨g1, q, none⟩) (by show g1 < w2.heap.size; omega)).trans hc
            have hIN := hide hin
            have hcpp := hin.cap
            have hmp := hin.max
            have hml := hide hin.len
            have hNl := hide hO.out.len
            have hfl := HFL.out q p hx.out
            have HFp := hide hfl
            have hft := hide (flatG_take (st := st) hx.out)
            have hmem2 := hide (hmem.out p (List.mem_of_getElem? hx.out))
            clear hin hfl
            go_wp2_with fail
            obtain ⟨wo, rfl⟩ : ∃ wo : World, wo = wr := ⟨_, rfl⟩
            go_loopw [7, 11, 44] (fun o _ i wr => ∃ (u N c' : Nat) (A : Option Addr), u ≤ m ∧ i = .int .i64 u ∧ o = .slice A N c' ∧ Hid (OwnI wr w2.heap.size wr.heap.size A N c' (a :: flatG st (ss.take q) ++ (p.take u).map (· + st))) ∧ Hid (Below w2.heap.size w2 wr)) (fun _ _ i _ => m - (intOf i).toNat)
            case atStart => exact ⟨0, N, c', A, by omega, rfl, rfl, start_okG hO.out, hbr.out⟩
            case round =>
              obtain ⟨u, N2, c2, A2, hu, rfl, rfl, hO2, hbr2⟩ := hrel
              have zr3 := hbr2.out.size
              by_cases hlt3 : u < m
              · obtain ⟨ad, x, rfl, hcx, hxr, _, hxu⟩ := (hIN.out.below hbr2.out (by omega)).at_ hlt3
                have hx0 := hmem2.out x (List.mem_of_getElem? hxu.out)
                have hx1 := HR64.out (x + st) (List.mem_cons_of_mem _ hx0)
                have hNN : N2 ≤ 4 := by
                  have e1 := hO2.out.len
                  have e2 := HFp.out
                  have e3 := hml.out
                  simp at e1
                  omega
                have hO3 := hide hO2.out.own
                go_wp2_with (at_builtin; refine wpl_app1b rfl (.tmp 48) (.tmp 52) 22 rfl w2.heap.size 3 i0 (.int .i64 0) 1 8 Tryz.underlying22 hi0 hz0 hz1 hz2 rfl (by omega) wr #[.int .i64 (x + st)] _ rfl A2 N2 c2 1 _ rfl rfl hO3.out rfl (by simp [Value.oneCell']) (by omega) (by omega) zr3 ?_; intro A4 c4 w4 happ hlt4; have HB4 := hide (happ.low hbr2.out zr3 (Nat.le_refl _) hO3.out); have HO4 := hide (own_snocG happ hxu.out (r64_snocG hO2.out.rng hxu.out hx1)); clear happ)
                go_roundw
                case rel => exact ⟨u + 1, N2 + 1, c4, A4, by omega, by go_num, rfl, HO4.out, HB4.out⟩
                case measure => simp [intOf]; omega
              · obtain rfl : u = m := by omega
                have hO5 : OwnI wr w2.heap.size wr.heap.size A2 N2 c2 (a :: flatG st (ss.take (q + 1))) := by
                  have e : p.take u = p := List.take_of_length_le (by have := hml.out; omega)
                  have := hO2.out
                  rw [e] at this
                  rw [hft.out]
                  exact this
                have HO5 := hide hO5
                clear hO5 hO2
                go_wp2_with fail
                go_roundw
                case rel => exact ⟨q + 1, N2, c2, A2, by omega, by go_num, rfl, HO5.out, hbr2.out⟩
                case measure => simp [intOf]; omega
          · obtain rfl : q = j := by omega
            have hO5 : OwnI wr w2.heap.size wr.heap.size A N c' (formG (k + 1) st (a :: r)) := by
              have e : ss.take q = ss := List.take_of_length_le (by have := HSL.out; omega)
              have := hO.out
              rw [e] at this
              rw [hfu.out]
              exact this
            have hN : N = n := by
              have e1 := hO5.len
              rw [formG_len] at e1
              have := HLN.out
              simp at e1
              omega
            obtain ⟨g9, rfl, _⟩ := hO5.form (by omega)
            subst hN
            have HO5 := hide hO5
            clear hO5 hO
            go_wp2_with fail
            go_ret
            exact ⟨g9, c', rfl, HO5.out.wide (by omega) (Nat.le_refl _), HB2.out.trans (hbr.out.mono z2)⟩
end Go.Proofs.YtkaepjigmcielaaGreatDoor
/- slices.IndexFunc, slices.Sort and bits.Mul: the library's laying at this dump, printed by the shelf's plain mode. -/
namespace Go.Proofs.YtkaepjigmcielaaGreatDoor
open Go.Shelf
set_option linter.unusedSimpArgs false
set_option linter.unusedVariables false
set_option maxRecDepth 20000
def sh_idxQ_ren : Go.Shelf.Ren := ⟨fun | 6 => 93 | n => n, fun | 22 => 56 | 23 => 62 | 25 => 103 | 3 => 3 | 0 => 0 | 4 => 4 | n => n, fun | n => n⟩
theorem sh_idxQ : Go.Proofs.SlLaysH0.n6 Tryz.prog sh_idxQ_ren := {
  mixed := by kernel_rfl
  f6 := ⟨Tryz.f93.name, by decide, Tryz.func93.trans (congrArg some (by kernel_rfl))⟩
  t0 := Tryz.underlying0
  a0 := Tryz.isAgg0
  z0 := Tryz.sizeOf0
  v0 := Tryz.zeroValue0
  t3 := Tryz.underlying3
  a3 := Tryz.isAgg3
  z3 := Tryz.sizeOf3
  v3 := Tryz.zeroValue3
  t4 := Tryz.underlying4
  a4 := Tryz.isAgg4
  z4 := Tryz.sizeOf4
  v4 := Tryz.zeroValue4
  t22 := Tryz.underlying56
  a22 := Tryz.isAgg56
  z22 := Tryz.sizeOf56
  v22 := Tryz.zeroValue56
  t25 := Tryz.underlying103
  a25 := Tryz.isAgg103
  z25 := Tryz.sizeOf103
  v25 := Tryz.zeroValue103 }
def sh_sortI_ren : Go.Shelf.Ren := ⟨fun | 189 => 71 | 125 => 90 | 257 => 95 | 128 => 111 | 129 => 112 | 294 => 116 | 295 => 117 | 296 => 118 | 297 => 119 | 298 => 120 | 299 => 121 | 216 => 122 | 300 => 123 | 301 => 124 | 328 => 132 | 329 => 128 | 330 => 129 | 331 => 133 | 332 => 134 | 215 => 113 | 343 => 136 | n => n, fun | 28 => 22 | 3 => 3 | 46 => 101 | 0 => 0 | 51 => 117 | 53 => 119 | 4 => 4 | 183 => 110 | 182 => 109 | 131 => 114 | 5 => 5 | 9 => 9 | 218 => 128 | 222 => 132 | 228 => 136 | 229 => 137 | n => n, fun | n => n⟩
theorem sh_sortI : Go.Proofs.Lays.n189 Tryz.prog sh_sortI_ren := {
  mixed := by kernel_rfl
  f125 := Tryz.func90.trans (congrArg some (by kernel_rfl))
  f128 := Tryz.func111.trans (congrArg some (by kernel_rfl))
  f129 := Tryz.func112.trans (congrArg some (by kernel_rfl))
  f189 := Tryz.func71.trans (congrArg some (by kernel_rfl))
  f215 := Tryz.func113.trans (congrArg some (by kernel_rfl))
  f216 := Tryz.func122.trans (congrArg some (by kernel_rfl))
  f257 := Tryz.func95.trans (congrArg some (by kernel_rfl))
  f294 := Tryz.func116.trans (congrArg some (by kernel_rfl))
  f295 := Tryz.func117.trans (congrArg some (by kernel_rfl))
  f296 := Tryz.func118.trans (congrArg some (by kernel_rfl))
  f297 := Tryz.func119.trans (congrArg some (by kernel_rfl))
  f298 := Tryz.func120.trans (congrArg some (by kernel_rfl))
  f299 := Tryz.func121.trans (congrArg some (by kernel_rfl))
  f300 := Tryz.func123.trans (congrArg some (by kernel_rfl))
  f301 := Tryz.func124.trans (congrArg some (by kernel_rfl))
  f328 := Tryz.func132.trans (congrArg some (by kernel_rfl))
  f329 := Tryz.func128.trans (congrArg some (by kernel_rfl))
  f330 := Tryz.func129.trans (congrArg some (by kernel_rfl))
  f331 := Tryz.func133.trans (congrArg some (by kernel_rfl))
  f332 := Tryz.func134.trans (congrArg some (by kernel_rfl))
  f343 := Tryz.func136.trans (congrArg some (by kernel_rfl))
  t0 := Tryz.underlying0
  a0 := Tryz.isAgg0
  z0 := Tryz.sizeOf0
  v0 := Tryz.zeroValue0
  t3 := Tryz.underlying3
  a3 := Tryz.isAgg3
  z3 := Tryz.sizeOf3
  v3 := Tryz.zeroValue3
  t4 := Tryz.underlying4
  a4 := Tryz.isAgg4
  z4 := Tryz.sizeOf4
  v4 := Tryz.zeroValue4
  t5 := Tryz.underlying5
  a5 := Tryz.isAgg5
  z5 := Tryz.sizeOf5
  v5 := Tryz.zeroValue5
  t9 := Tryz.underlying9
  a9 := Tryz.isAgg9
  z9 := Tryz.sizeOf9
  v9 := Tryz.zeroValue9
  t28 := Tryz.underlying22
  a28 := Tryz.isAgg22
  z28 := Tryz.sizeOf22
  v28 := Tryz.zeroValue22
  t46 := Tryz.underlying101
  a46 := Tryz.isAgg101
  z46 := Tryz.sizeOf101
  v46 := Tryz.zeroValue101
  t51 := Tryz.underlying117
  a51 := Tryz.isAgg117
  z51 := Tryz.sizeOf117
  v51 := Tryz.zeroValue117
  t53 := Tryz.underlying119
  a53 := Tryz.isAgg119
  z53 := Tryz.sizeOf119
  v53 := Tryz.zeroValue119
  t131 := Tryz.underlying114
  a131 := Tryz.isAgg114
  z131 := Tryz.sizeOf114
  v131 := Tryz.zeroValue114
  t182 := Tryz.underlying109
  a182 := Tryz.isAgg109
  z182 := Tryz.sizeOf109
  v182 := Tryz.zeroValue109
  t183 := Tryz.underlying110
  a183 := Tryz.isAgg110
  z183 := Tryz.sizeOf110
  v183 := Tryz.zeroValue110
  t218 := Tryz.underlying128
  a218 := Tryz.isAgg128
  z218 := Tryz.sizeOf128
  v218 := Tryz.zeroValue128
  t222 := Tryz.underlying132
  a222 := Tryz.isAgg132
  z222 := Tryz.sizeOf132
  v222 := Tryz.zeroValue132
  t228 := Tryz.underlying136
  a228 := Tryz.isAgg136
  z228 := Tryz.sizeOf136
  v228 := Tryz.zeroValue136
  t229 := Tryz.underlying137
  a229 := Tryz.isAgg137
  z229 := Tryz.sizeOf137
  v229 := Tryz.zeroValue137 }
end Go.Proofs.YtkaepjigmcielaaGreatDoor
/- Pairs of tableaus: the statements' helpers, PairOk of both texts. -/
namespace Go.Proofs.YtkaepjigmcielaaGreatDoor
open Go.RowKit
set_option linter.unusedSimpArgs false
set_option linter.unusedVariables false
set_option maxRecDepth 20000

end Go.Proofs.YtkaepjigmcielaaGreatDoor
