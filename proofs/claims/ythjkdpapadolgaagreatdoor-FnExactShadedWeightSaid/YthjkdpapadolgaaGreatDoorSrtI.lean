/- impl.sorted returns the greatest list of a shaded tree. -/
import Derived.Test.YthjkdpapadolgaaGreatDoorBrW
import Derived.Test.YthjkdpapadolgaaGreatDoorSrtW
namespace Go.Proofs.YthjkdpapadolgaaGreatDoor
open Go.RowKit
set_option linter.unusedSimpArgs false
set_option linter.unusedVariables false
set_option maxRecDepth 20000

def flat2 (s : List (List Int)) : List Int := s.flatMap (·.map (· + 2))
theorem flat2_len (s : List (List Int)) : (flat2 s).length = s.flatten.length := by
  unfold flat2
  induction s with
  | nil => rfl
  | cons p r ih => rw [List.flatMap_cons, List.flatten_cons, List.length_append, List.length_append, ih, List.length_map]
theorem flat2_take {s : List (List Int)} {j : Nat} {p : List Int} (h : s[j]? = some p) : flat2 (s.take (j + 1)) = flat2 (s.take j) ++ p.map (· + 2) := by
  unfold flat2
  rw [List.take_add_one, h]
  simp
theorem flat2_take_len {s : List (List Int)} {j : Nat} {p : List Int} (h : s[j]? = some p) : (flat2 (s.take j)).length + p.length ≤ s.flatten.length := by
  have h1 := flat2_take h
  have h2 : (flat2 (s.take (j + 1))).length ≤ (flat2 s).length := by
    have : flat2 s = flat2 (s.take (j + 1)) ++ flat2 (s.drop (j + 1)) := by
      unfold flat2
      rw [← List.flatMap_append, List.take_append_drop]
    rw [this, List.length_append]
    omega
  rw [h1, List.length_append, List.length_map, flat2_len s] at h2
  exact h2

/-- the rows when the first j of them have been put into form -/
def upto (k j : Nat) (ps : List (List Int)) : List (List Int) := (ps.take j).map (formF k) ++ ps.drop j
theorem upto_zero (k : Nat) (ps : List (List Int)) : upto k 0 ps = ps := by simp [upto]
theorem upto_all (k : Nat) (ps : List (List Int)) : upto k ps.length ps = ps.map (formF k) := by simp [upto]
theorem upto_at {k j : Nat} {ps : List (List Int)} {p : List Int} (h : ps[j]? = some p) : (upto k j ps)[j]? = some p := by
  have hl := (List.getElem?_eq_some_iff.1 h).1
  unfold upto
  rw [List.getElem?_append_right (by simp; omega)]
  simp [Nat.min_eq_left (Nat.le_of_lt hl), h]
theorem upto_set {k j : Nat} {ps : List (List Int)} {p : List Int} (h : ps[j]? = some p) : (upto k j ps).set j (formF k p) = upto k (j + 1) ps := by
  have hl := (List.getElem?_eq_some_iff.1 h).1
  unfold upto
  have e : ((ps.take j).map (formF k)).length = j := by simp; omega
  rw [List.set_append_right _ _ (by omega), e, Nat.sub_self, List.take_add_one, h]
  have hd : ps.drop j = p :: ps.drop (j + 1) := by
    rw [List.drop_eq_getElem_cons hl]
    have := List.getElem?_eq_getElem hl
    rw [h] at this
    injection this with this
    rw [this]
  rw [hd]
  simp

theorem form_len (k : Nat) (l : List Int) : (formF k l).length = l.length := (form_perm k l).length_eq
theorem flatten_perm {us vs : List (List Int)} (h : us.Perm vs) : us.flatten.length = vs.flatten.length := by
  have := (perm_flatMap (f := id) h).length_eq
  simpa [List.flatMap_id] using this
theorem map_flat_len (k : Nat) : ∀ ps : List (List Int), (ps.map (formF k)).flatten.length = ps.flatten.length
  | [] => rfl
  | p :: r => by rw [List.map_cons, List.flatten_cons, List.flatten_cons, List.length_append, List.length_append, form_len, map_flat_len k r]
theorem sorted_flat_len (k : Nat) (r : List Int) : (sortF ((partsF [] r).map (formF k))).flatten.length = r.length := by
  rw [flatten_perm (sortF_perm _), map_flat_len, parts_flat]
  simp
theorem sorted_mem {k : Nat} {r : List Int} {p : List Int} (h : p ∈ sortF ((partsF [] r).map (formF k))) : ∀ x ∈ p, x + 2 ∈ r := by
  intro x hx
  have h1 := (sortF_perm _).mem_iff.1 h
  obtain ⟨q, hq, rfl⟩ := List.mem_map.1 h1
  have h2 := (form_perm k q).mem_iff.1 hx
  have h3 : x ∈ (partsF [] r).flatten := List.mem_flatten.2 ⟨q, hq, h2⟩
  rw [parts_flat] at h3
  obtain ⟨y, hy, rfl⟩ := List.mem_map.1 (by simpa using h3 : x ∈ r.map (· - 2))
  simpa using hy
theorem own_snoc {w0 w4 : World} {lo n c c4 : Nat} {A A4 : Option Addr} {xs p : List Int} {u : Nat} {x : Int} (h : Appended w0 lo 3 1 A n c A4 (n + 1) c4 ((xs ++ (p.take u).map (· + 2)).map (Value.int .i64) ++ [.int .i64 (x + 2)]) w4) (hx : p[u]? = some x) (hr : ∀ y ∈ xs ++ (p.take (u + 1)).map (· + 2), R64 y) : OwnI w4 lo w4.heap.size A4 (n + 1) c4 (xs ++ (p.take (u + 1)).map (· + 2)) :=
  ⟨by
    have := h.1
    rw [List.take_add_one, hx]
    simpa using this, fun ad e => (owns_lt h.1 ad e).2, hr⟩
theorem start_ok {w : World} {lo hi n c : Nat} {A : Option Addr} {xs p : List Int} (h : OwnI w lo hi A n c xs) : OwnI w lo hi A n c (xs ++ (p.take 0).map (· + 2)) := by simpa using h
theorem r64_snoc {xs p : List Int} {u : Nat} {x : Int} (h : ∀ y ∈ xs ++ (p.take u).map (· + 2), R64 y) (hx : p[u]? = some x) (hr : 0 ≤ x + 2 ∧ x + 2 ≤ 1000) : ∀ y ∈ xs ++ (p.take (u + 1)).map (· + 2), R64 y := by
  intro y hy
  rw [List.take_add_one, hx, List.map_append, ← List.append_assoc] at hy
  rcases List.mem_append.1 hy with hy | hy
  · exact h y hy
  · obtain rfl : y = x + 2 := by simpa using hy
    constructor <;> omega
theorem r64_one {a : Int} (h0 : 0 ≤ a) (h2 : a < 2) : ∀ x ∈ a :: flat2 (([] : List (List Int)).take 0), R64 x := by
  intro x hx
  obtain rfl : x = a := by simpa [flat2] using hx
  constructor <;> omega
theorem parts_mem {r : List Int} {p : List Int} (h : p ∈ partsF [] r) : ∀ x ∈ p, x + 2 ∈ r := by
  intro x hx
  have h3 : x ∈ (partsF [] r).flatten := List.mem_flatten.2 ⟨p, h, hx⟩
  rw [parts_flat] at h3
  obtain ⟨y, hy, rfl⟩ := List.mem_map.1 (by simpa using h3 : x ∈ r.map (· - 2))
  simpa using hy
theorem good_parts {a : Int} {r : List Int} (h : Good (a :: r)) : (∀ p ∈ partsF [] r, Good p) ∧ (∀ x ∈ r, 2 ≤ x) ∧ (∀ x ∈ r.head?, x < 4) ∧ 0 ≤ a ∧ a < 2 := by
  obtain ⟨b, q, e, h0, h1, h2⟩ := h
  injection e with e1 e2
  subst e1 e2
  exact ⟨part_good h0 h1 h2, shadesGo_two r a h2, shadesGo_head h1 h0 h2, h0, h1⟩
theorem form_unfold (k : Nat) (a : Int) (r : List Int) : formF (k + 1) (a :: r) = a :: flat2 (sortF ((partsF [] r).map (formF k))) := rfl

set_option maxHeartbeats 4000000 in
theorem impl_sorted : ∀ (k gw n c : Nat) (l : List Int) (lo hi : Nat) (w : World), Ints w lo hi (some ⟨gw, 0, none⟩) n c l → hi ≤ w.heap.size → Good l → l.length ≤ k → k ≤ 4 → (∀ x ∈ l, x ≤ 1000) →
    Calls Tryz.prog 38 #[.slice (some ⟨gw, 0, none⟩) n c, .int .i64 2] w fun e w' => ∃ g' c', e = .returned (.slice (some ⟨g', 0, none⟩) n c') ∧ OwnI w' w.heap.size w'.heap.size (some ⟨g', 0, none⟩) n c' (formF k l) ∧ Below w.heap.size w w' := by
  intro k
  induction k with
  | zero =>
    intro gw n c l lo hi w h hh hg hk _ _
    obtain ⟨b, q, rfl, _⟩ := hg
    simp at hk
  | succ k ih =>
    intro gw n c l lo hi w h hh hgood hk hk4 hbd
    obtain ⟨a, r, rfl⟩ : ∃ a r, l = a :: r := by
      obtain ⟨b, q, e, _⟩ := hgood
      exact ⟨b, q, e⟩
    obtain ⟨hp, hr2, hh4, ha0, ha2⟩ := good_parts hgood
    obtain ⟨i0, hi0, hz0, hz1, hz2⟩ := info_parts info_int
    have hln : r.length + 1 = n := h.len
    have hrk : r.length ≤ k := by simpa using hk
    have hm := h.max
    have hcp := h.cap
    have hnum : (partsF [] r).length ≤ r.length := by have := parts_num (r := r) (acc := []) (.inr hh4); simpa using this
    have HB := hide (impl_branchLists gw n c a r lo hi w h hh (by omega) hr2 hh4)
    have HI := hide h
    have HP := hide hp
    have HBD := hide hbd
    have IH := hide ih
    have HLN := hide hln
    have hnk : n ≤ 4 := by omega
    have hn1p : 1 ≤ n := by omega
    have HR2 := hide hr2
    clear h hp hbd ih hgood hh4 hr2 hk hln
    go_enter Tryz.func38, Tryz.ntmps38
    go_wp2_with fail
    refine HB.out.mono ?_
    rintro e w1 ⟨g1, n1, c1, vs, rfl, hO, b1⟩
    have hR := hide hO.rows
    have hcb1 := hO.capb
    have hpl := hide hO.len
    have hn1 : n1 ≤ 3 := by
      have := hO.len
      omega
    have z1 := b1.size
    have hg1 : w.heap.size ≤ g1 ∧ g1 < w1.heap.size := hO.own.lt g1 rfl
    clear hO HB
    go_wp2_with fail
    go_loopw [6, 17] (fun _ i wr => ∃ j : Nat, j ≤ n1 ∧ i = .int .i64 j ∧ Hid (Below w.heap.size w wr) ∧ w1.heap.size ≤ wr.heap.size ∧ Hid (∃ vs', RowsI wr w.heap.size wr.heap.size (some ⟨g1, 0, none⟩) n1 c1 vs' (upto k j (partsF [] r)))) (fun _ i _ => n1 - (intOf i).toNat)
    case atStart => exact ⟨0, by omega, rfl, b1, Nat.le_refl _, _, by rw [upto_zero]; exact hR.out⟩
    case round =>
      obtain ⟨j, hj, rfl, hb, hzr, hrel⟩ := hrel
      obtain ⟨vs', hI⟩ := hrel.out
      have zr := hb.out.size
      by_cases hlt : j < n1
      · obtain ⟨p, hpj⟩ : ∃ p, (partsF [] r)[j]? = some p := ⟨_, List.getElem?_eq_getElem (by have := hpl.out; omega)⟩
        obtain ⟨B, m, d, l', h', p', hc, hin, e3, e4, hx, hv, hform⟩ := hI.at_ hlt
        obtain rfl : p = p' := by have := hx.out; rw [upto_at hpj] at this; injection this
        have hpm := List.mem_of_getElem? hpj
        have hgp := HP.out p hpm
        have hmp : 0 < m := by
          obtain ⟨b, q, e, _⟩ := hgp
          have := hin.len
          rw [e] at this
          simp at this
          omega
        obtain ⟨ad, rfl, _⟩ := hin.cells hmp
        obtain ⟨b, hb0⟩ : ∃ b, ad = ⟨b, 0, none⟩ := ⟨_, hform ad rfl⟩
        subst hb0
        have hcall := hide (IH.out b m d p l' h' wr hin (by omega) hgp (by have := parts_len hpm; omega) (by omega) (fun x hx => by
          have := HBD.out (x + 2) (List.mem_cons_of_mem _ (parts_mem hpm x hx))
          omega))
        have HII := hide hI
        have HPJ := hide hpj
        have hgr : g1 < wr.heap.size := by omega
        clear hI hrel hform hin hpj hgp hpm hx hv
        go_wp2_with fail
        refine hcall.out.mono ?_
        rintro e w2 ⟨g2, c2, rfl, o2, b2⟩
        have z2 := b2.size
        have own2 := owns_below HII.out.own b2 (fun ad e => by injection e with e; subst e; exact hgr)
        have hf2 := own2.frozenAt j
        have hvj : ∃ v, w2.cell? ⟨g1, j, none⟩ = some v := by
          have := own2.cellAt j (by omega)
          have hl := HII.out.vlen
          exact ⟨_, this.trans (List.getElem?_eq_getElem (by omega))⟩
        obtain ⟨v, hvj⟩ := hvj
        have HN := hide (HII.out.put (Nat.le_refl _) b2 o2.ints (Nat.le_refl _) (hi2 := w2.heap.size) (Nat.le_refl _) z2 hlt)
        have HB2 := hide ((hb.out.trans (b2.mono zr)).setCell (p := ⟨g1, j, none⟩) hg1.1 (.slice (some ⟨g2, 0, none⟩) m c2))
        have HZ : w1.heap.size ≤ (w2.setCell ⟨g1, j, none⟩ (.slice (some ⟨g2, 0, none⟩) m c2)).heap.size := by simpa [World.setCell] using (by omega : w1.heap.size ≤ w2.heap.size)
        have HS : (w2.setCell ⟨g1, j, none⟩ (.slice (some ⟨g2, 0, none⟩) m c2)).heap.size = w2.heap.size := by simp [World.setCell]
        rw [upto_set HPJ.out, ← HS] at HN
        clear own2 o2 HS HII hcall
        go_wp2_with fail
        go_roundw
        case rel => exact ⟨j + 1, by omega, by go_num, HB2.out, HZ, _, HN.out⟩
        case measure => simp [intOf]; omega
      · obtain rfl : j = n1 := by omega
        have hI2 : RowsI wr w.heap.size wr.heap.size (some ⟨g1, 0, none⟩) j c1 vs' ((partsF [] r).map (formF k)) := by
          rw [← upto_all, hpl.out]
          exact hI
        have hS := hide (sort_rows hI2 (by omega) (Nat.le_refl _))
        have hcs := hide (sorted_flat_len k r)
        have hmem := hide (fun p (hp : p ∈ sortF ((partsF [] r).map (formF k))) => sorted_mem hp)
        have hfu := hide (form_unfold k a r)
        obtain ⟨ss, hss⟩ : ∃ ss, ss = sortF ((partsF [] r).map (formF k)) := ⟨_, rfl⟩
        rw [← hss] at hS hcs hmem hfu
        clear hI hI2 hrel hpl hss IH HP hR
        go_wp2_with fail
        refine hS.out.mono ?_
        rintro e w2 ⟨rfl, vs2, hR2, t2⟩
        have hb2 : Below w.heap.size w w2 := hb.out.trans (t2.below hg1.1 zr)
        have z2 := hb2.size
        have zz2 := t2.size
        have hR3 := hide (hR2.wide (hi2 := w2.heap.size) (by omega))
        have hca : w2.cell? ⟨gw, 0, none⟩ = some (.int .i64 a) := by
          obtain ⟨ad, e, _, _, hc⟩ := (HI.out.below hb2 hh).cells (by omega)
          injection e with e
          subst e
          simpa [Addr.add] using hc 0 a rfl
        have HB2 := hide hb2
        have hfl : ∀ j p, ss[j]? = some p → (flat2 (ss.take j)).length + p.length ≤ r.length := fun j p h => by have := flat2_take_len h; rw [hcs.out] at this; exact this
        have HFL := hide hfl
        have hr64 : ∀ x ∈ a :: r, 0 ≤ x ∧ x ≤ 1000 := fun x hx => by
          refine ⟨?_, HBD.out x hx⟩
          rcases List.mem_cons.1 hx with rfl | hx
          · exact ha0
          · have := HR2.out x hx; omega
        have HR64 := hide hr64
        clear hR2 hb2 hb t2 hfl hr64
        go_wp2_with fail
        have ow := World.ownsRow_lit (size := 1) (e := 3) w2 #[.int .i64 a] 1 (Nat.le_refl _) (by unfold maxLen; omega) rfl
        have a3 := below_alloc w2 (.cells #[.int .i64 a] 3)
        generalize World.alloc w2 (.cells #[.int .i64 a] 3) = w3 at ow a3 ⊢
        have z3 := a3.size
        have hsl : ss.length = j := hR3.out.len
        have HSL := hide hsl
        clear hsl hca
        go_loopw [7, 9, 11, 38] (fun o _ _ i wr => ∃ (q N c' : Nat) (A : Option Addr), q ≤ j ∧ i = .int .i64 q ∧ o = .slice A N c' ∧ Hid (OwnI wr w2.heap.size wr.heap.size A N c' (a :: flat2 (ss.take q))) ∧ Hid (Below w2.heap.size w2 wr)) (fun _ _ _ i _ => j - (intOf i).toNat)
        case atStart => exact ⟨0, 1, 1, _, by omega, rfl, rfl, ⟨ow, fun ad e => (owns_lt ow ad e).2, r64_one ha0 ha2⟩, a3⟩
        case round =>
          obtain ⟨q, N, c', A, hq, rfl, rfl, hO, hbr⟩ := hrel
          have zr2 := hbr.out.size
          by_cases hlt2 : q < j
          · obtain ⟨B, m, d, l', h', p, hc, hin, e3, e4, hx, _, hform⟩ := hR3.out.at_ hlt2
            clear hform
            have hc := (hbr.out.cell (p := ⟨g1, q, none⟩) (by show g1 < w2.heap.size; omega)).trans hc
            have hIN := hide hin
            have hcpp := hin.cap
            have hmp := hin.max
            have hml := hide hin.len
            have hNl := hide hO.out.len
            have hfl := HFL.out q p hx.out
            have HFp := hide hfl
            have hft := hide (flat2_take hx.out)
            have hmem2 := hide (hmem.out p (List.mem_of_getElem? hx.out))
            clear hin hfl
            go_wp2_with fail
            obtain ⟨wo, rfl⟩ : ∃ wo : World, wo = wr := ⟨_, rfl⟩
            go_loopw [7, 11, 44] (fun o _ i wr => ∃ (u N c' : Nat) (A : Option Addr), u ≤ m ∧ i = .int .i64 u ∧ o = .slice A N c' ∧ Hid (OwnI wr w2.heap.size wr.heap.size A N c' (a :: flat2 (ss.take q) ++ (p.take u).map (· + 2))) ∧ Hid (Below w2.heap.size w2 wr)) (fun _ _ i _ => m - (intOf i).toNat)
            case atStart => exact ⟨0, N, c', A, by omega, rfl, rfl, start_ok hO.out, hbr.out⟩
            case round =>
              obtain ⟨u, N2, c2, A2, hu, rfl, rfl, hO2, hbr2⟩ := hrel
              have zr3 := hbr2.out.size
              by_cases hlt3 : u < m
              · obtain ⟨ad, x, rfl, hcx, hxr, _, hxu⟩ := (hIN.out.below hbr2.out (by omega)).at_ hlt3
                have hx0 := hmem2.out x (List.mem_of_getElem? hxu.out)
                have hx1 := HR64.out (x + 2) (List.mem_cons_of_mem _ hx0)
                have hNN : N2 ≤ 4 := by
                  have e1 := hO2.out.len
                  have e2 := HFp.out
                  have e3 := hml.out
                  simp at e1
                  omega
                have hO3 := hide hO2.out.own
                go_wp2_with (at_builtin; refine wpl_app1b rfl (.tmp 48) (.tmp 52) 22 rfl w2.heap.size 3 i0 (.int .i64 0) 1 8 Tryz.underlying22 hi0 hz0 hz1 hz2 rfl (by omega) wr #[.int .i64 (x + 2)] _ rfl A2 N2 c2 1 _ rfl rfl hO3.out rfl (by simp [Value.oneCell']) (by omega) (by omega) zr3 ?_; intro A4 c4 w4 happ hlt4; have HB4 := hide (happ.low hbr2.out zr3 (Nat.le_refl _) hO3.out); have HO4 := hide (own_snoc happ hxu.out (r64_snoc hO2.out.rng hxu.out hx1)); clear happ)
                go_roundw
                case rel => exact ⟨u + 1, N2 + 1, c4, A4, by omega, by go_num, rfl, HO4.out, HB4.out⟩
                case measure => simp [intOf]; omega
              · obtain rfl : u = m := by omega
                have hO5 : OwnI wr w2.heap.size wr.heap.size A2 N2 c2 (a :: flat2 (ss.take (q + 1))) := by
                  have e : p.take u = p := List.take_of_length_le (by have := hml.out; omega)
                  have := hO2.out
                  rw [e] at this
                  rw [hft.out]
                  exact this
                have HO5 := hide hO5
                clear hO5 hO2
                go_wp2_with fail
                go_roundw
                case rel => exact ⟨q + 1, N2, c2, A2, by omega, by go_num, rfl, HO5.out, hbr2.out⟩
                case measure => simp [intOf]; omega
          · obtain rfl : q = j := by omega
            have hO5 : OwnI wr w2.heap.size wr.heap.size A N c' (formF (k + 1) (a :: r)) := by
              have e : ss.take q = ss := List.take_of_length_le (by have := HSL.out; omega)
              have := hO.out
              rw [e] at this
              rw [hfu.out]
              exact this
            have hN : N = n := by
              have e1 := hO5.len
              rw [form_len] at e1
              have := HLN.out
              simp at e1
              omega
            obtain ⟨g9, rfl, _⟩ := hO5.form (by omega)
            subst hN
            have HO5 := hide hO5
            clear hO5 hO
            go_wp2_with fail
            go_ret
            exact ⟨g9, c', rfl, HO5.out.wide (by omega) (Nat.le_refl _), HB2.out.trans (hbr.out.mono z2)⟩
end Go.Proofs.YthjkdpapadolgaaGreatDoor
