/- Lie elements: the walk of the reference's IsLieWords. -/
import Derived.Test.YtodlfmagkjblgaaLieS
namespace Go.Proofs.Ytodlfmagkjblgaa
open Go.RowKit
set_option linter.unusedSimpArgs false
set_option linter.unusedVariables false
set_option maxRecDepth 20000

set_option maxRecDepth 100000 in
set_option maxHeartbeats 2000000 in
theorem spec_brackets_b (g0 n c0 lo0 : Nat) (v : List Int) (gw cw : Nat) (a : Int) (lo hi : Nat) (c : Int) (w : World)
    (hv : w.ownsRow lo0 3 1 (.slice (some ⟨g0, 0, none⟩) n c0) n (v.map (Value.int .i64))) (hvn : ∀ x ∈ v, 0 ≤ x ∧ x < 1000000271)
    (hw : Ints w lo hi (some ⟨gw, 0, none⟩) 1 cw [a]) (ha : a = 0 ∨ a = 1) (hc : 0 ≤ c ∧ c < 1000000271) (hn : 3 ≤ n) (hn2 : n ≤ 63) :
    Calls Try.prog 78 #[.slice (some ⟨g0, 0, none⟩) n c0, .slice (some ⟨gw, 0, none⟩) 1 cw, .int .i64 c] w fun e w' => e = .returned (.tuple #[]) ∧ Touch g0 (g0 + 1) w w' ∧ w'.ownsRow lo0 3 1 (.slice (some ⟨g0, 0, none⟩) n c0) n ((bktL [a] c v).map (Value.int .i64)) := by
  have hm := hw.max
  have hcp := hw.cap
  have hlv : v.length = n := by simpa using hv.1
  have hcap0 : n ≤ c0 := by
    rcases hv.2 with ⟨e, _⟩ | ⟨g, cap, cur, e, _, _, q1, _⟩
    · cases e
    · injection e with _ _ e3; omega
  have hmax0 : c0 ≤ 9223372036854775807 := by
    rcases hv.2 with ⟨e, _⟩ | ⟨g, cap, cur, e, _, _, _, q1, _⟩
    · cases e
    · injection e with _ _ e3; unfold maxLen at q1; omega
  obtain ⟨p, hp, hpn⟩ : ∃ p : Nat, placeF [a] = (p : Int) ∧ p < n := by
    rcases ha with e | e <;> subst e
    · exact ⟨1, by decide, by omega⟩
    · exact ⟨2, by decide, by omega⟩
  have hE2 : Hid (bktL [a] c v = addAt v p c) := by
    show addAt v (placeF [a]).toNat c = _
    rw [hp]; rfl
  have hcy : w.cell? ⟨g0, p, none⟩ = some (.int .i64 (v.getD p 0)) := by
    rw [hv.cellAt p (by omega)]
    simp [List.getD, show p < v.length by omega]
  have hfy := hv.frozenAt p
  have hyb : 0 ≤ v.getD p 0 ∧ v.getD p 0 < 1000000271 := by
    rw [List.getD, List.getElem?_eq_getElem (show p < v.length by omega)]
    exact hvn _ (List.getElem_mem _)
  have hst := hv.stored p (.int .i64 (plusF (v.getD p 0) c))
  have ht2 : Touch g0 (g0 + 1) w (w.setCell ⟨g0, p, none⟩ (.int .i64 (plusF (v.getD p 0) c))) := (Touch.refl _ _ _).setCell (p := ⟨g0, p, none⟩) (.inl ⟨Nat.le_refl _, Nat.lt_succ_self _⟩) _
  have hst' : (w.setCell ⟨g0, p, none⟩ (.int .i64 (plusF (v.getD p 0) c))).ownsRow lo0 3 1 (.slice (some ⟨g0, 0, none⟩) n c0) n ((bktL [a] c v).map (Value.int .i64)) := by
    rw [hE2.out]
    unfold addAt
    simpa [List.map_set] using hst.1
  have HS := hide (And.intro ht2 hst')
  have cp : Calls Try.prog 70 #[.slice (some ⟨gw, 0, none⟩) 1 cw] w fun e w' => e = .returned (.int .i64 (p : Int)) ∧ w = w' := by
    rw [← hp]; exact spec_PlaceOfWord _ _ _ _ _ _ _ hw
  have har := r64_of_num hyb
  have hyr := r64_of_num hc
  have h63 : (p : Int) < (n : Int) := by omega
  clear hst hst' ht2 hE2 hp hyb hvn ha
  generalize v.getD p 0 = av at hcy har HS
  go_enter Try.func78, Try.ntmps78
  go_wp2_with fail
  go_loopw [6, 7, 8, 9, 10] (fun i _ _ _ _ wr => (i = .int .i64 0 ∧ wr = w) ∨ (i = .int .i64 1 ∧ wr = w.setCell ⟨g0, p, none⟩ (.int .i64 (plusF av c)))) (fun i _ _ _ _ _ => 2 - (intOf i).toNat)
  case atStart => exact .inl ⟨rfl, rfl⟩
  case round =>
    rcases hrel with ⟨rfl, rfl⟩ | ⟨rfl, rfl⟩
    · go_wp2_with fail
      go_loopw [7, 8, 9] (fun s x i wr' => s = .slice (some ⟨gw, 0, none⟩) 1 cw ∧ x = .int .i64 c ∧ i = .int .i64 1 ∧ wr' = wr) (fun _ _ _ _ => 0)
      case atStart => exact ⟨rfl, rfl, rfl, rfl⟩
      case round =>
        obtain ⟨rfl, rfl, rfl, rfl⟩ := hrel
        go_wp2_with (first
          | (go_at_call 70; refine cp.mono ?_; rintro e w' ⟨rfl, rfl⟩)
          | (go_at_call 62; refine (spec_Plus av c _ har hyr).mono ?_; rintro e w' ⟨rfl, rfl⟩))
        go_roundw
        case rel => exact .inr ⟨by go_num, trivial⟩
        case measure => simp [intOf]
    · go_wp2_with fail
      exact bodyPost_end (results_none rfl _ _ _) rfl ⟨rfl, HS.out.1, HS.out.2⟩

theorem addAt_num {out : List Int} (h : ∀ x ∈ out, 0 ≤ x ∧ x < 1000000271) (p : Nat) (x : Int) : ∀ z ∈ addAt out p x, 0 ≤ z ∧ z < 1000000271 := by
  intro z hz
  rcases List.mem_or_eq_of_mem_set hz with hz | hz
  · exact h z hz
  · rw [hz]; exact plusF_bd _ _
theorem bktGo_num (word : List Int) (c : Int) (s m : Nat) (out : List Int) (h : ∀ x ∈ out, 0 ≤ x ∧ x < 1000000271) : ∀ z ∈ bktGo word c s m out, 0 ≤ z ∧ z < 1000000271 := by
  induction s generalizing m out with
  | zero => exact h
  | succ s ih => exact ih _ _ (addAt_num h _ _)
theorem bktL_num (word : List Int) (c : Int) (out : List Int) (h : ∀ x ∈ out, 0 ≤ x ∧ x < 1000000271) : ∀ z ∈ bktL word c out, 0 ≤ z ∧ z < 1000000271 := bktGo_num _ _ _ _ _ h

theorem spec_l11Brackets (g0 n c0 lo0 : Nat) (v : List Int) (gw cw L : Nat) (ws : List Int) (lo hi : Nat) (c : Int) (w : World)
    (hv : w.ownsRow lo0 3 1 (.slice (some ⟨g0, 0, none⟩) n c0) n (v.map (Value.int .i64))) (hvn : ∀ x ∈ v, 0 ≤ x ∧ x < 1000000271)
    (hw : Ints w lo hi (some ⟨gw, 0, none⟩) L cw ws) (hh : hi ≤ w.heap.size) (hdis : g0 < lo ∨ hi ≤ g0) (h1 : 1 ≤ L) (h5 : L ≤ 5) (hb : ∀ x ∈ ws, x = 0 ∨ x = 1) (hc : 0 ≤ c ∧ c < 1000000271) (hn : 2 ^ (L + 1) - 1 ≤ n) (hn2 : n ≤ 63) :
    Calls Try.prog 78 #[.slice (some ⟨g0, 0, none⟩) n c0, .slice (some ⟨gw, 0, none⟩) L cw, .int .i64 c] w fun e w' => e = .returned (.tuple #[]) ∧ Touch g0 (g0 + 1) w w' ∧ w'.ownsRow lo0 3 1 (.slice (some ⟨g0, 0, none⟩) n c0) n ((bktL ws c v).map (Value.int .i64)) := by
  obtain rfl := hw.len
  by_cases hL : 1 < ws.length
  · exact spec_brackets_a g0 n c0 lo0 v gw cw ws lo hi c w hv hvn hw hh hdis hL h5 hb hc hn hn2
  · obtain ⟨a, rfl⟩ : ∃ a, ws = [a] := List.length_eq_one_iff.1 (by omega)
    exact spec_brackets_b g0 n c0 lo0 v gw cw a lo hi c w hv hvn hw (hb a (by simp)) hc (by simpa using hn) hn2

set_option maxRecDepth 100000 in
set_option maxHeartbeats 4000000 in
theorem spec_IsLieWords_S (o : Int) (A : Option Addr) (n c : Nat) (xs : List Int) (lo hi : Nat) (w : World) (h : Ints w lo hi A n c xs) (hh : hi ≤ w.heap.size) :
    Calls Try.prog 26 #[.agg #[.int .i64 o, .slice A n c]] w fun e w' => e = .returned (.bool (lieS o xs)) ∧ Below w.heap.size w w' := by
  have hm := h.max
  have hcp := h.cap
  have b0 := below_alloc w (.cells #[.int .i64 o, .slice A n c] 38)
  have j1 := Blk2.new w (.int .i64 o) (.slice A n c) 38
  have z0 := b0.size
  go_enter Try.func26, Try.ntmps26
  go_wp2_with fail
  have h1 := h.below b0 hh
  generalize World.alloc w (.cells #[.int .i64 o, .slice A n c] 38) = W at j1 b0 h1 z0 ⊢
  refine (spec_WordsOk o A n c xs lo hi W h1 (by omega)).mono ?_
  rintro e w1 ⟨rfl, b1⟩
  have k1 := j1.below b1
  have h2 := h1.below b1 (by omega)
  have b2 := b0.trans (b1.mono z0)
  have z1 := b2.size
  have q1 := k1.lt
  clear j1 h1 b0 b1 z0
  by_cases hok : wordsOkF o xs = true
  · obtain ⟨⟨h0, h5⟩, hlen, hnum⟩ := wordsOk_facts hok
    have hcb := cntN_bd h5
    obtain rfl : n = cntN o := by rw [← h.len, hlen]
    obtain ⟨ad, x, rfl, hc, hr, _, hx⟩ := h2.at_ (k := 0) (by omega)
    have p0 := k1.c1
    have hgd : xs.getD 0 0 = x := by rw [List.getD, hx.out]; rfl
    have hc0 : w1.cell? ad = some (.int .i64 x) := by simpa [Addr.add] using hc
    have hokH := hide hok
    have hnum' := hide hnum
    rw [hok]
    clear hnum hlen hr hx hok
    by_cases hx0 : x = 0
    · have hF : Hid (lieS o xs = chkGo xs (outGo xs (cntN o - 1) 1 (List.replicate (cntN o) 0)) (cntN o - 1) 1) := if_pos ⟨hokH.out, hgd.trans hx0⟩
      clear hgd
      subst hx0
      have hmk := make_ints (cntN o) (by omega) w1
      have a3 := below_alloc w1 (.cells (zeros (cntN o)) 3)
      have oz := owns_zeros w1 (cntN o) (by omega) (lo := w1.heap.size) (Nat.le_refl _)
      have l1 := k1.below a3
      have h3 := h2.below a3 (by omega)
      have b4 := b2.trans (a3.mono z1)
      have sz3 := a3.size
      have hg3 : w1.heap.size < (w1.alloc (.cells (zeros (cntN o)) 3)).heap.size := by simp
      clear k1 h2 b2 a3 hc
      go_wp2_with fail
      clear p0 hc0 hmk
      generalize World.alloc w1 (.cells (zeros (cntN o)) 3) = w3 at oz l1 h3 b4 sz3 hg3 ⊢
      obtain ⟨g0, hg0⟩ : ∃ g0, g0 = w1.heap.size := ⟨_, rfl⟩
      rw [← hg0] at oz hg3 ⊢
      have hg0a : w1.heap.size ≤ g0 := by omega
      clear hg0
      go_loopw [4] (fun i wr => ∃ (k : Nat) (out : List Int), 1 ≤ k ∧ k ≤ cntN o ∧ i = .int .i64 k ∧ Touch g0 (g0 + 1) w3 wr ∧ wr.ownsRow g0 3 1 (.slice (some ⟨g0, 0, none⟩) (cntN o) (cntN o)) (cntN o) (out.map (Value.int .i64)) ∧ Hid (∀ x ∈ out, 0 ≤ x ∧ x < 1000000271) ∧ Hid (outGo xs (cntN o - 1) 1 (List.replicate (cntN o) 0) = outGo xs (cntN o - k) k out))
        (fun i _ => cntN o - (intOf i).toNat)
      case atStart => exact ⟨1, _, by omega, by omega, rfl, .refl _ _ _, oz, zeros_num _, rfl⟩
      case round =>
        obtain ⟨k, out, hk1, hk, rfl, ht, hown, hon, hE⟩ := hrel
        have n1 := l1.touch ht (by omega)
        have h4 := h3.same (ht.same (.inl (by omega)) (by omega))
        have hs := ht.size
        by_cases hlt : k < cntN o
        · obtain ⟨ae, x, e1, hc, hr, hd, hx⟩ := h4.at_ hlt
          injection e1 with e1
          subst e1
          obtain ⟨ae, e2, hgl, hgh, _⟩ := h4.cells (by omega)
          injection e2 with e2
          subst e2
          have hgd : xs.getD k 0 = x := by rw [List.getD, hx.out]; rfl
          have hxn := hnum'.out x (List.mem_of_getElem? hx.out)
          have E1 : Hid (outGo xs (cntN o - 1) 1 (List.replicate (cntN o) 0) = outGo xs (cntN o - (k + 1)) (k + 1) (bktL (wordL k) x out)) := by
            show _ = _
            rw [hE.out, show cntN o - k = (cntN o - (k + 1)) + 1 by omega, outGo, hgd]
          have hwl : 1 ≤ (wordL k).length := by
            have := wordL_ne (k := k) (by omega)
            cases hw : wordL k with
            | nil => exact absurd hw this
            | cons a r => simp
          have hL5 := wordL_len5 (p := k) (by omega)
          have hpw : 2 ^ ((wordL k).length + 1) - 1 ≤ cntN o := by
            have q1 : (wordL k).length ≤ o.toNat := wordL_len k o.toNat (by unfold cntN at hlt; omega)
            have q2 : 2 ^ ((wordL k).length + 1) ≤ 2 ^ (o.toNat + 1) := Nat.pow_le_pow_right (by omega) (by omega)
            unfold cntN
            omega
          have hog := (owns_lt hown _ rfl).2
          simp only at hog
          have d2 : Below wr.heap.size wr wr.drew := (Below.refl _ _).drew
          have dz := d2.size
          have p1 := n1.c1
          have r1 := n1.below d2
          have hadb := hide (block_of_add ad k)
          have hcH := hide hc
          have hownd : wr.drew.ownsRow g0 3 1 (.slice (some ⟨g0, 0, none⟩) (cntN o) (cntN o)) (cntN o) (out.map (Value.int .i64)) := hown
          have HH := hide (And.intro hownd (And.intro hon.out hpw))
          clear hE hd hx hr hgd n1 h4 hown hownd hon hpw
          go_wp2_with fail
          go_region_held3 (fun w' => w'.cell? ⟨w.heap.size, 1, none⟩ = some (.slice (some ad) (cntN o) c) ∧ w'.cell? (ad.add k) = some (.int .i64 x)) (first | exact ⟨p1, hc⟩ | exact ⟨P1, P2⟩ | exact ⟨Q1, Q2⟩ | go_keep)
            (first
              | (go_at_call 69; refine (spec_l11Word k wr.drew (by omega)).mono ?_; rintro e u1 ⟨gw, cw, rfl, ow, b6⟩; have P1 := (r1.below b6).c1; have P2 := (b6.cell (p := ad.add k) (by have := hadb.out; omega)).trans hcH.out; have y6 := b6.size; have hgw := ow.lt_size _ rfl)
              | (go_at_call 78; refine (spec_l11Brackets g0 (cntN o) (cntN o) g0 out gw cw (wordL k).length (wordL k) _ _ x u1 (owns_below HH.out.1 b6 (fun ad e => by injection e with e; subst e; exact hog)) HH.out.2.1 ow.ints (Nat.le_refl _) (.inl hog) hwl hL5 (wordL_bit k) hxn HH.out.2.2 (by omega)).mono ?_; rintro e u2 ⟨rfl, t7, o7⟩; have y7 := t7.size; have Q1 := ((r1.below b6).touch t7 (by omega)).c1; have Q2 := ((World.cell?_of_block (w := u1) (w' := u2) (a := ad.add k) (t7.block _ (by have := hadb.out; omega) (.inl (by have := hadb.out; omega)))).trans P2)))
          have HT := ((ht.drew.trans (.of_below b6)).trans t7)
          have HN := hide (bktL_num (wordL k) x out HH.out.2.1)
          clear P1 P2 Q1 Q2 b6 ow t7 HH
          go_wp2_with fail
          go_roundw
          case rel => exact ⟨k + 1, bktL (wordL k) x out, by omega, by omega, by go_num, HT, o7, HN, E1⟩
          case measure => simp [intOf]; omega
        · obtain rfl : k = cntN o := by omega
          have E0 : outGo xs (cntN o - 1) 1 (List.replicate (cntN o) 0) = out := by
            rw [hE.out, Nat.sub_self]
            rfl
          have hF2 : Hid (lieS o xs = chkGo xs out (cntN o - 1) 1) := by show _ = _; rw [hF.out, E0]
          have B5 : Below w.heap.size w wr := b4.trans (ht.below (by omega) (by omega))
          have hog := (owns_lt hown _ rfl).2
          simp only at hog
          have hlo : out.length = cntN o := by simpa using hown.1
          have hcells := hide (fun (j : Nat) (hj : j < cntN o) => (show wr.cell? ⟨g0, j, none⟩ = some (.int .i64 (out.getD j 0)) from by
            rw [hown.cellAt j (by omega)]
            simp [List.getD, show j < out.length by omega]))
          have p1 := n1.c1
          clear hE ht hown l1 h3 b4 E0 hF oz
          obtain ⟨w5, rfl⟩ : ∃ w5 : World, w5 = wr := ⟨_, rfl⟩
          go_wp2_with fail
          clear p1
          go_loopw [5] (fun i wr => ∃ (k : Nat), 1 ≤ k ∧ k ≤ cntN o ∧ i = .int .i64 k ∧ Below w5.heap.size w5 wr ∧ Hid (lieS o xs = chkGo xs out (cntN o - k) k)) (fun i _ => cntN o - (intOf i).toNat)
          case atStart => exact ⟨1, by omega, by omega, rfl, Below.refl _ _, hF2⟩
          case round =>
            clear hF2
            obtain ⟨k, hk1, hk, rfl, hb, hE⟩ := hrel
            have hs5 := hb.size
            have m1 := n1.below hb
            have p1 := m1.c1
            by_cases hlt : k < cntN o
            · have hcy := (hb.cell (p := ⟨g0, k, none⟩) hog).trans (hcells.out k hlt)
              have h6 := h4.below hb (by omega)
              obtain ⟨ae, x, e1, hc, hr, hd, hx⟩ := h6.at_ hlt
              injection e1 with e1
              subst e1
              obtain ⟨ae, e2, hgl, hgh, _⟩ := h6.cells (by omega)
              injection e2 with e2
              subst e2
              have hgd : xs.getD k 0 = x := by rw [List.getD, hx.out]; rfl
              have hxr := r64_of_num (hnum'.out x (List.mem_of_getElem? hx.out))
              have hL5 := wordL_len5 (p := k) (by omega)
              have hlr : R64 ((wordL k).length : Int) := by constructor <;> omega
              obtain ⟨y, hy⟩ : ∃ y, y = out.getD k 0 := ⟨_, rfl⟩
              rw [← hy] at hcy
              have E1 : Hid (lieS o xs = if y = timesF ((wordL k).length : Int) x then chkGo xs out (cntN o - (k + 1)) (k + 1) else false) := by
                show _ = _
                rw [hE.out, show cntN o - k = (cntN o - (k + 1)) + 1 by omega, chkGo, hgd, ← hy, timesF_comm x]
              have d2 : Below wr.heap.size wr wr.drew := (Below.refl _ _).drew
              have dz := d2.size
              have r1 := m1.below d2
              have hadb := hide (block_of_add ad k)
              have hcH := hide hc
              clear hE hd hx hr hgd hy h6 m1
              by_cases hxy : y = timesF ((wordL k).length : Int) x
              all_goals
                go_wp2_with fail
                go_region_held3 (fun w' => w'.cell? ⟨w.heap.size, 1, none⟩ = some (.slice (some ad) (cntN o) c) ∧ w'.cell? (ad.add k) = some (.int .i64 x) ∧ w'.cell? ⟨g0, k, none⟩ = some (.int .i64 y)) (first | exact ⟨p1, hc, hcy⟩ | exact ⟨P1, P2, P3⟩ | go_keep)
                  (first
                    | (go_at_call 69; refine (spec_l11Word k wr.drew (by omega)).mono ?_; rintro e u1 ⟨gw, cw, rfl, ow, b6⟩; have P1 := (r1.below b6).c1; have P2 := (b6.cell (p := ad.add k) (by have := hadb.out; omega)).trans hcH.out; have P3 := (b6.cell (p := ⟨g0, k, none⟩) (by show g0 < _; omega)).trans hcy; have y6 := b6.size; have hcw := ow.cap; have hmw := ow.max)
                    | (go_at_call 63; refine (spec_Times ((wordL k).length : Int) x u1 hlr hxr).mono ?_; rintro e u2 ⟨rfl, rfl⟩))
              · have E2 := hide (E1.out.trans (if_pos hxy))
                have HB := hb.drew.trans (b6.mono (show w5.heap.size ≤ wr.drew.heap.size by omega))
                go_wp2_with fail
                go_roundw
                case rel => exact ⟨k + 1, by omega, by omega, by go_num, HB, E2⟩
                case measure => simp [intOf]; omega
              · have E2 := hide (E1.out.trans (if_neg hxy))
                have HB := B5.trans ((hb.drew.trans (b6.mono (show w5.heap.size ≤ wr.drew.heap.size by omega))).mono (by omega))
                go_wp2_with fail
                go_ret
                exact ⟨ret_bool E2.out.symm, HB⟩
            · obtain rfl : k = cntN o := by omega
              have E1 : Hid (lieS o xs = true) := by
                show _ = _
                rw [hE.out, Nat.sub_self]
                rfl
              have B6 := B5.trans (hb.mono (by omega))
              go_wp2_with fail
              go_ret
              exact ⟨ret_bool E1.out.symm, B6⟩
    · have hF : Hid (lieS o xs = false) := if_neg (fun h => hx0 (hgd.symm.trans h.2))
      clear hgd
      go_wp2_with fail
      go_ret
      exact ⟨ret_bool hF.out.symm, b2⟩
  · have hF : Hid (lieS o xs = false) := if_neg (fun h => hok h.1)
    have hok' : wordsOkF o xs = false := by simpa using hok
    rw [hok']
    clear hok
    go_wp2_with fail
    go_ret
    exact ⟨ret_bool hF.out.symm, b2⟩
theorem spec_IsLieWords (o : Int) (A : Option Addr) (n c : Nat) (xs : List Int) (lo hi : Nat) (w : World) (h : Ints w lo hi A n c xs) (hh : hi ≤ w.heap.size) :
    Calls Try.prog 26 #[.agg #[.int .i64 o, .slice A n c]] w fun e w' => e = .returned (.bool (lieF o xs)) ∧ Below w.heap.size w w' := by
  rw [← lie_eq]
  exact spec_IsLieWords_S o A n c xs lo hi w h hh
end Go.Proofs.Ytodlfmagkjblgaa
