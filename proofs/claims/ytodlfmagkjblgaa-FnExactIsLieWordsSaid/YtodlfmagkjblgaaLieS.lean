/- Lie elements: the walk of the reference's brackets. -/
import Derived.Test.YtodlfmagkjblgaaLieEq
namespace Go.Proofs.Ytodlfmagkjblgaa
open Go.RowKit
set_option linter.unusedSimpArgs false
set_option linter.unusedVariables false
set_option maxRecDepth 20000

theorem bit_and : ∀ m : Nat, m < 16 → ∀ p : Nat, p < 4 → bits BinOp.and IntKind.i64 ((m : Int) / 2 ^ p) 1 = ((m / 2 ^ p % 2 : Nat) : Int) := by decide

theorem step_appI {ops : Array Oper} {o : Oper} {a : Act} {K : Act → World → Prop} {Q : Exit → Act → World → Prop} {E : Prop} (hgd : o.guard = none) (s x : Operand)
    (ho : o.op = .call { callee := .builtin .append, args := #[s, x], argTypes := #[22, 22] }) (w : World)
    (B g n c : Nat) (xs : List Int) (hs : a.eval s = .slice (some ⟨g, 0, none⟩) n c) (hown : w.ownsRow B 3 1 (.slice (some ⟨g, 0, none⟩) n c) n (xs.map (Value.int .i64)))
    (ad : Addr) (m d lo hi : Nat) (ys : List Int) (hx : a.eval x = .slice (some ad) m d) (hI : Ints w lo hi (some ad) m d ys) (hm : 0 < m) (N : Nat) (hN : n + m = N) (hsm : N ≤ 1000) (hB : B ≤ w.heap.size)
    (h : ∀ g' c' w', w'.ownsRow B 3 1 (.slice (some ⟨g', 0, none⟩) N c') N ((xs ++ ys).map (Value.int .i64)) → w.grownBy w' (some g) → (g = g' ∨ g' = w.heap.size) → g' < w'.heap.size → K (a.put o.dst (.slice (some ⟨g', 0, none⟩) N c')) w') :
    if Region.wanted o (yielded ops a.tmps) = true then Oper.wp Try.prog o a w K Q else E := by
  obtain ⟨i0, hi0, hz0, hz1, hz2⟩ := info_parts info_int
  subst hN
  have hl := hI.len
  refine step_append_lies (P := Try.prog) w hgd s x 22 ho B 3 i0 (.int .i64 0) 1 8 Try.underlying22 hi0 hz0 hz1 hz2 rfl (by omega) _ n _ hs hown ad m d (ys.map (Value.int .i64)) hx (by simpa using hl) ?_ ?_ hm (by unfold maxLen; omega) (by omega) hB w.heap.size rfl ?_
  · intro j u hu
    rw [List.getElem?_map] at hu
    cases hy : ys[j]? with
    | none => rw [hy] at hu; cases hu
    | some y =>
      rw [hy] at hu
      injection hu with hu
      subst hu
      obtain ⟨ad', e, _, _, hc⟩ := hI.cells hm
      injection e with e
      subst e
      exact hc j y hy
  · intro u hu
    simp only [List.mem_map] at hu
    obtain ⟨y, _, rfl⟩ := hu
    rfl
  · intro g' c' w' h1 h2 h3 h4
    refine h g' c' w' (by rw [List.map_append]; exact h1) h2 ?_ h4
    rcases h3 with h3 | h3
    · left; simpa [Value.ownBlock] using h3
    · exact .inr h3
theorem ints_lit (W : World) (x : Int) (hx : R64 x) (hi : Nat) (hh : W.heap.size < hi) : Ints (W.alloc (.cells #[.int .i64 x] 3)) 0 hi (some ⟨W.heap.size, 0, none⟩) 1 1 [x] := by
  refine ⟨rfl, Nat.le_refl _, by omega, fun _ => ⟨_, rfl, Nat.zero_le _, hh, fun j y hy => ?_⟩, by simpa using hx⟩
  cases j with
  | zero =>
    simp at hy
    subst hy
    simp [Addr.add]
  | succ j => simp at hy

theorem Ints.grown_far {w w' : World} {lo hi k : Nat} {n c : Nat} {xs : List Int} {b : Nat} (h : Ints w lo hi (some ⟨b, 0, none⟩) n c xs) (hg : w.grownBy w' (some k)) (hne : b ≠ k) : Ints w' lo hi (some ⟨b, 0, none⟩) n c xs :=
  ⟨h.len, h.cap, h.max, fun hn => by
    obtain ⟨ad, e, h1, h2, hc⟩ := h.cells hn
    injection e with e
    subst e
    refine ⟨_, rfl, h1, h2, fun j x hx => ?_⟩
    have h3 := hc j x hx
    refine (World.cell?_of_block (hg.block _ (World.block_lt_of_cell? w _ h3) ?_)).trans h3
    rw [block_of_add]
    intro e
    injection e with e
    exact hne e, h.rng⟩

set_option maxRecDepth 100000 in
set_option maxHeartbeats 4000000 in
theorem spec_brackets_a (g0 n c0 lo0 : Nat) (v : List Int) (gw cw : Nat) (ws : List Int) (lo hi : Nat) (c : Int) (w : World)
    (hv : w.ownsRow lo0 3 1 (.slice (some ⟨g0, 0, none⟩) n c0) n (v.map (Value.int .i64))) (hvn : ∀ x ∈ v, 0 ≤ x ∧ x < 1000000271)
    (hw : Ints w lo hi (some ⟨gw, 0, none⟩) ws.length cw ws) (hh : hi ≤ w.heap.size) (hdis : g0 < lo ∨ hi ≤ g0) (h1 : 1 < ws.length) (h5 : ws.length ≤ 5) (hb : ∀ x ∈ ws, x = 0 ∨ x = 1) (hc : 0 ≤ c ∧ c < 1000000271) (hn : 2 ^ (ws.length + 1) - 1 ≤ n) (hn2 : n ≤ 63) :
    Calls Try.prog 78 #[.slice (some ⟨g0, 0, none⟩) n c0, .slice (some ⟨gw, 0, none⟩) ws.length cw, .int .i64 c] w fun e w' => e = .returned (.tuple #[]) ∧ Touch g0 (g0 + 1) w w' ∧ w'.ownsRow lo0 3 1 (.slice (some ⟨g0, 0, none⟩) n c0) n ((bktL ws c v).map (Value.int .i64)) := by
  obtain ⟨i0, hi0, hz0, hz1, hz2⟩ := info_parts info_int
  have hm := hw.max
  have hcp := hw.cap
  have hlv : v.length = n := by simpa using hv.1
  have hg0 := (owns_lt hv _ rfl)
  have hcap0 : n ≤ c0 := by
    rcases hv.2 with ⟨e, _⟩ | ⟨g, cap, cur, e, _, _, q1, _⟩
    · cases e
    · injection e with _ _ e3; omega
  have hmax0 : c0 ≤ 9223372036854775807 := by
    rcases hv.2 with ⟨e, _⟩ | ⟨g, cap, cur, e, _, _, _, q1, _⟩
    · cases e
    · injection e with _ _ e3; unfold maxLen at q1; omega
  simp only at hg0
  obtain ⟨M, hM, hM2, hM16⟩ : ∃ M : Nat, M = 2 ^ (ws.length - 1) ∧ IntKind.i64.wrap (2 ^ (ws.length - 1)) = (M : Int) ∧ M ≤ 16 := by
    obtain h | h | h | h | h : ws.length = 1 ∨ ws.length = 2 ∨ ws.length = 3 ∨ ws.length = 4 ∨ ws.length = 5 := by omega
    all_goals (rw [h]; exact ⟨_, rfl, by decide, by decide⟩)
  have hE0 : Hid (bktL ws c v = bktGo ws c M 0 v) := by show _ = _; rw [hM]; rfl
  have hlr : R64 (ws.length : Int) := by constructor <;> omega
  have hL2 : (1 : Int) < (ws.length : Int) := by omega
  have hbH := hide hb
  have hnH := hide hn
  clear hM hb hn
  go_enter Try.func78, Try.ntmps78
  go_wp2_with fail
  go_loopw [6, 7, 8, 9, 10] (fun i _ _ _ _ wr => ∃ (m : Nat) (v' : List Int), m ≤ M ∧ i = .int .i64 m ∧ Touch g0 (g0 + 1) w wr ∧ wr.ownsRow lo0 3 1 (.slice (some ⟨g0, 0, none⟩) n c0) n (v'.map (Value.int .i64)) ∧ Hid (∀ x ∈ v', 0 ≤ x ∧ x < 1000000271) ∧ Hid (bktL ws c v = bktGo ws c (M - m) m v'))
    (fun i _ _ _ _ _ => M - (intOf i).toNat)
  case atStart => exact ⟨0, v, by omega, rfl, .refl _ _ _, hv, hvn, hE0⟩
  case round =>
    clear hE0
    obtain ⟨m, v', hmM, rfl, ht, hown, hnum, hE⟩ := hrel
    by_cases hlt : m < M
    · obtain ⟨W0, rfl⟩ : ∃ W0 : World, W0 = wr := ⟨_, rfl⟩
      have hs0 := ht.size
      have hw0 := hw.same (ht.same (by omega) (by omega))
      have hE1 : Hid (bktL ws c v = bktGo ws c (M - (m + 1)) (m + 1) (addAt v' (placeF (mskGo m ws.tail (ws.take 1) c).1).toNat (mskGo m ws.tail (ws.take 1) c).2)) := by
        show _ = _
        rw [hE.out, show M - m = (M - (m + 1)) + 1 by omega, bktGo]
      clear hE
      go_wp2_with fail
      go_loopw [7, 8, 9] (fun s x i wr => ∃ (q : Nat) (ad : Addr) (c' : Nat) (u : List Int) (y : Int), 1 ≤ q ∧ q ≤ ws.length ∧ i = .int .i64 q ∧ s = .slice (some ad) q c' ∧ x = .int .i64 y ∧ (0 ≤ y ∧ y < 1000000271) ∧ Below W0.heap.size W0 wr ∧ Hid (Ints wr 0 wr.heap.size (some ad) q c' u) ∧ (q ≤ c' ∧ c' ≤ 9223372036854775807) ∧ Hid (∀ x ∈ u, x = 0 ∨ x = 1) ∧ Hid (mskGo m ws.tail (ws.take 1) c = mskGo (m / 2 ^ (q - 1)) (ws.drop q) u y))
        (fun _ _ i _ => 7 - (intOf i).toNat)
      case atStart => exact ⟨1, _, cw, ws.take 1, c, by omega, by omega, rfl, rfl, rfl, hc, Below.refl _ _, (hw0.take_ (by omega : 1 ≤ ws.length)).wide (Nat.zero_le _) (by omega), by omega, fun x hx => hbH.out x (List.mem_of_mem_take hx), by show _ = _; simp⟩
      case round =>
        obtain ⟨q, ad, c', u, y, hq1, hq2, rfl, rfl, rfl, hy, hbl, hI, hcc, hub, hQ⟩ := hrel
        have hsb := hbl.size
        by_cases hql : q < ws.length
        · have hwr := hw0.below hbl (by omega)
          obtain ⟨ad0, x, e1, hcx0, hxr, hd, hx⟩ := hwr.at_ hql
          obtain ⟨ad1, e2, hgl, hgh, _⟩ := hwr.cells (by omega)
          injection e1 with e1
          injection e2 with e2
          subst e1
          subst e2
          simp only at hgl hgh
          have hcx : wr.cell? ⟨gw, q, none⟩ = some (.int .i64 x) := by simpa [Addr.add_lit] using hcx0
          have hxb := hbH.out x (List.mem_of_getElem? hx.out)
          have hbit := bit_and m (by omega) (q - 1) (by omega)
          have hdv : m / 2 ^ (q - 1) / 2 = m / 2 ^ (q + 1 - 1) := by
            rw [Nat.div_div_eq_div_mul, ← Nat.pow_succ, show (q - 1).succ = q + 1 - 1 by omega]
          have hQ1 : Hid (mskGo m ws.tail (ws.take 1) c = if m / 2 ^ (q - 1) % 2 = 0 then mskGo (m / 2 ^ (q + 1 - 1)) (ws.drop (q + 1)) (u ++ [x]) y else mskGo (m / 2 ^ (q + 1 - 1)) (ws.drop (q + 1)) (x :: u) (minusF 0 y)) := by
            show _ = _
            rw [hQ.out, hd.out, mskGo, hdv]
          have hyr := r64_of_num hy
          have h0r : R64 (0 : Int) := by constructor <;> omega
          have hul := hI.out.len
          clear hcx0 hd hx hQ hdv hwr
          by_cases hpar : m / 2 ^ (q - 1) % 2 = 0
          · have hb0 : bits BinOp.and IntKind.i64 ((m : Int) / 2 ^ (q - 1)) 1 = 0 := by rw [hbit, hpar]; rfl
            have hQ2 := hide (hQ1.out.trans (if_pos hpar))
            clear hQ1 hbit hpar
            have d2 : Below wr.heap.size wr wr.drew := (Below.refl _ _).drew
            have e1 := below_alloc wr.drew (.cells #[] 3)
            have e2 := below_alloc wr.drew (.cells #[.int .i64 x] 3)
            have e12 := below_alloc (wr.drew.alloc (.cells #[] 3)) (.cells #[.int .i64 x] 3)
            have e21 := below_alloc (wr.drew.alloc (.cells #[.int .i64 x] 3)) (.cells #[] 3)
            have F1 : Below wr.heap.size wr (wr.drew.alloc (.cells #[] 3)) := by (repeat (first | with_reducible exact Below.refl _ _ | with_reducible exact Below.refl _ _ | with_reducible refine Below.drew ?_ | ((with_reducible refine Below.alloc ?_ ?_ _); rotate_left; · first | omega | (simp [World.setCell]; done) | (simp [World.setCell]; omega)) | ((with_reducible refine Below.setCell ?_ ?_ _); rotate_left; · first | exact Nat.le_refl _ | omega | (simp; done) | (simp; omega))))
            have F2 : Below wr.heap.size wr (wr.drew.alloc (.cells #[.int .i64 x] 3)) := by (repeat (first | with_reducible exact Below.refl _ _ | with_reducible exact Below.refl _ _ | with_reducible refine Below.drew ?_ | ((with_reducible refine Below.alloc ?_ ?_ _); rotate_left; · first | omega | (simp [World.setCell]; done) | (simp [World.setCell]; omega)) | ((with_reducible refine Below.setCell ?_ ?_ _); rotate_left; · first | exact Nat.le_refl _ | omega | (simp; done) | (simp; omega))))
            have F12 : Below wr.heap.size wr ((wr.drew.alloc (.cells #[] 3)).alloc (.cells #[.int .i64 x] 3)) := by (repeat (first | with_reducible exact Below.refl _ _ | with_reducible exact Below.refl _ _ | with_reducible refine Below.drew ?_ | ((with_reducible refine Below.alloc ?_ ?_ _); rotate_left; · first | omega | (simp [World.setCell]; done) | (simp [World.setCell]; omega)) | ((with_reducible refine Below.setCell ?_ ?_ _); rotate_left; · first | exact Nat.le_refl _ | omega | (simp; done) | (simp; omega))))
            have F21 : Below wr.heap.size wr ((wr.drew.alloc (.cells #[.int .i64 x] 3)).alloc (.cells #[] 3)) := by (repeat (first | with_reducible exact Below.refl _ _ | with_reducible exact Below.refl _ _ | with_reducible refine Below.drew ?_ | ((with_reducible refine Below.alloc ?_ ?_ _); rotate_left; · first | omega | (simp [World.setCell]; done) | (simp [World.setCell]; omega)) | ((with_reducible refine Below.setCell ?_ ?_ _); rotate_left; · first | exact Nat.le_refl _ | omega | (simp; done) | (simp; omega))))
            have own1 : (wr.drew.alloc (.cells #[] 3)).ownsRow wr.heap.size 3 1 (.slice (some ⟨wr.heap.size, 0, none⟩) 0 0) 0 (([] : List Int).map (Value.int .i64)) := by
              simpa using World.ownsRow_lit (size := 1) (e := 3) wr.drew #[] 0 (show wr.heap.size ≤ wr.drew.heap.size from Nat.le_refl _) (by unfold maxLen; omega) rfl
            have own2 : ((wr.drew.alloc (.cells #[] 3)).alloc (.cells #[.int .i64 x] 3)).ownsRow wr.heap.size 3 1 (.slice (some ⟨wr.heap.size, 0, none⟩) 0 0) 0 (([] : List Int).map (Value.int .i64)) := own1.alloc _
            have own3 : ((wr.drew.alloc (.cells #[.int .i64 x] 3)).alloc (.cells #[] 3)).ownsRow wr.heap.size 3 1 (.slice (some ⟨wr.heap.size + 1, 0, none⟩) 0 0) 0 (([] : List Int).map (Value.int .i64)) := by
              simpa using World.ownsRow_lit (size := 1) (e := 3) (wr.drew.alloc (.cells #[.int .i64 x] 3)) #[] 0 (show wr.heap.size ≤ (wr.drew.alloc (.cells #[.int .i64 x] 3)).heap.size by simp) (by unfold maxLen; omega) rfl
            have x2 : Ints ((wr.drew.alloc (.cells #[] 3)).alloc (.cells #[.int .i64 x] 3)) 0 (wr.heap.size + 2) (some ⟨wr.heap.size + 1, 0, none⟩) 1 1 [x] := by
              simpa using ints_lit (wr.drew.alloc (.cells #[] 3)) x hxr (wr.heap.size + 2) (by simp)
            have x3 : Ints ((wr.drew.alloc (.cells #[.int .i64 x] 3)).alloc (.cells #[] 3)) 0 (wr.heap.size + 1) (some ⟨wr.heap.size, 0, none⟩) 1 1 [x] :=
              (ints_lit wr.drew x hxr (wr.heap.size + 1) (show wr.heap.size < _ by omega)).below e21 (by simp)
            have in1 := hI.out.below F1 (Nat.le_refl _)
            have in2 := hI.out.below F12 (Nat.le_refl _)
            have in3 := hI.out.below F21 (Nat.le_refl _)
            have hgw : gw < wr.heap.size := by omega
            have cellB : ∀ (v1 : World), Below wr.heap.size wr v1 → v1.cell? ⟨gw, q, none⟩ = some (.int .i64 x) := fun _ hB => (hB.cell (p := ⟨gw, q, none⟩) hgw).trans hcx
            have FH := hide (And.intro F1 (And.intro F2 (And.intro F12 F21)))
            have OW := hide (And.intro own1 (And.intro own2 own3))
            have IN := hide (And.intro in1 (And.intro in2 in3))
            have XX := hide (And.intro x2 x3)
            have CB := hide cellB
            clear d2 e1 e2 e12 e21 F1 F2 F12 F21 own1 own2 own3 in1 in2 in3 x2 x3 cellB
            go_wp2_with fail
            go_region_held3 (fun w' => w'.cell? ⟨gw, q, none⟩ = some (.int .i64 x)) (first | exact hcx | exact CB.out _ FH.out.1 | exact CB.out _ FH.out.2.1 | exact CB.out _ FH.out.2.2.1 | exact CB.out _ FH.out.2.2.2 | exact T1 | exact T1' | exact T2 | go_keep)
              (first
                | (refine step_appI (by rfl) _ _ (by rfl) _ wr.heap.size _ 0 0 [] (by rfl) OW.out.1 ad q c' 0 wr.heap.size u (by rfl) IN.out.1 (by omega) q (by omega) (by omega) (by simp) ?_; intro g1 c1 v1 hown1 hgrow1 hat1 hlt1; have BU := Below.grown FH.out.1 hgrow1 (by simp) (by intro k hk; injection hk with hk; omega); have szu := BU.size; have T1 := CB.out _ BU; have e9 := below_alloc v1 (.cells #[.int .i64 x] 3); have BX : Below wr.heap.size wr (v1.alloc (.cells #[.int .i64 x] 3)) := (by (repeat (first | with_reducible exact BU | with_reducible exact Below.refl _ _ | with_reducible refine Below.drew ?_ | ((with_reducible refine Below.alloc ?_ ?_ _); rotate_left; · first | omega | (simp [World.setCell]; done) | (simp [World.setCell]; omega)) | ((with_reducible refine Below.setCell ?_ ?_ _); rotate_left; · first | exact Nat.le_refl _ | omega | (simp; done) | (simp; omega))))); have T1' := CB.out _ BX; have own8 := hown1.alloc (.cells #[.int .i64 x] 3); have in8 := ints_lit v1 x hxr (v1.heap.size + 1) (by omega))
                | (refine step_appI (by rfl) _ _ (by rfl) _ wr.heap.size _ 0 0 [] (by rfl) OW.out.2.1 ad q c' 0 wr.heap.size u (by rfl) IN.out.2.1 (by omega) q (by omega) (by omega) (by simp <;> omega) ?_; intro g1 c1 v1 hown1 hgrow1 hat1 hlt1; have BX := Below.grown FH.out.2.2.1 hgrow1 (by simp <;> omega) (by intro k hk; injection hk with hk; omega); have szu := BX.size; have T1 := CB.out _ BX; have own8 := hown1; have in8 := (XX.out.1.wide (lo' := 0) (hi' := wr.heap.size + 2) (Nat.zero_le _) (Nat.le_refl _)).grown_far hgrow1 (by omega))
                | (refine step_appI (by rfl) _ _ (by rfl) _ wr.heap.size _ 0 0 [] (by rfl) OW.out.2.2 ad q c' 0 wr.heap.size u (by rfl) IN.out.2.2 (by omega) q (by omega) (by omega) (by simp <;> omega) ?_; intro g1 c1 v1 hown1 hgrow1 hat1 hlt1; have BX := Below.grown FH.out.2.2.2 hgrow1 (by simp <;> omega) (by intro k hk; injection hk with hk; omega); have szu := BX.size; have T1 := CB.out _ BX; have own8 := hown1; have in8 := XX.out.2.grown_far hgrow1 (by omega))
                | (refine step_appI (by rfl) _ _ (by rfl) _ wr.heap.size _ q _ _ (by rfl) own8 _ 1 1 _ _ [x] (by rfl) in8 (by omega) (q + 1) (by omega) (by omega) (by first | omega | (simp; omega)) ?_; intro g2 c2 v2 hown2 hgrow2 hat2 hlt2; have BY := Below.grown BX hgrow2 (by first | omega | (simp; omega)) (by intro k hk; injection hk with hk; subst hk; have := (owns_lt own8 _ rfl).1; simpa using this); have szv := BY.size; have T2 := CB.out _ BY))
            all_goals
              have hO2 : OwnI v2 wr.heap.size v2.heap.size (some ⟨g2, 0, none⟩) (q + 1) c2 (u ++ [x]) := ⟨hown2, fun ad e => (owns_lt hown2 ad e).2, fun z hz => by
                rcases List.mem_append.1 hz with hz | hz
                · rcases hub.out z hz with e | e <;> subst e <;> constructor <;> omega
                · simp at hz; subst hz; exact hxr⟩
              have hI2 := hide (hO2.ints.wide (Nat.zero_le _) (Nat.le_refl _))
              have hc2 := hO2.cap
              have hm2 := hO2.max
              have HB := hbl.trans (BY.mono hsb)
              clear hO2 hown1 hown2 own8 in8 hI hbl hcx hb0 FH OW IN XX CB
              go_wp2_with fail
              go_roundw
              case rel => exact ⟨q + 1, _, c2, u ++ [x], y, by omega, by omega, by go_num, rfl, rfl, hy, HB, hI2, by omega, by
                intro z hz
                rcases List.mem_append.1 hz with hz | hz
                · exact hub.out z hz
                · simp at hz; subst hz; exact hxb, hQ2⟩
              case measure => simp [intOf]; omega
          · have hb1 : bits BinOp.and IntKind.i64 ((m : Int) / 2 ^ (q - 1)) 1 = 1 := by rw [hbit, show m / 2 ^ (q - 1) % 2 = 1 by omega]; rfl
            have hQ2 := hide (hQ1.out.trans (if_neg hpar))
            clear hQ1 hbit hpar
            have hnl := World.ownsRow_lit (size := 1) (e := 3) wr #[.int .i64 x] 1 (Nat.le_refl _) (by unfold maxLen; omega) rfl
            have hl : (u.map (Value.int .i64)).length = q * 1 := by simpa using hul
            have hone : ∀ z ∈ u.map (Value.int .i64), z.oneCell' = true := by
              intro z hz
              simp only [List.mem_map] at hz
              obtain ⟨z', _, rfl⟩ := hz
              rfl
            have hIa := hI.out.below (below_alloc wr (.cells #[.int .i64 x] 3)) (Nat.le_refl _)
            have hnews : ∀ ad', some ad = some ad' → ∀ j z, (u.map (Value.int .i64))[j]? = some z → (wr.alloc (.cells #[.int .i64 x] 3)).cell? (ad'.add j) = some z := by
              intro ad' e j z hz
              injection e with e
              subst e
              rw [List.getElem?_map] at hz
              cases hyj : u[j]? with
              | none => rw [hyj] at hz; cases hz
              | some y' =>
                rw [hyj] at hz
                injection hz with hz
                subst hz
                obtain ⟨ad', e, _, _, hcz⟩ := hIa.cells (by omega)
                injection e with e
                subst e
                exact hcz j y' hyj
            have b1 := below_alloc wr (.cells #[.int .i64 x] 3)
            clear hIa
            go_wp2_with (at_builtin; refine wpl_app rfl (.tmp 48) (.tmp 49) 22 rfl _ wr.heap.size 3 i0 (.int .i64 0) 1 8 Try.underlying22 hi0 hz0 hz1 hz2 rfl (by omega) (some ⟨wr.heap.size, 0, none⟩) 1 1 [.int .i64 x] rfl hnl (some ad) q c' (u.map (Value.int .i64)) rfl hl hnews (by intro e; cases e) hone (by omega) (by omega) (by simp) ?_; intro A2 c2 v2 happ)
            have h2 : Below wr.heap.size wr v2 := happ.below b1 (by simp) (by intro ad e; injection e with e; subst e; exact Nat.le_refl _)
            obtain ⟨g2, e2, hg2⟩ : ∃ g2, A2 = some ⟨g2, 0, none⟩ ∧ wr.heap.size ≤ g2 := by
              rcases happ.1.2 with ⟨e, h0⟩ | ⟨g2, cap, cur, e, h1, _⟩
              · exact absurd h0 (by omega)
              · injection e with e
                exact ⟨g2, e, h1⟩
            subst e2
            have ho2 : v2.ownsRow wr.heap.size 3 1 (.slice (some ⟨g2, 0, none⟩) (q + 1) c2) (q + 1) ((x :: u).map (Value.int .i64)) := by
              have q1 := happ.1
              rw [Nat.add_comm 1 q] at q1
              exact q1
            have hO2 : OwnI v2 wr.heap.size v2.heap.size (some ⟨g2, 0, none⟩) (q + 1) c2 (x :: u) := ⟨ho2, fun ad e => (owns_lt ho2 ad e).2, fun z hz => by
              rcases List.mem_cons.1 hz with hz | hz
              · subst hz; exact hxr
              · rcases hub.out z hz with e | e <;> subst e <;> constructor <;> omega⟩
            have hI2 := hide (hO2.ints.wide (Nat.zero_le _) (Nat.le_refl _))
            have hc2 := hO2.cap
            have hm2 := hO2.max
            have HB := hbl.trans (h2.mono hsb)
            have hmb := minusF_bd 0 y
            clear hO2 ho2 happ hI hbl hcx hb1 h2 b1 hnl hl hone hnews
            go_wp2_with (go_at_call 49; refine (spec_Minus 0 y v2 h0r hyr).mono ?_; rintro e w' ⟨rfl, rfl⟩)
            go_roundw
            case rel => exact ⟨q + 1, ⟨g2, 0, none⟩, c2, x :: u, minusF 0 y, by omega, by omega, by go_num, congrArg (fun z => Value.slice (some ⟨g2, 0, none⟩) z c2) (Nat.add_comm 1 q), rfl, hmb, HB, hI2, by omega, by
              intro z hz
              rcases List.mem_cons.1 hz with hz | hz
              · subst hz; exact hxb
              · exact hub.out z hz, hQ2⟩
            case measure => simp [intOf]; omega
        · obtain rfl : q = ws.length := by omega
          have hQ3 : mskGo m ws.tail (ws.take 1) c = (u, y) := by rw [hQ.out, List.drop_length, mskGo]
          have hul := hI.out.len
          have hpb := placeF_bd (xs := u) hub.out (by omega)
          obtain ⟨p, hp⟩ : ∃ p : Nat, placeF u = (p : Int) := ⟨(placeF u).toNat, by omega⟩
          have hpn : p < n := by
            have h3 := hpb.2
            rw [hul, hp] at h3
            have h4 := hnH.out
            have h5 : ((2 ^ (ws.length + 1) : Nat) : Int) = 2 ^ (ws.length + 1) := by simp
            omega
          have hE2 : Hid (bktL ws c v = bktGo ws c (M - (m + 1)) (m + 1) (addAt v' p y)) := by
            show _ = _
            rw [hE1.out, hQ3]
            simp only
            rw [hp]
            rfl
          have hlv' : v'.length = n := by simpa using hown.1
          have hg0' := (owns_lt hown _ rfl).2
          simp only at hg0'
          have hown2 := owns_below hown hbl (fun ad e => (owns_lt hown ad e).2)
          have hcy : wr.cell? ⟨g0, p, none⟩ = some (.int .i64 (v'.getD p 0)) := by
            rw [hown2.cellAt p (by omega)]
            simp [List.getD, show p < v'.length by omega]
          have hfy := hown2.frozenAt p
          have hyb : 0 ≤ v'.getD p 0 ∧ v'.getD p 0 < 1000000271 := by
            rw [List.getD, List.getElem?_eq_getElem (show p < v'.length by omega)]
            exact hnum.out _ (List.getElem_mem _)
          have hst := hown2.stored p (.int .i64 (plusF (v'.getD p 0) y))
          have ht2 : Touch g0 (g0 + 1) w (wr.setCell ⟨g0, p, none⟩ (.int .i64 (plusF (v'.getD p 0) y))) := (ht.trans (.of_below hbl)).setCell (.inl ⟨Nat.le_refl _, by simp⟩) _
          have hst' : (wr.setCell ⟨g0, p, none⟩ (.int .i64 (plusF (v'.getD p 0) y))).ownsRow lo0 3 1 (.slice (some ⟨g0, 0, none⟩) n c0) n ((addAt v' p y).map (Value.int .i64)) := by
            unfold addAt
            simpa [List.map_set] using hst.1
          have hnum2 : Hid (∀ z ∈ addAt v' p y, 0 ≤ z ∧ z < 1000000271) := by
            intro z hz
            rcases List.mem_or_eq_of_mem_set hz with hz | hz
            · exact hnum.out z hz
            · rw [hz]; exact plusF_bd _ _
          have HS := hide (And.intro ht2 hst')
          have cp : Calls Try.prog 70 #[.slice (some ad) ws.length c'] wr fun e w' => e = .returned (.int .i64 (p : Int)) ∧ wr = w' := by
            rw [← hp]; exact spec_PlaceOfWord _ _ _ _ _ _ _ hI.out
          have har := r64_of_num hyb
          have hyr := r64_of_num hy
          clear hst hst' ht2 hown2 hown hQ hQ3 hI hub hp hpb hbl hE1 hyb
          generalize v'.getD p 0 = av at hcy har HS
          go_wp2_with (first
            | (go_at_call 70; refine cp.mono ?_; rintro e w' ⟨rfl, rfl⟩)
            | (go_at_call 62; refine (spec_Plus av y wr har hyr).mono ?_; rintro e w' ⟨rfl, rfl⟩))
          go_roundw
          case rel => exact ⟨m + 1, addAt v' p y, by omega, by go_num, HS.out.1, HS.out.2, hnum2, hE2⟩
          case measure => simp [intOf]; omega
    · have E0 : Hid (bktL ws c v = v') := by
        show _ = _
        rw [hE.out, show M - m = 0 by omega]
        rfl
      have hge : ¬ (m : Int) < (M : Int) := by omega
      clear hE
      go_wp2_with fail
      exact bodyPost_end (results_none rfl _ _ _) rfl ⟨rfl, ht, by rw [E0.out]; exact hown⟩

end Go.Proofs.Ytodlfmagkjblgaa
