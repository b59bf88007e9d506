/- A text with a sign turned, lost or put in: the walk. -/
import Derived.Test.YtppekbokaknocaaDoorDrawT
namespace Go.Proofs.YtppekbokaknocaaDoor
open Go.RowKit
set_option linter.unusedSimpArgs false
set_option linter.unusedVariables false
set_option maxRecDepth 20000

def crumbs : List ByteArray := [⟨#[32]⟩, ⟨#[48]⟩, ⟨#[49]⟩, ⟨#[45]⟩, ⟨#[47]⟩, ⟨#[35]⟩, ⟨#[91]⟩, ⟨#[93]⟩, ⟨#[124]⟩, ⟨#[42]⟩, ⟨#[97]⟩, ⟨#[59]⟩, ⟨#[43]⟩, ⟨#[57]⟩]
theorem crumb_size : ∀ x ∈ crumbs, x.size = 1 := by
  intro x hx
  simp only [crumbs, List.mem_cons, List.not_mem_nil, or_false] at hx
  rcases hx with rfl | rfl | rfl | rfl | rfl | rfl | rfl | rfl | rfl | rfl | rfl | rfl | rfl | rfl <;> rfl
/-- the bytes l lie in the block b -/
def Lies (W : World) (b : Nat) (l : List UInt8) : Prop := ∀ j (hj : j < l.length), W.cell? ⟨b, j, none⟩ = some (.int .u8 (l[j].toNat : Int))
theorem conv_take {W : World} {b : Nat} {l : List UInt8} (h : Lies W b l) (k cap : Nat) (hk : k ≤ l.length) : ∀ q, (convert 28 9 (.slice (some ⟨b, 0, none⟩) k cap)).run Tryd.prog (W.drewN q) = .ok (.string ⟨(l.take k).toArray⟩) (W.drewN q) := by
  intro q
  have e : (l.take k).length = k := by rw [List.length_take]; omega
  have := run_convert_bytes_back (P := Tryd.prog) (W.drewN q) 28 9 5 ⟨b, 0, none⟩ cap (l.take k) Tryd.underlying28 Tryd.underlying5 Tryd.underlying9 (fun j hj => by
    rw [Addr.add_lit, Nat.zero_add, List.getElem_take]
    exact h j (by rw [e] at hj; omega))
  rwa [e] at this
theorem conv_drop {W : World} {b : Nat} {l : List UInt8} (h : Lies W b l) (k cap : Nat) (hk : k ≤ l.length) (hc : l.length ≤ cap) : ∀ q, (convert 28 9 (.slice (if cap = k then some ⟨b, 0, none⟩ else some ⟨b, k, none⟩) (l.length - k) (cap - k))).run Tryd.prog (W.drewN q) = .ok (.string ⟨(l.drop k).toArray⟩) (W.drewN q) := by
  intro q
  have e : (l.drop k).length = l.length - k := List.length_drop
  have := run_convert_bytes_back (P := Tryd.prog) (W.drewN q) 28 9 5 (if cap = k then ⟨b, 0, none⟩ else ⟨b, k, none⟩) (cap - k) (l.drop k) Tryd.underlying28 Tryd.underlying5 Tryd.underlying9 (fun j hj => by
    rw [e] at hj
    rw [if_neg (by omega), Addr.add_lit, List.getElem_drop]
    exact h (k + j) (by omega))
  rw [e] at this
  by_cases hck : cap = k
  · rw [if_pos hck] at this ⊢; exact this
  · rw [if_neg hck] at this ⊢; exact this

set_option maxRecDepth 100000 in
set_option maxHeartbeats 2000000 in
theorem spec_dCrumb (hi g : Nat) (s : ByteArray) (w : World) (h : Cur w hi g) (hs : s.size ≤ 200) :
    Calls Tryd.prog 29 #[.pointer (some ⟨g, 0, none⟩), .string s] w fun e w' => ∃ t, e = .returned (.string t) ∧ t.size ≤ 201 ∧ Cur w' hi g ∧ Touch g (g + 1) w w' := by
  obtain ⟨glt, hgl⟩ := h.lt
  go_enter Tryd.func29, Tryd.ntmps29
  go_wp2_with fail
  refine (spec_l1Below hi g 3 w h (by omega) (by omega)).mono ?_
  rintro e w1 ⟨x, rfl, hx0, hx1, c1, t1⟩
  have z1 := t1.size
  by_cases hx : 0 < x
  · go_wp2_with fail
    go_ret
    exact ⟨s, rfl, by omega, c1, t1⟩
  · obtain rfl : x = 0 := by omega
    have hbs := run_bytes_of_string (P := Tryd.prog) w1 9 28 5 s Tryd.underlying9 Tryd.underlying28 Tryd.underlying5
    have hcg := grownCap_ge w1 s.size 0 5
    have hcm := grownCap_le_maxLen w1 s.size 0 5 (by unfold maxLen; omega)
    generalize hcap : grownCap w1 s.size 0 5 = cap at hbs hcg hcm
    have hL : Lies (w1.alloc (.cells (bytesRow s cap) 5 ((bytesRow s cap).size, (bytesRow s cap).size + 1))).drew w1.heap.size s.data.toList := fun j hj => by
      have := World.cell?_alloc_mark w1 (bytesRow s cap) 5 ((bytesRow s cap).size, (bytesRow s cap).size + 1) j
      refine this.trans ?_
      have hj' : j < s.data.size := by simpa using hj
      unfold bytesRow
      rw [Array.getElem?_append_left (by simpa using hj')]
      rw [Array.getElem?_map, Array.getElem?_eq_getElem hj']
      rfl
    have bA : Below w1.heap.size w1 (w1.alloc (.cells (bytesRow s cap) 5 ((bytesRow s cap).size, (bytesRow s cap).size + 1))).drew := ((Below.refl _ w1).alloc (Nat.le_refl _) _).drew
    have cA : Cur (w1.alloc (.cells (bytesRow s cap) 5 ((bytesRow s cap).size, (bytesRow s cap).size + 1))).drew hi g := c1.below bA
    have tA : Touch g (g + 1) w (w1.alloc (.cells (bytesRow s cap) 5 ((bytesRow s cap).size, (bytesRow s cap).size + 1))).drew := t1.then_below bA z1
    have zA : (w1.alloc (.cells (bytesRow s cap) 5 ((bytesRow s cap).size, (bytesRow s cap).size + 1))).drew.heap.size = w1.heap.size + 1 := by simp
    have hcm' : cap ≤ 9223372036854775807 := by unfold maxLen at hcm; omega
    have hsl : s.data.toList.length = s.size := by rw [Array.length_toList]; rfl
    clear hcap hcm bA
    go_wp2_with fail
    generalize (w1.alloc (.cells (bytesRow s cap) 5 ((bytesRow s cap).size, (bytesRow s cap).size + 1))).drew = W at hL cA tA zA ⊢
    obtain ⟨b, hb⟩ : ∃ b, w1.heap.size = b := ⟨_, rfl⟩
    rw [hb] at hL zA z1 ⊢
    clear hb hbs t1 c1
    refine (spec_l1Below hi g ((s.size : Int) + 1) W cA (by omega) (by omega)).mono ?_
    rintro e w2 ⟨k0, rfl, hk0, hk1, c2, t2⟩
    obtain ⟨k, rfl⟩ : ∃ k : Nat, k0 = k := ⟨k0.toNat, by omega⟩
    have z2 := t2.size
    have T2 := tA.trans t2
    have L2 : Lies w2 b s.data.toList := fun j hj => (World.cell?_of_block (a := ⟨b, j, none⟩) (t2.block b (by omega) (.inr (by omega)))).trans (hL j hj)
    clear tA t2 hL cA
    go_wp2_with fail
    have cB := c2.below (below_alloc w2 (.cells (crumbs.map Value.string).toArray 9))
    have tB := T2.alloc (.cells (crumbs.map Value.string).toArray 9)
    have hcs : ∀ j x, crumbs[j]? = some x → (w2.alloc (.cells (crumbs.map Value.string).toArray 9)).cell? ⟨w2.heap.size, j, none⟩ = some (.string x) := fun j x hx => lit_cells (vs := crumbs.map Value.string) j _ (by rw [List.getElem?_map, hx]; rfl)
    have LB : Lies (w2.alloc (.cells (crumbs.map Value.string).toArray 9)) b s.data.toList := fun j hj => ((below_alloc w2 (.cells (crumbs.map Value.string).toArray 9)).cell (p := ⟨b, j, none⟩) (show b < w2.heap.size by omega)).trans (L2 j hj)
    refine (spec_l1Pick hi g w2.heap.size 14 crumbs (w2.alloc (.cells (crumbs.map Value.string).toArray 9)) cB (by omega) (by omega) rfl (by simp) (by omega) hcs).mono ?_
    rintro e w3 ⟨x, rfl, hx, c3, t3⟩
    have hxs := crumb_size x hx
    have T3 := tB.trans t3
    have z3 := T3.size
    have zB : b < (w2.alloc (.cells (crumbs.map Value.string).toArray 9)).heap.size := by simp; omega
    have L3 : Lies w3 b s.data.toList := fun j hj => (World.cell?_of_block (a := ⟨b, j, none⟩) (t3.block b zB (.inr (by omega)))).trans (LB j hj)
    have zb3 : b < w3.heap.size := Nat.lt_of_lt_of_le zB t3.size
    clear hx hcs LB cB tB t3 L2 c2 T2 zB
    go_wp2_with fail
    refine (spec_l1Once hi g 2 w3 c3 (by omega) (by omega)).mono ?_
    rintro e w4 ⟨o1, rfl, c4, t4⟩
    have T4 := T3.trans t4
    have L4 : Lies w4 b s.data.toList := fun j hj => (World.cell?_of_block (a := ⟨b, j, none⟩) (t4.block b zb3 (.inr (by omega)))).trans (L3 j hj)
    have zb4 : b < w4.heap.size := Nat.lt_of_lt_of_le zb3 t4.size
    clear T3 t4 L3 c3
    have hk1' : (k : Int) ≤ s.size := by omega
    have hk0' : (0 : Int) ≤ k := hk0
    have hkc : (k : Int) ≤ cap := by omega
    have cq : ∀ (v : World) q, Cur v hi g → Cur (v.drewN q) hi g := fun v q hv => hv.low (below_drewN (Below.refl v.heap.size v) q) hv.lt.1
    have CQ := hide cq
    clear cq
    cases o1 with
    | true =>
      have A1K := conv_take L4 k cap (by omega)
      have A1 := A1K
      have A2 := conv_drop L4 (k) cap (by omega) (by omega)
      rw [hsl] at A2
      obtain ⟨p1, hp1⟩ : ∃ p1 : ByteArray, ⟨(s.data.toList.take k).toArray⟩ = p1 := ⟨_, rfl⟩
      obtain ⟨p2, hp2⟩ : ∃ p2 : ByteArray, ⟨(s.data.toList.drop (k)).toArray⟩ = p2 := ⟨_, rfl⟩
      have hz : p1.size = k ∧ p2.size = s.size - (k) := by
        subst hp1 hp2
        simp only [ByteArray.size_mk', List.size_toArray, List.length_take, List.length_drop]
        rw [hsl]
        constructor <;> omega
      rw [hp1] at A1
      rw [hp2] at A2
      obtain ⟨hz1, hz2⟩ := hz
      clear hp1 hp2 A1K
      have hadd0 : ∀ W : World, (Op.stringOp .add p1 x).run Tryd.prog W = .ok (.string (p1 ++ x)) W := fun W => run_string_add_sum W _ _ (by omega)
      have hadd1 : ∀ W : World, (Op.stringOp .add (p1 ++ x) p2).run Tryd.prog W = .ok (.string (p1 ++ x ++ p2)) W := fun W => run_string_add_sum W _ _ (by simp only [ByteArray.size_append]; omega)
      have HZ : Hid ((p1 ++ x ++ p2).size ≤ 201) := by show _ ≤ _; simp only [ByteArray.size_append]; omega
      clear hz1 hz2
      clear hxs
      go_wp2_with fail
      go_quiet (fail)
      go_wp2_with fail
      all_goals
        go_ret
        exact ⟨_, rfl, HZ.out, CQ.out _ _ c4, T4.drewN _⟩
    | false =>
      by_cases hlt : k < s.size
      · have hlt' : (k : Int) < s.size := by omega
        have hk2 : (0 : Int) ≤ (k : Int) + 1 := by omega
        have hk3 : (k : Int) + 1 ≤ s.size := by omega
        go_wp2_with fail
        refine (spec_l1Once hi g 2 w4 c4 (by omega) (by omega)).mono ?_
        rintro e w5 ⟨o2, rfl, c5, t5⟩
        have T5 := T4.trans t5
        have L5 : Lies w5 b s.data.toList := fun j hj => (World.cell?_of_block (a := ⟨b, j, none⟩) (t5.block b zb4 (.inr (by omega)))).trans (L4 j hj)
        clear T4 t5 L4 c4
        cases o2 with
        | true =>
          have A1K := conv_take L5 k cap (by omega)
          have A1 := A1K
          have A2 := conv_drop L5 (k + 1) cap (by omega) (by omega)
          rw [hsl] at A2
          obtain ⟨p1, hp1⟩ : ∃ p1 : ByteArray, ⟨(s.data.toList.take k).toArray⟩ = p1 := ⟨_, rfl⟩
          obtain ⟨p2, hp2⟩ : ∃ p2 : ByteArray, ⟨(s.data.toList.drop (k + 1)).toArray⟩ = p2 := ⟨_, rfl⟩
          have hz : p1.size = k ∧ p2.size = s.size - (k + 1) := by
            subst hp1 hp2
            simp only [ByteArray.size_mk', List.size_toArray, List.length_take, List.length_drop]
            rw [hsl]
            constructor <;> omega
          rw [hp1] at A1
          rw [hp2] at A2
          obtain ⟨hz1, hz2⟩ := hz
          clear hp1 hp2 A1K
          have hadd0 : ∀ W : World, (Op.stringOp .add p1 p2).run Tryd.prog W = .ok (.string (p1 ++ p2)) W := fun W => run_string_add_sum W _ _ (by omega)
          have HZ : Hid ((p1 ++ p2).size ≤ 201) := by show _ ≤ _; simp only [ByteArray.size_append]; omega
          clear hz1 hz2
          clear hxs
          go_wp2_with fail
          go_quiet (fail)
          go_wp2_with fail
          all_goals
            go_ret
            exact ⟨_, rfl, HZ.out, CQ.out _ _ c5, T5.drewN _⟩
        | false =>
          have A1K := conv_take L5 k cap (by omega)
          have A1 := A1K
          have A2 := conv_drop L5 (k + 1) cap (by omega) (by omega)
          rw [hsl] at A2
          obtain ⟨p1, hp1⟩ : ∃ p1 : ByteArray, ⟨(s.data.toList.take k).toArray⟩ = p1 := ⟨_, rfl⟩
          obtain ⟨p2, hp2⟩ : ∃ p2 : ByteArray, ⟨(s.data.toList.drop (k + 1)).toArray⟩ = p2 := ⟨_, rfl⟩
          have hz : p1.size = k ∧ p2.size = s.size - (k + 1) := by
            subst hp1 hp2
            simp only [ByteArray.size_mk', List.size_toArray, List.length_take, List.length_drop]
            rw [hsl]
            constructor <;> omega
          rw [hp1] at A1
          rw [hp2] at A2
          obtain ⟨hz1, hz2⟩ := hz
          clear hp1 hp2 A1K
          have hadd0 : ∀ W : World, (Op.stringOp .add p1 x).run Tryd.prog W = .ok (.string (p1 ++ x)) W := fun W => run_string_add_sum W _ _ (by omega)
          have hadd1 : ∀ W : World, (Op.stringOp .add (p1 ++ x) p2).run Tryd.prog W = .ok (.string (p1 ++ x ++ p2)) W := fun W => run_string_add_sum W _ _ (by simp only [ByteArray.size_append]; omega)
          have HZ : Hid ((p1 ++ x ++ p2).size ≤ 201) := by show _ ≤ _; simp only [ByteArray.size_append]; omega
          clear hz1 hz2
          clear hxs
          go_wp2_with fail
          go_quiet (fail)
          go_wp2_with fail
          all_goals
            go_ret
            exact ⟨_, rfl, HZ.out, CQ.out _ _ c5, T5.drewN _⟩
      · have hlt' : ¬ ((k : Int) < s.size) := by omega
        go_wp2_with fail
        go_ret
        exact ⟨_, rfl, by omega, c4, T4⟩
end Go.Proofs.YtppekbokaknocaaDoor
