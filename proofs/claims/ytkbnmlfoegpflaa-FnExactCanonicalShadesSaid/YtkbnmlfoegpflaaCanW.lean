/- CanonicalShades: both texts. -/
import Derived.Test.YtkbnmlfoegpflaaFormX
namespace Go.Proofs.Ytkbnmlfoegpflaa
open Go.RowKit
set_option linter.unusedSimpArgs false
set_option linter.unusedVariables false
set_option maxRecDepth 20000

def canF (xs : List Int) : List Int := if isShadesF xs then formF 4 xs else []
theorem good_le {l : List Int} (h : isShadesF l = true) : ∀ x ∈ l, x ≤ 1000 := by
  cases l with
  | nil => cases h
  | cons a r =>
    rw [isShadesF] at h
    split at h
    · cases h
    · intro x hx
      rcases List.mem_cons.1 hx with rfl | hx
      · omega
      · have := good_small r a (by omega) h x hx
        omega

theorem impl_Can (A : Option Addr) (n c : Nat) (xs : List Int) (lo hi : Nat) (w : World) (o : OwnI w lo hi A n c xs) (hh : hi ≤ w.heap.size) :
    Calls Try.prog 6 #[.slice A n c] w fun e w' => ∃ A' n' c', e = .returned (.slice A' n' c') ∧ OwnI w' w.heap.size w'.heap.size A' n' c' (canF xs) ∧ Below w.heap.size w w' := by
  have hS := hide (impl_IsShades A n c xs lo hi w o.ints)
  have hcase : isShadesF xs = true ∨ isShadesF xs = false := by cases isShadesF xs <;> simp
  have hC : Hid (canF xs = if isShadesF xs then formF 4 xs else []) := rfl
  rcases hcase with hc | hc
  · have hg := good_of hc
    have hn0 : 0 < n := by
      have := o.len
      obtain ⟨b, q, e, _⟩ := hg.1
      rw [e] at this
      simp at this
      omega
    obtain ⟨gw, rfl, hg1, hg2, hg3⟩ := o.form hn0
    have hK := hide (fun qd => impl_sorted 4 gw n c xs lo hi (w.drewN qd) (o.ints.same (fun _ _ _ => rfl)) hh hg.1 hg.2 (Nat.le_refl _) (good_le hc))
    rw [hc] at hS hC
    clear hc hg
    go_enter Try.func6, Try.ntmps6
    go_wp2_with fail
    refine hS.out.mono ?_
    rintro e w1 ⟨rfl, q, rfl⟩
    go_wp2_with fail
    refine (hK.out q).mono ?_
    rintro e w2 ⟨g2, c2, rfl, o2, b2⟩
    have HO := hide o2
    have HB := hide b2
    clear o2 b2
    go_wp2_with fail
    go_ret
    exact ⟨_, n, c2, rfl, by rw [hC.out]; exact HO.out, ⟨HB.out.os, HB.out.tape, HB.out.output, HB.out.size, HB.out.block⟩⟩
  · rw [hc] at hS hC
    clear hc
    go_enter Try.func6, Try.ntmps6
    go_wp2_with fail
    refine hS.out.mono ?_
    rintro e w1 ⟨rfl, q, rfl⟩
    go_wp2_with fail
    go_ret
    exact ⟨none, 0, 0, rfl, by rw [hC.out]; exact OwnI.nil_ _ _ _, below_drewN (Below.refl _ _) q⟩

theorem spec_Can (A : Option Addr) (n c : Nat) (xs : List Int) (lo hi : Nat) (w : World) (o : OwnI w lo hi A n c xs) (hh : hi ≤ w.heap.size) (hn : n ≤ 1048576) :
    Calls Try.prog 4 #[.slice A n c] w fun e w' => ∃ A' n' c', e = .returned (.slice A' n' c') ∧ OwnI w' w.heap.size w'.heap.size A' n' c' (canF xs) ∧ Below w.heap.size w w' := by
  have hS0 := spec_IsShades A n c xs lo hi w o.ints hh hn
  rw [← shades_eq xs] at hS0
  have hS := hide hS0
  clear hS0
  have hcase : isShadesF xs = true ∨ isShadesF xs = false := by cases isShadesF xs <;> simp
  have hC : Hid (canF xs = if isShadesF xs then formF 4 xs else []) := rfl
  rcases hcase with hc | hc
  · have hg := good_of hc
    have hn0 : 0 < n := by
      have := o.len
      obtain ⟨b, q, e, _⟩ := hg.1
      rw [e] at this
      simp at this
      omega
    obtain ⟨gw, rfl, hg1, hg2, hg3⟩ := o.form hn0
    have hK := hide (fun W (hb : Below w.heap.size w W) => spec_l10Form 4 gw n c xs lo hi W (o.ints.below hb hh) (Nat.le_trans hh hb.size) hg.1 hg.2 (Nat.le_refl _) (good_le hc))
    rw [hc] at hS hC
    clear hc hg
    go_enter Try.func4, Try.ntmps4
    go_wp2_with fail
    refine hS.out.mono ?_
    rintro e w1 ⟨rfl, b1⟩
    have z1 := b1.size
    go_wp2_with fail
    refine (hK.out w1 b1).mono ?_
    rintro e w2 ⟨g2, c2, rfl, o2, b2⟩
    have HO := hide (o2.wide z1 (Nat.le_refl _))
    have HB := hide (b1.trans (b2.mono z1))
    clear o2 b2
    go_wp2_with fail
    go_ret
    exact ⟨_, n, c2, rfl, by rw [hC.out]; exact HO.out, HB.out⟩
  · rw [hc] at hS hC
    clear hc
    go_enter Try.func4, Try.ntmps4
    go_wp2_with fail
    refine hS.out.mono ?_
    rintro e w1 ⟨rfl, b1⟩
    go_wp2_with fail
    go_ret
    exact ⟨none, 0, 0, rfl, by rw [hC.out]; exact OwnI.nil_ _ _ _, b1⟩
theorem can_len (xs : List Int) : (canF xs).length ≤ 4 := by
  unfold canF
  split
  · rename_i h
    have := (good_of h).2
    rw [form_len]
    exact this
  · simp
end Go.Proofs.Ytkbnmlfoegpflaa
