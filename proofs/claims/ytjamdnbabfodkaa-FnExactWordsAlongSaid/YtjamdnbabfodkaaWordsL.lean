/- The statements' own helpers on words: a copy, a count, a comparison, a mark, a look at the marks. -/
import Derived.Test.YtjamdnbabfodkaaMgJ
namespace Go.Proofs.Ytjamdnbabfodkaa
open Go.RowKit
set_option linter.unusedSimpArgs false
set_option linter.unusedVariables false
set_option maxRecDepth 20000

theorem laws_toWords (o : Int) (A : Option Addr) (n c : Nat) (xs : List Int) (lo hi : Nat) (w : World) (h : Ints w lo hi A n c xs) (hh : hi ≤ w.heap.size) (hn : n ≤ 1048576) :
    Calls Try.prog 7 #[.agg #[.int .i64 o, .slice A n c]] w fun e w' => ∃ A' c', e = .returned (.agg #[.int .i64 o, .slice A' n c']) ∧ OwnI w' w.heap.size w'.heap.size A' n c' xs ∧ Below w.heap.size w w' := by
  have hcp := h.cap
  have hm := h.max
  go_enter Try.func7, Try.ntmps7
  go_wp2_with fail
  refine (laws_toIntS A n c xs lo hi _ (h.below (B := w.heap.size) (by (repeat (first | with_reducible exact Below.refl _ _ | with_reducible exact Below.refl _ _ | with_reducible refine Below.drew ?_ | ((with_reducible refine Below.alloc ?_ ?_ _); rotate_left; · first | omega | (simp [World.setCell]; done) | (simp [World.setCell]; omega)) | ((with_reducible refine Below.setCell ?_ ?_ _); rotate_left; · first | exact Nat.le_refl _ | omega | (simp; done) | (simp; omega))))) hh) (by simp; omega) hn).mono ?_
  rintro e w1 ⟨A1, c1, rfl, o1, b1⟩
  obtain ⟨p20, p21, f20, f21, hlt2⟩ := res2 b1
  obtain ⟨p10, p11, f10, f11, hlt1⟩ := res2 (below_alloc_inv b1)
  simp at p10 p11 p20 p21 f10 f11 f20 f21 hlt1 hlt2
  have b2 : Below w.heap.size w w1 := below_alloc_inv (below_alloc_inv (below_alloc_inv b1))
  have HO : Hid (OwnI w1 (w.heap.size + 1 + 1 + 1) w1.heap.size A1 n c1 xs) := o1.wide (by simp) (Nat.le_refl _)
  clear b1 o1
  go_wp2_with fail
  refine bodyPost_ret (v := .agg #[.int .i64 o, .slice A1 n c1]) (by simp [results, Try.results7, go_sem, p10, p11, p20, p21, hlt1, hlt2]) rfl ⟨_, _, rfl, ?_, ?_⟩
  · refine (OwnI.same HO.out ?_).wide (by omega) ?_
    · (repeat (first | with_reducible exact Same.refl _ _ _ | with_reducible refine Same.drew ?_ | ((with_reducible refine Same.alloc ?_ ?_ _); rotate_left; · first | omega | (simp [World.setCell]; done) | (simp [World.setCell]; omega)) | ((with_reducible refine Same.setCell ?_ ?_ _); rotate_left; · first | omega | (simp; done) | (simp; omega))))
    · simp [World.setCell]
  · (repeat (first | with_reducible exact b2 | with_reducible exact Below.refl _ _ | with_reducible refine Below.drew ?_ | ((with_reducible refine Below.alloc ?_ ?_ _); rotate_left; · first | omega | (simp [World.setCell]; done) | (simp [World.setCell]; omega)) | ((with_reducible refine Below.setCell ?_ ?_ _); rotate_left; · first | exact Nat.le_refl _ | omega | (simp; done) | (simp; omega))))

theorem szF_neg {n : Nat} {left : Int} (h : szF n left < 0) : szF n left = -1 := by
  unfold szF at *
  split at h
  · rw [if_pos (by assumption)]
  · omega

theorem laws_szWords (o : Int) (A : Option Addr) (n c : Nat) (left : Int) (w : World) (hn : n ≤ 9223372036854775807) (h0 : 0 ≤ left) (h1 : left ≤ 1048576) :
    Calls Try.prog 4 #[.agg #[.int .i64 o, .slice A n c], .int .i64 left] w fun e w' => e = .returned (.int .i64 (szF n left)) ∧ Below w.heap.size w w' := by
  go_enter Try.func4, Try.ntmps4
  go_wp2_with (go_at_call 20; refine (laws_szIntS _ _ _ _ _ hn h0 h1).mono ?_; rintro e w' ⟨rfl, rfl⟩)
  · go_ret
    exact ⟨ret_int (szF_neg (by assumption)).symm, by (repeat (first | with_reducible exact Below.refl _ _ | with_reducible exact Below.refl _ _ | with_reducible refine Below.drew ?_ | ((with_reducible refine Below.alloc ?_ ?_ _); rotate_left; · first | omega | (simp [World.setCell]; done) | (simp [World.setCell]; omega)) | ((with_reducible refine Below.setCell ?_ ?_ _); rotate_left; · first | exact Nat.le_refl _ | omega | (simp; done) | (simp; omega))))⟩
  · go_ret
    exact ⟨rfl, by (repeat (first | with_reducible exact Below.refl _ _ | with_reducible exact Below.refl _ _ | with_reducible refine Below.drew ?_ | ((with_reducible refine Below.alloc ?_ ?_ _); rotate_left; · first | omega | (simp [World.setCell]; done) | (simp [World.setCell]; omega)) | ((with_reducible refine Below.setCell ?_ ?_ _); rotate_left; · first | exact Nat.le_refl _ | omega | (simp; done) | (simp; omega))))⟩

theorem laws_eqWords (o : Int) (A : Option Addr) (n c : Nat) (xs : List Int) (lo hi : Nat) (o' : Int) (B : Option Addr) (m d : Nat) (ys : List Int) (lo' hi' : Nat) (w : World) (h : Ints w lo hi A n c xs) (g : Ints w lo' hi' B m d ys) (hh : hi ≤ w.heap.size) (gh : hi' ≤ w.heap.size) :
    Calls Try.prog 12 #[.agg #[.int .i64 o, .slice A n c], .agg #[.int .i64 o', .slice B m d]] w fun e w' => e = .returned (.bool (decide ((o, xs) = (o', ys)))) ∧ Below w.heap.size w w' := by
  by_cases ho : o = o'
  · subst ho
    go_enter Try.func12, Try.ntmps12
    go_wp2_with fail
    refine (laws_eqIntS A n c xs lo hi B m d ys lo' hi' _ (h.below (B := w.heap.size) (by (repeat (first | with_reducible exact Below.refl _ _ | with_reducible exact Below.refl _ _ | with_reducible refine Below.drew ?_ | ((with_reducible refine Below.alloc ?_ ?_ _); rotate_left; · first | omega | (simp [World.setCell]; done) | (simp [World.setCell]; omega)) | ((with_reducible refine Below.setCell ?_ ?_ _); rotate_left; · first | exact Nat.le_refl _ | omega | (simp; done) | (simp; omega))))) hh) (g.below (B := w.heap.size) (by (repeat (first | with_reducible exact Below.refl _ _ | with_reducible exact Below.refl _ _ | with_reducible refine Below.drew ?_ | ((with_reducible refine Below.alloc ?_ ?_ _); rotate_left; · first | omega | (simp [World.setCell]; done) | (simp [World.setCell]; omega)) | ((with_reducible refine Below.setCell ?_ ?_ _); rotate_left; · first | exact Nat.le_refl _ | omega | (simp; done) | (simp; omega))))) gh)).mono ?_
    rintro e w1 ⟨rfl, q, rfl⟩
    by_cases hxy : xs = ys
    · have hd : decide (xs = ys) = true := by simpa using hxy
      have hF : Hid (decide ((o, xs) = (o, ys)) = true) := by show _ = _; simpa using hxy
      rw [hd]
      clear hd hxy
      go_wp2_with fail
      go_ret
      exact ⟨ret_bool hF.out.symm, below_drewN (by (repeat (first | with_reducible exact Below.refl _ _ | with_reducible exact Below.refl _ _ | with_reducible refine Below.drew ?_ | ((with_reducible refine Below.alloc ?_ ?_ _); rotate_left; · first | omega | (simp [World.setCell]; done) | (simp [World.setCell]; omega)) | ((with_reducible refine Below.setCell ?_ ?_ _); rotate_left; · first | exact Nat.le_refl _ | omega | (simp; done) | (simp; omega))))) _⟩
    · have hd : decide (xs = ys) = false := by simpa using hxy
      have hF : Hid (decide ((o, xs) = (o, ys)) = false) := by show _ = _; simpa using hxy
      rw [hd]
      clear hd hxy
      go_wp2_with fail
      go_ret
      exact ⟨ret_bool hF.out.symm, below_drewN (by (repeat (first | with_reducible exact Below.refl _ _ | with_reducible exact Below.refl _ _ | with_reducible refine Below.drew ?_ | ((with_reducible refine Below.alloc ?_ ?_ _); rotate_left; · first | omega | (simp [World.setCell]; done) | (simp [World.setCell]; omega)) | ((with_reducible refine Below.setCell ?_ ?_ _); rotate_left; · first | exact Nat.le_refl _ | omega | (simp; done) | (simp; omega))))) _⟩
  · have hob : (o != o') = true := by simpa using ho
    have hF : Hid (decide ((o, xs) = (o', ys)) = false) := decide_eq_false (fun e => ho (by injection e))
    clear ho
    go_enter Try.func12, Try.ntmps12
    go_wp2_with fail
    go_ret
    exact ⟨ret_bool hF.out.symm, by (repeat (first | with_reducible exact Below.refl _ _ | with_reducible exact Below.refl _ _ | with_reducible refine Below.drew ?_ | ((with_reducible refine Below.alloc ?_ ?_ _); rotate_left; · first | omega | (simp [World.setCell]; done) | (simp [World.setCell]; omega)) | ((with_reducible refine Below.setCell ?_ ?_ _); rotate_left; · first | exact Nat.le_refl _ | omega | (simp; done) | (simp; omega))))⟩

theorem laws_markWords (o : Int) (A : Option Addr) (n c : Nat) (xs : List Int) (lo hi : Nat) (k0 : Int) (w : World) (h : OwnI w lo hi A n c xs) (hh : hi ≤ w.heap.size) (hk0 : 0 ≤ k0) (hk1 : k0 + n ≤ 4611686018427387904) :
    Calls Try.prog 15 #[.agg #[.int .i64 o, .slice A n c], .int .i64 k0] w fun e w' => e = .returned (.int .i64 (k0 + n)) ∧ OwnI w' lo hi A n c (marks k0 n) ∧ Touch lo hi w w' := by
  go_enter Try.func15, Try.ntmps15
  go_wp2_with fail
  refine (laws_markIntS A n c xs lo hi k0 _ (h.below (B := w.heap.size) (by (repeat (first | with_reducible exact Below.refl _ _ | with_reducible exact Below.refl _ _ | with_reducible refine Below.drew ?_ | ((with_reducible refine Below.alloc ?_ ?_ _); rotate_left; · first | omega | (simp [World.setCell]; done) | (simp [World.setCell]; omega)) | ((with_reducible refine Below.setCell ?_ ?_ _); rotate_left; · first | exact Nat.le_refl _ | omega | (simp; done) | (simp; omega))))) hh) hk0 hk1).mono ?_
  rintro e w1 ⟨rfl, o1, t1, _⟩
  go_wp2_with fail
  go_ret
  exact ⟨rfl, o1, (Touch.of_below (by (repeat (first | with_reducible exact Below.refl _ _ | with_reducible exact Below.refl _ _ | with_reducible refine Below.drew ?_ | ((with_reducible refine Below.alloc ?_ ?_ _); rotate_left; · first | omega | (simp [World.setCell]; done) | (simp [World.setCell]; omega)) | ((with_reducible refine Below.setCell ?_ ?_ _); rotate_left; · first | exact Nat.le_refl _ | omega | (simp; done) | (simp; omega)))))).trans t1⟩

end Go.Proofs.Ytjamdnbabfodkaa
