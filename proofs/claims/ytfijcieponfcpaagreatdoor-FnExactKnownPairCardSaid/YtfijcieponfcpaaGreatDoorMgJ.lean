/- The program's readers of numbers and tableaus at the fixed texts of a new session. -/
import Derived.Test.YtfijcieponfcpaaGreatDoorParN
import Derived.Test.YtfijcieponfcpaaGreatDoorFmtP
import Derived.Test.YtfijcieponfcpaaGreatDoorTab
import Derived.Test.YtfijcieponfcpaaGreatDoorRowsW
namespace Go.Proofs.YtfijcieponfcpaaGreatDoor
open Go.RowKit
set_option linter.unusedSimpArgs false
set_option linter.unusedVariables false
set_option maxRecDepth 20000

def sp1 : ByteArray := ⟨#[32]⟩
theorem par_zero : parF ⟨#[48]⟩ = (0, true) := by decide +kernel
theorem par_one : parF ⟨#[49]⟩ = (1, true) := by decide +kernel
theorem split_zero : Lib.splitB ⟨#[32]⟩ 0 (Lib.countB ⟨#[48]⟩ ⟨#[32]⟩) ⟨#[48]⟩ = [⟨#[48]⟩] ∧ Lib.countB ⟨#[48]⟩ ⟨#[32]⟩ = 0 := by decide +kernel
theorem split_one : Lib.splitB ⟨#[32]⟩ 0 (Lib.countB ⟨#[49]⟩ ⟨#[32]⟩) ⟨#[49]⟩ = [⟨#[49]⟩] ∧ Lib.countB ⟨#[49]⟩ ⟨#[32]⟩ = 0 := by decide +kernel
theorem split_tab (a b : UInt8) (ha : a = 48 ∨ a = 49) (hb : b = 49) : Lib.splitB ⟨#[32, 124, 32]⟩ 0 (Lib.countB ⟨#[a, 32, 124, 32, b]⟩ ⟨#[32, 124, 32]⟩) ⟨#[a, 32, 124, 32, b]⟩ = [⟨#[a]⟩, ⟨#[b]⟩] ∧ Lib.countB ⟨#[a, 32, 124, 32, b]⟩ ⟨#[32, 124, 32]⟩ = 1 := by
  subst hb
  rcases ha with rfl | rfl <;> decide +kernel

set_option maxRecDepth 100000 in
set_option maxHeartbeats 2000000 in
theorem impl_ParseNumbers1 (c : UInt8) (x : Int) (hcx : (c = 48 ∧ x = 0) ∨ (c = 49 ∧ x = 1)) (mx : Int) (w : World) (hm : w.cell? ⟨0, 0, none⟩ = some (.int .i64 mx)) :
    Calls Tryz.prog 58 #[.string ⟨#[c]⟩] w fun e w' => ∃ A k, e = .returned (.tuple #[.slice A 1 k, .bool true]) ∧ OwnI w' w.heap.size w'.heap.size A 1 k [x] ∧ Below w.heap.size w w' := by
  obtain ⟨i0, hi0, hz0, hz1, hz2⟩ := info_parts info_int
  have hm0 := World.block_lt_of_cell? w _ hm
  have hm1 : (w.alloc (.cells #[] 3)).cell? ⟨0, 0, none⟩ = some (.int .i64 mx) := ((below_alloc w (.cells #[] 3)).cell hm0).trans hm
  have HM : Hid (∀ v : World, Below w.heap.size w v → v.cell? ⟨0, 0, none⟩ = some (.int .i64 mx)) := fun v hv => (hv.cell hm0).trans hm
  have hsp : Lib.splitB ⟨#[32]⟩ 0 (Lib.countB ⟨#[c]⟩ ⟨#[32]⟩) ⟨#[c]⟩ = [⟨#[c]⟩] ∧ Lib.countB ⟨#[c]⟩ ⟨#[32]⟩ = 0 := by
    rcases hcx with ⟨rfl, _⟩ | ⟨rfl, _⟩
    · exact split_zero
    · exact split_one
  have hpar : parF ⟨#[c]⟩ = (x, true) := by
    rcases hcx with ⟨rfl, rfl⟩ | ⟨rfl, rfl⟩
    · exact par_zero
    · exact par_one
  have hx : R64 x := by rcases hcx with ⟨_, rfl⟩ | ⟨_, rfl⟩ <;> constructor <;> omega
  have hsz : (⟨#[c]⟩ : ByteArray).size = 1 := rfl
  have hS := sh_strings_Split ⟨#[c]⟩ ⟨#[32]⟩ mx (w.alloc (.cells #[] 3)) (by rw [hsz]; omega) hm1 (Nat.le_refl _)
  rw [hsp.1, hsp.2] at hS
  have HS := hide hS
  have HN := hide (fun W hb => impl_ParseNumber ⟨#[c]⟩ mx W (by rw [hsz]; omega) (HM.out W hb))
  rw [hpar] at HN
  have q0 : (w.alloc (.cells #[] 3)).ownsRow w.heap.size 3 1 (.slice (some ⟨w.heap.size, 0, none⟩) 0 0) 0 [] := by
    simpa using World.ownsRow_lit (size := 1) (e := 3) (base := w.heap.size) w #[] 0 (Nat.le_refl _) (by unfold maxLen; omega) rfl
  clear hS hm1 hm hsp hpar hcx
  go_enter Tryz.func58, Tryz.ntmps58
  go_wp2_with fail
  refine HS.out.mono ?_
  rintro e w1 ⟨rfl, rfl⟩
  go_wp2_with fail
  have b2 : Below w.heap.size w ((w.alloc (.cells #[] 3)).alloc (.cells #[.string ⟨#[c]⟩] 9)) := ((Below.refl _ _).alloc (Nat.le_refl _) _).alloc (by simp) _
  have q1 := hide (q0.alloc (.cells #[.string ⟨#[c]⟩] 9))
  have hc1 : ((w.alloc (.cells #[] 3)).alloc (.cells #[.string ⟨#[c]⟩] 9)).cell? ⟨w.heap.size + 1, 0, none⟩ = some (.string ⟨#[c]⟩) := by simp
  have hzW : w.heap.size ≤ ((w.alloc (.cells #[] 3)).alloc (.cells #[.string ⟨#[c]⟩] 9)).heap.size := b2.size
  clear q0 HS
  generalize (w.alloc (.cells #[] 3)).alloc (.cells #[.string ⟨#[c]⟩] 9) = W at b2 hc1 hzW q1 ⊢
  refine wp_loop_rounds 2 ?_
  rw [rounds_succ]
  go_wp2_with (first | (go_at_call 80; refine (HN.out W b2).mono ?_; rintro e w3 ⟨rfl, q, rfl⟩; have b3 := below_drewN b2 q; have z3 : w.heap.size ≤ (W.drewN q).heap.size := b3.size; have Q3 : Hid ((W.drewN q).ownsRow w.heap.size 3 1 (.slice (some ⟨w.heap.size, 0, none⟩) 0 0) 0 []) := q1.out; generalize W.drewN q = W3 at b3 z3 Q3 ⊢) | (at_builtin; refine wpl_app1 rfl (.tmp 24) (.tmp 26) 22 rfl w.heap.size 3 i0 (.int .i64 0) 1 8 Tryz.underlying22 hi0 hz0 hz1 hz2 rfl (by omega) W3 #[.int .i64 x] _ 0 0 1 _ rfl rfl Q3.out rfl (by simp [Value.oneCell']) (by omega) (by omega) z3 ?_; intro A2 c2 w4 happ hlt2; have B4 := hide (happ.low b3 z3 (Nat.le_refl _) Q3.out); have O4 := hide happ.1; clear happ))
  rw [rounds_succ]
  go_wp2_with fail
  refine bodyPost_ret (results_tmp2 rfl _ _ _) rfl ⟨A2, c2, rfl, ⟨O4.out, fun ad e => (owns_lt O4.out ad e).2, fun y hy => ?_⟩, B4.out⟩
  obtain rfl : y = x := by simpa using hy
  exact hx

theorem news_one {w : World} {lo hi g c : Nat} {x : Int} (h : Ints w lo hi (some ⟨g, 0, none⟩) 1 c [x]) : ∀ ad, some (⟨g, 0, none⟩ : Addr) = some ad → ∀ (j : Nat) u, [Value.int .i64 x][j]? = some u → w.cell? (ad.add j) = some u := by
  intro ad e j u hu
  injection e with e
  subst e
  obtain ⟨ad', e, _, _, hc⟩ := h.cells (by omega)
  injection e with e
  subst e
  match j, hu with
  | 0, hu =>
    simp at hu
    subst hu
    exact hc 0 x rfl
  | j + 1, hu => simp at hu
/-- a tableau of one stage -/
def Tab1 (w w' : World) (A : Option Addr) (c : Nat) (B : Option Addr) (d : Nat) (x y : Int) : Prop :=
  ∃ mid, OwnI w' w.heap.size mid A 1 c [x] ∧ OwnI w' mid w'.heap.size B 1 d [y] ∧ w.heap.size ≤ mid ∧ mid ≤ w'.heap.size ∧ Below w.heap.size w w'

theorem tab_done {w w7 : World} {lo m1 m2 hi : Nat} {A : Option Addr} {c : Nat} {B : Option Addr} {d : Nat} {x y : Int} (p : OwnI w7 lo m1 A 1 c [x]) (o : OwnI w7 m2 hi B 1 d [y]) (b : Below w.heap.size w w7) (h1 : w.heap.size < lo) (h2 : m1 ≤ m2) (h3 : hi ≤ w7.heap.size) (h4 : w.heap.size < m2) (v1 v2 v3 : Value) :
    Tab1 w (((w7.setCell ⟨w.heap.size, 0, none⟩ v1).setCell ⟨w.heap.size, 1, none⟩ v2).setCell ⟨w.heap.size, 2, none⟩ v3) A c B d x y := by
  have hs : (((w7.setCell ⟨w.heap.size, 0, none⟩ v1).setCell ⟨w.heap.size, 1, none⟩ v2).setCell ⟨w.heap.size, 2, none⟩ v3).heap.size = w7.heap.size := by simp [World.setCell]
  have hb : Below w.heap.size w (((w7.setCell ⟨w.heap.size, 0, none⟩ v1).setCell ⟨w.heap.size, 1, none⟩ v2).setCell ⟨w.heap.size, 2, none⟩ v3) := ((b.setCell (Nat.le_refl _) _).setCell (Nat.le_refl _) _).setCell (Nat.le_refl _) _
  have hsame : ∀ l h, w.heap.size < l → Same l h w7 (((w7.setCell ⟨w.heap.size, 0, none⟩ v1).setCell ⟨w.heap.size, 1, none⟩ v2).setCell ⟨w.heap.size, 2, none⟩ v3) := fun l h hl => (((Same.refl l h w7).setCell (.inl hl) _).setCell (.inl hl) _).setCell (.inl hl) _
  have z := b.size
  refine ⟨m2, (p.same (hsame _ _ h1)).wide (by omega) h2, (o.same (hsame _ _ h4)).wide (Nat.le_refl _) (by rw [hs]; exact h3), by omega, ?_, hb⟩
  rw [hs]
  rcases o.own.2 with ⟨e, _⟩ | ⟨g, cap, cur, e, g1, g2, _⟩
  · injection e; omega
  · have := (Array.getElem?_eq_some_iff.1 g2).1
    omega

set_option maxRecDepth 100000 in
set_option maxHeartbeats 4000000 in
theorem impl_ParseTableau1 (ca : UInt8) (x : Int) (hcx : (ca = 48 ∧ x = 0) ∨ (ca = 49 ∧ x = 1)) (mx : Int) (w : World) (hm : w.cell? ⟨0, 0, none⟩ = some (.int .i64 mx)) :
    Calls Tryz.prog 28 #[.string ⟨#[ca, 32, 124, 32, 49]⟩] w fun e w' => ∃ A c B d, e = .returned (.tuple #[.agg #[.int .i64 1, .slice A 1 c, .slice B 1 d], .bool true]) ∧ Tab1 w w' A c B d x 1 := by
  obtain ⟨i0, hi0, hz0, hz1, hz2⟩ := info_parts info_int
  have hm0 := World.block_lt_of_cell? w _ hm
  have HM : Hid (∀ v : World, Below w.heap.size w v → v.cell? ⟨0, 0, none⟩ = some (.int .i64 mx)) := fun v hv => (hv.cell hm0).trans hm
  have hsp := split_tab ca 49 (by rcases hcx with ⟨h, _⟩ | ⟨h, _⟩; exact .inl h; exact .inr h) rfl
  have hsz : (⟨#[ca, 32, 124, 32, 49]⟩ : ByteArray).size = 5 := rfl
  have HS := hide (fun W hb => sh_strings_Split ⟨#[ca, 32, 124, 32, 49]⟩ ⟨#[32, 124, 32]⟩ mx W (by rw [hsz]; omega) (HM.out W hb) (by decide))
  rw [hsp.1, hsp.2] at HS
  have HN := hide (fun W hb => impl_ParseNumbers1 ca x hcx mx W (HM.out W hb))
  have HN2 := hide (fun W hb => impl_ParseNumbers1 49 1 (.inr ⟨rfl, rfl⟩) mx W (HM.out W hb))
  have hne : ((⟨#[ca, 32, 124, 32, 49]⟩ : ByteArray).toList == [110, 111, 110, 101]) = false := by
    rw [ByteArray.toList_eq]
    rcases hcx with ⟨rfl, _⟩ | ⟨rfl, _⟩ <;> rfl
  have hx : R64 x := by rcases hcx with ⟨_, rfl⟩ | ⟨_, rfl⟩ <;> constructor <;> omega
  have HX := hide hx
  clear hsp hcx hm hx
  go_enter Tryz.func28, Tryz.ntmps28
  go_wp2_with fail
  refine (HS.out _ (below_alloc w _)).mono ?_
  rintro e w1 ⟨rfl, rfl⟩
  go_wp2_with fail
  have k0 := ((BlkN.new w #[.int .i64 0, .slice none 0 0, .slice none 0 0] 24).alloc (.cells #[.string ⟨#[ca]⟩, .string ⟨#[49]⟩] 9)).alloc (.cells #[.int .i64 1, .slice none 0 0, .slice none 0 0] 24)
  have ks := (BlkN.new (w.alloc (.cells #[.int .i64 0, .slice none 0 0, .slice none 0 0] 24)) #[.string ⟨#[ca]⟩, .string ⟨#[49]⟩] 9).alloc (.cells #[.int .i64 1, .slice none 0 0, .slice none 0 0] 24)
  have kt := BlkN.new ((w.alloc (.cells #[.int .i64 0, .slice none 0 0, .slice none 0 0] 24)).alloc (.cells #[.string ⟨#[ca]⟩, .string ⟨#[49]⟩] 9)) #[.int .i64 1, .slice none 0 0, .slice none 0 0] 24
  have bW : Below w.heap.size w (((w.alloc (.cells #[.int .i64 0, .slice none 0 0, .slice none 0 0] 24)).alloc (.cells #[.string ⟨#[ca]⟩, .string ⟨#[49]⟩] 9)).alloc (.cells #[.int .i64 1, .slice none 0 0, .slice none 0 0] 24)) := by (repeat (first | with_reducible exact Below.refl _ _ | with_reducible exact Below.refl _ _ | with_reducible refine Below.drew ?_ | ((with_reducible refine Below.alloc ?_ ?_ _); rotate_left; · first | omega | (simp [World.setCell]; done) | (simp [World.setCell]; omega)) | ((with_reducible refine Below.setCell ?_ ?_ _); rotate_left; · first | exact Nat.le_refl _ | omega | (simp; done) | (simp; omega))))
  have hzW : w.heap.size + 1 + 1 < (((w.alloc (.cells #[.int .i64 0, .slice none 0 0, .slice none 0 0] 24)).alloc (.cells #[.string ⟨#[ca]⟩, .string ⟨#[49]⟩] 9)).alloc (.cells #[.int .i64 1, .slice none 0 0, .slice none 0 0] 24)).heap.size := by simp
  rw [show (w.alloc (.cells #[.int .i64 0, .slice none 0 0, .slice none 0 0] 24)).heap.size = w.heap.size + 1 from by simp] at ks
  rw [show ((w.alloc (.cells #[.int .i64 0, .slice none 0 0, .slice none 0 0] 24)).alloc (.cells #[.string ⟨#[ca]⟩, .string ⟨#[49]⟩] 9)).heap.size = w.heap.size + 1 + 1 from by simp] at kt
  generalize ((w.alloc (.cells #[.int .i64 0, .slice none 0 0, .slice none 0 0] 24)).alloc (.cells #[.string ⟨#[ca]⟩, .string ⟨#[49]⟩] 9)).alloc (.cells #[.int .i64 1, .slice none 0 0, .slice none 0 0] 24) = W at k0 ks kt bW hzW ⊢
  have hc0 := ks.c 0 rfl
  have hc1 := kt.c 0 rfl
  have hc2 := kt.c 1 rfl
  have hf2 := kt.f 1
  have K0 := hide k0
  have KS := hide ks
  have KT := hide kt
  clear k0 ks kt HS
  refine wp_loop_rounds 3 ?_
  rw [rounds_succ]
  go_wp2_with fail
  refine (HN.out W bW).mono ?_
  rintro e w3 ⟨A3, c3, rfl, o3, b3⟩
  have z3 := b3.size
  obtain ⟨g3, rfl, hg3, hg3', _⟩ := o3.form (by omega)
  have kt3 := KT.out.below b3
  have hd1 := kt3.c 0 rfl
  have hd2 := kt3.c 1 rfl
  have he2 := kt3.f 1
  have KT3 := hide kt3
  have bw3 := bW.trans (b3.mono (by omega))
  have I3 := hide o3.ints
  clear kt3 hc0 hc1 hc2 hf2 o3
  have hnil := hide (World.ownsRow_nil w3 w3.heap.size 3 1)
  go_wp2_with (at_builtin; refine wpl_app rfl (.tmp 55) (.tmp 56) 22 rfl w3 w3.heap.size 3 i0 (.int .i64 0) 1 8 Tryz.underlying22 hi0 hz0 hz1 hz2 rfl (by omega) none 0 0 [] rfl hnil.out (some ⟨g3, 0, none⟩) 1 c3 [.int .i64 x] rfl rfl (news_one I3.out) (by simp) (by simp [Value.oneCell']) (by omega) (by omega) (Nat.le_refl _) ?_; intro A4 c4 w4 happ; have b4 := happ.low (Below.refl w3.heap.size w3) (Nat.le_refl _) (Nat.le_refl _) hnil.out; have O4 := hide happ.1; have kt4 := KT3.out.below b4; have he1 : w4.cell? ⟨w.heap.size + 1 + 1, 1, none⟩ = some (.slice none 0 0) := kt4.c 1 rfl; have he3 := kt4.f 1; clear happ)
  have k04 := ((K0.out.below b3).below b4).far (b := w.heap.size + 1 + 1) (i := 1) (by omega) (.slice A4 1 c4)
  have ks4 := ((KS.out.below b3).below b4).far (b := w.heap.size + 1 + 1) (i := 1) (by omega) (.slice A4 1 c4)
  have kt5 := kt4.set 1 (.slice A4 1 c4)
  simp only [List.setIfInBounds_toArray, List.set_cons_zero, List.set_cons_succ] at kt5
  have bw4 : Below w.heap.size w (w4.setCell ⟨w.heap.size + 1 + 1, 1, none⟩ (.slice A4 1 c4)) := (bw3.trans (b4.mono bw3.size)).setCell (by show w.heap.size ≤ w.heap.size + 1 + 1; omega) _
  have z4 := b4.size
  have ad4 : ∀ ad, A4 = some ad → w3.heap.size ≤ ad.block ∧ ad.block < w4.heap.size := fun ad e => owns_lt O4.out ad e
  have o4 : OwnI (w4.setCell ⟨w.heap.size + 1 + 1, 1, none⟩ (.slice A4 1 c4)) w3.heap.size w4.heap.size A4 1 c4 [x] := ⟨owns_setCell O4.out (fun ad e => by have := ad4 ad e; show ad.block ≠ w.heap.size + 1 + 1; omega) _, fun ad e => (ad4 ad e).2, fun y hy => by
    obtain rfl : y = x := by simpa using hy
    exact HX.out⟩
  have z4' : (w4.setCell ⟨w.heap.size + 1 + 1, 1, none⟩ (.slice A4 1 c4)).heap.size = w4.heap.size := by simp [World.setCell]
  have hr1 := ks4.c 1 rfl
  have hr2 := kt5.c 0 rfl
  rw [rounds_succ]
  have K04 := hide k04
  have KS4 := hide ks4
  have KT5 := hide kt5
  have O5 := hide o4
  clear he1 he3 hd1 hd2 he2 O4 k04 ks4 kt4 kt5 o4 KT3 KT K0 KS I3
  generalize w4.setCell ⟨w.heap.size + 1 + 1, 1, none⟩ (.slice A4 1 c4) = w5 at bw4 z4' hr1 hr2 K04 KS4 KT5 O5 ⊢
  go_wp2_with fail
  refine (HN2.out w5 bw4).mono ?_
  rintro e w6 ⟨B6, d6, rfl, o6, b6⟩
  have z6 := b6.size
  have bw6 := bw4.trans (b6.mono bw4.size)
  have kt6 := KT5.out.below b6
  have he0 := kt6.c 0 rfl
  have he2 := kt6.c 2 rfl
  have he3 := kt6.f 2
  have k06 := (K04.out.below b6).far (b := w.heap.size + 1 + 1) (i := 2) (by omega) (.slice B6 1 d6)
  have kt7 := kt6.set 2 (.slice B6 1 d6)
  simp only [List.setIfInBounds_toArray, List.set_cons_zero, List.set_cons_succ] at kt7
  have bw7 : Below w.heap.size w (w6.setCell ⟨w.heap.size + 1 + 1, 2, none⟩ (.slice B6 1 d6)) := bw6.setCell (by show w.heap.size ≤ w.heap.size + 1 + 1; omega) _
  have ad6 : ∀ ad, B6 = some ad → w5.heap.size ≤ ad.block ∧ ad.block < w6.heap.size := fun ad e => owns_lt o6.own ad e
  have o7 : OwnI (w6.setCell ⟨w.heap.size + 1 + 1, 2, none⟩ (.slice B6 1 d6)) w5.heap.size w6.heap.size B6 1 d6 [1] := ⟨owns_setCell o6.own (fun ad e => by have := ad6 ad e; show ad.block ≠ w.heap.size + 1 + 1; omega) _, fun ad e => (ad6 ad e).2, o6.rng⟩
  have ad5 : ∀ ad, A4 = some ad → w3.heap.size ≤ ad.block ∧ ad.block < w4.heap.size := ad4
  have p6 := O5.out.below b6 (by omega)
  have p7 : OwnI (w6.setCell ⟨w.heap.size + 1 + 1, 2, none⟩ (.slice B6 1 d6)) w3.heap.size w4.heap.size A4 1 c4 [x] := ⟨owns_setCell p6.own (fun ad e => by have := ad5 ad e; show ad.block ≠ w.heap.size + 1 + 1; omega) _, fun ad e => (ad5 ad e).2, p6.rng⟩
  have z7 : (w6.setCell ⟨w.heap.size + 1 + 1, 2, none⟩ (.slice B6 1 d6)).heap.size = w6.heap.size := by simp [World.setCell]
  have T1 := kt7.c 0 rfl
  have T2 := kt7.c 1 rfl
  have T3 := kt7.c 2 rfl
  have U1 := k06.c 0 rfl
  have U2 := k06.c 1 rfl
  have U3 := k06.c 2 rfl
  have V1 := k06.f 0
  have V2 := k06.f 1
  have V3 := k06.f 2
  have P7 := hide p7
  have O7 := hide o7
  have zk := k06.lt
  have B7 := hide bw7
  clear kt6 o6 p6 p7 o7 kt7 k06 KT5 KS4 K04 O5 hr1 hr2
  go_wp2_with fail
  generalize w6.setCell ⟨w.heap.size + 1 + 1, 2, none⟩ (.slice B6 1 d6) = w7 at bw7 z7 T1 T2 T3 U1 U2 U3 V1 V2 V3 P7 O7 zk B7 ⊢
  clear he0 he2 he3
  rw [rounds_succ]
  go_wp2_with fail
  have hR := tab_done P7.out O7.out B7.out (by omega) (by omega) (by omega) (by omega) (.int .i64 1) (.slice A4 1 c4) (.slice B6 1 d6)
  have HR := hide hR
  clear hR P7 O7 B7
  refine bodyPost_ret (v := .tuple #[.agg #[.int .i64 1, .slice A4 1 c4, .slice B6 1 d6], .bool true]) (by simp [results, Tryz.results28, go_sem, U1, U2, U3, V1, V2, V3, zk]) rfl ⟨A4, c4, B6, d6, rfl, ?_⟩
  exact HR.out
end Go.Proofs.YtfijcieponfcpaaGreatDoor
/- The known tableau of a new session: the program's walk. -/
namespace Go.Proofs.YtfijcieponfcpaaGreatDoor
open Go.RowKit
set_option linter.unusedSimpArgs false
set_option linter.unusedVariables false
set_option maxRecDepth 20000

theorem tab_up {w W w3 : World} {A : Option Addr} {c : Nat} {B : Option Addr} {d : Nat} {x y : Int} (h : Tab1 W w3 A c B d x y) (b : Below w.heap.size w W) (hz : w.heap.size < W.heap.size) (v1 v2 v3 : Value) :
    Tab1 w (((w3.setCell ⟨w.heap.size, 0, none⟩ v1).setCell ⟨w.heap.size, 1, none⟩ v2).setCell ⟨w.heap.size, 2, none⟩ v3) A c B d x y := by
  obtain ⟨mid, oA, oB, h1, h2, hb⟩ := h
  exact tab_done oA oB (b.trans (hb.mono (by omega))) hz (Nat.le_refl _) (Nat.le_refl _) (by omega) v1 v2 v3

set_option maxRecDepth 100000 in
set_option maxHeartbeats 4000000 in
theorem impl_Known_euler (mx : Int) (w : World) (hm : w.cell? ⟨0, 0, none⟩ = some (.int .i64 mx)) :
    Calls Tryz.prog 11 #[.string ⟨#[101, 117, 108, 101, 114]⟩] w fun e w' => ∃ A c B d, e = .returned (.tuple #[.agg #[.int .i64 1, .slice A 1 c, .slice B 1 d], .bool true]) ∧ Tab1 w w' A c B d 0 1 := by
  have hm0 := World.block_lt_of_cell? w _ hm
  have b0 := below_alloc w (.cells #[.int .i64 0, .slice none 0 0, .slice none 0 0] 24)
  have k0 := BlkN.new w #[.int .i64 0, .slice none 0 0, .slice none 0 0] 24
  have HK := hide (impl_ParseTableau1 48 0 (.inl ⟨rfl, rfl⟩) mx _ ((b0.cell hm0).trans hm))
  clear hm
  go_enter Tryz.func11, Tryz.ntmps11
  go_wp2_with fail
  refine HK.out.mono ?_
  rintro e w3 ⟨A, c, B, d, rfl, hT⟩
  have HT := hide (tab_up hT b0 k0.lt (.int .i64 1) (.slice A 1 c) (.slice B 1 d))
  obtain ⟨_, _, _, _, _, hb⟩ := hT
  have k3 := k0.below hb
  have U1 := k3.c 0 rfl
  have U2 := k3.c 1 rfl
  have U3 := k3.c 2 rfl
  have V1 := k3.f 0
  have V2 := k3.f 1
  have V3 := k3.f 2
  have zk := k3.lt
  clear HK hb k3 k0 b0
  go_wp2_with fail
  refine bodyPost_ret (v := .tuple #[.agg #[.int .i64 1, .slice A 1 c, .slice B 1 d], .bool true]) (by simp [results, Tryz.results11, go_sem, U1, U2, U3, V1, V2, V3, zk]) rfl ⟨A, c, B, d, rfl, ?_⟩
  exact HT.out
end Go.Proofs.YtfijcieponfcpaaGreatDoor
