/- A row of monomials put in order: the library's stable sort by the closure that compares two of them exchanges them. -/
import Derived.Test.YtjamdnbabfodkaaSoD
namespace Go.Proofs.Ytjamdnbabfodkaa
open Go.RowKit
set_option linter.unusedSimpArgs false
set_option linter.unusedVariables false
set_option maxRecDepth 20000

set_option maxHeartbeats 8000000 in
theorem lib_stable (w W : World) (lo g n c : Nat) (es : List El) (h : SortC w W lo g n c es) (hnb : n ≤ 1099511627776) :
    Calls Try.prog 90 #[.slice (some ⟨g, 0, none⟩) n c, .int .i64 n, .func (.func 82) #[] #[]] W fun r W' => r = .returned (.tuple #[]) ∧ ∃ es', List.Perm es' es ∧ SortC w W' lo g n c es' := by
  have HS := hide h
  clear h
  go_enter Try.func90, Try.ntmps90
  go_wp2_with fail
  go_loopw [7, 8] (fun x y wr => ∃ (a : Nat) (es' : List El), a ≤ n ∧ x = .int .i64 a ∧ y = .int .i64 ((a + 20 : Nat) : Int) ∧ Hid (List.Perm es' es) ∧ Hid (SortC w wr lo g n c es')) (fun x _ _ => n - (intOf x).toNat)
  case atStart => exact ⟨0, es, by omega, rfl, rfl, List.Perm.refl _, HS.out⟩
  case round =>
    clear HS
    obtain ⟨a, es', ha, rfl, rfl, hP, hS⟩ := hrel
    obtain ⟨b, hb⟩ : ∃ b, b = a + 20 := ⟨_, rfl⟩
    rw [← hb]
    have HB := hide hb
    have hab : a < b ∧ b ≤ 2199023255552 := by omega
    clear hb
    by_cases hlt : b ≤ n
    · have HC := hide (lib_insertion w wr lo g n c es' hS.out a b (by omega) hlt (by omega))
      go_wp2_with fail
      refine HC.out.mono ?_
      rintro r w1 ⟨rfl, es2, hP2, hS2⟩
      have HP2 : Hid (List.Perm es2 es) := hP2.trans hP.out
      have HS2 := hide hS2
      clear hP2 hS2 HC hS hP
      go_wp2_with fail
      go_roundw
      case rel => exact ⟨b, es2, by omega, rfl, by go_num, HP2.out, HS2.out⟩
      case measure => simp [intOf]; omega
    · have HC := hide (lib_insertion w wr lo g n c es' hS.out a n (by omega) (by omega) (by omega))
      go_wp2_with fail
      refine HC.out.mono ?_
      rintro r w1 ⟨rfl, es2, hP2, hS2⟩
      have HP2 : Hid (List.Perm es2 es) := hP2.trans hP.out
      have HS2 := hide hS2
      clear hP2 hS2 HC hS hP HB hlt hab
      go_wp2_with fail
      go_loopw [6, 7, 8, 9] (fun s x y _ wr => ∃ (bs : Nat) (es' : List El), 20 ≤ bs ∧ bs ≤ 2199023255552 ∧ s = .int .i64 bs ∧ Hid (List.Perm es' es) ∧ Hid (SortC w wr lo g n c es')) (fun s _ _ _ _ => 2199023255553 - (intOf s).toNat)
      case atStart => exact ⟨20, es2, by omega, by omega, rfl, HP2.out, HS2.out⟩
      case round =>
        clear HS2 HP2
        obtain ⟨bs, es', hs0, hs1, rfl, hP, hS⟩ := hrel
        by_cases hlt : bs < n
        · obtain ⟨b2, hb2⟩ : ∃ b2, b2 = 2 * bs := ⟨_, rfl⟩
          have hw0 : IntKind.i64.wrap (2 * (bs : Int)) = (b2 : Int) := by rw [show (b2 : Int) = 2 * (bs : Int) by omega]; exact IntWalk.i64_in _ (by omega)
          have hw1 : IntKind.i64.wrap ((bs : Int) * 2) = (b2 : Int) := by rw [show (b2 : Int) = (bs : Int) * 2 by omega]; exact IntWalk.i64_in _ (by omega)
          have HB2 := hide hb2
          have hb2b : bs < b2 ∧ b2 ≤ 2199023255552 := by omega
          clear hb2
          go_wp2_with fail
          go_loopw [7, 8] (fun x y wr => ∃ (a : Nat) (es' : List El), a ≤ n ∧ x = .int .i64 a ∧ y = .int .i64 ((a + b2 : Nat) : Int) ∧ Hid (List.Perm es' es) ∧ Hid (SortC w wr lo g n c es')) (fun x _ _ => n - (intOf x).toNat)
          case atStart => exact ⟨0, es', by omega, rfl, by go_num, hP.out, hS.out⟩
          case round =>
            clear hS hP
            obtain ⟨a, es', ha, rfl, rfl, hP, hS⟩ := hrel
            obtain ⟨b, hb⟩ : ∃ b, b = a + b2 := ⟨_, rfl⟩
            rw [← hb]
            have hw2 : IntKind.i64.wrap ((a : Int) + bs) = ((a + bs : Nat) : Int) := by rw [show ((a + bs : Nat) : Int) = (a : Int) + bs by simp]; exact IntWalk.i64_in _ (by omega)
            obtain ⟨m, hm⟩ : ∃ m, m = a + bs := ⟨_, rfl⟩
            rw [← hm] at hw2
            have ham : a < m ∧ m < b ∧ b ≤ 4398046511104 := by omega
            have HB := hide hb
            clear hm
            by_cases hlt2 : b ≤ n
            · have HC := hide (lib_symMerge w lo g n c hnb (b - a) wr es' a m b hS.out (by omega) (by omega) hlt2 (Nat.le_refl _))
              have hw3 : IntKind.i64.wrap ((b : Int) + b2) = ((b + b2 : Nat) : Int) := by rw [show ((b + b2 : Nat) : Int) = (b : Int) + b2 by simp]; exact IntWalk.i64_in _ (by omega)
              obtain ⟨e, he⟩ : ∃ e, e = b + b2 := ⟨_, rfl⟩
              rw [← he] at hw3
              have HE := hide he
              clear he hb
              go_wp2_with fail
              refine HC.out.mono ?_
              rintro r w1 ⟨rfl, es2, hP2, hS2⟩
              have HP2 : Hid (List.Perm es2 es) := hP2.trans hP.out
              have HS2 := hide hS2
              clear hP2 hS2 HC hS hP
              go_wp2_with fail
              go_roundw
              case rel => exact ⟨b, es2, by omega, rfl, by rw [← HE.out], HP2.out, HS2.out⟩
              case measure => simp [intOf]; omega
            · clear hb
              by_cases hlt3 : m < n
              · have HC := hide (lib_symMerge w lo g n c hnb (n - a) wr es' a m n hS.out (by omega) hlt3 (Nat.le_refl _) (Nat.le_refl _))
                go_wp2_with fail
                refine HC.out.mono ?_
                rintro r w1 ⟨rfl, es2, hP2, hS2⟩
                have HP2 : Hid (List.Perm es2 es) := hP2.trans hP.out
                have HS2 := hide hS2
                clear hP2 hS2 HC hS hP
                go_wp2_with fail
                go_roundw
                case rel => exact ⟨b2, es2, by omega, by omega, rfl, HP2.out, HS2.out⟩
                case measure => simp [intOf]; omega
              · go_wp2_with fail
                go_roundw
                case rel => exact ⟨b2, es', by omega, by omega, rfl, hP.out, hS.out⟩
                case measure => simp [intOf]; omega
        · go_wp2_with fail
          go_end0
          exact ⟨rfl, es', hP.out, hS.out⟩

theorem lib_SortStable (w W : World) (lo g n c : Nat) (es : List El) (h : SortC w W lo g n c es) (hnb : n ≤ 1099511627776) :
    Calls Try.prog 81 #[.slice (some ⟨g, 0, none⟩) n c, .func (.func 82) #[] #[]] W fun r W' => r = .returned (.tuple #[]) ∧ ∃ es', List.Perm es' es ∧ SortC w W' lo g n c es' := by
  have HC := hide (lib_stable w W lo g n c es h hnb)
  clear h
  go_enter Try.func81, Try.ntmps81
  go_wp2_with fail
  refine HC.out.mono ?_
  rintro r w1 ⟨rfl, es2, hP2, hS2⟩
  have HP2 := hide hP2
  have HS2 := hide hS2
  clear hP2 hS2 HC
  go_wp2_with fail
  go_end0
  exact ⟨rfl, es2, HP2.out, HS2.out⟩
end Go.Proofs.Ytjamdnbabfodkaa
