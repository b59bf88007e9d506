/- Proved here: for every input the statement FnSchemes returns true, and its argument reads as before. No conditions. -/
import Derived.Test.YtodlfmagkjblgaaSchP
import Derived.Test.YtodlfmagkjblgaaFrames
namespace Go.Proofs.Ytodlfmagkjblgaa.fnSchemes
open Go.ChangeShapes Go.WideShapes Go.ChangeAt Go.RowKit
set_option linter.unusedSimpArgs false
set_option linter.unusedVariables false
set_option maxRecDepth 20000
open Ser (rep ser expS logS sch SpE)

theorem impl_Ord (A : Option Addr) (n c : Nat) (ms : List (Int × Int)) (lo hi : Nat) (k : Int) (hk : ordF ms = k) (w : World) (h : Moves w lo hi A n c ms) (hh : hi ≤ w.heap.size) :
    Calls Try.prog 50 #[.slice A n c] w fun e w' => e = .returned (.int .i64 k) ∧ Below w.heap.size w w' := by
  rw [← hk]
  exact impl_OrderOfScheme A n c ms lo hi w h hh
theorem impl_Known (nm : ByteArray) (ms : List (Int × Int)) (h : knownF nm = (ms, true)) (w : World) :
    Calls Try.prog 51 #[.string nm] w fun e w' => ∃ A n c, e = .returned (.tuple #[.slice A n c, .bool true]) ∧ OwnM w' w.heap.size w'.heap.size A n c ms ∧ Below w.heap.size w w' := by
  refine (impl_KnownScheme nm w).mono ?_
  rintro e w' ⟨A, n, c, rfl, q1, q2⟩
  rw [h] at q1 ⊢
  exact ⟨A, n, c, rfl, q1, q2⟩
theorem known_strang : knownF { data := #[115, 116, 114, 97, 110, 103] } = (strangL, true) := by
  unfold knownF
  rw [if_neg (by decide +kernel), if_pos (by decide +kernel)]
theorem known_jump : knownF { data := #[106, 117, 109, 112] } = (jumpL, true) := by
  unfold knownF
  rw [if_neg (by decide +kernel), if_neg (by decide +kernel), if_pos (by decide +kernel)]
theorem known_lie : knownF { data := #[108, 105, 101] } = ([(0, 1), (1, 1)], true) := by
  unfold knownF
  rw [if_pos (by decide +kernel)]
theorem step_app1M {o : Oper} {a : Act} {K : Act → World → Prop} {Q : Exit → Act → World → Prop} (s x : Operand) (ho : o.op = .call { callee := .builtin .append, args := #[s, x], argTypes := #[63, 63] }) (w0 : World)
    (base : Nat) (A : Option Addr) (n c d : Nat) (xs : List Value) (y z : Int) (hs : a.eval s = .slice A n c) (hx : a.eval x = .slice (some ⟨w0.heap.size, 0, none⟩) 1 d) (hown : w0.ownsRow base 70 2 (.slice A n c) n xs) (hn : n + 1 ≤ 1099511627776) (hbase : base ≤ w0.heap.size)
    (h : ∀ A' c' w', Appended w0 base 70 2 A n c A' (n + 1) c' (xs ++ [.int .i64 y, .int .i64 z]) w' → K (a.put o.dst (.slice A' (n + 1) c')) w') : Oper.wp Try.prog o a (w0.alloc (.cells #[.int .i64 y, .int .i64 z] 70)) K Q := by
  obtain ⟨i0, hi0, hz0, hz1, hz2⟩ := info_parts info_move
  obtain ⟨A', c', w', hrun, h2, _⟩ := run_app1 (P := Try.prog) w0 base 63 o.type 70 i0 (.agg #[.int .i64 0, .int .i64 0]) 2 16 Try.underlying63 hi0 hz0 hz1 hz2 rfl (by omega) A n c xs hown #[.int .i64 y, .int .i64 z] d rfl (by simp [Value.oneCell']) hn (by omega) hbase
  unfold Oper.wp
  simp [execOp, ho, resolve, invoke, builtin, hs, hx, hrun, Result.andThen]
  exact h A' c' w' h2
theorem step_back {l : List (Int × Int)} {k : Nat} {x y : Int} (h : l[k]? = some (x, y)) : ((l.take (k + 1)).map negI).flatMap mcells = ((l.take k).map negI).flatMap mcells ++ [.int .i64 x, .int .i64 (minusF 0 y)] := by
  rw [List.take_add_one, h]
  simp [negI, mcells]

set_option maxRecDepth 100000 in
set_option maxHeartbeats 8000000 in
theorem walk (A : Option Addr) (n c : Nat) (w : World) (h : Bytes w 0 w.heap.size A n c) :
    Calls Try.prog 9 #[.slice A n c] w fun e w' => e = .returned (.bool true) ∧ Below w.heap.size w w' := by
  have hcp := h.cap
  have hmx := h.max
  obtain ⟨i0, hi0, hz0, hz1, hz2⟩ := info_parts info_move
  by_cases hbig : 1048576 < n
  · go_enter Try.func9, Try.ntmps9
    go_wp2_with fail
    refine (laws_big A n c w (by omega)).mono ?_
    rintro e w1 ⟨rfl, rfl⟩
    rw [decide_eq_true hbig]
    go_wp2_with fail
    go_ret
    exact ⟨rfl, Below.refl _ _⟩
  · go_enter Try.func9, Try.ntmps9
    go_wp2_with fail
    refine (laws_big A n c w (by omega)).mono ?_
    rintro e w1 ⟨rfl, rfl⟩
    rw [decide_eq_false hbig]
    go_wp2_with fail
    refine (spec_DrawSchemes w.heap.size A n c w h (Nat.le_refl _)).mono ?_
    rintro e wd ⟨Am, m, dm, ms, Ak, k2, dk, ks, l0, rfl, hm4, hk4, om, ok, hl0, gm, gk, BB⟩
    have om' := om.wide_ hl0
    have hgm : goodM ms := gm
    clear gm gk ok om hk4 hbig
    have hok : schemeOkF ms = true := ok_good hgm (by have := OwnM.len om'; omega)
    go_wp2_with fail
    refine (impl_ReverseScheme Am m dm ms _ _ wd om'.moves (Nat.le_refl _)).mono ?_
    rintro e wr0 ⟨Ar, nr, cr, rfl, orr, br⟩
    have hrev : revF ms = ms.reverse := if_pos hok
    rw [hrev] at orr
    obtain rfl : nr = m := by rw [← OwnM.len orr, List.length_reverse]; exact OwnM.len om'
    obtain ⟨l1, hl1⟩ : ∃ l1, l1 = wr0.heap.size := ⟨_, rfl⟩
    have zl : l1 ≤ wr0.heap.size := by omega
    replace om' := (om'.below br (Nat.le_refl _)).wide_ br.size
    replace BB := BB.trans (br.mono BB.size)
    rw [← hl1] at om' orr
    have hl1h := hide hl1
    clear hl1 br hrev hok
    have hlr := hide (OwnM.len orr)
    have hlm := hide (OwnM.len om')
    go_wp2_with fail
    have aE := below_alloc wr0 (.cells #[] 70)
    have hown0 : (wr0.alloc (.cells #[] 70)).ownsRow wr0.heap.size 70 2 (.slice (some ⟨wr0.heap.size, 0, none⟩) 0 0) 0 [] := by simpa using World.ownsRow_lit (size := 2) (e := 70) wr0 #[] 0 (Nat.le_refl _) (by unfold maxLen; omega) rfl
    go_loopw [6, 7] (fun b i wr => ∃ (k : Nat) (A' : Option Addr) (c' : Nat), k ≤ nr ∧ i = .int .i64 k ∧ b = .slice A' k c' ∧ wr.ownsRow wr0.heap.size 70 2 (.slice A' k c') k (((ms.reverse.take k).map negI).flatMap mcells) ∧ Below wr0.heap.size wr0 wr)
      (fun _ i _ => nr - (intOf i).toNat)
    case atStart => exact ⟨0, _, _, by omega, rfl, rfl, by simpa using hown0, aE⟩
    case round =>
      clear hown0 aE
      obtain ⟨k, A', c', hk, rfl, rfl, hown, hb⟩ := hrel
      have hsz := hb.size
      by_cases hlt : k < nr
      · obtain ⟨ad, x, y, rfl, hcx, hcy, hrx, hry, hd, hx⟩ := (orr.moves.below hb zl).at_ hlt
        have hbl : ∀ ad, A' = some ad → wr0.heap.size ≤ ad.block := fun ad e => (owns_lt hown ad e).1
        have hry' := hide hry
        have hxH := hide hx.out
        obtain ⟨gr, hgr, _, hgr2, _⟩ := orr.form (by omega)
        obtain rfl : ad = ⟨gr, 0, none⟩ := by injection hgr
        have hgl : gr < l1 := hgr2
        have hcx2 : wr.cell? ⟨gr, k * 2, none⟩ = some (.int .i64 x) := by simpa [Addr.add_lit] using hcx
        have hcy2 : wr.cell? ⟨gr, k * 2 + 1, none⟩ = some (.int .i64 y) := by simpa [Addr.add_lit] using hcy
        clear hcx hcy
        have hzl1 : l1 ≤ wr0.heap.size := zl
        clear hrx hry hd hgr
        go_wp2_with fail
        have hS0 : Same 0 l1 wr wr.drew := fun _ _ _ => rfl
        refine wp_region_Z (fun w' => Same 0 l1 wr w') 15 (by kernel_rfl) ?_
        refine wpAnyZ_takeW 0 (.slice A' k c') rfl (by kernel_rfl) (by kernel_rfl) (fun _ _ _ h => h) (by rfl) (fun _ => by go_simp) hS0 ?_
        try simp only [Act.put, List.setIfInBounds_toArray, List.set_cons_zero, List.set_cons_succ]
        refine wpAnyZ_takeW 1 (.slice (some ⟨gr, 0, none⟩) nr cr) rfl (by kernel_rfl) (by kernel_rfl) (fun _ _ _ h => h) (by rfl) (fun _ => by go_simp) hS0 ?_
        try simp only [Act.put, List.setIfInBounds_toArray, List.set_cons_zero, List.set_cons_succ]
        refine wpAnyZ_takeW 2 (.int .i64 (k : Int)) rfl (by kernel_rfl) (by kernel_rfl) (fun _ _ _ h => h) (by rfl) (fun _ => by go_simp) hS0 ?_
        try simp only [Act.put, List.setIfInBounds_toArray, List.set_cons_zero, List.set_cons_succ]
        refine wpAnyZ_takeW 3 (.pointer (some ⟨gr, k * 2, none⟩)) rfl (by kernel_rfl) (by kernel_rfl) (fun _ _ _ h => h) (by rfl) (fun _ => by go_simp) hS0 ?_
        try simp only [Act.put, List.setIfInBounds_toArray, List.set_cons_zero, List.set_cons_succ]
        refine wpAnyZ_takeW 4 (.pointer (some ⟨gr, k * 2, none⟩)) rfl (by kernel_rfl) (by kernel_rfl) (fun _ _ _ h => h) (by rfl) (fun _ => by go_simp) hS0 ?_
        try simp only [Act.put, List.setIfInBounds_toArray, List.set_cons_zero, List.set_cons_succ]
        refine wpAnyZ_take 5 (.int .i64 x) rfl (by kernel_rfl) (by kernel_rfl) (fun _ _ _ h => h) (by rfl) (fun _ hS => by have q0 := (hS.cell (p := ⟨gr, k * 2, none⟩) (Nat.zero_le _) hgl).trans hcx2; clear hS; go_simp) hS0 ?_
        try simp only [Act.put, List.setIfInBounds_toArray, List.set_cons_zero, List.set_cons_succ]
        refine wpAnyZ_takeW 6 (.slice (some ⟨gr, 0, none⟩) nr cr) rfl (by kernel_rfl) (by kernel_rfl) (fun _ _ _ h => h) (by rfl) (fun _ => by go_simp) hS0 ?_
        try simp only [Act.put, List.setIfInBounds_toArray, List.set_cons_zero, List.set_cons_succ]
        refine wpAnyZ_takeW 7 (.int .i64 (k : Int)) rfl (by kernel_rfl) (by kernel_rfl) (fun _ _ _ h => h) (by rfl) (fun _ => by go_simp) hS0 ?_
        try simp only [Act.put, List.setIfInBounds_toArray, List.set_cons_zero, List.set_cons_succ]
        refine wpAnyZ_takeW 8 (.pointer (some ⟨gr, k * 2, none⟩)) rfl (by kernel_rfl) (by kernel_rfl) (fun _ _ _ h => h) (by rfl) (fun _ => by go_simp) hS0 ?_
        try simp only [Act.put, List.setIfInBounds_toArray, List.set_cons_zero, List.set_cons_succ]
        refine wpAnyZ_takeW 9 (.pointer (some ⟨gr, k * 2 + 1, none⟩)) rfl (by kernel_rfl) (by kernel_rfl) (fun _ _ _ h => h) (by rfl) (fun _ => by go_simp) hS0 ?_
        try simp only [Act.put, List.setIfInBounds_toArray, List.set_cons_zero, List.set_cons_succ]
        refine wpAnyZ_take 10 (.int .i64 y) rfl (by kernel_rfl) (by kernel_rfl) (fun _ _ _ h => h) (by rfl) (fun _ hS => by have q0 := (hS.cell (p := ⟨gr, k * 2 + 1, none⟩) (Nat.zero_le _) hgl).trans hcy2; clear hS; go_simp) hS0 ?_
        try simp only [Act.put, List.setIfInBounds_toArray, List.set_cons_zero, List.set_cons_succ]
        refine wpAnyZ_one 11 (by kernel_rfl) rfl (by rfl) (fun K hK => ?_)
        go_simp
        refine (spec_Minus 0 y wr.drew (by constructor <;> omega) hry'.out).mono ?_
        rintro e xw ⟨rfl, rfl⟩
        go_wp2_with fail
        refine hK.out _ _ hS0 ?_
        clear hK K
        try simp only [Act.put, List.setIfInBounds_toArray, List.set_cons_zero, List.set_cons_succ]
        refine wpAnyZ_takeW 12 (.agg #[.int .i64 x, .int .i64 (minusF 0 y)]) rfl (by kernel_rfl) (by kernel_rfl) (fun _ _ _ h => h) (by rfl) (fun _ => by go_simp) hS0 ?_
        try simp only [Act.put, List.setIfInBounds_toArray, List.set_cons_zero, List.set_cons_succ]
        refine wpAnyZ_one 13 (by kernel_rfl) rfl (by rfl) (fun K hK => ?_)
        go_simp
        have hS1 : Same 0 l1 wr ((wr.alloc (.cells #[.int .i64 x, .int .i64 (minusF 0 y)] 70)).drew) := (Same.refl 0 l1 wr).alloc (Nat.le_trans hzl1 hsz) _
        refine hK.out _ _ hS1 ?_
        clear hK K
        try simp only [Act.put, List.setIfInBounds_toArray, List.set_cons_zero, List.set_cons_succ]
        refine wpAnyZ_one 14 (by kernel_rfl) rfl (by rfl) (fun K hK => ?_)
        have hownd := owns_same hown (w' := wr.drew) (fun _ _ => rfl)
        refine step_app1M (.tmp 38) (.tmp 51) rfl wr.drew wr0.heap.size A' k c' 1 _ x (minusF 0 y) rfl rfl hownd (by omega) hsz ?_
        intro A2 c2 w2 happ
        have hbw := happ.below (Below.refl wr0.heap.size wr.drew) hsz hbl
        have HS := hide (And.intro happ.1 (hb.drew.trans hbw))
        have hS2 : Same 0 l1 wr w2 := Same.of_below (w := wr.drew) hbw hzl1
        refine hK.out _ _ hS2 ?_
        clear hK K
        try simp only [Act.put, List.setIfInBounds_toArray, List.set_cons_zero, List.set_cons_succ]
        refine wpAnyZ_last (by kernel_rfl) rfl (by kernel_rfl) (by rfl) (fun K hK => ?_)
        go_simp
        refine hK _ _ ?_
        clear hK K
        clear happ hown hownd hb hbl hsz hS0 hS1 hS2 hbw
        go_wp2_with fail
        go_roundw
        case rel => exact ⟨k + 1, A2, c2, by omega, by go_num, rfl, by rw [step_back hxH.out]; exact HS.out.1, HS.out.2⟩
        case measure => simp [intOf]; omega
      · obtain rfl : k = nr := by omega
        have ob : OwnM wr wr0.heap.size wr.heap.size A' k c' (ms.reverse.map negI) := by
          have e : ms.reverse.take k = ms.reverse := List.take_of_length_le (by have := hlr.out; omega)
          rw [e] at hown
          exact ⟨hown, fun ad e => (owns_lt hown ad e).2, fun m hm => by have := good_neg (good_rev hgm) m hm; exact ⟨by constructor <;> omega, by constructor <;> omega⟩⟩
        replace om' := om'.below hb zl
        replace orr := orr.below hb zl
        replace BB := BB.trans (hb.mono BB.size)
        replace zl := Nat.le_trans zl hsz
        clear hown hb hsz hl1h
        obtain ⟨l2, hl2⟩ : ∃ l2, l2 = wr.heap.size := ⟨_, rfl⟩
        have zl2 : l2 ≤ wr.heap.size := by omega
        rw [← hl2] at ob
        clear hl2
        have h0 : (0 : Int) ≤ 4 := by omega
        have h1o : (1 : Int) ≤ 4 := by omega
        have h5 : (4 : Int) ≤ 5 := by omega
        have hgb : goodM (ms.reverse.map negI) := good_neg (good_rev hgm)
        go_wp2_with fail
        refine (impl_Sch_rep 4 h1o h5 Am k dm ms _ _ wr om'.moves zl hgm (by omega)).mono ?_
        rintro e w1 ⟨A1, c1, rfl, o1, b1⟩
        have B1 := b1.trans ((below_alloc w1 (.cells #[.int .i64 4, .slice A1 (cntN 4) c1] 38)).mono b1.size)
        have zz1 := b1.size
        have v_a := WV.new (lo := l1) (o := 4) o1 zl (by omega) 38
        replace om' := om'.below B1 zl
        replace orr := orr.below B1 zl
        replace ob := ob.below B1 zl2
        replace zl := Nat.le_trans zl B1.size
        replace BB := BB.trans (B1.mono BB.size)
        replace zl2 := Nat.le_trans zl2 B1.size
        clear o1 b1 B1 zz1
        go_wp2_with fail
        generalize (w1.alloc (.cells #[.int .i64 4, .slice A1 (cntN 4) c1] 38)) = u1 at BB zl v_a om' orr ob zl2 ⊢
        refine (impl_Sch_rep 4 h1o h5 A' k c' (ms.reverse.map negI) _ _ u1 ob.moves zl2 hgb (by omega)).mono ?_
        rintro e w2 ⟨A2, c2, rfl, o2, b2⟩
        have B2 := b2.trans ((below_alloc w2 (.cells #[.int .i64 4, .slice A2 (cntN 4) c2] 38)).mono b2.size)
        have zz2 := b2.size
        have v_b := WV.new (lo := l1) (o := 4) o2 zl (by omega) 38
        replace v_a := v_a.below B2
        replace om' := om'.below B2 zl
        replace orr := orr.below B2 zl
        replace ob := ob.below B2 zl2
        replace zl := Nat.le_trans zl B2.size
        replace BB := BB.trans (B2.mono BB.size)
        replace zl2 := Nat.le_trans zl2 B2.size
        clear o2 b2 B2 zz2
        have y_3 := v_a
        obtain ⟨A_a3, c_a3, hB_a3, hI_a3, hg_a3⟩ := y_3
        have p_a3 := hB_a3.c 0 rfl
        have q_a3 := hB_a3.c 1 rfl
        have y_4 := v_b
        obtain ⟨A_b4, c_b4, hB_b4, hI_b4, hg_b4⟩ := y_4
        have p_b4 := hB_b4.c 0 rfl
        have q_b4 := hB_b4.c 1 rfl
        go_wp2_with fail
        generalize (w2.alloc (.cells #[.int .i64 4, .slice A2 (cntN 4) c2] 38)) = u2 at BB zl v_a v_b om' orr ob zl2 p_a3 q_a3 p_b4 q_b4 hB_a3 hI_a3 hB_b4 hI_b4 ⊢
        clear p_a3 q_a3 p_b4 q_b4 hB_a3 hB_b4
        refine (impl_Mul_rep 4 h0 h5 ((sch (serM ms))) ((sch (serM (ms.reverse.map negI)))) A_a3 c_a3 _ _ A_b4 c_b4 _ _ u2 hI_a3 hI_b4 (Nat.le_refl _) (Nat.le_refl _)).mono ?_
        rintro e w5 ⟨A5, c5, rfl, o5, b5⟩
        clear hI_a3
        clear hI_b4
        clear v_a
        clear v_b
        have B5 := b5.trans ((below_alloc w5 (.cells #[.int .i64 4, .slice A5 (cntN 4) c5] 38)).mono b5.size)
        have zz5 := b5.size
        have v_ab := WV.new (lo := l1) (o := 4) o5 zl (by omega) 38
        replace om' := om'.below B5 zl
        replace orr := orr.below B5 zl
        replace ob := ob.below B5 zl2
        replace zl := Nat.le_trans zl B5.size
        replace BB := BB.trans (B5.mono BB.size)
        replace zl2 := Nat.le_trans zl2 B5.size
        clear o5 b5 B5 zz5
        obtain ⟨Y, hY⟩ : ∃ Y, Y = (w5.alloc (.cells #[.int .i64 4, .slice A5 (cntN 4) c5] 38)) := ⟨_, rfl⟩
        rw [← hY] at BB zl v_ab om' orr ob zl2
        have aE := below_alloc Y (.cells #[] 70)
        have hownE : (Y.alloc (.cells #[] 70)).ownsRow Y.heap.size 70 2 (.slice (some ⟨Y.heap.size, 0, none⟩) 0 0) 0 [] := by simpa using World.ownsRow_lit (size := 2) (e := 70) Y #[] 0 (Nat.le_refl _) (by unfold maxLen; omega) rfl
        have s1 := hide ((om'.below aE zl).moves.src)
        have s2 := orr.below aE zl
        have nm := hide om'.none_
        have nr2 := hide orr.none_
        rw [hY] at hownE aE s1 s2
        simp only [World.size_alloc] at hownE
        have zE : w5.heap.size + 1 ≤ ((w5.alloc (.cells #[.int .i64 4, .slice A5 (cntN 4) c5] 38)).alloc (.cells #[] 70)).heap.size := by simp
        have zlY : l1 ≤ w5.heap.size + 1 := by have := zl; rw [hY] at this; simpa using this
        go_wp2_with (first | (at_builtin; refine wpl_app rfl (.tmp 71) (.tmp 72) 63 rfl _ _ 70 i0 (.agg #[.int .i64 0, .int .i64 0]) 2 16 Try.underlying63 hi0 hz0 hz1 hz2 rfl (by omega) Ap1 k cp1 _ rfl hap1.1 Ar k cr (ms.reverse.flatMap mcells) rfl (by rw [mcells_len, hlr.out]) s3.out nr2.out (mcells_one _) (by omega) (by omega) zE1 ?_; intro Ap2 cp2 wp2 hap2) | (at_builtin; refine wpl_app rfl (.tmp 69) (.tmp 70) 63 rfl _ _ 70 i0 (.agg #[.int .i64 0, .int .i64 0]) 2 16 Try.underlying63 hi0 hz0 hz1 hz2 rfl (by omega) _ 0 0 [] rfl hownE Am k dm (ms.flatMap mcells) rfl (by rw [mcells_len, hlm.out]) s1.out nm.out (mcells_one ms) (by omega) (by omega) zE ?_; intro Ap1 cp1 wp1 hap1; rw [Nat.zero_add, List.nil_append] at hap1; have hb1 := hap1.below (Below.refl _ _) zE (by intro ad e; cases e; exact Nat.le_refl _); have s3 := hide ((s2.below hb1 zlY).moves.src); have zE1 := Nat.le_trans zE hb1.size; have hbA1 := fun ad e => (owns_lt hap1.1 ad e).1))
        have hb2 := hap2.below hb1 zE1 hbA1
        have bY : Below ((w5.alloc (.cells #[.int .i64 4, .slice A5 (cntN 4) c5] 38))).heap.size (w5.alloc (.cells #[.int .i64 4, .slice A5 (cntN 4) c5] 38)) wp2 := aE.trans (hb2.mono (by simp))
        have ob2 : OwnM wp2 _ wp2.heap.size Ap2 (k + k) cp2 (ms ++ ms.reverse) := ⟨by rw [List.flatMap_append]; exact hap2.1, fun ad e => (owns_lt hap2.1 ad e).2, fun q hq => by have := good_app hgm (good_rev hgm) q hq; exact ⟨by constructor <;> omega, by constructor <;> omega⟩⟩
        rw [← hY] at bY
        clear hb1 hb2 hap1 hap2 s1 s2 s3 hownE aE zE zE1 zlY hbA1 nm nr2
        clear om' orr ob
        replace v_ab := v_ab.below bY
        replace zl := Nat.le_trans zl bY.size
        replace BB := BB.trans (bY.mono BB.size)
        replace zl2 := Nat.le_trans zl2 bY.size
        clear bY hY
        have hpal := ord_pal hgm (by rw [hlm.out]; omega)
        obtain ⟨p, hp⟩ : ∃ p, ordF (ms ++ ms.reverse) = p := ⟨_, rfl⟩
        rw [hp] at hpal
        refine (impl_Ord Ap2 (k + k) cp2 (ms ++ ms.reverse) _ _ p hp wp2 ob2.moves (Nat.le_refl _)).mono ?_
        rintro e w6 ⟨rfl, b6⟩
        clear hp ob2
        replace v_ab := v_ab.below b6
        replace zl := Nat.le_trans zl b6.size
        replace BB := BB.trans (b6.mono BB.size)
        replace zl2 := Nat.le_trans zl2 b6.size
        clear b6
        go_wp2_with fail
        refine (impl_Known _ _ known_strang w6).mono ?_
        rintro e w7 ⟨AS, nS, cS, rfl, oS, b7⟩
        replace v_ab := v_ab.below b7
        replace zl := Nat.le_trans zl b7.size
        replace BB := BB.trans (b7.mono BB.size)
        replace zl2 := Nat.le_trans zl2 b7.size
        clear b7
        go_wp2_with fail
        refine (impl_Known _ _ known_jump w7).mono ?_
        rintro e w8 ⟨AJ, nJ, cJ, rfl, oJ, b8⟩
        replace v_ab := v_ab.below b8
        replace oS := (oS.below b8 (Nat.le_refl _)).wide_ b8.size
        replace zl := Nat.le_trans zl b8.size
        replace BB := BB.trans (b8.mono BB.size)
        replace zl2 := Nat.le_trans zl2 b8.size
        clear b8
        go_wp2_with fail
        refine (impl_Known _ _ known_lie w8).mono ?_
        rintro e w9 ⟨AE, nE, cE, rfl, oE, b9⟩
        replace v_ab := v_ab.below b9
        replace oS := (oS.below b9 (Nat.le_refl _)).wide_ b9.size
        replace oJ := (oJ.below b9 (Nat.le_refl _)).wide_ b9.size
        replace zl := Nat.le_trans zl b9.size
        replace BB := BB.trans (b9.mono BB.size)
        replace zl2 := Nat.le_trans zl2 b9.size
        clear b9
        go_wp2_with fail
        obtain ⟨A_ab, c_ab, hB_ab, hI_ab, hg_ab⟩ := v_ab
        have hS0 : Below w9.heap.size w9 w9.drew := (Below.refl _ _).drew
        rcases hpal with rfl | ⟨hp2, hp0⟩
        ·
          refine wp_region_Z (fun w' => Below w9.heap.size w9 w') 39 (by kernel_rfl) ?_
          refine wpAnyZ_takeW 0 (.bool true) rfl (by kernel_rfl) (by kernel_rfl) (fun _ _ _ h => h) (by rfl) (fun _ => by go_simp) hS0 ?_
          try simp only [Act.put, List.setIfInBounds_toArray, List.set_cons_zero, List.set_cons_succ]
          refine wpAnyZ_takeW 1 (.bool true) rfl (by kernel_rfl) (by kernel_rfl) (fun _ _ _ h => h) (by rfl) (fun _ => by go_simp) hS0 ?_
          try simp only [Act.put, List.setIfInBounds_toArray, List.set_cons_zero, List.set_cons_succ]
          refine wpAnyZ_take 2 (.agg #[.int .i64 4, .slice A_ab (cntN 4) c_ab]) rfl (by kernel_rfl) (by kernel_rfl) (fun _ _ _ h => h) (by kernel_rfl) (fun _ hS => by have q0 := (hB_ab.below hS).c 0 rfl; have q1 := (hB_ab.below hS).c 1 rfl; clear hS; go_simp) hS0 ?_
          try simp only [Act.put, List.setIfInBounds_toArray, List.set_cons_zero, List.set_cons_succ]
          refine wpAnyZ_one 3 (by kernel_rfl) rfl (by kernel_rfl) (fun K hK => ?_)
          go_simp
          refine (impl_Unit_rep 4 h0 h5 w9.drew).mono ?_
          rintro e x1 ⟨Au, cu, rfl, ou, bx1⟩
          have hS1 := hS0.trans (bx1.mono hS0.size)
          go_wp2_with fail
          refine hK.out _ _ hS1 ?_
          clear hK K
          try simp only [Act.put, List.setIfInBounds_toArray, List.set_cons_zero, List.set_cons_succ]
          refine wpAnyZ_one 4 (by kernel_rfl) rfl (by kernel_rfl) (fun K hK => ?_)
          go_simp
          refine (laws_equal_rep 4 (sch (serM ms) * sch (serM (ms.reverse.map negI))) Ser.one A_ab c_ab _ _ Au cu _ _ x1 (hI_ab.below hS1 (Nat.le_refl _)) ou.ints hS1.size (Nat.le_refl _) (sch_back ms)).mono ?_
          rintro e x2 ⟨rfl, bx2⟩
          have hS2 := hS1.trans (bx2.mono hS1.size)
          go_wp2_with fail
          refine hK.out _ _ hS2 ?_
          clear hK K
          try simp only [Act.put, List.setIfInBounds_toArray, List.set_cons_zero, List.set_cons_succ]
          refine wpAnyZ_takeW 5 (.bool true) rfl (by kernel_rfl) (by kernel_rfl) (fun _ _ _ h => h) (by rfl) (fun _ => by go_simp) hS2 ?_
          try simp only [Act.put, List.setIfInBounds_toArray, List.set_cons_zero, List.set_cons_succ]
          refine wpAnyZ_takeW 6 (.bool true) rfl (by kernel_rfl) (by kernel_rfl) (fun _ _ _ h => h) (by rfl) (fun _ => by go_simp) hS2 ?_
          try simp only [Act.put, List.setIfInBounds_toArray, List.set_cons_zero, List.set_cons_succ]
          refine wpAnyZ_takeW 7 (.int .i64 5) rfl (by kernel_rfl) (by kernel_rfl) (fun _ _ _ h => h) (by kernel_rfl) (fun _ => by go_simp) hS2 ?_
          try simp only [Act.put, List.setIfInBounds_toArray, List.set_cons_zero, List.set_cons_succ]
          refine wpAnyZ_takeW 8 (.int .i64 1) rfl (by kernel_rfl) (by kernel_rfl) (fun _ _ _ h => h) (by kernel_rfl) (fun _ => by go_simp) hS2 ?_
          try simp only [Act.put, List.setIfInBounds_toArray, List.set_cons_zero, List.set_cons_succ]
          refine wpAnyZ_takeW 9 (.bool false) rfl (by kernel_rfl) (by kernel_rfl) (fun _ _ _ h => h) (by kernel_rfl) (fun _ => by go_simp) hS2 ?_
          try simp only [Act.put, List.setIfInBounds_toArray, List.set_cons_zero, List.set_cons_succ]
          refine wpAnyZ_takeW 10 (.bool false) rfl (by kernel_rfl) (by kernel_rfl) (fun _ _ _ h => h) (by kernel_rfl) (fun _ => by go_simp) hS2 ?_
          try simp only [Act.put, List.setIfInBounds_toArray, List.set_cons_zero, List.set_cons_succ]
          refine wpAnyZ_takeW 11 (.int .i64 5) rfl (by kernel_rfl) (by kernel_rfl) (fun _ _ _ h => h) (by kernel_rfl) (fun _ => by go_simp) hS2 ?_
          try simp only [Act.put, List.setIfInBounds_toArray, List.set_cons_zero, List.set_cons_succ]
          refine wpAnyZ_takeW 12 (.bool true) rfl (by kernel_rfl) (by kernel_rfl) (fun _ _ _ h => h) (by kernel_rfl) (fun _ => by go_simp) hS2 ?_
          try simp only [Act.put, List.setIfInBounds_toArray, List.set_cons_zero, List.set_cons_succ]
          refine wpAnyZ_takeW 13 (.bool true) rfl (by kernel_rfl) (by kernel_rfl) (fun _ _ _ h => h) (by kernel_rfl) (fun _ => by go_simp) hS2 ?_
          try simp only [Act.put, List.setIfInBounds_toArray, List.set_cons_zero, List.set_cons_succ]
          refine wpAnyZ_takeW 14 (.bool true) rfl (by kernel_rfl) (by kernel_rfl) (fun _ _ _ h => h) (by rfl) (fun _ => by go_simp) hS2 ?_
          try simp only [Act.put, List.setIfInBounds_toArray, List.set_cons_zero, List.set_cons_succ]
          refine wpAnyZ_takeW 15 (.bool true) rfl (by kernel_rfl) (by kernel_rfl) (fun _ _ _ h => h) (by rfl) (fun _ => by go_simp) hS2 ?_
          try simp only [Act.put, List.setIfInBounds_toArray, List.set_cons_zero, List.set_cons_succ]
          refine wpAnyZ_takeW 16 (.bool true) rfl (by kernel_rfl) (by kernel_rfl) (fun _ _ _ h => h) (by kernel_rfl) (fun _ => by go_simp) hS2 ?_
          try simp only [Act.put, List.setIfInBounds_toArray, List.set_cons_zero, List.set_cons_succ]
          refine wpAnyZ_takeW 17 (.bool true) rfl (by kernel_rfl) (by kernel_rfl) (fun _ _ _ h => h) (by rfl) (fun _ => by go_simp) hS2 ?_
          try simp only [Act.put, List.setIfInBounds_toArray, List.set_cons_zero, List.set_cons_succ]
          refine wpAnyZ_takeW 18 (.bool true) rfl (by kernel_rfl) (by kernel_rfl) (fun _ _ _ h => h) (by rfl) (fun _ => by go_simp) hS2 ?_
          try simp only [Act.put, List.setIfInBounds_toArray, List.set_cons_zero, List.set_cons_succ]
          refine wpAnyZ_takeW 19 (.bool true) rfl (by kernel_rfl) (by kernel_rfl) (fun _ _ _ h => h) (by kernel_rfl) (fun _ => by go_simp) hS2 ?_
          try simp only [Act.put, List.setIfInBounds_toArray, List.set_cons_zero, List.set_cons_succ]
          refine wpAnyZ_takeW 20 (.bool true) rfl (by kernel_rfl) (by kernel_rfl) (fun _ _ _ h => h) (by rfl) (fun _ => by go_simp) hS2 ?_
          try simp only [Act.put, List.setIfInBounds_toArray, List.set_cons_zero, List.set_cons_succ]
          refine wpAnyZ_takeW 21 (.bool true) rfl (by kernel_rfl) (by kernel_rfl) (fun _ _ _ h => h) (by rfl) (fun _ => by go_simp) hS2 ?_
          try simp only [Act.put, List.setIfInBounds_toArray, List.set_cons_zero, List.set_cons_succ]
          refine wpAnyZ_takeW 22 (.bool true) rfl (by kernel_rfl) (by kernel_rfl) (fun _ _ _ h => h) (by kernel_rfl) (fun _ => by go_simp) hS2 ?_
          try simp only [Act.put, List.setIfInBounds_toArray, List.set_cons_zero, List.set_cons_succ]
          refine wpAnyZ_takeW 23 (.bool true) rfl (by kernel_rfl) (by kernel_rfl) (fun _ _ _ h => h) (by rfl) (fun _ => by go_simp) hS2 ?_
          try simp only [Act.put, List.setIfInBounds_toArray, List.set_cons_zero, List.set_cons_succ]
          refine wpAnyZ_takeW 24 (.bool true) rfl (by kernel_rfl) (by kernel_rfl) (fun _ _ _ h => h) (by rfl) (fun _ => by go_simp) hS2 ?_
          try simp only [Act.put, List.setIfInBounds_toArray, List.set_cons_zero, List.set_cons_succ]
          refine wpAnyZ_takeW 25 (.slice AE nE cE) rfl (by kernel_rfl) (by kernel_rfl) (fun _ _ _ h => h) (by kernel_rfl) (fun _ => by go_simp) hS2 ?_
          try simp only [Act.put, List.setIfInBounds_toArray, List.set_cons_zero, List.set_cons_succ]
          refine wpAnyZ_one 26 (by kernel_rfl) rfl (by kernel_rfl) (fun K hK => ?_)
          go_simp
          refine (impl_Ord AE nE cE _ _ _ 1 ord_lie x2 (oE.moves.below hS2 (Nat.le_refl _)) hS2.size).mono ?_
          rintro e x3 ⟨rfl, bx3⟩
          have hS3 := hS2.trans (bx3.mono hS2.size)
          go_wp2_with fail
          refine hK.out _ _ hS3 ?_
          clear hK K
          try simp only [Act.put, List.setIfInBounds_toArray, List.set_cons_zero, List.set_cons_succ]
          refine wpAnyZ_takeW 27 (.bool true) rfl (by kernel_rfl) (by kernel_rfl) (fun _ _ _ h => h) (by kernel_rfl) (fun _ => by go_simp) hS3 ?_
          try simp only [Act.put, List.setIfInBounds_toArray, List.set_cons_zero, List.set_cons_succ]
          refine wpAnyZ_takeW 28 (.bool true) rfl (by kernel_rfl) (by kernel_rfl) (fun _ _ _ h => h) (by rfl) (fun _ => by go_simp) hS3 ?_
          try simp only [Act.put, List.setIfInBounds_toArray, List.set_cons_zero, List.set_cons_succ]
          refine wpAnyZ_takeW 29 (.bool true) rfl (by kernel_rfl) (by kernel_rfl) (fun _ _ _ h => h) (by rfl) (fun _ => by go_simp) hS3 ?_
          try simp only [Act.put, List.setIfInBounds_toArray, List.set_cons_zero, List.set_cons_succ]
          refine wpAnyZ_takeW 30 (.slice AS nS cS) rfl (by kernel_rfl) (by kernel_rfl) (fun _ _ _ h => h) (by kernel_rfl) (fun _ => by go_simp) hS3 ?_
          try simp only [Act.put, List.setIfInBounds_toArray, List.set_cons_zero, List.set_cons_succ]
          refine wpAnyZ_one 31 (by kernel_rfl) rfl (by kernel_rfl) (fun K hK => ?_)
          go_simp
          refine (impl_Ord AS nS cS _ _ _ 2 ord_strang x3 (oS.moves.below hS3 (Nat.le_refl _)) hS3.size).mono ?_
          rintro e x4 ⟨rfl, bx4⟩
          have hS4 := hS3.trans (bx4.mono hS3.size)
          go_wp2_with fail
          refine hK.out _ _ hS4 ?_
          clear hK K
          try simp only [Act.put, List.setIfInBounds_toArray, List.set_cons_zero, List.set_cons_succ]
          refine wpAnyZ_takeW 32 (.bool true) rfl (by kernel_rfl) (by kernel_rfl) (fun _ _ _ h => h) (by kernel_rfl) (fun _ => by go_simp) hS4 ?_
          try simp only [Act.put, List.setIfInBounds_toArray, List.set_cons_zero, List.set_cons_succ]
          refine wpAnyZ_takeW 33 (.bool true) rfl (by kernel_rfl) (by kernel_rfl) (fun _ _ _ h => h) (by rfl) (fun _ => by go_simp) hS4 ?_
          try simp only [Act.put, List.setIfInBounds_toArray, List.set_cons_zero, List.set_cons_succ]
          refine wpAnyZ_takeW 34 (.bool true) rfl (by kernel_rfl) (by kernel_rfl) (fun _ _ _ h => h) (by rfl) (fun _ => by go_simp) hS4 ?_
          try simp only [Act.put, List.setIfInBounds_toArray, List.set_cons_zero, List.set_cons_succ]
          refine wpAnyZ_takeW 35 (.slice AJ nJ cJ) rfl (by kernel_rfl) (by kernel_rfl) (fun _ _ _ h => h) (by kernel_rfl) (fun _ => by go_simp) hS4 ?_
          try simp only [Act.put, List.setIfInBounds_toArray, List.set_cons_zero, List.set_cons_succ]
          refine wpAnyZ_one 36 (by kernel_rfl) rfl (by kernel_rfl) (fun K hK => ?_)
          go_simp
          refine (impl_Ord AJ nJ cJ _ _ _ 4 ord_jump x4 (oJ.moves.below hS4 (Nat.le_refl _)) hS4.size).mono ?_
          rintro e x5 ⟨rfl, bx5⟩
          have hS5 := hS4.trans (bx5.mono hS4.size)
          go_wp2_with fail
          refine hK.out _ _ hS5 ?_
          clear hK K
          try simp only [Act.put, List.setIfInBounds_toArray, List.set_cons_zero, List.set_cons_succ]
          refine wpAnyZ_takeW 37 (.bool true) rfl (by kernel_rfl) (by kernel_rfl) (fun _ _ _ h => h) (by kernel_rfl) (fun _ => by go_simp) hS5 ?_
          try simp only [Act.put, List.setIfInBounds_toArray, List.set_cons_zero, List.set_cons_succ]
          refine wpAnyZ_takeW 38 (.bool true) rfl (by kernel_rfl) (by kernel_rfl) (fun _ _ _ h => h) (by rfl) (fun _ => by go_simp) hS5 ?_
          try simp only [Act.put, List.setIfInBounds_toArray, List.set_cons_zero, List.set_cons_succ]
          have HF := hide (BB.trans (hS5.mono BB.size))
          refine wpAnyZ_last (by kernel_rfl) rfl (by kernel_rfl) (by rfl) (fun K hK => ?_)
          go_simp
          refine hK _ _ ?_
          clear hK K
          go_wp2_with fail
          go_ret
          exact ⟨rfl, HF.out⟩
        ·
          have hpt : p.tmod 2 = 0 := by rw [Int.tmod_eq_emod_of_nonneg hp0]; exact hp2
          refine wp_region_Z (fun w' => Below w9.heap.size w9 w') 39 (by kernel_rfl) ?_
          refine wpAnyZ_takeW 0 (.bool true) rfl (by kernel_rfl) (by kernel_rfl) (fun _ _ _ h => h) (by rfl) (fun _ => by go_simp) hS0 ?_
          try simp only [Act.put, List.setIfInBounds_toArray, List.set_cons_zero, List.set_cons_succ]
          refine wpAnyZ_takeW 1 (.bool true) rfl (by kernel_rfl) (by kernel_rfl) (fun _ _ _ h => h) (by rfl) (fun _ => by go_simp) hS0 ?_
          try simp only [Act.put, List.setIfInBounds_toArray, List.set_cons_zero, List.set_cons_succ]
          refine wpAnyZ_take 2 (.agg #[.int .i64 4, .slice A_ab (cntN 4) c_ab]) rfl (by kernel_rfl) (by kernel_rfl) (fun _ _ _ h => h) (by kernel_rfl) (fun _ hS => by have q0 := (hB_ab.below hS).c 0 rfl; have q1 := (hB_ab.below hS).c 1 rfl; clear hS; go_simp) hS0 ?_
          try simp only [Act.put, List.setIfInBounds_toArray, List.set_cons_zero, List.set_cons_succ]
          refine wpAnyZ_one 3 (by kernel_rfl) rfl (by kernel_rfl) (fun K hK => ?_)
          go_simp
          refine (impl_Unit_rep 4 h0 h5 w9.drew).mono ?_
          rintro e x1 ⟨Au, cu, rfl, ou, bx1⟩
          have hS1 := hS0.trans (bx1.mono hS0.size)
          go_wp2_with fail
          refine hK.out _ _ hS1 ?_
          clear hK K
          try simp only [Act.put, List.setIfInBounds_toArray, List.set_cons_zero, List.set_cons_succ]
          refine wpAnyZ_one 4 (by kernel_rfl) rfl (by kernel_rfl) (fun K hK => ?_)
          go_simp
          refine (laws_equal_rep 4 (sch (serM ms) * sch (serM (ms.reverse.map negI))) Ser.one A_ab c_ab _ _ Au cu _ _ x1 (hI_ab.below hS1 (Nat.le_refl _)) ou.ints hS1.size (Nat.le_refl _) (sch_back ms)).mono ?_
          rintro e x2 ⟨rfl, bx2⟩
          have hS2 := hS1.trans (bx2.mono hS1.size)
          go_wp2_with fail
          refine hK.out _ _ hS2 ?_
          clear hK K
          try simp only [Act.put, List.setIfInBounds_toArray, List.set_cons_zero, List.set_cons_succ]
          refine wpAnyZ_takeW 5 (.bool true) rfl (by kernel_rfl) (by kernel_rfl) (fun _ _ _ h => h) (by rfl) (fun _ => by go_simp) hS2 ?_
          try simp only [Act.put, List.setIfInBounds_toArray, List.set_cons_zero, List.set_cons_succ]
          refine wpAnyZ_takeW 6 (.bool true) rfl (by kernel_rfl) (by kernel_rfl) (fun _ _ _ h => h) (by rfl) (fun _ => by go_simp) hS2 ?_
          try simp only [Act.put, List.setIfInBounds_toArray, List.set_cons_zero, List.set_cons_succ]
          refine wpAnyZ_takeW 7 (.int .i64 p) rfl (by kernel_rfl) (by kernel_rfl) (fun _ _ _ h => h) (by kernel_rfl) (fun _ => by go_simp) hS2 ?_
          try simp only [Act.put, List.setIfInBounds_toArray, List.set_cons_zero, List.set_cons_succ]
          refine wpAnyZ_takeW 8 (.int .i64 0) rfl (by kernel_rfl) (by kernel_rfl) (fun _ _ _ h => h) (by kernel_rfl) (fun _ => by go_simp) hS2 ?_
          try simp only [Act.put, List.setIfInBounds_toArray, List.set_cons_zero, List.set_cons_succ]
          refine wpAnyZ_takeW 9 (.bool true) rfl (by kernel_rfl) (by kernel_rfl) (fun _ _ _ h => h) (by kernel_rfl) (fun _ => by go_simp) hS2 ?_
          try simp only [Act.put, List.setIfInBounds_toArray, List.set_cons_zero, List.set_cons_succ]
          refine wpAnyZ_takeW 10 (.bool true) rfl (by kernel_rfl) (by kernel_rfl) (fun _ _ _ h => h) (by kernel_rfl) (fun _ => by go_simp) hS2 ?_
          try simp only [Act.put, List.setIfInBounds_toArray, List.set_cons_zero, List.set_cons_succ]
          refine wpAnyZ_skip 11 rfl (by kernel_rfl) (by kernel_rfl) (fun _ _ _ h => h) (by kernel_rfl) hS2 ?_
          try simp only [Act.put, List.setIfInBounds_toArray, List.set_cons_zero, List.set_cons_succ]
          refine wpAnyZ_skip 12 rfl (by kernel_rfl) (by kernel_rfl) (fun _ _ _ h => h) (by kernel_rfl) hS2 ?_
          try simp only [Act.put, List.setIfInBounds_toArray, List.set_cons_zero, List.set_cons_succ]
          refine wpAnyZ_takeW 13 (.bool true) rfl (by kernel_rfl) (by kernel_rfl) (fun _ _ _ h => h) (by kernel_rfl) (fun _ => by go_simp) hS2 ?_
          try simp only [Act.put, List.setIfInBounds_toArray, List.set_cons_zero, List.set_cons_succ]
          refine wpAnyZ_takeW 14 (.bool true) rfl (by kernel_rfl) (by kernel_rfl) (fun _ _ _ h => h) (by rfl) (fun _ => by go_simp) hS2 ?_
          try simp only [Act.put, List.setIfInBounds_toArray, List.set_cons_zero, List.set_cons_succ]
          refine wpAnyZ_takeW 15 (.bool true) rfl (by kernel_rfl) (by kernel_rfl) (fun _ _ _ h => h) (by rfl) (fun _ => by go_simp) hS2 ?_
          try simp only [Act.put, List.setIfInBounds_toArray, List.set_cons_zero, List.set_cons_succ]
          refine wpAnyZ_takeW 16 (.bool true) rfl (by kernel_rfl) (by kernel_rfl) (fun _ _ _ h => h) (by kernel_rfl) (fun _ => by go_simp) hS2 ?_
          try simp only [Act.put, List.setIfInBounds_toArray, List.set_cons_zero, List.set_cons_succ]
          refine wpAnyZ_takeW 17 (.bool true) rfl (by kernel_rfl) (by kernel_rfl) (fun _ _ _ h => h) (by rfl) (fun _ => by go_simp) hS2 ?_
          try simp only [Act.put, List.setIfInBounds_toArray, List.set_cons_zero, List.set_cons_succ]
          refine wpAnyZ_takeW 18 (.bool true) rfl (by kernel_rfl) (by kernel_rfl) (fun _ _ _ h => h) (by rfl) (fun _ => by go_simp) hS2 ?_
          try simp only [Act.put, List.setIfInBounds_toArray, List.set_cons_zero, List.set_cons_succ]
          refine wpAnyZ_takeW 19 (.bool true) rfl (by kernel_rfl) (by kernel_rfl) (fun _ _ _ h => h) (by kernel_rfl) (fun _ => by go_simp) hS2 ?_
          try simp only [Act.put, List.setIfInBounds_toArray, List.set_cons_zero, List.set_cons_succ]
          refine wpAnyZ_takeW 20 (.bool true) rfl (by kernel_rfl) (by kernel_rfl) (fun _ _ _ h => h) (by rfl) (fun _ => by go_simp) hS2 ?_
          try simp only [Act.put, List.setIfInBounds_toArray, List.set_cons_zero, List.set_cons_succ]
          refine wpAnyZ_takeW 21 (.bool true) rfl (by kernel_rfl) (by kernel_rfl) (fun _ _ _ h => h) (by rfl) (fun _ => by go_simp) hS2 ?_
          try simp only [Act.put, List.setIfInBounds_toArray, List.set_cons_zero, List.set_cons_succ]
          refine wpAnyZ_takeW 22 (.bool true) rfl (by kernel_rfl) (by kernel_rfl) (fun _ _ _ h => h) (by kernel_rfl) (fun _ => by go_simp) hS2 ?_
          try simp only [Act.put, List.setIfInBounds_toArray, List.set_cons_zero, List.set_cons_succ]
          refine wpAnyZ_takeW 23 (.bool true) rfl (by kernel_rfl) (by kernel_rfl) (fun _ _ _ h => h) (by rfl) (fun _ => by go_simp) hS2 ?_
          try simp only [Act.put, List.setIfInBounds_toArray, List.set_cons_zero, List.set_cons_succ]
          refine wpAnyZ_takeW 24 (.bool true) rfl (by kernel_rfl) (by kernel_rfl) (fun _ _ _ h => h) (by rfl) (fun _ => by go_simp) hS2 ?_
          try simp only [Act.put, List.setIfInBounds_toArray, List.set_cons_zero, List.set_cons_succ]
          refine wpAnyZ_takeW 25 (.slice AE nE cE) rfl (by kernel_rfl) (by kernel_rfl) (fun _ _ _ h => h) (by kernel_rfl) (fun _ => by go_simp) hS2 ?_
          try simp only [Act.put, List.setIfInBounds_toArray, List.set_cons_zero, List.set_cons_succ]
          refine wpAnyZ_one 26 (by kernel_rfl) rfl (by kernel_rfl) (fun K hK => ?_)
          go_simp
          refine (impl_Ord AE nE cE _ _ _ 1 ord_lie x2 (oE.moves.below hS2 (Nat.le_refl _)) hS2.size).mono ?_
          rintro e x3 ⟨rfl, bx3⟩
          have hS3 := hS2.trans (bx3.mono hS2.size)
          go_wp2_with fail
          refine hK.out _ _ hS3 ?_
          clear hK K
          try simp only [Act.put, List.setIfInBounds_toArray, List.set_cons_zero, List.set_cons_succ]
          refine wpAnyZ_takeW 27 (.bool true) rfl (by kernel_rfl) (by kernel_rfl) (fun _ _ _ h => h) (by kernel_rfl) (fun _ => by go_simp) hS3 ?_
          try simp only [Act.put, List.setIfInBounds_toArray, List.set_cons_zero, List.set_cons_succ]
          refine wpAnyZ_takeW 28 (.bool true) rfl (by kernel_rfl) (by kernel_rfl) (fun _ _ _ h => h) (by rfl) (fun _ => by go_simp) hS3 ?_
          try simp only [Act.put, List.setIfInBounds_toArray, List.set_cons_zero, List.set_cons_succ]
          refine wpAnyZ_takeW 29 (.bool true) rfl (by kernel_rfl) (by kernel_rfl) (fun _ _ _ h => h) (by rfl) (fun _ => by go_simp) hS3 ?_
          try simp only [Act.put, List.setIfInBounds_toArray, List.set_cons_zero, List.set_cons_succ]
          refine wpAnyZ_takeW 30 (.slice AS nS cS) rfl (by kernel_rfl) (by kernel_rfl) (fun _ _ _ h => h) (by kernel_rfl) (fun _ => by go_simp) hS3 ?_
          try simp only [Act.put, List.setIfInBounds_toArray, List.set_cons_zero, List.set_cons_succ]
          refine wpAnyZ_one 31 (by kernel_rfl) rfl (by kernel_rfl) (fun K hK => ?_)
          go_simp
          refine (impl_Ord AS nS cS _ _ _ 2 ord_strang x3 (oS.moves.below hS3 (Nat.le_refl _)) hS3.size).mono ?_
          rintro e x4 ⟨rfl, bx4⟩
          have hS4 := hS3.trans (bx4.mono hS3.size)
          go_wp2_with fail
          refine hK.out _ _ hS4 ?_
          clear hK K
          try simp only [Act.put, List.setIfInBounds_toArray, List.set_cons_zero, List.set_cons_succ]
          refine wpAnyZ_takeW 32 (.bool true) rfl (by kernel_rfl) (by kernel_rfl) (fun _ _ _ h => h) (by kernel_rfl) (fun _ => by go_simp) hS4 ?_
          try simp only [Act.put, List.setIfInBounds_toArray, List.set_cons_zero, List.set_cons_succ]
          refine wpAnyZ_takeW 33 (.bool true) rfl (by kernel_rfl) (by kernel_rfl) (fun _ _ _ h => h) (by rfl) (fun _ => by go_simp) hS4 ?_
          try simp only [Act.put, List.setIfInBounds_toArray, List.set_cons_zero, List.set_cons_succ]
          refine wpAnyZ_takeW 34 (.bool true) rfl (by kernel_rfl) (by kernel_rfl) (fun _ _ _ h => h) (by rfl) (fun _ => by go_simp) hS4 ?_
          try simp only [Act.put, List.setIfInBounds_toArray, List.set_cons_zero, List.set_cons_succ]
          refine wpAnyZ_takeW 35 (.slice AJ nJ cJ) rfl (by kernel_rfl) (by kernel_rfl) (fun _ _ _ h => h) (by kernel_rfl) (fun _ => by go_simp) hS4 ?_
          try simp only [Act.put, List.setIfInBounds_toArray, List.set_cons_zero, List.set_cons_succ]
          refine wpAnyZ_one 36 (by kernel_rfl) rfl (by kernel_rfl) (fun K hK => ?_)
          go_simp
          refine (impl_Ord AJ nJ cJ _ _ _ 4 ord_jump x4 (oJ.moves.below hS4 (Nat.le_refl _)) hS4.size).mono ?_
          rintro e x5 ⟨rfl, bx5⟩
          have hS5 := hS4.trans (bx5.mono hS4.size)
          go_wp2_with fail
          refine hK.out _ _ hS5 ?_
          clear hK K
          try simp only [Act.put, List.setIfInBounds_toArray, List.set_cons_zero, List.set_cons_succ]
          refine wpAnyZ_takeW 37 (.bool true) rfl (by kernel_rfl) (by kernel_rfl) (fun _ _ _ h => h) (by kernel_rfl) (fun _ => by go_simp) hS5 ?_
          try simp only [Act.put, List.setIfInBounds_toArray, List.set_cons_zero, List.set_cons_succ]
          refine wpAnyZ_takeW 38 (.bool true) rfl (by kernel_rfl) (by kernel_rfl) (fun _ _ _ h => h) (by rfl) (fun _ => by go_simp) hS5 ?_
          try simp only [Act.put, List.setIfInBounds_toArray, List.set_cons_zero, List.set_cons_succ]
          have HF := hide (BB.trans (hS5.mono BB.size))
          refine wpAnyZ_last (by kernel_rfl) rfl (by kernel_rfl) (by rfl) (fun K hK => ?_)
          go_simp
          refine hK _ _ ?_
          clear hK K
          go_wp2_with fail
          go_ret
          exact ⟨rfl, HF.out⟩
theorem own : ownKnob Try.prog.godebug = none := by kernel_rfl
theorem laidOut : laidOutB Try.prog = true := by kernel_rfl
set_option maxRecDepth 100000 in
theorem lifted (os : Os) (started : os.Started) (H : Type) (enc : TypeId × Value → H) :
    ReturnsInHanded {} Try.checked os 9 .any (Rows.fnSchemesSpec.pre6 enc Try.prog Try.f9 Rows.fnSchemesRow.domain false) (Rows.fnSchemesSpec.post enc Try.prog Try.f9 false true false false) := by
  refine returnsInHanded_of_change (C := Try.checked) own started (by kernel_rfl) Try.func9
    (ChangeSpec.witness6 (enc := enc) (C := Try.checked) false ⟨#[], #[.slice none 0 0], []⟩ 8 (by kernel_rfl) (by kernel_rfl) (by kernel_rfl) (by kernel_rfl)) ?_
  intro W base args ds gs before hval0 hW hcnd _
  have hval : ∀ (j : Nat) t v, Try.f9.params[j]? = some t → args[j]? = some v → Value.okWide Try.prog W .any base t v := hval0
  have hW' := hW
  obtain ⟨p, q, hA0, hV, rfl, hfz, hnd⟩ := hW
  have hA : DataW.TrodAll enc Try.prog W 0 (fun _ => true) true Try.f9.params.toList args.toList ds p := hA0
  rw [Try.params9] at hA hval
  obtain ⟨v0, vs0, d0, ds0, p0, q0, hargs, rfl, rfl, h0, t0⟩ := trodAll_cons hA
  obtain ⟨rfl, rfl, rfl⟩ := trodAll_nil t0
  obtain rfl : args = #[v0] := by cases args; simp_all
  obtain ⟨rfl, rfl⟩ := trodVars_none hV
  have k0 := h0
  have lt0 : ∀ x ∈ p0, x.block < W.heap.size := by obtain ⟨m, hm⟩ := k0; exact DataW.trod_lt m _ _ _ hm
  obtain ⟨a0, n0, c0, rfl⟩ := okWide_slice Try.underlying47 (hval 0 47 v0 rfl rfl)
  have r0 := open_pbytes h0
  clear hA0 hval0
  refine (walk a0 n0 c0 W r0).mono fun e W' ⟨he, bel⟩ => ?_
  subst he
  exact ⟨_, rfl, _, _, _, [], _, [], hW', trodAll_mk1 (shut_bool Try.underlying4 _), (trodAll_cons_mk (Below.trod laidOut (by kernel_rfl) (of_decide_eq_true (by kernel_rfl)) k0 bel lt0) trodAll_mk0), rfl, bel.frame _, fun h => by cases h⟩
theorem over : Rows.fnSchemesRow.holds Try.pinned (OpenSpec.ofChange Rows.fnSchemesSpec) :=
  OpenClaim.holds_of_wide 9 Try.f9 rfl rfl rfl rfl rfl rfl rfl ⟨rfl, rfl, rfl, rfl, rfl⟩ rfl rfl rfl rfl rfl (by kernel_rfl) Try.func9 (by kernel_rfl)
    (of_decide_eq_true (by kernel_rfl)) (by unfold Func.isWrapper; first | (rw [if_pos (by decide +kernel)]; kernel_rfl) | (rw [if_neg (by decide +kernel)]; exact ⟨rfl, rfl⟩))
    (fun os started H enc _ => lifted os started H enc)
theorem proved : Rows.FnSchemesSaid := over
#print axioms proved

end Go.Proofs.Ytodlfmagkjblgaa.fnSchemes
