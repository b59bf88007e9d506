/- Proved here: for every input the statement FnExactConjugatePair returns true, and its argument reads as before. No conditions. -/
import Derived.Test.YtodlfmagkjblgaaConjB
import Derived.Test.YtodlfmagkjblgaaFrames
namespace Go.Proofs.Ytodlfmagkjblgaa.fnExactConjugatePair
open Go.ChangeShapes Go.WideShapes Go.ChangeAt Go.RowKit
set_option linter.unusedSimpArgs false
set_option linter.unusedVariables false
set_option maxRecDepth 20000

theorem OwnI.noneI {w : World} {lo hi : Nat} {A : Option Addr} {n c : Nat} {xs : List Int} (h : OwnI w lo hi A n c xs) : A = none → n = 0 ∧ c = 0 := by
  intro e
  subst e
  rcases h.own.2 with ⟨e, rfl⟩ | ⟨g, cap, cur, e, _⟩
  · injection e with _ _ e3; exact ⟨rfl, e3⟩
  · injection e with e1; cases e1
theorem tabEq_refl (s : Int) (xs ys : List Int) : tabEqF s xs ys s xs ys = true := by simp [tabEqF]
theorem laws_markPair_nil (w : World) : Calls Try.prog 43 #[zPair, .int .i64 1] w fun e w' => e = .returned (.int .i64 1) ∧ Below w.heap.size w w' := by
  have a1 := below_alloc w (.cells #[.int .i64 0, .slice none 0 0, .slice none 0 0, .int .i64 0, .slice none 0 0, .slice none 0 0] 31)
  have j1 := BlkN.new w #[.int .i64 0, .slice none 0 0, .slice none 0 0, .int .i64 0, .slice none 0 0, .slice none 0 0] 31
  go_enter Try.func43, Try.ntmps43
  have p0 := j1.c 0 rfl
  have p1 := j1.c 1 rfl
  have p2 := j1.c 2 rfl
  go_wp2_with fail
  clear p0 p1 p2
  generalize World.alloc w (.cells #[.int .i64 0, .slice none 0 0, .slice none 0 0, .int .i64 0, .slice none 0 0, .slice none 0 0] 31) = W at a1 j1 ⊢
  refine (laws_markTableau 0 none 0 0 [] none 0 0 [] W.heap.size W.heap.size W.heap.size W.heap.size W.heap.size W.heap.size 1 W (OwnI.nil_ _ _ _) (OwnI.nil_ _ _ _) (.inl (Nat.le_refl _)) (by omega) (Nat.le_refl _) (by omega) (by omega)).mono ?_
  rintro e w1 ⟨rfl, _, _, t1, _⟩
  have b1 := t1.below (Nat.le_refl _) (Nat.le_refl _)
  have k1 := j1.below b1
  have B1 := a1.trans (b1.mono a1.size)
  have p3 := k1.c 3 rfl
  have p4 := k1.c 4 rfl
  have p5 := k1.c 5 rfl
  clear t1 b1 j1 a1
  go_wp2_with fail
  clear p3 p4 p5
  refine (laws_markTableau 0 none 0 0 [] none 0 0 [] w1.heap.size w1.heap.size w1.heap.size w1.heap.size w1.heap.size w1.heap.size 1 w1 (OwnI.nil_ _ _ _) (OwnI.nil_ _ _ _) (.inl (Nat.le_refl _)) (by omega) (Nat.le_refl _) (by omega) (by omega)).mono ?_
  rintro e w2 ⟨rfl, _, _, t2, _⟩
  have B2 := B1.trans ((t2.below (Nat.le_refl _) (Nat.le_refl _)).mono B1.size)
  go_wp2_with fail
  go_ret
  exact ⟨ret_int (by omega), B2⟩
set_option maxRecDepth 100000 in
set_option maxHeartbeats 8000000 in
theorem walk_bad (s : Int) (A : Option Addr) (n c : Nat) (xs : List Int) (B : Option Addr) (m d : Nat) (ys : List Int) (w : World) (h : Ints w 0 w.heap.size A n c xs) (g : Ints w 0 w.heap.size B m d ys) (hs1 : n ≤ 1048576) (hs2 : m ≤ 1048576) (hsum : (n : Int) + m ≤ 1048576) (hbad : conjOkF s xs ys = false) :
    Calls Try.prog 7 #[.agg #[.int .i64 s, .slice A n c, .slice B m d]] w fun e w' => e = .returned (.bool true) ∧ Below w.heap.size w w' := by
  have hcp1 := h.cap
  have hmx1 := h.max
  have hcp2 := g.cap
  have hmx2 := g.max
  have a1 := below_alloc w (.cells #[.int .i64 s, .slice A n c, .slice B m d] 24)
  have j1 := BlkN.new w #[.int .i64 s, .slice A n c, .slice B m d] 24
  have hsz : sz2F n m 1048576 = 1048576 - n - m := sz2F_ok (by omega)
  go_enter Try.func7, Try.ntmps7
  go_wp2_with fail
  generalize World.alloc w (.cells #[.int .i64 s, .slice A n c, .slice B m d] 24) = W at a1 j1 ⊢
  have jb := j1
  have BB := a1
  clear j1 a1
  have z0 := BB.size
  have gb_ := jb.lt
  refine (laws_szTableau s A n c B m d 1048576 W (by omega) (by omega) (by omega) (by omega)).mono ?_
  rintro e u1 ⟨rfl, b1⟩
  rw [hsz]
  have y1 := b1.size
  replace jb := jb.below b1
  replace BB := BB.trans (b1.mono BB.size)
  clear b1
  have f_jb0 := jb.c 0 rfl
  have f_jb1 := jb.c 1 rfl
  have f_jb2 := jb.c 2 rfl
  go_wp2_with fail
  clear f_jb0 f_jb1 f_jb2
  refine (laws_toTableau s A n c xs B m d ys 0 w.heap.size u1 (h.below BB (Nat.le_refl _)) (g.below BB (Nat.le_refl _)) BB.size hs1 hs2).mono ?_
  rintro e ta ⟨TAa, tca, TBa, tda, mida, rfl, oAa, oBa, haa, hba, bta⟩
  have yta := bta.size
  replace jb := jb.below bta
  replace BB := BB.trans (bta.mono BB.size)
  clear bta
  go_wp2_with fail
  refine (spec_Conj_bad s TAa n tca xs TBa m tda ys ta.heap.size ta (oAa.ints.wide (Nat.zero_le _) hba) (oBa.ints.wide (Nat.zero_le _) (Nat.le_refl _)) (Nat.le_refl _) hbad).mono ?_
  rintro e us ⟨rfl, bs⟩
  have ys_ := bs.size
  replace jb := jb.below bs
  replace BB := BB.trans (bs.mono BB.size)
  clear oAa oBa bs
  have av := below_alloc us (.cells #[.int .i64 0, .slice none 0 0, .slice none 0 0, .int .i64 0, .slice none 0 0, .slice none 0 0] 31)
  have jw := BlkN.new us #[.int .i64 0, .slice none 0 0, .slice none 0 0, .int .i64 0, .slice none 0 0, .slice none 0 0] 31
  have yv := av.size
  obtain ⟨p0, hp0⟩ : ∃ p0, p0 = ta.heap.size := ⟨_, rfl⟩
  obtain ⟨p1, hp1⟩ : ∃ p1, p1 = us.heap.size := ⟨_, rfl⟩
  have hpp : p0 ≤ p1 := by omega
  have hp0z : w.heap.size ≤ p0 := by omega
  have hp0b : w.heap.size < p0 := by have := gb_; omega
  have hp1v : p1 ≤ us.heap.size := by omega
  replace jb := jb.below av
  replace BB := BB.trans (av.mono BB.size)
  have hjw := jw.lt
  have husz : p1 < (us.alloc (.cells #[.int .i64 0, .slice none 0 0, .slice none 0 0, .int .i64 0, .slice none 0 0, .slice none 0 0] 31)).heap.size := by rw [hp1]; simp
  clear hp0 hp1 av
  have f_jb0 := jb.c 0 rfl
  have f_jb1 := jb.c 1 rfl
  have f_jb2 := jb.c 2 rfl
  go_wp2_with fail
  clear f_jb0 f_jb1 f_jb2
  generalize (us.alloc (.cells #[.int .i64 0, .slice none 0 0, .slice none 0 0, .int .i64 0, .slice none 0 0, .slice none 0 0] 31)) = v1 at BB jb jw hjw yv husz ⊢
  clear ys_ yv hp1v
  refine (laws_toTableau s A n c xs B m d ys 0 w.heap.size v1 (h.below BB (Nat.le_refl _)) (g.below BB (Nat.le_refl _)) BB.size hs1 hs2).mono ?_
  rintro e tx ⟨TAx, tcx, TBx, tdx, midx, rfl, oAx, oBx, hax, hbx, btx⟩
  have ytx := btx.size
  replace jb := jb.below btx
  replace jw := jw.below btx
  replace BB := BB.trans (btx.mono BB.size)
  clear btx
  have ax := below_alloc tx (.cells #[.int .i64 s, .slice TAx n tcx, .slice TBx m tdx] 29)
  have jx := BlkN.new tx #[.int .i64 s, .slice TAx n tcx, .slice TBx m tdx] 29
  have yx := ax.size
  obtain ⟨xlo, hxlo⟩ : ∃ xlo, xlo = v1.heap.size := ⟨_, rfl⟩
  obtain ⟨xhi, hxhi⟩ : ∃ xhi, xhi = tx.heap.size := ⟨_, rfl⟩
  rw [← hxlo] at oAx hax
  rw [← hxhi] at oBx hbx
  have hxlob : p1 < xlo := by omega
  have hwx : us.heap.size < xlo := by omega
  have hxhie : xhi ≤ tx.heap.size := by omega
  replace jb := jb.below ax
  replace jw := jw.below ax
  replace oAx := oAx.below ax (by omega)
  replace oBx := oBx.below ax (by omega)
  replace BB := BB.trans (ax.mono BB.size)
  have hjx := jx.lt
  clear hxlo hxhi ax
  have f_jx0 := jx.c 0 rfl
  have f_jx1 := jx.c 1 rfl
  have f_jx2 := jx.c 2 rfl
  go_wp2_with fail
  clear f_jx0 f_jx1 f_jx2
  generalize (tx.alloc (.cells #[.int .i64 s, .slice TAx n tcx, .slice TBx m tdx] 29)) = v2 at BB jb jw jx oAx oBx hjx yx ⊢
  refine (impl_Conj_bad s TAx n tcx xs TBx m tdx ys 0 v2.heap.size v2 (oAx.ints.wide (Nat.zero_le _) (by omega)) (oBx.ints.wide (Nat.zero_le _) (by omega)) (Nat.le_refl _) (by omega) hbad).mono ?_
  rintro e ug ⟨rfl, big⟩
  have yig := big.size
  replace jb := jb.below big
  replace jw := jw.below big
  replace jx := jx.below big
  replace oAx := oAx.below big (by omega)
  replace oBx := oBx.below big (by omega)
  replace BB := BB.trans (big.mono BB.size)
  clear big
  have ag := below_alloc ug (.cells #[.int .i64 0, .slice none 0 0, .slice none 0 0, .int .i64 0, .slice none 0 0, .slice none 0 0] 31)
  have jg := BlkN.new ug #[.int .i64 0, .slice none 0 0, .slice none 0 0, .int .i64 0, .slice none 0 0, .slice none 0 0] 31
  have yg := ag.size
  replace jb := jb.below ag
  replace jw := jw.below ag
  replace jx := jx.below ag
  replace oAx := oAx.below ag (by omega)
  replace oBx := oBx.below ag (by omega)
  replace BB := BB.trans (ag.mono BB.size)
  have hjg := jg.lt
  clear ag
  have f_jg0 := jg.c 0 rfl
  have f_jg1 := jg.c 1 rfl
  have f_jg2 := jg.c 2 rfl
  have f_jg3 := jg.c 3 rfl
  have f_jg4 := jg.c 4 rfl
  have f_jg5 := jg.c 5 rfl
  have f_jw0 := jw.c 0 rfl
  have f_jw1 := jw.c 1 rfl
  have f_jw2 := jw.c 2 rfl
  have f_jw3 := jw.c 3 rfl
  have f_jw4 := jw.c 4 rfl
  have f_jw5 := jw.c 5 rfl
  go_wp2_with fail
  clear f_jg0 f_jg1 f_jg2 f_jg3 f_jg4 f_jg5 f_jw0 f_jw1 f_jw2 f_jw3 f_jw4 f_jw5
  generalize (ug.alloc (.cells #[.int .i64 0, .slice none 0 0, .slice none 0 0, .int .i64 0, .slice none 0 0, .slice none 0 0] 31)) = v3 at BB jb jw jx jg oAx oBx hjg yg ⊢
  refine (laws_eqPair 0 none 0 0 [] none 0 0 [] 0 none 0 0 [] none 0 0 [] 0 v3.heap.size 0 none 0 0 [] none 0 0 [] 0 none 0 0 [] none 0 0 [] 0 v3.heap.size v3 (Ints.nil_ _ _ _) (Ints.nil_ _ _ _) (Ints.nil_ _ _ _) (Ints.nil_ _ _ _) (Ints.nil_ _ _ _) (Ints.nil_ _ _ _) (Ints.nil_ _ _ _) (Ints.nil_ _ _ _) (Nat.le_refl _) (Nat.le_refl _)).mono ?_
  rintro e ze ⟨rfl, be⟩
  rw [pairEq_refl]
  have ye := be.size
  replace jb := jb.below be
  replace jw := jw.below be
  replace jx := jx.below be
  replace jg := jg.below be
  replace oAx := oAx.below be (by omega)
  replace oBx := oBx.below be (by omega)
  replace BB := BB.trans (be.mono BB.size)
  clear be
  go_wp2_with fail
  go_cut [45] (fun s45 wx => s45 = .bool false ∧ Below ze.heap.size ze wx)
  case first =>
    have hS0 : Below ze.heap.size ze ze.drew := (Below.refl _ _).drew
    refine wp_region_Z (fun w' => Below ze.heap.size ze w') 4 (by kernel_rfl) ?_
    refine wpAnyZ_two 0 1 (by kernel_rfl) rfl rfl (by rfl) (by rfl) (fun K hK => ?_) (fun K hK => ?_)
    ·
      have qe0_0 := (jx.below hS0).c 0 rfl
      have qe0_1 := (jx.below hS0).c 1 rfl
      have qe0_2 := (jx.below hS0).c 2 rfl
      go_simp
      refine hK.out _ _ hS0 ?_
      clear hK K qe0_0 qe0_1 qe0_2
      try simp only [Act.put, List.setIfInBounds_toArray, List.set_cons_zero, List.set_cons_succ]
      refine wpAnyZ_one 1 (by kernel_rfl) rfl (by rfl) (fun K hK => ?_)
      have qe1_0 := (jb.below hS0).c 0 rfl
      have qe1_1 := (jb.below hS0).c 1 rfl
      have qe1_2 := (jb.below hS0).c 2 rfl
      go_simp
      refine hK.out _ _ hS0 ?_
      clear hK K qe1_0 qe1_1 qe1_2
      try simp only [Act.put, List.setIfInBounds_toArray, List.set_cons_zero, List.set_cons_succ]
      refine wpAnyZ_one 2 (by kernel_rfl) rfl (by rfl) (fun K hK => ?_)
      go_simp
      refine (laws_toTableau s A n c xs B m d ys 0 w.heap.size ze.drew (h.below (BB.trans (hS0.mono BB.size)) (Nat.le_refl _)) (g.below (BB.trans (hS0.mono BB.size)) (Nat.le_refl _)) (Nat.le_trans BB.size hS0.size) hs1 hs2).mono ?_
      rintro e x1 ⟨TAy, tcy, TBy, tdy, midy, rfl, oAy, oBy, hay, hby, bx1⟩
      have hS1 := hS0.trans (bx1.mono hS0.size)
      go_wp2_with fail
      refine hK.out _ _ hS1 ?_
      clear hK K
      try simp only [Act.put, List.setIfInBounds_toArray, List.set_cons_zero, List.set_cons_succ]
      refine wpAnyZ_one 3 (by kernel_rfl) rfl (by rfl) (fun K hK => ?_)
      go_simp
      refine (laws_eqTableau s TAx n tcx xs TBx m tdx ys 0 x1.heap.size s TAy n tcy xs TBy m tdy ys 0 x1.heap.size x1 ((oAx.below hS1 (by omega)).ints.wide (Nat.zero_le _) (by have := hS1.size; omega)) ((oBx.below hS1 (by omega)).ints.wide (Nat.zero_le _) (by have := hS1.size; omega)) (oAy.ints.wide (Nat.zero_le _) hby) (oBy.ints.wide (Nat.zero_le _) (Nat.le_refl _)) (Nat.le_refl _) (Nat.le_refl _)).mono ?_
      rintro e x2 ⟨rfl, bx2⟩
      rw [tabEq_refl]
      have hS2 := hS1.trans (bx2.mono hS1.size)
      go_wp2_with fail
      refine hK.out _ _ hS2 ?_
      clear hK K
      try simp only [Act.put, List.setIfInBounds_toArray, List.set_cons_zero, List.set_cons_succ]
      have bz := hS2
      skip
      refine wpAnyZ_last (by kernel_rfl) rfl (by kernel_rfl) (by rfl) (fun K hK => ?_)
      go_simp
      refine hK _ _ ?_
      clear hK K
      go_wp2_with fail
      go_meet
      exact ⟨rfl, bz⟩
    ·
      have qe1_0 := (jb.below hS0).c 0 rfl
      have qe1_1 := (jb.below hS0).c 1 rfl
      have qe1_2 := (jb.below hS0).c 2 rfl
      go_simp
      refine hK.out _ _ hS0 ?_
      clear hK K qe1_0 qe1_1 qe1_2
      try simp only [Act.put, List.setIfInBounds_toArray, List.set_cons_zero, List.set_cons_succ]
      refine wpAnyZ_two 0 2 (by kernel_rfl) rfl rfl (by rfl) (by rfl) (fun K hK => ?_) (fun K hK => ?_)
      ·
        have qe0_0 := (jx.below hS0).c 0 rfl
        have qe0_1 := (jx.below hS0).c 1 rfl
        have qe0_2 := (jx.below hS0).c 2 rfl
        go_simp
        refine hK.out _ _ hS0 ?_
        clear hK K qe0_0 qe0_1 qe0_2
        try simp only [Act.put, List.setIfInBounds_toArray, List.set_cons_zero, List.set_cons_succ]
        refine wpAnyZ_one 2 (by kernel_rfl) rfl (by rfl) (fun K hK => ?_)
        go_simp
        refine (laws_toTableau s A n c xs B m d ys 0 w.heap.size ze.drew (h.below (BB.trans (hS0.mono BB.size)) (Nat.le_refl _)) (g.below (BB.trans (hS0.mono BB.size)) (Nat.le_refl _)) (Nat.le_trans BB.size hS0.size) hs1 hs2).mono ?_
        rintro e x1 ⟨TAy, tcy, TBy, tdy, midy, rfl, oAy, oBy, hay, hby, bx1⟩
        have hS1 := hS0.trans (bx1.mono hS0.size)
        go_wp2_with fail
        refine hK.out _ _ hS1 ?_
        clear hK K
        try simp only [Act.put, List.setIfInBounds_toArray, List.set_cons_zero, List.set_cons_succ]
        refine wpAnyZ_one 3 (by kernel_rfl) rfl (by rfl) (fun K hK => ?_)
        go_simp
        refine (laws_eqTableau s TAx n tcx xs TBx m tdx ys 0 x1.heap.size s TAy n tcy xs TBy m tdy ys 0 x1.heap.size x1 ((oAx.below hS1 (by omega)).ints.wide (Nat.zero_le _) (by have := hS1.size; omega)) ((oBx.below hS1 (by omega)).ints.wide (Nat.zero_le _) (by have := hS1.size; omega)) (oAy.ints.wide (Nat.zero_le _) hby) (oBy.ints.wide (Nat.zero_le _) (Nat.le_refl _)) (Nat.le_refl _) (Nat.le_refl _)).mono ?_
        rintro e x2 ⟨rfl, bx2⟩
        rw [tabEq_refl]
        have hS2 := hS1.trans (bx2.mono hS1.size)
        go_wp2_with fail
        refine hK.out _ _ hS2 ?_
        clear hK K
        try simp only [Act.put, List.setIfInBounds_toArray, List.set_cons_zero, List.set_cons_succ]
        have bz := hS2
        skip
        refine wpAnyZ_last (by kernel_rfl) rfl (by kernel_rfl) (by rfl) (fun K hK => ?_)
        go_simp
        refine hK _ _ ?_
        clear hK K
        go_wp2_with fail
        go_meet
        exact ⟨rfl, bz⟩
      ·
        go_simp
        refine (laws_toTableau s A n c xs B m d ys 0 w.heap.size ze.drew (h.below (BB.trans (hS0.mono BB.size)) (Nat.le_refl _)) (g.below (BB.trans (hS0.mono BB.size)) (Nat.le_refl _)) (Nat.le_trans BB.size hS0.size) hs1 hs2).mono ?_
        rintro e x1 ⟨TAy, tcy, TBy, tdy, midy, rfl, oAy, oBy, hay, hby, bx1⟩
        have hS1 := hS0.trans (bx1.mono hS0.size)
        go_wp2_with fail
        refine hK.out _ _ hS1 ?_
        clear hK K
        try simp only [Act.put, List.setIfInBounds_toArray, List.set_cons_zero, List.set_cons_succ]
        refine wpAnyZ_one 0 (by kernel_rfl) rfl (by rfl) (fun K hK => ?_)
        have qe0_0 := (jx.below hS1).c 0 rfl
        have qe0_1 := (jx.below hS1).c 1 rfl
        have qe0_2 := (jx.below hS1).c 2 rfl
        go_simp
        refine hK.out _ _ hS1 ?_
        clear hK K qe0_0 qe0_1 qe0_2
        try simp only [Act.put, List.setIfInBounds_toArray, List.set_cons_zero, List.set_cons_succ]
        refine wpAnyZ_one 3 (by kernel_rfl) rfl (by rfl) (fun K hK => ?_)
        go_simp
        refine (laws_eqTableau s TAx n tcx xs TBx m tdx ys 0 x1.heap.size s TAy n tcy xs TBy m tdy ys 0 x1.heap.size x1 ((oAx.below hS1 (by omega)).ints.wide (Nat.zero_le _) (by have := hS1.size; omega)) ((oBx.below hS1 (by omega)).ints.wide (Nat.zero_le _) (by have := hS1.size; omega)) (oAy.ints.wide (Nat.zero_le _) hby) (oBy.ints.wide (Nat.zero_le _) (Nat.le_refl _)) (Nat.le_refl _) (Nat.le_refl _)).mono ?_
        rintro e x2 ⟨rfl, bx2⟩
        rw [tabEq_refl]
        have hS2 := hS1.trans (bx2.mono hS1.size)
        go_wp2_with fail
        refine hK.out _ _ hS2 ?_
        clear hK K
        try simp only [Act.put, List.setIfInBounds_toArray, List.set_cons_zero, List.set_cons_succ]
        have bz := hS2
        skip
        refine wpAnyZ_last (by kernel_rfl) rfl (by kernel_rfl) (by rfl) (fun K hK => ?_)
        go_simp
        refine hK _ _ ?_
        clear hK K
        go_wp2_with fail
        go_meet
        exact ⟨rfl, bz⟩
  case rest =>
    obtain ⟨rfl, bz⟩ := hcut
    obtain ⟨X2, rfl⟩ : ∃ W : World, W = wc := ⟨_, rfl⟩
    have yz := bz.size
    replace jb := jb.below bz
    replace jw := jw.below bz
    replace jx := jx.below bz
    replace jg := jg.below bz
    replace oAx := oAx.below bz (by omega)
    replace oBx := oBx.below bz (by omega)
    replace BB := BB.trans (bz.mono BB.size)
    clear bz
    have f_jx0 := jx.c 0 rfl
    have f_jx1 := jx.c 1 rfl
    have f_jx2 := jx.c 2 rfl
    go_wp2_with fail
    clear f_jx0 f_jx1 f_jx2
    refine (laws_markTableau s TAx n tcx xs TBx m tdx ys xlo midx midx xhi xlo xhi 1 X2 oAx oBx (.inl (Nat.le_refl _)) (by omega) (by omega) (by omega) (by omega)).mono ?_
    rintro e z1 ⟨rfl, nA, nB, tm, _⟩
    have ym := tm.size
    clear oAx oBx
    replace jb := jb.touch tm (by omega)
    replace jw := jw.touch tm (by omega)
    replace jx := jx.touch tm (by omega)
    replace jg := jg.touch tm (by omega)
    replace BB := BB.trans (tm.below (B := w.heap.size) (by omega) BB.size)
    clear tm nA nB
    have f_jg0 := jg.c 0 rfl
    have f_jg1 := jg.c 1 rfl
    have f_jg2 := jg.c 2 rfl
    have f_jg3 := jg.c 3 rfl
    have f_jg4 := jg.c 4 rfl
    have f_jg5 := jg.c 5 rfl
    have f_jw0 := jw.c 0 rfl
    have f_jw1 := jw.c 1 rfl
    have f_jw2 := jw.c 2 rfl
    have f_jw3 := jw.c 3 rfl
    have f_jw4 := jw.c 4 rfl
    have f_jw5 := jw.c 5 rfl
    go_wp2_with fail
    clear f_jg0 f_jg1 f_jg2 f_jg3 f_jg4 f_jg5 f_jw0 f_jw1 f_jw2 f_jw3 f_jw4 f_jw5
    refine (laws_eqPair 0 none 0 0 [] none 0 0 [] 0 none 0 0 [] none 0 0 [] 0 z1.heap.size 0 none 0 0 [] none 0 0 [] 0 none 0 0 [] none 0 0 [] 0 z1.heap.size z1 (Ints.nil_ _ _ _) (Ints.nil_ _ _ _) (Ints.nil_ _ _ _) (Ints.nil_ _ _ _) (Ints.nil_ _ _ _) (Ints.nil_ _ _ _) (Ints.nil_ _ _ _) (Ints.nil_ _ _ _) (Nat.le_refl _) (Nat.le_refl _)).mono ?_
    rintro e zf ⟨rfl, bf⟩
    rw [pairEq_refl]
    have yf := bf.size
    replace jb := jb.below bf
    replace jw := jw.below bf
    replace jx := jx.below bf
    replace jg := jg.below bf
    replace BB := BB.trans (bf.mono BB.size)
    clear bf
    have f_jg0 := jg.c 0 rfl
    have f_jg1 := jg.c 1 rfl
    have f_jg2 := jg.c 2 rfl
    have f_jg3 := jg.c 3 rfl
    have f_jg4 := jg.c 4 rfl
    have f_jg5 := jg.c 5 rfl
    go_wp2_with fail
    clear f_jg0 f_jg1 f_jg2 f_jg3 f_jg4 f_jg5
    refine (laws_markPair_nil zf).mono ?_
    rintro e z2 ⟨rfl, bm⟩
    have yn := bm.size
    replace jb := jb.below bm
    replace jw := jw.below bm
    replace jx := jx.below bm
    replace jg := jg.below bm
    replace BB := BB.trans (bm.mono BB.size)
    clear bm
    have f_jg0 := jg.c 0 rfl
    have f_jg1 := jg.c 1 rfl
    have f_jg2 := jg.c 2 rfl
    have f_jg3 := jg.c 3 rfl
    have f_jg4 := jg.c 4 rfl
    have f_jg5 := jg.c 5 rfl
    go_wp2_with fail
    clear f_jg0 f_jg1 f_jg2 f_jg3 f_jg4 f_jg5
    refine (laws_heldPair 0 none 0 0 none 0 0 0 none 0 0 none 0 0 0 z2.heap.size 1 z2 (Ints.nil_ _ _ _) (Ints.nil_ _ _ _) (Ints.nil_ _ _ _) (Ints.nil_ _ _ _) (Nat.le_refl _) (by omega) (by omega)).mono ?_
    rintro e h1_ ⟨rfl, b1_⟩
    have y1_ := b1_.size
    replace jb := jb.below b1_
    replace jw := jw.below b1_
    replace jx := jx.below b1_
    replace jg := jg.below b1_
    replace BB := BB.trans (b1_.mono BB.size)
    clear b1_
    have f_jb0 := jb.c 0 rfl
    have f_jb1 := jb.c 1 rfl
    have f_jb2 := jb.c 2 rfl
    go_wp2_with fail
    clear f_jb0 f_jb1 f_jb2
    refine (laws_toTableau s A n c xs B m d ys 0 w.heap.size h1_ (h.below BB (Nat.le_refl _)) (g.below BB (Nat.le_refl _)) BB.size hs1 hs2).mono ?_
    rintro e th ⟨TAh, tch, TBh, tdh, midh, rfl, oAh, oBh, hah, hbh, bth⟩
    have yth := bth.size
    replace jb := jb.below bth
    replace jw := jw.below bth
    replace jx := jx.below bth
    replace jg := jg.below bth
    replace BB := BB.trans (bth.mono BB.size)
    clear bth
    go_wp2_with fail
    refine (impl_Conj_bad s TAh n tch xs TBh m tdh ys 0 th.heap.size th (oAh.ints.wide (Nat.zero_le _) (by omega)) (oBh.ints.wide (Nat.zero_le _) (by omega)) (Nat.le_refl _) (by omega) hbad).mono ?_
    rintro e ui ⟨rfl, bii⟩
    have yii := bii.size
    replace jb := jb.below bii
    replace jw := jw.below bii
    replace jx := jx.below bii
    replace jg := jg.below bii
    replace oAh := oAh.below bii (by omega)
    replace oBh := oBh.below bii (by omega)
    replace BB := BB.trans (bii.mono BB.size)
    clear bii
    clear oAh oBh
    have ai := below_alloc ui (.cells #[.int .i64 0, .slice none 0 0, .slice none 0 0, .int .i64 0, .slice none 0 0, .slice none 0 0] 31)
    have ji := BlkN.new ui #[.int .i64 0, .slice none 0 0, .slice none 0 0, .int .i64 0, .slice none 0 0, .slice none 0 0] 31
    have yii := ai.size
    replace jb := jb.below ai
    replace jw := jw.below ai
    replace jx := jx.below ai
    replace jg := jg.below ai
    replace BB := BB.trans (ai.mono BB.size)
    clear ai
    have f_ji0 := ji.c 0 rfl
    have f_ji1 := ji.c 1 rfl
    have f_ji2 := ji.c 2 rfl
    have f_ji3 := ji.c 3 rfl
    have f_ji4 := ji.c 4 rfl
    have f_ji5 := ji.c 5 rfl
    have f_jw0 := jw.c 0 rfl
    have f_jw1 := jw.c 1 rfl
    have f_jw2 := jw.c 2 rfl
    have f_jw3 := jw.c 3 rfl
    have f_jw4 := jw.c 4 rfl
    have f_jw5 := jw.c 5 rfl
    go_wp2_with fail
    clear f_ji0 f_ji1 f_ji2 f_ji3 f_ji4 f_ji5 f_jw0 f_jw1 f_jw2 f_jw3 f_jw4 f_jw5
    generalize (ui.alloc (.cells #[.int .i64 0, .slice none 0 0, .slice none 0 0, .int .i64 0, .slice none 0 0, .slice none 0 0] 31)) = v4 at BB jb jw jx jg ji yii ⊢
    refine (laws_eqPair 0 none 0 0 [] none 0 0 [] 0 none 0 0 [] none 0 0 [] 0 v4.heap.size 0 none 0 0 [] none 0 0 [] 0 none 0 0 [] none 0 0 [] 0 v4.heap.size v4 (Ints.nil_ _ _ _) (Ints.nil_ _ _ _) (Ints.nil_ _ _ _) (Ints.nil_ _ _ _) (Ints.nil_ _ _ _) (Ints.nil_ _ _ _) (Ints.nil_ _ _ _) (Ints.nil_ _ _ _) (Nat.le_refl _) (Nat.le_refl _)).mono ?_
    rintro e zk_ ⟨rfl, bk_⟩
    rw [pairEq_refl]
    have yk_ := bk_.size
    replace jb := jb.below bk_
    replace jw := jw.below bk_
    replace jx := jx.below bk_
    replace jg := jg.below bk_
    replace ji := ji.below bk_
    replace BB := BB.trans (bk_.mono BB.size)
    clear bk_
    have f_jg0 := jg.c 0 rfl
    have f_jg1 := jg.c 1 rfl
    have f_jg2 := jg.c 2 rfl
    have f_jg3 := jg.c 3 rfl
    have f_jg4 := jg.c 4 rfl
    have f_jg5 := jg.c 5 rfl
    go_wp2_with fail
    clear f_jg0 f_jg1 f_jg2 f_jg3 f_jg4 f_jg5
    refine (laws_heldPair 0 none 0 0 none 0 0 0 none 0 0 none 0 0 0 zk_.heap.size 1 zk_ (Ints.nil_ _ _ _) (Ints.nil_ _ _ _) (Ints.nil_ _ _ _) (Ints.nil_ _ _ _) (Nat.le_refl _) (by omega) (by omega)).mono ?_
    rintro e h2_ ⟨rfl, b2_⟩
    have y2_ := b2_.size
    replace jb := jb.below b2_
    replace jw := jw.below b2_
    replace jx := jx.below b2_
    replace jg := jg.below b2_
    replace ji := ji.below b2_
    replace BB := BB.trans (b2_.mono BB.size)
    clear b2_
    go_wp2_with fail
    go_ret
    exact ⟨rfl, BB⟩
set_option maxRecDepth 100000 in
set_option maxHeartbeats 8000000 in
theorem walk_ok (k : Nat) (A : Option Addr) (n c : Nat) (xs : List Int) (B : Option Addr) (d : Nat) (ys : List Int) (w : World) (h : Ints w 0 w.heap.size A n c xs) (g : Ints w 0 w.heap.size B k d ys) (hs1 : n ≤ 1048576) (hs2 : k ≤ 1048576) (hsum : (n : Int) + k ≤ 1048576) (hk : k ≤ 8) (hn : n = k * k) (ht : tabOkF k xs ys = true) (hz : ¬ (0 : Int) ∈ ys) :
    Calls Try.prog 7 #[.agg #[.int .i64 (k : Int), .slice A n c, .slice B k d]] w fun e w' => e = .returned (.bool true) ∧ Below w.heap.size w w' := by
  have hcp1 := h.cap
  have hmx1 := h.max
  have hcp2 := g.cap
  have hmx2 := g.max
  have a1 := below_alloc w (.cells #[.int .i64 (k : Int), .slice A n c, .slice B k d] 24)
  have j1 := BlkN.new w #[.int .i64 (k : Int), .slice A n c, .slice B k d] 24
  have hsz : sz2F n k 1048576 = 1048576 - n - k := sz2F_ok (by omega)
  have hnH := hide hn
  have htH := hide ht
  have hzH := hide hz
  clear hn ht hz
  go_enter Try.func7, Try.ntmps7
  go_wp2_with fail
  generalize World.alloc w (.cells #[.int .i64 (k : Int), .slice A n c, .slice B k d] 24) = W at a1 j1 ⊢
  have jb := j1
  have BB := a1
  clear j1 a1
  have z0 := BB.size
  have gb_ := jb.lt
  refine (laws_szTableau (k : Int) A n c B k d 1048576 W (by omega) (by omega) (by omega) (by omega)).mono ?_
  rintro e u1 ⟨rfl, b1⟩
  rw [hsz]
  have y1 := b1.size
  replace jb := jb.below b1
  replace BB := BB.trans (b1.mono BB.size)
  clear b1
  have f_jb0 := jb.c 0 rfl
  have f_jb1 := jb.c 1 rfl
  have f_jb2 := jb.c 2 rfl
  go_wp2_with fail
  clear f_jb0 f_jb1 f_jb2
  refine (laws_toTableau (k : Int) A n c xs B k d ys 0 w.heap.size u1 (h.below BB (Nat.le_refl _)) (g.below BB (Nat.le_refl _)) BB.size hs1 hs2).mono ?_
  rintro e ta ⟨TAa, tca, TBa, tda, mida, rfl, oAa, oBa, haa, hba, bta⟩
  have yta := bta.size
  replace jb := jb.below bta
  replace BB := BB.trans (bta.mono BB.size)
  clear bta
  go_wp2_with fail
  refine (spec_Conj_ok k TAa n tca xs TBa tda ys ta.heap.size ta (oAa.ints.wide (Nat.zero_le _) hba) (oBa.ints.wide (Nat.zero_le _) (Nat.le_refl _)) (Nat.le_refl _) hk hnH.out htH.out hzH.out (OwnI.noneI oBa)).mono ?_
  rintro e us ⟨P1, e1, P2, e2, P3, e3, P4, e4, rfl, w1, w2, w3, w4, bs⟩
  have ys_ := bs.size
  replace jb := jb.below bs
  replace BB := BB.trans (bs.mono BB.size)
  clear oAa oBa bs
  have av := below_alloc us (.cells #[.int .i64 (k : Int), .slice P1 n e1, .slice P2 k e2, .int .i64 (k : Int), .slice P3 n e3, .slice P4 k e4] 31)
  have jw := BlkN.new us #[.int .i64 (k : Int), .slice P1 n e1, .slice P2 k e2, .int .i64 (k : Int), .slice P3 n e3, .slice P4 k e4] 31
  have yv := av.size
  obtain ⟨p0, hp0⟩ : ∃ p0, p0 = ta.heap.size := ⟨_, rfl⟩
  obtain ⟨p1, hp1⟩ : ∃ p1, p1 = us.heap.size := ⟨_, rfl⟩
  have hpp : p0 ≤ p1 := by omega
  have hp0z : w.heap.size ≤ p0 := by omega
  have hp0b : w.heap.size < p0 := by have := gb_; omega
  rw [← hp0, ← hp1] at w1
  rw [← hp0, ← hp1] at w2
  rw [← hp0, ← hp1] at w3
  rw [← hp0, ← hp1] at w4
  have hp1v : p1 ≤ us.heap.size := by omega
  replace jb := jb.below av
  replace w1 := w1.below av (by omega)
  replace w2 := w2.below av (by omega)
  replace w3 := w3.below av (by omega)
  replace w4 := w4.below av (by omega)
  replace BB := BB.trans (av.mono BB.size)
  have hjw := jw.lt
  have husz : p1 < (us.alloc (.cells #[.int .i64 (k : Int), .slice P1 n e1, .slice P2 k e2, .int .i64 (k : Int), .slice P3 n e3, .slice P4 k e4] 31)).heap.size := by rw [hp1]; simp
  clear hp0 hp1 av
  have f_jb0 := jb.c 0 rfl
  have f_jb1 := jb.c 1 rfl
  have f_jb2 := jb.c 2 rfl
  go_wp2_with fail
  clear f_jb0 f_jb1 f_jb2
  generalize (us.alloc (.cells #[.int .i64 (k : Int), .slice P1 n e1, .slice P2 k e2, .int .i64 (k : Int), .slice P3 n e3, .slice P4 k e4] 31)) = v1 at BB jb jw w1 w2 w3 w4 hjw yv husz ⊢
  clear ys_ yv hp1v
  refine (laws_toTableau (k : Int) A n c xs B k d ys 0 w.heap.size v1 (h.below BB (Nat.le_refl _)) (g.below BB (Nat.le_refl _)) BB.size hs1 hs2).mono ?_
  rintro e tx ⟨TAx, tcx, TBx, tdx, midx, rfl, oAx, oBx, hax, hbx, btx⟩
  have ytx := btx.size
  replace jb := jb.below btx
  replace jw := jw.below btx
  replace w1 := w1.below btx (by omega)
  replace w2 := w2.below btx (by omega)
  replace w3 := w3.below btx (by omega)
  replace w4 := w4.below btx (by omega)
  replace BB := BB.trans (btx.mono BB.size)
  clear btx
  have ax := below_alloc tx (.cells #[.int .i64 (k : Int), .slice TAx n tcx, .slice TBx k tdx] 29)
  have jx := BlkN.new tx #[.int .i64 (k : Int), .slice TAx n tcx, .slice TBx k tdx] 29
  have yx := ax.size
  obtain ⟨xlo, hxlo⟩ : ∃ xlo, xlo = v1.heap.size := ⟨_, rfl⟩
  obtain ⟨xhi, hxhi⟩ : ∃ xhi, xhi = tx.heap.size := ⟨_, rfl⟩
  rw [← hxlo] at oAx hax
  rw [← hxhi] at oBx hbx
  have hxlob : p1 < xlo := by omega
  have hwx : us.heap.size < xlo := by omega
  have hxhie : xhi ≤ tx.heap.size := by omega
  replace jb := jb.below ax
  replace jw := jw.below ax
  replace w1 := w1.below ax (by omega)
  replace w2 := w2.below ax (by omega)
  replace w3 := w3.below ax (by omega)
  replace w4 := w4.below ax (by omega)
  replace oAx := oAx.below ax (by omega)
  replace oBx := oBx.below ax (by omega)
  replace BB := BB.trans (ax.mono BB.size)
  have hjx := jx.lt
  clear hxlo hxhi ax
  have f_jx0 := jx.c 0 rfl
  have f_jx1 := jx.c 1 rfl
  have f_jx2 := jx.c 2 rfl
  go_wp2_with fail
  clear f_jx0 f_jx1 f_jx2
  generalize (tx.alloc (.cells #[.int .i64 (k : Int), .slice TAx n tcx, .slice TBx k tdx] 29)) = v2 at BB jb jw jx w1 w2 w3 w4 oAx oBx hjx yx ⊢
  refine (impl_Conj_ok k TAx n tcx xs TBx tdx ys 0 v2.heap.size v2 (oAx.ints.wide (Nat.zero_le _) (by omega)) (oBx.ints.wide (Nat.zero_le _) (by omega)) (Nat.le_refl _) hk hnH.out htH.out hzH.out).mono ?_
  rintro e ug ⟨gAg, gBg, gCg, gDg, rfl, hdg, hlg, q1g, q2g, q3g, q4g, big⟩
  rw [← hnH.out] at q1g q3g ⊢
  have yig := big.size
  replace jb := jb.below big
  replace jw := jw.below big
  replace jx := jx.below big
  replace w1 := w1.below big (by omega)
  replace w2 := w2.below big (by omega)
  replace w3 := w3.below big (by omega)
  replace w4 := w4.below big (by omega)
  replace oAx := oAx.below big (by omega)
  replace oBx := oBx.below big (by omega)
  replace BB := BB.trans (big.mono BB.size)
  clear big
  have ag := below_alloc ug (.cells #[.int .i64 (k : Int), .slice (some ⟨gAg, 0, none⟩) n n, .slice (some ⟨gBg, 0, none⟩) k k, .int .i64 (k : Int), .slice (some ⟨gCg, 0, none⟩) n n, .slice (some ⟨gDg, 0, none⟩) k k] 31)
  have jg := BlkN.new ug #[.int .i64 (k : Int), .slice (some ⟨gAg, 0, none⟩) n n, .slice (some ⟨gBg, 0, none⟩) k k, .int .i64 (k : Int), .slice (some ⟨gCg, 0, none⟩) n n, .slice (some ⟨gDg, 0, none⟩) k k] 31
  have yg := ag.size
  replace jb := jb.below ag
  replace jw := jw.below ag
  replace jx := jx.below ag
  replace w1 := w1.below ag (by omega)
  replace w2 := w2.below ag (by omega)
  replace w3 := w3.below ag (by omega)
  replace w4 := w4.below ag (by omega)
  replace oAx := oAx.below ag (by omega)
  replace oBx := oBx.below ag (by omega)
  replace q1g := q1g.below ag (by omega)
  replace q2g := q2g.below ag (by omega)
  replace q3g := q3g.below ag (by omega)
  replace q4g := q4g.below ag (by omega)
  replace BB := BB.trans (ag.mono BB.size)
  have hjg := jg.lt
  clear ag
  have f_jg0 := jg.c 0 rfl
  have f_jg1 := jg.c 1 rfl
  have f_jg2 := jg.c 2 rfl
  have f_jg3 := jg.c 3 rfl
  have f_jg4 := jg.c 4 rfl
  have f_jg5 := jg.c 5 rfl
  have f_jw0 := jw.c 0 rfl
  have f_jw1 := jw.c 1 rfl
  have f_jw2 := jw.c 2 rfl
  have f_jw3 := jw.c 3 rfl
  have f_jw4 := jw.c 4 rfl
  have f_jw5 := jw.c 5 rfl
  go_wp2_with fail
  clear f_jg0 f_jg1 f_jg2 f_jg3 f_jg4 f_jg5 f_jw0 f_jw1 f_jw2 f_jw3 f_jw4 f_jw5
  generalize (ug.alloc (.cells #[.int .i64 (k : Int), .slice (some ⟨gAg, 0, none⟩) n n, .slice (some ⟨gBg, 0, none⟩) k k, .int .i64 (k : Int), .slice (some ⟨gCg, 0, none⟩) n n, .slice (some ⟨gDg, 0, none⟩) k k] 31)) = v3 at BB jb jw jx jg w1 w2 w3 w4 oAx oBx q1g q2g q3g q4g hjg yg ⊢
  refine (laws_eqPair k (some ⟨gAg, 0, none⟩) n n xs (some ⟨gBg, 0, none⟩) k k ys k (some ⟨gCg, 0, none⟩) n n (conjL k xs ys) (some ⟨gDg, 0, none⟩) k k ys 0 v3.heap.size k P1 n e1 xs P2 k e2 ys k P3 n e3 (conjL k xs ys) P4 k e4 ys 0 v3.heap.size v3 (q1g.ints.wide (Nat.zero_le _) (by omega)) (q2g.ints.wide (Nat.zero_le _) (by omega)) (q3g.ints.wide (Nat.zero_le _) (by omega)) (q4g.ints.wide (Nat.zero_le _) (by omega)) (w1.ints.wide (Nat.zero_le _) (by omega)) (w2.ints.wide (Nat.zero_le _) (by omega)) (w3.ints.wide (Nat.zero_le _) (by omega)) (w4.ints.wide (Nat.zero_le _) (by omega)) (Nat.le_refl _) (Nat.le_refl _)).mono ?_
  rintro e ze ⟨rfl, be⟩
  rw [pairEq_refl]
  have ye := be.size
  replace jb := jb.below be
  replace jw := jw.below be
  replace jx := jx.below be
  replace jg := jg.below be
  replace w1 := w1.below be (by omega)
  replace w2 := w2.below be (by omega)
  replace w3 := w3.below be (by omega)
  replace w4 := w4.below be (by omega)
  replace oAx := oAx.below be (by omega)
  replace oBx := oBx.below be (by omega)
  replace q1g := q1g.below be (by omega)
  replace q2g := q2g.below be (by omega)
  replace q3g := q3g.below be (by omega)
  replace q4g := q4g.below be (by omega)
  replace BB := BB.trans (be.mono BB.size)
  clear be
  go_wp2_with fail
  go_cut [45] (fun s45 wx => s45 = .bool false ∧ Below ze.heap.size ze wx)
  case first =>
    have hS0 : Below ze.heap.size ze ze.drew := (Below.refl _ _).drew
    refine wp_region_Z (fun w' => Below ze.heap.size ze w') 4 (by kernel_rfl) ?_
    refine wpAnyZ_two 0 1 (by kernel_rfl) rfl rfl (by rfl) (by rfl) (fun K hK => ?_) (fun K hK => ?_)
    ·
      have qe0_0 := (jx.below hS0).c 0 rfl
      have qe0_1 := (jx.below hS0).c 1 rfl
      have qe0_2 := (jx.below hS0).c 2 rfl
      go_simp
      refine hK.out _ _ hS0 ?_
      clear hK K qe0_0 qe0_1 qe0_2
      try simp only [Act.put, List.setIfInBounds_toArray, List.set_cons_zero, List.set_cons_succ]
      refine wpAnyZ_one 1 (by kernel_rfl) rfl (by rfl) (fun K hK => ?_)
      have qe1_0 := (jb.below hS0).c 0 rfl
      have qe1_1 := (jb.below hS0).c 1 rfl
      have qe1_2 := (jb.below hS0).c 2 rfl
      go_simp
      refine hK.out _ _ hS0 ?_
      clear hK K qe1_0 qe1_1 qe1_2
      try simp only [Act.put, List.setIfInBounds_toArray, List.set_cons_zero, List.set_cons_succ]
      refine wpAnyZ_one 2 (by kernel_rfl) rfl (by rfl) (fun K hK => ?_)
      go_simp
      refine (laws_toTableau (k : Int) A n c xs B k d ys 0 w.heap.size ze.drew (h.below (BB.trans (hS0.mono BB.size)) (Nat.le_refl _)) (g.below (BB.trans (hS0.mono BB.size)) (Nat.le_refl _)) (Nat.le_trans BB.size hS0.size) hs1 hs2).mono ?_
      rintro e x1 ⟨TAy, tcy, TBy, tdy, midy, rfl, oAy, oBy, hay, hby, bx1⟩
      have hS1 := hS0.trans (bx1.mono hS0.size)
      go_wp2_with fail
      refine hK.out _ _ hS1 ?_
      clear hK K
      try simp only [Act.put, List.setIfInBounds_toArray, List.set_cons_zero, List.set_cons_succ]
      refine wpAnyZ_one 3 (by kernel_rfl) rfl (by rfl) (fun K hK => ?_)
      go_simp
      refine (laws_eqTableau (k : Int) TAx n tcx xs TBx k tdx ys 0 x1.heap.size (k : Int) TAy n tcy xs TBy k tdy ys 0 x1.heap.size x1 ((oAx.below hS1 (by omega)).ints.wide (Nat.zero_le _) (by have := hS1.size; omega)) ((oBx.below hS1 (by omega)).ints.wide (Nat.zero_le _) (by have := hS1.size; omega)) (oAy.ints.wide (Nat.zero_le _) hby) (oBy.ints.wide (Nat.zero_le _) (Nat.le_refl _)) (Nat.le_refl _) (Nat.le_refl _)).mono ?_
      rintro e x2 ⟨rfl, bx2⟩
      rw [tabEq_refl]
      have hS2 := hS1.trans (bx2.mono hS1.size)
      go_wp2_with fail
      refine hK.out _ _ hS2 ?_
      clear hK K
      try simp only [Act.put, List.setIfInBounds_toArray, List.set_cons_zero, List.set_cons_succ]
      have bz := hS2
      skip
      refine wpAnyZ_last (by kernel_rfl) rfl (by kernel_rfl) (by rfl) (fun K hK => ?_)
      go_simp
      refine hK _ _ ?_
      clear hK K
      go_wp2_with fail
      go_meet
      exact ⟨rfl, bz⟩
    ·
      have qe1_0 := (jb.below hS0).c 0 rfl
      have qe1_1 := (jb.below hS0).c 1 rfl
      have qe1_2 := (jb.below hS0).c 2 rfl
      go_simp
      refine hK.out _ _ hS0 ?_
      clear hK K qe1_0 qe1_1 qe1_2
      try simp only [Act.put, List.setIfInBounds_toArray, List.set_cons_zero, List.set_cons_succ]
      refine wpAnyZ_two 0 2 (by kernel_rfl) rfl rfl (by rfl) (by rfl) (fun K hK => ?_) (fun K hK => ?_)
      ·
        have qe0_0 := (jx.below hS0).c 0 rfl
        have qe0_1 := (jx.below hS0).c 1 rfl
        have qe0_2 := (jx.below hS0).c 2 rfl
        go_simp
        refine hK.out _ _ hS0 ?_
        clear hK K qe0_0 qe0_1 qe0_2
        try simp only [Act.put, List.setIfInBounds_toArray, List.set_cons_zero, List.set_cons_succ]
        refine wpAnyZ_one 2 (by kernel_rfl) rfl (by rfl) (fun K hK => ?_)
        go_simp
        refine (laws_toTableau (k : Int) A n c xs B k d ys 0 w.heap.size ze.drew (h.below (BB.trans (hS0.mono BB.size)) (Nat.le_refl _)) (g.below (BB.trans (hS0.mono BB.size)) (Nat.le_refl _)) (Nat.le_trans BB.size hS0.size) hs1 hs2).mono ?_
        rintro e x1 ⟨TAy, tcy, TBy, tdy, midy, rfl, oAy, oBy, hay, hby, bx1⟩
        have hS1 := hS0.trans (bx1.mono hS0.size)
        go_wp2_with fail
        refine hK.out _ _ hS1 ?_
        clear hK K
        try simp only [Act.put, List.setIfInBounds_toArray, List.set_cons_zero, List.set_cons_succ]
        refine wpAnyZ_one 3 (by kernel_rfl) rfl (by rfl) (fun K hK => ?_)
        go_simp
        refine (laws_eqTableau (k : Int) TAx n tcx xs TBx k tdx ys 0 x1.heap.size (k : Int) TAy n tcy xs TBy k tdy ys 0 x1.heap.size x1 ((oAx.below hS1 (by omega)).ints.wide (Nat.zero_le _) (by have := hS1.size; omega)) ((oBx.below hS1 (by omega)).ints.wide (Nat.zero_le _) (by have := hS1.size; omega)) (oAy.ints.wide (Nat.zero_le _) hby) (oBy.ints.wide (Nat.zero_le _) (Nat.le_refl _)) (Nat.le_refl _) (Nat.le_refl _)).mono ?_
        rintro e x2 ⟨rfl, bx2⟩
        rw [tabEq_refl]
        have hS2 := hS1.trans (bx2.mono hS1.size)
        go_wp2_with fail
        refine hK.out _ _ hS2 ?_
        clear hK K
        try simp only [Act.put, List.setIfInBounds_toArray, List.set_cons_zero, List.set_cons_succ]
        have bz := hS2
        skip
        refine wpAnyZ_last (by kernel_rfl) rfl (by kernel_rfl) (by rfl) (fun K hK => ?_)
        go_simp
        refine hK _ _ ?_
        clear hK K
        go_wp2_with fail
        go_meet
        exact ⟨rfl, bz⟩
      ·
        go_simp
        refine (laws_toTableau (k : Int) A n c xs B k d ys 0 w.heap.size ze.drew (h.below (BB.trans (hS0.mono BB.size)) (Nat.le_refl _)) (g.below (BB.trans (hS0.mono BB.size)) (Nat.le_refl _)) (Nat.le_trans BB.size hS0.size) hs1 hs2).mono ?_
        rintro e x1 ⟨TAy, tcy, TBy, tdy, midy, rfl, oAy, oBy, hay, hby, bx1⟩
        have hS1 := hS0.trans (bx1.mono hS0.size)
        go_wp2_with fail
        refine hK.out _ _ hS1 ?_
        clear hK K
        try simp only [Act.put, List.setIfInBounds_toArray, List.set_cons_zero, List.set_cons_succ]
        refine wpAnyZ_one 0 (by kernel_rfl) rfl (by rfl) (fun K hK => ?_)
        have qe0_0 := (jx.below hS1).c 0 rfl
        have qe0_1 := (jx.below hS1).c 1 rfl
        have qe0_2 := (jx.below hS1).c 2 rfl
        go_simp
        refine hK.out _ _ hS1 ?_
        clear hK K qe0_0 qe0_1 qe0_2
        try simp only [Act.put, List.setIfInBounds_toArray, List.set_cons_zero, List.set_cons_succ]
        refine wpAnyZ_one 3 (by kernel_rfl) rfl (by rfl) (fun K hK => ?_)
        go_simp
        refine (laws_eqTableau (k : Int) TAx n tcx xs TBx k tdx ys 0 x1.heap.size (k : Int) TAy n tcy xs TBy k tdy ys 0 x1.heap.size x1 ((oAx.below hS1 (by omega)).ints.wide (Nat.zero_le _) (by have := hS1.size; omega)) ((oBx.below hS1 (by omega)).ints.wide (Nat.zero_le _) (by have := hS1.size; omega)) (oAy.ints.wide (Nat.zero_le _) hby) (oBy.ints.wide (Nat.zero_le _) (Nat.le_refl _)) (Nat.le_refl _) (Nat.le_refl _)).mono ?_
        rintro e x2 ⟨rfl, bx2⟩
        rw [tabEq_refl]
        have hS2 := hS1.trans (bx2.mono hS1.size)
        go_wp2_with fail
        refine hK.out _ _ hS2 ?_
        clear hK K
        try simp only [Act.put, List.setIfInBounds_toArray, List.set_cons_zero, List.set_cons_succ]
        have bz := hS2
        skip
        refine wpAnyZ_last (by kernel_rfl) rfl (by kernel_rfl) (by rfl) (fun K hK => ?_)
        go_simp
        refine hK _ _ ?_
        clear hK K
        go_wp2_with fail
        go_meet
        exact ⟨rfl, bz⟩
  case rest =>
    obtain ⟨rfl, bz⟩ := hcut
    obtain ⟨X2, rfl⟩ : ∃ W : World, W = wc := ⟨_, rfl⟩
    have yz := bz.size
    replace jb := jb.below bz
    replace jw := jw.below bz
    replace jx := jx.below bz
    replace jg := jg.below bz
    replace w1 := w1.below bz (by omega)
    replace w2 := w2.below bz (by omega)
    replace w3 := w3.below bz (by omega)
    replace w4 := w4.below bz (by omega)
    replace oAx := oAx.below bz (by omega)
    replace oBx := oBx.below bz (by omega)
    replace q1g := q1g.below bz (by omega)
    replace q2g := q2g.below bz (by omega)
    replace q3g := q3g.below bz (by omega)
    replace q4g := q4g.below bz (by omega)
    replace BB := BB.trans (bz.mono BB.size)
    clear bz
    have f_jx0 := jx.c 0 rfl
    have f_jx1 := jx.c 1 rfl
    have f_jx2 := jx.c 2 rfl
    go_wp2_with fail
    clear f_jx0 f_jx1 f_jx2
    refine (laws_markTableau (k : Int) TAx n tcx xs TBx k tdx ys xlo midx midx xhi xlo xhi 1 X2 oAx oBx (.inl (Nat.le_refl _)) (by omega) (by omega) (by omega) (by omega)).mono ?_
    rintro e z1 ⟨rfl, nA, nB, tm, _⟩
    have ym := tm.size
    clear oAx oBx
    replace jb := jb.touch tm (by omega)
    replace jw := jw.touch tm (by omega)
    replace jx := jx.touch tm (by omega)
    replace jg := jg.touch tm (by omega)
    replace w1 := w1.same (tm.same (by omega) (by omega))
    replace w2 := w2.same (tm.same (by omega) (by omega))
    replace w3 := w3.same (tm.same (by omega) (by omega))
    replace w4 := w4.same (tm.same (by omega) (by omega))
    replace q1g := q1g.same (tm.same (by omega) (by omega))
    replace q2g := q2g.same (tm.same (by omega) (by omega))
    replace q3g := q3g.same (tm.same (by omega) (by omega))
    replace q4g := q4g.same (tm.same (by omega) (by omega))
    replace BB := BB.trans (tm.below (B := w.heap.size) (by omega) BB.size)
    clear tm nA nB
    have f_jg0 := jg.c 0 rfl
    have f_jg1 := jg.c 1 rfl
    have f_jg2 := jg.c 2 rfl
    have f_jg3 := jg.c 3 rfl
    have f_jg4 := jg.c 4 rfl
    have f_jg5 := jg.c 5 rfl
    have f_jw0 := jw.c 0 rfl
    have f_jw1 := jw.c 1 rfl
    have f_jw2 := jw.c 2 rfl
    have f_jw3 := jw.c 3 rfl
    have f_jw4 := jw.c 4 rfl
    have f_jw5 := jw.c 5 rfl
    go_wp2_with fail
    clear f_jg0 f_jg1 f_jg2 f_jg3 f_jg4 f_jg5 f_jw0 f_jw1 f_jw2 f_jw3 f_jw4 f_jw5
    refine (laws_eqPair k (some ⟨gAg, 0, none⟩) n n xs (some ⟨gBg, 0, none⟩) k k ys k (some ⟨gCg, 0, none⟩) n n (conjL k xs ys) (some ⟨gDg, 0, none⟩) k k ys 0 z1.heap.size k P1 n e1 xs P2 k e2 ys k P3 n e3 (conjL k xs ys) P4 k e4 ys 0 z1.heap.size z1 (q1g.ints.wide (Nat.zero_le _) (by omega)) (q2g.ints.wide (Nat.zero_le _) (by omega)) (q3g.ints.wide (Nat.zero_le _) (by omega)) (q4g.ints.wide (Nat.zero_le _) (by omega)) (w1.ints.wide (Nat.zero_le _) (by omega)) (w2.ints.wide (Nat.zero_le _) (by omega)) (w3.ints.wide (Nat.zero_le _) (by omega)) (w4.ints.wide (Nat.zero_le _) (by omega)) (Nat.le_refl _) (Nat.le_refl _)).mono ?_
    rintro e zf ⟨rfl, bf⟩
    rw [pairEq_refl]
    have yf := bf.size
    replace jb := jb.below bf
    replace jw := jw.below bf
    replace jx := jx.below bf
    replace jg := jg.below bf
    replace w1 := w1.below bf (by omega)
    replace w2 := w2.below bf (by omega)
    replace w3 := w3.below bf (by omega)
    replace w4 := w4.below bf (by omega)
    replace q1g := q1g.below bf (by omega)
    replace q2g := q2g.below bf (by omega)
    replace q3g := q3g.below bf (by omega)
    replace q4g := q4g.below bf (by omega)
    replace BB := BB.trans (bf.mono BB.size)
    clear bf
    have f_jg0 := jg.c 0 rfl
    have f_jg1 := jg.c 1 rfl
    have f_jg2 := jg.c 2 rfl
    have f_jg3 := jg.c 3 rfl
    have f_jg4 := jg.c 4 rfl
    have f_jg5 := jg.c 5 rfl
    go_wp2_with fail
    clear f_jg0 f_jg1 f_jg2 f_jg3 f_jg4 f_jg5
    refine (laws_markPair k (some ⟨gAg, 0, none⟩) n n xs (some ⟨gBg, 0, none⟩) k k ys k (some ⟨gCg, 0, none⟩) n n (conjL k xs ys) (some ⟨gDg, 0, none⟩) k k ys gAg gBg gCg gDg v2.heap.size ug.heap.size 1 zf q1g q2g q3g q4g hdg (by omega) (by omega) (by omega) (by omega)).mono ?_
    rintro e z2 ⟨rfl, r1, r2, r3, r4, tm⟩
    have yn := tm.size
    clear q1g q2g q3g q4g
    replace jb := jb.touch tm (by omega)
    replace jw := jw.touch tm (by omega)
    replace jx := jx.touch tm (by omega)
    replace jg := jg.touch tm (by omega)
    replace w1 := w1.same (tm.same (by omega) (by omega))
    replace w2 := w2.same (tm.same (by omega) (by omega))
    replace w3 := w3.same (tm.same (by omega) (by omega))
    replace w4 := w4.same (tm.same (by omega) (by omega))
    replace BB := BB.trans (tm.below (B := w.heap.size) (by omega) BB.size)
    clear tm
    have f_jg0 := jg.c 0 rfl
    have f_jg1 := jg.c 1 rfl
    have f_jg2 := jg.c 2 rfl
    have f_jg3 := jg.c 3 rfl
    have f_jg4 := jg.c 4 rfl
    have f_jg5 := jg.c 5 rfl
    go_wp2_with fail
    clear f_jg0 f_jg1 f_jg2 f_jg3 f_jg4 f_jg5
    refine (laws_heldPair k (some ⟨gAg, 0, none⟩) n n (some ⟨gBg, 0, none⟩) k k k (some ⟨gCg, 0, none⟩) n n (some ⟨gDg, 0, none⟩) k k 0 z2.heap.size 1 z2 (r1.ints.wide (Nat.zero_le _) (by omega)) (r2.ints.wide (Nat.zero_le _) (by omega)) (r3.ints.wide (Nat.zero_le _) (by omega)) (r4.ints.wide (Nat.zero_le _) (by omega)) (Nat.le_refl _) (by omega) (by omega)).mono ?_
    rintro e h1_ ⟨rfl, b1_⟩
    have y1_ := b1_.size
    replace jb := jb.below b1_
    replace jw := jw.below b1_
    replace jx := jx.below b1_
    replace jg := jg.below b1_
    replace w1 := w1.below b1_ (by omega)
    replace w2 := w2.below b1_ (by omega)
    replace w3 := w3.below b1_ (by omega)
    replace w4 := w4.below b1_ (by omega)
    replace r1 := r1.below b1_ (by omega)
    replace r2 := r2.below b1_ (by omega)
    replace r3 := r3.below b1_ (by omega)
    replace r4 := r4.below b1_ (by omega)
    replace BB := BB.trans (b1_.mono BB.size)
    clear b1_
    have f_jb0 := jb.c 0 rfl
    have f_jb1 := jb.c 1 rfl
    have f_jb2 := jb.c 2 rfl
    go_wp2_with fail
    clear f_jb0 f_jb1 f_jb2
    refine (laws_toTableau (k : Int) A n c xs B k d ys 0 w.heap.size h1_ (h.below BB (Nat.le_refl _)) (g.below BB (Nat.le_refl _)) BB.size hs1 hs2).mono ?_
    rintro e th ⟨TAh, tch, TBh, tdh, midh, rfl, oAh, oBh, hah, hbh, bth⟩
    have yth := bth.size
    replace jb := jb.below bth
    replace jw := jw.below bth
    replace jx := jx.below bth
    replace jg := jg.below bth
    replace w1 := w1.below bth (by omega)
    replace w2 := w2.below bth (by omega)
    replace w3 := w3.below bth (by omega)
    replace w4 := w4.below bth (by omega)
    replace r1 := r1.below bth (by omega)
    replace r2 := r2.below bth (by omega)
    replace r3 := r3.below bth (by omega)
    replace r4 := r4.below bth (by omega)
    replace BB := BB.trans (bth.mono BB.size)
    clear bth
    go_wp2_with fail
    refine (impl_Conj_ok k TAh n tch xs TBh tdh ys 0 th.heap.size th (oAh.ints.wide (Nat.zero_le _) (by omega)) (oBh.ints.wide (Nat.zero_le _) (by omega)) (Nat.le_refl _) hk hnH.out htH.out hzH.out).mono ?_
    rintro e ui ⟨gAi, gBi, gCi, gDi, rfl, hdi, hli, q1i, q2i, q3i, q4i, bii⟩
    rw [← hnH.out] at q1i q3i ⊢
    have yii := bii.size
    replace jb := jb.below bii
    replace jw := jw.below bii
    replace jx := jx.below bii
    replace jg := jg.below bii
    replace w1 := w1.below bii (by omega)
    replace w2 := w2.below bii (by omega)
    replace w3 := w3.below bii (by omega)
    replace w4 := w4.below bii (by omega)
    replace r1 := r1.below bii (by omega)
    replace r2 := r2.below bii (by omega)
    replace r3 := r3.below bii (by omega)
    replace r4 := r4.below bii (by omega)
    replace oAh := oAh.below bii (by omega)
    replace oBh := oBh.below bii (by omega)
    replace BB := BB.trans (bii.mono BB.size)
    clear bii
    clear oAh oBh
    have ai := below_alloc ui (.cells #[.int .i64 (k : Int), .slice (some ⟨gAi, 0, none⟩) n n, .slice (some ⟨gBi, 0, none⟩) k k, .int .i64 (k : Int), .slice (some ⟨gCi, 0, none⟩) n n, .slice (some ⟨gDi, 0, none⟩) k k] 31)
    have ji := BlkN.new ui #[.int .i64 (k : Int), .slice (some ⟨gAi, 0, none⟩) n n, .slice (some ⟨gBi, 0, none⟩) k k, .int .i64 (k : Int), .slice (some ⟨gCi, 0, none⟩) n n, .slice (some ⟨gDi, 0, none⟩) k k] 31
    have yii := ai.size
    replace jb := jb.below ai
    replace jw := jw.below ai
    replace jx := jx.below ai
    replace jg := jg.below ai
    replace w1 := w1.below ai (by omega)
    replace w2 := w2.below ai (by omega)
    replace w3 := w3.below ai (by omega)
    replace w4 := w4.below ai (by omega)
    replace r1 := r1.below ai (by omega)
    replace r2 := r2.below ai (by omega)
    replace r3 := r3.below ai (by omega)
    replace r4 := r4.below ai (by omega)
    replace q1i := q1i.below ai (by omega)
    replace q2i := q2i.below ai (by omega)
    replace q3i := q3i.below ai (by omega)
    replace q4i := q4i.below ai (by omega)
    replace BB := BB.trans (ai.mono BB.size)
    clear ai
    have f_ji0 := ji.c 0 rfl
    have f_ji1 := ji.c 1 rfl
    have f_ji2 := ji.c 2 rfl
    have f_ji3 := ji.c 3 rfl
    have f_ji4 := ji.c 4 rfl
    have f_ji5 := ji.c 5 rfl
    have f_jw0 := jw.c 0 rfl
    have f_jw1 := jw.c 1 rfl
    have f_jw2 := jw.c 2 rfl
    have f_jw3 := jw.c 3 rfl
    have f_jw4 := jw.c 4 rfl
    have f_jw5 := jw.c 5 rfl
    go_wp2_with fail
    clear f_ji0 f_ji1 f_ji2 f_ji3 f_ji4 f_ji5 f_jw0 f_jw1 f_jw2 f_jw3 f_jw4 f_jw5
    generalize (ui.alloc (.cells #[.int .i64 (k : Int), .slice (some ⟨gAi, 0, none⟩) n n, .slice (some ⟨gBi, 0, none⟩) k k, .int .i64 (k : Int), .slice (some ⟨gCi, 0, none⟩) n n, .slice (some ⟨gDi, 0, none⟩) k k] 31)) = v4 at BB jb jw jx jg ji w1 w2 w3 w4 r1 r2 r3 r4 q1i q2i q3i q4i yii ⊢
    refine (laws_eqPair k (some ⟨gAi, 0, none⟩) n n xs (some ⟨gBi, 0, none⟩) k k ys k (some ⟨gCi, 0, none⟩) n n (conjL k xs ys) (some ⟨gDi, 0, none⟩) k k ys 0 v4.heap.size k P1 n e1 xs P2 k e2 ys k P3 n e3 (conjL k xs ys) P4 k e4 ys 0 v4.heap.size v4 (q1i.ints.wide (Nat.zero_le _) (by omega)) (q2i.ints.wide (Nat.zero_le _) (by omega)) (q3i.ints.wide (Nat.zero_le _) (by omega)) (q4i.ints.wide (Nat.zero_le _) (by omega)) (w1.ints.wide (Nat.zero_le _) (by omega)) (w2.ints.wide (Nat.zero_le _) (by omega)) (w3.ints.wide (Nat.zero_le _) (by omega)) (w4.ints.wide (Nat.zero_le _) (by omega)) (Nat.le_refl _) (Nat.le_refl _)).mono ?_
    rintro e zk_ ⟨rfl, bk_⟩
    rw [pairEq_refl]
    have yk_ := bk_.size
    replace jb := jb.below bk_
    replace jw := jw.below bk_
    replace jx := jx.below bk_
    replace jg := jg.below bk_
    replace ji := ji.below bk_
    replace w1 := w1.below bk_ (by omega)
    replace w2 := w2.below bk_ (by omega)
    replace w3 := w3.below bk_ (by omega)
    replace w4 := w4.below bk_ (by omega)
    replace r1 := r1.below bk_ (by omega)
    replace r2 := r2.below bk_ (by omega)
    replace r3 := r3.below bk_ (by omega)
    replace r4 := r4.below bk_ (by omega)
    replace q1i := q1i.below bk_ (by omega)
    replace q2i := q2i.below bk_ (by omega)
    replace q3i := q3i.below bk_ (by omega)
    replace q4i := q4i.below bk_ (by omega)
    replace BB := BB.trans (bk_.mono BB.size)
    clear bk_
    have f_jg0 := jg.c 0 rfl
    have f_jg1 := jg.c 1 rfl
    have f_jg2 := jg.c 2 rfl
    have f_jg3 := jg.c 3 rfl
    have f_jg4 := jg.c 4 rfl
    have f_jg5 := jg.c 5 rfl
    go_wp2_with fail
    clear f_jg0 f_jg1 f_jg2 f_jg3 f_jg4 f_jg5
    refine (laws_heldPair k (some ⟨gAg, 0, none⟩) n n (some ⟨gBg, 0, none⟩) k k k (some ⟨gCg, 0, none⟩) n n (some ⟨gDg, 0, none⟩) k k 0 zk_.heap.size 1 zk_ (r1.ints.wide (Nat.zero_le _) (by omega)) (r2.ints.wide (Nat.zero_le _) (by omega)) (r3.ints.wide (Nat.zero_le _) (by omega)) (r4.ints.wide (Nat.zero_le _) (by omega)) (Nat.le_refl _) (by omega) (by omega)).mono ?_
    rintro e h2_ ⟨rfl, b2_⟩
    have y2_ := b2_.size
    replace jb := jb.below b2_
    replace jw := jw.below b2_
    replace jx := jx.below b2_
    replace jg := jg.below b2_
    replace ji := ji.below b2_
    replace w1 := w1.below b2_ (by omega)
    replace w2 := w2.below b2_ (by omega)
    replace w3 := w3.below b2_ (by omega)
    replace w4 := w4.below b2_ (by omega)
    replace r1 := r1.below b2_ (by omega)
    replace r2 := r2.below b2_ (by omega)
    replace r3 := r3.below b2_ (by omega)
    replace r4 := r4.below b2_ (by omega)
    replace q1i := q1i.below b2_ (by omega)
    replace q2i := q2i.below b2_ (by omega)
    replace q3i := q3i.below b2_ (by omega)
    replace q4i := q4i.below b2_ (by omega)
    replace BB := BB.trans (b2_.mono BB.size)
    clear b2_
    go_wp2_with fail
    go_ret
    exact ⟨rfl, BB⟩
theorem walk (s : Int) (A : Option Addr) (n c : Nat) (xs : List Int) (B : Option Addr) (m d : Nat) (ys : List Int) (w : World) (_hS : R64 s) (h : Ints w 0 w.heap.size A n c xs) (g : Ints w 0 w.heap.size B m d ys) :
    Calls Try.prog 7 #[.agg #[.int .i64 s, .slice A n c, .slice B m d]] w fun e w' => e = .returned (.bool true) ∧ Below w.heap.size w w' := by
  have hcp1 := h.cap
  have hmx1 := h.max
  have hcp2 := g.cap
  have hmx2 := g.max
  by_cases hbig : (1048576 : Int) < (n : Int) + m
  · have a1 := below_alloc w (.cells #[.int .i64 s, .slice A n c, .slice B m d] 24)
    have hsz := sz2F_big hbig
    go_enter Try.func7, Try.ntmps7
    go_wp2_with fail
    generalize World.alloc w (.cells #[.int .i64 s, .slice A n c, .slice B m d] 24) = W at a1 ⊢
    refine (laws_szTableau s A n c B m d 1048576 W (by omega) (by omega) (by omega) (by omega)).mono ?_
    rintro e w1 ⟨rfl, b1⟩
    rw [hsz]
    have B1 := a1.trans (b1.mono a1.size)
    clear hsz
    go_wp2_with fail
    go_ret
    exact ⟨rfl, B1⟩
  · cases hc : conjOkF s xs ys with
    | false => exact walk_bad s A n c xs B m d ys w h g (by omega) (by omega) (by omega) hc
    | true =>
      unfold conjOkF at hc
      simp only [Bool.and_eq_true, Bool.not_eq_true', decide_eq_false_iff_not] at hc
      obtain ⟨ht, hz⟩ := hc
      obtain ⟨k, rfl, hk, hxl, hyl⟩ := tab_form ht
      obtain rfl : m = k := by rw [← g.len]; exact hyl
      exact walk_ok m A n c xs B d ys w h g (by omega) (by omega) (by omega) hk (by rw [← h.len]; exact hxl) ht hz

theorem own : ownKnob Try.prog.godebug = none := by kernel_rfl
theorem laidOut : laidOutB Try.prog = true := by kernel_rfl
set_option maxRecDepth 100000 in
theorem lifted (os : Os) (started : os.Started) (H : Type) (enc : TypeId × Value → H) :
    ReturnsInHanded {} Try.checked os 7 .any (Rows.fnExactConjugatePairSpec.pre6 enc Try.prog Try.f7 Rows.fnExactConjugatePairRow.domain false) (Rows.fnExactConjugatePairSpec.post enc Try.prog Try.f7 false true false false) := by
  refine returnsInHanded_of_change (C := Try.checked) own started (by kernel_rfl) Try.func7
    (ChangeSpec.witness6 (enc := enc) (C := Try.checked) false ⟨#[], #[.agg #[.int .i64 0, .slice none 0 0, .slice none 0 0]], []⟩ 8 (by kernel_rfl) (by kernel_rfl) (by kernel_rfl) (by kernel_rfl)) ?_
  intro W base args ds gs before hval0 hW hcnd _
  have hval : ∀ (j : Nat) t v, Try.f7.params[j]? = some t → args[j]? = some v → Value.okWide Try.prog W .any base t v := hval0
  have hW' := hW
  obtain ⟨p, q, hA0, hV, rfl, hfz, hnd⟩ := hW
  have hA : DataW.TrodAll enc Try.prog W 0 (fun _ => true) true Try.f7.params.toList args.toList ds p := hA0
  rw [Try.params7] at hA hval
  obtain ⟨v0, vs0, d0, ds0, p0, q0, hargs, rfl, rfl, h0, t0⟩ := trodAll_cons hA
  obtain ⟨rfl, rfl, rfl⟩ := trodAll_nil t0
  obtain rfl : args = #[v0] := by cases args; simp_all
  obtain ⟨rfl, rfl⟩ := trodVars_none hV
  have k0 := h0
  have lt0 : ∀ x ∈ p0, x.block < W.heap.size := by obtain ⟨m, hm⟩ := k0; exact DataW.trod_lt m _ _ _ hm
  obtain ⟨s_0, A_0, n_0, c_0, xs_0, B_0, m_0, d_0, ys_0, rfl, iS0, iA0, iB0⟩ := open_ptab h0 (by obtain ⟨cs, hcs, _⟩ := okWide_struct Try.underlying24 (hval 0 24 v0 rfl rfl); exact ⟨cs, hcs⟩)
  clear hA0 hval0
  refine (walk s_0 A_0 n_0 c_0 xs_0 B_0 m_0 d_0 ys_0 W iS0 iA0 iB0).mono fun e W' ⟨he, bel⟩ => ?_
  subst he
  exact ⟨_, rfl, _, _, _, [], _, [], hW', trodAll_mk1 (shut_bool Try.underlying4 _), (trodAll_cons_mk (Below.trod laidOut (by kernel_rfl) (of_decide_eq_true (by kernel_rfl)) k0 bel lt0) trodAll_mk0), rfl, bel.frame _, fun h => by cases h⟩
theorem over : Rows.fnExactConjugatePairRow.holds Try.pinned (OpenSpec.ofChange Rows.fnExactConjugatePairSpec) :=
  OpenClaim.holds_of_wide 7 Try.f7 rfl rfl rfl rfl rfl rfl rfl ⟨rfl, rfl, rfl, rfl, rfl⟩ rfl rfl rfl rfl rfl (by kernel_rfl) Try.func7 (by kernel_rfl)
    (of_decide_eq_true (by kernel_rfl)) (by unfold Func.isWrapper; first | (rw [if_pos (by decide +kernel)]; kernel_rfl) | (rw [if_neg (by decide +kernel)]; exact ⟨rfl, rfl⟩))
    (fun os started H enc _ => lifted os started H enc)
theorem proved : Rows.FnExactConjugatePairSaid := over
#print axioms proved

end Go.Proofs.Ytodlfmagkjblgaa.fnExactConjugatePair
