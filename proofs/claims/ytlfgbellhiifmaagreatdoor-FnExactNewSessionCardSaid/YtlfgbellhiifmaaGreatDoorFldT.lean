/- The reference's reader of a field at the fixed text of a new session: the whole. -/
import Derived.Test.YtlfgbellhiifmaaGreatDoorFldS
import Derived.Test.YtlfgbellhiifmaaGreatDoorLast
namespace Go.Proofs.YtlfgbellhiifmaaGreatDoor
open Go.RowKit
set_option linter.unusedSimpArgs false
set_option linter.unusedVariables false
set_option maxRecDepth 20000

theorem owp_app1 {P : Program} {o : Oper} {a : Act} {K : Act → World → Prop} {Q : Exit → Act → World → Prop} (s x : Operand) (t : TypeId)
    (ho : o.op = .call { callee := .builtin .append, args := #[s, x], argTypes := #[t, t] })
    (base : Nat) (e : TypeId) (i : TypeInfo) (z : Value) (size bytes : Nat) (ht : P.underlying t = some (.slice e)) (hi : P.info? e = some i) (hz : i.zero = some z)
    (hsize : i.size = size) (hby : i.bytes = bytes) (hzs : z.cells.size = size) (hsz : 0 < size) (w0 : World) (cs : Array Value) (b : Nat) (hb : w0.heap.size = b)
    (A : Option Addr) (n c d : Nat) (xs : List Value) (hs : a.eval s = .slice A n c) (hx : a.eval x = .slice (some ⟨b, 0, none⟩) 1 d) (hown : w0.ownsRow base e size (.slice A n c) n xs)
    (hcs : cs.size = size) (h1 : ∀ u ∈ cs.toList, u.oneCell' = true) (hn : n + 1 ≤ 1099511627776) (hbytes : bytes ≤ 128) (hbase : base ≤ w0.heap.size)
    (h : ∀ A' c' w', Appended w0 base e size A n c A' (n + 1) c' (xs ++ cs.toList) w' → w0.heap.size < w'.heap.size → K (a.put o.dst (.slice A' (n + 1) c')) w') : Oper.wp P o a (w0.alloc (.cells cs e)) K Q := by
  subst hb
  obtain ⟨A', c', w', hrun, h2, h3⟩ := run_app1 (P := P) w0 base t o.type e i z size bytes ht hi hz hsize hby hzs hsz A n c xs hown cs d hcs h1 hn hbytes hbase
  unfold Oper.wp
  simp [execOp, ho, resolve, invoke, builtin, hs, hx, hrun, Result.andThen]
  exact h A' c' w' h2 h3

set_option maxRecDepth 100000 in
set_option maxHeartbeats 8000000 in
theorem spec_ParseField1 (w : World) :
    Calls Tryz.prog 10 #[.string ⟨#[49, 42, 97]⟩] w fun r w' => ∃ gP e gQ q gR c, r = .returned (.tuple #[.agg #[.int .i64 1, .slice (some ⟨gP, 0, none⟩) 1 e], .bool true]) ∧ Fld1 w' w.heap.size w'.heap.size gP e gQ q gR c 1 1 ∧ Below w.heap.size w w' := by
  obtain ⟨i0, hi0, hz0, hz1, hz2⟩ := info_parts info_mono
  obtain ⟨i1, hi1, hy0, hy1, hy2⟩ := info_parts info_monos
  have hne : ((⟨#[49, 42, 97]⟩ : ByteArray).toList == [48]) = false := by rw [ByteArray.toList_eq]; rfl
  have hne0 : ((⟨#[49, 42, 97]⟩ : ByteArray).toList == []) = false := by rw [ByteArray.toList_eq]; rfl
  have b0 := below_alloc w (.cells #[.int .i64 0, .slice none 0 0] 27)
  have k0 := BlkN.new w #[.int .i64 0, .slice none 0 0] 27
  go_enter Tryz.func10, Tryz.ntmps10
  go_wp2_with fail
  generalize w.alloc (.cells #[.int .i64 0, .slice none 0 0] 27) = W0 at b0 k0 ⊢
  have z0 := b0.size
  have zk0 := k0.lt
  refine (spec_l8Words_semi W0).mono ?_
  rintro e w1 ⟨s1, c1, rfl, hs1, b1⟩
  have ls1 := hs1.lt s1 rfl
  have k01 := (k0.below b1).alloc (.cells #[.int .i64 1, .slice none 0 0] 27)
  have kf1 := BlkN.new w1 #[.int .i64 1, .slice none 0 0] 27
  have bw1 := b0.trans (b1.mono z0)
  have z1 := b1.size
  have bW : Below w.heap.size w (w1.alloc (.cells #[.int .i64 1, .slice none 0 0] 27)) := bw1.alloc bw1.size _
  have hsc : (w1.alloc (.cells #[.int .i64 1, .slice none 0 0] 27)).cell? ⟨s1, 0, none⟩ = some (.string ⟨#[49, 42, 97]⟩) := ((below_alloc w1 (.cells #[.int .i64 1, .slice none 0 0] 27)).cell (p := ⟨s1, 0, none⟩) ls1.2).trans (hs1.cellAt 0 (by omega))
  clear hs1 k0 b0
  go_wp2_with fail
  obtain ⟨F, hF⟩ : ∃ F, F = w1.heap.size := ⟨_, rfl⟩
  have hFs : s1 < F := by omega
  have hFw : w.heap.size < F := by omega
  rw [← hF] at kf1 ⊢
  generalize w1.alloc (.cells #[.int .i64 1, .slice none 0 0] 27) = W at k01 kf1 bW hsc ⊢
  clear hF
  have zF := kf1.lt
  have hsc1 : (W.alloc (.cells #[] 52)).cell? ⟨s1, 0, none⟩ = some (.string ⟨#[49, 42, 97]⟩) := ((below_alloc W (.cells #[] 52)).cell (p := ⟨s1, 0, none⟩) (by show s1 < W.heap.size; omega)).trans hsc
  refine wp_loop_rounds 2 ?_
  rw [rounds_succ]
  go_wp2_with fail
  have own0 : (W.alloc (.cells #[] 52)).ownsRow w.heap.size 52 2 (.slice (some ⟨W.heap.size, 0, none⟩) 0 0) 0 [] := by
    simpa using World.ownsRow_lit (size := 2) (e := 52) (base := w.heap.size) W #[] 0 (by omega) (by unfold maxLen; omega) rfl
  have bX : Below w.heap.size w (W.alloc (.cells #[] 52)) := bW.alloc (by omega) _
  have k0X := k01.alloc (.cells #[] 52)
  have kfX := kf1.alloc (.cells #[] 52)
  obtain ⟨gp, hgp⟩ : ∃ gp, gp = W.heap.size := ⟨_, rfl⟩
  have zgp : gp < (W.alloc (.cells #[] 52)).heap.size := by rw [hgp]; simp
  rw [← hgp] at own0 zF ⊢
  generalize W.alloc (.cells #[] 52) = X at own0 bX k0X kfX hsc1 zgp ⊢
  clear hsc k01 kf1 bW hgp
  refine (spec_l8Words_plus X).mono ?_
  rintro e w2 ⟨s2, c2, rfl, hs2, b2⟩
  have ls2 := hs2.lt s2 rfl
  have hd2 : w2.cell? ⟨s2, 0, none⟩ = some (.string ⟨#[49, 42, 97]⟩) := hs2.cellAt 0 (by omega)
  have hd1 : w2.cell? ⟨s1, 0, none⟩ = some (.string ⟨#[49, 42, 97]⟩) := (b2.cell (p := ⟨s1, 0, none⟩) (by show s1 < X.heap.size; omega)).trans hsc1
  have k02 := k0X.below b2
  have kf2 := kfX.below b2
  have own2 := owns_below own0 b2 (fun ad e => by injection e with e; subst e; exact zgp)
  have bw2 := bX.trans (b2.mono bX.size)
  have z2 := b2.size
  have f0 := kf2.c 0 rfl
  clear own0 k0X kfX hsc1
  go_wp2_with fail
  refine wp_loop_rounds 2 ?_
  rw [rounds_succ]
  go_wp2_with fail
  -- REGION11
  have hB2d : Below w2.heap.size w2 w2.drew := (Below.refl _ _).drew
  refine wp_region_Z (fun W' => W'.cell? ⟨s2, 0, none⟩ = some (.string ⟨#[49, 42, 97]⟩) ∧ W'.cell? ⟨F, 0, none⟩ = some (.int .i64 1)) 10 (by kernel_rfl) ?_
  have hS0 : w2.drew.cell? ⟨s2, 0, none⟩ = some (.string ⟨#[49, 42, 97]⟩) ∧ w2.drew.cell? ⟨F, 0, none⟩ = some (.int .i64 1) := ⟨hd2, f0⟩
  have hsd : w2.drew.ownsRow X.heap.size 9 1 (.slice (some ⟨s2, 0, none⟩) 1 c2) 1 ([(⟨#[49, 42, 97]⟩ : ByteArray)].map Value.string) := hs2
  have HSD := hide hsd
  have hOwnd : w2.drew.ownsRow w.heap.size 52 2 (.slice (some ⟨gp, 0, none⟩) 0 0) 0 [] := own2
  have k02d := k02.drew
  have kf2d := kf2.drew
  have bw2d := bw2.drew
  have HOwn := hide hOwnd
  have K02 := hide k02d
  have KF2 := hide kf2d
  clear hOwnd k02d kf2d own2 k02 kf2 f0 hs2 hsd hB2d
  have zd2 : w2.heap.size ≤ w2.drew.heap.size := Nat.le_refl _
  generalize w2.drew = V at hS0 HSD bw2d HOwn K02 KF2 zd2 ⊢
  refine wpAnyZ_takeW 0 (.slice (some ⟨gp, 0, none⟩) 0 0) rfl (by kernel_rfl) (by kernel_rfl) (fun _ _ _ h => h) (by rfl) (fun _ => by go_simp) hS0 ?_
  try simp only [Act.put, List.setIfInBounds_toArray, List.set_cons_zero, List.set_cons_succ]
  refine wpAnyZ_takeW 1 (.slice (some ⟨s2, 0, none⟩) 1 c2) rfl (by kernel_rfl) (by kernel_rfl) (fun _ _ _ h => h) (by rfl) (fun _ => by go_simp) hS0 ?_
  try simp only [Act.put, List.setIfInBounds_toArray, List.set_cons_zero, List.set_cons_succ]
  refine wpAnyZ_takeW 2 (.int .i64 0) rfl (by kernel_rfl) (by kernel_rfl) (fun _ _ _ h => h) (by rfl) (fun _ => by go_simp) hS0 ?_
  try simp only [Act.put, List.setIfInBounds_toArray, List.set_cons_zero, List.set_cons_succ]
  refine wpAnyZ_takeW 3 (.pointer (some ⟨s2, 0, none⟩)) rfl (by kernel_rfl) (by kernel_rfl) (fun _ _ _ h => h) (by rfl) (fun _ => by go_simp) hS0 ?_
  try simp only [Act.put, List.setIfInBounds_toArray, List.set_cons_zero, List.set_cons_succ]
  refine wpAnyZ_take 4 (.string ⟨#[49, 42, 97]⟩) rfl (by kernel_rfl) (by kernel_rfl) (fun _ _ _ h => h) (by rfl) (fun _ hS => by have q0 := hS.1; clear hS; go_simp) hS0 ?_
  try simp only [Act.put, List.setIfInBounds_toArray, List.set_cons_zero, List.set_cons_succ]
  refine wpAnyZ_takeW 5 (.pointer (some ⟨F, 0, none⟩)) rfl (by kernel_rfl) (by kernel_rfl) (fun _ _ _ h => h) (by rfl) (fun _ => by go_simp) hS0 ?_
  try simp only [Act.put, List.setIfInBounds_toArray, List.set_cons_zero, List.set_cons_succ]
  refine wpAnyZ_take 6 (.int .i64 1) rfl (by kernel_rfl) (by kernel_rfl) (fun _ _ _ h => h) (by rfl) (fun _ hS => by have q0 := hS.2; clear hS; go_simp) hS0 ?_
  try simp only [Act.put, List.setIfInBounds_toArray, List.set_cons_zero, List.set_cons_succ]
  refine wpAnyZ_one 7 (by kernel_rfl) rfl (by rfl) (fun K hK => ?_)
  go_simp
  refine (spec_l8Mono V).mono ?_
  rintro e w3 ⟨gR, rfl, o3, b3⟩
  have zF2 : F < V.heap.size := by omega
  have hS3 := And.intro ((b3.cell (p := ⟨s2, 0, none⟩) (by show s2 < V.heap.size; omega)).trans hS0.1) ((b3.cell (p := ⟨F, 0, none⟩) (by show F < V.heap.size; omega)).trans hS0.2)
  have HSD3 := hide (owns_below HSD.out b3 (fun ad e => by injection e with e; subst e; show s2 < V.heap.size; omega))
  have z3 := b3.size
  have own3 := owns_below HOwn.out b3 (fun ad e => by injection e with e; subst e; show gp < V.heap.size; omega)
  have k03 := K02.out.below b3
  have kf3 := KF2.out.below b3
  have bw3 := bw2d.trans (b3.mono bw2d.size)
  have zz3 : w.heap.size ≤ w3.heap.size := bw3.size
  have gRl : V.heap.size ≤ gR ∧ gR < w3.heap.size := ⟨(o3.own.lt gR rfl).1, o3.lt _ rfl⟩
  have Own3 := hide own3
  have K03 := hide k03
  have KF3 := hide kf3
  have O3 := hide o3
  have HB3 := hide bw3
  clear own3 k03 kf3 o3 b3 HOwn K02 KF2
  go_wp2_with fail
  refine hK.out _ _ hS3 ?_
  clear hK K
  try simp only [Act.put, List.setIfInBounds_toArray, List.set_cons_zero, List.set_cons_succ]
  refine wpAnyZ_one 8 (by kernel_rfl) rfl (by rfl) (fun K hK => ?_)
  go_simp
  have hb4 := below_alloc w3 (.cells #[.int .i64 1, .slice (some ⟨gR, 0, none⟩) 1 1] 52)
  have hS4 := And.intro ((hb4.cell (p := ⟨s2, 0, none⟩) (by show s2 < w3.heap.size; omega)).trans hS3.1) ((hb4.cell (p := ⟨F, 0, none⟩) (by show F < w3.heap.size; omega)).trans hS3.2)
  clear hb4
  refine hK.out _ _ hS4 ?_
  clear hK K
  try simp only [Act.put, List.setIfInBounds_toArray, List.set_cons_zero, List.set_cons_succ]
  refine wpAnyZ_one 9 (by kernel_rfl) rfl (by rfl) (fun K hK => ?_)
  refine owp_app1 (.tmp 45) (.tmp 53) 50 rfl w.heap.size 52 i0 (.agg #[.int .i64 0, .slice none 0 0]) 2 32 Tryz.underlying50 hi0 hz0 hz1 hz2 rfl (by omega) w3 #[.int .i64 1, .slice (some ⟨gR, 0, none⟩) 1 1] _ rfl (some ⟨gp, 0, none⟩) 0 0 1 _ rfl rfl Own3.out rfl (by simp [Value.oneCell']) (by omega) (by omega) zz3 ?_
  intro A5 c5 w5 happ hlt5
  have hne2 : (some s2 : Option Nat) ≠ (Value.slice (some ⟨gp, 0, none⟩) 0 0).ownBlock := by
    simp [Value.ownBlock]
    omega
  have hsd5 := owns_same HSD3.out (fun ad e => by injection e with e; subst e; exact happ.2.1.block s2 (by omega) hne2)
  have H5 := hide (mono_step happ Own3.out HB3.out K03.out KF3.out O3.out (by omega) zz3 (by omega) (by omega) (by omega))
  clear happ
  have hS5 := And.intro (hsd5.cellAt 0 (by omega)) (by obtain ⟨gQ, _, _, _, _, _, _, _, kf5, _, _⟩ := H5.out; exact kf5.c 0 rfl)
  refine hK.out _ _ hS5 ?_
  clear hK K
  try simp only [Act.put, List.setIfInBounds_toArray, List.set_cons_zero, List.set_cons_succ]
  refine wpAnyZ_last (by kernel_rfl) rfl (by kernel_rfl) (by rfl) (fun K hK => ?_)
  go_simp
  refine hK _ _ ?_
  clear hK K HSD HSD3 hsd5 hS0 hS3 hS4 hS5 Own3 K03 KF3 O3 HB3 bw2d hd1 hd2 hne2
  obtain ⟨gQ, rfl, q5, r5, nQR, ltQ, leQ, k05, kf5, bw5, z45⟩ := H5.out
  have Q5 := hide q5
  have R5 := hide r5
  have K05 := hide k05
  have KF5 := hide kf5
  have hf1 := kf5.c 1 rfl
  have z5 : w.heap.size ≤ w5.heap.size := bw5.size
  have hnil := hide (World.ownsRow_nil w5 w5.heap.size 50 1)
  clear q5 r5 k05 kf5 H5
  go_wp2_with fail
  rw [rounds_succ]
  go_wp2_with (at_builtin; refine wpl_app1b rfl (.tmp 56) (.tmp 58) 25 rfl w5.heap.size 50 i1 (.slice none 0 0) 1 24 Tryz.underlying25 hi1 hy0 hy1 hy2 rfl (by omega) w5 #[.slice (some ⟨gQ, 0, none⟩) 1 c5] _ rfl none 0 0 1 _ rfl rfl hnil.out rfl (by simp [Value.oneCell']) (by omega) (by omega) (Nat.le_refl _) ?_; intro A6 c6 w6 happ hlt6; have b6 := hide (happ.low (Below.refl w5.heap.size w5) (Nat.le_refl _) (Nat.le_refl _) hnil.out); have P6 := hide happ.1; have kf6 := KF5.out.below b6.out; have f1 := kf6.c 1 rfl; have f0 := kf6.c 0 rfl; have ff := kf6.f 1; clear happ)
  obtain ⟨gP, rfl, hP1, hP2⟩ := own_form P6.out (by omega)
  have zQ : gQ < w5.heap.size := ltQ
  have hRl : gR < w5.heap.size := by omega
  have hgR : gp ≤ gR := by omega
  have hF6 : Fld1 w6 gp w6.heap.size gP c6 gQ c5 gR 1 1 1 :=
    ⟨owns_raise P6.out (by omega), owns_raise (owns_below Q5.out b6.out (fun ad e => by injection e with e; subst e; exact zQ)) leQ, owns_raise (R5.out.below b6.out (by omega)).own hgR, hP2, by omega, by omega, by omega, by omega, nQR, by constructor <;> omega, by constructor <;> omega⟩
  have F7 := hide (hF6.same (w' := w6.setCell ⟨F, 1, none⟩ (.slice (some ⟨gP, 0, none⟩) 1 c6)) (Same.setCell (p := ⟨F, 1, none⟩) (Same.refl _ _ _) (.inl (by show F < gp; omega)) _))
  have K07 := hide ((K05.out.below b6.out).far (b := F) (i := 1) (by omega) (.slice (some ⟨gP, 0, none⟩) 1 c6))
  have kf7 := kf6.set 1 (.slice (some ⟨gP, 0, none⟩) 1 c6)
  simp only [List.setIfInBounds_toArray, List.set_cons_zero, List.set_cons_succ] at kf7
  have bw6 := bw5.trans (b6.out.mono z5)
  have bw7 : Below w.heap.size w (w6.setCell ⟨F, 1, none⟩ (.slice (some ⟨gP, 0, none⟩) 1 c6)) := bw6.setCell (by show w.heap.size ≤ F; omega) _
  have z7 : w6.heap.size ≤ (w6.setCell ⟨F, 1, none⟩ (.slice (some ⟨gP, 0, none⟩) 1 c6)).heap.size := by simp [World.setCell]
  have z6' := b6.out.size
  clear hF6 kf6 f0 f1 ff P6 Q5 R5 K05 KF5 hf1
  generalize w6.setCell ⟨F, 1, none⟩ (.slice (some ⟨gP, 0, none⟩) 1 c6) = w7 at F7 K07 kf7 bw7 z7 ⊢
  have f0 := kf7.c 0 rfl
  have f1 := kf7.c 1 rfl
  have KF7 := hide kf7
  clear kf7
  rw [rounds_succ]
  go_wp2_with fail
  refine (spec_FormatField1 gp w6.heap.size gP c6 gQ c5 gR 1 w7 F7.out z7).mono ?_
  rintro e w8 ⟨s, rfl, rfl, b8⟩
  have kf8 := KF7.out.below b8
  have k08 := K07.out.below b8
  have bw8 := bw7.trans (b8.mono bw7.size)
  have F8 := F7.out.below b8 z7
  have z8 := b8.size
  have hR := fld_done F8 bw8 (by omega) (by omega) (.int .i64 1) (.slice (some ⟨gP, 0, none⟩) 1 c6)
  have HR9 := hide hR
  have t0 := kf8.c 0 rfl
  have t1 := kf8.c 1 rfl
  have U1 := k08.c 0 rfl
  have U2 := k08.c 1 rfl
  have V1 := k08.f 0
  have V2 := k08.f 1
  have zk := k08.lt
  clear hR F8 bw8 kf8 k08 F7 K07 KF7 f0 f1
  go_wp2_with fail
  refine bodyPost_ret (v := .tuple #[.agg #[.int .i64 1, .slice (some ⟨gP, 0, none⟩) 1 c6], .bool true]) (by simp [results, Tryz.results10, go_sem, U1, U2, V1, V2, zk]) rfl ⟨gP, c6, gQ, c5, gR, 1, rfl, ?_⟩
  exact HR9.out
end Go.Proofs.YtlfgbellhiifmaaGreatDoor
