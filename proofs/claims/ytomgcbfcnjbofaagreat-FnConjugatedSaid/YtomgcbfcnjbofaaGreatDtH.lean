/- Roots, closed nodes, the texts of known tableaus: the reference's walks. -/
import Derived.Test.YtomgcbfcnjbofaaGreatMgZE
import Derived.Test.YtomgcbfcnjbofaaGreatMgZ
import Derived.Test.YtomgcbfcnjbofaaGreatMgZF
namespace Go.Proofs.YtomgcbfcnjbofaaGreat
open Go.RowKit
set_option linter.unusedSimpArgs false
set_option linter.unusedVariables false
set_option maxRecDepth 20000
theorem litsD {w:World} {xs:List Int} {n:Nat} (hl:xs.length=n) (hn:n≤1000) (hr:∀ x∈xs,R64 x):OwnI (w.alloc (.cells (iCells xs) 3)) w.heap.size (w.alloc (.cells (iCells xs) 3)).heap.size (some ⟨w.heap.size,0,none⟩) n n xs :=
 block_own (heap_alloc_new w _) hl (Nat.le_refl _) (by omega) hr
def sqrtF (a:Int):Int:=if timesF (powF a 250000068) (powF a 250000068)=resF a then min (powF a 250000068) (resF (-(powF a 250000068))) else 0
def sqrtK (a:Int):Int:=if timesF (fpowGo 40 1 (resF a) 250000068) (fpowGo 40 1 (resF a) 250000068)=resF a then min (fpowGo 40 1 (resF a) 250000068) (resF (-(fpowGo 40 1 (resF a) 250000068))) else 0
theorem sqrt_k (a:Int):sqrtF a=sqrtK a:=by
 unfold sqrtF sqrtK
 rw [powF_fast (by omega) (by omega)]
def sqrtB (a:Int):Bool:=decide (timesF (powF a 250000068) (powF a 250000068)=resF a)
theorem spec_SquareRoot (a:Int) (w:World) (ha:R64 a) :
  Calls Tryz.prog 119 #[.int .i64 a] w fun e w'=>e = .returned (.tuple #[.int .i64 (sqrtF a),.bool (sqrtB a)])∧w=w':=by
 have hb:=powF_bd a 250000068
 have hF3:Hid (sqrtB a=decide (timesF (powF a 250000068) (powF a 250000068)=resF a)):=rfl
 have hF1:Hid (timesF (powF a 250000068) (powF a 250000068)=resF a→sqrtF a=min (powF a 250000068) (resF (-(powF a 250000068)))):=fun h=>by unfold sqrtF;rw [if_pos h]
 have hF2:Hid (¬ timesF (powF a 250000068) (powF a 250000068)=resF a→sqrtF a=0):=fun h=>by unfold sqrtF;rw [if_neg h]
 obtain ⟨x,hx⟩:∃ x,x=powF a 250000068:=⟨_,rfl⟩
 rw [← hx] at hb hF1 hF2 hF3
 have HX:=hide hx
 have hr:=resF_bd (-x)
 clear hx
 go_enter Tryz.func119,Tryz.ntmps119
 go_wp2_with fail
 refine (spec_Power a 250000068 w ha (by constructor <;> omega)).mono ?_
 rintro e w' ⟨rfl,rfl⟩
 rw [← HX.out]
 go_wp2_with fail
 refine (spec_Times x x w (by constructor <;> omega) (by constructor <;> omega)).mono ?_
 rintro e w' ⟨rfl,rfl⟩
 go_wp2_with fail
 refine (spec_l1Residue a w ha).mono ?_
 rintro e w' ⟨rfl,rfl⟩
 by_cases h:timesF x x=resF a
 ·have hS:=hide (hF1.out h)
  have hSB:Hid (sqrtB a=true):=by show _=_;rw [hF3.out,decide_eq_true h]
  have hbe:(timesF x x != resF a)=false:=by simpa using h
  clear h
  go_wp2_with fail
  refine (spec_l1Residue (-x) w (by constructor <;> omega)).mono ?_
  rintro e w' ⟨rfl,rfl⟩
  go_wp2_with fail
  all_goals
   refine bodyPost_ret (results_tmp2 rfl _ _ _) rfl ⟨?_,rfl⟩
   rw [hS.out,hSB.out]
   first
    | (rw [Int.min_eq_left (by assumption)];rfl)
    | (rw [Int.min_eq_right (Int.le_of_lt (by assumption))];rfl)
 ·have hS:=hide (hF2.out h)
  have hSB:Hid (sqrtB a=false):=by show _=_;rw [hF3.out,decide_eq_false h]
  have hbe:(timesF x x != resF a)=true:=by simpa using h
  clear h
  go_wp2_with fail
  refine bodyPost_ret (results_tmp2 rfl _ _ _) rfl ⟨?_,rfl⟩
  rw [hS.out,hSB.out]
  rfl
theorem spec_l7Root (a:Int) (w:World) (ha:R64 a) :
  Calls Tryz.prog 113 #[.int .i64 a] w fun e w'=>e = .returned (.int .i64 (sqrtF a))∧w=w':=by
 have HS:=hide (spec_SquareRoot a w ha)
 go_enter Tryz.func113,Tryz.ntmps113
 go_wp2_with fail
 refine HS.out.mono ?_
 rintro e w' ⟨rfl,rfl⟩
 go_wp2_with fail
 go_ret
 exact ⟨rfl,rfl⟩
def noGauss1:List Int:=[500000136]
theorem noGauss1_num:∀ x∈noGauss1,0≤x∧x<1000000271:=by decide
theorem noGauss1_nd:noGauss1.Nodup:=by decide
set_option maxHeartbeats 2000000 in
theorem spec_Gauss1 (w:World):Calls Tryz.prog 93 #[.int .i64 1] w fun e w'=>e = .returned (.slice (some ⟨w.heap.size,0,none⟩) 1 1)∧OwnI w' w.heap.size w'.heap.size (some ⟨w.heap.size,0,none⟩) 1 1 noGauss1∧Below w.heap.size w w':=by
 have v0:fracF 1 2=500000136:=by rw [frac_k];decide +kernel
 have H0:=hide fun W=>spec_Fraction 1 2 W (by constructor <;> omega) (by constructor <;> omega)
 rw [v0] at H0
 clear v0
 have HO:=hide (litsD (w:=w) (xs:=noGauss1) (n:=1) rfl (by omega) (fun x hx=>by have:=noGauss1_num x hx;constructor <;> omega))
 have HB:=hide (below_alloc w (.cells (iCells noGauss1) 3))
 go_enter Tryz.func93,Tryz.ntmps93
 go_wp2_with (first | (go_at_call 31;refine (H0.out _).mono ?_;rintro e w' ⟨rfl,rfl⟩;clear H0))
 go_ret
 exact ⟨rfl,HO.out,HB.out⟩
def noGauss2:List Int:=[265155730,734844542]
theorem noGauss2_num:∀ x∈noGauss2,0≤x∧x<1000000271:=by decide
theorem noGauss2_nd:noGauss2.Nodup:=by decide
set_option maxHeartbeats 2000000 in
theorem spec_Gauss2 (w:World):Calls Tryz.prog 93 #[.int .i64 2] w fun e w'=>e = .returned (.slice (some ⟨w.heap.size,0,none⟩) 2 2)∧OwnI w' w.heap.size w'.heap.size (some ⟨w.heap.size,0,none⟩) 2 2 noGauss2∧Below w.heap.size w w':=by
 have v0:fracF 1 2=500000136:=by rw [frac_k];decide +kernel
 have H0:=hide fun W=>spec_Fraction 1 2 W (by constructor <;> omega) (by constructor <;> omega)
 rw [v0] at H0
 clear v0
 have v1:sqrtF 3=409066165:=by rw [sqrt_k];decide +kernel
 have H1:=hide fun W=>spec_l7Root 3 W (by constructor <;> omega)
 rw [v1] at H1
 clear v1
 have v2:fracF 409066165 6=234844406:=by rw [frac_k];decide +kernel
 have H2:=hide fun W=>spec_Fraction 409066165 6 W (by constructor <;> omega) (by constructor <;> omega)
 rw [v2] at H2
 clear v2
 have v3:minusF 500000136 234844406=265155730:=by decide +kernel
 have H3:=hide fun W=>spec_Minus 500000136 234844406 W (by constructor <;> omega) (by constructor <;> omega)
 rw [v3] at H3
 clear v3
 have v4:plusF 500000136 234844406=734844542:=by decide +kernel
 have H4:=hide fun W=>spec_Plus 500000136 234844406 W (by constructor <;> omega) (by constructor <;> omega)
 rw [v4] at H4
 clear v4
 have HO:=hide (litsD (w:=w) (xs:=noGauss2) (n:=2) rfl (by omega) (fun x hx=>by have:=noGauss2_num x hx;constructor <;> omega))
 have HB:=hide (below_alloc w (.cells (iCells noGauss2) 3))
 go_enter Tryz.func93,Tryz.ntmps93
 go_wp2_with (first | (go_at_call 31;refine (H0.out _).mono ?_;rintro e w' ⟨rfl,rfl⟩;clear H0) | (go_at_call 113;refine (H1.out _).mono ?_;rintro e w' ⟨rfl,rfl⟩;clear H1) | (go_at_call 31;refine (H2.out _).mono ?_;rintro e w' ⟨rfl,rfl⟩;clear H2) | (go_at_call 30;refine (H3.out _).mono ?_;rintro e w' ⟨rfl,rfl⟩;clear H3) | (go_at_call 88;refine (H4.out _).mono ?_;rintro e w' ⟨rfl,rfl⟩;clear H4))
 go_ret
 exact ⟨rfl,HO.out,HB.out⟩
def noGauss3:List Int:=[454869438,500000136,545130834]
theorem noGauss3_num:∀ x∈noGauss3,0≤x∧x<1000000271:=by decide
theorem noGauss3_nd:noGauss3.Nodup:=by decide
set_option maxHeartbeats 2000000 in
theorem spec_Gauss3 (w:World):Calls Tryz.prog 93 #[.int .i64 3] w fun e w'=>e = .returned (.slice (some ⟨w.heap.size,0,none⟩) 3 3)∧OwnI w' w.heap.size w'.heap.size (some ⟨w.heap.size,0,none⟩) 3 3 noGauss3∧Below w.heap.size w w':=by
 have v0:fracF 1 2=500000136:=by rw [frac_k];decide +kernel
 have H0:=hide fun W=>spec_Fraction 1 2 W (by constructor <;> omega) (by constructor <;> omega)
 rw [v0] at H0
 clear v0
 have v1:sqrtF 15=451306980:=by rw [sqrt_k];decide +kernel
 have H1:=hide fun W=>spec_l7Root 15 W (by constructor <;> omega)
 rw [v1] at H1
 clear v1
 have v2:fracF 451306980 10=45130698:=by rw [frac_k];decide +kernel
 have H2:=hide fun W=>spec_Fraction 451306980 10 W (by constructor <;> omega) (by constructor <;> omega)
 rw [v2] at H2
 clear v2
 have v3:minusF 500000136 45130698=454869438:=by decide +kernel
 have H3:=hide fun W=>spec_Minus 500000136 45130698 W (by constructor <;> omega) (by constructor <;> omega)
 rw [v3] at H3
 clear v3
 have v4:plusF 500000136 45130698=545130834:=by decide +kernel
 have H4:=hide fun W=>spec_Plus 500000136 45130698 W (by constructor <;> omega) (by constructor <;> omega)
 rw [v4] at H4
 clear v4
 have HO:=hide (litsD (w:=w) (xs:=noGauss3) (n:=3) rfl (by omega) (fun x hx=>by have:=noGauss3_num x hx;constructor <;> omega))
 have HB:=hide (below_alloc w (.cells (iCells noGauss3) 3))
 go_enter Tryz.func93,Tryz.ntmps93
 go_wp2_with (first | (go_at_call 31;refine (H0.out _).mono ?_;rintro e w' ⟨rfl,rfl⟩;clear H0) | (go_at_call 113;refine (H1.out _).mono ?_;rintro e w' ⟨rfl,rfl⟩;clear H1) | (go_at_call 31;refine (H2.out _).mono ?_;rintro e w' ⟨rfl,rfl⟩;clear H2) | (go_at_call 30;refine (H3.out _).mono ?_;rintro e w' ⟨rfl,rfl⟩;clear H3) | (go_at_call 88;refine (H4.out _).mono ?_;rintro e w' ⟨rfl,rfl⟩;clear H4))
 go_ret
 exact ⟨rfl,HO.out,HB.out⟩
def noRadau1:List Int:=[1]
theorem noRadau1_num:∀ x∈noRadau1,0≤x∧x<1000000271:=by decide
theorem noRadau1_nd:noRadau1.Nodup:=by decide
set_option maxHeartbeats 2000000 in
theorem spec_Radau1 (w:World):Calls Tryz.prog 94 #[.int .i64 1] w fun e w'=>e = .returned (.slice (some ⟨w.heap.size,0,none⟩) 1 1)∧OwnI w' w.heap.size w'.heap.size (some ⟨w.heap.size,0,none⟩) 1 1 noRadau1∧Below w.heap.size w w':=by
 have HO:=hide (litsD (w:=w) (xs:=noRadau1) (n:=1) rfl (by omega) (fun x hx=>by have:=noRadau1_num x hx;constructor <;> omega))
 have HB:=hide (below_alloc w (.cells (iCells noRadau1) 3))
 go_enter Tryz.func94,Tryz.ntmps94
 go_wp2_with fail
 go_ret
 exact ⟨rfl,HO.out,HB.out⟩
def noRadau2:List Int:=[333333424,1]
theorem noRadau2_num:∀ x∈noRadau2,0≤x∧x<1000000271:=by decide
theorem noRadau2_nd:noRadau2.Nodup:=by decide
set_option maxHeartbeats 2000000 in
theorem spec_Radau2 (w:World):Calls Tryz.prog 94 #[.int .i64 2] w fun e w'=>e = .returned (.slice (some ⟨w.heap.size,0,none⟩) 2 2)∧OwnI w' w.heap.size w'.heap.size (some ⟨w.heap.size,0,none⟩) 2 2 noRadau2∧Below w.heap.size w w':=by
 have v0:fracF 1 3=333333424:=by rw [frac_k];decide +kernel
 have H0:=hide fun W=>spec_Fraction 1 3 W (by constructor <;> omega) (by constructor <;> omega)
 rw [v0] at H0
 clear v0
 have HO:=hide (litsD (w:=w) (xs:=noRadau2) (n:=2) rfl (by omega) (fun x hx=>by have:=noRadau2_num x hx;constructor <;> omega))
 have HB:=hide (below_alloc w (.cells (iCells noRadau2) 3))
 go_enter Tryz.func94,Tryz.ntmps94
 go_wp2_with (first | (go_at_call 31;refine (H0.out _).mono ?_;rintro e w' ⟨rfl,rfl⟩;clear H0))
 go_ret
 exact ⟨rfl,HO.out,HB.out⟩
def noRadau3:List Int:=[164228378,35771677,1]
theorem noRadau3_num:∀ x∈noRadau3,0≤x∧x<1000000271:=by decide
theorem noRadau3_nd:noRadau3.Nodup:=by decide
set_option maxHeartbeats 2000000 in
theorem spec_Radau3 (w:World):Calls Tryz.prog 94 #[.int .i64 3] w fun e w'=>e = .returned (.slice (some ⟨w.heap.size,0,none⟩) 3 3)∧OwnI w' w.heap.size w'.heap.size (some ⟨w.heap.size,0,none⟩) 3 3 noRadau3∧Below w.heap.size w w':=by
 have v0:sqrtF 6=357716766:=by rw [sqrt_k];decide +kernel
 have H0:=hide fun W=>spec_l7Root 6 W (by constructor <;> omega)
 rw [v0] at H0
 clear v0
 have v1:fracF (-357716762) 10=164228378:=by rw [frac_k];decide +kernel
 have H1:=hide fun W=>spec_Fraction (-357716762) 10 W (by constructor <;> omega) (by constructor <;> omega)
 rw [v1] at H1
 clear v1
 have v2:fracF 357716770 10=35771677:=by rw [frac_k];decide +kernel
 have H2:=hide fun W=>spec_Fraction 357716770 10 W (by constructor <;> omega) (by constructor <;> omega)
 rw [v2] at H2
 clear v2
 have HO:=hide (litsD (w:=w) (xs:=noRadau3) (n:=3) rfl (by omega) (fun x hx=>by have:=noRadau3_num x hx;constructor <;> omega))
 have HB:=hide (below_alloc w (.cells (iCells noRadau3) 3))
 go_enter Tryz.func94,Tryz.ntmps94
 go_wp2_with (first | (go_at_call 113;refine (H0.out _).mono ?_;rintro e w' ⟨rfl,rfl⟩;clear H0) | (go_at_call 31;refine (H1.out _).mono ?_;rintro e w' ⟨rfl,rfl⟩;clear H1) | (go_at_call 31;refine (H2.out _).mono ?_;rintro e w' ⟨rfl,rfl⟩;clear H2))
 go_ret
 exact ⟨rfl,HO.out,HB.out⟩
def noLobatto2:List Int:=[0,1]
theorem noLobatto2_num:∀ x∈noLobatto2,0≤x∧x<1000000271:=by decide
theorem noLobatto2_nd:noLobatto2.Nodup:=by decide
set_option maxHeartbeats 2000000 in
theorem spec_Lobatto2 (w:World):Calls Tryz.prog 95 #[.int .i64 2] w fun e w'=>e = .returned (.slice (some ⟨w.heap.size,0,none⟩) 2 2)∧OwnI w' w.heap.size w'.heap.size (some ⟨w.heap.size,0,none⟩) 2 2 noLobatto2∧Below w.heap.size w w':=by
 have v0:fracF 1 2=500000136:=by rw [frac_k];decide +kernel
 have H0:=hide fun W=>spec_Fraction 1 2 W (by constructor <;> omega) (by constructor <;> omega)
 rw [v0] at H0
 clear v0
 have HO:=hide (litsD (w:=w) (xs:=noLobatto2) (n:=2) rfl (by omega) (fun x hx=>by have:=noLobatto2_num x hx;constructor <;> omega))
 have HB:=hide (below_alloc w (.cells (iCells noLobatto2) 3))
 go_enter Tryz.func95,Tryz.ntmps95
 go_wp2_with (first | (go_at_call 31;refine (H0.out _).mono ?_;rintro e w' ⟨rfl,rfl⟩;clear H0))
 go_ret
 exact ⟨rfl,HO.out,HB.out⟩
def noLobatto3:List Int:=[0,500000136,1]
theorem noLobatto3_num:∀ x∈noLobatto3,0≤x∧x<1000000271:=by decide
theorem noLobatto3_nd:noLobatto3.Nodup:=by decide
set_option maxHeartbeats 2000000 in
theorem spec_Lobatto3 (w:World):Calls Tryz.prog 95 #[.int .i64 3] w fun e w'=>e = .returned (.slice (some ⟨w.heap.size,0,none⟩) 3 3)∧OwnI w' w.heap.size w'.heap.size (some ⟨w.heap.size,0,none⟩) 3 3 noLobatto3∧Below w.heap.size w w':=by
 have v0:fracF 1 2=500000136:=by rw [frac_k];decide +kernel
 have H0:=hide fun W=>spec_Fraction 1 2 W (by constructor <;> omega) (by constructor <;> omega)
 rw [v0] at H0
 clear v0
 have HO:=hide (litsD (w:=w) (xs:=noLobatto3) (n:=3) rfl (by omega) (fun x hx=>by have:=noLobatto3_num x hx;constructor <;> omega))
 have HB:=hide (below_alloc w (.cells (iCells noLobatto3) 3))
 go_enter Tryz.func95,Tryz.ntmps95
 go_wp2_with (first | (go_at_call 31;refine (H0.out _).mono ?_;rintro e w' ⟨rfl,rfl⟩;clear H0))
 go_ret
 exact ⟨rfl,HO.out,HB.out⟩
def noLobatto4:List Int:=[0,683861474,316138798,1]
theorem noLobatto4_num:∀ x∈noLobatto4,0≤x∧x<1000000271:=by decide
theorem noLobatto4_nd:noLobatto4.Nodup:=by decide
set_option maxHeartbeats 2000000 in
theorem spec_Lobatto4 (w:World):Calls Tryz.prog 95 #[.int .i64 4] w fun e w'=>e = .returned (.slice (some ⟨w.heap.size,0,none⟩) 4 4)∧OwnI w' w.heap.size w'.heap.size (some ⟨w.heap.size,0,none⟩) 4 4 noLobatto4∧Below w.heap.size w w':=by
 have v0:fracF 1 2=500000136:=by rw [frac_k];decide +kernel
 have H0:=hide fun W=>spec_Fraction 1 2 W (by constructor <;> omega) (by constructor <;> omega)
 rw [v0] at H0
 clear v0
 have v1:sqrtF 5=161387162:=by rw [sqrt_k];decide +kernel
 have H1:=hide fun W=>spec_l7Root 5 W (by constructor <;> omega)
 rw [v1] at H1
 clear v1
 have v2:fracF 161387162 10=816138933:=by rw [frac_k];decide +kernel
 have H2:=hide fun W=>spec_Fraction 161387162 10 W (by constructor <;> omega) (by constructor <;> omega)
 rw [v2] at H2
 clear v2
 have v3:minusF 500000136 816138933=683861474:=by decide +kernel
 have H3:=hide fun W=>spec_Minus 500000136 816138933 W (by constructor <;> omega) (by constructor <;> omega)
 rw [v3] at H3
 clear v3
 have v4:plusF 500000136 816138933=316138798:=by decide +kernel
 have H4:=hide fun W=>spec_Plus 500000136 816138933 W (by constructor <;> omega) (by constructor <;> omega)
 rw [v4] at H4
 clear v4
 have HO:=hide (litsD (w:=w) (xs:=noLobatto4) (n:=4) rfl (by omega) (fun x hx=>by have:=noLobatto4_num x hx;constructor <;> omega))
 have HB:=hide (below_alloc w (.cells (iCells noLobatto4) 3))
 go_enter Tryz.func95,Tryz.ntmps95
 go_wp2_with (first | (go_at_call 31;refine (H0.out _).mono ?_;rintro e w' ⟨rfl,rfl⟩;clear H0) | (go_at_call 113;refine (H1.out _).mono ?_;rintro e w' ⟨rfl,rfl⟩;clear H1) | (go_at_call 31;refine (H2.out _).mono ?_;rintro e w' ⟨rfl,rfl⟩;clear H2) | (go_at_call 30;refine (H3.out _).mono ?_;rintro e w' ⟨rfl,rfl⟩;clear H3) | (go_at_call 88;refine (H4.out _).mono ?_;rintro e w' ⟨rfl,rfl⟩;clear H4))
 go_ret
 exact ⟨rfl,HO.out,HB.out⟩
end Go.Proofs.YtomgcbfcnjbofaaGreat
