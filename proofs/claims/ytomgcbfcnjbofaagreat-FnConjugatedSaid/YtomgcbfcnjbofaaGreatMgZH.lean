/- Two tableaus drawn from bytes: the reference's walk. -/
import Derived.Test.YtomgcbfcnjbofaaGreatDtL
import Derived.Test.YtomgcbfcnjbofaaGreatRows
import Derived.Test.YtomgcbfcnjbofaaGreatMgA
import Derived.Test.YtomgcbfcnjbofaaGreatMgZD
import Derived.ProofKit
import Derived.OpenShut
import Derived.ShutString
import Derived.ChangeOld
import Derived.Below
namespace Go.Proofs.YtomgcbfcnjbofaaGreat
open Go.RowKit
set_option linter.unusedSimpArgs false
set_option linter.unusedVariables false
set_option maxRecDepth 20000
set_option maxRecDepth 100000 in
set_option maxHeartbeats 8000000 in
theorem spec_DrawMethods (hi:Nat) (C:Option Addr) (nC cC:Nat) (w:World) (h:Bytes w 0 hi C nC cC) (hh:hi≤w.heap.size) :
  Calls Tryz.prog 5 #[.slice C nC cC] w fun e w'=>∃ s2 A n c xs B m d ys s3 A3 n3 c3 B3 m3 d3,e = .returned (.tuple #[.agg #[.int .i64 s2,.slice A n c,.slice B m d],.agg #[.int .i64 s3,.slice A3 n3 c3,.slice B3 m3 d3]])∧n≤100000∧m≤100000∧TabR w w' A n c xs B m d ys∧Below w.heap.size w w':=by
 have b0:Below w.heap.size w ((w.alloc (.cells #[.int .i64 0,.slice none 0 0,.slice none 0 0] 26)).alloc (.cells #[.int .i64 0,.slice none 0 0,.slice none 0 0] 26)):=by (repeat (first | with_reducible exact Below.refl _ _ | with_reducible exact Below.refl _ _ | with_reducible refine Below.drew ?_ | ((with_reducible refine Below.alloc ?_ ?_ _);rotate_left;· first | omega | (simp [World.setCell];done) | (simp [World.setCell];omega)) | ((with_reducible refine Below.setCell ?_ ?_ _);rotate_left;· first | exact Nat.le_refl _ | omega | (simp;done) | (simp;omega))))
 have kA:=(BlkN.new w #[.int .i64 0,.slice none 0 0,.slice none 0 0] 26).alloc (.cells #[.int .i64 0,.slice none 0 0,.slice none 0 0] 26)
 have kB:=BlkN.new (w.alloc (.cells #[.int .i64 0,.slice none 0 0,.slice none 0 0] 26)) #[.int .i64 0,.slice none 0 0,.slice none 0 0] 26
 rw [show (w.alloc (.cells #[.int .i64 0,.slice none 0 0,.slice none 0 0] 26)).heap.size=w.heap.size+1 from by simp] at kB
 have z0:((w.alloc (.cells #[.int .i64 0,.slice none 0 0,.slice none 0 0] 26)).alloc (.cells #[.int .i64 0,.slice none 0 0,.slice none 0 0] 26)).heap.size=w.heap.size+2:=by simp
 have H0:=hide (h.below b0 hh)
 clear h
 go_enter Tryz.func5,Tryz.ntmps5
 go_wp2_with fail
 generalize (w.alloc (.cells #[.int .i64 0,.slice none 0 0,.slice none 0 0] 26)).alloc (.cells #[.int .i64 0,.slice none 0 0,.slice none 0 0] 26)=W at b0 kA kB z0 H0 ⊢
 refine (spec_l1New hi C nC cC W H0.out (by omega)).mono ?_
 rintro e w1 ⟨rfl,c1,b1⟩
 have kA1:=kA.below b1
 have kB1:=kB.below b1
 have b01:=b0.trans (b1.mono (by omega))
 have hgW:w.heap.size+2≤W.heap.size∧W.heap.size≤w.heap.size+2:=by omega
 obtain ⟨gc,hgc⟩:∃ z,z=W.heap.size:=⟨_,rfl⟩
 rw [← hgc] at c1 hgW ⊢
 have hgc1:=c1.lt.1
 clear kA kB b0 b1 z0 H0 hgc
 go_wp2_with fail
 refine (spec_dTableau hi gc w1 c1).mono ?_
 rintro e w2 ⟨s2,A,n,c,xs,B,m,d,ys,rfl,hn,hm,r2,c2,t2⟩
 have kA2:=kA1.touch t2 (.inl (by omega))
 have kB2:=kB1.touch t2 (.inl (by omega))
 have z2:=t2.size
 have T02:Touch gc (gc+1) w1 w2:=t2
 clear kA1 kB1 t2 c1
 go_wp2_with fail
 refine (spec_dTableau hi gc w2 c2).mono ?_
 rintro e w3 ⟨s3,A3,n3,c3,x3,B3,m3,d3,y3,rfl,hn3,hm3,r3,c3',t3⟩
 have kA3:=kA2.touch t3 (.inl (by omega))
 have kB3:=kB2.touch t3 (.inl (by omega))
 have r23:=hide (r2.touch t3 (by omega))
 have T03:=T02.trans t3
 have zw1:=b01.size
 have B03:Hid (Below w.heap.size w w3):=b01.trans (T03.below (by omega) (by omega))
 have U1:=kA3.c 0 rfl
 have U2:=kA3.c 1 rfl
 have U3:=kA3.c 2 rfl
 have V1:=kA3.f 0
 have V2:=kA3.f 1
 have V3:=kA3.f 2
 have zA:=kA3.lt
 have U4:=kB3.c 0 rfl
 have U5:=kB3.c 1 rfl
 have U6:=kB3.c 2 rfl
 have V4:=kB3.f 0
 have V5:=kB3.f 1
 have V6:=kB3.f 2
 have zB:=kB3.lt
 have hA:∀ ad,A=some ad→ad.block≠w.heap.size∧ad.block≠w.heap.size+1:=fun ad e=>by have:=(owns_lt r23.out.ha.own ad e).1;omega
 have hB:∀ ad,B=some ad→ad.block≠w.heap.size∧ad.block≠w.heap.size+1:=fun ad e=>by have:=(owns_lt r23.out.hb.own ad e).1;omega
 have HD:=hide (((r23.out.stored9 w.heap.size (fun ad e=>(hA ad e).1) (fun ad e=>(hB ad e).1) (.int .i64 s2) (.slice A n c) (.slice B m d)).stored9 (w.heap.size+1) (fun ad e=>(hA ad e).2) (fun ad e=>(hB ad e).2) (.int .i64 s3) (.slice A3 n3 c3) (.slice B3 m3 d3)).up zw1)
 have HB9:=hide ((((((B03.out.setCell (p:=⟨w.heap.size,0,none⟩) (Nat.le_refl _) (.int .i64 s2)).setCell (p:=⟨w.heap.size,1,none⟩) (Nat.le_refl _) (.slice A n c)).setCell (p:=⟨w.heap.size,2,none⟩) (Nat.le_refl _) (.slice B m d)).setCell (p:=⟨w.heap.size+1,0,none⟩) (Nat.le_succ _) (.int .i64 s3)).setCell (p:=⟨w.heap.size+1,1,none⟩) (Nat.le_succ _) (.slice A3 n3 c3)).setCell (p:=⟨w.heap.size+1,2,none⟩) (Nat.le_succ _) (.slice B3 m3 d3))
 clear kA3 kB3 kA2 kB2 r2 r3 r23 c2 c3' t3 T02 T03 B03 hA hB
 go_wp2_with fail
 refine bodyPost_ret (v := .tuple #[.agg #[.int .i64 s2,.slice A n c,.slice B m d],.agg #[.int .i64 s3,.slice A3 n3 c3,.slice B3 m3 d3]]) (by simp [results,Tryz.results5,go_sem,U1,U2,U3,V1,V2,V3,zA,U4,U5,U6,V4,V5,V6,zB]) rfl ⟨s2,A,n,c,xs,B,m,d,ys,s3,A3,n3,c3,B3,m3,d3,rfl,hn,hm,HD.out,HB9.out⟩
end Go.Proofs.YtomgcbfcnjbofaaGreat
/- What every outer proof needs: a parameter's reading as my walks take it. -/
namespace Go.Proofs.YtomgcbfcnjbofaaGreat
open Go.ChangeShapes Go.WideShapes Go.ChangeAt Go.RowKit
set_option linter.unusedSimpArgs false
set_option linter.unusedVariables false
set_option maxRecDepth 20000
section
variable {H:Type} {enc:TypeId×Value→H} {W:World} {sp:Nat→Bool} {held:Bool} {fuel:Nat} {cs:List Value} {x:DataW H×List MemPlace}
theorem u8_of_wf {n:Int} (h:(Lit.int .u8 n).wf=true):0≤n∧n≤255:=by
 simp [Lit.wf,IntKind.min,IntKind.max,IntKind.signed,IntKind.bits] at h
 exact h
theorem cells_bytes (h:DataW.trod enc Tryz.prog W 0 sp held fuel 22 cs=some x):∃ A n c,cs=[.slice A n c]∧Bytes W 0 W.heap.size A n c:=by
 rcases open_ints Tryz.underlying22 Tryz.underlying5 (by kernel_rfl) h with ⟨rfl,_⟩ | ⟨a,len,cap,zs,rfl,_,hl,hm,hz,_,hcell,hwz⟩
 ·exact ⟨none,0,0,rfl,Nat.le_refl _,by omega,fun h=>absurd h (by omega)⟩
 ·have hle:len≤zs.length:=by rw [hz];split <;> omega
  refine ⟨some a,len,cap,rfl,hl,by unfold maxLen at hm;omega,fun hn=>?_⟩
  have hat:∀ j,j<len→∃ y:Int,W.cell? (a.add j)=some (.int .u8 y)∧0≤y∧y≤255:=by
   intro j hj
   have h1:=hcell j (by omega)
   refine ⟨_,h1,?_⟩
   have h2:zs.getD j 0∈zs:=by
    rw [List.getD,List.getElem?_eq_getElem (show j<zs.length by omega)]
    exact List.getElem_mem _
   exact u8_of_wf (hwz _ h2)
  obtain ⟨y,h0,_⟩:=hat 0 hn
  have:=World.block_lt_of_cell? W _ h0
  exact ⟨a,rfl,Nat.zero_le _,by rwa [block_of_add] at this,hat⟩
theorem open_pbytes {A:Option Addr} {n c:Nat} {d:DataW H} {p:List MemPlace} (h:DataW.Trod enc Tryz.prog W 0 sp held 22 (.slice A n c) d p):Bytes W 0 W.heap.size A n c:=by
 obtain ⟨m,hm⟩:=h
 obtain ⟨A',n',c',he,hi⟩:=cells_bytes hm
 simp [Value.cells] at he
 obtain ⟨rfl,rfl,rfl⟩:=he
 exact hi
end
end Go.Proofs.YtomgcbfcnjbofaaGreat
