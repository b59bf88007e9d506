/- The reduction of a system: the reference's walk. -/
import Derived.Test.YtomgcbfcnjbofaaGreatMgW
namespace Go.Proofs.YtomgcbfcnjbofaaGreat
open Go.RowKit
set_option linter.unusedSimpArgs false
set_option linter.unusedVariables false
set_option maxRecDepth 20000
theorem minus_times (a b c:Int):minusF a (timesF b c)=minusF a (b*c):=by
 unfold minusF timesF
 generalize b*c=x
 omega
theorem elim_zero {r t:List Int} {k:Nat} (h:r.length=k∧∀ x∈r,0≤x∧x<1000000271) (ht:t.length=k):elimF 0 r t=r:=by
 apply List.ext_getElem?
 intro j
 by_cases hj:j<k
 ·rw [elim_at h.1 ht hj,List.getElem?_eq_getElem (by omega)]
  have hb:=h.2 r[j] (List.getElem_mem _)
  simp only [Int.zero_mul,minusF,Int.sub_zero]
  rw [List.getD_eq_getElem?_getD,List.getElem?_eq_getElem (by omega)]
  simp
  omega
 ·have hl:(elimF 0 r t).length=k:=by simp [elimF,h.1,ht]
  rw [List.getElem?_eq_none (by omega),List.getElem?_eq_none (by omega)]
theorem elims_row' {c top n i k:Nat} {M:List (List Int)} (hM:NumM k M) (hl:M.length=n) (ht:top<n) (hi:i<n) (h1:i≠top):elimsF c top (n - i) i M=elimsF c top (n - (i+1)) (i+1) (M.set i (elimF (atM M i c) (M.getD i []) (M.getD top []))):=by
 by_cases h2:atM M i c=0
 ·rw [elims_skip hi (.inr h2),h2,elim_zero (hM.row (by omega)) (hM.row (i:=top) (by omega)).1,mat_self (by omega)]
 ·exact elims_row hi h1 h2
theorem swap_at {M:List (List Int)} {i j c:Nat} (h:j<M.length):atM (swapF M i j) j c=atM M i c:=by
 unfold atM swapF
 simp [h]
theorem red_full:∀ (f c:Nat) (M:List (List Int)) (p:List Int),p.length=M.length→redF f c M p=(M,p)
 | 0,c,M,p,h=>rfl
 | f+1,c,M,p,h=>by
  have e:stepF c M p=(M,p):=step_none rfl rfl (by rw [h,Nat.sub_self,pivF])
  rw [redF,e]
  exact red_full f (c+1) M p h
set_option maxRecDepth 100000 in
set_option maxHeartbeats 16000000 in
theorem spec_l1Reduce (lo hi g n c k cols:Nat) (vs:List Value) (M:List (List Int)) (w:World) (h:MatB w w lo hi g n c k vs M) (hlo:lo≤g) (hh:hi≤w.heap.size) (hn2:n≤8) (hk:cols≤k) (hk0:0<k) (hk2:k≤9) :
  Calls Tryz.prog 109 #[.slice (some ⟨g,0,none⟩) n c,.int .i64 (cols:Int)] w fun e w'=>∃ A m d vs',e = .returned (.slice A m d)∧RedS w w' lo hi g n c k vs' (redF cols 0 M []).1 w'.heap.size A m d (redF cols 0 M []).2:=by
 obtain ⟨i0,hi0,hz0,hz1,hz2⟩:=info_parts info_int
 have hcb:=h.rows.capb
 have s0:RedS w (w.alloc (.cells #[] 3)) lo hi g n c k vs M (w.alloc (.cells #[] 3)).heap.size (some ⟨w.heap.size,0,none⟩) 0 0 []:=by
  have hb:=below_alloc w (.cells #[] 3)
  refine ⟨h.keep (fun b hb'=>hb.block b (by omega)) (hb.mono (by have:=h.glt;omega)),⟨by simpa using World.ownsRow_lit (size:=1) (e:=3) (base:=w.heap.size) w #[] 0 (Nat.le_refl _) (by unfold maxLen;omega) rfl,fun ad e=>by injection e with e;subst e;simp,by simp⟩,rfl,hh⟩
 have hml:=h.len
 clear h
 go_enter Tryz.func109,Tryz.ntmps109
 go_wp2_with fail
 generalize w.alloc (.cells #[] 3)=W at s0 ⊢
 go_loopw [5,6] (fun p i wr=>∃ (cc m d:Nat) (A:Option Addr) (vs:List Value) (Mc:List (List Int)) (pc:List Int),cc≤cols∧i = .int .i64 cc∧p = .slice A m d∧m≤n∧RedS w wr lo hi g n c k vs Mc wr.heap.size A m d pc∧Hid (redF cols 0 M []=redF (cols - cc) cc Mc pc))
  (fun _ i _=>cols - (intOf i).toNat)
 case atStart=>exact ⟨0,0,0,_,vs,M,[],by omega,rfl,rfl,by omega,by rw [s0.siz];exact s0,rfl⟩
 case round =>
  clear s0
  obtain ⟨cc,m,d,A,vs,Mc,pc,hcc,rfl,rfl,hm,hS,hR⟩:=hrel
  have hpl:=hS.own.len
  have hdb:=hS.own.capb
  have hMl:=hS.mat.len
  by_cases hlt:cc<cols
  ·by_cases hmf:m=n
   ·have e:=red_full (cols - cc) cc Mc pc (by omega)
    rw [← hR.out] at e
    have HE:=hide e
    have HS:=hide hS
    subst hmf
    clear e hS hR
    go_wp2_with fail
    go_ret
    exact ⟨A,m,d,vs,rfl,by rw [HE.out];exact HS.out⟩
   have hmn0:m<n:=by omega
   have HS:=hide hS
   have HPL:=hide hpl
   have HML:=hide hMl
   clear hS hpl hMl
   go_wp2_with fail
   go_loop [8] (fun i=>∃ (a:Nat),m≤a∧a≤n∧i = .int .i64 a∧Hid (pivF Mc cc (n - m) m=pivF Mc cc (n - a) a)) (fun i=>n - (intOf i).toNat)
   case atStart=>exact ⟨m,by omega,by omega,rfl,rfl⟩
   case round =>
    obtain ⟨a,ha1,ha2,rfl,hp⟩:=hrel
    by_cases hlt2:a<n
    ·obtain ⟨b,db,r1,r2,r3,r4,r5,r6,r7⟩:=HS.out.mat.row hlt2 hk0
     obtain ⟨e1,e2,e3,e4⟩:=HS.out.mat.cell r2 hlt2 (show cc<k by omega)
     by_cases hz:atM Mc a cc=0
     ·have hG:Hid (pivF Mc cc (n - m) m=pivF Mc cc (n - (a+1)) (a+1)):=hp.out.trans (piv_step hlt2 hz)
      rw [hz] at e1
      clear e3 e4 hz hp r2
      go_wp2_with fail
      go_round
      case rel=>exact ⟨a+1,by omega,by omega,by go_num,hG⟩
      case measure=>simp [intOf];omega
     ·have hG:Hid (pivF Mc cc (n - m) m=a):=hp.out.trans (piv_hit hlt2 hz)
      have hne:(atM Mc a cc == 0)=false:=by simpa using hz
      have hna:¬ (a:Int)=n:=by omega
      obtain ⟨bt,dt,t1,t2,t3,t4,t5,t6,t7⟩:=HS.out.mat.row (show m<n by omega) hk0
      have f1:=HS.out.mat.fro a
      have f2:=HS.out.mat.fro m
      have hSW:=hide (HS.out.swap r2 t2 hlt2 (by omega) hlo)
      clear hp hz
      have hmn:m<n:=by omega
      have hSWd:=hide (HS.out.swap r2 t2 hlt2 hmn hlo)
      have q2:((vs.set a (Value.slice (some ⟨bt,0,none⟩) k dt)).set m (Value.slice (some ⟨b,0,none⟩) k db))[m]? = some (Value.slice (some ⟨b,0,none⟩) k db):=List.getElem?_set_self (by have:=HS.out.mat.rows.vlen;simp;omega)
      clear hSW
      obtain ⟨vs1,hv1⟩:∃ v,v=(vs.set a (Value.slice (some ⟨bt,0,none⟩) k dt)).set m (Value.slice (some ⟨b,0,none⟩) k db):=⟨_,rfl⟩
      obtain ⟨M1,hM1⟩:∃ v,v=swapF Mc a m:=⟨_,rfl⟩
      rw [← hv1] at q2
      rw [← hv1,← hM1] at hSWd
      have HM1:=hide hM1
      have hxa:atM M1 m cc=atM Mc a cc:=by rw [hM1];exact swap_at (by have:=HML.out;omega)
      have hrx:R64 (atM Mc a cc):=by constructor <;> omega
      obtain ⟨x,hx⟩:∃ x,x=invF (atM Mc a cc):=⟨_,rfl⟩
      have hxb:=invF_bd (atM Mc a cc)
      have hI:Hid (∀ W,Calls Tryz.prog 67 #[.int .i64 (atM Mc a cc)] W fun e w'=>e = .returned (.int .i64 x)∧W=w'):=fun W=>by rw [hx];exact spec_Inverse _ W hrx
      rw [← hx] at hxb
      rw [← hxa] at hx
      have HX:=hide hx
      have HRX:=hide (show R64 x by constructor <;> omega)
      have q5:=hide r5
      have q6:=hide r6
      have hbg:=hide r7
      obtain ⟨sz,hsz⟩:∃ s,s=wr.heap.size:=⟨_,rfl⟩
      rw [← hsz] at hSWd
      have hba:=hide r2
      have hbm:=hide t2
      clear hv1 hM1 r2 t2 r3 r4 t3 t4 t5 t6 t7 e2 e3 e4 hcc ha1 ha2 hrx hx hxa hsz r5 r6
      by_cases ham:a=m
      case' pos =>
       obtain rfl:m=a:=ham.symm
       obtain ⟨rfl,rfl⟩:b=bt∧db=dt:=by
        have e:=hba.out.symm.trans hbm.out
        injection e with e
        injection e with e1 e2 e3
        injection e1 with e1
        injection e1 with e1
        exact ⟨e1,e3⟩
       clear t1
       go_wp2_with (go_at_call 67;refine (hI.out _).mono ?_;rintro e w' ⟨rfl,rfl⟩)
       clear r1 f1 e1
       generalize ((wr.setCell ⟨g,m,none⟩ (.slice (some ⟨b,0,none⟩) k db)).setCell ⟨g,m,none⟩ (.slice (some ⟨b,0,none⟩) k db))=V at hSWd ⊢
      case' neg =>
       have ham2:¬ m=a:=fun e=>ham e.symm
       go_wp2_with (go_at_call 67;refine (hI.out _).mono ?_;rintro e w' ⟨rfl,rfl⟩)
       clear r1 t1 f1 e1 ham2
       generalize ((wr.setCell ⟨g,a,none⟩ (.slice (some ⟨bt,0,none⟩) k dt)).setCell ⟨g,m,none⟩ (.slice (some ⟨b,0,none⟩) k db))=V at hSWd ⊢
      all_goals
       clear f2 hI ham hba hbm hbg
       go_loopw [11] (fun i wr2=>∃ (j:Nat),j≤k∧i = .int .i64 j∧RedS w wr2 lo hi g n c k vs1 (M1.set m (mixL (scalRowF x (M1.getD m [])) (M1.getD m []) j)) sz A m d pc) (fun i _=>k - (intOf i).toNat)
       case atStart =>
        refine ⟨0,by omega,rfl,?_⟩
        rw [mixL_zero,mat_self (by rw [hSWd.out.mat.len];exact hmn)]
        exact hSWd.out
       case round =>
        obtain ⟨j,hj,rfl,hT⟩:=hrel
        have p1:=hT.mat.rows.cell q2
        by_cases hlt3:j<k
        ·have hMl:=hT.mat.len
         rw [List.length_set] at hMl
         have hr0:=hSWd.out.mat.num.row (i:=m) (by omega)
         obtain ⟨p2,p3,p4,p5⟩:=hT.mat.cell q2 hmn hlt3
         obtain ⟨y,hy⟩:∃ y,y=(M1.getD m []).getD j 0:=⟨_,rfl⟩
         rw [mat_at (by omega) (num_scale x hr0.1).1 hlt3,← hy] at p2 p4 p5
         have hry:R64 y:=by constructor <;> omega
         have hsc:=scale_at (x:=x) hr0.1 hlt3
         rw [← hy] at hsc
         have hN:=hT.setIn (j:=j) q2 hmn q6.out q5.out (timesF_bd y x)
         rw [mat_step (by omega) (num_scale x hr0.1).1 hr0.1 hlt3 hsc] at hN
         have HN:=hide hN.drew
         have HT:=hide (spec_Times y x)
         clear hT hr0 hy hsc hN p4 p5
         go_wp2_with fail
         refine still_tail 15 (by kernel_rfl) (by kernel_rfl) ?_
         simp only [List.take_succ_cons,List.take_zero,List.drop_succ_cons,List.drop_zero]
         repeat still_step
         still_call (still_same (HT.out _ hry HRX.out))
         repeat still_step
         refine wpStill_nil ?_
         go_wp2_with fail
         go_roundw
         case rel=>exact ⟨j+1,by omega,by go_num,HN.out⟩
         case measure=>simp [intOf];omega
        ·obtain rfl:k=j:=by omega
         have hr0:=hSWd.out.mat.num.row (i:=m) (by rw [hSWd.out.mat.len];exact hmn)
         rw [mixL_all (num_scale x hr0.1).1 hr0.1] at hT
         obtain ⟨M2,hM2⟩:∃ v,v=M1.set m (scalRowF x (M1.getD m [])):=⟨_,rfl⟩
         rw [← hM2] at hT
         have HM2:=hide hM2
         have HT:=hide hT
         clear hr0 hT hM2 hSWd
         go_wp2_with fail
         go_loopw [8] (fun i wr3=>∃ (ii:Nat) (Mi:List (List Int)),ii≤n∧i = .int .i64 ii∧RedS w wr3 lo hi g n c k vs1 Mi sz A m d pc∧Hid (elimsF cc m n 0 M2=elimsF cc m (n - ii) ii Mi)) (fun i _=>n - (intOf i).toNat)
         case atStart=>exact ⟨0,M2,by omega,rfl,HT.out,rfl⟩
         case round =>
          obtain ⟨ii,Mi,hii,rfl,hU,hE⟩:=hrel
          clear HT
          by_cases hlt4:ii<n
          ·obtain ⟨b2,d2,s1,s2,s3,s4,s5,s6,s7⟩:=hU.mat.row hlt4 hk0
           obtain ⟨c1,c2,c3,c4⟩:=hU.mat.cell s2 hlt4 (show cc<k by omega)
           have HU:=hide hU
           have hml2:=hU.mat.len
           by_cases him:ii=m
           ·have hE2:Hid (elimsF cc m n 0 M2=elimsF cc m (n - (ii+1)) (ii+1) Mi):=hE.out.trans (elims_skip hlt4 (.inl him))
            subst him
            clear hU c2 c3 c4 s2 hE
            go_wp2_with fail
            go_loopw [13] (fun i wr4=>i = .int .i64 0∧RedS w wr4 lo hi g n c k vs1 Mi sz A ii d pc∧wr4.cell? ⟨g,ii,none⟩=some (.slice (some ⟨b2,0,none⟩) k d2)) (fun _ _=>0)
            case atStart=>exact ⟨rfl,HU.out,s1⟩
            case round =>
             obtain ⟨rfl,hT,s1'⟩:=hrel
             clear c1 s1 HU
             have HT2:=hide hT
             clear hT
             go_wp2_with fail
             go_roundw
             case rel=>exact ⟨ii+1,Mi,by omega,by go_num,HT2.out,hE2⟩
             case measure=>simp [intOf];omega
           ·have hne4:((ii:Int) == (m:Int))=false:=by simp;omega
            have hE2:Hid (elimsF cc m n 0 M2=elimsF cc m (n - (ii+1)) (ii+1) (Mi.set ii (elimF (atM Mi ii cc) (Mi.getD ii []) (Mi.getD m [])))):=hE.out.trans (elims_row' HU.out.mat.num hml2 hmn hlt4 him)
            obtain ⟨mm,hmm⟩:∃ v,v=atM Mi ii cc:=⟨_,rfl⟩
            rw [← hmm] at hE2 c1 c3 c4
            have hri:=hU.mat.num.row (i:=ii) (by omega)
            have hrt:=hU.mat.num.row (i:=m) (by omega)
            have HRI:=hide hri
            have HRT:=hide hrt
            clear hU c2 hE hmm hri hrt
            go_wp2_with fail
            clear c1 s1
            go_loopw [13] (fun i wr4=>∃ (j:Nat),j≤k∧i = .int .i64 j∧RedS w wr4 lo hi g n c k vs1 (Mi.set ii (mixL (elimF mm (Mi.getD ii []) (Mi.getD m [])) (Mi.getD ii []) j)) sz A m d pc) (fun i _=>k - (intOf i).toNat)
            case atStart =>
             refine ⟨0,by omega,rfl,?_⟩
             rw [mixL_zero,mat_self (by omega)]
             exact HU.out
            case round =>
             obtain ⟨j,hj,rfl,hT⟩:=hrel
             have p1:=hT.mat.rows.cell s2
             by_cases hlt5:j<k
             ·have p0:=hT.mat.rows.cell q2
              obtain ⟨u2,u3,u4,u5⟩:=hT.mat.cell s2 hlt4 hlt5
              obtain ⟨v2,v3,v4,v5⟩:=hT.mat.cell q2 hmn hlt5
              have hle:=(num_elim mm HRI.out.1 HRT.out.1).1
              have hea:=elim_at (m:=mm) HRI.out.1 HRT.out.1 hlt5
              obtain ⟨y,hy⟩:∃ y,y=(Mi.getD ii []).getD j 0:=⟨_,rfl⟩
              obtain ⟨z,hz⟩:∃ z,z=atM Mi m j:=⟨_,rfl⟩
              rw [mat_at (by omega) hle hlt5,← hy] at u2 u4 u5
              rw [mat_other (Ne.symm him),← hz] at v2 v4 v5
              rw [← hy,show (Mi.getD m []).getD j 0=z from hz.symm] at hea
              have hN:=hT.setIn (j:=j) s2 hlt4 s6 s5 (minusF_bd y (mm*z))
              rw [mat_step (by omega) hle HRI.out.1 hlt5 hea,← minus_times] at hN
              have HN:=hide hN.drew
              have hpb:=timesF_bd mm z
              have HP:=hide (fun W=>spec_Times mm z W (by constructor <;> omega) (by constructor <;> omega))
              obtain ⟨p,hp⟩:∃ p,p=timesF mm z:=⟨_,rfl⟩
              rw [← hp] at HN hpb HP
              have HM:=hide (fun W=>spec_Minus y p W (by constructor <;> omega) (by constructor <;> omega))
              clear hT hy hz hea hN u4 u5 v3 hle hp
              go_wp2_with fail
              refine still_tail 23 (by kernel_rfl) (by kernel_rfl) ?_
              simp only [List.take_succ_cons,List.take_zero,List.drop_succ_cons,List.drop_zero]
              iterate 20 still_step
              still_call (still_same (HP.out _))
              still_call (still_same (HM.out _))
              still_step
              refine wpStill_nil ?_
              go_wp2_with fail
              go_roundw
              case rel=>exact ⟨j+1,by omega,by go_num,HN.out⟩
              case measure=>simp [intOf];omega
             ·obtain rfl:k=j:=by omega
              rw [mixL_all (num_elim mm HRI.out.1 HRT.out.1).1 HRI.out.1] at hT
              have HT2:=hide hT
              clear hT
              go_wp2_with fail
              go_roundw
              case rel=>exact ⟨ii+1,_,by omega,by go_num,HT2.out,hE2⟩
              case measure=>simp [intOf];omega
          ·obtain rfl:n=ii:=by omega
           rw [elims_end] at hE
           have hS2:Hid (stepF cc Mc pc=(Mi,pc++[(cc:Int)])):=by
            show _=_
            rw [step_some HML.out HPL.out hG.out hlt2,← HM1.out,← HX.out,← HM2.out,hE.out]
           have hR2:Hid (redF cols 0 M []=redF (cols - (cc+1)) (cc+1) Mi (pc++[(cc:Int)])):=by
            show _=_
            rw [hR.out,red_step hlt,hS2.out]
           have HU:=hide hU
           have hown:=hU.own.own
           have hmat:=hU.mat.low.size
           have hcr:R64 (cc:Int):=by constructor <;> omega
           clear hU hE
           have HR2:=hR2
           clear hR2 hcb
           clear hR hS2
           go_wp2_with (at_builtin;refine wpl_app1 rfl (.tmp 147) (.tmp 149) 24 rfl w.heap.size 3 i0 (.int .i64 0) 1 8 Tryz.underlying24 hi0 hz0 hz1 hz2 rfl (by omega) wr #[.int .i64 (cc:Int)] A m d 1 _ rfl rfl hown rfl (by simp [Value.oneCell']) (by omega) (by omega) hmat ?_;intro A2 d9 w4 happ hlt9)
           have HN:=hide (HU.out.push happ hcr hlo)
           clear happ hown
           go_roundw
           case rel=>exact ⟨cc+1,m+1,d9,A2,vs1,Mi,pc++[(cc:Int)],by omega,by go_num,rfl,by omega,HN.out,HR2⟩
           case measure=>simp [intOf];omega
    ·obtain rfl:a=n:=by omega
     have hG:Hid (stepF cc Mc pc=(Mc,pc)):=step_none HML.out HPL.out (hp.out.trans piv_end)
     have hR2:Hid (redF cols 0 M []=redF (cols - (cc+1)) (cc+1) Mc pc):=by
      show _=_
      rw [hR.out,red_step hlt,hG.out]
     clear hp hG hR
     go_wp2_with fail
     go_roundw
     case rel=>exact ⟨cc+1,m,d,A,vs,Mc,pc,by omega,by go_num,rfl,hm,HS.out,hR2⟩
     case measure=>simp [intOf];omega
  ·obtain rfl:cc=cols:=by omega
   have e:=red_end (cols:=cc) (M:=Mc) (p:=pc)
   rw [← hR.out] at e
   have HE:=hide e
   have HS:=hide hS
   clear e hS hR
   go_wp2_with fail
   go_ret
   exact ⟨A,m,d,vs,rfl,by rw [HE.out];exact HS.out⟩
end Go.Proofs.YtomgcbfcnjbofaaGreat
/- Rows pushed whole onto an outer slice; the plain solution of a system. -/
namespace Go.Proofs.YtomgcbfcnjbofaaGreat
open Go.RowKit
set_option linter.unusedSimpArgs false
set_option linter.unusedVariables false
set_option maxRecDepth 20000
section
variable {w w':World} {lo:Nat} {A:Option Addr} {n c:Nat} {vs:List Value} {xss:List (List Int)}
theorem RowsO.olt (h:RowsO w lo A n c vs xss) (j:Nat) (v:Value) (hv:vs[j]? = some v) (k:Nat) (hk:v.ownBlock=some k):lo≤k∧k<w.heap.size:=by
 have hj:=(List.getElem?_eq_some_iff.1 hv).1
 have hvl:=h.vlen
 have hl:=h.len
 obtain ⟨B,m,d,e1,e2,_⟩:=h.row j _ (List.getElem?_eq_getElem (by omega))
 rw [hv] at e1
 injection e1 with e1
 subst e1
 exact e2.lt k hk
theorem RowsO.pushRow (h:RowsO w lo A n c vs xss) {B:Option Addr} {m d:Nat} {xs:List Int}
  (hr:w.ownsRow lo 3 1 (.slice B m d) m (xs.map (Value.int .i64))) (hR:∀ x∈xs,R64 x) {hb:Nat}
  (hB:∀ ad,B=some ad→hb≤ad.block) (hA:∀ ad,A=some ad→ad.block<hb) (hvb:∀ (j:Nat) (v:Value),vs[j]? = some v→∀ b,v.ownBlock=some b→b<hb)
  {A':Option Addr} {c':Nat} (hap:Appended w lo 24 1 A n c A' (n+1) c' (vs++[.slice B m d]) w') :
  RowsO w' lo A' (n+1) c' (vs++[.slice B m d]) (xss++[xs]):=by
 obtain ⟨h1,h2,h3⟩:=hap
 have hvl:=h.vlen
 have hvx:vs.length=xss.length:=by rw [hvl,h.len]
 have hbw:∀ k,(Value.slice B m d).ownBlock=some k→hb≤k∧k<w.heap.size:=fun k hk=>by
  obtain ⟨ad,rfl,rfl⟩:=ownBlock_eq.1 hk
  exact ⟨hB ad rfl,(owns_lt hr ad rfl).2⟩
 have hAb:∀ k,oBlk A n c=some k→k<hb:=fun k hk=>by
  obtain ⟨ad,rfl,rfl⟩:=ownBlock_eq.1 hk
  exact hA ad rfl
 have nA:∀ k,oBlk A' (n+1) c'=some k→oBlk A n c=some k∨w.heap.size≤k:=by
  intro k hk
  obtain ⟨ad,rfl,had⟩:=ownBlock_eq.1 hk
  rcases h3 with h3 | h3
  ·have:=h3 ad rfl
   subst this
   exact .inl (by simp [Value.ownBlock,had])
  ·exact .inr (by have:=h3 ad rfl;omega)
 have sepA:∀ v:Value,(v.ownBlock=none∨v.ownBlock≠oBlk A n c)→(∀ k,v.ownBlock=some k→k<w.heap.size)→v.ownBlock=none∨v.ownBlock≠oBlk A' (n+1) c':=by
  intro v hv hk
  cases hb2:v.ownBlock with
  | none=>exact .inl rfl
  | some k =>
   refine .inr fun e=>?_
   rcases nA k e.symm with e2 | e2
   ·rcases hv with h5 | h5
    ·rw [h5] at hb2;exact absurd hb2 (by simp)
    ·exact h5 (hb2.trans e2.symm)
   ·have:=hk k hb2;omega
 have newA:(Value.slice B m d).ownBlock=none∨(Value.slice B m d).ownBlock≠oBlk A n c:=by
  cases hb2:(Value.slice B m d).ownBlock with
  | none=>exact .inl rfl
  | some k=>exact .inr fun e=>by have:=hAb k e.symm;have:=(hbw k hb2).1;omega
 have hc:∀ (j:Nat) (v:Value),(vs++[Value.slice B m d])[j]? = some v→(j<n∧vs[j]? = some v)∨(j=n∧v = .slice B m d):=by
  intro j v hj
  by_cases hl:j<n
  ·rw [List.getElem?_append_left (by omega)] at hj
   exact .inl ⟨hl,hj⟩
  ·have hlt:=(List.getElem?_eq_some_iff.1 hj).1
   simp at hlt
   obtain rfl:j=n:=by omega
   refine .inr ⟨rfl,?_⟩
   rw [← hvl] at hj
   simpa using hj.symm
 refine ⟨h1,by simp [h.len],fun j ys hj=>?_,fun j v hj=>?_,fun i j u v hij hi hj=>?_⟩
 ·by_cases hl:j<n
  ·rw [List.getElem?_append_left (by have:=h.len;omega)] at hj
   obtain ⟨B1,m1,d1,e1,e2,e3⟩:=h.row j ys hj
   exact ⟨B1,m1,d1,by rw [List.getElem?_append_left (by omega)];exact e1,e2.kept h2 (h.sep j _ e1),e3⟩
  ·have hlt:=(List.getElem?_eq_some_iff.1 hj).1
   have hln:=h.len
   simp at hlt
   obtain rfl:j=n:=by omega
   obtain rfl:xs=ys:=by rw [← hln] at hj;simpa using hj
   refine ⟨_,_,_,?_,hr.kept h2 newA,hR⟩
   rw [← hvl];simp
 ·rcases hc j v hj with ⟨_,hv⟩ | ⟨_,rfl⟩
  ·exact sepA v (h.sep j v hv) fun k hk=>(h.olt j v hv k hk).2
  ·exact sepA _ newA fun k hk=>(hbw k hk).2
 ·rcases hc i u hi with ⟨_,hu⟩ | ⟨hi1,rfl⟩
  ·rcases hc j v hj with ⟨_,hv⟩ | ⟨_,rfl⟩
   ·exact h.sep2 i j u v hij hu hv
   ·cases hb2:u.ownBlock with
    | none=>exact .inl rfl
    | some k=>exact .inr fun e=>by have:=(hbw k e.symm).1;have:=hvb i u hu k hb2;omega
  ·rcases hc j v hj with ⟨_,hv⟩ | ⟨hj1,rfl⟩
   ·cases hb2:(Value.slice B m d).ownBlock with
    | none=>exact .inl rfl
    | some k=>exact .inr fun e=>by have:=(hbw k hb2).1;have:=hvb j v hv k e.symm;omega
   ·omega
end
def augF (M:List (List Int)) (r:List Int):List (List Int):=M.zipWith (fun x y=>x++[y]) r
def solF (k:Nat) (M:List (List Int)) (r:List Int):List Int:=(redF k 0 (augF M r) []).1.map fun x=>x.getD k 0
def FullF (k:Nat) (M:List (List Int)) (r:List Int):Prop:=(redF k 0 (augF M r) []).2=(List.range k).map fun i:Nat=>(i:Int)
def fpowGo:Nat→Int→Int→Int→Int
 | 0,o,_,_=>o
 | f+1,o,x,k=>if k≤0 then o else if k % 2=1 then fpowGo f (o*x % 1000000271) (x*x % 1000000271) (k / 2) else fpowGo f o (x*x % 1000000271) (k / 2)
theorem fpow_go:∀ (f:Nat) (o x k:Int),0≤o→o<1000000271→0≤k→k<2 ^ f→fpowGo f o x k=(o*x ^ k.toNat) % 1000000271
 | 0,o,x,k,h0,h1,h2,h3=>by
  obtain rfl:k=0:=by simp at h3;omega
  exact (pow_stop h0 h1).symm
 | f+1,o,x,k,h0,h1,h2,h3=>by
  rw [fpowGo]
  split
  ·obtain rfl:k=0:=by omega
   exact (pow_stop h0 h1).symm
  ·rw [Int.pow_succ] at h3
   split
   ·rw [fpow_go f _ _ _ (Int.emod_nonneg _ (by omega)) (Int.emod_lt_of_pos _ (by omega)) (by omega) (by omega),← pow_odd h2 (by assumption)]
   ·rw [fpow_go f _ _ _ h0 h1 (by omega) (by omega),← pow_even h2 (by omega)]
theorem powF_fast {a k:Int} (h:0≤k) (h2:k<2 ^ 40):powF a k=fpowGo 40 1 (resF a) k:=by
 rw [powF_start h,fpow_go 40 1 _ _ (by omega) (by omega) h h2]
theorem inv_fast (a:Int):invF a=fpowGo 40 1 (resF a) 1000000269:=powF_fast (by omega) (by omega)
end Go.Proofs.YtomgcbfcnjbofaaGreat
/- Solutions of systems: helpers of both walks. -/
namespace Go.Proofs.YtomgcbfcnjbofaaGreat
open Go.RowKit
set_option linter.unusedSimpArgs false
set_option linter.unusedVariables false
set_option maxRecDepth 20000
theorem RowsO.below {w w':World} {lo n c:Nat} {A:Option Addr} {vs:List Value} {xss:List (List Int)} (h:RowsO w lo A n c vs xss) (hb:Below w.heap.size w w'):RowsO w' lo A n c vs xss:=by
 refine ⟨owns_below h.own hb fun ad e=>(owns_lt h.own ad e).2,h.len,fun j xs hj=>?_,h.sep,h.sep2⟩
 obtain ⟨B,m,d,e1,e2,e3⟩:=h.row j xs hj
 exact ⟨B,m,d,e1,owns_below e2 hb fun ad e=>(owns_lt e2 ad e).2,e3⟩
theorem RowsO.olt2 {w:World} {lo n c:Nat} {A:Option Addr} {vs:List Value} {xss:List (List Int)} (h:RowsO w lo A n c vs xss):∀ ad,A=some ad→ad.block<w.heap.size:=fun ad e=>(owns_lt h.own ad e).2
theorem RowsO.mat {w:World} {lo n c g k:Nat} {vs:List Value} {xss:List (List Int)} (h:RowsO w lo (some ⟨g,0,none⟩) n c vs xss) (hN:NumM k xss):MatB w w lo w.heap.size g n c k vs xss :=
 ⟨h,fun j v hv b hb=>(h.olt j v hv b hb).2,h.olt2 _ rfl,hN,Below.refl _ _⟩
theorem owp_appS {P:Program} {o:Oper} {a:Act} {K:Act→World→Prop} {Q:Exit→Act→World→Prop} (s x:Operand) (t:TypeId)
  (ho:o.op = .call { callee := .builtin .append,args := #[s,x],argTypes := #[t,t] })
  (base:Nat) (e:TypeId) (i:TypeInfo) (z:Value) (size bytes:Nat) (ht:P.underlying t=some (.slice e)) (hi:P.info? e=some i) (hz:i.zero=some z)
  (hsize:i.size=size) (hby:i.bytes=bytes) (hzs:z.cells.size=size) (hsz:0<size) (w0:World) (cs:Array Value) (b:Nat) (hb:w0.heap.size=b)
  (A:Option Addr) (n c d:Nat) (xs:List Value) (hs:a.eval s = .slice A n c) (hx:a.eval x = .slice (some ⟨b,0,none⟩) 1 d) (hown:w0.ownsRow base e size (.slice A n c) n xs)
  (hcs:cs.size=size) (h1:∀ u∈cs.toList,u.oneCell'=true) (hn:n+1≤1099511627776) (hbytes:bytes≤128) (hbase:base≤w0.heap.size)
  (h:∀ A' c' w',Appended w0 base e size A n c A' (n+1) c' (xs++cs.toList) w'→w0.heap.size<w'.heap.size→K (a.put o.dst (.slice A' (n+1) c')) w'):Oper.wp P o a (w0.alloc (.cells cs e)) K Q:=by
 subst hb
 obtain ⟨A',c',w',hrun,h2,h3⟩:=run_app1 (P:=P) w0 base t o.type e i z size bytes ht hi hz hsize hby hzs hsz A n c xs hown cs d hcs h1 hn hbytes hbase
 unfold Oper.wp
 simp [execOp,ho,resolve,invoke,builtin,hs,hx,hrun,Result.andThen]
 exact h A' c' w' h2 h3
theorem aug_at {M:List (List Int)} {r:List Int} {j:Nat} {x:List Int} {y:Int} (hx:M[j]? = some x) (hy:r[j]? = some y):(augF M r)[j]? = some (x++[y]):=by
 simp [augF,List.getElem?_zipWith,hx,hy]
theorem aug_len {M:List (List Int)} {r:List Int} {n:Nat} (h:M.length=n) (h2:r.length=n):(augF M r).length=n:=by simp [augF,h,h2]
theorem aug_num {M:List (List Int)} {r:List Int} {n k:Nat} (hM:NumM k M) (hl:M.length=n) (h2:r.length=n) (hr:∀ x∈r,0≤x∧x<1000000271):NumM (k+1) (augF M r):=by
 intro s hs
 obtain ⟨j,hj,e⟩:=List.getElem_of_mem hs
 have hj':j<n:=by rw [aug_len hl h2] at hj;exact hj
 have e2:=aug_at (List.getElem?_eq_getElem (show j<M.length by omega)) (List.getElem?_eq_getElem (show j<r.length by omega))
 rw [List.getElem?_eq_getElem hj,e] at e2
 injection e2 with e2
 subst e2
 have h3:=hM _ (List.getElem_mem (show j<M.length by omega))
 refine ⟨by simp [h3.1],fun x hx=>?_⟩
 rcases List.mem_append.1 hx with hx | hx
 ·exact h3.2 x hx
 ·obtain rfl:x=r[j]:=by simpa using hx
  exact hr _ (List.getElem_mem _)
theorem take_snoc0 {α:Type} {xs:List α} {k:Nat} {x:α} (hx:xs[k]? = some x):xs.take k++[x]=xs.take (k+1):=by
 rw [List.take_add_one,hx];rfl
def idxL (n:Nat):List Int:=(List.range n).map fun i:Nat=>(i:Int)
theorem idxL_at {n i:Nat} (h:i<n):(idxL n)[i]? = some (i:Int):=by simp [idxL,h]
structure SolS (w0 w:World) (lo hi g n c k:Nat) (vs:List Value) (M:List (List Int)) (go:Nat) (A:Option Addr) (d:Nat) (zs:List Int):Prop where
 mat:MatB w0 w lo hi g n c k vs M
 piv:OwnI w hi go A n d (idxL n)
 out:OwnI w go (go+1) (some ⟨go,0,none⟩) n n zs
 hig:hi≤go
section
variable {w0 w:World} {lo hi g n c k:Nat} {vs:List Value} {M:List (List Int)} {go:Nat} {A:Option Addr} {d:Nat} {zs:List Int}
theorem SolS.drew (h:SolS w0 w lo hi g n c k vs M go A d zs):SolS w0 w.drew lo hi g n c k vs M go A d zs :=
 ⟨h.mat.drew,h.piv.same (fun _ _ _=>rfl),h.out.same (fun _ _ _=>rfl),h.hig⟩
theorem SolS.set (h:SolS w0 w lo hi g n c k vs M go A d zs) (hlo:lo≤go) {i:Nat} {x:Int} (hx:R64 x):SolS w0 (w.setCell ⟨go,i,none⟩ (.int .i64 x)) lo hi g n c k vs M go A d (zs.set i x):=by
 have hg:=h.hig
 refine ⟨h.mat.keep (fun b hb=>Below.heap_setCell _ _ _ _ (by show b≠go;omega)) ((Below.refl _ _).setCell hlo _),h.piv.same (Same.setCell (p:=⟨go,i,none⟩) (Same.refl _ _ _) (.inr (Nat.le_refl _)) _),⟨?_,fun ad e=>by injection e with e;subst e;exact Nat.lt_succ_self _,fun y hy=>?_⟩,hg⟩
 ·rw [List.map_set]
  exact (h.out.own.stored i (.int .i64 x)).1
 ·rcases List.mem_or_eq_of_mem_set hy with hy | rfl
  ·exact h.out.rng y hy
  ·exact hx
theorem SolS.start {w1:World} {m:Nat} {pc:List Int} (h:RedS w0 w1 lo hi g n c k vs M w1.heap.size A m d pc) (hp:pc=idxL n) (hn:n≤8) (hhi:hi=w0.heap.size):n=m∧SolS w0 (w1.alloc (.cells (zeros n) 3)) lo hi g n c k vs M w1.heap.size A d (List.replicate n 0):=by
 have hb:=below_alloc w1 (.cells (zeros n) 3)
 have hs:=h.mat.low.size
 subst hp hhi
 have hm:n=m:=by have:=h.own.len;simpa [idxL] using this
 subst hm
 refine ⟨rfl,h.mat.keep (fun b hb2=>hb.block b (by omega)) (hb.mono ?_),h.own.below hb (Nat.le_refl _),⟨owns_zeros w1 n (by omega) (Nat.le_refl _),fun ad e=>by injection e with e;subst e;exact Nat.lt_succ_self _,fun x hx=>by have:=(List.mem_replicate.1 hx).2;subst this;constructor <;> omega⟩,hs⟩
 have:=(h.mat.rows.own.lt g rfl)
 omega
end
theorem sol_at {n i:Nat} {M:List (List Int)} (h:i<M.length):(M.map fun x=>x.getD n 0)[i]? = some (atM M i n):=by
 rw [List.getElem?_map,List.getElem?_eq_getElem h]
 simp [atM,h]
theorem red_len (f c:Nat) (M:List (List Int)) (p:List Int):(redF f c M p).1.length=M.length:=by
 induction f generalizing c M p with
 | zero=>rfl
 | succ f ih =>
  rw [redF,ih]
  unfold stepF
  simp only []
  split
  ·rfl
  ·have:∀ (f i:Nat) (M:List (List Int)) (t:Nat),(elimsF c t f i M).length=M.length:=by
    intro f
    induction f with
    | zero=>intros;rfl
    | succ f ih2=>intro i M t;rw [elimsF,ih2];split <;> simp
   rw [this]
   simp [swapF]
theorem sol_len {n:Nat} {xss:List (List Int)} {ys:List Int} (h:xss.length=n) (h2:ys.length=n):(solF n xss ys).length=n:=by
 unfold solF
 rw [List.length_map,red_len,aug_len h h2]
def mixR {α:Type} (new old:List α) (j:Nat):List α:=new.take j++old.drop j
theorem mixR_zero {α:Type} (new old:List α):mixR new old 0=old:=by simp [mixR]
theorem mixR_all {α:Type} {new old:List α} {k:Nat} (h1:new.length=k) (h2:old.length=k):mixR new old k=new:=by simp [mixR,List.take_of_length_le (Nat.le_of_eq h1),List.drop_eq_nil_of_le (Nat.le_of_eq h2)]
theorem mixR_at {α:Type} {new old:List α} {k j:Nat} (h1:new.length=k) (hj:j<k):(mixR new old j)[j]? = old[j]? := by
 unfold mixR
 rw [List.getElem?_append_right (by simp;omega)]
 simp [h1,Nat.min_eq_left (Nat.le_of_lt hj)]
theorem mixR_set {α:Type} {new old:List α} {k j:Nat} {x:α} (h1:new.length=k) (h2:old.length=k) (hj:j<k) (hx:new[j]? = some x):(mixR new old j).set j x=mixR new old (j+1):=by
 unfold mixR
 apply List.ext_getElem?
 intro i
 by_cases e:i=j
 ·subst e
  rw [List.getElem?_set_self (by simp [h1,h2];omega),List.getElem?_append_left (by simp;omega),List.getElem?_take_of_lt (by omega),hx]
 ·rw [List.getElem?_set_ne (by omega)]
  by_cases e2:i<j
  ·rw [List.getElem?_append_left (by simp;omega),List.getElem?_append_left (by simp;omega),List.getElem?_take_of_lt e2,List.getElem?_take_of_lt (by omega)]
  ·rw [List.getElem?_append_right (by simp;omega),List.getElem?_append_right (by simp;omega)]
   simp [h1]
   congr 1
   omega
end Go.Proofs.YtomgcbfcnjbofaaGreat
