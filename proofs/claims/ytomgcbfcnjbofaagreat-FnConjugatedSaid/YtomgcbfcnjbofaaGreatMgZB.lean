/- Reading the texts of numbers: the plain laws. -/
import Derived.Test.YtomgcbfcnjbofaaGreatMgZ
import Derived.Lib.Split
import Derived.Test.YtomgcbfcnjbofaaGreatMgZA
namespace Go.Proofs.YtomgcbfcnjbofaaGreat
open Go.RowKit
set_option linter.unusedSimpArgs false
set_option linter.unusedVariables false
set_option maxRecDepth 20000
def decL (n:Nat):List UInt8:=(decB n).data.toList
theorem decL_small {n:Nat} (h:n<10):decL n=[UInt8.ofNat (48+n)]:=by rw [decL,decB_small h];rfl
theorem decL_big {n:Nat} (h:¬ n<10):decL n=decL (n / 10)++[UInt8.ofNat (48+n % 10)]:=by
 rw [decL,decB_big h,ByteArray.data_append,Array.toList_append];rfl
def isDig (c:UInt8):Bool:=decide (48≤c.toNat) && decide (c.toNat≤57)
def digsF:List UInt8→Nat→Option Nat
 | [],n=>some n
 | c :: r,n=>if isDig c=true then digsF r (10*n+(c.toNat - 48)) else none
theorem dig_ofNat {d:Nat} (h:d<10):isDig (UInt8.ofNat (48+d))=true∧(UInt8.ofNat (48+d)).toNat=48+d:=by
 have e:(UInt8.ofNat (48+d)).toNat=48+d:=by rw [UInt8.toNat_ofNat'];omega
 refine ⟨?_,e⟩
 unfold isDig
 rw [e]
 simp
 omega
theorem digsF_append (a b:List UInt8) (n:Nat):digsF (a++b) n=(digsF a n).bind (digsF b):=by
 induction a generalizing n with
 | nil=>rfl
 | cons c r ih =>
  rw [List.cons_append,digsF,digsF]
  split
  ·exact ih _
  ·rfl
theorem decL_lt (P:Nat→Prop) (h1:∀ n,n<10→P n) (h2:∀ n,¬ n<10→P (n / 10)→P n):∀ n,P n:=by
 intro n
 induction n using Nat.strongRecOn with
 | _ n ih =>
  by_cases h:n<10
  ·exact h1 n h
  ·exact h2 n h (ih _ (by omega))
theorem digsF_dec:∀ n,digsF (decL n) 0=some n:=by
 refine decL_lt _ (fun n h=>?_) (fun n h ih=>?_)
 ·rw [decL_small h,digsF,if_pos (dig_ofNat h).1,(dig_ofNat h).2,digsF]
  congr 1;omega
 ·have hd:=dig_ofNat (d:=n % 10) (by omega)
  rw [decL_big h,digsF_append,ih]
  show digsF _ _=_
  rw [digsF,if_pos hd.1,hd.2,digsF]
  congr 1;omega
theorem decL_digs:∀ n,∀ c∈decL n,isDig c=true:=by
 refine decL_lt _ (fun n h=>?_) (fun n h ih=>?_)
 ·rw [decL_small h]
  intro c hc
  rw [List.mem_singleton.1 hc]
  exact (dig_ofNat h).1
 ·rw [decL_big h]
  intro c hc
  rcases List.mem_append.1 hc with hc | hc
  ·exact ih c hc
  ·rw [List.mem_singleton.1 hc]
   exact (dig_ofNat (by omega)).1
theorem decL_ne:∀ n,decL n≠[]:=by
 refine decL_lt _ (fun n h=>?_) (fun n h ih=>?_)
 ·rw [decL_small h];simp
 ·rw [decL_big h];simp
theorem decL_head:∀ n,1≤n→(decL n).head? ≠ some 48:=by
 refine decL_lt _ (fun n h h1=>?_) (fun n h ih h1=>?_)
 ·rw [decL_small h]
  intro e
  have e':UInt8.ofNat (48+n)=48:=by simpa using e
  have:=(dig_ofNat h).2
  rw [e'] at this
  have:(48:UInt8).toNat=48:=rfl
  omega
 ·have ih':=ih (by omega)
  rw [decL_big h]
  cases e:decL (n / 10) with
  | nil=>exact absurd e (decL_ne _)
  | cons c r=>rw [e] at ih';simpa using ih'
theorem not_mem_dig {l:List UInt8} (h:∀ c∈l,isDig c=true) {x:UInt8} (hx:isDig x=false):x ∉ l:=fun hm=>by rw [h x hm] at hx;cases hx
def rdI (s:List UInt8):Int:=if s.length=0∨10<s.length∨(1<s.length∧s.head? = some 48) then -1 else match digsF s 0 with | some n=>(n:Int) | none => -1
def rdS (s:List UInt8):Int:=if s.length=0∨10<s.length then -1 else match digsF s 0 with | some n=>(n:Int) | none => -1
theorem decL_one {n:Nat} (h:1<(decL n).length):1≤n:=by
 rcases Nat.eq_zero_or_pos n with rfl | h0
 ·rw [decL_small (by omega)] at h;simp at h
 ·exact h0
theorem rdI_dec {n:Nat} (h:(decL n).length≤10):rdI (decL n)=n:=by
 unfold rdI
 rw [if_neg,digsF_dec]
 rintro (h1 | h1 | ⟨h1,h2⟩)
 ·exact decL_ne n (List.eq_nil_of_length_eq_zero h1)
 ·omega
 ·exact decL_head n (decL_one h1) h2
theorem rdS_dec {n:Nat} (h:(decL n).length≤10):rdS (decL n)=n:=by
 unfold rdS
 rw [if_neg,digsF_dec]
 rintro (h1 | h1)
 ·exact decL_ne n (List.eq_nil_of_length_eq_zero h1)
 ·omega
theorem digsF_bd:∀ (s:List UInt8) (n m:Nat),digsF s n=some m→m<(n+1)*10 ^ s.length
 | [],n,m,h=>by
  injection h with h
  subst h
  simp
 | c :: r,n,m,h=>by
  rw [digsF] at h
  split at h
  ·rename_i hc
   have:=digsF_bd r _ m h
   simp only [isDig,Bool.and_eq_true,decide_eq_true_eq] at hc
   rw [List.length_cons,Nat.pow_succ]
   have h2:(10*n+(c.toNat - 48)+1)*10 ^ r.length≤(10*(n+1))*10 ^ r.length:=Nat.mul_le_mul_right _ (by omega)
   have h3:(n+1)*(10 ^ r.length*10)=(10*(n+1))*10 ^ r.length:=by rw [Nat.mul_comm (10 ^ r.length) 10,← Nat.mul_assoc,Nat.mul_comm (n+1) 10]
   omega
  ·cases h
def piecesF (x:UInt8):List UInt8→List (List UInt8)
 | []=>[[]]
 | c :: r=>if c=x then [] :: piecesF x r else match piecesF x r with | p :: q=>(c :: p) :: q | []=>[[c]]
theorem piecesF_ne (x:UInt8) (s:List UInt8):piecesF x s≠[]:=by
 cases s with
 | nil=>simp [piecesF]
 | cons c r =>
  rw [piecesF]
  split
  ·simp
  ·split <;> simp
theorem piecesF_none {x:UInt8}:∀ {s:List UInt8},x ∉ s→piecesF x s=[s]
 | [],_=>rfl
 | c :: r,h=>by
  simp only [List.mem_cons,not_or] at h
  rw [piecesF,if_neg (fun e=>h.1 e.symm),piecesF_none h.2]
theorem piecesF_hit {x:UInt8}:∀ {a:List UInt8} (b:List UInt8),x ∉ a→piecesF x (a++x :: b)=a :: piecesF x b
 | [],b,_=>by rw [List.nil_append,piecesF,if_pos rfl]
 | c :: r,b,h=>by
  simp only [List.mem_cons,not_or] at h
  rw [List.cons_append,piecesF,if_neg (fun e=>h.1 e.symm),piecesF_hit b h.2]
theorem cut_hit {x:UInt8}:∀ {a:List UInt8} (b:List UInt8),x ∉ a→Lib.index (a++x :: b) [x]=(a.length:Int)
 | [],b,_=>by simp [Lib.index,List.isPrefixOf]
 | c :: r,b,h=>by
  simp only [List.mem_cons,not_or] at h
  have hc:(x == c)=false:=by simpa using h.1
  rw [List.cons_append,Lib.index,cut_hit b h.2]
  have:(((r.length:Int)) == -1)=false:=by rw [beq_eq_false_iff_ne];omega
  simp [List.isPrefixOf,hc,this]
theorem cut_miss {x:UInt8}:∀ {a:List UInt8},x ∉ a→Lib.index a [x] = -1
 | [],_=>by simp [Lib.index]
 | c :: r,h=>by
  simp only [List.mem_cons,not_or] at h
  have hc:(x == c)=false:=by simpa using h.1
  rw [Lib.index,cut_miss h.2]
  simp [List.isPrefixOf,hc]
theorem libcut_hit {x:UInt8} {a:List UInt8} (b:List UInt8) (h:x ∉ a):Lib.cut (a++x :: b) [x]=(a,b,true):=by
 unfold Lib.cut
 rw [cut_hit b h,if_pos (by omega)]
 simp
theorem libcut_miss {x:UInt8} {a:List UInt8} (h:x ∉ a):Lib.cut a [x]=(a,[],false):=by
 unfold Lib.cut
 rw [cut_miss h,if_neg (by omega)]
def pwGo:Nat→Nat→Nat→Nat→Nat
 | 0,_,_,acc=>acc
 | f+1,a,k,acc=>pwGo f (a*a % 1000000271) (k / 2) (bif k % 2 == 1 then acc*a % 1000000271 else acc)
def chkTo:Nat→Nat→Bool
 | _,0=>true
 | lo,n+1=>bif pwGo 30 (lo+n) 1000000269 1*(lo+n) % 1000000271 == 1 then chkTo lo n else false
theorem chkTo_mem {lo:Nat}:∀ {n:Nat},chkTo lo n=true→∀ b,lo≤b→b<lo+n→pwGo 30 b 1000000269 1*b % 1000000271=1
 | 0,_,b,h1,h2=>by omega
 | n+1,h,b,h1,h2=>by
  rw [chkTo] at h
  cases hc:(pwGo 30 (lo+n) 1000000269 1*(lo+n) % 1000000271 == 1) with
  | false=>rw [hc] at h;cases h
  | true =>
   rw [hc] at h
   by_cases hb:b=lo+n
   ·subst hb;simpa using hc
   ·exact chkTo_mem (n:=n) h b h1 (by omega)
theorem chk0:chkTo 1 2500=true:=by decide +kernel
theorem chk1:chkTo 2501 2500=true:=by decide +kernel
theorem chk2:chkTo 5001 2500=true:=by decide +kernel
theorem chk3:chkTo 7501 2499=true:=by decide +kernel
theorem npow_mod (a n:Nat):(a % 1000000271) ^ n % 1000000271=a ^ n % 1000000271:=by
 induction n with
 | zero=>simp
 | succ n ih=>rw [Nat.pow_succ,Nat.pow_succ,Nat.mul_mod,ih,Nat.mod_mod,← Nat.mul_mod]
theorem pwGo_eq:∀ (f a k acc:Nat),k<2 ^ f→pwGo f a k acc % 1000000271=a ^ k*acc % 1000000271
 | 0,a,k,acc,h=>by
  obtain rfl:k=0:=by simpa using h
  simp [pwGo]
 | f+1,a,k,acc,h=>by
  rw [Nat.pow_succ] at h
  rw [pwGo,pwGo_eq f _ _ _ (by omega)]
  have e:a ^ k=(a*a) ^ (k / 2)*a ^ (k % 2):=by
   rw [← Nat.pow_two,← Nat.pow_mul,← Nat.pow_add,Nat.div_add_mod]
  rw [Nat.mul_mod,npow_mod,e]
  rcases Nat.mod_two_eq_zero_or_one k with h0 | h0
  ·rw [h0,← Nat.mul_mod]
   simp
  ·rw [h0,Nat.pow_one]
   simp only [beq_self_eq_true,cond_true]
   rw [Nat.mod_mod,Nat.mul_assoc,Nat.mul_mod ((a*a) ^ (k / 2)) (a*acc),Nat.mul_comm a acc]
theorem chk_all (b:Nat) (h1:1≤b) (h2:b≤9999):pwGo 30 b 1000000269 1*b % 1000000271=1:=by
 by_cases h:b<2501
 ·exact chkTo_mem chk0 b h1 (by omega)
 ·by_cases h':b<5001
  ·exact chkTo_mem chk1 b (by omega) (by omega)
  ·by_cases h'':b<7501
   ·exact chkTo_mem chk2 b (by omega) (by omega)
   ·exact chkTo_mem chk3 b (by omega) (by omega)
theorem powF_nat (a:Int) (k:Nat):powF a (k:Int)=a ^ k % 1000000271:=by
 unfold powF
 rw [if_neg (by omega),Int.toNat_natCast]
theorem cast_pow (b k:Nat) (h:b ^ k*b % 1000000271=1):(b:Int)*((b:Int) ^ k % 1000000271) % 1000000271=1:=by
 have h3:(b:Int) ^ k*b % 1000000271=1:=by
  have e:(b:Int) ^ k*b=((b ^ k*b:Nat):Int):=by rw [Int.natCast_mul,Int.natCast_pow]
  rw [e]
  generalize b ^ k*b=t at h
  omega
 rw [Int.mul_emod,Int.emod_emod_of_dvd _ (by omega),← Int.mul_emod,Int.mul_comm]
 exact h3
theorem pw_one (b k:Nat) (hk:k<2 ^ 30) (h:pwGo 30 b k 1*b % 1000000271=1):b ^ k*b % 1000000271=1:=by
 rw [Nat.mul_mod,pwGo_eq 30 b k 1 hk,Nat.mul_one,← Nat.mul_mod] at h
 exact h
theorem inv_mul (b:Nat) (h1:1≤b) (h2:b≤9999):(b:Int)*invF b % 1000000271=1:=by
 have h:=cast_pow b _ (pw_one b _ (by decide) (chk_all b h1 h2))
 rw [← powF_nat] at h
 exact h
theorem frac_of {n b:Nat} (hn:n<1000000271) (h1:1≤b) (h2:b≤9999):fracF ((n*b % 1000000271:Nat):Int) b=n:=by
 have h:=inv_mul b h1 h2
 unfold fracF timesF
 rw [Int.natCast_emod,Int.natCast_mul]
 show ((n:Int)*b) % 1000000271*invF b % 1000000271=n
 rw [Int.mul_emod,Int.emod_emod_of_dvd _ (by omega),← Int.mul_emod,Int.mul_assoc,Int.mul_emod,h,Int.mul_one,Int.emod_emod_of_dvd _ (by omega)]
 omega
theorem frac_neg (a b:Int):resF (-fracF a b)=fracF (-a) b:=by
 unfold fracF timesF resF
 rw [Int.neg_mul]
 generalize a*invF b=t
 omega
theorem frac_of_neg {n b:Nat} (hn:n<1000000271) (h1:1≤b) (h2:b≤9999):fracF (-((1000000271 - n*b % 1000000271:Nat):Int)) b=n:=by
 have h:=frac_of hn h1 h2
 rw [← fracF_res_l] at h ⊢
 have e:resF (-((1000000271 - n*b % 1000000271:Nat):Int))=resF ((n*b % 1000000271:Nat):Int):=by
  have:=Nat.mod_lt (n*b) (by decide:0<1000000271)
  unfold resF
  omega
 rw [e]
 exact h
def preI (s:List UInt8):Int :=
 if Lib.hasPrefix s [35]=true then rdI (s.drop 1)
 else
  let t:=Lib.trimPrefix s [45]
  let a:=rdI (Lib.cut t [47]).1
  let b:=if (Lib.cut t [47]).2.2=true then rdI (Lib.cut t [47]).2.1 else 1
  if a<0∨b<1 then -1
  else if t.length<s.length then resF (-fracF a b) else fracF a b
def parF (s:ByteArray):Int×Bool :=
 if 0≤preI s.data.toList∧fmtF (preI s.data.toList)=s then (preI s.data.toList,true) else (0,false)
theorem dig_ne {c:UInt8} (h:isDig c=true):c≠35∧c≠45∧c≠47:=by
 refine ⟨?_,?_,?_⟩ <;> (rintro rfl;revert h;decide)
theorem dec_cons (n:Nat):∃ c r,decL n=c :: r∧isDig c=true:=by
 cases e:decL n with
 | nil=>exact absurd e (decL_ne n)
 | cons c r=>exact ⟨c,r,rfl,decL_digs n c (by rw [e];simp)⟩
theorem dec_no47 (n:Nat):(47:UInt8) ∉ decL n:=not_mem_dig (decL_digs n) (by decide)
theorem decL_len {m n:Nat} (h:n<10 ^ (m+1)):(decL n).length≤m+1:=by
 have:=decB_size_le m n h
 rw [decL,Array.length_toList]
 exact this
def slashL (b:Nat):List UInt8:=if b=1 then [] else 47 :: decL b
theorem slash_data (b:Nat):(slashB b).data.toList=slashL b:=by
 unfold slashB slashL
 split
 ·rfl
 ·rw [ByteArray.data_append,Array.toList_append];rfl
theorem cut_slash (a b:Nat):Lib.cut (decL a++slashL b) [47]=(decL a,if b=1 then [] else decL b,decide (b≠1)):=by
 unfold slashL
 by_cases h:b=1
 ·rw [if_pos h,if_pos h,List.append_nil,libcut_miss (dec_no47 a)]
  simp [h]
 ·rw [if_neg h,if_neg h,libcut_hit _ (dec_no47 a)]
  simp [h]
theorem rd_slash {b:Nat} (h2:b≤9999):(if decide (b≠1)=true then rdI (if b=1 then [] else decL b) else 1)=(b:Int):=by
 by_cases h:b=1
 ·subst h;simp
 ·rw [if_pos (by simpa using h),if_neg h,rdI_dec (by have:=decL_len (m:=3) (n:=b) (by omega);omega)]
theorem preI_pos {n b:Nat} (hn:n<1000000271) (h1:1≤b) (h2:b≤9999) (h:n*b % 1000000271≤9999):preI (decL (n*b % 1000000271)++slashL b)=n:=by
 obtain ⟨c,r,e,hc⟩:=dec_cons (n*b % 1000000271)
 have hne:=dig_ne hc
 have hp:∀ x:UInt8,x≠c→Lib.hasPrefix (decL (n*b % 1000000271)++slashL b) [x]=false:=fun x hx=>by
  rw [e]
  simpa [Lib.hasPrefix,List.isPrefixOf] using hx
 unfold preI
 rw [if_neg (by rw [hp 35 (fun e=>hne.1 e.symm)];simp)]
 have ht:Lib.trimPrefix (decL (n*b % 1000000271)++slashL b) [45]=decL (n*b % 1000000271)++slashL b:=by
  unfold Lib.trimPrefix
  rw [if_neg (by rw [hp 45 (fun e=>hne.2.1 e.symm)];simp)]
 simp only [ht,cut_slash,rd_slash h2]
 rw [rdI_dec (by have:=decL_len (m:=3) (n:=n*b % 1000000271) (by omega);omega),if_neg (by omega),if_neg (by omega)]
 exact frac_of hn h1 h2
theorem preI_neg {n b:Nat} (hn:n<1000000271) (h1:1≤b) (h2:b≤9999) (h:999990272≤n*b % 1000000271):preI (45 :: (decL (1000000271 - n*b % 1000000271)++slashL b))=n:=by
 have hl:=Nat.mod_lt (n*b) (by decide:0<1000000271)
 unfold preI
 rw [if_neg (by simp [Lib.hasPrefix,List.isPrefixOf])]
 have ht:Lib.trimPrefix (45 :: (decL (1000000271 - n*b % 1000000271)++slashL b)) [45]=decL (1000000271 - n*b % 1000000271)++slashL b:=by
  unfold Lib.trimPrefix
  rw [if_pos (by simp [Lib.hasPrefix,List.isPrefixOf])]
  rfl
 simp only [ht,cut_slash,rd_slash h2]
 rw [rdI_dec (by have:=decL_len (m:=3) (n:=1000000271 - n*b % 1000000271) (by omega);omega),if_neg (by omega),if_pos (by simp),frac_neg]
 exact frac_of_neg hn h1 h2
theorem preI_hash {n:Nat} (hn:n<1000000271):preI (35 :: decL n)=n:=by
 unfold preI
 rw [if_pos (by simp [Lib.hasPrefix,List.isPrefixOf])]
 exact rdI_dec (decL_len (m:=9) (by omega))
theorem part_data {n b:Nat} {s:ByteArray} (h:fracTx n b=some s) :
  (n*b % 1000000271≤9999∧s.data.toList=decL (n*b % 1000000271)++slashL b)∨(999990272≤n*b % 1000000271∧s.data.toList=45 :: (decL (1000000271 - n*b % 1000000271)++slashL b)):=by
 unfold fracTx at h
 split at h
 ·rename_i h1
  injection h with h
  subst h
  exact .inl ⟨h1,by rw [ByteArray.data_append,Array.toList_append,slash_data];rfl⟩
 ·split at h
  ·rename_i h1
   injection h with h
   subst h
   exact .inr ⟨h1,by rw [ByteArray.data_append,ByteArray.data_append,Array.toList_append,Array.toList_append,slash_data];rfl⟩
  ·cases h
theorem preI_from (n:Nat) (hn:n<1000000271):∀ b,1≤b→preI (fmtFrom n b).data.toList=n:=by
 intro b h1
 by_cases hb:b≤9999
 ·cases hp:fracTx n b with
  | some s =>
   rw [fmtFrom_some hb hp]
   rcases part_data hp with ⟨h,e⟩ | ⟨h,e⟩
   ·rw [e];exact preI_pos hn h1 hb h
   ·rw [e];exact preI_neg hn h1 hb h
  | none=>rw [fmtFrom_none hb hp];exact preI_from n hn (b+1) (by omega)
 ·rw [fmtFrom_end hb,ByteArray.data_append,Array.toList_append]
  exact preI_hash hn
termination_by b=>10000 - b
theorem preI_fmt {n:Int} (h0:0≤n) (h1:n<1000000271):preI (fmtF n).data.toList=n:=by
 unfold fmtF
 rw [if_pos ⟨h0,h1⟩,preI_from n.toNat (by omega) 1 (by omega)]
 omega
def preS (s:List UInt8):Int :=
 if s.head? = some 35 then rdS (s.drop 1)
 else
  let p:=piecesF 47 (if s.head? = some 45 then s.drop 1 else s)
  let a:=rdS (p.headD [])
  let b:=if 1<p.length then rdS (p.getD 1 []) else 1
  if a<0∨b<0∨2<p.length then -1
  else fracF ((if s.head? = some 45 then -1 else 1)*a) b
theorem pieces_slash (a b:Nat):piecesF 47 (decL a++slashL b)=if b=1 then [decL a] else [decL a,decL b]:=by
 unfold slashL
 by_cases h:b=1
 ·rw [if_pos h,if_pos h,List.append_nil,piecesF_none (dec_no47 a)]
 ·rw [if_neg h,if_neg h,piecesF_hit _ (dec_no47 a),piecesF_none (dec_no47 b)]
theorem preS_pos {n b:Nat} (hn:n<1000000271) (h1:1≤b) (h2:b≤9999) (h:n*b % 1000000271≤9999):preS (decL (n*b % 1000000271)++slashL b)=n:=by
 obtain ⟨c,r,e,hc⟩:=dec_cons (n*b % 1000000271)
 have hne:=dig_ne hc
 have hh:(decL (n*b % 1000000271)++slashL b).head? = some c:=by rw [e];rfl
 have hf:=frac_of hn h1 h2
 have r1:rdS (decL (n*b % 1000000271))=((n*b % 1000000271:Nat):Int):=rdS_dec (by have:=decL_len (m:=3) (n:=n*b % 1000000271) (by omega);omega)
 have r2:rdS (decL b)=(b:Int):=rdS_dec (by have:=decL_len (m:=3) (n:=b) (by omega);omega)
 unfold preS
 rw [hh,if_neg (by simpa using hne.1)]
 have h45:¬ (some c=some (45:UInt8)):=by simpa using hne.2.1
 simp only [if_neg h45,pieces_slash]
 by_cases hb:b=1
 ·subst hb
  simp only [if_true,List.headD_cons,List.length_cons,List.length_nil,r1]
  rw [if_neg (by omega),if_neg (by omega),Int.one_mul]
  exact hf
 ·simp only [if_neg hb,List.headD_cons,List.length_cons,List.length_nil,r1]
  have l2:1<0+1+1:=by omega
  simp only [if_pos l2,List.getD_cons_succ,List.getD_cons_zero,r2]
  rw [if_neg (by omega),Int.one_mul]
  exact hf
theorem preS_neg {n b:Nat} (hn:n<1000000271) (h1:1≤b) (h2:b≤9999) (h:999990272≤n*b % 1000000271):preS (45 :: (decL (1000000271 - n*b % 1000000271)++slashL b))=n:=by
 have hl:=Nat.mod_lt (n*b) (by decide:0<1000000271)
 have hf:=frac_of_neg hn h1 h2
 have r1:rdS (decL (1000000271 - n*b % 1000000271))=((1000000271 - n*b % 1000000271:Nat):Int):=rdS_dec (by have:=decL_len (m:=3) (n:=1000000271 - n*b % 1000000271) (by omega);omega)
 have r2:rdS (decL b)=(b:Int):=rdS_dec (by have:=decL_len (m:=3) (n:=b) (by omega);omega)
 unfold preS
 rw [List.head?_cons,if_neg (by simp)]
 simp only [if_true,List.drop_one,List.tail_cons,pieces_slash]
 by_cases hb:b=1
 ·subst hb
  simp only [if_true,List.headD_cons,List.length_cons,List.length_nil,r1]
  rw [if_neg (by omega),if_neg (by omega),Int.neg_mul,Int.one_mul]
  exact hf
 ·simp only [if_neg hb,List.headD_cons,List.length_cons,List.length_nil,r1]
  have l2:1<0+1+1:=by omega
  simp only [if_pos l2,List.getD_cons_succ,List.getD_cons_zero,r2]
  rw [if_neg (by omega),Int.neg_mul,Int.one_mul]
  exact hf
theorem preS_hash {n:Nat} (hn:n<1000000271):preS (35 :: decL n)=n:=by
 unfold preS
 rw [List.head?_cons,if_pos rfl]
 exact rdS_dec (decL_len (m:=9) (by omega))
theorem preS_from (n:Nat) (hn:n<1000000271):∀ b,1≤b→preS (fmtFrom n b).data.toList=n:=by
 intro b h1
 by_cases hb:b≤9999
 ·cases hp:fracTx n b with
  | some s =>
   rw [fmtFrom_some hb hp]
   rcases part_data hp with ⟨h,e⟩ | ⟨h,e⟩
   ·rw [e];exact preS_pos hn h1 hb h
   ·rw [e];exact preS_neg hn h1 hb h
  | none=>rw [fmtFrom_none hb hp];exact preS_from n hn (b+1) (by omega)
 ·rw [fmtFrom_end hb,ByteArray.data_append,Array.toList_append]
  exact preS_hash hn
termination_by b=>10000 - b
theorem preS_fmt {n:Int} (h0:0≤n) (h1:n<1000000271):preS (fmtF n).data.toList=n:=by
 unfold fmtF
 rw [if_pos ⟨h0,h1⟩,preS_from n.toNat (by omega) 1 (by omega)]
 omega
theorem fmtF_bad {n:Int} (h:¬ (0≤n∧n<1000000271)):fmtF n=ByteArray.empty:=if_neg h
theorem parF_S {s:ByteArray} (hs:s≠ByteArray.empty):parF s=if fmtF (preS s.data.toList)=s then (preS s.data.toList,true) else (0,false):=by
 unfold parF
 by_cases h:fmtF (preS s.data.toList)=s
 ·have hv:0≤preS s.data.toList∧preS s.data.toList<1000000271:=by
   by_cases hv:0≤preS s.data.toList∧preS s.data.toList<1000000271
   ·exact hv
   ·rw [fmtF_bad hv] at h
    exact absurd h.symm hs
  have e:=preI_fmt hv.1 hv.2
  rw [h] at e
  rw [if_pos h,e,if_pos ⟨hv.1,h⟩]
 ·rw [if_neg h,if_neg]
  rintro ⟨h0,h1⟩
  have hv:preI s.data.toList<1000000271:=by
   by_cases hv:preI s.data.toList<1000000271
   ·exact hv
   ·rw [fmtF_bad (fun h=>hv h.2)] at h1
    exact absurd h1.symm hs
  have e:=preS_fmt h0 hv
  rw [h1] at e
  rw [e] at h
  exact h h1
theorem parF_empty:parF ByteArray.empty=(0,false):=by
 unfold parF
 rw [if_neg]
 rintro ⟨h0,_⟩
 revert h0
 show ¬ (0≤preI [])
 simp [preI,Lib.hasPrefix,Lib.trimPrefix,Lib.cut,Lib.index,rdI]
theorem parF_bd {s:ByteArray}:0≤(parF s).1∧(parF s).1<1000000271:=by
 unfold parF
 split
 ·rename_i h
  refine ⟨h.1,?_⟩
  by_cases hv:preI s.data.toList<1000000271
  ·exact hv
  ·have h1:=h.2
   rw [fmtF_bad (fun h=>hv h.2)] at h1
   have h0:=h.1
   rw [← h1] at h0
   exfalso
   revert h0
   show ¬ (0≤preI [])
   simp [preI,Lib.hasPrefix,Lib.trimPrefix,Lib.cut,Lib.index,rdI]
 ·simp
end Go.Proofs.YtomgcbfcnjbofaaGreat
/- Reading numbers: the walks. -/
namespace Go.Proofs.YtomgcbfcnjbofaaGreat
open Go.RowKit
set_option linter.unusedSimpArgs false
set_option linter.unusedVariables false
set_option maxRecDepth 20000
theorem drop_atW {s:ByteArray} {k:Nat} (h:k<s.size):s.data.toList.drop k=s[k] :: s.data.toList.drop (k+1):=by
 have h2:k<s.data.toList.length:=by rw [Array.length_toList];exact h
 rw [List.drop_eq_getElem_cons h2]
 rfl
theorem list_len (s:ByteArray):s.data.toList.length=s.size:=by rw [Array.length_toList];rfl
theorem digsF_step {c:UInt8} {r:List UInt8} {n:Nat} (h1:48≤c.toNat) (h2:c.toNat≤57):digsF (c :: r) n=digsF r (10*n+(c.toNat - 48)):=by
 rw [digsF,if_pos (by unfold isDig;simp;omega)]
theorem digsF_no {c:UInt8} {r:List UInt8} {n:Nat} (h:¬ (48≤c.toNat∧c.toNat≤57)):digsF (c :: r) n=none:=by
 rw [digsF,if_neg (by unfold isDig;simp;omega)]
def optI:Option Nat→Int
 | some n=>(n:Int)
 | none => -1
theorem rdS_eq {s:ByteArray} (h0:¬ s.size=0) (h10:¬ 10<s.size):rdS s.data.toList=optI (digsF (s.data.toList.drop 0) 0):=by
 rw [rdS,if_neg (by rw [list_len];omega),List.drop_zero]
 cases digsF s.data.toList 0 <;> rfl
theorem pow_le10 {n k m:Nat} (h:n<10 ^ k) (hk:k≤m):n<10 ^ m:=Nat.lt_of_lt_of_le h (Nat.pow_le_pow_right (by omega) hk)
set_option maxHeartbeats 1000000 in
theorem spec_l1Digits (s:ByteArray) (w:World) (hs:s.size≤9223372036854775807) :
  Calls Tryz.prog 121 #[.string s] w fun e w'=>e = .returned (.int .i64 (rdS s.data.toList))∧w=w':=by
 by_cases h0:s.size=0
 ·have hF:Hid (rdS s.data.toList = -1):=by show _=_;rw [rdS,if_pos (.inl (by rw [list_len];exact h0))]
  go_enter Tryz.func121,Tryz.ntmps121
  go_wp2_with fail
  go_ret
  exact ⟨ret_int hF.out.symm,rfl⟩
 ·by_cases h10:10<s.size
  ·have hF:Hid (rdS s.data.toList = -1):=by show _=_;rw [rdS,if_pos (.inr (by rw [list_len];exact h10))]
   have h00:((s.size:Int) == 0)=false:=by simpa using h0
   go_enter Tryz.func121,Tryz.ntmps121
   go_wp2_with fail
   go_ret
   exact ⟨ret_int hF.out.symm,rfl⟩
  ·have hF:=hide (rdS_eq h0 h10)
   have h00:((s.size:Int) == 0)=false:=by simpa using h0
   have h07:¬ (10<(s.size:Int)):=by omega
   go_enter Tryz.func121,Tryz.ntmps121
   go_wp2_with fail
   go_loop [3,4] (fun v i=>∃ (k n:Nat),k≤s.size∧i = .int .i64 k∧v = .int .i64 n∧Hid (n<10 ^ k)∧Hid (rdS s.data.toList=optI (digsF (s.data.toList.drop k) n))) (fun _ i=>s.size - (intOf i).toNat)
   case atStart=>exact ⟨0,0,by omega,rfl,rfl,by show 0<1;omega,hF⟩
   case round =>
    obtain ⟨k,n,hk,rfl,rfl,hn,hr⟩:=hrel
    by_cases hlt:k<s.size
    ·have hd:=drop_atW hlt
     obtain ⟨c,hc⟩:∃ c,s[k]=c:=⟨_,rfl⟩
     rw [hc] at hd
     have hlt':(k:Int)<s.size:=by omega
     have hn10:n<10 ^ 9:=pow_le10 hn.out (by omega)
     have hn11:(n:Int)<1000000000:=by omega
     by_cases hc1:(c.toNat:Int)<48
     ·have hG:Hid (rdS s.data.toList = -1):=by show _=_;rw [hr.out,hd,digsF_no (by omega)];rfl
      clear hd hn10
      go_wp2_with fail
      go_ret
      exact ⟨ret_int hG.out.symm,rfl⟩
     ·by_cases hc2:(57:Int)<c.toNat
      ·have hG:Hid (rdS s.data.toList = -1):=by show _=_;rw [hr.out,hd,digsF_no (by omega)];rfl
       clear hd hn10
       go_wp2_with fail
       go_ret
       exact ⟨ret_int hG.out.symm,rfl⟩
      ·have hG:Hid (rdS s.data.toList=optI (digsF (s.data.toList.drop (k+1)) (10*n+(c.toNat - 48)))):=by show _=_;rw [hr.out,hd,digsF_step (by omega) (by omega)]
       have hn2:Hid (10*n+(c.toNat - 48)<10 ^ (k+1)):=by show _<_;have:=hn.out;rw [Nat.pow_succ];omega
       clear hd hn10
       go_wp2_with fail
       go_round
       case rel=>exact ⟨k+1,10*n+(c.toNat - 48),by omega,by go_num,congrArg (Value.int .i64) (by omega),hn2,hG⟩
       case measure=>simp [intOf];omega
    ·obtain rfl:k=s.size:=by omega
     have hG:Hid (rdS s.data.toList=n):=by show _=_;rw [hr.out,List.drop_of_length_le (by rw [list_len];omega)];rfl
     have hn10:n<10 ^ 10:=pow_le10 hn.out (by omega)
     have hn11:(n:Int)<10000000000:=by omega
     clear hn10
     go_wp2_with fail
     go_ret
     exact ⟨ret_int hG.out.symm,rfl⟩
theorem head_get {s:ByteArray} (h:0<s.size):s.data.toList.head? = some (s[0]'h):=by
 have:=drop_atW h
 rw [List.drop_zero] at this
 rw [this]
 rfl
end Go.Proofs.YtomgcbfcnjbofaaGreat
/- Cutting a text at each place of one byte: the reference's walk. -/
namespace Go.Proofs.YtomgcbfcnjbofaaGreat
open Go.RowKit
set_option linter.unusedSimpArgs false
set_option linter.unusedVariables false
set_option maxRecDepth 20000
theorem ext_list (s:ByteArray) (f k:Nat) (hk:k≤s.size):(s.extract f k).data.toList=(s.data.toList.drop f).take (k - f):=by
 rw [Lib.extract_data]
theorem take_next {s:ByteArray} {f k:Nat} (hf:f≤k) (h:k<s.size):(s.data.toList.drop f).take (k+1 - f)=(s.data.toList.drop f).take (k - f)++[s[k]]:=by
 have h2:k<s.data.toList.length:=by rw [list_len];exact h
 rw [show k+1 - f=(k - f)+1 by omega,List.take_add_one,List.getElem?_drop,show f+(k - f)=k by omega,List.getElem?_eq_getElem h2]
 rfl
theorem drop_split {s:ByteArray} {f k:Nat} (hf:f≤k) (h:k<s.size):s.data.toList.drop f=(s.data.toList.drop f).take (k - f)++s[k] :: s.data.toList.drop (k+1):=by
 rw [← drop_atW h]
 have:s.data.toList.drop k=(s.data.toList.drop f).drop (k - f):=by rw [List.drop_drop,show f+(k - f)=k by omega]
 rw [this,List.take_append_drop]
set_option maxRecDepth 100000 in
set_option maxHeartbeats 2000000 in
theorem spec_l1Cut (s:ByteArray) (x:UInt8) (xi:Int) (hxi:xi=x.toNat) (w:World) (hs:s.size≤1099511627000) :
  Calls Tryz.prog 110 #[.string s,.int .u8 xi] w fun e w'=>∃ (A:Option Addr) (n c:Nat) (ps:List ByteArray),e = .returned (.slice A n c)∧Hid (w'.ownsRow w.heap.size 9 1 (.slice A n c) n (ps.map Value.string))∧Hid (ps.map (·.data.toList)=piecesF x s.data.toList)∧Below w.heap.size w w':=by
 obtain ⟨i0,hi0,hz0,hz1,hz2⟩:=info_parts info_str
 have q0:(w.alloc (.cells #[] 9)).ownsRow w.heap.size 9 1 (.slice (some ⟨w.heap.size,0,none⟩) 0 0) 0 (([]:List ByteArray).map Value.string):=by
  simpa using World.ownsRow_lit (size:=1) (e:=9) (base:=w.heap.size) w #[] 0 (Nat.le_refl _) (by unfold maxLen;omega) rfl
 have b2:=below_alloc w (.cells #[] 9)
 have HXI:=hide hxi
 clear hxi
 go_enter Tryz.func110,Tryz.ntmps110
 go_wp2_with fail
 go_loopw [5,6,7] (fun v fv iv wr=>∃ (k f m:Nat) (A:Option Addr) (c:Nat) (ps:List ByteArray),k≤s.size∧f≤k∧m≤k∧iv = .int .i64 k∧fv = .int .i64 f∧v = .slice A m c∧Hid (wr.ownsRow w.heap.size 9 1 (.slice A m c) m (ps.map Value.string))∧Hid (piecesF x s.data.toList=ps.map (·.data.toList)++piecesF x (s.data.toList.drop f)∧x ∉ (s.data.toList.drop f).take (k - f))∧Hid (Below w.heap.size w wr))
  (fun _ _ iv _=>s.size - (intOf iv).toNat)
 case atStart=>exact ⟨0,0,0,_,_,[],by omega,by omega,by omega,rfl,rfl,rfl,q0,⟨rfl,by simp⟩,b2⟩
 case round =>
  clear q0 b2
  obtain ⟨k,f,m,A,c,ps,hk,hf,hm,rfl,rfl,rfl,hown,hp,hb⟩:=hrel
  have hsz:=hb.out.size
  by_cases hlt:k<s.size
  ·obtain ⟨c1,hc1⟩:∃ c1,s[k]=c1:=⟨_,rfl⟩
   have hlt':(k:Int)<s.size:=by omega
   have hf0:(0:Int)≤f:=by omega
   have hf1:(f:Int)≤k:=by omega
   by_cases hx:c1=x
   ·have hP:Hid (piecesF x s.data.toList=(ps++[s.extract f k]).map (·.data.toList)++piecesF x (s.data.toList.drop (k+1))∧x ∉ (s.data.toList.drop (k+1)).take (k+1 - (k+1))):=by
     refine ⟨?_,by simp⟩
     rw [hp.out.1,List.map_append,List.append_assoc,drop_split hf hlt,hc1,hx,piecesF_hit _ hp.out.2,← ext_list s f k (by omega)]
     rfl
    have hcx:((c1.toNat:Int) == xi)=true:=by rw [HXI.out,hx];simp
    clear hx hp
    go_wp2_with (at_builtin;refine wpl_app1 rfl (.tmp 20) (.tmp 25) 82 rfl w.heap.size 9 i0 (.string ByteArray.empty) 1 16 Tryz.underlying82 hi0 hz0 hz1 hz2 rfl (by omega) _ #[.string (s.extract f k)] A m c 1 _ rfl rfl hown.out rfl (by simp [Value.oneCell']) (by omega) (by omega) hsz ?_;intro A2 c2 w4 happ hlt2)
    have hL:Hid (w4.ownsRow w.heap.size 9 1 (.slice A2 (m+1) c2) (m+1) ((ps++[s.extract f k]).map Value.string)):=by
     show World.ownsRow _ _ _ _ _ _ _
     rw [List.map_append]
     exact happ.1
    have HB:Hid (Below w.heap.size w w4):=happ.below hb.out hsz (fun ad e=>(owns_lt hown.out ad e).1)
    clear happ hown hb
    go_wp2_with fail
    go_roundw
    case rel=>exact ⟨k+1,k+1,m+1,A2,c2,_,by omega,by omega,by omega,by go_num,by go_num,rfl,hL,hP,HB⟩
    case measure=>simp [intOf];omega
   ·have hP:Hid (piecesF x s.data.toList=ps.map (·.data.toList)++piecesF x (s.data.toList.drop f)∧x ∉ (s.data.toList.drop f).take (k+1 - f)):=by
     refine ⟨hp.out.1,?_⟩
     rw [take_next hf hlt,hc1]
     simp only [List.mem_append,List.mem_singleton,not_or]
     exact ⟨hp.out.2,fun e=>hx e.symm⟩
    have hcx:((c1.toNat:Int) == xi)=false:=by
     rw [HXI.out]
     simp only [beq_eq_false_iff_ne,ne_eq]
     intro e
     exact hx (UInt8.toNat_inj.1 (by omega))
    clear hx hp
    go_wp2_with fail
    go_roundw
    case rel=>exact ⟨k+1,f,m,A,c,ps,by omega,by omega,by omega,by go_num,rfl,rfl,hown,hP,hb⟩
    case measure=>simp [intOf];omega
  ·obtain rfl:k=s.size:=by omega
   have hf0:(0:Int)≤f:=by omega
   have hf1:(f:Int)≤s.size:=by omega
   have hP:Hid ((ps++[s.extract f s.size]).map (·.data.toList)=piecesF x s.data.toList):=by
    show _=_
    have h2:=hp.out.2
    rw [List.take_of_length_le (by rw [List.length_drop,list_len];omega)] at h2
    rw [hp.out.1,List.map_append,piecesF_none h2]
    simp only [List.map_cons,List.map_nil]
    rw [ext_list s f s.size (Nat.le_refl _),List.take_of_length_le (by rw [List.length_drop,list_len];omega)]
   clear hp
   go_wp2_with (at_builtin;refine wpl_app1 rfl (.tmp 29) (.tmp 33) 82 rfl w.heap.size 9 i0 (.string ByteArray.empty) 1 16 Tryz.underlying82 hi0 hz0 hz1 hz2 rfl (by omega) _ #[.string (s.extract f s.size)] A m c 1 _ rfl rfl hown.out rfl (by simp [Value.oneCell']) (by omega) (by omega) hsz ?_;intro A2 c2 w4 happ hlt2)
   have hL:Hid (w4.ownsRow w.heap.size 9 1 (.slice A2 (m+1) c2) (m+1) ((ps++[s.extract f s.size]).map Value.string)):=by
    show World.ownsRow _ _ _ _ _ _ _
    rw [List.map_append]
    exact happ.1
   have HB:Below w.heap.size w w4:=happ.below hb.out hsz (fun ad e=>(owns_lt hown.out ad e).1)
   clear happ hown hb
   go_wp2_with fail
   go_ret
   exact ⟨_,_,_,rfl,_,hL,hP,HB⟩
end Go.Proofs.YtomgcbfcnjbofaaGreat
/- Reading a number: the walks of the program's and of the reference's text. -/
namespace Go.Proofs.YtomgcbfcnjbofaaGreat
open Go.RowKit
set_option linter.unusedSimpArgs false
set_option linter.unusedVariables false
set_option maxRecDepth 20000
theorem rdS_bd (l:List UInt8) : -1≤rdS l∧rdS l≤9999999999:=by
 unfold rdS
 split
 ·omega
 ·rename_i h
  have hl:l.length≤10:=by omega
  cases hd:digsF l 0 with
  | none=>simp
  | some n =>
   have h1:=digsF_bd l 0 n hd
   have h2:n<10 ^ 10:=pow_le10 (k:=l.length) (by omega) hl
   simp only
   omega
theorem ext_one (s:ByteArray):(s.extract 1 s.size).data.toList=s.data.toList.drop 1:=by
 rw [ext_list s 1 s.size (Nat.le_refl _),List.take_of_length_le (by rw [List.length_drop,list_len];omega)]
end Go.Proofs.YtomgcbfcnjbofaaGreat
