/- Out of DescM, SizP, SizL: the walks and plain laws that the claim needs. No condition but those that each theorem names. -/
import Derived.Test.YteldgdelmaeokaaGb
import Derived.Test.YteldgdelmaeokaaGf
import Derived.Test.YteldgdelmaeokaaGh
set_option linter.unusedSimpArgs false
set_option linter.unusedVariables false
namespace Go.Proofs.Yteldgdelmaeokaa
open Go.RowKit
instance:Inhabited RuleD:=⟨⟨ByteArray.empty,0,0,false, [], [], [], []⟩⟩
structure RuleF (D:List RuleD) (k:Nat) (r:RuleD):Prop where
 kids:∀x∈r.kids,0≤x∧x < k
 size:0≤r.size∧r.size≤64
 kind:1≤r.kind∧r.kind≤10
 c0:r.kind=1∨r.kind=2∨r.kind=3∨r.kind=10→r.kids.length=0
 c1:r.kind=1→1≤r.size∧r.size≤4
 c2:r.kind=2→1≤r.bytes.length∧r.bytes.length≤16
 c3:r.kind=3→1≤r.size
 c4:r.kind=4→r.kids.length=1∧0 < limitOf D (kid r 0)
 c5:r.kind=5→r.kids.length=2∧0 < limitOf D (kid r 0)
 c6:r.kind=6→r.kids.length=r.names.length∧1≤r.names.length∧r.names.length≤8
 c7:r.kind=7→r.kids.length=r.tags.length+1∧1≤r.tags.length∧r.tags.length≤8
 c8:r.kind=8∨r.kind=9→r.kids.length=1
theorem plainR_iff {r:RuleD} {a b c d:Bool} {K:Int}:plainR r a b c d K=true↔(a=true∨r.size=0)∧(b=true∨r.bytes.length=0)∧(c=true∨r.names.length=0)∧(d=true∨r.tags.length=0)∧(K < 0∨(r.kids.length:Int)=K):=by
 unfold plainR
 simp only [Bool.and_eq_true,Bool.or_eq_true,beq_iff_eq,decide_eq_true_eq]
 have e:∀n:Nat,((n:Int)=0)=(n=0):=fun n=> by simp
 simp only [e]
theorem ruleOk_facts {D:List RuleD} {k:Nat} {r:RuleD} (h:ruleOk D k r=true):RuleF D k r:=by
 unfold ruleOk at h
 simp only [Bool.and_eq_true] at h
 obtain ⟨-,hk, -,hr, -⟩:=h
 have hkids:∀x∈r.kids,0≤x∧x < k:=by
  intro x hx
  obtain ⟨j,hj,rfl⟩:=List.getElem_of_mem hx
  have:=(allTo_iff _ _).1 hk j hj
  rw [kidAt_eq _ _ _ hj] at this
  have:=inB_iff.1 this
  omega
 unfold kindR at hr
 by_cases q1:r.kind=1
 ·rw [if_pos q1] at hr
  simp only [Bool.and_eq_true,plainR_iff] at hr
  have h2:=inB_iff.1 hr.2.1
  have h1:=hr.1
  exact ⟨hkids,by omega,by omega,by omega,by omega,by omega,by omega,by omega,by omega,by omega,by omega,by omega⟩
 rw [if_neg q1] at hr
 by_cases q2:r.kind=2
 ·rw [if_pos q2] at hr
  simp only [Bool.and_eq_true,plainR_iff] at hr
  have h2:=inB_iff.1 hr.2
  have h1:=hr.1
  simp only [Bool.false_eq_true,false_or] at h1
  exact ⟨hkids,by omega,by omega,by omega,by omega,by omega,by omega,by omega,by omega,by omega,by omega,by omega⟩
 rw [if_neg q2] at hr
 by_cases q3:r.kind=3
 ·rw [if_pos q3] at hr
  simp only [Bool.and_eq_true,plainR_iff] at hr
  have h2:=inB_iff.1 hr.2
  have h1:=hr.1
  exact ⟨hkids,by omega,by omega,by omega,by omega,by omega,by omega,by omega,by omega,by omega,by omega,by omega⟩
 rw [if_neg q3] at hr
 by_cases q4:r.kind=4
 ·rw [if_pos q4] at hr
  simp only [Bool.and_eq_true,plainR_iff,decide_eq_true_eq] at hr
  have h2:=hr.2
  have h1:=hr.1
  simp only [Bool.false_eq_true,false_or] at h1
  exact ⟨hkids,by omega,by omega,by omega,by omega,by omega,by omega,fun _=> ⟨by omega,h2⟩,by omega,by omega,by omega,by omega⟩
 rw [if_neg q4] at hr
 by_cases q5:r.kind=5
 ·rw [if_pos q5] at hr
  simp only [Bool.and_eq_true,plainR_iff,decide_eq_true_eq] at hr
  have h2:=hr.2
  have h1:=hr.1
  simp only [Bool.false_eq_true,false_or] at h1
  exact ⟨hkids,by omega,by omega,by omega,by omega,by omega,by omega,by omega,fun _=> ⟨by omega,h2⟩,by omega,by omega,by omega⟩
 rw [if_neg q5] at hr
 by_cases q6:r.kind=6
 ·rw [if_pos q6] at hr
  simp only [Bool.and_eq_true,plainR_iff,okNames] at hr
  have h2:=inB_iff.1 hr.2.2
  have h1:=hr.1
  simp only [Bool.false_eq_true,false_or] at h1
  exact ⟨hkids,by omega,by omega,by omega,by omega,by omega,by omega,by omega,by omega,fun _=> by omega,by omega,by omega⟩
 rw [if_neg q6] at hr
 by_cases q7:r.kind=7
 ·rw [if_pos q7] at hr
  simp only [Bool.and_eq_true,plainR_iff,okTags,beq_iff_eq] at hr
  have h2:=inB_iff.1 hr.2.2.1
  have h3:=hr.2.1
  have h1:=hr.1
  simp only [Bool.false_eq_true,false_or] at h1
  exact ⟨hkids,by omega,by omega,by omega,by omega,by omega,by omega,by omega,by omega,by omega,fun _=> by omega,by omega⟩
 rw [if_neg q7] at hr
 by_cases q8:r.kind=8∨r.kind=9
 ·rw [if_pos q8] at hr
  simp only [plainR_iff] at hr
  have h1:=hr
  simp only [Bool.false_eq_true,false_or] at h1
  exact ⟨hkids,by omega,by omega,by omega,by omega,by omega,by omega,by omega,by omega,by omega,by omega,fun _=> by omega⟩
 rw [if_neg q8] at hr
 by_cases q10:r.kind=10
 ·rw [if_pos q10] at hr
  simp only [Bool.and_eq_true,plainR_iff] at hr
  have h1:=hr.1
  simp only [Bool.false_eq_true,false_or] at h1
  exact ⟨hkids,by omega,by omega,by omega,by omega,by omega,by omega,by omega,by omega,by omega,by omega,by omega⟩
 ·rw [if_neg q10] at hr
  cases hr
theorem validD_facts {D:List RuleD} (h:validD D=true):(1≤D.length∧D.length≤24)∧∀k (hk:k < D.length),RuleF D k D[k]:=by
 unfold validD at h
 rw [Bool.and_eq_true] at h
 refine ⟨by have:=inB_iff.1 h.2;omega,fun k hk=> ?_⟩
 have:=(allTo_iff _ _).1 h.1 k hk
 rw [validR_at D k hk] at this
 exact ruleOk_facts this
def at0 (o:List Int) (i:Int):Int:=o.getD i.toNat 0
theorem at0_at (o:List Int) (x:Int) (h0:0≤x) (h:x.toNat < o.length):at0 o x=o[x.toNat]:=by
 unfold at0;simp [List.getD,List.getElem?_eq_getElem h]
def sumTo (o ks:List Int):Nat→Int
 |0=> 0
 |k+1=> sumTo o ks k+at0 o (ks.getD k 0)
def minTo (o ks:List Int):Nat→Int
 |0=> at0 o (ks.getD 1 0)
 |j+1=> min (minTo o ks j) (at0 o (ks.getD (j+2) 0))
def maxTo (o ks:List Int):Nat→Int
 |0=> at0 o (ks.getD 1 0)
 |j+1=> max (maxTo o ks j) (at0 o (ks.getD (j+2) 0))
def inM (M:Int) (o:List Int):Prop:=∀x∈o,0≤x∧x≤M
theorem at0_bd {M:Int} {o:List Int} (h:inM M o) (hM:0≤M) (i:Int):0≤at0 o i∧at0 o i≤M:=by
 unfold at0
 rw [List.getD_eq_getElem?_getD]
 cases hx:o[i.toNat]? with
 |none=> simp;omega
 |some x=> exact h x (List.mem_of_getElem? hx)
theorem sumTo_bd {M:Int} {o:List Int} (h:inM M o) (hM:0≤M) (ks:List Int) (k:Nat):0≤sumTo o ks k∧sumTo o ks k≤M*k:=by
 induction k with
 |zero=> simp [sumTo]
 |succ k ih=>
  have:=at0_bd h hM (ks.getD k 0)
  rw [sumTo,show M*((k+1:Nat):Int)=M*k+M by rw [Int.natCast_add,Int.mul_add];simp]
  omega
theorem minTo_bd {M:Int} {o:List Int} (h:inM M o) (hM:0≤M) (ks:List Int) (k:Nat):0≤minTo o ks k∧minTo o ks k≤M:=by
 induction k with
 |zero=> exact at0_bd h hM _
 |succ k ih=>
  have:=at0_bd h hM (ks.getD (k+2) 0)
  rw [minTo]
  omega
theorem maxTo_bd {M:Int} {o:List Int} (h:inM M o) (hM:0≤M) (ks:List Int) (k:Nat):0≤maxTo o ks k∧maxTo o ks k≤M:=by
 induction k with
 |zero=> exact at0_bd h hM _
 |succ k ih=>
  have:=at0_bd h hM (ks.getD (k+2) 0)
  rw [maxTo]
  omega
def mnOf (o:List Int) (r:RuleD):Int:=
 if r.kind=1 then r.size else if r.kind=2 then r.bytes.length else if r.kind=3 then r.size
 else if r.kind=4 then at0 o (kid r 0) else if r.kind=5 then at0 o (kid r 0)
 else if r.kind=6 then sumTo o r.kids r.kids.length
 else if r.kind=7 then minTo o r.kids (r.kids.length - 2)+at0 o (kid r 0)
 else if r.kind=9 then at0 o (kid r 0)+1 else 1
def mins (D:List RuleD):Nat→List Int
 |0=> []
 |k+1=> mins D k++ [min 401 (mnOf (mins D k) (D.getD k default))]
theorem mins_length (D:List RuleD) (k:Nat):(mins D k).length=k:=by
 induction k with
 |zero=> rfl
 |succ k ih=> rw [mins,List.length_append,ih];rfl
theorem mnOf_nonneg {o:List Int} {r:RuleD} (h:inM 401 o) (hs:0≤r.size):0≤mnOf o r:=by
 have h1:=at0_bd h (by omega) (kid r 0)
 have h2:=sumTo_bd h (by omega) r.kids r.kids.length
 have h3:=minTo_bd h (by omega) r.kids (r.kids.length - 2)
 unfold mnOf
 repeat' split
 all_goals omega
theorem getD_at {D:List RuleD} {k:Nat} (hk:k < D.length):D.getD k default=D[k]:=by simp [List.getD,List.getElem?_eq_getElem hk]
theorem mins_bd {D:List RuleD} (h:validD D=true) (k:Nat) (hk:k≤D.length):inM 401 (mins D k):=by
 induction k with
 |zero=> intro x hx;simp [mins] at hx
 |succ k ih=>
  have hb:=ih (by omega)
  have hf:=(validD_facts h).2 k (by omega)
  rw [←getD_at (show k < D.length by omega)] at hf
  have h0:=mnOf_nonneg hb hf.size.1
  intro x hx
  rw [mins,List.mem_append,List.mem_singleton] at hx
  rcases hx with hx|rfl
  ·exact hb x hx
  ·omega
def mxOfI (D:List RuleD) (o:List Int) (r:RuleD):Int:=
 if r.kind=1 then r.size else if r.kind=2 then r.bytes.length else if r.kind=3 then r.size
 else if r.kind=4 then at0 o (kid r 0)+limitOf D (kid r 0)
 else if r.kind=5 then at0 o (kid r 0)+min 40 (limitOf D (kid r 0))*at0 o (kid r 1)
 else if r.kind=6 then sumTo o r.kids r.kids.length
 else if r.kind=7 then maxTo o r.kids (r.kids.length - 2)+at0 o (kid r 0)
 else if r.kind=8 then at0 o (kid r 0)+1
 else if r.kind=9 then at0 o (kid r 0)+1 else 400
def maxsI (D:List RuleD):Nat→List Int
 |0=> []
 |k+1=> maxsI D k++ [min 401 (mxOfI D (maxsI D k) (D.getD k default))]
theorem maxsI_length (D:List RuleD) (k:Nat):(maxsI D k).length=k:=by
 induction k with
 |zero=> rfl
 |succ k ih=> rw [maxsI,List.length_append,ih];rfl
theorem lim_nonneg {D:List RuleD} {k:Nat} {r:RuleD} (hf:RuleF D k r) (h:r.kind=4∨r.kind=5):0 < limitOf D (kid r 0):=by
 rcases h with h|h
 ·exact (hf.c4 h).2
 ·exact (hf.c5 h).2
theorem mul40_bd {a b M:Int} (h0:0≤a) (h1:a≤40) (h2:0≤b) (h3:b≤M) (hM:M≤401):0≤a*b∧a*b≤16040:=by
 have e1:=Int.mul_nonneg h0 h2
 have e2:a*b≤40*b:=Int.mul_le_mul_of_nonneg_right h1 h2
 omega
theorem mxOfI_nonneg {D:List RuleD} {o:List Int} {k:Nat} {r:RuleD} (h:inM 401 o) (hf:RuleF D k r):0≤mxOfI D o r:=by
 have h1:=at0_bd h (by omega) (kid r 0)
 have h5:=at0_bd h (by omega) (kid r 1)
 have h2:=sumTo_bd h (by omega) r.kids r.kids.length
 have h3:=maxTo_bd h (by omega) r.kids (r.kids.length - 2)
 have h4:=hf.size
 unfold mxOfI
 split;· omega
 split;· omega
 split;· omega
 split
 ·have:=lim_nonneg hf (.inl ‹_›);omega
 split
 ·have:=lim_nonneg hf (.inr ‹_›)
  have:=mul40_bd (show 0≤min 40 (limitOf D (kid r 0)) by omega) (by omega) h5.1 h5.2 (by omega)
  omega
 repeat' split
 all_goals omega
theorem maxsI_bd {D:List RuleD} (h:validD D=true) (k:Nat) (hk:k≤D.length):inM 401 (maxsI D k):=by
 induction k with
 |zero=> intro x hx;simp [maxsI] at hx
 |succ k ih=>
  have hb:=ih (by omega)
  have hf:=(validD_facts h).2 k (by omega)
  have h0:=mxOfI_nonneg hb hf
  rw [←getD_at (show k < D.length by omega)] at h0
  intro x hx
  rw [maxsI,List.mem_append,List.mem_singleton] at hx
  rcases hx with hx|rfl
  ·exact hb x hx
  ·omega
def minSz (D:List RuleD) (i:Int):Int:=if knownD D i then at0 (mins D D.length) i else 0
def maxSz (D:List RuleD) (i:Int):Int:=if knownD D i then min 400 (at0 (maxsI D D.length) i) else 0
end Go.Proofs.Yteldgdelmaeokaa
namespace Go.Proofs.Yteldgdelmaeokaa
open Go.RowKit
def escN (t:UInt8):List UInt8→Nat
 | []=> 0
 |c::l=> (if c=t∨c=92 then 2 else 1)+escN t l
def szOf (D:List RuleD) (k:Int):Int:=match ruleAt D k with|none=> 0|some r=> r.size
def lenR (D:List RuleD) (r:RuleD) (b:List UInt8) (s:Int):Int:=
 if r.kind=1 then r.size
 else if r.kind=2 then r.bytes.length
 else if r.kind=3 then b.length
 else if r.kind=4 then szOf D (kid r 0)+b.length
 else if r.kind=5 then szOf D (kid r 0)+s
 else if r.kind=6 then s
 else if r.kind=7 then szOf D (kid r 0)+s
 else if r.kind=8 then 1+s
 else if r.kind=9 then s+1
 else (escN (r.bytes.headD 0) b:Int)+1
mutual
def lenV (D:List RuleD):Int→Val→Int
 |k, .mk n b l=> (match ruleAt D k with|none=> 0|some r=> lenR D r b (lenVs D r n 0 l))
def lenVs (D:List RuleD) (r:RuleD) (n:Int):Nat→List Val→Int
 | _, []=> 0
 |i,x::l=> lenV D (itemR r n i) x+lenVs D r n (i+1) l
end
theorem lenVs_nil (D:List RuleD) (r:RuleD) (n:Int) (i:Nat):lenVs D r n i []=0:=by rw [lenVs]
theorem lenVs_cons (D:List RuleD) (r:RuleD) (n:Int) (i:Nat) (x:Val) (l:List Val):lenVs D r n i (x::l)=lenV D (itemR r n i) x+lenVs D r n (i+1) l:=by rw [lenVs]
theorem lenVs_snoc (D:List RuleD) (r:RuleD) (n:Int) (x:Val):∀(l:List Val) (i:Nat),lenVs D r n i (l++ [x])=lenVs D r n i l+lenV D (itemR r n (i+l.length:Nat)) x
 | [],i=> by rw [List.nil_append,lenVs_cons,lenVs_nil,lenVs_nil];simp
 |y::l,i=> by
  rw [List.cons_append,lenVs_cons,lenVs_cons,lenVs_snoc D r n x l (i+1),List.length_cons,show i+1+l.length=i+(l.length+1) by omega]
  omega
theorem lenVs_take {D:List RuleD} {r:RuleD} {n:Int} {l:List Val} {m:Nat} (hm:m < l.length):lenVs D r n 0 (l.take (m+1))=lenVs D r n 0 (l.take m)+lenV D (itemR r n m) l[m]:=by
 rw [List.take_succ_eq_append_getElem hm,lenVs_snoc,List.length_take,Nat.min_eq_left (by omega),Nat.zero_add]
theorem ruleAt_at {D:List RuleD} {k:Nat} (hk:k < D.length):ruleAt D k=some D[k]:=by unfold ruleAt;rw [if_pos (by omega),Int.toNat_natCast,List.getElem?_eq_getElem hk]
theorem lenV_at {D:List RuleD} {k:Nat} (hk:k < D.length) (x:Val):lenV D k x=lenR D D[k] x.b (lenVs D D[k] x.n 0 x.items):=by
 cases x;rw [lenV,ruleAt_at hk];rfl
theorem at0_app {a b:List Int} {i:Nat} (h:i < a.length):at0 (a++b) i=at0 a i:=by
 unfold at0;rw [Int.toNat_natCast,List.getD_eq_getElem?_getD,List.getD_eq_getElem?_getD,List.getElem?_append_left h]
theorem at0_last {a:List Int} {x:Int}:at0 (a++ [x]) (a.length:Nat)=x:=by
 unfold at0;rw [Int.toNat_natCast,List.getD_eq_getElem?_getD,List.getElem?_append_right (Nat.le_refl _),Nat.sub_self];rfl
theorem mins_pre (D:List RuleD) {k i:Nat} (hi:i < k):∀{m:Nat},k≤m→at0 (mins D m) i=at0 (mins D k) i
 |0,h=> by omega
 |m+1,h=> by
  by_cases e:k=m+1
  ·rw [e]
  ·rw [mins,at0_app (by rw [mins_length];omega),mins_pre D hi (m:=m) (by omega)]
theorem maxsI_pre (D:List RuleD) {k i:Nat} (hi:i < k):∀{m:Nat},k≤m→at0 (maxsI D m) i=at0 (maxsI D k) i
 |0,h=> by omega
 |m+1,h=> by
  by_cases e:k=m+1
  ·rw [e]
  ·rw [maxsI,at0_app (by rw [maxsI_length];omega),maxsI_pre D hi (m:=m) (by omega)]
theorem mins_at {D:List RuleD} {k:Nat} (hk:k < D.length):at0 (mins D D.length) k=min 401 (mnOf (mins D k) D[k]):=by
 rw [mins_pre D (Nat.lt_succ_self k) (by omega),mins,getD_at hk]
 have:=at0_last (a:=mins D k) (x:=min 401 (mnOf (mins D k) D[k]))
 rwa [mins_length] at this
theorem maxsI_at {D:List RuleD} {k:Nat} (hk:k < D.length):at0 (maxsI D D.length) k=min 401 (mxOfI D (maxsI D k) D[k]):=by
 rw [maxsI_pre D (Nat.lt_succ_self k) (by omega),maxsI,getD_at hk]
 have:=at0_last (a:=maxsI D k) (x:=min 401 (mxOfI D (maxsI D k) D[k]))
 rwa [maxsI_length] at this
theorem minTo_le (o ks:List Int):∀{n j:Nat},j≤n→minTo o ks n≤at0 o (ks.getD (j+1) 0)
 |0,j,h=> by
  obtain rfl:j=0:=by omega
  exact Int.le_refl _
 |n+1,j,h=> by
  rw [minTo]
  by_cases e:j=n+1
  ·subst e;exact Int.min_le_right _ _
  ·exact Int.le_trans (Int.min_le_left _ _) (minTo_le o ks (by omega))
theorem maxTo_ge (o ks:List Int):∀{n j:Nat},j≤n→at0 o (ks.getD (j+1) 0)≤maxTo o ks n
 |0,j,h=> by
  obtain rfl:j=0:=by omega
  exact Int.le_refl _
 |n+1,j,h=> by
  rw [maxTo]
  by_cases e:j=n+1
  ·subst e;exact Int.le_max_right _ _
  ·exact Int.le_trans (maxTo_ge o ks (by omega)) (Int.le_max_left _ _)
theorem field_at {D:List RuleD} {k q:Nat} (hk:k≤D.length) (hq:q < k) (hl:0≤limitOf D q):szOf D q=at0 (mins D k) q∧szOf D q=at0 (maxsI D k) q∧1≤szOf D q∧szOf D q≤4:=by
 unfold limitOf at hl
 rw [ruleAt_at (show q < D.length by omega)] at hl
 have hl:0≤limitR D[q]:=hl
 unfold limitR at hl
 split at hl
 ·rename_i h
  have e:szOf D q=D[q].size:=by unfold szOf;rw [ruleAt_at (show q < D.length by omega)]
  rw [←mins_pre D hq hk,←maxsI_pre D hq hk,mins_at (by omega),maxsI_at (by omega),e]
  unfold mnOf mxOfI
  rw [if_pos h.1,if_pos h.1]
  omega
 ·omega
structure LenI (D:List RuleD) (k:Nat):Prop where
 lo:∀q,q < k→∀y,validV D q y=true→at0 (mins D k) q≤lenV D q y
 hi:∀q,q < k→∀y,validV D q y=true→lenV D q y≤400→lenV D q y≤at0 (maxsI D k) q
section
variable {D:List RuleD} {k:Nat} {r:RuleD} {n:Int} {l:List Val}
theorem lenVs_nonneg (hD:validD D=true) (hk:k≤D.length) (h:LenI D k) (hit:∀j (hj:j < l.length),∃q:Nat,itemR r n j=q∧q < k∧validV D q l[j]=true):
  ∀m,m≤l.length→0≤lenVs D r n 0 (l.take m)∧∀j (hj:j < m),(hjl:j < l.length)→lenV D (itemR r n j) l[j]≤lenVs D r n 0 (l.take m)
 |0,_=> by rw [List.take_zero,lenVs_nil];exact ⟨Int.le_refl _,fun j hj=> absurd hj (by omega)⟩
 |m+1,hm=> by
  obtain ⟨h1,h2⟩:=lenVs_nonneg hD hk h hit m (by omega)
  obtain ⟨q,e,hq,hv⟩:=hit m (by omega)
  have h3:=h.lo q hq _ hv
  have h4:=(at0_bd (mins_bd hD k hk) (by omega) q).1
  rw [lenVs_take (by omega),e]
  refine ⟨by omega,fun j hj hjl=> ?_⟩
  by_cases ej:j=m
  ·subst ej;rw [e];omega
  ·have:=h2 j (by omega) hjl;omega
theorem lenVs_one (h:l.length=1):lenVs D r n 0 l=lenV D (itemR r n 0) (l[0]'(by omega)):=by
 have:=lenVs_take (D:=D) (r:=r) (n:=n) (l:=l) (m:=0) (by omega)
 rw [List.take_zero,lenVs_nil,Nat.zero_add,List.take_of_length_le (by omega)] at this
 rw [this]
 simp
theorem lenVs_const {M:Int} (hi:∀j (hj:j < l.length),lenV D (itemR r n j) l[j]≤M):∀m,m≤l.length→lenVs D r n 0 (l.take m)≤(m:Int)*M
 |0,_=> by rw [List.take_zero,lenVs_nil];simp
 |m+1,hm=> by
  have h1:=lenVs_const hi m (by omega)
  have h2:=hi m (by omega)
  rw [lenVs_take (by omega),Int.natCast_add,Int.add_mul]
  omega
theorem lenVs_lo {o:List Int} (h6:r.kind=6) (hl:l.length≤r.kids.length) (hi:∀j (hj:j < l.length),at0 o (itemR r n j)≤lenV D (itemR r n j) l[j]):∀m,m≤l.length→sumTo o r.kids m≤lenVs D r n 0 (l.take m)
 |0,_=> by rw [List.take_zero,lenVs_nil];exact Int.le_refl _
 |m+1,hm=> by
  have h1:=lenVs_lo h6 hl hi m (by omega)
  have h2:=hi m (by omega)
  have e:itemR r n m=r.kids.getD m 0:=by rw [itemR_6 h6 (by omega),List.getD_eq_getElem?_getD,List.getElem?_eq_getElem (by omega)];rfl
  rw [lenVs_take (by omega),sumTo,←e]
  omega
theorem lenVs_hi {o:List Int} (h6:r.kind=6) (hl:l.length≤r.kids.length) (hi:∀j (hj:j < l.length),lenV D (itemR r n j) l[j]≤at0 o (itemR r n j)):∀m,m≤l.length→lenVs D r n 0 (l.take m)≤sumTo o r.kids m
 |0,_=> by rw [List.take_zero,lenVs_nil];exact Int.le_refl _
 |m+1,hm=> by
  have h1:=lenVs_hi h6 hl hi m (by omega)
  have h2:=hi m (by omega)
  have e:itemR r n m=r.kids.getD m 0:=by rw [itemR_6 h6 (by omega),List.getD_eq_getElem?_getD,List.getElem?_eq_getElem (by omega)];rfl
  rw [lenVs_take (by omega),sumTo,←e]
  omega
end
theorem len_bd {D:List RuleD} {k:Nat} (hD:validD D=true) (hk:k < D.length) (h:LenI D k) (x:Val) (hv:validV D k x=true):
  at0 (mins D D.length) k≤lenV D k x∧(lenV D k x≤400→lenV D k x≤at0 (maxsI D D.length) k):=by
 have hro:=validD_at hD hk
 have hf:=(validD_facts hD).2 k hk
 have hv':=hv
 rw [validV_at hk,Bool.and_eq_true] at hv'
 obtain ⟨ho,hvs⟩:=hv'
 have hA:∀j (hj:j < x.items.length),∃q:Nat,itemR D[k] x.n j=q∧q < k∧validV D q x.items[j]=true:=fun j hj=> by
  obtain ⟨q,e,hq⟩:=own_item hro ho hj
  exact ⟨q,e,hq,by rw [←e];exact validVs_at hvs hj⟩
 have hN:=lenVs_nonneg hD (by omega) h hA x.items.length (Nat.le_refl _)
 rw [List.take_length] at hN
 obtain ⟨hs0,hsj⟩:=hN
 have hlo:∀j (hj:j < x.items.length),at0 (mins D k) (itemR D[k] x.n j)≤lenV D (itemR D[k] x.n j) x.items[j]:=fun j hj=> by
  obtain ⟨q,e,hq,hy⟩:=hA j hj
  rw [e]
  exact h.lo q hq _ hy
 have hhi:lenVs D D[k] x.n 0 x.items≤400→∀j (hj:j < x.items.length),lenV D (itemR D[k] x.n j) x.items[j]≤at0 (maxsI D k) (itemR D[k] x.n j):=fun hl j hj=> by
  have:=hsj j hj hj
  obtain ⟨q,e,hq,hy⟩:=hA j hj
  rw [e] at this ⊢
  exact h.hi q hq _ hy (by omega)
 rw [mins_at hk,maxsI_at hk,lenV_at hk]
 have hbm:=mins_bd hD k (by omega)
 have hbx:=maxsI_bd hD k (by omega)
 generalize D[k]=r at*
 have hkid:∀j,j < r.kids.length→∃q:Nat,kid r j=q∧q < k:=fun j hj=> by
  have:=hf.kids _ (List.getElem_mem hj)
  rw [kid_at r j hj]
  exact ⟨(r.kids[j]).toNat,by omega,by omega⟩
 have hT:∀m,m≤x.items.length→x.items.length≤m→x.items.take m=x.items:=fun m _ h2=> List.take_of_length_le h2
 rcases kind_cases (ruleOk_kind hro) with q|q|q|q|q|q|q|q|q|q
 ·simp only [lenR,mnOf,mxOfI,q];simp;omega
 ·simp only [lenR,mnOf,mxOfI,q];simp;omega
 ·rw [own_3 q] at ho
  simp at ho
  simp only [lenR,mnOf,mxOfI,q];simp;omega
 ·rw [own_4 q] at ho
  simp at ho
  obtain ⟨p,e,hp⟩:=hkid 0 (by have:=(hf.c4 q).1;omega)
  have hl:=(hf.c4 q).2
  obtain ⟨f1,f2,f3,f4⟩:=field_at (D:=D) (k:=k) (by omega) hp (by rw [←e];omega)
  simp only [lenR,mnOf,mxOfI,q,e]
  rw [e] at ho hl
  simp
  omega
 ·rw [own_5 q] at ho
  simp at ho
  obtain ⟨p,e,hp⟩:=hkid 0 (by have:=(hf.c5 q).1;omega)
  have hl:=(hf.c5 q).2
  obtain ⟨f1,f2,f3,f4⟩:=field_at (D:=D) (k:=k) (by omega) hp (by rw [←e];omega)
  have hm0:=(at0_bd hbx (by omega) (kid r 1)).1
  have hc:lenVs D r x.n 0 x.items≤400→lenVs D r x.n 0 x.items≤min 40 (limitOf D p)*at0 (maxsI D k) (kid r 1):=fun hl4=> by
   have h1:=lenVs_const (D:=D) (r:=r) (n:=x.n) (l:=x.items) (M:=at0 (maxsI D k) (kid r 1)) (fun j hj=> by
    have:=hhi hl4 j hj
    rw [itemR_5 q] at this ⊢
    exact this) x.items.length (Nat.le_refl _)
   rw [List.take_length] at h1
   have h2:((x.items.length:Nat):Int)*at0 (maxsI D k) (kid r 1)≤min 40 (limitOf D p)*at0 (maxsI D k) (kid r 1):=Int.mul_le_mul_of_nonneg_right (by rw [e] at ho;omega) hm0
   omega
  simp only [lenR,mnOf,mxOfI,q,e]
  generalize min 40 (limitOf D p)*at0 (maxsI D k) (kid r 1)=Z at*
  simp
  omega
 ·rw [own_6 q] at ho
  simp at ho
  have h1:=lenVs_lo (D:=D) (r:=r) (n:=x.n) (l:=x.items) (o:=mins D k) q (by omega) hlo x.items.length (Nat.le_refl _)
  have h2:=fun hl4=> lenVs_hi (D:=D) (r:=r) (n:=x.n) (l:=x.items) (o:=maxsI D k) q (by omega) (hhi hl4) x.items.length (Nat.le_refl _)
  rw [List.take_length] at h1 h2
  have hle:x.items.length=r.kids.length:=by omega
  rw [hle] at h1 h2
  simp only [lenR,mnOf,mxOfI,q]
  simp
  omega
 ·rw [own_7 q] at ho
  simp at ho
  obtain ⟨hb0,hi1,hi0⟩:=ho
  obtain ⟨p,e,hp⟩:=hkid 0 (by have:=(hf.c7 q).1;omega)
  have hc7:=hf.c7 q
  have hlim:0≤limitOf D (kid r 0):=by
   have hkr:=ruleOk_kind hro
   unfold kindR at hkr
   rw [if_neg (by omega),if_neg (by omega),if_neg (by omega),if_neg (by omega),if_neg (by omega),if_neg (by omega),if_pos q,Bool.and_eq_true] at hkr
   have ht:=hkr.2
   unfold okTags at ht
   rw [Bool.and_eq_true,Bool.and_eq_true] at ht
   have:=(allTo_iff _ _).1 ht.2.2 0 (by omega)
   rw [tgAt_zero _ _ (by omega)] at this
   have:=inB_iff.1 this
   omega
  obtain ⟨f1,f2,f3,f4⟩:=field_at (D:=D) (k:=k) (by omega) hp (by rw [←e];exact hlim)
  have h1:=lenVs_one (D:=D) (r:=r) (n:=x.n) hi1
  have g1:=hlo 0 (by omega)
  have g2:=fun hl4=> hhi hl4 0 (by omega)
  rcases tagAt_bd r x.n with et|⟨t,ht,et, -⟩
  ·rw [itemR_7' q et] at hi0;omega
  ·rw [itemR_7 (i:=0) q et] at g1 g2 h1
   rw [←h1] at g1 g2
   have hmn:=minTo_le (mins D k) r.kids (n:=r.kids.length - 2) (j:=t) (by omega)
   have hmx:=maxTo_ge (maxsI D k) r.kids (n:=r.kids.length - 2) (j:=t) (by omega)
   have hkk:kid r (t+1)=r.kids.getD (t+1) 0:=rfl
   rw [hkk] at g1 g2
   simp only [lenR,mnOf,mxOfI,q,e]
   simp
   omega
 ·rw [own_8 q] at ho
  simp at ho
  have hm0:=(at0_bd hbx (by omega) (kid r 0)).1
  by_cases hz:x.items.length=0
  ·have h0:lenVs D r x.n 0 x.items=0:=by rw [List.length_eq_zero_iff.1 hz,lenVs_nil]
   simp only [lenR,mnOf,mxOfI,q]
   simp
   omega
  ·have h1:=lenVs_one (D:=D) (r:=r) (n:=x.n) (show x.items.length=1 by omega)
   have g1:=hlo 0 (by omega)
   have g2:=fun hl4=> hhi hl4 0 (by omega)
   rw [itemR_8 (i:=0) (.inl q)] at g1 g2 h1
   rw [←h1] at g1 g2
   simp only [lenR,mnOf,mxOfI,q]
   simp
   omega
 ·rw [own_9 q] at ho
  simp at ho
  have h1:=lenVs_one (D:=D) (r:=r) (n:=x.n) (show x.items.length=1 by omega)
  have g1:=hlo 0 (by omega)
  have g2:=fun hl4=> hhi hl4 0 (by omega)
  rw [itemR_8 (i:=0) (.inr q)] at g1 g2 h1
  rw [←h1] at g1 g2
  simp only [lenR,mnOf,mxOfI,q]
  simp
  omega
 ·simp only [lenR,mnOf,mxOfI,q]
  simp
  omega
theorem len_all {D:List RuleD} (hD:validD D=true):∀k,k≤D.length→LenI D k
 |0,_=> ⟨fun q hq=> absurd hq (by omega),fun q hq=> absurd hq (by omega)⟩
 |k+1,hk=> by
  have ih:=len_all hD k (by omega)
  refine ⟨fun q hq y hy=> ?_,fun q hq y hy hl=> ?_⟩
  ·rw [←mins_pre D hq hk]
   by_cases e:q=k
   ·subst e;exact (len_bd hD (by omega) ih y hy).1
   ·rw [mins_pre D (show q < k by omega) (by omega)]
    exact ih.lo q (by omega) y hy
  ·rw [←maxsI_pre D hq hk]
   by_cases e:q=k
   ·subst e;exact (len_bd hD (by omega) ih y hy).2 hl
   ·rw [maxsI_pre D (show q < k by omega) (by omega)]
    exact ih.hi q (by omega) y hy hl
end Go.Proofs.Yteldgdelmaeokaa
namespace Go.Proofs.Yteldgdelmaeokaa
open Go.RowKit
theorem sumTo_pos {o:List Int} (ks:List Int):∀n,(∀j,j < n→1≤at0 o (ks.getD j 0))→(n:Int)≤sumTo o ks n
 |0,_=> Int.le_refl _
 |n+1,h=> by
  have h1:=sumTo_pos ks n fun j hj=> h j (by omega)
  have h2:=h n (by omega)
  rw [sumTo]
  omega
theorem minTo_pos {o:List Int} (ks:List Int):∀n,(∀j,j≤n→1≤at0 o (ks.getD (j+1) 0))→1≤minTo o ks n
 |0,h=> h 0 (by omega)
 |n+1,h=> by
  have h1:=minTo_pos ks n fun j hj=> h j (by omega)
  have h2:1≤at0 o (ks.getD (n+2) 0):=h (n+1) (by omega)
  rw [minTo]
  omega
theorem mins_pos {D:List RuleD} (hD:validD D=true):∀k,k≤D.length→∀q,q < k→1≤at0 (mins D k) q
 |0,_,q,hq=> absurd hq (by omega)
 |k+1,hk,q,hq=> by
  have ih:=mins_pos hD k (by omega)
  by_cases e:q=k
  ·subst e
   have hf:=(validD_facts hD).2 q (by omega)
   have hkr:=ruleOk_kind (validD_at hD (k:=q) (by omega))
   rw [←mins_pre D (Nat.lt_succ_self q) hk,mins_at (by omega)]
   have hbm:=mins_bd hD q (by omega)
   generalize D[q]=r at*
   have hkid:∀j,j < r.kids.length→1≤at0 (mins D q) (r.kids.getD j 0):=fun j hj=> by
    have:=hf.kids _ (List.getElem_mem hj)
    rw [List.getD_eq_getElem?_getD,List.getElem?_eq_getElem hj]
    obtain ⟨t,ht⟩:=Int.eq_ofNat_of_zero_le this.1
    show 1≤at0 (mins D q) r.kids[j]
    rw [ht]
    exact ih t (by omega)
   have h0:=at0_bd hbm (by omega) (kid r 0)
   have hk0:kid r 0=r.kids.getD 0 0:=rfl
   rcases kind_cases hkr with c|c|c|c|c|c|c|c|c|c
   ·have:=hf.c1 c;simp only [mnOf,c];simp;omega
   ·have:=hf.c2 c;simp only [mnOf,c];simp;omega
   ·have:=hf.c3 c;simp only [mnOf,c];simp;omega
   ·have:=hkid 0 (by have:=(hf.c4 c).1;omega);rw [←hk0] at this;simp only [mnOf,c];simp;omega
   ·have:=hkid 0 (by have:=(hf.c5 c).1;omega);rw [←hk0] at this;simp only [mnOf,c];simp;omega
   ·have h6:=hf.c6 c
    have:=sumTo_pos r.kids r.kids.length fun j hj=> hkid j hj
    simp only [mnOf,c];simp;omega
   ·have h7:=hf.c7 c
    have:=minTo_pos r.kids (r.kids.length - 2) fun j hj=> hkid (j+1) (by omega)
    simp only [mnOf,c];simp;omega
   ·simp only [mnOf,c];simp;omega
   ·simp only [mnOf,c];simp;omega
   ·simp only [mnOf,c];simp;omega
  ·rw [mins_pre D (show q < k by omega) (by omega)]
   exact ih q (by omega)
def dpTo (o ks:List Int):Nat→Int
 |0=> 0
 |j+1=> max (dpTo o ks j) (at0 o (ks.getD j 0))
def deps (D:List RuleD):Nat→List Int
 |0=> []
 |k+1=> deps D k++ [dpTo (deps D k) (D.getD k default).kids (D.getD k default).kids.length+1]
theorem deps_length (D:List RuleD) (k:Nat):(deps D k).length=k:=by
 induction k with
 |zero=> rfl
 |succ k ih=> rw [deps,List.length_append,ih];rfl
theorem deps_pre (D:List RuleD) {k i:Nat} (hi:i < k):∀{m:Nat},k≤m→at0 (deps D m) i=at0 (deps D k) i
 |0,h=> by omega
 |m+1,h=> by
  by_cases e:k=m+1
  ·rw [e]
  ·rw [deps,at0_app (by rw [deps_length];omega),deps_pre D hi (m:=m) (by omega)]
theorem deps_at {D:List RuleD} {k:Nat} (hk:k < D.length):at0 (deps D D.length) k=dpTo (deps D k) D[k].kids D[k].kids.length+1:=by
 rw [deps_pre D (Nat.lt_succ_self k) (by omega),deps,getD_at hk]
 have:=at0_last (a:=deps D k) (x:=dpTo (deps D k) D[k].kids D[k].kids.length+1)
 rwa [deps_length] at this
theorem dpTo_ge (o ks:List Int):∀{n j:Nat},j < n→at0 o (ks.getD j 0)≤dpTo o ks n
 |0,j,h=> absurd h (by omega)
 |n+1,j,h=> by
  rw [dpTo]
  by_cases e:j=n
  ·subst e;exact Int.le_max_right _ _
  ·exact Int.le_trans (dpTo_ge o ks (by omega)) (Int.le_max_left _ _)
def depOf (D:List RuleD) (i:Int):Int:=if knownD D i then at0 (deps D D.length) i else 0
theorem dep_kid {D:List RuleD} (hD:validD D=true) {k j:Nat} (hk:k < D.length) (hj:j < D[k].kids.length):depOf D (D[k].kids[j]) < depOf D k:=by
 have hf:=(validD_facts hD).2 k hk
 have hx:=hf.kids _ (List.getElem_mem hj)
 obtain ⟨t,ht⟩:=Int.eq_ofNat_of_zero_le hx.1
 have hkn:∀i:Nat,i < D.length→knownD D i=true:=fun i hi=> by
  unfold knownD
  rw [hD,Bool.and_true]
  exact inB_iff.2 (by omega)
 rw [ht]
 unfold depOf
 rw [hkn t (by omega),hkn k hk,if_pos rfl,if_pos rfl,deps_at hk,deps_pre D (show t < k by omega) (by omega)]
 have:=dpTo_ge (deps D k) D[k].kids hj
 rw [List.getD_eq_getElem?_getD,List.getElem?_eq_getElem hj] at this
 have h2:at0 (deps D k) (D[k].kids[j])≤dpTo (deps D k) D[k].kids D[k].kids.length:=this
 rw [ht] at h2
 omega
def encN (D:List RuleD) (k:Int) (x:Val):Int:=if lenV D k x≤400 then lenV D k x else -1
theorem sizes_law {D:List RuleD} (hD:validD D=true) {k:Nat} (hk:k < D.length) {x:Val} (hv:validV D k x=true):
  1≤minSz D k∧(0≤encN D k x→minSz D k≤encN D k x∧encN D k x≤maxSz D k)∧minSz D (-1)=0∧maxSz D D.length=0:=by
 have hkn:knownD D k=true:=by
  unfold knownD
  rw [hD,Bool.and_true]
  exact inB_iff.2 (by omega)
 have hI:=len_all hD D.length (Nat.le_refl _)
 have h1:=hI.lo k hk x hv
 have h2:=hI.hi k hk x hv
 have h3:=mins_pos hD D.length (Nat.le_refl _) k hk
 refine ⟨?_,fun h=> ?_,?_,?_⟩
 ·unfold minSz;rw [if_pos hkn];exact h3
 ·unfold encN at h ⊢
  unfold minSz maxSz
  rw [if_pos hkn,if_pos hkn]
  split
  ·rename_i hle
   have:=h2 hle
   omega
  ·rename_i hle
   rw [if_neg hle] at h
   omega
 ·unfold minSz knownD
  rw [inB_false (by omega)]
  rfl
 ·unfold maxSz knownD
  rw [inB_false (by omega)]
  rfl
theorem escN_le (t:UInt8):∀l:List UInt8,escN t l≤2*l.length
 | []=> Nat.le_refl _
 |c::l=> by
  have:=escN_le t l
  rw [escN,List.length_cons]
  split <;> omega
theorem lenR_le {D:List RuleD} (hD:validD D=true) {k:Nat} (hk:k < D.length) {n:Int} {b:List UInt8} {ni:Nat} {s:Int} (ho:ownB D D[k] n b.length ni=true) (hs:0≤s):lenR D D[k] b s≤s+900:=by
 have hf:=(validD_facts hD).2 k hk
 have hkr:=ruleOk_kind (validD_at hD hk)
 have hsz:∀i:Int,szOf D i≤64:=fun i=> by
  unfold szOf
  by_cases h:0≤i∧i < D.length
  ·obtain ⟨j,hj,rfl,e⟩:=ruleAt_some h.1 h.2
   rw [e]
   exact ((validD_facts hD).2 j hj).size.2
  ·rw [ruleAt_none (by omega)]
   exact Int.le_of_lt (by decide)
 generalize D[k]=r at*
 have h0:=hsz (kid r 0)
 have he:=escN_le (r.bytes.headD 0) b
 have hsz2:=hf.size
 rcases kind_cases hkr with c|c|c|c|c|c|c|c|c|c
 ·simp only [lenR,c];simp;omega
 ·have:=hf.c2 c;simp only [lenR,c];simp;omega
 ·rw [own_3 c] at ho;simp at ho;simp only [lenR,c];simp;omega
 ·rw [own_4 c] at ho;simp at ho;simp only [lenR,c];simp;omega
 ·simp only [lenR,c];simp;omega
 ·simp only [lenR,c];simp <;> omega
 ·simp only [lenR,c];simp;omega
 ·simp only [lenR,c];simp <;> omega
 ·simp only [lenR,c];simp <;> omega
 ·rw [own_10 c] at ho;simp at ho;simp only [lenR,c];rw [List.headD_eq_head?_getD] at he;simp;omega
theorem lenVs_sizes {D:List RuleD} {r:RuleD} {n:Int} {l:List Val} (hi:∀j (hj:j < l.length),lenV D (itemR r n j) l[j]≤900*(1+(l[j].size:Int))):∀m,m≤l.length→lenVs D r n 0 (l.take m)≤900*(Val.sizes (l.take m):Int)
 |0,_=> by rw [List.take_zero,lenVs_nil,Val.sizes_nil];exact Int.le_refl _
 |m+1,hm=> by
  have h1:=lenVs_sizes hi m (by omega)
  have h2:=hi m (by omega)
  rw [lenVs_take (by omega),List.take_succ_eq_append_getElem (by omega),Val.sizes_append,Val.sizes_cons,Val.sizes_nil]
  omega
theorem lenV_le {D:List RuleD} (hD:validD D=true):∀k,k≤D.length→∀q,q < k→∀y,validV D q y=true→lenV D q y≤900*(1+(y.size:Int))
 |0,_,q,hq,_,_=> absurd hq (by omega)
 |k+1,hk,q,hq,y,hy=> by
  have ih:=lenV_le hD k (by omega)
  by_cases e:q=k
  ·subst e
   have hv:=hy
   rw [validV_at (by omega),Bool.and_eq_true] at hv
   have hro:=validD_at hD (k:=q) (by omega)
   have h1:=lenVs_sizes (D:=D) (r:=D[q]) (n:=y.n) (l:=y.items) (fun j hj=> by
    obtain ⟨t,et,ht⟩:=own_item hro hv.1 hj
    have h2:=validVs_at hv.2 hj
    rw [et] at h2 ⊢
    exact ih t ht _ h2) y.items.length (Nat.le_refl _)
   rw [List.take_length] at h1
   have hN:=lenVs_nonneg hD (by omega) (len_all hD q (by omega)) (l:=y.items) (r:=D[q]) (n:=y.n) (fun j hj=> by
    obtain ⟨t,et,ht⟩:=own_item hro hv.1 hj
    exact ⟨t,et,ht,by rw [←et];exact validVs_at hv.2 hj⟩) y.items.length (Nat.le_refl _)
   rw [List.take_length] at hN
   have h3:=lenR_le hD (k:=q) (by omega) hv.1 hN.1
   rw [lenV_at (by omega)]
   have h4:Val.sizes y.items≤y.size:=by cases y;rw [Val.size_mk];exact Nat.le_add_left _ _
   omega
  ·exact ih q (by omega) y hy
end Go.Proofs.Yteldgdelmaeokaa
