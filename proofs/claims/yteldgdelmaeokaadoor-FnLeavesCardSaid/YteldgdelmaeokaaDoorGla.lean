/- Out of DescM, SizP, SizL, IntRow, FldP, IntB, SumB: the walks and plain laws that the claim needs. No condition but those that each theorem names. -/
import Derived.Test.YteldgdelmaeokaaDoorGb
import Derived.Test.YteldgdelmaeokaaDoorGf
import Derived.Test.YteldgdelmaeokaaDoorGh
import Derived.Test.YteldgdelmaeokaaDoorGa
import Derived.Test.YteldgdelmaeokaaDoorGda
import Derived.WalkSpells
import Derived.WalkLawsBesides
set_option linter.unusedSimpArgs false
set_option linter.unusedVariables false
namespace Go.Proofs.YteldgdelmaeokaaDoor
open Go.RowKit
instance:Inhabited RuleD:=⟨⟨ByteArray.empty,0,0,false, [], [], [], []⟩⟩
structure RuleF (D:List RuleD) (k:Nat) (r:RuleD):Prop where
 kids:∀x∈r.kids,0≤x∧x < k
 size:0≤r.size∧r.size≤64
 kind:1≤r.kind∧r.kind≤10
 c0:r.kind=1∨r.kind=2∨r.kind=3∨r.kind=10→r.kids.length=0
 c1:r.kind=1→1≤r.size∧r.size≤4
 c2:r.kind=2→1≤r.bytes.length∧r.bytes.length≤16
 c3:r.kind=3→1≤r.size
 c4:r.kind=4→r.kids.length=1∧0 < limitOf D (kid r 0)
 c5:r.kind=5→r.kids.length=2∧0 < limitOf D (kid r 0)
 c6:r.kind=6→r.kids.length=r.names.length∧1≤r.names.length∧r.names.length≤8
 c7:r.kind=7→r.kids.length=r.tags.length+1∧1≤r.tags.length∧r.tags.length≤8
 c8:r.kind=8∨r.kind=9→r.kids.length=1
theorem plainR_iff {r:RuleD} {a b c d:Bool} {K:Int}:plainR r a b c d K=true↔(a=true∨r.size=0)∧(b=true∨r.bytes.length=0)∧(c=true∨r.names.length=0)∧(d=true∨r.tags.length=0)∧(K < 0∨(r.kids.length:Int)=K):=by
 unfold plainR
 simp only [Bool.and_eq_true,Bool.or_eq_true,beq_iff_eq,decide_eq_true_eq]
 have e:∀n:Nat,((n:Int)=0)=(n=0):=fun n=> by simp
 simp only [e]
theorem ruleOk_facts {D:List RuleD} {k:Nat} {r:RuleD} (h:ruleOk D k r=true):RuleF D k r:=by
 unfold ruleOk at h
 simp only [Bool.and_eq_true] at h
 obtain ⟨-,hk, -,hr, -⟩:=h
 have hkids:∀x∈r.kids,0≤x∧x < k:=by
  intro x hx
  obtain ⟨j,hj,rfl⟩:=List.getElem_of_mem hx
  have:=(allTo_iff _ _).1 hk j hj
  rw [kidAt_eq _ _ _ hj] at this
  have:=inB_iff.1 this
  omega
 unfold kindR at hr
 by_cases q1:r.kind=1
 ·rw [if_pos q1] at hr
  simp only [Bool.and_eq_true,plainR_iff] at hr
  have h2:=inB_iff.1 hr.2.1
  have h1:=hr.1
  exact ⟨hkids,by omega,by omega,by omega,by omega,by omega,by omega,by omega,by omega,by omega,by omega,by omega⟩
 rw [if_neg q1] at hr
 by_cases q2:r.kind=2
 ·rw [if_pos q2] at hr
  simp only [Bool.and_eq_true,plainR_iff] at hr
  have h2:=inB_iff.1 hr.2
  have h1:=hr.1
  simp only [Bool.false_eq_true,false_or] at h1
  exact ⟨hkids,by omega,by omega,by omega,by omega,by omega,by omega,by omega,by omega,by omega,by omega,by omega⟩
 rw [if_neg q2] at hr
 by_cases q3:r.kind=3
 ·rw [if_pos q3] at hr
  simp only [Bool.and_eq_true,plainR_iff] at hr
  have h2:=inB_iff.1 hr.2
  have h1:=hr.1
  exact ⟨hkids,by omega,by omega,by omega,by omega,by omega,by omega,by omega,by omega,by omega,by omega,by omega⟩
 rw [if_neg q3] at hr
 by_cases q4:r.kind=4
 ·rw [if_pos q4] at hr
  simp only [Bool.and_eq_true,plainR_iff,decide_eq_true_eq] at hr
  have h2:=hr.2
  have h1:=hr.1
  simp only [Bool.false_eq_true,false_or] at h1
  exact ⟨hkids,by omega,by omega,by omega,by omega,by omega,by omega,fun _=> ⟨by omega,h2⟩,by omega,by omega,by omega,by omega⟩
 rw [if_neg q4] at hr
 by_cases q5:r.kind=5
 ·rw [if_pos q5] at hr
  simp only [Bool.and_eq_true,plainR_iff,decide_eq_true_eq] at hr
  have h2:=hr.2
  have h1:=hr.1
  simp only [Bool.false_eq_true,false_or] at h1
  exact ⟨hkids,by omega,by omega,by omega,by omega,by omega,by omega,by omega,fun _=> ⟨by omega,h2⟩,by omega,by omega,by omega⟩
 rw [if_neg q5] at hr
 by_cases q6:r.kind=6
 ·rw [if_pos q6] at hr
  simp only [Bool.and_eq_true,plainR_iff,okNames] at hr
  have h2:=inB_iff.1 hr.2.2
  have h1:=hr.1
  simp only [Bool.false_eq_true,false_or] at h1
  exact ⟨hkids,by omega,by omega,by omega,by omega,by omega,by omega,by omega,by omega,fun _=> by omega,by omega,by omega⟩
 rw [if_neg q6] at hr
 by_cases q7:r.kind=7
 ·rw [if_pos q7] at hr
  simp only [Bool.and_eq_true,plainR_iff,okTags,beq_iff_eq] at hr
  have h2:=inB_iff.1 hr.2.2.1
  have h3:=hr.2.1
  have h1:=hr.1
  simp only [Bool.false_eq_true,false_or] at h1
  exact ⟨hkids,by omega,by omega,by omega,by omega,by omega,by omega,by omega,by omega,by omega,fun _=> by omega,by omega⟩
 rw [if_neg q7] at hr
 by_cases q8:r.kind=8∨r.kind=9
 ·rw [if_pos q8] at hr
  simp only [plainR_iff] at hr
  have h1:=hr
  simp only [Bool.false_eq_true,false_or] at h1
  exact ⟨hkids,by omega,by omega,by omega,by omega,by omega,by omega,by omega,by omega,by omega,by omega,fun _=> by omega⟩
 rw [if_neg q8] at hr
 by_cases q10:r.kind=10
 ·rw [if_pos q10] at hr
  simp only [Bool.and_eq_true,plainR_iff] at hr
  have h1:=hr.1
  simp only [Bool.false_eq_true,false_or] at h1
  exact ⟨hkids,by omega,by omega,by omega,by omega,by omega,by omega,by omega,by omega,by omega,by omega,by omega⟩
 ·rw [if_neg q10] at hr
  cases hr
theorem validD_facts {D:List RuleD} (h:validD D=true):(1≤D.length∧D.length≤24)∧∀k (hk:k < D.length),RuleF D k D[k]:=by
 unfold validD at h
 rw [Bool.and_eq_true] at h
 refine ⟨by have:=inB_iff.1 h.2;omega,fun k hk=> ?_⟩
 have:=(allTo_iff _ _).1 h.1 k hk
 rw [validR_at D k hk] at this
 exact ruleOk_facts this
def at0 (o:List Int) (i:Int):Int:=o.getD i.toNat 0
def sumTo (o ks:List Int):Nat→Int
 |0=> 0
 |k+1=> sumTo o ks k+at0 o (ks.getD k 0)
def minTo (o ks:List Int):Nat→Int
 |0=> at0 o (ks.getD 1 0)
 |j+1=> min (minTo o ks j) (at0 o (ks.getD (j+2) 0))
def maxTo (o ks:List Int):Nat→Int
 |0=> at0 o (ks.getD 1 0)
 |j+1=> max (maxTo o ks j) (at0 o (ks.getD (j+2) 0))
def inM (M:Int) (o:List Int):Prop:=∀x∈o,0≤x∧x≤M
theorem at0_bd {M:Int} {o:List Int} (h:inM M o) (hM:0≤M) (i:Int):0≤at0 o i∧at0 o i≤M:=by
 unfold at0
 rw [List.getD_eq_getElem?_getD]
 cases hx:o[i.toNat]? with
 |none=> simp;omega
 |some x=> exact h x (List.mem_of_getElem? hx)
theorem sumTo_bd {M:Int} {o:List Int} (h:inM M o) (hM:0≤M) (ks:List Int) (k:Nat):0≤sumTo o ks k∧sumTo o ks k≤M*k:=by
 induction k with
 |zero=> simp [sumTo]
 |succ k ih=>
  have:=at0_bd h hM (ks.getD k 0)
  rw [sumTo,show M*((k+1:Nat):Int)=M*k+M by rw [Int.natCast_add,Int.mul_add];simp]
  omega
theorem minTo_bd {M:Int} {o:List Int} (h:inM M o) (hM:0≤M) (ks:List Int) (k:Nat):0≤minTo o ks k∧minTo o ks k≤M:=by
 induction k with
 |zero=> exact at0_bd h hM _
 |succ k ih=>
  have:=at0_bd h hM (ks.getD (k+2) 0)
  rw [minTo]
  omega
theorem maxTo_bd {M:Int} {o:List Int} (h:inM M o) (hM:0≤M) (ks:List Int) (k:Nat):0≤maxTo o ks k∧maxTo o ks k≤M:=by
 induction k with
 |zero=> exact at0_bd h hM _
 |succ k ih=>
  have:=at0_bd h hM (ks.getD (k+2) 0)
  rw [maxTo]
  omega
def mnOf (o:List Int) (r:RuleD):Int:=
 if r.kind=1 then r.size else if r.kind=2 then r.bytes.length else if r.kind=3 then r.size
 else if r.kind=4 then at0 o (kid r 0) else if r.kind=5 then at0 o (kid r 0)
 else if r.kind=6 then sumTo o r.kids r.kids.length
 else if r.kind=7 then minTo o r.kids (r.kids.length - 2)+at0 o (kid r 0)
 else if r.kind=9 then at0 o (kid r 0)+1 else 1
def mins (D:List RuleD):Nat→List Int
 |0=> []
 |k+1=> mins D k++ [min 401 (mnOf (mins D k) (D.getD k default))]
theorem mins_length (D:List RuleD) (k:Nat):(mins D k).length=k:=by
 induction k with
 |zero=> rfl
 |succ k ih=> rw [mins,List.length_append,ih];rfl
theorem mnOf_nonneg {o:List Int} {r:RuleD} (h:inM 401 o) (hs:0≤r.size):0≤mnOf o r:=by
 have h1:=at0_bd h (by omega) (kid r 0)
 have h2:=sumTo_bd h (by omega) r.kids r.kids.length
 have h3:=minTo_bd h (by omega) r.kids (r.kids.length - 2)
 unfold mnOf
 repeat' split
 all_goals omega
theorem getD_at {D:List RuleD} {k:Nat} (hk:k < D.length):D.getD k default=D[k]:=by simp [List.getD,List.getElem?_eq_getElem hk]
theorem mins_bd {D:List RuleD} (h:validD D=true) (k:Nat) (hk:k≤D.length):inM 401 (mins D k):=by
 induction k with
 |zero=> intro x hx;simp [mins] at hx
 |succ k ih=>
  have hb:=ih (by omega)
  have hf:=(validD_facts h).2 k (by omega)
  rw [←getD_at (show k < D.length by omega)] at hf
  have h0:=mnOf_nonneg hb hf.size.1
  intro x hx
  rw [mins,List.mem_append,List.mem_singleton] at hx
  rcases hx with hx|rfl
  ·exact hb x hx
  ·omega
def mxOfI (D:List RuleD) (o:List Int) (r:RuleD):Int:=
 if r.kind=1 then r.size else if r.kind=2 then r.bytes.length else if r.kind=3 then r.size
 else if r.kind=4 then at0 o (kid r 0)+limitOf D (kid r 0)
 else if r.kind=5 then at0 o (kid r 0)+min 40 (limitOf D (kid r 0))*at0 o (kid r 1)
 else if r.kind=6 then sumTo o r.kids r.kids.length
 else if r.kind=7 then maxTo o r.kids (r.kids.length - 2)+at0 o (kid r 0)
 else if r.kind=8 then at0 o (kid r 0)+1
 else if r.kind=9 then at0 o (kid r 0)+1 else 400
def maxsI (D:List RuleD):Nat→List Int
 |0=> []
 |k+1=> maxsI D k++ [min 401 (mxOfI D (maxsI D k) (D.getD k default))]
theorem maxsI_length (D:List RuleD) (k:Nat):(maxsI D k).length=k:=by
 induction k with
 |zero=> rfl
 |succ k ih=> rw [maxsI,List.length_append,ih];rfl
theorem lim_nonneg {D:List RuleD} {k:Nat} {r:RuleD} (hf:RuleF D k r) (h:r.kind=4∨r.kind=5):0 < limitOf D (kid r 0):=by
 rcases h with h|h
 ·exact (hf.c4 h).2
 ·exact (hf.c5 h).2
theorem mul40_bd {a b M:Int} (h0:0≤a) (h1:a≤40) (h2:0≤b) (h3:b≤M) (hM:M≤401):0≤a*b∧a*b≤16040:=by
 have e1:=Int.mul_nonneg h0 h2
 have e2:a*b≤40*b:=Int.mul_le_mul_of_nonneg_right h1 h2
 omega
theorem mxOfI_nonneg {D:List RuleD} {o:List Int} {k:Nat} {r:RuleD} (h:inM 401 o) (hf:RuleF D k r):0≤mxOfI D o r:=by
 have h1:=at0_bd h (by omega) (kid r 0)
 have h5:=at0_bd h (by omega) (kid r 1)
 have h2:=sumTo_bd h (by omega) r.kids r.kids.length
 have h3:=maxTo_bd h (by omega) r.kids (r.kids.length - 2)
 have h4:=hf.size
 unfold mxOfI
 split;· omega
 split;· omega
 split;· omega
 split
 ·have:=lim_nonneg hf (.inl ‹_›);omega
 split
 ·have:=lim_nonneg hf (.inr ‹_›)
  have:=mul40_bd (show 0≤min 40 (limitOf D (kid r 0)) by omega) (by omega) h5.1 h5.2 (by omega)
  omega
 repeat' split
 all_goals omega
theorem maxsI_bd {D:List RuleD} (h:validD D=true) (k:Nat) (hk:k≤D.length):inM 401 (maxsI D k):=by
 induction k with
 |zero=> intro x hx;simp [maxsI] at hx
 |succ k ih=>
  have hb:=ih (by omega)
  have hf:=(validD_facts h).2 k (by omega)
  have h0:=mxOfI_nonneg hb hf
  rw [←getD_at (show k < D.length by omega)] at h0
  intro x hx
  rw [maxsI,List.mem_append,List.mem_singleton] at hx
  rcases hx with hx|rfl
  ·exact hb x hx
  ·omega
end Go.Proofs.YteldgdelmaeokaaDoor
namespace Go.Proofs.YteldgdelmaeokaaDoor
open Go.RowKit
def escN (t:UInt8):List UInt8→Nat
 | []=> 0
 |c::l=> (if c=t∨c=92 then 2 else 1)+escN t l
def szOf (D:List RuleD) (k:Int):Int:=match ruleAt D k with|none=> 0|some r=> r.size
def lenR (D:List RuleD) (r:RuleD) (b:List UInt8) (s:Int):Int:=
 if r.kind=1 then r.size
 else if r.kind=2 then r.bytes.length
 else if r.kind=3 then b.length
 else if r.kind=4 then szOf D (kid r 0)+b.length
 else if r.kind=5 then szOf D (kid r 0)+s
 else if r.kind=6 then s
 else if r.kind=7 then szOf D (kid r 0)+s
 else if r.kind=8 then 1+s
 else if r.kind=9 then s+1
 else (escN (r.bytes.headD 0) b:Int)+1
mutual
def lenV (D:List RuleD):Int→Val→Int
 |k, .mk n b l=> (match ruleAt D k with|none=> 0|some r=> lenR D r b (lenVs D r n 0 l))
def lenVs (D:List RuleD) (r:RuleD) (n:Int):Nat→List Val→Int
 | _, []=> 0
 |i,x::l=> lenV D (itemR r n i) x+lenVs D r n (i+1) l
end
theorem lenVs_nil (D:List RuleD) (r:RuleD) (n:Int) (i:Nat):lenVs D r n i []=0:=by rw [lenVs]
theorem lenVs_cons (D:List RuleD) (r:RuleD) (n:Int) (i:Nat) (x:Val) (l:List Val):lenVs D r n i (x::l)=lenV D (itemR r n i) x+lenVs D r n (i+1) l:=by rw [lenVs]
theorem lenVs_snoc (D:List RuleD) (r:RuleD) (n:Int) (x:Val):∀(l:List Val) (i:Nat),lenVs D r n i (l++ [x])=lenVs D r n i l+lenV D (itemR r n (i+l.length:Nat)) x
 | [],i=> by rw [List.nil_append,lenVs_cons,lenVs_nil,lenVs_nil];simp
 |y::l,i=> by
  rw [List.cons_append,lenVs_cons,lenVs_cons,lenVs_snoc D r n x l (i+1),List.length_cons,show i+1+l.length=i+(l.length+1) by omega]
  omega
theorem lenVs_take {D:List RuleD} {r:RuleD} {n:Int} {l:List Val} {m:Nat} (hm:m < l.length):lenVs D r n 0 (l.take (m+1))=lenVs D r n 0 (l.take m)+lenV D (itemR r n m) l[m]:=by
 rw [List.take_succ_eq_append_getElem hm,lenVs_snoc,List.length_take,Nat.min_eq_left (by omega),Nat.zero_add]
theorem ruleAt_at {D:List RuleD} {k:Nat} (hk:k < D.length):ruleAt D k=some D[k]:=by unfold ruleAt;rw [if_pos (by omega),Int.toNat_natCast,List.getElem?_eq_getElem hk]
theorem lenV_at {D:List RuleD} {k:Nat} (hk:k < D.length) (x:Val):lenV D k x=lenR D D[k] x.b (lenVs D D[k] x.n 0 x.items):=by
 cases x;rw [lenV,ruleAt_at hk];rfl
theorem at0_app {a b:List Int} {i:Nat} (h:i < a.length):at0 (a++b) i=at0 a i:=by
 unfold at0;rw [Int.toNat_natCast,List.getD_eq_getElem?_getD,List.getD_eq_getElem?_getD,List.getElem?_append_left h]
theorem at0_last {a:List Int} {x:Int}:at0 (a++ [x]) (a.length:Nat)=x:=by
 unfold at0;rw [Int.toNat_natCast,List.getD_eq_getElem?_getD,List.getElem?_append_right (Nat.le_refl _),Nat.sub_self];rfl
theorem mins_pre (D:List RuleD) {k i:Nat} (hi:i < k):∀{m:Nat},k≤m→at0 (mins D m) i=at0 (mins D k) i
 |0,h=> by omega
 |m+1,h=> by
  by_cases e:k=m+1
  ·rw [e]
  ·rw [mins,at0_app (by rw [mins_length];omega),mins_pre D hi (m:=m) (by omega)]
theorem maxsI_pre (D:List RuleD) {k i:Nat} (hi:i < k):∀{m:Nat},k≤m→at0 (maxsI D m) i=at0 (maxsI D k) i
 |0,h=> by omega
 |m+1,h=> by
  by_cases e:k=m+1
  ·rw [e]
  ·rw [maxsI,at0_app (by rw [maxsI_length];omega),maxsI_pre D hi (m:=m) (by omega)]
theorem mins_at {D:List RuleD} {k:Nat} (hk:k < D.length):at0 (mins D D.length) k=min 401 (mnOf (mins D k) D[k]):=by
 rw [mins_pre D (Nat.lt_succ_self k) (by omega),mins,getD_at hk]
 have:=at0_last (a:=mins D k) (x:=min 401 (mnOf (mins D k) D[k]))
 rwa [mins_length] at this
theorem maxsI_at {D:List RuleD} {k:Nat} (hk:k < D.length):at0 (maxsI D D.length) k=min 401 (mxOfI D (maxsI D k) D[k]):=by
 rw [maxsI_pre D (Nat.lt_succ_self k) (by omega),maxsI,getD_at hk]
 have:=at0_last (a:=maxsI D k) (x:=min 401 (mxOfI D (maxsI D k) D[k]))
 rwa [maxsI_length] at this
theorem minTo_le (o ks:List Int):∀{n j:Nat},j≤n→minTo o ks n≤at0 o (ks.getD (j+1) 0)
 |0,j,h=> by
  obtain rfl:j=0:=by omega
  exact Int.le_refl _
 |n+1,j,h=> by
  rw [minTo]
  by_cases e:j=n+1
  ·subst e;exact Int.min_le_right _ _
  ·exact Int.le_trans (Int.min_le_left _ _) (minTo_le o ks (by omega))
theorem maxTo_ge (o ks:List Int):∀{n j:Nat},j≤n→at0 o (ks.getD (j+1) 0)≤maxTo o ks n
 |0,j,h=> by
  obtain rfl:j=0:=by omega
  exact Int.le_refl _
 |n+1,j,h=> by
  rw [maxTo]
  by_cases e:j=n+1
  ·subst e;exact Int.le_max_right _ _
  ·exact Int.le_trans (maxTo_ge o ks (by omega)) (Int.le_max_left _ _)
theorem field_at {D:List RuleD} {k q:Nat} (hk:k≤D.length) (hq:q < k) (hl:0≤limitOf D q):szOf D q=at0 (mins D k) q∧szOf D q=at0 (maxsI D k) q∧1≤szOf D q∧szOf D q≤4:=by
 unfold limitOf at hl
 rw [ruleAt_at (show q < D.length by omega)] at hl
 have hl:0≤limitR D[q]:=hl
 unfold limitR at hl
 split at hl
 ·rename_i h
  have e:szOf D q=D[q].size:=by unfold szOf;rw [ruleAt_at (show q < D.length by omega)]
  rw [←mins_pre D hq hk,←maxsI_pre D hq hk,mins_at (by omega),maxsI_at (by omega),e]
  unfold mnOf mxOfI
  rw [if_pos h.1,if_pos h.1]
  omega
 ·omega
structure LenI (D:List RuleD) (k:Nat):Prop where
 lo:∀q,q < k→∀y,validV D q y=true→at0 (mins D k) q≤lenV D q y
 hi:∀q,q < k→∀y,validV D q y=true→lenV D q y≤400→lenV D q y≤at0 (maxsI D k) q
section
variable {D:List RuleD} {k:Nat} {r:RuleD} {n:Int} {l:List Val}
theorem lenVs_nonneg (hD:validD D=true) (hk:k≤D.length) (h:LenI D k) (hit:∀j (hj:j < l.length),∃q:Nat,itemR r n j=q∧q < k∧validV D q l[j]=true):
  ∀m,m≤l.length→0≤lenVs D r n 0 (l.take m)∧∀j (hj:j < m),(hjl:j < l.length)→lenV D (itemR r n j) l[j]≤lenVs D r n 0 (l.take m)
 |0,_=> by rw [List.take_zero,lenVs_nil];exact ⟨Int.le_refl _,fun j hj=> absurd hj (by omega)⟩
 |m+1,hm=> by
  obtain ⟨h1,h2⟩:=lenVs_nonneg hD hk h hit m (by omega)
  obtain ⟨q,e,hq,hv⟩:=hit m (by omega)
  have h3:=h.lo q hq _ hv
  have h4:=(at0_bd (mins_bd hD k hk) (by omega) q).1
  rw [lenVs_take (by omega),e]
  refine ⟨by omega,fun j hj hjl=> ?_⟩
  by_cases ej:j=m
  ·subst ej;rw [e];omega
  ·have:=h2 j (by omega) hjl;omega
theorem lenVs_one (h:l.length=1):lenVs D r n 0 l=lenV D (itemR r n 0) (l[0]'(by omega)):=by
 have:=lenVs_take (D:=D) (r:=r) (n:=n) (l:=l) (m:=0) (by omega)
 rw [List.take_zero,lenVs_nil,Nat.zero_add,List.take_of_length_le (by omega)] at this
 rw [this]
 simp
theorem lenVs_const {M:Int} (hi:∀j (hj:j < l.length),lenV D (itemR r n j) l[j]≤M):∀m,m≤l.length→lenVs D r n 0 (l.take m)≤(m:Int)*M
 |0,_=> by rw [List.take_zero,lenVs_nil];simp
 |m+1,hm=> by
  have h1:=lenVs_const hi m (by omega)
  have h2:=hi m (by omega)
  rw [lenVs_take (by omega),Int.natCast_add,Int.add_mul]
  omega
theorem lenVs_lo {o:List Int} (h6:r.kind=6) (hl:l.length≤r.kids.length) (hi:∀j (hj:j < l.length),at0 o (itemR r n j)≤lenV D (itemR r n j) l[j]):∀m,m≤l.length→sumTo o r.kids m≤lenVs D r n 0 (l.take m)
 |0,_=> by rw [List.take_zero,lenVs_nil];exact Int.le_refl _
 |m+1,hm=> by
  have h1:=lenVs_lo h6 hl hi m (by omega)
  have h2:=hi m (by omega)
  have e:itemR r n m=r.kids.getD m 0:=by rw [itemR_6 h6 (by omega),List.getD_eq_getElem?_getD,List.getElem?_eq_getElem (by omega)];rfl
  rw [lenVs_take (by omega),sumTo,←e]
  omega
theorem lenVs_hi {o:List Int} (h6:r.kind=6) (hl:l.length≤r.kids.length) (hi:∀j (hj:j < l.length),lenV D (itemR r n j) l[j]≤at0 o (itemR r n j)):∀m,m≤l.length→lenVs D r n 0 (l.take m)≤sumTo o r.kids m
 |0,_=> by rw [List.take_zero,lenVs_nil];exact Int.le_refl _
 |m+1,hm=> by
  have h1:=lenVs_hi h6 hl hi m (by omega)
  have h2:=hi m (by omega)
  have e:itemR r n m=r.kids.getD m 0:=by rw [itemR_6 h6 (by omega),List.getD_eq_getElem?_getD,List.getElem?_eq_getElem (by omega)];rfl
  rw [lenVs_take (by omega),sumTo,←e]
  omega
end
theorem len_bd {D:List RuleD} {k:Nat} (hD:validD D=true) (hk:k < D.length) (h:LenI D k) (x:Val) (hv:validV D k x=true):
  at0 (mins D D.length) k≤lenV D k x∧(lenV D k x≤400→lenV D k x≤at0 (maxsI D D.length) k):=by
 have hro:=validD_at hD hk
 have hf:=(validD_facts hD).2 k hk
 have hv':=hv
 rw [validV_at hk,Bool.and_eq_true] at hv'
 obtain ⟨ho,hvs⟩:=hv'
 have hA:∀j (hj:j < x.items.length),∃q:Nat,itemR D[k] x.n j=q∧q < k∧validV D q x.items[j]=true:=fun j hj=> by
  obtain ⟨q,e,hq⟩:=own_item hro ho hj
  exact ⟨q,e,hq,by rw [←e];exact validVs_at hvs hj⟩
 have hN:=lenVs_nonneg hD (by omega) h hA x.items.length (Nat.le_refl _)
 rw [List.take_length] at hN
 obtain ⟨hs0,hsj⟩:=hN
 have hlo:∀j (hj:j < x.items.length),at0 (mins D k) (itemR D[k] x.n j)≤lenV D (itemR D[k] x.n j) x.items[j]:=fun j hj=> by
  obtain ⟨q,e,hq,hy⟩:=hA j hj
  rw [e]
  exact h.lo q hq _ hy
 have hhi:lenVs D D[k] x.n 0 x.items≤400→∀j (hj:j < x.items.length),lenV D (itemR D[k] x.n j) x.items[j]≤at0 (maxsI D k) (itemR D[k] x.n j):=fun hl j hj=> by
  have:=hsj j hj hj
  obtain ⟨q,e,hq,hy⟩:=hA j hj
  rw [e] at this ⊢
  exact h.hi q hq _ hy (by omega)
 rw [mins_at hk,maxsI_at hk,lenV_at hk]
 have hbm:=mins_bd hD k (by omega)
 have hbx:=maxsI_bd hD k (by omega)
 generalize D[k]=r at*
 have hkid:∀j,j < r.kids.length→∃q:Nat,kid r j=q∧q < k:=fun j hj=> by
  have:=hf.kids _ (List.getElem_mem hj)
  rw [kid_at r j hj]
  exact ⟨(r.kids[j]).toNat,by omega,by omega⟩
 have hT:∀m,m≤x.items.length→x.items.length≤m→x.items.take m=x.items:=fun m _ h2=> List.take_of_length_le h2
 rcases kind_cases (ruleOk_kind hro) with q|q|q|q|q|q|q|q|q|q
 ·simp only [lenR,mnOf,mxOfI,q];simp;omega
 ·simp only [lenR,mnOf,mxOfI,q];simp;omega
 ·rw [own_3 q] at ho
  simp at ho
  simp only [lenR,mnOf,mxOfI,q];simp;omega
 ·rw [own_4 q] at ho
  simp at ho
  obtain ⟨p,e,hp⟩:=hkid 0 (by have:=(hf.c4 q).1;omega)
  have hl:=(hf.c4 q).2
  obtain ⟨f1,f2,f3,f4⟩:=field_at (D:=D) (k:=k) (by omega) hp (by rw [←e];omega)
  simp only [lenR,mnOf,mxOfI,q,e]
  rw [e] at ho hl
  simp
  omega
 ·rw [own_5 q] at ho
  simp at ho
  obtain ⟨p,e,hp⟩:=hkid 0 (by have:=(hf.c5 q).1;omega)
  have hl:=(hf.c5 q).2
  obtain ⟨f1,f2,f3,f4⟩:=field_at (D:=D) (k:=k) (by omega) hp (by rw [←e];omega)
  have hm0:=(at0_bd hbx (by omega) (kid r 1)).1
  have hc:lenVs D r x.n 0 x.items≤400→lenVs D r x.n 0 x.items≤min 40 (limitOf D p)*at0 (maxsI D k) (kid r 1):=fun hl4=> by
   have h1:=lenVs_const (D:=D) (r:=r) (n:=x.n) (l:=x.items) (M:=at0 (maxsI D k) (kid r 1)) (fun j hj=> by
    have:=hhi hl4 j hj
    rw [itemR_5 q] at this ⊢
    exact this) x.items.length (Nat.le_refl _)
   rw [List.take_length] at h1
   have h2:((x.items.length:Nat):Int)*at0 (maxsI D k) (kid r 1)≤min 40 (limitOf D p)*at0 (maxsI D k) (kid r 1):=Int.mul_le_mul_of_nonneg_right (by rw [e] at ho;omega) hm0
   omega
  simp only [lenR,mnOf,mxOfI,q,e]
  generalize min 40 (limitOf D p)*at0 (maxsI D k) (kid r 1)=Z at*
  simp
  omega
 ·rw [own_6 q] at ho
  simp at ho
  have h1:=lenVs_lo (D:=D) (r:=r) (n:=x.n) (l:=x.items) (o:=mins D k) q (by omega) hlo x.items.length (Nat.le_refl _)
  have h2:=fun hl4=> lenVs_hi (D:=D) (r:=r) (n:=x.n) (l:=x.items) (o:=maxsI D k) q (by omega) (hhi hl4) x.items.length (Nat.le_refl _)
  rw [List.take_length] at h1 h2
  have hle:x.items.length=r.kids.length:=by omega
  rw [hle] at h1 h2
  simp only [lenR,mnOf,mxOfI,q]
  simp
  omega
 ·rw [own_7 q] at ho
  simp at ho
  obtain ⟨hb0,hi1,hi0⟩:=ho
  obtain ⟨p,e,hp⟩:=hkid 0 (by have:=(hf.c7 q).1;omega)
  have hc7:=hf.c7 q
  have hlim:0≤limitOf D (kid r 0):=by
   have hkr:=ruleOk_kind hro
   unfold kindR at hkr
   rw [if_neg (by omega),if_neg (by omega),if_neg (by omega),if_neg (by omega),if_neg (by omega),if_neg (by omega),if_pos q,Bool.and_eq_true] at hkr
   have ht:=hkr.2
   unfold okTags at ht
   rw [Bool.and_eq_true,Bool.and_eq_true] at ht
   have:=(allTo_iff _ _).1 ht.2.2 0 (by omega)
   rw [tgAt_zero _ _ (by omega)] at this
   have:=inB_iff.1 this
   omega
  obtain ⟨f1,f2,f3,f4⟩:=field_at (D:=D) (k:=k) (by omega) hp (by rw [←e];exact hlim)
  have h1:=lenVs_one (D:=D) (r:=r) (n:=x.n) hi1
  have g1:=hlo 0 (by omega)
  have g2:=fun hl4=> hhi hl4 0 (by omega)
  rcases tagAt_bd r x.n with et|⟨t,ht,et, -⟩
  ·rw [itemR_7' q et] at hi0;omega
  ·rw [itemR_7 (i:=0) q et] at g1 g2 h1
   rw [←h1] at g1 g2
   have hmn:=minTo_le (mins D k) r.kids (n:=r.kids.length - 2) (j:=t) (by omega)
   have hmx:=maxTo_ge (maxsI D k) r.kids (n:=r.kids.length - 2) (j:=t) (by omega)
   have hkk:kid r (t+1)=r.kids.getD (t+1) 0:=rfl
   rw [hkk] at g1 g2
   simp only [lenR,mnOf,mxOfI,q,e]
   simp
   omega
 ·rw [own_8 q] at ho
  simp at ho
  have hm0:=(at0_bd hbx (by omega) (kid r 0)).1
  by_cases hz:x.items.length=0
  ·have h0:lenVs D r x.n 0 x.items=0:=by rw [List.length_eq_zero_iff.1 hz,lenVs_nil]
   simp only [lenR,mnOf,mxOfI,q]
   simp
   omega
  ·have h1:=lenVs_one (D:=D) (r:=r) (n:=x.n) (show x.items.length=1 by omega)
   have g1:=hlo 0 (by omega)
   have g2:=fun hl4=> hhi hl4 0 (by omega)
   rw [itemR_8 (i:=0) (.inl q)] at g1 g2 h1
   rw [←h1] at g1 g2
   simp only [lenR,mnOf,mxOfI,q]
   simp
   omega
 ·rw [own_9 q] at ho
  simp at ho
  have h1:=lenVs_one (D:=D) (r:=r) (n:=x.n) (show x.items.length=1 by omega)
  have g1:=hlo 0 (by omega)
  have g2:=fun hl4=> hhi hl4 0 (by omega)
  rw [itemR_8 (i:=0) (.inr q)] at g1 g2 h1
  rw [←h1] at g1 g2
  simp only [lenR,mnOf,mxOfI,q]
  simp
  omega
 ·simp only [lenR,mnOf,mxOfI,q]
  simp
  omega
theorem len_all {D:List RuleD} (hD:validD D=true):∀k,k≤D.length→LenI D k
 |0,_=> ⟨fun q hq=> absurd hq (by omega),fun q hq=> absurd hq (by omega)⟩
 |k+1,hk=> by
  have ih:=len_all hD k (by omega)
  refine ⟨fun q hq y hy=> ?_,fun q hq y hy hl=> ?_⟩
  ·rw [←mins_pre D hq hk]
   by_cases e:q=k
   ·subst e;exact (len_bd hD (by omega) ih y hy).1
   ·rw [mins_pre D (show q < k by omega) (by omega)]
    exact ih.lo q (by omega) y hy
  ·rw [←maxsI_pre D hq hk]
   by_cases e:q=k
   ·subst e;exact (len_bd hD (by omega) ih y hy).2 hl
   ·rw [maxsI_pre D (show q < k by omega) (by omega)]
    exact ih.hi q (by omega) y hy hl
end Go.Proofs.YteldgdelmaeokaaDoor
namespace Go.Proofs.YteldgdelmaeokaaDoor
open Go.RowKit
theorem escN_le (t:UInt8):∀l:List UInt8,escN t l≤2*l.length
 | []=> Nat.le_refl _
 |c::l=> by
  have:=escN_le t l
  rw [escN,List.length_cons]
  split <;> omega
theorem lenR_le {D:List RuleD} (hD:validD D=true) {k:Nat} (hk:k < D.length) {n:Int} {b:List UInt8} {ni:Nat} {s:Int} (ho:ownB D D[k] n b.length ni=true) (hs:0≤s):lenR D D[k] b s≤s+900:=by
 have hf:=(validD_facts hD).2 k hk
 have hkr:=ruleOk_kind (validD_at hD hk)
 have hsz:∀i:Int,szOf D i≤64:=fun i=> by
  unfold szOf
  by_cases h:0≤i∧i < D.length
  ·obtain ⟨j,hj,rfl,e⟩:=ruleAt_some h.1 h.2
   rw [e]
   exact ((validD_facts hD).2 j hj).size.2
  ·rw [ruleAt_none (by omega)]
   exact Int.le_of_lt (by decide)
 generalize D[k]=r at*
 have h0:=hsz (kid r 0)
 have he:=escN_le (r.bytes.headD 0) b
 have hsz2:=hf.size
 rcases kind_cases hkr with c|c|c|c|c|c|c|c|c|c
 ·simp only [lenR,c];simp;omega
 ·have:=hf.c2 c;simp only [lenR,c];simp;omega
 ·rw [own_3 c] at ho;simp at ho;simp only [lenR,c];simp;omega
 ·rw [own_4 c] at ho;simp at ho;simp only [lenR,c];simp;omega
 ·simp only [lenR,c];simp;omega
 ·simp only [lenR,c];simp <;> omega
 ·simp only [lenR,c];simp;omega
 ·simp only [lenR,c];simp <;> omega
 ·simp only [lenR,c];simp <;> omega
 ·rw [own_10 c] at ho;simp at ho;simp only [lenR,c];rw [List.headD_eq_head?_getD] at he;simp;omega
theorem lenVs_sizes {D:List RuleD} {r:RuleD} {n:Int} {l:List Val} (hi:∀j (hj:j < l.length),lenV D (itemR r n j) l[j]≤900*(1+(l[j].size:Int))):∀m,m≤l.length→lenVs D r n 0 (l.take m)≤900*(Val.sizes (l.take m):Int)
 |0,_=> by rw [List.take_zero,lenVs_nil,Val.sizes_nil];exact Int.le_refl _
 |m+1,hm=> by
  have h1:=lenVs_sizes hi m (by omega)
  have h2:=hi m (by omega)
  rw [lenVs_take (by omega),List.take_succ_eq_append_getElem (by omega),Val.sizes_append,Val.sizes_cons,Val.sizes_nil]
  omega
theorem lenV_le {D:List RuleD} (hD:validD D=true):∀k,k≤D.length→∀q,q < k→∀y,validV D q y=true→lenV D q y≤900*(1+(y.size:Int))
 |0,_,q,hq,_,_=> absurd hq (by omega)
 |k+1,hk,q,hq,y,hy=> by
  have ih:=lenV_le hD k (by omega)
  by_cases e:q=k
  ·subst e
   have hv:=hy
   rw [validV_at (by omega),Bool.and_eq_true] at hv
   have hro:=validD_at hD (k:=q) (by omega)
   have h1:=lenVs_sizes (D:=D) (r:=D[q]) (n:=y.n) (l:=y.items) (fun j hj=> by
    obtain ⟨t,et,ht⟩:=own_item hro hv.1 hj
    have h2:=validVs_at hv.2 hj
    rw [et] at h2 ⊢
    exact ih t ht _ h2) y.items.length (Nat.le_refl _)
   rw [List.take_length] at h1
   have hN:=lenVs_nonneg hD (by omega) (len_all hD q (by omega)) (l:=y.items) (r:=D[q]) (n:=y.n) (fun j hj=> by
    obtain ⟨t,et,ht⟩:=own_item hro hv.1 hj
    exact ⟨t,et,ht,by rw [←et];exact validVs_at hv.2 hj⟩) y.items.length (Nat.le_refl _)
   rw [List.take_length] at hN
   have h3:=lenR_le hD (k:=q) (by omega) hv.1 hN.1
   rw [lenV_at (by omega)]
   have h4:Val.sizes y.items≤y.size:=by cases y;rw [Val.size_mk];exact Nat.le_add_left _ _
   omega
  ·exact ih q (by omega) y hy
end Go.Proofs.YteldgdelmaeokaaDoor
namespace Go.Proofs.YteldgdelmaeokaaDoor
open Go.RowKit
theorem SlI.all {w:World} {B:Nat} {v:Value} {l:List Int} (h:SlI w B v l) (h0:0 < l.length):
  ∃b off c,v= .slice (some ⟨b,off,none⟩) l.length c∧l.length≤c∧c≤maxLen∧b < B∧∀j (hj:j < l.length),w.cell? ⟨b,off+j,none⟩=some (.int .i64 l[j]):=by
 obtain ⟨_,A,c,rfl,hc,hm,hr⟩:=h
 obtain ⟨b,off,rfl,hb,hcell⟩:=hr h0
 exact ⟨b,off,c,rfl,hc,hm,hb,fun j hj=> hcell j _ (by rw [List.getElem?_map,List.getElem?_eq_getElem hj];rfl)⟩
end Go.Proofs.YteldgdelmaeokaaDoor
namespace Go.Proofs.YteldgdelmaeokaaDoor
open Go.RowKit
theorem fld_at {D:List RuleD} (hD:validD D=true) {k:Nat} (hk:k < D.length) (h0:0 < D[k].kids.length) (hl:0≤limitOf D (kid D[k] 0)):
  ∃q:Nat,∃hq:q < k,D[k].kids[0]=q∧szOf D (kid D[k] 0)=(D[q]'(by omega)).size∧1≤(D[q]'(by omega)).size∧(D[q]'(by omega)).size≤4∧limitOf D (kid D[k] 0)=pow8 (D[q]'(by omega)).size - 1:=by
 obtain ⟨q,e,hq⟩:=ruleOk_kids (validD_at hD hk) h0
 refine ⟨q,hq,e,?_⟩
 rw [kid_at _ _ h0,e] at hl ⊢
 have hs:szOf D (q:Int)=(D[q]'(by omega)).size:=by unfold szOf;rw [ruleAt_at (show q < D.length by omega)]
 have hm:limitOf D (q:Int)=limitR (D[q]'(by omega)):=by unfold limitOf;rw [ruleAt_at (show q < D.length by omega)]
 rw [hm] at hl ⊢
 unfold limitR at hl ⊢
 split at hl
 ·rename_i h
  rw [if_pos h]
  exact ⟨hs,h.2.1,h.2.2,rfl⟩
 ·omega
theorem tag_le {D:List RuleD} (hD:validD D=true) {k:Nat} (hk:k < D.length) (q:D[k].kind=7) {n:Int} (ho:0≤itemR D[k] n 0):0≤n∧n≤limitOf D (kid D[k] 0):=by
 have h:=ruleOk_kind (validD_at hD hk)
 generalize D[k]=r at*
 unfold kindR at h
 rw [q] at h
 simp only [show ¬((7:Int)=1) by decide,show ¬((7:Int)=2) by decide,show ¬((7:Int)=3) by decide,show ¬((7:Int)=4) by decide,show ¬((7:Int)=5) by decide,show ¬((7:Int)=6) by decide,if_false,if_true,Bool.and_eq_true] at h
 have h2:=h.2
 unfold okTags at h2
 simp only [Bool.and_eq_true,beq_iff_eq] at h2
 rcases tagAt_bd r n with e|⟨t,ht,e,e2⟩
 ·rw [itemR_7' q e] at ho;omega
 ·have h3:=(allTo_iff _ _).1 h2.2.2 t ht
  unfold tgAt at h3
  rw [List.getElem?_eq_getElem ht,e2] at h3
  simp only [Bool.and_eq_true] at h3
  have:=inB_iff.1 h3.1
  omega
theorem fldL {L:List RM} (hv:validD (L.map RM.d)=true) {k:Nat} (hk:k < L.length) (h0:0 < L[k].d.kids.length) (hl:0≤limitOf (L.map RM.d) (kid L[k].d 0)):
  ∃q:Nat,∃hq:q < L.length,q < k∧L[k].d.kids[0]=q∧szOf (L.map RM.d) (kid L[k].d 0)=L[q].d.size∧1≤L[q].d.size∧L[q].d.size≤4∧limitOf (L.map RM.d) (kid L[k].d 0)=pow8 L[q].d.size - 1:=by
 have:=fld_at hv (k:=k) (by rw [List.length_map];exact hk)
 simp only [List.getElem_map] at this
 obtain ⟨q,hq,e⟩:=this h0 hl
 exact ⟨q,by omega,hq,e⟩
theorem fld_cells {w:World} {B:Nat} {v A4:_} {L:List RM} (h:SlD w B v L) {k c4:Nat} (hk:k < L.length) (h0:0 < L[k].d.kids.length) (e4:L[k].vk= .slice A4 L[k].d.kids.length c4):
  ∃bk ok,A4=some ⟨bk,ok,none⟩∧bk < B∧w.cell? ⟨bk,ok,none⟩=some (.int .i64 L[k].d.kids[0]):=by
 obtain ⟨b,off,c,e, -, -,hb,hc⟩:=SlI.all (h.2 _ (List.getElem_mem hk)).k h0
 rw [e4] at e
 simp only [Value.slice.injEq] at e
 exact ⟨b,off,e.1,hb,hc 0 h0⟩
theorem own_oneP (w:World) (e:TypeId) (x:Value):(w.alloc (.cells #[x] e)).ownsRow w.heap.size e 1 (.slice (some ⟨w.heap.size,0,none⟩) 1 1) 1 [x]:=
 ⟨rfl, .inr ⟨w.heap.size,1, #[x],rfl,Nat.le_refl _,heap_alloc_new w _,Nat.le_refl _,by simp [maxLen],rfl,rfl⟩⟩
theorem bytes_10 {D:List RuleD} {r:RuleD} (h:kindR D r=true) (q:r.kind=10):r.bytes.length=1:=by
 unfold kindR at h
 rw [q] at h
 simp only [show ¬((10:Int)=1) by decide,show ¬((10:Int)=2) by decide,show ¬((10:Int)=3) by decide,show ¬((10:Int)=4) by decide,show ¬((10:Int)=5) by decide,show ¬((10:Int)=6) by decide,show ¬((10:Int)=7) by decide,show ¬((10:Int)=8∨(10:Int)=9) by decide,if_false,if_true,Bool.and_eq_true,beq_iff_eq] at h
 omega
theorem escN_snoc (t c:UInt8):∀l:List UInt8,escN t (l++ [c])=escN t l+(if c=t∨c=92 then 2 else 1)
 | []=> by simp [escN]
 |x::l=> by rw [List.cons_append,escN,escN,escN_snoc t c l];omega
theorem escN_take {t:UInt8} {l:List UInt8} {m:Nat} (hm:m < l.length):escN t (l.take (m+1))=escN t (l.take m)+(if l[m]=t∨l[m]=92 then 2 else 1):=by
 rw [List.take_succ_eq_append_getElem hm,escN_snoc]
end Go.Proofs.YteldgdelmaeokaaDoor
namespace Go.Proofs.YteldgdelmaeokaaDoor
open Go.RowKit
def MadeN (m:Nat) (w:World) (e:Ending) (w':World):Prop:=∃u xs,e= .returned u∧xs.length=m∧w'.ownsRow w.heap.size 5 1 u xs.length (u8s xs)∧Below w.heap.size w w'
set_option maxHeartbeats 1000000 in
set_option maxRecDepth 100000 in
theorem specBig_any (n:Int) (m:Nat) (w:World) (h1:1≤m) (h4:m≤4) (hn:0≤n) (hp:n≤pow8 m - 1) (hn2:n≤4294967295):
  Calls Tryd.prog 100 #[.int .i64 n, .int .i64 m] w (MadeN m w):=by
 obtain ⟨i0,hi,hz0,hz1,hz2⟩:=info_parts Tryd.info_u8
 have hin1:inB (m:Int) 1 4=true:=inB_true (by omega) (by omega)
 have hin2:inB n 0 (pow8 m - 1)=true:=inB_true hn hp
 have hpb:pow8 m≤4294967296∧256≤pow8 m:=by unfold pow8;repeat' split <;> omega
 go_enter Tryd.func100,Tryd.ntmps100
 go_wp2_with fail
 refine (l1In_any _ _ _ _).mono ?_
 rintro e w1 ⟨rfl,rfl⟩
 rw [hin1]
 go_wp2_with fail
 refine (l2Power_any _ _ (by omega) (by omega)).mono ?_
 rintro e w1 ⟨rfl,rfl⟩
 have hpw:IntKind.i64.wrap (pow8 m - 1)=pow8 m - 1:=IntWalk.i64_in _ (by omega)
 go_wp2_with fail
 refine (l1In_any _ _ _ _).mono ?_
 rintro e w1 ⟨rfl,rfl⟩
 rw [hin2]
 go_wp2
 go_loopw [5,6] (fun o i wr=> ∃xs:List UInt8,xs.length≤m∧i= .int .i64 ((m:Int) - 1 - xs.length)∧wr.ownsRow w.heap.size 5 1 o xs.length (u8s xs)∧Below w.heap.size w wr) (fun _ i _=> (intOf i+1).toNat)
 case atStart=> exact ⟨[],Nat.zero_le _,by simp,own_empty _ _ _,(Below.refl _ _).alloc (Nat.le_refl _) _⟩
 case round=>
  obtain ⟨xs,hk,rfl,hown,hb⟩:=hrel
  by_cases hlt:xs.length < m
  ·have hsz:=hb.size
   have hOW:=Lib.hid hown
   have hBB:=Lib.hid hb
   clear hown hb
   obtain ⟨j,hj⟩:∃j:Nat,(m:Int) - 1 - xs.length=j:=⟨m - 1 - xs.length,by omega⟩
   rw [hj]
   have hj4:j≤3:=by omega
   obtain ⟨z,hzq⟩:∃z:Int,z=n / 2 ^ (8*j) % 256:=⟨_,rfl⟩
   have hx0:0≤z:=by rw [hzq];omega
   have hx1:z≤255:=by rw [hzq];omega
   go_wp2_with (at_builtin;rw [←hzq];refine wpList_app _ rfl (.tmp 26) (.tmp 32) 22 rfl w.heap.size 5 i0 (.int .u8 0) 1 1 Tryd.underlying22 hi hz0 hz1 hz2 rfl (by decide) _ xs.length _ rfl (own_below hOW.out ((Below.refl _ _).alloc (Nat.le_refl _) _) (Nat.le_refl _)) _ 1 _ (u8s [UInt8.ofNat z.toNat]) rfl (slb_oneG hx0 hx1 rfl) (u8s_one _) (by omega) (by unfold maxLen;omega) (by simp;omega) ?_;intro v2 w2 own2 hg2 _)
   have hlt3:=hOW.out.lt
   rw [←u8s_append] at own2
   have H2:=Lib.hid (And.intro own2 ((hBB.out.alloc hsz _).grown hg2 (by simp;omega) fun k e=> (hlt3 k e).1))
   clear own2 hg2 hlt3 hOW hBB
   go_roundw
   case rel=> exact ⟨xs++ [UInt8.ofNat z.toNat],by simp;omega,by simp;omega,by simpa using H2.out.1,H2.out.2⟩
   case measure=> simp [intOf] <;> omega
  ·have hM:xs.length=m:=by omega
   have H2:=Lib.hid (And.intro hown hb)
   clear hown hb
   go_wp2
   go_ret
   exact ⟨_,xs,rfl,hM,H2.out.1,H2.out.2⟩
set_option maxHeartbeats 1000000 in
set_option maxRecDepth 100000 in
theorem specLittle_any (n:Int) (m:Nat) (w:World) (h1:1≤m) (h4:m≤4) (hn:0≤n) (hp:n≤pow8 m - 1) (hn2:n≤4294967295):
  Calls Tryd.prog 99 #[.int .i64 n, .int .i64 m] w (MadeN m w):=by
 obtain ⟨i0,hi,hz0,hz1,hz2⟩:=info_parts Tryd.info_u8
 go_enter Tryd.func99,Tryd.ntmps99
 go_wp2_with fail
 refine (specBig_any n m w h1 h4 hn hp hn2).mono ?_
 rintro e w1 ⟨vb,bs,rfl,hbl,hbo,hb1⟩
 have hlt1:=hbo.lt
 have hsl:SlB w1 w1.heap.size vb bs:=Sl.of_own hbo
 obtain ⟨Ab,cb,rfl,hcb,hmb,hcell⟩:=hsl.one
 unfold maxLen at hmb
 have HC:=Lib.hid hcell
 have HB1:=Lib.hid hb1
 have hz1':=hb1.size
 clear hbo hsl hcell hb1 hlt1
 go_wp2
 go_loopw [6,7] (fun o i wr=> ∃xs:List UInt8,xs.length≤bs.length∧i= .int .i64 ((bs.length:Int) - 1 - xs.length)∧wr.ownsRow w1.heap.size 5 1 o xs.length (u8s xs)∧Below w1.heap.size w1 wr) (fun _ i _=> (intOf i+1).toNat)
 case atStart=> exact ⟨[],Nat.zero_le _,by simp;omega,own_empty _ _ _,(Below.refl _ _).alloc (Nat.le_refl _) _⟩
 case round=>
  obtain ⟨xs,hk,rfl,hown,hb⟩:=hrel
  by_cases hlt:xs.length < bs.length
  ·have hsz:=hb.size
   have hOW:=Lib.hid hown
   have hBB:=Lib.hid hb
   clear hown
   obtain ⟨j,hj⟩:∃j:Nat,(bs.length:Int) - 1 - xs.length=j:=⟨bs.length - 1 - xs.length,by omega⟩
   rw [hj]
   have hjb:j < bs.length:=by omega
   obtain ⟨bb,off,rfl,hbb,hd⟩:=HC.out j hjb
   have hd:=cell_at hb hbb hd
   have hx0:(0:Int)≤(bs[j].toNat:Int):=by omega
   have hx1:(bs[j].toNat:Int)≤255:=by have:=bs[j].toNat_lt;omega
   clear hb
   generalize bs[j]=y at*
   unfold u8v at hd
   go_wp2_with (at_builtin;refine wpList_app _ rfl (.tmp 19) (.tmp 24) 22 rfl w1.heap.size 5 i0 (.int .u8 0) 1 1 Tryd.underlying22 hi hz0 hz1 hz2 rfl (by decide) _ xs.length _ rfl (own_below hOW.out ((Below.refl _ _).alloc (Nat.le_refl _) _) (Nat.le_refl _)) _ 1 _ (u8s [UInt8.ofNat (y.toNat:Int).toNat]) rfl (slb_oneG hx0 hx1 rfl) (u8s_one _) (by omega) (by unfold maxLen;omega) (by simp;omega) ?_;intro v2 w2 own2 hg2 _)
   have hlt3:=hOW.out.lt
   rw [←u8s_append] at own2
   have H2:=Lib.hid (And.intro own2 ((hBB.out.alloc hsz _).grown hg2 (by simp;omega) fun k e=> (hlt3 k e).1))
   clear own2 hg2 hlt3 hOW hBB
   go_roundw
   case rel=> exact ⟨xs++ [UInt8.ofNat (y.toNat:Int).toNat],by simp;omega,by simp;omega,by simpa using H2.out.1,H2.out.2⟩
   case measure=> simp [intOf] <;> omega
  ·have hM:xs.length=bs.length:=by omega
   have H2:=Lib.hid (And.intro (own_base hown hz1') (below_step hb HB1.out))
   clear hown hb
   go_wp2
   go_ret
   exact ⟨_,xs,rfl,by omega,H2.out.1,H2.out.2⟩
set_option maxHeartbeats 1000000 in
set_option maxRecDepth 100000 in
theorem l8Integer_any (r:RM) (n:Int) (B:Nat) (w:World) (h:r.rd w B) (h1:1≤r.d.size) (h4:r.d.size≤4) (hn:0≤n) (hp:n≤pow8 r.d.size - 1):
  Calls Tryd.prog 82 #[rmV r, .int .i64 n] w (MadeN r.d.size.toNat w):=by
 have hpb:pow8 r.d.size≤4294967296:=by unfold pow8;repeat' split <;> omega
 have hn2:n≤4294967295:=by omega
 obtain ⟨m,hm⟩:=Int.eq_ofNat_of_zero_le (show 0≤r.d.size by omega)
 have hBG:∀W,Below w.heap.size w W→Calls Tryd.prog 100 #[.int .i64 n, .int .i64 r.d.size] W (MadeN r.d.size.toNat W):=fun W _=> by
  rw [hm] at hp ⊢
  exact specBig_any n m W (by omega) (by omega) hn hp hn2
 have hLT:∀W,Below w.heap.size w W→Calls Tryd.prog 99 #[.int .i64 n, .int .i64 r.d.size] W (MadeN r.d.size.toNat W):=fun W _=> by
  rw [hm] at hp ⊢
  exact specLittle_any n m W (by omega) (by omega) hn hp hn2
 obtain ⟨Ab,cb,eb, -⟩:=h.b.open_
 obtain ⟨An,cn,en, -⟩:=h.n.one
 obtain ⟨At,ct,et, -⟩:=h.t.one
 obtain ⟨Ak,ck,ek, -⟩:=h.k.one
 unfold rmV
 rw [eb,en,et,ek]
 have HBG:=Lib.hid hBG
 have HLT:=Lib.hid hLT
 have hb:=Below.allocW w (.cells #[.string r.d.name, .int .i64 r.d.kind, .int .i64 r.d.size, .bool r.d.little, .slice Ab r.d.bytes.length cb, .slice An r.d.names.length cn, .slice At r.d.tags.length ct, .slice Ak r.d.kids.length ck] 73) (Nat.le_refl _)
 have HBL:=Lib.hid hb
 clear hBG hLT hb hm hp h eb en et ek
 cases hl:r.d.little
 ·go_enter Tryd.func82,Tryd.ntmps82
  rw [hl] at HBL
  go_wp2_with fail
  refine (HBG.out _ HBL.out).mono ?_
  rintro e w1 ⟨u,xs,rfl,hx,ho,hb1⟩
  have HF:=Lib.hid (And.intro (own_base ho HBL.out.size) (below_step hb1 HBL.out))
  clear ho hb1
  go_wp2
  go_ret
  exact ⟨u,xs,rfl,hx,HF.out.1,HF.out.2⟩
 ·go_enter Tryd.func82,Tryd.ntmps82
  rw [hl] at HBL
  go_wp2_with fail
  refine (HLT.out _ HBL.out).mono ?_
  rintro e w1 ⟨u,xs,rfl,hx,ho,hb1⟩
  have HF:=Lib.hid (And.intro (own_base ho HBL.out.size) (below_step hb1 HBL.out))
  clear ho hb1
  go_wp2
  go_ret
  exact ⟨u,xs,rfl,hx,HF.out.1,HF.out.2⟩
end Go.Proofs.YteldgdelmaeokaaDoor
namespace Go.Proofs.YteldgdelmaeokaaDoor
open Go.RowKit
set_option maxHeartbeats 1000000 in
set_option maxRecDepth 100000 in
theorem specSum_any (v:Value) (l:List UInt8) (B:Nat) (w:World) (h:SlB w B v l) (hB:B≤w.heap.size):
  Calls Tryd.prog 83 #[v] w fun e w'=> (∃x:Int,e= .returned (.int .i64 x)∧0≤x∧x≤255)∧w=w':=by
 obtain ⟨A,c,rfl,hc,hm,hcell⟩:=h.one
 unfold maxLen at hm
 have HC:=Lib.hid hcell
 clear hcell h
 go_enter Tryd.func83,Tryd.ntmps83
 go_wp2
 go_loopw [3,4] (fun s i wr=> ∃(k:Nat) (x:Int),k≤l.length∧i= .int .i64 k∧s= .int .i64 x∧0≤x∧x≤255∧wr=w) (fun _ i _=> l.length - (intOf i).toNat)
 case atStart=> exact ⟨0,0,Nat.zero_le _,rfl,rfl,by omega,by omega,rfl⟩
 case round=>
  obtain ⟨k,x,hk,rfl,rfl,hx0,hx1,rfl⟩:=hrel
  by_cases hlt:k < l.length
  ·obtain ⟨bb,off,rfl,hbb,hd⟩:=HC.out k hlt
   have hy0:(0:Int)≤(l[k].toNat:Int):=by omega
   have hy1:(l[k].toNat:Int)≤255:=by have:=l[k].toNat_lt;omega
   unfold u8v at hd
   generalize l[k]=y at*
   go_wp2
   go_roundw
   case rel=> exact ⟨k+1,(x+(y.toNat:Int)) % 256,by omega,by go_num,by simp,by omega,by omega,by trivial⟩
   case measure=> simp [intOf];omega
  ·go_wp2
   go_ret
   exact ⟨⟨x,rfl,hx0,hx1⟩,by trivial⟩
end Go.Proofs.YteldgdelmaeokaaDoor
