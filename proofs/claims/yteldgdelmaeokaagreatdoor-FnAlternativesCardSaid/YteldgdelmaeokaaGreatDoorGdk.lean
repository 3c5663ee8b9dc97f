/- Out of EdB, EdM, EdR, EdS: the walks and plain laws that the claim needs. No condition but those that each theorem names. -/
import Derived.Test.YteldgdelmaeokaaGreatDoorGra
import Derived.Test.YteldgdelmaeokaaGreatDoorGf
import Derived.Laws.CopyOwn
import Derived.Test.YteldgdelmaeokaaGreatDoorGdj
set_option linter.unusedSimpArgs false
set_option linter.unusedVariables false
namespace Go.Proofs.YteldgdelmaeokaaGreatDoor
open Go.RowKit
theorem Mw {D:List Zi} {p:Zv}:∀{t:List ByteArray} {k k':Int} {x y:Zv},Jk D k x t=some (k',y)→Jk D k (Ta D p k x t) t=some (k',p)
 | [],k,k',x,y,hw=> by
  rw [Uh] at hw
  rw [Ro,Uh]
  cases hw
  rfl
 |s::t,k,k',x,y,hw=> by
  rcases Yz D k x.items.length s with e|⟨j,hj,e⟩
  ·rw [Tm (by omega)] at hw;cases hw
  ·rw [Us e hj] at hw
   have ih:=Mw (p:=p) hw
   rw [Pr e hj]
   have hl:(x.items.set j (Ta D p (Ul D k x.n j) x.items[j] t)).length=x.items.length:=List.length_set
   rw [Us (j:=j) (by simp only [Zv.items_mk,hl];exact e) (by simp only [Zv.items_mk,hl];exact hj)]
   simp only [Zv.items_mk,Zv.n_mk,List.getElem_set_self]
   exact ih
def Xj (D:List Zi) (k kd:Int):Bool:=match Jo D k with|none=> false|some r=> decide (r.kind=kd)
theorem Xr {D:List Zi} {k:Nat} (hk:k < D.length) (kd:Int):Xj D k kd=decide (D[k].kind=kd):=by
 obtain ⟨q,hq,e,hat⟩:=Yd (D:=D) (i:=(k:Int)) (by omega) (by omega)
 have:q=k:=by omega
 subst this
 unfold Xj
 rw [hat]
theorem Vx {w:World} {b o:Nat} {v:Value} (h:w.cell? ⟨b,o,none⟩=some v):w.setCell ⟨b,o,none⟩ v=w:=by
 have e:∀q:World,q.heap=w.heap→q={ w with heap:=q.heap }→q=w:=fun q h1 h2=> by rw [h2,h1]
 refine e _ ?_ rfl
 unfold World.setCell
 apply Array.ext_getElem?
 intro j
 rw [Array.getElem?_modify]
 split
 ·rename_i hj
  simp only at hj
  subst hj
  unfold World.cell? at h
  cases hh:w.heap[b]? with
  |none=> rfl
  |some ob=>
   rw [hh] at h
   cases ob with
   |cells c t fz=>
    have h':c[o]?=some v:=by simpa using h
    obtain ⟨h1,h2⟩:=Array.getElem?_eq_some_iff.1 h'
    have:c.setIfInBounds o v=c:=by
     rw [Array.setIfInBounds_def,dif_pos h1]
     subst h2
     simp
    simp [this]
   | _=> simp at h
 ·rfl
theorem Gp {T:Type} (c:T→List Value) (size:Nat) (hc:∀t,(c t).length=size):∀(l:List T) (i:Nat),(l.flatMap c).take (i*size)=(l.take i).flatMap c
 | [],i=> by simp
 |x::l,0=> by simp
 |x::l,i+1=> by
  rw [List.flatMap_cons,List.take_succ_cons,List.flatMap_cons,←Gp c size hc l i,Nat.succ_mul,List.take_append]
  rw [List.take_of_length_le (by rw [hc];omega),hc]
  congr 2
  omega
theorem Gq {T:Type} (c:T→List Value) (size:Nat) (hc:∀t,(c t).length=size):∀(l:List T) (i:Nat),(l.flatMap c).drop (i*size)=(l.drop i).flatMap c
 | [],i=> by simp
 |x::l,0=> by simp
 |x::l,i+1=> by
  rw [List.flatMap_cons,List.drop_succ_cons,←Gq c size hc l i,Nat.succ_mul,List.drop_append]
  rw [List.drop_of_length_le (by rw [hc];omega),hc,List.nil_append]
  congr 1
  omega
theorem Gw.head {w:World} {B c i:Nat} {A:Option Addr} {l:List VM} (h:Gw w B (.slice A l.length c) l) (hi:i≤l.length) (hc:l.length≤c) (hm:c≤maxLen):Sl w B 3 (.slice (cutA A c 0 3) (i - 0) (c - 0)) (i - 0) ((l.take i).flatMap Ze):=by
 have:=Sl.cutA h.1 0 i c (Eb _) hi (by omega) hm (by decide)
 rw [Nat.zero_mul,List.drop_zero,Nat.sub_zero,Gp Ze 3 Qj] at this
 exact this
theorem Gw.rest {w:World} {B c i:Nat} {A:Option Addr} {l:List VM} (h:Gw w B (.slice A l.length c) l) (hi:i≤l.length) (hc:l.length≤c) (hm:c≤maxLen):Sl w B 3 (.slice (cutA A c i 3) (l.length - i) (c - i)) (l.length - i) ((l.drop i).flatMap Ze):=by
 have:=Sl.cutA h.1 i l.length c hi (Fu _) hc hm (by decide)
 rw [Gq Ze 3 Qj,List.take_of_length_le (by rw [Vv Ze 3 Qj,List.length_drop];exact Fu _)] at this
 exact this
theorem Km {D:List Zi}:∀{t:List ByteArray} {k k':Int} {x y:Zv},Jk D k x t=some (k',y)→y.size≤x.size
 | [],k,k',x,y,hw=> by rw [Uh] at hw;cases hw;exact Fu _
 |s::t,k,k',x,y,hw=> by
  rcases Yz D k x.items.length s with e|⟨j,hj,e⟩
  ·rw [Tm (by omega)] at hw;cases hw
  ·rw [Us e hj] at hw
   refine Nat.le_trans (Km hw) ?_
   have h1:=Zv.size_le_of_mem (Fw hj)
   have e2:x.size=x.b.length+Zv.sizes x.items:=by conv=> lhs;rw [Zv.eta x,Zv.size_mk]
   omega
def Oc (D:List Zi) (k tag:Int):Int:=match Jo D k with|none=> -1|some r=> Qk r tag 0
def kidK (D:List Zi) (k:Int):Int:=match Jo D k with|none=> -1|some r=> Xt r 0
def selV (D:List Zi) (tag k:Int):Zv:= .mk tag [] [Jw D (Oc D k tag).toNat]
def Vd (D:List Zi) (tag k:Int) (_:Zv):Option Zv:=if Xj D k 7 && decide (0≤Oc D k tag) then some (selV D tag k) else none
def Ts (D:List Zi) (pr:Bool) (k:Int) (y:Zv):Zv:=if pr then (if y.items.length=0 then .mk y.n y.b [Jw D (kidK D k).toNat] else y) else .mk y.n y.b []
def Uf (D:List Zi) (pr:Bool) (k:Int) (y:Zv):Option Zv:=if Xj D k 8 then some (Ts D pr k y) else none
theorem rule_nat {D:List Zi} {k:Nat} (hk:k < D.length):Jo D k=some D[k]:=by
 obtain ⟨q,hq,e,hat⟩:=Yd (D:=D) (i:=(k:Int)) (by omega) (by omega)
 have:q=k:=by omega
 subst this
 exact hat
theorem Gl {D:List Zi} {k:Nat} (hk:k < D.length) (tag:Int):Oc D k tag=Qk D[k] tag 0:=by unfold Oc;rw [rule_nat hk]
theorem Mh {D:List Zi} {k:Nat} (hk:k < D.length):kidK D k=Xt D[k] 0:=by unfold kidK;rw [rule_nat hk]
theorem item_7 {D:List Zi} (hR:∀k (hk:k < D.length),Lk D k hk) {k:Nat} (hk:k < D.length) (e:D[k].kind=7) (tag:Int):(Tn D[k] tag= -1∧Oc D k tag= -1)∨∃(j q:Nat) (h1:j < D[k].tags.length) (h2:j+1 < D[k].kids.length),Tn D[k] tag=j∧D[k].tags[j]=tag∧D[k].kids[j+1]=q∧q < k∧Oc D k tag=q:=by
 have hi:Oc D k tag=if Tn D[k] tag < 0 then -1 else Xt D[k] ((Tn D[k] tag).toNat+1):=by
  rw [Gl hk]
  unfold Qk
  rw [if_neg (by omega),if_neg (by omega),if_pos e]
 rcases Ow D[k] tag with h|⟨j,hj,h1,h2⟩
 ·left
  refine ⟨h,?_⟩
  rw [hi,h,if_pos (by omega)]
 ·right
  obtain ⟨-,hl, -⟩:=val7 (hR k hk) e
  have hj2:j+1 < D[k].kids.length:=by omega
  obtain ⟨q,hq,hqk⟩:=(hR k hk).kidN hj2
  refine ⟨j,q,hj,hj2,h1,h2,hq,hqk,?_⟩
  rw [hi,h1,if_neg (by omega),Int.toNat_natCast,Jb _ _ hj2,hq]
theorem opt_shape {D:List Zi} {k:Nat} (hk:k < D.length) (e:D[k].kind=8) {y:Zv} (hv:Zn D k y=true):y= .mk 0 [] y.items∧y.items.length≤1:=by
 rw [Mx hk,Bool.and_eq_true] at hv
 have ho:=hv.1
 unfold Qh at ho
 simp [e] at ho
 refine ⟨?_,by omega⟩
 cases y with
 |mk n b l=>
  simp only [Zv.n_mk,Zv.b_mk,Zv.items_mk] at ho ⊢
  rw [ho.1,ho.2.1]
section
variable {D:List Zi} (hR:∀k (hk:k < D.length),Lk D k hk) (h9:D.length≤9)
include hR h9
theorem Fe {k:Nat} (hk:k < D.length) {tag:Int} {y P:Zv} (h:Vd D tag k y=some P):P=selV D tag k∧Zn D k P=true∧P.n=tag∧P.size≤589824:=by
 unfold Vd at h
 split at h
 ·rename_i hc
  rw [Bool.and_eq_true,decide_eq_true_eq,Xr hk,decide_eq_true_eq] at hc
  cases h
  refine ⟨rfl,?_⟩
  unfold selV
  rcases item_7 hR hk hc.1 tag with ⟨-,e⟩|⟨j,q,h1,h2, -,ht,hq,hqk,e⟩
  ·omega
  ·rw [e,Int.toNat_natCast]
   obtain ⟨i1,i2⟩:=Fp hR q (by omega)
   obtain ⟨-, -,hv⟩:=val7 (hR k hk) hc.1
   refine ⟨?_,rfl,?_⟩
   ·have:=hv j h1 h2 (Jw D q) (by rw [hq];exact i1)
    rwa [ht] at this
   ·refine Nat.le_trans (Yk (k:=k) (by simp) (by simp) (.inr (by omega)) fun x hx=> ?_) (sB_bd (by omega))
    simp only [List.mem_singleton] at hx
    subst hx
    exact Nat.le_trans i2 (Th (by omega))
 ·cases h
theorem Fg {k:Nat} (hk:k < D.length) {pr:Bool} {y P:Zv} (hv:Zn D k y=true) (h:Uf D pr k y=some P):P=Ts D pr k y∧Zn D k P=true∧(P.items.length=1↔pr=true)∧Uf D pr k P=some P∧P.size≤y.size+589825:=by
 unfold Uf at h
 split at h
 ·rename_i hc
  cases h
  refine ⟨rfl,?_⟩
  have hc':=hc
  rw [Xr hk,decide_eq_true_eq] at hc'
  obtain ⟨hy,hl⟩:=opt_shape hk hc' hv
  obtain ⟨h2,v0,v1⟩:=val8 (hR k hk) hc'
  obtain ⟨q,hq,hqk⟩:=(hR k hk).kidN h2
  have hkk:(kidK D k).toNat=q:=by rw [Mh hk,Jb _ _ h2,hq,Int.toNat_natCast]
  obtain ⟨i1,i2⟩:=Fp hR q (by omega)
  have i3:=Nat.le_trans i2 (sB_bd (by omega))
  have hn:y.n=0:=(congrArg Zv.n hy).trans (Zv.n_mk ..)
  have hb:y.b= []:=(congrArg Zv.b hy).trans (Zv.b_mk ..)
  unfold Uf
  rw [if_pos hc]
  unfold Ts
  cases pr with
  |false=>
   simp only [Bool.false_eq_true,if_false,hn,hb]
   refine ⟨v0,by simp,rfl,?_⟩
   rw [Zv.size_mk,Zv.sizes_nil]
   simp
  |true=>
   simp only [if_true]
   by_cases h0:y.items.length=0
   ·rw [if_pos h0,hkk,hn,hb]
    refine ⟨v1 _ (by rw [hq];exact i1),by simp,by simp,?_⟩
    rw [Zv.size_mk,Zv.sizes_cons,Zv.sizes_nil,List.length_nil]
    omega
   ·rw [if_neg h0]
    refine ⟨hv,by constructor <;> intro <;> first|trivial|omega,by rw [if_neg h0],by omega⟩
 ·cases h
end
theorem Gf {D:List Zi} {p:Zv}:∀{t:List ByteArray} {k k':Int} {x:Zv},Jk D k x t=some (k',p)→Ta D p k x t=x
 | [],k,k',x,h=> by
  rw [Uh] at h
  cases h
  rw [Ro]
 |s::t,k,k',x,h=> by
  rcases Yz D k x.items.length s with e|⟨j,hj,e⟩
  ·rw [Tm (by omega)] at h;cases h
  ·rw [Us e hj] at h
   rw [Pr e hj,Gf h,List.set_getElem_self]
   exact (Zv.eta x).symm
section
variable {D:List Zi} {x z:Zv} {ok:Bool} {S:List ByteArray}
theorem Gr {chg:Int→Zv→Option Zv} (hc:∀(k:Nat) (hk:k < D.length) y P,Zn D k y=true→chg k y=some P→Zn D k P=true) (h:Qv D x ok S chg=(z,true)):
  ∃(k:Nat) (hk:k < D.length) (y P:Zv),Zn D k y=true∧Ya D x ok S=(y,(k:Int),true)∧chg k y=some P∧Ya D z ok S=(P,(k:Int),true)∧(ok && (Qd D ((D.length:Int) - 1) && Zn D ((D.length:Int) - 1) z))=true∧Jk D (D.length - 1:Nat) z S=some ((k:Int),P):=by
 cases hok:(ok && (Qd D ((D.length:Int) - 1) && Zn D ((D.length:Int) - 1) x))
 ·rw [Mq hok] at h;simp at h
 ·cases hw:Jk D (D.length - 1:Nat) x S with
  |none=> rw [Oq hw] at h;simp at h
  |some q=>
   obtain ⟨k,y⟩:=q
   cases hC:chg k y with
   |none=> rw [Xz hw hC] at h;simp at h
   |some P=>
    rw [Un hok hw hC] at h
    simp only [Prod.mk.injEq,and_true] at h
    subst h
    have hb:=hok
    simp only [Bool.and_eq_true] at hb
    obtain ⟨h1,h2,h3⟩:=hb
    obtain ⟨q,hq,e0⟩:=Jy h3
    have hn:((D.length:Int) - 1)=((D.length - 1:Nat):Int):=by omega
    have h3':=h3
    rw [hn] at h3'
    have hvy:=Xl h3' hw
    obtain ⟨k',rfl,hk'⟩:=Jy hvy
    have hP:=hc k' hk' y P hvy hC
    have hz:=Ii h3' hw hP
    have hz2:(ok && (Qd D ((D.length:Int) - 1) && Zn D ((D.length:Int) - 1) (Ta D P (D.length - 1:Nat) x S)))=true:=by
     rw [h1,h2,hn,hz];rfl
    exact ⟨k',hk',y,P,hvy,Oo hok hw,hC,Oo hz2 (Mw hw),hz2,Mw hw⟩
theorem edit_rep {chg:Int→Zv→Option Zv} (hc:∀(k:Nat) (hk:k < D.length) y P,Zn D k y=true→chg k y=some P→Zn D k P=true) {y P:Zv} {k:Nat} (hk:k < D.length) (hf:Ya D x ok S=(y,(k:Int),true)) (hp:chg k y=some P):Qv D x ok S (Kh D P)=Qv D x ok S chg:=by
 obtain ⟨hok,hw⟩:=Xn hf
 have hb:=hok
 simp only [Bool.and_eq_true] at hb
 obtain ⟨h1,h2,h3⟩:=hb
 have hn:((D.length:Int) - 1)=((D.length - 1:Nat):Int):=by omega
 have h3':=h3
 rw [hn] at h3'
 have hP:=hc k hk y P (Xl h3' hw) hp
 have hkn:(Qd D k && Zn D k P)=true:=by
  rw [hP,Bool.and_true]
  have h2':=h2
  unfold Qd at h2' ⊢
  rw [Bool.and_eq_true] at h2' ⊢
  exact ⟨Jv.2 (by omega),h2'.2⟩
 rw [Un hok hw hp,Un hok hw (repC_yes hkn y)]
variable (hR:∀k (hk:k < D.length),Lk D k hk) (h9:D.length≤9)
include hR h9
theorem sel_back {tag:Int} (h:Qv D x ok S (Vd D tag)=(z,true)):∃(k:Int) (P:Zv),Ya D z ok S=(P,k,true)∧P.n=tag∧P.size≤589824∧(ok && (Qd D ((D.length:Int) - 1) && Zn D ((D.length:Int) - 1) z))=true:=by
 obtain ⟨k,hk,y,P, -, -,hc,hf,hv, -⟩:=Gr (fun k hk y P _ hc=> (Fe hR h9 hk hc).2.1) h
 obtain ⟨-, -,hn,hs⟩:=Fe hR h9 hk hc
 exact ⟨k,P,hf,hn,hs,hv⟩
theorem opt_back {pr:Bool} (h:Qv D x ok S (Uf D pr)=(z,true)):∃(k:Int) (P:Zv),Ya D z ok S=(P,k,true)∧(P.items.length=1↔pr=true)∧Qv D z ok S (Uf D pr)=(z,true):=by
 obtain ⟨k,hk,y,P,hy, -,hc,hf,hv,hw⟩:=Gr (fun k hk y P hy hc=> (Fg hR h9 hk hy hc).2.1) h
 obtain ⟨-, -,hi,hc2, -⟩:=Fg hR h9 hk hy hc
 exact ⟨k,P,hf,hi,by rw [Un hv hw hc2,Gf hw]⟩
end
end Go.Proofs.YteldgdelmaeokaaGreatDoor
