/- Out of RdP, RdL, RdW, RdX, RdY: the walks and plain laws that the claim needs. No condition but those that each theorem names. -/
import Derived.Test.YteldgdelmaeokaaDoorGf
import Derived.Test.YteldgdelmaeokaaDoorGa
import Derived.Test.YteldgdelmaeokaaDoorGb
import Derived.Test.YteldgdelmaeokaaDoorGla
import Derived.IntWalk
import Derived.WalkSpells
import Derived.WalkLawsBesides
import Derived.Deep.RegionHeld3
import Derived.Deep.DeepCutAuto
import Derived.Test.YteldgdelmaeokaaDoorGda
import Derived.Test.YteldgdelmaeokaaDoorGdd
import Derived.BigQuiet
import Derived.Deep.QuietTactic
set_option linter.unusedSimpArgs false
set_option linter.unusedVariables false
namespace Go.Proofs.YteldgdelmaeokaaDoor
open Go.RowKit
theorem snocB {P:List UInt8→Prop} (h0:P []) (h1:∀l c,P l→P (l++ [c])) (l:List UInt8):P l:=by
 have h:∀m:List UInt8,P m.reverse:=fun m=> by
  induction m with
  |nil=> exact h0
  |cons c m ih=> rw [List.reverse_cons];exact h1 _ _ ih
 have:=h l.reverse
 rwa [List.reverse_reverse] at this
def numF (l:List UInt8):Int:=l.foldl (fun n c=> n*256+(c.toNat:Int)) 0
def numB (little:Bool) (l:List UInt8):Int:=numF (if little then l.reverse else l)
theorem numF_snoc (l:List UInt8) (c:UInt8):numF (l++ [c])=numF l*256+(c.toNat:Int):=by unfold numF;rw [List.foldl_append];rfl
theorem numF_bd (l:List UInt8):0≤numF l∧(l.length≤4→numF l≤4294967295)∧(l.length≤3→numF l≤16777215)∧(l.length≤2→numF l≤65535)∧(l.length≤1→numF l≤255):=by
 have h0:∀l:List UInt8,0≤numF l:=snocB (Int.le_refl _) fun l c ih=> by rw [numF_snoc];omega
 have h1:∀l:List UInt8,numF l≤256 ^ l.length - 1:=snocB (Int.le_refl _) fun l c ih=> by
  rw [numF_snoc,List.length_append,List.length_singleton,Int.pow_succ]
  have:=c.toNat_lt
  omega
 have h2:=h1 l
 refine ⟨h0 l,fun h=> ?_,fun h=> ?_,fun h=> ?_,fun h=> ?_⟩
 all_goals
  generalize l.length=n at*
  have hn:n=0∨n=1∨n=2∨n=3∨n=4:=by omega
  rcases hn with rfl|rfl|rfl|rfl|rfl <;> first|omega|(simp at h2;omega)
theorem numB_bd (b:Bool) {l:List UInt8} (h:l.length≤4):0≤numB b l∧numB b l≤4294967295:=by
 unfold numB
 split
 ·have:=numF_bd l.reverse
  rw [List.length_reverse] at this
  exact ⟨this.1,this.2.1 h⟩
 ·exact ⟨(numF_bd l).1,(numF_bd l).2.1 h⟩
def cutB (b:List UInt8) (i n:Nat):List UInt8:=(b.drop i).take n
theorem cutB_length {b:List UInt8} {i n:Nat} (h:i+n≤b.length):(cutB b i n).length=n:=by unfold cutB;rw [List.length_take,List.length_drop];omega
def rdI (D:List RuleD) (b:List UInt8) (k:Int) (i:Nat):Option (Int × Nat):=match ruleAt D k with
 |none=> none
 |some r=> if (i:Int)+r.size≤b.length then some (numB r.little (cutB b i r.size.toNat),i+r.size.toNat) else none
def termE (t:UInt8):List UInt8→Nat→Option Nat
 | [],_=> none
 | [c],i=> if c=t then some (i+1) else none
 |c::d::l,i=> if c=t then some (i+1) else if c=92 then termE t l (i+2) else termE t (d::l) (i+1)
theorem termE_bd (t:UInt8):∀(l:List UInt8) (i e:Nat),termE t l i=some e→i < e∧e≤i+l.length
 | [],i,e,h=> by rw [termE] at h;cases h
 | [c],i,e,h=> by
  rw [termE] at h
  split at h
  ·cases h;simp
  ·cases h
 |c::d::l,i,e,h=> by
  rw [termE] at h
  split at h
  ·cases h;simp
  ·split at h
   ·have:=termE_bd t l (i+2) e h
    simp only [List.length_cons]
    omega
   ·have:=termE_bd t (d::l) (i+1) e h
    simp only [List.length_cons] at this ⊢
    omega
def sumF (l:List UInt8):Int:=l.foldl (fun n c=> (n+(c.toNat:Int)) % 256) 0
theorem sumF_snoc (l:List UInt8) (c:UInt8):sumF (l++ [c])=(sumF l+(c.toNat:Int)) % 256:=by unfold sumF;rw [List.foldl_append];rfl
theorem sumF_bd:∀l:List UInt8,0≤sumF l∧sumF l≤255:=snocB (by decide) fun l c ih=> by rw [sumF_snoc];omega
def itE (g:Int→Nat→Option Nat):List Int→Nat→Option Nat
 | [],i=> some i
 |k::ks,i=> match g k i with|none=> none|some e=> itE g ks e
theorem itE_snoc (g:Int→Nat→Option Nat) (k:Int):∀(ks:List Int) (i:Nat),itE g (ks++ [k]) i=(match itE g ks i with|none=> none|some e=> g k e)
 | [],i=> by simp only [List.nil_append,itE];cases g k i <;> rfl
 |q::ks,i=> by
  rw [List.cons_append,itE,itE]
  cases g q i with
  |none=> rfl
  |some e=> exact itE_snoc g k ks e
def itR (r:RuleD) (n:Int) (c:Nat):List Int:=(List.range c).map fun j=> itemR r n j
theorem itR_succ (r:RuleD) (n:Int) (c:Nat):itR r n (c+1)=itR r n c++ [itemR r n c]:=by unfold itR;rw [List.range_succ,List.map_append];rfl
theorem itR_length (r:RuleD) (n:Int) (c:Nat):(itR r n c).length=c:=by unfold itR;simp
def rdB (D:List RuleD) (b:List UInt8) (g:Int→Nat→Option Nat) (r:RuleD) (k:Int) (i:Nat):Option (Int × Nat × Nat):=
 if r.kind=1 then (rdI D b k i).map fun x=> (x.1,0,x.2)
 else if r.kind=2 then (if cutB b i r.bytes.length=r.bytes then some (0,0,i+r.bytes.length) else none)
 else if r.kind=3 then (if (i:Int)+r.size≤b.length then some (0,0,i+r.size.toNat) else none)
 else if r.kind=4 then (match rdI D b (kid r 0) i with|none=> none|some (n,e)=> if (e:Int)+n≤b.length then some (0,0,e+n.toNat) else none)
 else if r.kind=5 then (match rdI D b (kid r 0) i with|none=> none|some (n,e)=> if 40 < n then none else (itE g (itR r 0 n.toNat) e).map fun x=> (0,n.toNat,x))
 else if r.kind=6 then (itE g (itR r 0 r.kids.length) i).map fun x=> (0,r.kids.length,x)
 else if r.kind=7 then (match rdI D b (kid r 0) i with|none=> none|some (n,e)=> if itemR r n 0 < 0 then none else (itE g (itR r n 1) e).map fun x=> (n,1,x))
 else if r.kind=8 then (match b[i]? with|none=> none|some c=> if 1 < c.toNat then none else (itE g (itR r 0 c.toNat) (i+1)).map fun x=> (0,c.toNat,x))
 else if r.kind=9 then (match itE g (itR r 0 1) i with|none=> none|some e=> match b[e]? with|none=> none|some c=> if (c.toNat:Int)=sumF (cutB b i (e - i)) then some (0,1,e+1) else none)
 else (termE (r.bytes.headD 0) (b.drop i) i).map fun x=> (0,0,x)
def rdE (D:List RuleD) (b:List UInt8):Nat→Int→Nat→Option (Int × Nat × Nat)
 |0,_,_=> none
 |f+1,k,i=> match ruleAt D k with
  |none=> none
  |some r=> rdB D b (fun q p=> (rdE D b f q p).map fun x=> x.2.2) r k i
theorem rdE_at {D:List RuleD} {b:List UInt8} {f:Nat} {k:Int} {i:Nat} {r:RuleD} (h:ruleAt D k=some r):rdE D b (f+1) k i=rdB D b (fun q p=> (rdE D b f q p).map fun x=> x.2.2) r k i:=by rw [rdE,h]
def hdE (D:List RuleD) (b:List UInt8) (r:RuleD) (i:Nat):Nat:=
 if r.kind=5∨r.kind=7 then (match rdI D b (kid r 0) i with|none=> i|some (_,e)=> e) else if r.kind=8 then i+1 else i
def itX (g:Int→Nat→List (Int × Nat × Nat)) (h:Int→Nat→Nat):List Int→Nat→List (Int × Nat × Nat)
 | [],_=> []
 |q::qs,p=> g q p++itX g h qs (h q p)
theorem itX_snoc (g:Int→Nat→List (Int × Nat × Nat)) (h:Int→Nat→Nat) (q:Int):∀(qs:List Int) (p:Nat),itX g h (qs++ [q]) p=itX g h qs p++g q (qs.foldl (fun p q=> h q p) p)
 | [],p=> by rw [List.nil_append,itX,itX,itX,List.append_nil,List.nil_append];rfl
 |k::qs,p=> by rw [List.cons_append,itX,itX,itX_snoc g h q qs,List.append_assoc];rfl
def endE (D:List RuleD) (b:List UInt8) (F:Nat) (k:Int) (i:Nat):Nat:=match rdE D b F k i with|none=> i|some x=> x.2.2
def ixE (D:List RuleD) (b:List UInt8) (F:Nat):Nat→Int→Nat→List (Int × Nat × Nat)
 |0,_,_=> []
 |f+1,k,i=> match ruleAt D k,rdE D b F k i with
  |some r,some (n,c,e)=> (k,i,e)::itX (ixE D b F f) (endE D b F) (itR r n c) (hdE D b r i)
  | _,_=> []
end Go.Proofs.YteldgdelmaeokaaDoor
namespace Go.Proofs.YteldgdelmaeokaaDoor
open Go.RowKit
section
variable {D:List RuleD} {b:List UInt8}
theorem rdI_bd {k:Int} {i:Nat} {n:Int} {e:Nat} (h:rdI D b k i=some (n,e)) (hi:i≤b.length):i≤e∧e≤b.length∧0≤n:=by
 unfold rdI at h
 split at h
 ·cases h
 ·split at h
  ·simp only [Option.some.injEq,Prod.mk.injEq] at h
   obtain ⟨rfl,rfl⟩:=h
   refine ⟨by omega,by omega,?_⟩
   unfold numB
   exact (numF_bd _).1
  ·cases h
theorem rdE_view {f:Nat} {k:Int} {i:Nat} {n:Int} {c e:Nat} (h:rdE D b (f+1) k i=some (n,c,e)) (hi:i≤b.length):∃r,ruleAt D k=some r∧
  ((c=0∧i≤e∧e≤b.length)∨
    ((r.kind=5∨r.kind=6∨r.kind=7∨r.kind=8∨r.kind=9)∧i≤hdE D b r i∧hdE D b r i≤b.length∧∃e',itE (fun q p=> (rdE D b f q p).map fun x=> x.2.2) (itR r n c) (hdE D b r i)=some e'∧(e=e'∨(e=e'+1∧e' < b.length)))):=by
 cases hr:ruleAt D k with
 |none=> rw [rdE,hr] at h;cases h
 |some r=>
  rw [rdE_at hr] at h
  refine ⟨r,rfl,?_⟩
  generalize hg:(fun q p=> (rdE D b f q p).map fun x=> x.2.2)=g at*
  unfold rdB at h
  split at h
  ·rename_i q
   cases hx:rdI D b k i with
   |none=> rw [hx] at h;cases h
   |some x=>
    obtain ⟨m,e2⟩:=x
    rw [hx] at h
    simp only [Option.map_some,Option.some.injEq,Prod.mk.injEq] at h
    obtain ⟨rfl,rfl,rfl⟩:=h
    have:=rdI_bd hx hi
    exact .inl ⟨rfl,by omega,by omega⟩
  split at h
  ·split at h
   ·rename_i q2 hc
    simp only [Option.some.injEq,Prod.mk.injEq] at h
    obtain ⟨rfl,rfl,rfl⟩:=h
    have:=congrArg List.length hc
    unfold cutB at this
    rw [List.length_take,List.length_drop] at this
    exact .inl ⟨rfl,by omega,by omega⟩
   ·cases h
  split at h
  ·split at h
   ·simp only [Option.some.injEq,Prod.mk.injEq] at h
    obtain ⟨rfl,rfl,rfl⟩:=h
    exact .inl ⟨rfl,by omega,by omega⟩
   ·cases h
  split at h
  ·cases hx:rdI D b (kid r 0) i with
   |none=> rw [hx] at h;cases h
   |some x=>
    obtain ⟨m,e2⟩:=x
    rw [hx] at h
    simp only at h
    have:=rdI_bd hx hi
    split at h
    ·simp only [Option.some.injEq,Prod.mk.injEq] at h
     obtain ⟨rfl,rfl,rfl⟩:=h
     exact .inl ⟨rfl,by omega,by omega⟩
    ·cases h
  have ht:∀{ks:List Int} {p:Nat} {m:Int} {cc:Nat},(itE g ks p).map (fun x=> (m,cc,x))=some (n,c,e)→m=n∧cc=c∧itE g ks p=some e:=fun {ks p m cc} h=> by
   cases hx:itE g ks p with
   |none=> rw [hx] at h;cases h
   |some x=>
    rw [hx] at h
    simp only [Option.map_some,Option.some.injEq,Prod.mk.injEq] at h
    exact ⟨h.1,h.2.1,by rw [h.2.2]⟩
  split at h
  ·rename_i q5
   cases hx:rdI D b (kid r 0) i with
   |none=> rw [hx] at h;cases h
   |some x=>
    obtain ⟨m,e2⟩:=x
    rw [hx] at h
    simp only at h
    have hb:=rdI_bd hx hi
    split at h
    ·cases h
    ·obtain ⟨rfl,rfl,h3⟩:=ht h
     have hh:hdE D b r i=e2:=by unfold hdE;rw [if_pos (.inl q5),hx]
     exact .inr ⟨.inl q5,by omega,by omega,e,by rw [hh];exact h3, .inl rfl⟩
  split at h
  ·rename_i q6
   obtain ⟨rfl,rfl,h3⟩:=ht h
   have hh:hdE D b r i=i:=by unfold hdE;rw [if_neg (by omega),if_neg (by omega)]
   exact .inr ⟨.inr (.inl q6),by omega,by omega,e,by rw [hh];exact h3, .inl rfl⟩
  split at h
  ·rename_i q7
   cases hx:rdI D b (kid r 0) i with
   |none=> rw [hx] at h;cases h
   |some x=>
    obtain ⟨m,e2⟩:=x
    rw [hx] at h
    simp only at h
    have hb:=rdI_bd hx hi
    split at h
    ·cases h
    ·obtain ⟨rfl,rfl,h3⟩:=ht h
     have hh:hdE D b r i=e2:=by unfold hdE;rw [if_pos (.inr q7),hx]
     exact .inr ⟨.inr (.inr (.inl q7)),by omega,by omega,e,by rw [hh];exact h3, .inl rfl⟩
  split at h
  ·rename_i q8
   cases hx:b[i]? with
   |none=> rw [hx] at h;cases h
   |some x=>
    rw [hx] at h
    simp only at h
    have hl:=(List.getElem?_eq_some_iff.1 hx).1
    split at h
    ·cases h
    ·obtain ⟨rfl,rfl,h3⟩:=ht h
     have hh:hdE D b r i=i+1:=by unfold hdE;rw [if_neg (by omega),if_pos q8]
     exact .inr ⟨.inr (.inr (.inr (.inl q8))),by omega,by omega,e,by rw [hh];exact h3, .inl rfl⟩
  split at h
  ·rename_i q9
   cases hx:itE g (itR r 0 1) i with
   |none=> rw [hx] at h;cases h
   |some e2=>
    rw [hx] at h
    simp only at h
    cases hy:b[e2]? with
    |none=> rw [hy] at h;cases h
    |some x=>
     rw [hy] at h
     simp only at h
     have hl:=(List.getElem?_eq_some_iff.1 hy).1
     split at h
     ·simp only [Option.some.injEq,Prod.mk.injEq] at h
      obtain ⟨rfl,rfl,rfl⟩:=h
      have hh:hdE D b r i=i:=by unfold hdE;rw [if_neg (by omega),if_neg (by omega)]
      exact .inr ⟨.inr (.inr (.inr (.inr q9))),by omega,by omega,e2,by rw [hh];exact hx, .inr ⟨rfl,hl⟩⟩
     ·cases h
  ·cases hx:termE (r.bytes.headD 0) (b.drop i) i with
   |none=> rw [hx] at h;cases h
   |some x=>
    rw [hx] at h
    simp only [Option.map_some,Option.some.injEq,Prod.mk.injEq] at h
    obtain ⟨rfl,rfl,rfl⟩:=h
    have:=termE_bd _ _ _ _ hx
    rw [List.length_drop] at this
    exact .inl ⟨rfl,by omega,by omega⟩
theorem itE_le {g:Int→Nat→Option Nat} (hg:∀q p e,g q p=some e→p≤b.length→p≤e∧e≤b.length):∀(ks:List Int) (p e:Nat),itE g ks p=some e→p≤b.length→p≤e∧e≤b.length
 | [],p,e,h,hp=> by
  rw [itE] at h
  simp only [Option.some.injEq] at h
  omega
 |k::ks,p,e,h,hp=> by
  rw [itE] at h
  cases hx:g k p with
  |none=> rw [hx] at h;cases h
  |some e1=>
   rw [hx] at h
   have h1:=hg k p e1 hx hp
   have h2:=itE_le hg ks e1 e h h1.2
   omega
theorem rdE_le:∀(f:Nat) (k:Int) (i:Nat) (n:Int) (c e:Nat),rdE D b f k i=some (n,c,e)→i≤b.length→i≤e∧e≤b.length
 |0,k,i,n,c,e,h,_=> by rw [rdE] at h;cases h
 |f+1,k,i,n,c,e,h,hi=> by
  obtain ⟨r, -,h1|⟨-,h1,h2,e',h3,h4⟩⟩:=rdE_view h hi
  ·exact h1.2
  ·have:=itE_le (b:=b) (g:=fun q p=> (rdE D b f q p).map fun x=> x.2.2) (fun q p e h hp=> by
    simp only [Option.map_eq_some_iff] at h
    obtain ⟨⟨n2,c2,e2⟩,h5,rfl⟩:=h
    exact rdE_le f q p n2 c2 e2 h5 hp) _ _ _ h3 h2
   omega
theorem itE_more {g g':Int→Nat→Option Nat} (hg:∀q p e,g q p=some e→g' q p=some e):∀(ks:List Int) (p e:Nat),itE g ks p=some e→itE g' ks p=some e
 | [],p,e,h=> h
 |k::ks,p,e,h=> by
  rw [itE] at h ⊢
  cases hx:g k p with
  |none=> rw [hx] at h;cases h
  |some e1=>
   rw [hx] at h
   rw [hg k p e1 hx]
   exact itE_more hg ks e1 e h
theorem itE_map {g g':Int→Nat→Option Nat} (hg:∀q p e,g q p=some e→g' q p=some e) {A:Type} (F:Nat→A) {ks:List Int} {p:Nat} {x:A} (h:(itE g ks p).map F=some x):(itE g' ks p).map F=some x:=by
 cases hx:itE g ks p with
 |none=> rw [hx] at h;cases h
 |some e=> rw [itE_more hg ks p e hx,←hx];exact h
theorem rdB_more {g g':Int→Nat→Option Nat} (hg:∀q p e,g q p=some e→g' q p=some e) {r:RuleD} {k:Int} {i:Nat} {x:Int × Nat × Nat} (h:rdB D b g r k i=some x):rdB D b g' r k i=some x:=by
 unfold rdB at h ⊢
 split
 ·rename_i q;rw [if_pos q] at h;exact h
 rename_i q1;rw [if_neg q1] at h
 split
 ·rename_i q;rw [if_pos q] at h;exact h
 rename_i q2;rw [if_neg q2] at h
 split
 ·rename_i q;rw [if_pos q] at h;exact h
 rename_i q3;rw [if_neg q3] at h
 split
 ·rename_i q;rw [if_pos q] at h;exact h
 rename_i q4;rw [if_neg q4] at h
 split
 ·rename_i q;rw [if_pos q] at h
  cases hx:rdI D b (kid r 0) i with
  |none=> rw [hx] at h;cases h
  |some y=>
   rw [hx] at h
   simp only at h ⊢
   split at h
   ·cases h
   ·rename_i q';rw [if_neg q'];exact itE_map hg _ h
 rename_i q5;rw [if_neg q5] at h
 split
 ·rename_i q;rw [if_pos q] at h;exact itE_map hg _ h
 rename_i q6;rw [if_neg q6] at h
 split
 ·rename_i q;rw [if_pos q] at h
  cases hx:rdI D b (kid r 0) i with
  |none=> rw [hx] at h;cases h
  |some y=>
   rw [hx] at h
   simp only at h ⊢
   split at h
   ·cases h
   ·rename_i q';rw [if_neg q'];exact itE_map hg _ h
 rename_i q7;rw [if_neg q7] at h
 split
 ·rename_i q;rw [if_pos q] at h
  cases hx:b[i]? with
  |none=> rw [hx] at h;cases h
  |some y=>
   rw [hx] at h
   simp only at h ⊢
   split at h
   ·cases h
   ·rename_i q';rw [if_neg q'];exact itE_map hg _ h
 rename_i q8;rw [if_neg q8] at h
 split
 ·rename_i q;rw [if_pos q] at h
  cases hx:itE g (itR r 0 1) i with
  |none=> rw [hx] at h;cases h
  |some e1=>
   rw [hx] at h
   rw [itE_more hg _ _ _ hx]
   exact h
 rename_i q9;rw [if_neg q9] at h
 exact h
theorem rdE_more:∀(f:Nat) (k:Int) (i:Nat) (x:Int × Nat × Nat),rdE D b f k i=some x→rdE D b (f+1) k i=some x
 |0,k,i,x,h=> by rw [rdE] at h;cases h
 |f+1,k,i,x,h=> by
  cases hr:ruleAt D k with
  |none=> rw [rdE,hr] at h;cases h
  |some r=>
   rw [rdE_at hr] at h ⊢
   refine rdB_more (fun q p e h=> ?_) h
   simp only [Option.map_eq_some_iff] at h ⊢
   obtain ⟨y,h1,h2⟩:=h
   exact ⟨y,rdE_more f q p y h1,h2⟩
def lfK (D:List RuleD) (k:Int):Bool:=match ruleAt D k with|none=> false|some r=> decide (r.kind=1∨r.kind=2∨r.kind=3∨r.kind=4∨r.kind=10)
structure IxG (D:List RuleD) (lo hi:Nat) (L:List (Int × Nat × Nat)):Prop where
 bd:∀x∈L,lo≤x.2.1∧x.2.1≤x.2.2∧x.2.2≤hi
 ord:L.Pairwise fun x y=> lfK D x.1=true→lfK D y.1=true→x.2.2≤y.2.1
theorem IxG.nil {lo hi:Nat}:IxG D lo hi []:=⟨fun x h=> (by cases h),List.Pairwise.nil⟩
theorem IxG.app {lo mid hi:Nat} {L M:List (Int × Nat × Nat)} (h1:IxG D lo mid L) (h2:IxG D mid hi M) (ha:lo≤mid) (hb:mid≤hi):IxG D lo hi (L++M):=
 ⟨fun x hx=> by
   rcases List.mem_append.1 hx with h|h
   ·have:=h1.bd x h;omega
   ·have:=h2.bd x h;omega,List.pairwise_append.2 ⟨h1.ord,h2.ord,fun x hx y hy _ _=> by have:=h1.bd x hx;have:=h2.bd y hy;omega⟩⟩
theorem itX_good {F f:Nat} (ih:∀(q:Int) (p:Nat) (n:Int) (c e:Nat),rdE D b F q p=some (n,c,e)→p≤b.length→IxG D p e (ixE D b F f q p)):∀(ks:List Int) (p e:Nat),
  itE (fun q p=> (rdE D b F q p).map fun x=> x.2.2) ks p=some e→p≤b.length→IxG D p e (itX (ixE D b F f) (endE D b F) ks p)
 | [],p,e,h,hp=> IxG.nil
 |k::ks,p,e,h,hp=> by
  rw [itE] at h
  cases hx:rdE D b F k p with
  |none=> rw [hx] at h;cases h
  |some y=>
   obtain ⟨n,c,e1⟩:=y
   rw [hx] at h
   simp only [Option.map_some] at h
   have h1:=rdE_le F k p n c e1 hx hp
   have h2:=itE_le (b:=b) (g:=fun q p=> (rdE D b F q p).map fun x=> x.2.2) (fun q p e h hp=> by
    simp only [Option.map_eq_some_iff] at h
    obtain ⟨⟨n2,c2,e2⟩,h5,rfl⟩:=h
    exact rdE_le F q p n2 c2 e2 h5 hp) _ _ _ h h1.2
   rw [itX,show endE D b F k p=e1 by unfold endE;rw [hx]]
   exact (ih k p n c e1 hx hp).app (itX_good ih ks e1 e h h1.2) h1.1 h2.1
theorem ixE_good (F:Nat):∀(f:Nat) (k:Int) (i:Nat) (n:Int) (c e:Nat),rdE D b F k i=some (n,c,e)→i≤b.length→IxG D i e (ixE D b F f k i)
 |0,k,i,n,c,e,_,_=> IxG.nil
 |f+1,k,i,n,c,e,h,hi=> by
  have hle:=rdE_le F k i n c e h hi
  cases F with
  |zero=> rw [rdE] at h;cases h
  |succ F'=>
   obtain ⟨r,hr,hv⟩:=rdE_view h hi
   rw [ixE,hr,h]
   simp only
   rcases hv with ⟨rfl, -, -⟩|⟨hk,h1,h2,e',h3,h4⟩
   ·refine ⟨fun x hx=> ?_,?_⟩
    ·rw [show itR r n 0= [] from rfl,itX,List.mem_singleton] at hx
     subst hx
     exact ⟨Nat.le_refl _,hle.1,Nat.le_refl _⟩
    ·rw [show itR r n 0= [] from rfl,itX]
     exact List.pairwise_singleton _ _
   ·have h5:=itX_good (F:=F'+1) (f:=f) (fun q p n c e=> ixE_good (F'+1) f q p n c e) (itR r n c) (hdE D b r i) e' (itE_more (fun q p e h=> by
     simp only [Option.map_eq_some_iff] at h ⊢
     obtain ⟨y,h1,h2⟩:=h
     exact ⟨y,rdE_more F' q p y h1,h2⟩) _ _ _ h3) h2
    have h6:=itE_le (b:=b) (g:=fun q p=> (rdE D b F' q p).map fun x=> x.2.2) (fun q p e h hp=> by
     simp only [Option.map_eq_some_iff] at h
     obtain ⟨⟨n2,c2,e2⟩,h5,rfl⟩:=h
     exact rdE_le F' q p n2 c2 e2 h5 hp) _ _ _ h3 h2
    refine ⟨fun x hx=> ?_,List.pairwise_cons.2 ⟨fun y _ hl=> ?_,h5.ord⟩⟩
    ·rcases List.mem_cons.1 hx with rfl|hx
     ·exact ⟨Nat.le_refl _,hle.1,Nat.le_refl _⟩
     ·have:=h5.bd x hx;omega
    ·unfold lfK at hl
     rw [hr] at hl
     simp only [decide_eq_true_eq] at hl
     omega
end
end Go.Proofs.YteldgdelmaeokaaDoor
namespace Go.Proofs.YteldgdelmaeokaaDoor
open Go.RowKit
set_option maxHeartbeats 1000000 in
set_option maxRecDepth 100000 in
theorem specSumV_any (v:Value) (l:List UInt8) (B:Nat) (w:World) (h:SlB w B v l) (hB:B≤w.heap.size):
  Calls Tryd.prog 83 #[v] w fun e w'=> e= .returned (.int .i64 (sumF l))∧w=w':=by
 obtain ⟨A,c,rfl,hc,hm,hcell⟩:=h.one
 unfold maxLen at hm
 have HC:=Lib.hid hcell
 clear hcell h
 go_enter Tryd.func83,Tryd.ntmps83
 go_wp2
 go_loopw [3,4] (fun s i wr=> ∃k:Nat,k≤l.length∧i= .int .i64 k∧s= .int .i64 (sumF (l.take k))∧wr=w) (fun _ i _=> l.length - (intOf i).toNat)
 case atStart=> exact ⟨0,Nat.zero_le _,rfl,by rw [List.take_zero];rfl,rfl⟩
 case round=>
  obtain ⟨k,hk,rfl,rfl,rfl⟩:=hrel
  have hx:=sumF_bd (l.take k)
  by_cases hlt:k < l.length
  ·obtain ⟨bb,off,rfl,hbb,hd⟩:=HC.out k hlt
   have hy0:(0:Int)≤(l[k].toNat:Int):=by omega
   have hy1:(l[k].toNat:Int)≤255:=by have:=l[k].toNat_lt;omega
   have HN:=Lib.hid (show sumF (l.take (k+1))=(sumF (l.take k)+(l[k].toNat:Int)) % 256 by rw [List.take_succ_eq_append_getElem hlt,sumF_snoc])
   unfold u8v at hd
   generalize l[k]=y at*
   generalize sumF (l.take k)=x at*
   go_wp2
   go_roundw
   case rel=> exact ⟨k+1,by omega,by go_num,by rw [HN.out],by trivial⟩
   case measure=> simp [intOf];omega
  ·obtain rfl:k=l.length:=by omega
   have HT:=Lib.hid (show sumF (l.take l.length)=sumF l by rw [List.take_length])
   generalize sumF (l.take l.length)=x at*
   go_wp2
   go_ret
   exact ⟨ret_int HT.out,by trivial⟩
set_option maxHeartbeats 1000000 in
set_option maxRecDepth 100000 in
theorem readInt_any (v:Value) (l:List UInt8) (little:Bool) (B:Nat) (w:World) (h:SlB w B v l) (hB:B≤w.heap.size) (hl:l.length≤4):
  Calls Tryd.prog 121 #[v, .bool little] w fun e w'=> e= .returned (.int .i64 (numB little l))∧w=w':=by
 obtain ⟨A,c,rfl,hc,hm,hcell⟩:=h.one
 unfold maxLen at hm
 have HC:=Lib.hid hcell
 clear hcell h
 obtain ⟨M,hM⟩:∃M:List UInt8,M=if little then l.reverse else l:=⟨_,rfl⟩
 have hML:M.length=l.length:=by rw [hM];split <;> simp
 have HNB:=Lib.hid (show numB little l=numF M by rw [hM];rfl)
 have HML:=Lib.hid hML
 have hat:∀k (hk:k < l.length),∃bb off,A=some ⟨bb,off,none⟩∧bb < B∧w.cell? ⟨bb,off+(if little then l.length - 1 - k else k),none⟩=some (.int .u8 (((M[k]'(by omega)).toNat:Nat):Int)):=fun k hk=> by
  cases little with
  |false=>
   obtain ⟨bb,off,e,hb,hd⟩:=HC.out k hk
   refine ⟨bb,off,e,hb,?_⟩
   simp only [hM,Bool.false_eq_true,if_false]
   exact hd
  |true=>
   obtain ⟨bb,off,e,hb,hd⟩:=HC.out (l.length - 1 - k) (by omega)
   refine ⟨bb,off,e,hb,?_⟩
   simp only [hM,if_true,List.getElem_reverse]
   exact hd
 have HAT:=Lib.hid hat
 have hnb:∀k,k < l.length→0≤numF (M.take k)∧numF (M.take k)≤16777215:=fun k hk=> by
  have:=numF_bd (M.take k)
  rw [List.length_take] at this
  exact ⟨this.1,this.2.2.1 (by omega)⟩
 have HNB2:=Lib.hid hnb
 clear hat hnb hM HC
 cases little
 all_goals
  go_enter Tryd.func121,Tryd.ntmps121
  go_wp2
  go_loopw [5,6] (fun s i wr=> ∃k:Nat,k≤l.length∧i= .int .i64 k∧s= .int .i64 (numF (M.take k))∧wr=w) (fun _ i _=> l.length - (intOf i).toNat)
  case atStart=> exact ⟨0,Nat.zero_le _,rfl,by rw [List.take_zero];rfl,rfl⟩
  case round=>
   obtain ⟨k,hk,rfl,rfl,rfl⟩:=hrel
   by_cases hlt:k < l.length
   ·obtain ⟨bb,off,rfl,hbb,hd⟩:=HAT.out k hlt
    have hx:=HNB2.out k hlt
    have hkM:k < M.length:=by have:=HML.out;omega
    have hy0:(0:Int)≤(M[k].toNat:Int):=by omega
    have hy1:(M[k].toNat:Int)≤255:=by have:=M[k].toNat_lt;omega
    have HN:=Lib.hid (show numF (M.take (k+1))=numF (M.take k)*256+(M[k].toNat:Int) by rw [List.take_succ_eq_append_getElem hkM,numF_snoc])
    obtain ⟨j,hj⟩:∃j:Nat,j=l.length - 1 - k:=⟨_,rfl⟩
    have hj':(l.length:Int) - 1 - (k:Int)=(j:Int):=by omega
    have hjl:j < l.length:=by omega
    simp only [Bool.false_eq_true,if_false,if_true,←hj] at hd
    clear hj
    generalize M[k]=y at*
    generalize numF (M.take k)=x at*
    go_wp2
    go_roundw
    case rel=> exact ⟨k+1,by omega,by go_num,by rw [HN.out],by trivial⟩
    case measure=> simp [intOf];omega
   ·obtain rfl:k=l.length:=by omega
    have HT:=Lib.hid (show numF (M.take l.length)=numF M by rw [←HML.out,List.take_length])
    generalize numF (M.take l.length)=x at*
    go_wp2
    go_ret
    exact ⟨ret_int (by rw [HNB.out,HT.out]),by trivial⟩
def riT (o:Option (Int × Nat)) (i:Nat):Value:=match o with
 |none=> .tuple #[.int .i64 0, .int .i64 i, .bool false]
 |some (n,e)=> .tuple #[.int .i64 n, .int .i64 e, .bool true]
set_option maxHeartbeats 2000000 in
set_option maxRecDepth 100000 in
theorem l11Int_any (vD vb:Value) (L:List RM) (b:List UInt8) (q i B:Nat) (w:World) (h:SlD w B vD L) (hb:SlB w B vb b) (hB:B≤w.heap.size) (hq:q < L.length) (hs:1≤L[q].d.size∧L[q].d.size≤4) (hi:i≤b.length) (hl:b.length≤400):
  Calls Tryd.prog 105 #[.agg #[vD], .int .i64 q,vb, .int .i64 i] w fun e w'=> e= .returned (riT (rdI (L.map RM.d) b q i) i)∧Below w.heap.size w w':=by
 have hlm:(L.map RM.d).length=L.length:=List.length_map ..
 have hrd:rdI (L.map RM.d) b q i=if (i:Int)+L[q].d.size≤b.length then some (numB L[q].d.little (cutB b i L[q].d.size.toNat),i+L[q].d.size.toNat) else none:=by
  unfold rdI
  rw [ruleAt_at (by rw [hlm];exact hq),List.getElem_map]
 have hRI:∀(u:Value) (l:List UInt8) W,l.length≤4→SlB W W.heap.size u l→Calls Tryd.prog 121 #[u, .bool L[q].d.little] W fun e w'=> e= .returned (.int .i64 (numB L[q].d.little l))∧W=w':=fun u l W h4 hu=> readInt_any u l _ W.heap.size W hu (Nat.le_refl _) h4
 obtain ⟨A,c,rfl,hc,hm, -⟩:=h.open_
 obtain ⟨Ab,cb,rfl,hcb,hmb, -⟩:=hb.open_
 obtain ⟨b0,off,A1,c1,A2,c2,A3,c3,A4,c4,rfl,hbB,e1,e2,e3,e4,m1,m2,m3,m4,hcell⟩:=rule_cells h q hq
 obtain ⟨W0,hW0⟩:∃W0,W0=w.alloc (.cells #[.slice (some ⟨b0,off,none⟩) L.length c] 26):=⟨_,rfl⟩
 have hb0:Below w.heap.size w W0:=by rw [hW0];exact (Below.refl w.heap.size w).alloc (Nat.le_refl _) _
 obtain ⟨x0,x1,x2,x3,x4,x5,x6,x7⟩:=hcell W0 (below_cells hb0 hB)
 have s0:W0.cell? ⟨w.heap.size,0,none⟩=some (.slice (some ⟨b0,off,none⟩) L.length c):=by rw [hW0];simp [go_sem]
 have hz0:w.heap.size < W0.heap.size:=by rw [hW0];simp
 have hbx:b0 < w.heap.size:=by omega
 have HRI:=Lib.hid hRI
 have HRD:=Lib.hid hrd
 have HBB:=Lib.hid hb
 have HB0:=Lib.hid hb0
 unfold maxLen at hm hmb
 clear hRI hrd hb hcell h hb0 hlm e1 e2 e3 e4 m1 m2 m3 m4
 go_enter Tryd.func105,Tryd.ntmps105
 go_upto_region 1 with fail
 rw [←hW0]
 clear hW0
 obtain ⟨W1,hW1⟩:∃W1,W1=W0.alloc (.cells #[.string L[q].d.name, .int .i64 L[q].d.kind, .int .i64 L[q].d.size, .bool L[q].d.little, .slice A1 L[q].d.bytes.length c1, .slice A2 L[q].d.names.length c2, .slice A3 L[q].d.tags.length c3, .slice A4 L[q].d.kids.length c4] 73):=⟨_,rfl⟩
 have h01:Below W0.heap.size W0 W1:=by rw [hW1];exact (Below.refl _ _).alloc (Nat.le_refl _) _
 have t2:W1.cell? ⟨W0.heap.size,2,none⟩=some (.int .i64 L[q].d.size):=by rw [hW1];simp [go_sem]
 have t3:W1.cell? ⟨W0.heap.size,3,none⟩=some (.bool L[q].d.little):=by rw [hW1];simp [go_sem]
 have H1:=Lib.hid (below_step h01 HB0.out)
 go_upto_region 2 with fail
 rw [←hW1]
 clear hW1 h01 x0 x1 x2 x3 x4 x5 x6 x7 s0
 generalize L[q].d.little=lt at*
 by_cases hfit:(i:Int)+L[q].d.size≤b.length
 ·have HO:=Lib.hid (HRD.out.trans (if_pos hfit))
  obtain ⟨sn,hsn⟩:=Int.eq_ofNat_of_zero_le (show 0≤L[q].d.size by omega)
  rw [hsn] at hfit hs t2 HO
  rw [Int.toNat_natCast] at HO
  have hcv:=run_cutLH (P:=Tryd.prog) Tryd.underlying22 Tryd.sizeOf5 Ab b.length cb i (IntKind.i64.wrap ((i:Int)+sn)) i (i+sn) rfl (by rw [IntWalk.i64_in _ (by omega)];omega) (by omega) (by omega)
  have hwr:IntKind.i64.wrap ((i:Int)+sn)=((i+sn:Nat):Int):=by rw [IntWalk.i64_in _ (by omega)];omega
  have HWR:=Lib.hid hwr
  clear hwr
  have hsl:=SlB.cut HBB.out i (i+sn) cb (by omega) (by omega) (by omega) (by unfold maxLen;omega)
  rw [show i+sn - i=sn by omega] at hcv hsl
  have hsc:(cutB b i sn).length=sn:=cutB_length (by omega)
  have hsl2:SlB w B (.slice (cutA Ab cb i 1) sn (cb - i)) (cutB b i sn):=by
   unfold SlB
   rw [hsc]
   exact hsl
  have HSL:=Lib.hid hsl2
  have HSC:=Lib.hid hsc
  clear hsl hsl2 hsc hsn HRD
  go_wp2_with fail
  refine wp_region_held_drew (S:=(fun w9=> w9.cell? ⟨W0.heap.size,2,none⟩=some (.int .i64 sn)∧w9.cell? ⟨W0.heap.size,3,none⟩=some (.bool lt))) (by kernel_rfl) ?_ (fun hHeld=> ?_)
  ·(try dsimp only);exact ⟨t2,t3⟩
  refine rgTake 0 (some 25) hHeld _ ?_;try go_frame
  refine rgTake 1 (some 26) hHeld _ ?_;try go_frame
  refine rgTake 2 (some 27) hHeld _ ?_;try go_frame
  refine rgTake 3 (some 28) hHeld _ ?_;try go_frame
  refine rgTake 4 (some 29) hHeld _ ?_;try go_frame
  refine rgTake 5 (some 30) hHeld _ ?_;try go_frame
  refine rgTake 6 (some 31) hHeld _ ?_;try go_frame
  refine rgTake 7 (some 32) hHeld _ ?_;try go_frame
  refine rgTake 8 (some 33) hHeld _ ?_;try go_frame
  refine rgTake 10 (some 35) hHeld _ ?_;try go_frame
  refine rgTake 11 (some 36) hHeld _ ?_;try go_frame
  refine rgTake 12 (some 37) hHeld _ ?_;try go_frame
  refine rgTake 13 (some 38) hHeld _ ?_;try go_frame
  refine rgStep 9 (fun K hK=> ?_)
  go_simp
  refine (HRI.out _ (cutB b i sn) _ (by rw [HSC.out];omega) (SlB.more (SlB.below HSL.out ((H1.out.mono hB).drew)) (by have:=H1.out.size;show B≤W1.heap.size;omega))).mono ?_;rintro e w3 ⟨rfl,rfl⟩
  (try go_wp2_with fail)
  refine hK.out _ _ ?_ (fun hHeld=> ?_)
  ·(try dsimp only);exact ⟨t2,t3⟩
  clear hK K
  try go_frame
  refine rgTake 14 (some 8) hHeld _ ?_;try go_frame
  refine rgTake 15 (some 9) hHeld _ ?_;try go_frame
  refine rgTake 16 (some 10) hHeld _ ?_;try go_frame
  refine wpAnyH_done (by kernel_rfl) ?_ _
  rw [HWR.out]
  go_wp2
  refine bodyPost_ret (v:= .tuple #[.int .i64 (numB lt (cutB b i sn)), .int .i64 ((i+sn:Nat):Int), .bool true]) (by simp [results,Tryd.results105,go_sem]) rfl ⟨by rw [HO.out];rfl,H1.out.drew⟩
 ·have HO:=Lib.hid (HRD.out.trans (if_neg hfit))
  clear HRD
  have hfd:(b.length:Int) - i < L[q].d.size:=by omega
  go_wp2
  refine bodyPost_ret (v:= .tuple #[.int .i64 0, .int .i64 i, .bool false]) (by simp [results,Tryd.results105,go_sem]) rfl ⟨by rw [HO.out];rfl,H1.out⟩
end Go.Proofs.YteldgdelmaeokaaDoor
namespace Go.Proofs.YteldgdelmaeokaaDoor
open Go.RowKit
theorem Blk.put3 {W:World} {g:Nat} {T:TypeId} {a0 a1 a2:Value} (h:Blk W g T #[a0,a1,a2]) (u0 u1 u2:Value):
  Blk (((W.setCell ⟨g,0,none⟩ u0).setCell ⟨g,1,none⟩ u1).setCell ⟨g,2,none⟩ u2) g T #[u0,u1,u2]:=((h.set 0 u0).set 1 u1).set 2 u2
theorem below_put3 {B g:Nat} {w W:World} (h:Below B w W) (hg:B≤g) (u0 u1 u2:Value):Below B w (((W.setCell ⟨g,0,none⟩ u0).setCell ⟨g,1,none⟩ u1).setCell ⟨g,2,none⟩ u2):=
 ((h.setCell (p:=⟨g,0,none⟩) hg u0).setCell (p:=⟨g,1,none⟩) hg u1).setCell (p:=⟨g,2,none⟩) hg u2
def rdK (o:Option (Int × Nat × Nat)) (n:Int) (m:Nat) (next code:Int):Prop:=match o with
 |none=> code≠0
 |some (n',c,e)=> n=n'∧m=c∧next=e∧code=0
def RdR (o:Option (Int × Nat × Nat)) (w:World) (e:Ending) (w':World):Prop:=
 ∃(n:Int) (A1:Option Addr) (m1 c1:Nat) (A2:Option Addr) (m2 c2:Nat) (next code:Int),e= .returned (.tuple #[.agg #[.int .i64 n, .slice A1 m1 c1, .slice A2 m2 c2], .int .i64 next, .int .i64 code])∧rdK o n m2 next code∧Below w.heap.size w w'
theorem cutB_succ {b:List UInt8} {i n:Nat} (h:i+n < b.length):cutB b i (n+1)=cutB b i n++ [b[i+n]]:=by
 unfold cutB
 rw [List.take_succ_eq_append_getElem (by rw [List.length_drop];omega),List.getElem_drop]
set_option maxHeartbeats 2000000 in
set_option maxRecDepth 100000 in
theorem l11Const_any (r:RM) (vb:Value) (b:List UInt8) (i B:Nat) (w:World) (hr:r.rd w B) (hb:SlB w B vb b) (hB:B≤w.heap.size) (h16:r.d.bytes.length≤16) (hi:i≤b.length) (hl:b.length≤400):
  Calls Tryd.prog 114 #[rmV r,vb, .int .i64 i] w (RdR (if cutB b i r.d.bytes.length=r.d.bytes then some (0,0,i+r.d.bytes.length) else none) w):=by
 have hrb:SlB w B r.vb r.d.bytes:=hr.b
 obtain ⟨Ab,cb,eb,hcb,hmb,hcell⟩:=hrb.one
 obtain ⟨An,cn,en, -⟩:=hr.n.one
 obtain ⟨At,ct,et, -⟩:=hr.t.one
 obtain ⟨Ak,ck,ek, -⟩:=hr.k.one
 obtain ⟨A,c,rfl,hc,hm,hbc⟩:=hb.one
 unfold rmV
 rw [eb,en,et,ek]
 unfold maxLen at hm hmb
 have HC:=Lib.hid hcell
 have HBC:=Lib.hid hbc
 clear hrb hcell hbc hb hr eb en et ek
 generalize r.d.bytes=x at*
 obtain ⟨O,hO⟩:∃O,O=if cutB b i x.length=x then some ((0:Int),0,i+x.length) else none:=⟨_,rfl⟩
 rw [←hO]
 have HOE:=Lib.hid hO
 clear hO
 obtain ⟨W0,hW0⟩:∃W0,W0=(w.alloc (.cells #[.string r.d.name, .int .i64 r.d.kind, .int .i64 r.d.size, .bool r.d.little, .slice Ab x.length cb, .slice An r.d.names.length cn, .slice At r.d.tags.length ct, .slice Ak r.d.kids.length ck] 73)).alloc (.cells #[.int .i64 0, .slice none 0 0, .slice none 0 0] 29):=⟨_,rfl⟩
 have hb0:Below w.heap.size w W0:=by rw [hW0];exact ((Below.refl w.heap.size w).alloc (Nat.le_refl _) _).alloc (by simp) _
 have Kr:Blk W0 w.heap.size 73 #[.string r.d.name, .int .i64 r.d.kind, .int .i64 r.d.size, .bool r.d.little, .slice Ab x.length cb, .slice An r.d.names.length cn, .slice At r.d.tags.length ct, .slice Ak r.d.kids.length ck]:=by rw [hW0];exact (Blk.new w _ _).alloc _
 have Kv:Blk W0 (w.heap.size+1) 29 #[.int .i64 0, .slice none 0 0, .slice none 0 0]:=by rw [hW0];have:=Blk.new (w.alloc (.cells #[.string r.d.name, .int .i64 r.d.kind, .int .i64 r.d.size, .bool r.d.little, .slice Ab x.length cb, .slice An r.d.names.length cn, .slice At r.d.tags.length ct, .slice Ak r.d.kids.length ck] 73)) 29 #[.int .i64 0, .slice none 0 0, .slice none 0 0];simpa using this
 have t4:W0.cell? ⟨w.heap.size,4,none⟩=some (.slice Ab x.length cb):=Kr.cell 4 rfl
 obtain ⟨⟨q0,q1,q2⟩,g0,g1,g2⟩:=Kv.c3
 have KY:=Kv.put3 (.int .i64 0) (.slice none 0 0) (.slice none 0 0)
 obtain ⟨⟨y0,y1,y2⟩, -⟩:=KY.c3
 have HBY:=Lib.hid (below_put3 hb0 (show w.heap.size≤w.heap.size+1 by omega) (.int .i64 0) (.slice none 0 0) (.slice none 0 0))
 have HB0:=Lib.hid hb0
 have Kr0:=Kr
 have Kv0:=Kv
 clear hb0 Kr Kv KY
 go_enter Tryd.func114,Tryd.ntmps114
 go_upto_region 1 with fail
 rw [←hW0]
 clear hW0
 have HKR:=Lib.hid Kr0
 have HKV:=Lib.hid Kv0
 clear Kr0 Kv0 t4 q0 q1 q2 g0 g1 g2 y0 y1 y2 HBY
 have hz0:w.heap.size+1 < W0.heap.size:=HKV.out.lt
 go_wp2_with fail
 go_loopw [9] (fun k wr=> ∃j:Nat,j≤x.length∧i+j≤b.length∧k= .int .i64 j∧cutB b i j=x.take j∧Below W0.heap.size W0 wr) (fun k _=> x.length - (intOf k).toNat)
 case atStart=> exact ⟨0,Nat.zero_le _,by omega,rfl,by rw [List.take_zero];rfl,Below.refl _ _⟩
 case round=>
  obtain ⟨j,hj,hij,rfl,hcut,hb⟩:=hrel
  have t4:wr.cell? ⟨w.heap.size,4,none⟩=some (.slice Ab x.length cb):=(HKR.out.below hb).cell 4 rfl
  have Kv:=HKV.out.below hb
  obtain ⟨⟨q0,q1,q2⟩,g0,g1,g2⟩:=Kv.c3
  have bw:=below_step hb HB0.out
  have KY:∀n,Blk ((((wr.drewN n).setCell ⟨w.heap.size+1,0,none⟩ (.int .i64 0)).setCell ⟨w.heap.size+1,1,none⟩ (.slice none 0 0)).setCell ⟨w.heap.size+1,2,none⟩ (.slice none 0 0)) (w.heap.size+1) 29 #[.int .i64 0, .slice none 0 0, .slice none 0 0]:=fun n=> (Kv.below (below_drewN (Below.refl _ _) n)).put3 _ _ _
  have y0:=fun n=> (KY n).c3.1.1
  have y1:=fun n=> (KY n).c3.1.2.1
  have y2:=fun n=> (KY n).c3.1.2.2
  obtain ⟨⟨z0,z1,z2⟩, -⟩:=(Kv.put3 (.int .i64 0) (.slice none 0 0) (.slice none 0 0)).c3
  have HBY:=Lib.hid (fun n=> below_put3 (below_drewN bw n) (show w.heap.size≤w.heap.size+1 by omega) (.int .i64 0) (.slice none 0 0) (.slice none 0 0))
  have HBZ:=Lib.hid (below_put3 bw (show w.heap.size≤w.heap.size+1 by omega) (.int .i64 0) (.slice none 0 0) (.slice none 0 0))
  have t4z:((((wr.setCell ⟨w.heap.size+1,0,none⟩ (.int .i64 0)).setCell ⟨w.heap.size+1,1,none⟩ (.slice none 0 0)).setCell ⟨w.heap.size+1,2,none⟩ (.slice none 0 0))).cell? ⟨w.heap.size,4,none⟩=some (.slice Ab x.length cb):=((((HKR.out.below hb).other (by omega) _).other (by omega) _).other (by omega) _).cell 4 rfl
  have HB:=Lib.hid (And.intro hb bw)
  have HCUT:=Lib.hid hcut
  clear hb bw Kv KY hcut
  by_cases hlt:j < x.length
  ·by_cases hge:b.length≤i+j
   ·have HO:Hid (O=none):=Lib.hid (HOE.out.trans <|if_neg fun e=> by
     have:=congrArg List.length e
     unfold cutB at this
     rw [List.length_take,List.length_drop] at this
     omega)
    have hge':(b.length:Int)≤(i:Int)+j:=by omega
    go_wp2
    exact bodyPost_ret (v:= .tuple #[.agg #[.int .i64 0, .slice none 0 0, .slice none 0 0], .int .i64 i, .int .i64 1]) (by simp [results,Tryd.results114,go_sem,z0,z1,z2]) rfl ⟨0,none,0,0,none,0,0,i,1,rfl,by rw [HO.out];show (1:Int)≠0;decide,HBZ.out⟩
   ·obtain ⟨p,hpe⟩:∃p,p=i+j:=⟨_,rfl⟩
    have hp:(i:Int)+(j:Int)=(p:Int):=by omega
    have hpl:p < b.length:=by omega
    have hp4:p≤400:=by omega
    obtain ⟨bb,oo,rfl,hbb,hd⟩:=HBC.out p hpl
    obtain ⟨bx,ox,rfl,hbx,hx⟩:=HC.out j hlt
    have hd:=cell_keep hd (HB.out.2.mono hB) hbb
    have hx:=cell_keep hx (HB.out.2.mono hB) hbx
    unfold u8v at hd hx
    have hbbw:bb < w.heap.size:=by omega
    have hbxw:bx < w.heap.size:=by omega
    have hge':¬(b.length:Int)≤(p:Int):=by omega
    have hij1:i+j < b.length:=by omega
    have hget:b[i+j]?=some b[p]:=by rw [←hpe];exact List.getElem?_eq_getElem hpl
    by_cases he:b[p]=x[j]
    ·have HX:=Lib.hid (show cutB b i (j+1)=x.take (j+1) by rw [cutB_succ hij1,List.take_succ_eq_append_getElem hlt,HCUT.out,←he,show b[i+j]=b[p] from Option.some.inj ((List.getElem?_eq_getElem hij1).symm.trans hget)])
     have hbe:((b[p].toNat:Int)==(x[j].toNat:Int))=true:=by rw [he];simp
     clear he
     clear hge hget hpe
     generalize b[p]=y at*
     generalize x[j]=z at*
     go_wp2
     go_quiet (fail)
     go_wp2
     go_roundw
     case rel=> exact ⟨j+1,by omega,by omega,by go_num,HX.out,below_drewN HB.out.1 _⟩
     case measure=> simp [intOf];omega
    ·have hbe:((b[p].toNat:Int)==(x[j].toNat:Int))=false:=by
      rw [beq_eq_false_iff_ne];intro hx;exact he (UInt8.toNat_inj.1 (by omega))
     have HO:Hid (O=none):=Lib.hid (HOE.out.trans <|if_neg fun e=> he (by
      have h1:(cutB b i x.length)[j]?=x[j]?:=by rw [e]
      unfold cutB at h1
      rw [List.getElem?_take_of_lt hlt,List.getElem?_drop,hget,List.getElem?_eq_getElem hlt] at h1
      exact Option.some.inj h1))
     clear he
     clear hge hget hpe
     generalize b[p]=y at*
     generalize x[j]=z at*
     go_wp2
     go_quiet (fail)
     go_wp2
     exact bodyPost_ret (v:= .tuple #[.agg #[.int .i64 0, .slice none 0 0, .slice none 0 0], .int .i64 (p:Int), .int .i64 2]) (by simp [results,Tryd.results114,go_sem,y0,y1,y2]) rfl ⟨0,none,0,0,none,0,0,_,2,rfl,by rw [HO.out];show (2:Int)≠0;decide,HBY.out _⟩
  ·obtain rfl:j=x.length:=by omega
   have HO:Hid (O=some (0,0,i+x.length)):=Lib.hid (HOE.out.trans <|if_pos (by rw [HCUT.out,List.take_length]))
   go_wp2_with fail
   refine wp_region_held_drew (S:=(fun w9=> w9.cell? ⟨w.heap.size,4,none⟩=some (.slice Ab x.length cb))) (by kernel_rfl) ?_ (fun hHeld=> ?_)
   ·(try dsimp only);exact t4
   refine rgTake 0 (some 41) hHeld _ ?_;try go_frame
   refine rgTake 1 (some 42) hHeld _ ?_;try go_frame
   refine rgTake 2 (some 43) hHeld _ ?_;try go_frame
   refine rgTake 3 (some 44) hHeld _ ?_;try go_frame
   refine rgTake 4 (some 45) hHeld _ ?_;try go_frame
   refine rgTake 5 (some 46) hHeld _ ?_;try go_frame
   refine rgStep 6 (fun K hK=> ?_)
   (try go_simp)
   go_simp
   refine hK.out _ _ ?_ (fun hHeld=> ?_)
   ·(try dsimp only);first|exact t4|exact t4z
   clear hK K
   try go_frame
   refine rgTake 7 (some 7) hHeld _ ?_;try go_frame
   refine rgTake 8 (some 8) hHeld _ ?_;try go_frame
   refine wpAnyH_done (by kernel_rfl) ?_ _
   have hsum:IntKind.i64.wrap ((i:Int)+(x.length:Int))=((i+x.length:Nat):Int):=by rw [IntWalk.i64_in _ (by omega)];omega
   rw [hsum]
   go_wp2
   exact bodyPost_ret (v:= .tuple #[.agg #[.int .i64 0, .slice none 0 0, .slice none 0 0], .int .i64 ((i+x.length:Nat):Int), .int .i64 0]) (by simp [results,Tryd.results114,go_sem,z0,z1,z2]) rfl ⟨0,none,0,0,none,0,0,_,0,rfl,by rw [HO.out];exact ⟨rfl,rfl,rfl,rfl⟩,HBZ.out.drew⟩
end Go.Proofs.YteldgdelmaeokaaDoor
namespace Go.Proofs.YteldgdelmaeokaaDoor
open Go.RowKit
set_option maxHeartbeats 2000000 in
set_option maxRecDepth 100000 in
theorem l11Bytes_any (vb:Value) (b:List UInt8) (i B:Nat) (n:Int) (w:World) (hb:SlB w B vb b) (hB:B≤w.heap.size) (hn:0≤n∧n≤4294967295) (hi:i≤b.length) (hl:b.length≤400):
  Calls Tryd.prog 115 #[vb, .int .i64 i, .int .i64 n] w (RdR (if (i:Int)+n≤b.length then some (0,0,i+n.toNat) else none) w):=by
 obtain ⟨i0,hi',hz0,hz1,hz2⟩:=info_parts Tryd.info_u8
 obtain ⟨A,c,rfl,hc,hm, -⟩:=hb.one
 unfold maxLen at hm
 obtain ⟨O,hO⟩:∃O,O=if (i:Int)+n≤b.length then some ((0:Int),0,i+n.toNat) else none:=⟨_,rfl⟩
 rw [←hO]
 have HOE:=Lib.hid hO
 clear hO
 obtain ⟨W0,hW0⟩:∃W0,W0=w.alloc (.cells #[.int .i64 0, .slice none 0 0, .slice none 0 0] 29):=⟨_,rfl⟩
 have hb0:Below w.heap.size w W0:=by rw [hW0];exact (Below.refl w.heap.size w).alloc (Nat.le_refl _) _
 have Kv:Blk W0 w.heap.size 29 #[.int .i64 0, .slice none 0 0, .slice none 0 0]:=by rw [hW0];exact Blk.new w _ _
 have hz0':=Kv.lt
 have HB0:=Lib.hid hb0
 have HKV:=Lib.hid Kv
 have HBB:=Lib.hid hb
 clear hb0 Kv hb
 go_enter Tryd.func115,Tryd.ntmps115
 go_upto_region 1 with fail
 rw [←hW0]
 clear hW0
 by_cases hfit:(i:Int)+n≤b.length
 ·obtain ⟨m,rfl⟩:=Int.eq_ofNat_of_zero_le hn.1
  have HO:Hid (O=some (0,0,i+m)):=Lib.hid (HOE.out.trans ((if_pos hfit).trans (by rw [Int.toNat_natCast])))
  have hfd:¬(b.length:Int) - i < m:=by omega
  have hcv:=run_cutLH (P:=Tryd.prog) Tryd.underlying22 Tryd.sizeOf5 A b.length c i ((i:Int)+m) i (i+m) rfl (by omega) (by omega) (by omega)
  have hsl:=SlB.cut HBB.out i (i+m) c (by omega) (by omega) (by omega) (by unfold maxLen;omega)
  rw [show i+m - i=m by omega] at hcv hsl
  have HSL:=Lib.hid hsl
  have hm4:m≤400:=by omega
  have hcl:(cutB b i m).length=m:=cutB_length (by omega)
  have HCL:=Lib.hid hcl
  clear hsl HOE hcl
  have q9:=(HKV.out.alloc (.cells #[] 5)).c3
  go_wp2_with (at_builtin;refine wpList_app _ rfl (.tmp 17) (.tmp 23) 22 rfl W0.heap.size 5 i0 (.int .u8 0) 1 1 Tryd.underlying22 hi' hz0 hz1 hz2 rfl (by decide) _ ([]:List UInt8).length _ rfl (own_empty _ _ _) B m _ (u8s (cutB b i m)) rfl (by exact Sl.below HSL.out ((HB0.out.alloc HB0.out.size _).mono hB)) (u8s_one _) (by simp;omega) (by unfold maxLen;simp;omega) (by simp) ?_;intro v2 w2 own2 hg2 _;obtain ⟨A9,c9,rfl⟩:=own_slice own2;have hk2:=Blk.row (HKV.out.alloc (.cells #[] 5)) hg2 (fun e=> by have e2:W0.heap.size=w.heap.size:=Option.some.inj e;omega);have hb2:Below w.heap.size w w2:=(HB0.out.alloc HB0.out.size _).grown hg2 (by simp;omega) (fun t e=> by have e2:W0.heap.size=t:=Option.some.inj e;omega);obtain ⟨⟨q0,q1,q2⟩,g0,g1,g2⟩:=hk2.c3;have HK2:=Lib.hid (And.intro hk2 hb2);clear hk2 hb2 own2 hg2)
  obtain ⟨⟨z0,z1,z2⟩, -⟩:=(HK2.out.1.put3 (.int .i64 0) (.slice A9 m c9) (.slice none 0 0)).c3
  have HBZ:=Lib.hid (below_put3 HK2.out.2 (Nat.le_refl w.heap.size) (.int .i64 0) (.slice A9 m c9) (.slice none 0 0))
  exact bodyPost_ret (v:= .tuple #[.agg #[.int .i64 0, .slice A9 m c9, .slice none 0 0], .int .i64 ((i:Int)+m), .int .i64 0]) (by simp [results,Tryd.results115,go_sem,z0,z1,z2]) rfl ⟨0,A9,m,c9,none,0,0,_,0,rfl,by rw [HO.out];exact ⟨rfl,rfl,rfl,rfl⟩,HBZ.out⟩
 ·have HO:Hid (O=none):=Lib.hid (HOE.out.trans (if_neg hfit))
  have hfd:(b.length:Int) - i < n:=by omega
  obtain ⟨⟨q0,q1,q2⟩,g0,g1,g2⟩:=HKV.out.c3
  obtain ⟨⟨z0,z1,z2⟩, -⟩:=(HKV.out.put3 (.int .i64 0) (.slice none 0 0) (.slice none 0 0)).c3
  have HBZ:=Lib.hid (below_put3 HB0.out (Nat.le_refl w.heap.size) (.int .i64 0) (.slice none 0 0) (.slice none 0 0))
  clear HOE
  go_wp2
  exact bodyPost_ret (v:= .tuple #[.agg #[.int .i64 0, .slice none 0 0, .slice none 0 0], .int .i64 i, .int .i64 1]) (by simp [results,Tryd.results115,go_sem,z0,z1,z2]) rfl ⟨0,none,0,0,none,0,0,i,1,rfl,by rw [HO.out];show (1:Int)≠0;decide,HBZ.out⟩
theorem termE_hit {t:UInt8} {b:List UInt8} {p:Nat} (hp:p < b.length) (h:b[p]=t):termE t (b.drop p) p=some (p+1):=by
 rw [List.drop_eq_getElem_cons hp]
 cases hd:b.drop (p+1) with
 |nil=> rw [termE,if_pos h]
 |cons d l=> rw [termE,if_pos h]
theorem termE_last {t:UInt8} {b:List UInt8} {p:Nat} (hp:p+1=b.length) (h:¬b[p]=t):termE t (b.drop p) p=none:=by
 rw [List.drop_eq_getElem_cons (by omega),List.drop_of_length_le (by omega),termE,if_neg h]
theorem termE_esc {t:UInt8} {b:List UInt8} {p:Nat} (hp:p+1 < b.length) (h:¬b[p]=t) (h92:b[p]=92):termE t (b.drop p) p=termE t (b.drop (p+2)) (p+2):=by
 rw [List.drop_eq_getElem_cons (show p < b.length by omega),List.drop_eq_getElem_cons hp,termE,if_neg h,if_pos h92]
theorem termE_next {t:UInt8} {b:List UInt8} {p:Nat} (hp:p < b.length) (h:¬b[p]=t) (h92:¬b[p]=92):termE t (b.drop p) p=termE t (b.drop (p+1)) (p+1):=by
 by_cases he:p+1=b.length
 ·rw [termE_last he h,List.drop_of_length_le (by omega),termE]
 ·rw [List.drop_eq_getElem_cons hp,List.drop_eq_getElem_cons (show p+1 < b.length by omega),termE,if_neg h,if_neg h92]
def TmE (o:Option Nat) (w:World) (e:Ending) (w':World):Prop:=∃(A:Option Addr) (m c:Nat) (next:Int) (ok:Bool),e= .returned (.tuple #[.slice A m c, .int .i64 next, .bool ok])∧(match o with|none=> ok=false|some x=> ok=true∧next=x)∧Below w.heap.size w w'
set_option maxHeartbeats 4000000 in
set_option maxRecDepth 100000 in
theorem readTerm_any (vb:Value) (b:List UInt8) (i B:Nat) (t:UInt8) (w:World) (hb:SlB w B vb b) (hB:B≤w.heap.size) (hi:i≤b.length) (hl:b.length≤400):
  Calls Tryd.prog 116 #[vb, .int .i64 i, .int .u8 (t.toNat:Int)] w (TmE (termE t (b.drop i) i) w):=by
 obtain ⟨i0,hi',hz0,hz1,hz2⟩:=info_parts Tryd.info_u8
 obtain ⟨A,c,rfl,hc,hm,hbc⟩:=hb.one
 unfold maxLen at hm
 have HBC:=Lib.hid hbc
 clear hbc hb
 have hin:inB (i:Int) 0 b.length=true:=inB_true (by omega) (by omega)
 obtain ⟨O,hO⟩:∃O,O=termE t (b.drop i) i:=⟨_,rfl⟩
 rw [←hO]
 have HOE:=Lib.hid hO
 clear hO
 go_enter Tryd.func116,Tryd.ntmps116
 go_wp2_with fail
 go_loopw [9,10] (fun o k wr=> ∃(p:Nat) (xs:List UInt8),p≤b.length∧k= .int .i64 p∧xs.length≤p∧Hid (termE t (b.drop i) i=termE t (b.drop p) p)∧wr.ownsRow w.heap.size 5 1 o xs.length (u8s xs)∧Below w.heap.size w wr) (fun _ k _=> b.length - (intOf k).toNat)
 case atStart=> exact ⟨i, [],hi,rfl,Nat.zero_le _,Lib.hid rfl,own_empty _ _ _,(Below.refl _ _).alloc (Nat.le_refl _) _⟩
 case round=>
  obtain ⟨p,xs,hp,rfl,hxl,HT,hown,hbl⟩:=hrel
  have HOW:=Lib.hid hown
  have HB:=Lib.hid hbl
  have hsz:=hbl.size
  clear hown hbl
  by_cases hlt:p < b.length
  ·obtain ⟨bb,oo,rfl,hbb,hd⟩:=HBC.out p hlt
   have hd:=cell_keep hd (HB.out.mono hB) hbb
   have hbbw:bb < w.heap.size:=by omega
   unfold u8v at hd
   by_cases hyt:b[p]=t
   ·have HH:=Lib.hid (termE_hit hlt hyt)
    have hbe:((b[p].toNat:Int)==(t.toNat:Int))=true:=by rw [hyt];simp
    obtain ⟨A9,c9,rfl⟩:=own_slice HOW.out
    clear hyt
    generalize b[p]=y at*
    go_wp2_with fail
    refine (l1In_any _ _ _ _).mono ?_
    rintro e w3 ⟨rfl,rfl⟩
    rw [hin]
    go_wp2
    exact bodyPost_ret (v:= .tuple #[.slice A9 xs.length c9, .int .i64 ((p:Int)+1), .bool true]) (by simp [results,Tryd.results116,go_sem]) rfl ⟨A9,xs.length,c9,_,true,rfl,by rw [HOE.out,HT.out,HH.out];exact ⟨rfl,rfl⟩,HB.out⟩
   ·have hbe:((b[p].toNat:Int)==(t.toNat:Int))=false:=by
     rw [beq_eq_false_iff_ne];intro hx;exact hyt (UInt8.toNat_inj.1 (by omega))
    by_cases h92:b[p]=92
    ·have hb92:((b[p].toNat:Int)==92)=true:=by rw [h92];rfl
     by_cases hend:p+1=b.length
     ·have HH:=Lib.hid (termE_last hend hyt)
      have hpe:(p:Int)+1=(b.length:Int):=by omega
      have hpb:((p:Int)+1==(b.length:Int))=true:=by simp [hpe]
      clear hyt h92 hend hpe
      generalize b[p]=y at*
      have HBF:=Lib.hid (HB.out.alloc HB.out.size (.cells #[] 5))
      go_wp2_with fail
      refine (l1In_any _ _ _ _).mono ?_
      rintro e w3 ⟨rfl,rfl⟩
      rw [hin]
      go_wp2
      exact bodyPost_ret (v:= .tuple #[.slice (some ⟨wr.heap.size,0,none⟩) 0 0, .int .i64 i, .bool false]) (by simp [results,Tryd.results116,go_sem]) rfl ⟨_,0,0,i,false,rfl,by rw [HOE.out,HT.out,HH.out],HBF.out⟩
     ·have hp1:p+1 < b.length:=by omega
      have HH:=Lib.hid (termE_esc hp1 hyt h92)
      obtain ⟨bb',oo',e',hbb',hd'⟩:=HBC.out (p+1) hp1
      obtain ⟨rfl,rfl⟩:bb'=bb∧oo'=oo:=by simp only [Option.some.injEq,Addr.mk.injEq] at e';exact ⟨e'.1.symm,e'.2.1.symm⟩
      have hd':=cell_keep hd' (HB.out.mono hB) hbb'
      unfold u8v at hd'
      have hpb:((p:Int)+1==(b.length:Int))=false:=by rw [beq_eq_false_iff_ne];omega
      have hpi:(p:Int)+1 < (b.length:Int):=by omega
      have hy0:(0:Int)≤(b[p+1].toNat:Int):=by omega
      have hy1:(b[p+1].toNat:Int)≤255:=by have:=b[p+1].toNat_lt;omega
      clear hyt h92 hend e'
      generalize b[p]=y at*
      generalize b[p+1]=z at*
      go_wp2_with fail
      refine (l1In_any _ _ _ _).mono ?_
      rintro e w3 ⟨rfl,rfl⟩
      rw [hin]
      go_wp2_with (at_builtin;refine wpList_app _ rfl (.tmp 45) (.tmp 50) 22 rfl w.heap.size 5 i0 (.int .u8 0) 1 1 Tryd.underlying22 hi' hz0 hz1 hz2 rfl (by decide) _ xs.length _ rfl (own_below HOW.out ((Below.refl _ _).alloc (Nat.le_refl _) _) (Nat.le_refl _)) _ 1 _ (u8s [UInt8.ofNat (z.toNat:Int).toNat]) rfl (slb_oneG hy0 hy1 rfl) (u8s_one _) (by omega) (by unfold maxLen;omega) (by simp;omega) ?_;intro v2 w2 own2 hg2 _)
      have hlt3:=HOW.out.lt
      rw [←u8s_append] at own2
      have hbf:Below w.heap.size w w2:=(HB.out.alloc hsz _).grown hg2 (by simp;omega) fun q e=> (hlt3 q e).1
      have H2:=Lib.hid (And.intro own2 hbf)
      clear own2 hg2 hbf hlt3
      go_roundw
      case rel=> exact ⟨p+2,xs++ [UInt8.ofNat (z.toNat:Int).toNat],by omega,by go_num,by simp;omega,Lib.hid (HT.out.trans HH.out),by simpa using H2.out.1,H2.out.2⟩
      case measure=> simp [intOf];omega
    ·have hb92:((b[p].toNat:Int)==92)=false:=by
      rw [beq_eq_false_iff_ne];intro hx;exact h92 (UInt8.toNat_inj.1 (by show b[p].toNat=92;omega))
     have HH:=Lib.hid (termE_next hlt hyt h92)
     have hpb:((p:Int)==(b.length:Int))=false:=by rw [beq_eq_false_iff_ne];omega
     have hy0:(0:Int)≤(b[p].toNat:Int):=by omega
     have hy1:(b[p].toNat:Int)≤255:=by have:=b[p].toNat_lt;omega
     clear hyt h92
     generalize b[p]=z at*
     go_wp2_with fail
     refine (l1In_any _ _ _ _).mono ?_
     rintro e w3 ⟨rfl,rfl⟩
     rw [hin]
     go_wp2_with (at_builtin;refine wpList_app _ rfl (.tmp 45) (.tmp 50) 22 rfl w.heap.size 5 i0 (.int .u8 0) 1 1 Tryd.underlying22 hi' hz0 hz1 hz2 rfl (by decide) _ xs.length _ rfl (own_below HOW.out ((Below.refl _ _).alloc (Nat.le_refl _) _) (Nat.le_refl _)) _ 1 _ (u8s [UInt8.ofNat (z.toNat:Int).toNat]) rfl (slb_oneG hy0 hy1 rfl) (u8s_one _) (by omega) (by unfold maxLen;omega) (by simp;omega) ?_;intro v2 w2 own2 hg2 _)
     have hlt3:=HOW.out.lt
     rw [←u8s_append] at own2
     have hbf:Below w.heap.size w w2:=(HB.out.alloc hsz _).grown hg2 (by simp;omega) fun q e=> (hlt3 q e).1
     have H2:=Lib.hid (And.intro own2 hbf)
     clear own2 hg2 hbf hlt3
     go_roundw
     case rel=> exact ⟨p+1,xs++ [UInt8.ofNat (z.toNat:Int).toNat],by omega,by go_num,by simp;omega,Lib.hid (HT.out.trans HH.out),by simpa using H2.out.1,H2.out.2⟩
     case measure=> simp [intOf];omega
  ·obtain rfl:p=b.length:=by omega
   have HH:=Lib.hid (show termE t (b.drop b.length) b.length=none by rw [List.drop_length,termE])
   have HBF:=Lib.hid (HB.out.alloc HB.out.size (.cells #[] 5))
   go_wp2_with fail
   refine (l1In_any _ _ _ _).mono ?_
   rintro e w3 ⟨rfl,rfl⟩
   rw [hin]
   go_wp2
   exact bodyPost_ret (v:= .tuple #[.slice (some ⟨wr.heap.size,0,none⟩) 0 0, .int .i64 i, .bool false]) (by simp [results,Tryd.results116,go_sem]) rfl ⟨_,0,0,i,false,rfl,by rw [HOE.out,HT.out,HH.out],HBF.out⟩
end Go.Proofs.YteldgdelmaeokaaDoor
