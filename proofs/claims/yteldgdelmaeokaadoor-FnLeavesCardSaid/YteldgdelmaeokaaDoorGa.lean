/- Out of Mem, Open, Byte, Val, Own, OwnB, ValOwn, Lift, LiftD, Num, Dec, Ints, FmtD, Desc, Strs, DescSz, OwnS, OwnI, DescTo, DescTo2, DescEq: the walks and plain laws that the claim needs. No condition but those that each theorem names. -/
import Derived.WalkKit
import Derived.Below
import Derived.Laws.OwnMore
import Derived.Deep.Draws
import Derived.Lib.Hide
import Derived.Lib.Strings
import Derived.Maps.AppendAt
import Derived.Deep.AppendLies
import Derived.ProofKit
import Derived.Deep.Slices
import Derived.Deep.Fields
import Derived.Test.YteldgdelmaeokaaDoorRows
import Derived.WalkSpells
import Derived.WalkLawsBesides
import Derived.BigQuiet
import Derived.Deep.QuietTactic
import Derived.Lib.SmallJoins
import Derived.ShutString
import Derived.ChangeOld
import Derived.LaidMore
import Derived.OpenShut
import Derived.Stop.Joined
import Derived.Lib.LaidTab
import Derived.Lib.AppendIntMem
import Derived.BigGuardPart
import Derived.Test.YteldgdelmaeokaaDoorShelf
import Derived.Deep.RegionHeld3
import Derived.Sort.AtCall
set_option linter.unusedSimpArgs false
set_option linter.unusedVariables false
namespace Go.Proofs.YteldgdelmaeokaaDoor
open Go.RowKit
theorem ret_int {k:IntKind} {a b:Int} (h:a=b):Ending.returned (.int k a)= .returned (.int k b):=by rw [h]
theorem ret_bool {a b:Bool} (h:a=b):Ending.returned (.bool a)= .returned (.bool b):=by rw [h]
theorem ret_str {a b:ByteArray} (h:a=b):Ending.returned (.string a)= .returned (.string b):=by rw [h]
theorem below_drewN {B:Nat} {a w:World} (h:Below B a w) (n:Nat):Below B a (w.drewN n):=⟨h.os,h.tape,h.output,h.size,h.block⟩
theorem below_grown {a w:World} {row:Option Nat} (h:a.grownBy w row) {B:Nat} (hB:B≤a.heap.size) (hr:∀k,row=some k→B≤k):Below B a w:=
 (Below.refl B a).grown h hB hr
theorem below_step {w a b:World} (h1:Below a.heap.size a b) (h:Below w.heap.size w a):Below w.heap.size w b:=h.trans (h1.mono h.size)
def Sl (w:World) (B size:Nat) (v:Value) (n:Nat) (xs:List Value):Prop:=
 xs.length=n*size∧∃A c,v= .slice A n c∧n≤c∧c≤maxLen∧
  (0 < n→∃b off,A=some ⟨b,off,none⟩∧b < B∧∀j u,xs[j]?=some u→w.cell? ⟨b,off+j,none⟩=some u)
section
variable {w w':World} {B B' size n:Nat} {v:Value} {xs:List Value}
theorem Sl.keep (h:Sl w B size v n xs) (hk:∀b o,b < B→w'.cell? ⟨b,o,none⟩=w.cell? ⟨b,o,none⟩):Sl w' B size v n xs:=by
 obtain ⟨hl,A,c,hv,hc,hm,hr⟩:=h
 refine ⟨hl,A,c,hv,hc,hm,fun hn=> ?_⟩
 obtain ⟨b,off,e,hb,hcell⟩:=hr hn
 exact ⟨b,off,e,hb,fun j u hu=> (hk _ _ hb).trans (hcell j u hu)⟩
theorem Sl.more (h:Sl w B size v n xs) (hB:B≤B'):Sl w B' size v n xs:=by
 obtain ⟨hl,A,c,hv,hc,hm,hr⟩:=h
 refine ⟨hl,A,c,hv,hc,hm,fun hn=> ?_⟩
 obtain ⟨b,off,e,hb,hcell⟩:=hr hn
 exact ⟨b,off,e,by omega,hcell⟩
theorem Sl.below (h:Sl w B size v n xs) (hb:Below B w w'):Sl w' B size v n xs:=h.keep fun _ _ hp=> hb.cell (p:=⟨_,_,none⟩) hp
theorem Sl.drewN (h:Sl w B size v n xs) (k:Nat):Sl (w.drewN k) B size v n xs:=h
theorem Sl.grown (h:Sl w B size v n xs) {row:Option Nat} (hg:w.grownBy w' row) (hB:B≤w.heap.size) (hr:∀g,row=some g→B≤g):Sl w' B size v n xs:=
 h.below (below_grown hg hB hr)
theorem Sl.of_own {base:Nat} {e:TypeId} (h:w.ownsRow base e size v n xs):Sl w w.heap.size size v n xs:=by
 refine ⟨h.1,?_⟩
 rcases h.2 with ⟨rfl,rfl⟩|⟨g,cap,cur,rfl,hb,hg,hc,hm,hs,ht⟩
 ·exact ⟨none,0,rfl,Nat.le_refl _,Nat.zero_le _,fun h=> absurd h (by omega)⟩
 ·refine ⟨_,_,rfl,hc,hm,fun _=> ⟨g,0,rfl,(Array.getElem?_eq_some_iff.1 hg).1,fun j u hu=> ?_⟩⟩
  have:=h.cells (g:=g) rfl j u hu
  have hadd:(⟨g,0,none⟩:Addr).add j=⟨g,j,none⟩:=by unfold Addr.add;split <;> simp_all
  rw [hadd] at this
  simpa using this
theorem Sl.nil (w:World) (B size:Nat):Sl w B size (.slice none 0 0) 0 []:=
 ⟨by simp,none,0,rfl,Nat.le_refl _,Nat.zero_le _,fun h=> absurd h (by omega)⟩
end
theorem own_below {w w':World} {base:Nat} {e:TypeId} {size:Nat} {v:Value} {n:Nat} {xs:List Value} (h:w.ownsRow base e size v n xs) {B:Nat} (hb:Below B w w') (hB:w.heap.size≤B):w'.ownsRow base e size v n xs:=by
 refine ⟨h.1,?_⟩
 rcases h.2 with hn|⟨g,cap,cur,rfl,hbb,hg,rest⟩
 ·exact .inl hn
 ·exact .inr ⟨g,cap,cur,rfl,hbb,by rw [hb.block g (by have:=(Array.getElem?_eq_some_iff.1 hg).1;omega)];exact hg,rest⟩
theorem own_base {w:World} {base base':Nat} {e:TypeId} {size:Nat} {v:Value} {n:Nat} {xs:List Value} (h:w.ownsRow base e size v n xs) (hb:base'≤base):w.ownsRow base' e size v n xs:=by
 refine ⟨h.1,?_⟩
 rcases h.2 with hn|⟨g,cap,cur,rfl,hbb,rest⟩
 ·exact .inl hn
 ·exact .inr ⟨g,cap,cur,rfl,by omega,rest⟩
def putCells (w:World) (g o:Nat):List Value→World
 | []=> w
 |u::us=> putCells (w.setCell ⟨g,o,none⟩ u) g (o+1) us
theorem own_putCells {base:Nat} {e:TypeId} {size n cap g:Nat} (us:List Value):∀(w:World) (pre ys:List Value),us.length≤ys.length→
  w.ownsRow base e size (.slice (some ⟨g,0,none⟩) n cap) n (pre++ys)→
  (putCells w g pre.length us).ownsRow base e size (.slice (some ⟨g,0,none⟩) n cap) n (pre++us++ys.drop us.length):=by
 induction us with
 |nil=> intro w pre ys _ h;simpa [putCells] using h
 |cons u us ih=>
  intro w pre ys hl h
  cases ys with
  |nil=> simp at hl
  |cons y ys=>
   have h1:=(h.stored pre.length u).1
   have e1:(pre++y::ys).set pre.length u=(pre++ [u])++ys:=by
    rw [List.set_append_right _ _ (Nat.le_refl _)];simp
   rw [e1] at h1
   have h2:=ih _ (pre++ [u]) ys (by simpa using hl) h1
   simpa [putCells] using h2
theorem grownBy_setCell (w:World) (g o:Nat) (u:Value):w.grownBy (w.setCell ⟨g,o,none⟩ u) (some g):=
 ⟨rfl,rfl,rfl,by simp [World.setCell],fun k _ hne=> Below.heap_setCell _ _ _ _ (fun e=> hne (by rw [e]))⟩
theorem grownBy_trans {a b c:World} {row:Option Nat} (h:a.grownBy b row) (k:b.grownBy c row):a.grownBy c row:=
 ⟨k.os.trans h.os,k.tape.trans h.tape,k.output.trans h.output,Nat.le_trans h.size k.size,fun i hi hne=> (k.block i (Nat.lt_of_lt_of_le hi h.size) hne).trans (h.block i hi hne)⟩
def u8v (b:UInt8):Value:= .int .u8 (b.toNat:Int)
def u8s (l:List UInt8):List Value:=l.map u8v
@[simp] theorem u8s_length (l:List UInt8):(u8s l).length=l.length:=by simp [u8s]
theorem u8s_append (a b:List UInt8):u8s (a++b)=u8s a++u8s b:=by simp [u8s]
theorem u8s_getElem? (l:List UInt8) (k:Nat):(u8s l)[k]?=l[k]?.map u8v:=by simp [u8s]
theorem u8s_one (l:List UInt8):∀u∈u8s l,u.oneCell'=true:=by
 intro u hu
 simp only [u8s,List.mem_map] at hu
 obtain ⟨b,_,rfl⟩:=hu
 rfl
def SlB (w:World) (B:Nat) (v:Value) (l:List UInt8):Prop:=Sl w B 1 v l.length (u8s l)
theorem SlB.below {w w':World} {B:Nat} {v:Value} {l:List UInt8} (h:SlB w B v l) (hb:Below B w w'):SlB w' B v l:=Sl.below h hb
theorem SlB.more {w:World} {B B':Nat} {v:Value} {l:List UInt8} (h:SlB w B v l) (hB:B≤B'):SlB w B' v l:=Sl.more h hB
theorem SlB.open_ {w:World} {B:Nat} {v:Value} {l:List UInt8} (h:SlB w B v l):∃A c,v= .slice A l.length c∧l.length≤c∧c≤maxLen∧
  (∀k (hk:k < l.length),∃b off,A=some ⟨b,off,none⟩∧b < B∧w.cell? ⟨b,off+k,none⟩=some (.int .u8 (l[k].toNat:Int))):=by
 obtain ⟨_,A,c,rfl,hc,hm,hr⟩:=h
 refine ⟨A,c,rfl,hc,hm,fun k hk=> ?_⟩
 obtain ⟨b,off,e,hb,hcell⟩:=hr (by omega)
 exact ⟨b,off,e,hb,hcell k _ (by rw [u8s_getElem?,List.getElem?_eq_getElem hk];rfl)⟩
def SlS (w:World) (B:Nat) (v:Value) (l:List ByteArray):Prop:=Sl w B 1 v l.length (l.map .string)
def SlI (w:World) (B:Nat) (v:Value) (l:List Int):Prop:=Sl w B 1 v l.length (l.map (.int .i64))
theorem Sl.one {T:Type} {w:World} {B:Nat} {v:Value} {f:T→Value} {l:List T} (h:Sl w B 1 v l.length (l.map f)):∃A c,v= .slice A l.length c∧l.length≤c∧c≤maxLen∧
  (∀k (hk:k < l.length),∃b off,A=some ⟨b,off,none⟩∧b < B∧w.cell? ⟨b,off+k,none⟩=some (f l[k])):=by
 obtain ⟨_,A,c,rfl,hc,hm,hr⟩:=h
 refine ⟨A,c,rfl,hc,hm,fun k hk=> ?_⟩
 obtain ⟨b,off,e,hb,hcell⟩:=hr (by omega)
 exact ⟨b,off,e,hb,hcell k _ (by rw [List.getElem?_map,List.getElem?_eq_getElem hk];rfl)⟩
theorem SlS.below {w w':World} {B:Nat} {v:Value} {l:List ByteArray} (h:SlS w B v l) (hb:Below B w w'):SlS w' B v l:=Sl.below h hb
theorem SlS.more {w:World} {B B':Nat} {v:Value} {l:List ByteArray} (h:SlS w B v l) (hB:B≤B'):SlS w B' v l:=Sl.more h hB
theorem SlI.below {w w':World} {B:Nat} {v:Value} {l:List Int} (h:SlI w B v l) (hb:Below B w w'):SlI w' B v l:=Sl.below h hb
theorem SlI.more {w:World} {B B':Nat} {v:Value} {l:List Int} (h:SlI w B v l) (hB:B≤B'):SlI w B' v l:=Sl.more h hB
end Go.Proofs.YteldgdelmaeokaaDoor
namespace Go.Proofs.YteldgdelmaeokaaDoor
open Go.ChangeShapes Go.WideShapes Go.ChangeAt Go.RowKit Go.Deep
theorem flatMap_at {T:Type} (c:T→List Value) (size:Nat) (hc:∀t,(c t).length=size) (l:List T) (k j:Nat) (hk:k < l.length) (hj:j < size):(l.flatMap c)[k*size+j]?=(c l[k])[j]?:=by
 induction l generalizing k with
 |nil=> simp at hk
 |cons t l ih=>
  cases k with
  |zero=> simp only [List.flatMap_cons,Nat.zero_mul,Nat.zero_add];rw [List.getElem?_append_left (by rw [hc];exact hj)];rfl
  |succ k=>
   simp only [List.flatMap_cons]
   rw [List.getElem?_append_right (by rw [hc,Nat.succ_mul];omega)]
   have e1:(k+1)*size+j - (c t).length=k*size+j:=by rw [hc,Nat.succ_mul];omega
   rw [e1]
   exact ih k (by simpa using hk)
theorem flatMap_len {T:Type} (c:T→List Value) (size:Nat) (hc:∀t,(c t).length=size) (l:List T):(l.flatMap c).length=l.length*size:=by
 induction l with
 |nil=> simp
 |cons t l ih=> simp only [List.flatMap_cons,List.length_append,List.length_cons,hc,ih,Nat.succ_mul];omega
theorem choose_list {T:Type} (len:Nat) (p:Nat→T→Prop) (h:∀i,i < len→∃t,p i t):∃l:List T,l.length=len∧∀i (hi:i < l.length),p i l[i]:=by
 induction len with
 |zero=> exact ⟨[],rfl,fun i hi=> by simp at hi⟩
 |succ n ih=>
  obtain ⟨l,hl,hp⟩:=ih fun i hi=> h i (by omega)
  obtain ⟨t,ht⟩:=h n (by omega)
  refine ⟨l++ [t],by simp [hl],fun i hi=> ?_⟩
  by_cases hlt:i < l.length
  ·rw [List.getElem_append_left hlt];exact hp i hlt
  ·have:i=n:=by simp at hi;omega
   subst this
   rw [List.getElem_append_right (by omega)]
   simpa [hl] using ht
theorem flat_one {T:Type} (f:T→Value) (l:List T):l.flatMap (fun b=> [f b])=l.map f:=by
 induction l with
 |nil=> rfl
 |cons b l ih=> rw [List.flatMap_cons,ih];rfl
section
variable {H:Type} {enc:TypeId × Value→H} {P:Program} {w:World}
theorem open_list {T:Type} {t e:TypeId} {fuel size:Nat} {v:Value} {x:DataW H × List MemPlace} (ht:P.underlying t=some (.slice e)) (hC:P.cellsOf e=size) (hs:0 < size)
  (c:T→List Value) (Q:T→Prop) (hc:∀t,(c t).length=size) (h:DataW.trod enc P w 0 (fun _=> true) true fuel t [v]=some x)
  (hel:∀n cs' y,DataW.trod enc P w 0 (fun _=> true) true n e cs'=some y→∃t:T,cs'=c t∧Q t):
  ∃l:List T,Sl w w.heap.size size v l.length (l.flatMap c)∧∀t∈l,Q t:=by
 rcases open_slice ht h with ⟨h0,_⟩|⟨a,len,cap,m,n,D,Pl,hcs,_,hl,hm,hmm,_,hi⟩
 ·simp only [List.cons.injEq,and_true] at h0
  subst h0
  exact ⟨[],Sl.nil _ _ _,by simp⟩
 ·simp only [List.cons.injEq,and_true] at hcs
  subst hcs
  simp only [if_true] at hmm
  subst hmm
  have hex:∀i,i < len→∃t:T,w.cells? 0 (a.add (i*size)) size=some (c t)∧Q t:=by
   intro i hil
   obtain ⟨cs',h1,h2⟩:=hi i (by omega)
   rw [hC] at h1
   obtain ⟨t,rfl,hq⟩:=hel n cs' _ h2
   exact ⟨t,h1,hq⟩
  obtain ⟨l,hll,hp⟩:=choose_list len _ hex
  refine ⟨l,⟨flatMap_len c size hc l,some a,m,by rw [hll],by omega,hm,fun hpos=> ?_⟩,?_⟩
  ·obtain ⟨b,off,spot⟩:=a
   have hcell:∀i (hi:i < l.length) j,j < size→w.cell? ((⟨b,off,spot⟩:Addr).add (i*size+j))=(c l[i])[j]?:=by
    intro i hi j hj
    obtain ⟨_,_,hat⟩:=World.cells?_some (hp i hi).1
    have:=hat j hj
    rw [Go.Deep.add_add] at this
    exact this
   have h00:=hcell 0 hpos 0 hs
   rw [List.getElem?_eq_getElem (by rw [hc];exact hs)] at h00
   have hspot:spot=none:=by
    have:=World.cell?_spot h00
    simpa [Addr.add] using this
   subst hspot
   have hadd:∀i,(⟨b,off,none⟩:Addr).add i=⟨b,off+i,none⟩:=by intro i;unfold Addr.add;split <;> simp_all
   refine ⟨b,off,rfl,?_,?_⟩
   ·have:=World.block_lt_of_cell? w _ h00
    rw [hadd] at this
    exact this
   ·intro j u hu
    have hjl:j < l.length*size:=by
     have:=(List.getElem?_eq_some_iff.1 hu).1
     rwa [flatMap_len c size hc l] at this
    have hk:j / size < l.length:=Nat.div_lt_of_lt_mul (by rw [Nat.mul_comm];exact hjl)
    have hm':j % size < size:=Nat.mod_lt _ hs
    have e:j / size*size+j % size=j:=by rw [Nat.mul_comm];exact Nat.div_add_mod j size
    have h1:=hcell (j / size) hk (j % size) hm'
    rw [e,hadd] at h1
    rw [h1,←flatMap_at c size hc l (j / size) (j % size) hk hm',e]
    exact hu
  ·intro t ht'
   obtain ⟨i,hi,rfl⟩:=List.getElem_of_mem ht'
   exact (hp i hi).2
theorem wf_u8_bd {a:Int} (h:(Lit.int .u8 a).wf=true):0≤a∧a≤255:=by
 simpa [Lit.wf,IntKind.min,IntKind.max,IntKind.signed,IntKind.bits] using h
theorem trod_bytes {t e:TypeId} {fuel:Nat} {v:Value} {x:DataW H × List MemPlace} (ht:P.underlying t=some (.slice e)) (he:P.underlying e=some (.int .u8)) (hC:P.cellsOf e=1)
  (h:DataW.trod enc P w 0 (fun _=> true) true fuel t [v]=some x):∃l:List UInt8,SlB w w.heap.size v l:=by
 obtain ⟨l,hl,_⟩:=open_list ht hC (by omega) (fun b:UInt8=> [u8v b]) (fun _=> True) (fun _=> rfl) h (by
  intro n cs' y hy
  obtain ⟨z,rfl,_,hz⟩:=DataW.trod_int he hy
  obtain ⟨h0,h1⟩:=wf_u8_bd hz
  refine ⟨UInt8.ofNat z.toNat,?_,trivial⟩
  simp only [u8v,UInt8.toNat_ofNat']
  rw [show ((z.toNat % 2 ^ 8:Nat):Int)=z from by omega])
 refine ⟨l,?_⟩
 rw [flat_one] at hl
 exact hl
def InI64 (a:Int):Prop:= -9223372036854775808≤a∧a≤9223372036854775807
end
end Go.Proofs.YteldgdelmaeokaaDoor
namespace Go.Proofs.YteldgdelmaeokaaDoor
open Go.RowKit
theorem Tryd.info_u8:(Tryd.prog.info? 5).map (fun i=> (i.zero,i.size,i.bytes))=some (some (.int .u8 0),1,1):=by kernel_rfl
def Fresh (w:World) (E:TypeId) (size n:Nat) (xs:List Value) (e:Ending) (w':World):Prop:=
 ∃v,e= .returned v∧w'.ownsRow w.heap.size E size v n xs∧Below w.heap.size w w'
def Quiet (w:World) (v:Value) (e:Ending) (w':World):Prop:=e= .returned v∧∃n,w'=w.drewN n
theorem Quiet.below {w w':World} {v:Value} {e:Ending} (h:Quiet w v e w'):e= .returned v∧Below w.heap.size w w':=by
 obtain ⟨he,n,rfl⟩:=h
 exact ⟨he,below_drewN (Below.refl _ _) n⟩
def marks (k n:Nat):List UInt8:=(List.range n).map fun i=> UInt8.ofNat (k+i)
@[simp] theorem marks_length (k n:Nat):(marks k n).length=n:=by simp [marks]
theorem marks_at (k n i:Nat) (h:i < n):(marks k n)[i]'(by simpa using h)=UInt8.ofNat (k+i):=by simp [marks]
def marked (xs:List Value) (k j:Nat):List Value:=u8s (marks k j)++xs.drop j
end Go.Proofs.YteldgdelmaeokaaDoor
namespace Go.Proofs.YteldgdelmaeokaaDoor
open Go.ChangeShapes Go.WideShapes Go.ChangeAt Go.RowKit Go.Deep
inductive Val where
 |mk (n:Int) (b:List UInt8) (items:List Val)
inductive VM where
 |mk (n:Int) (b:List UInt8) (vb vi:Value) (items:List VM)
namespace Val
def n:Val→Int|mk n _ _=> n
def b:Val→List UInt8|mk _ b _=> b
def items:Val→List Val|mk _ _ l=> l
@[simp] theorem n_mk (n b l):(mk n b l).n=n:=rfl
@[simp] theorem b_mk (n b l):(mk n b l).b=b:=rfl
@[simp] theorem items_mk (n b l):(mk n b l).items=l:=rfl
end Val
namespace VM
def n:VM→Int|mk n _ _ _ _=> n
def b:VM→List UInt8|mk _ b _ _ _=> b
def vb:VM→Value|mk _ _ v _ _=> v
def vi:VM→Value|mk _ _ _ v _=> v
def items:VM→List VM|mk _ _ _ _ l=> l
@[simp] theorem n_mk (n b vb vi l):(mk n b vb vi l).n=n:=rfl
@[simp] theorem b_mk (n b vb vi l):(mk n b vb vi l).b=b:=rfl
@[simp] theorem vb_mk (n b vb vi l):(mk n b vb vi l).vb=vb:=rfl
@[simp] theorem vi_mk (n b vb vi l):(mk n b vb vi l).vi=vi:=rfl
@[simp] theorem items_mk (n b vb vi l):(mk n b vb vi l).items=l:=rfl
end VM
theorem Val.induct {P:Val→Prop} (h:∀n b l,(∀x∈l,P x)→P (.mk n b l)):∀x,P x
 | .mk n b l=> h n b l fun x _=> Val.induct h x
termination_by x=> SizeOf.sizeOf x
decreasing_by
 have:=List.sizeOf_lt_of_mem ‹_›
 simp only [Val.mk.sizeOf_spec]
 omega
theorem VM.induct {P:VM→Prop} (h:∀n b vb vi l,(∀x∈l,P x)→P (.mk n b vb vi l)):∀x,P x
 | .mk n b vb vi l=> h n b vb vi l fun x _=> VM.induct h x
termination_by x=> SizeOf.sizeOf x
decreasing_by
 have:=List.sizeOf_lt_of_mem ‹_›
 simp only [VM.mk.sizeOf_spec]
 omega
mutual
def VM.d:VM→Val
 | .mk n b _ _ l=> .mk n b (VM.ds l)
def VM.ds:List VM→List Val
 | []=> []
 |x::l=> x.d::VM.ds l
end
theorem VM.ds_map:∀l:List VM,VM.ds l=l.map VM.d
 | []=> by rw [VM.ds];rfl
 |x::l=> by rw [VM.ds,VM.ds_map l];rfl
theorem VM.d_mk (n:Int) (b:List UInt8) (vb vi:Value) (l:List VM):(VM.mk n b vb vi l).d= .mk n b (l.map VM.d):=by rw [VM.d,VM.ds_map]
@[simp] theorem VM.d_n (x:VM):x.d.n=x.n:=by cases x;rw [VM.d_mk];rfl
@[simp] theorem VM.d_b (x:VM):x.d.b=x.b:=by cases x;rw [VM.d_mk];rfl
@[simp] theorem VM.d_items (x:VM):x.d.items=x.items.map VM.d:=by cases x;rw [VM.d_mk];rfl
mutual
def Val.size:Val→Nat
 | .mk _ b l=> b.length+Val.sizes l
def Val.sizes:List Val→Nat
 | []=> 0
 |x::l=> 1+x.size+Val.sizes l
end
theorem Val.size_mk (n:Int) (b:List UInt8) (l:List Val):(Val.mk n b l).size=b.length+Val.sizes l:=by rw [Val.size]
theorem Val.sizes_nil:Val.sizes []=0:=by rw [Val.sizes]
theorem Val.sizes_cons (x:Val) (l:List Val):Val.sizes (x::l)=1+x.size+Val.sizes l:=by rw [Val.sizes]
theorem Val.sizes_append (l l':List Val):Val.sizes (l++l')=Val.sizes l+Val.sizes l':=by
 induction l with
 |nil=> simp [Val.sizes_nil]
 |cons x l ih=> rw [List.cons_append,Val.sizes_cons,Val.sizes_cons,ih];omega
theorem Val.length_le:∀l:List Val,l.length≤Val.sizes l
 | []=> Nat.zero_le _
 |x::l=> by have:=Val.length_le l;rw [Val.sizes_cons,List.length_cons];omega
theorem Val.size_le_of_mem {x:Val} {l:List Val} (h:x∈l):1+x.size≤Val.sizes l:=by
 induction l with
 |nil=> simp at h
 |cons y l ih=>
  rw [Val.sizes_cons]
  simp only [List.mem_cons] at h
  rcases h with rfl|h
  ·omega
  ·have:=ih h;omega
def vmCells (x:VM):List Value:= [.int .i64 x.n,x.vb,x.vi]
theorem vmCells_length (x:VM):(vmCells x).length=3:=rfl
def vmV (x:VM):Value:= .agg #[.int .i64 x.n,x.vb,x.vi]
inductive VM.rd (w:World) (B:Nat):VM→Prop
 |mk {n:Int} {b:List UInt8} {vb vi:Value} {l:List VM} (hb:SlB w B vb b) (hi:Sl w B 3 vi l.length (l.flatMap vmCells)) (hx:∀x∈l,VM.rd w B x):VM.rd w B (.mk n b vb vi l)
def SlV (w:World) (B:Nat) (v:Value) (l:List VM):Prop:=Sl w B 3 v l.length (l.flatMap vmCells)∧∀x∈l,x.rd w B
theorem VM.rd.bytes {w:World} {B:Nat} {x:VM} (h:x.rd w B):SlB w B x.vb x.b:=by cases h;assumption
theorem VM.rd.its {w:World} {B:Nat} {x:VM} (h:x.rd w B):SlV w B x.vi x.items:=by
 cases h with
 |mk hb hi hx=> exact ⟨hi,hx⟩
theorem VM.rd.of {w:World} {B:Nat} {x:VM} (hb:SlB w B x.vb x.b) (hi:SlV w B x.vi x.items):x.rd w B:=by
 cases x
 exact .mk hb hi.1 hi.2
theorem VM.rd.keep {w w':World} {B:Nat} {x:VM} (h:x.rd w B) (hk:∀b o,b < B→w'.cell? ⟨b,o,none⟩=w.cell? ⟨b,o,none⟩):x.rd w' B:=by
 induction h with
 |mk hb hi hx ih=> exact .mk (Sl.keep hb hk) (Sl.keep hi hk) ih
theorem VM.rd.bel {w w':World} {B:Nat} {x:VM} (h:x.rd w B) (hb:Below B w w'):x.rd w' B:=h.keep fun _ _ hp=> hb.cell (p:=⟨_,_,none⟩) hp
theorem VM.rd.more {w:World} {B B':Nat} {x:VM} (h:x.rd w B) (hB:B≤B'):x.rd w B':=by
 induction h with
 |mk hb hi hx ih=> exact .mk (hb.more hB) (hi.more hB) ih
theorem SlV.keep {w w':World} {B:Nat} {v:Value} {l:List VM} (h:SlV w B v l) (hk:∀b o,b < B→w'.cell? ⟨b,o,none⟩=w.cell? ⟨b,o,none⟩):SlV w' B v l:=⟨h.1.keep hk,fun x hx=> (h.2 x hx).keep hk⟩
theorem SlV.below {w w':World} {B:Nat} {v:Value} {l:List VM} (h:SlV w B v l) (hb:Below B w w'):SlV w' B v l:=⟨h.1.below hb,fun x hx=> (h.2 x hx).bel hb⟩
theorem SlV.more {w:World} {B B':Nat} {v:Value} {l:List VM} (h:SlV w B v l) (hB:B≤B'):SlV w B' v l:=⟨h.1.more hB,fun x hx=> (h.2 x hx).more hB⟩
theorem SlV.open_ {w:World} {B:Nat} {v:Value} {l:List VM} (h:SlV w B v l):∃A c,v= .slice A l.length c∧l.length≤c∧c≤maxLen∧
  (∀k (hk:k < l.length),∃b off,A=some ⟨b,off,none⟩∧b < B∧w.cell? ⟨b,off+k*3,none⟩=some (.int .i64 l[k].n)∧w.cell? ⟨b,off+k*3+1,none⟩=some l[k].vb∧w.cell? ⟨b,off+k*3+2,none⟩=some l[k].vi):=by
 obtain ⟨_,A,c,rfl,hc,hm,hr⟩:=h.1
 refine ⟨A,c,rfl,hc,hm,fun k hk=> ?_⟩
 obtain ⟨b,off,e,hb,hcell⟩:=hr (by omega)
 have hat:∀j u,j < 3→(vmCells l[k])[j]?=some u→w.cell? ⟨b,off+k*3+j,none⟩=some u:=fun j u hj hu=> by
  rw [Nat.add_assoc];exact hcell (k*3+j) u (by rw [flatMap_at vmCells 3 vmCells_length l k j hk hj];exact hu)
 exact ⟨b,off,e,hb,hat 0 _ (by omega) rfl,hat 1 _ (by omega) rfl,hat 2 _ (by omega) rfl⟩
theorem SlV.at_ {w:World} {B:Nat} {v:Value} {l:List VM} (h:SlV w B v l) (k:Nat) (hk:k < l.length):∃A1 c1 A2 c2,l[k].vb= .slice A1 l[k].b.length c1∧l[k].vi= .slice A2 l[k].items.length c2∧l[k].b.length≤maxLen∧l[k].items.length≤maxLen:=by
 have hr:=h.2 l[k] (List.getElem_mem hk)
 obtain ⟨A1,c1,e1,h1,h2, -⟩:=hr.bytes.open_
 obtain ⟨A2,c2,e2,h3,h4, -⟩:=hr.its.open_
 exact ⟨A1,c1,A2,c2,e1,e2,by omega,by omega⟩
inductive Val.ok:Val→Prop
 |mk {n:Int} {b:List UInt8} {l:List Val} (hn:InI64 n) (hl:∀x∈l,Val.ok x):Val.ok (.mk n b l)
theorem Val.ok.its {x:Val} (h:x.ok):∀y∈x.items,y.ok:=by cases h;assumption
section
variable {H:Type} {enc:TypeId × Value→H} {w:World}
end
end Go.Proofs.YteldgdelmaeokaaDoor
namespace Go.Proofs.YteldgdelmaeokaaDoor
open Go.RowKit
structure Out (lo hi:Nat) (w w':World):Prop where
 os:w'.os=w.os
 tape:w'.tape=w.tape
 output:w'.output=w.output
 size:w.heap.size≤w'.heap.size
 block:∀k,k < w.heap.size→(k < lo∨hi≤k)→w'.heap[k]?=w.heap[k]?
theorem Out.of_below {w w':World} (h:Below w.heap.size w w') (lo hi:Nat):Out lo hi w w':=⟨h.os,h.tape,h.output,h.size,fun k hk _=> h.block k hk⟩
theorem Out.of_grown {w w':World} {lo hi:Nat} {row:Option Nat} (h:w.grownBy w' row) (hr:∀k,row=some k→lo≤k∧k < hi):Out lo hi w w':=
 ⟨h.os,h.tape,h.output,h.size,fun k hk ho=> h.block k hk fun e=> by have:=hr k e.symm;omega⟩
theorem Out.trans {lo hi:Nat} {a b c:World} (h:Out lo hi a b) (k:Out lo hi b c):Out lo hi a c:=
 ⟨k.os.trans h.os,k.tape.trans h.tape,k.output.trans h.output,Nat.le_trans h.size k.size,fun i hi ho=> (k.block i (Nat.lt_of_lt_of_le hi h.size) ho).trans (h.block i hi ho)⟩
theorem Out.wide {lo hi lo' hi':Nat} {a b:World} (h:Out lo hi a b) (h1:lo'≤lo) (h2:hi≤hi'):Out lo' hi' a b:=
 ⟨h.os,h.tape,h.output,h.size,fun k hk ho=> h.block k hk (by omega)⟩
theorem Out.below {lo hi:Nat} {w a b:World} (h:Out lo hi a b) (hb:Below w.heap.size w a) (hlo:w.heap.size≤lo):Below w.heap.size w b:=
 hb.trans ⟨h.os,h.tape,h.output,h.size,fun k hk=> h.block k (Nat.lt_of_lt_of_le hk hb.size) (.inl (by omega))⟩
theorem Out.cell {lo hi:Nat} {w w':World} (h:Out lo hi w w') {p:Addr} {v:Value} (hc:w.cell? p=some v) (hp:p.block < lo∨hi≤p.block):w'.cell? p=some v:=
 (World.cell?_of_block (w:=w) (h.block p.block (World.block_lt_of_cell? _ _ hc) hp)).trans hc
def Row (lo hi:Nat) (E:TypeId) (size:Nat) (n:Nat) (xs:List Value) (w:World) (v:Value):Prop:=
 w.ownsRow lo E size v n xs∧∀k,v.ownBlock=some k→k < hi
theorem Row.keep {lo hi lo' hi':Nat} {E:TypeId} {size n:Nat} {xs:List Value} {w w':World} {v:Value} (h:Row lo hi E size n xs w v) (ho:Out lo' hi' w w') (hd:hi≤lo'∨hi'≤lo):Row lo hi E size n xs w' v:=by
 refine ⟨⟨h.1.1,?_⟩,h.2⟩
 rcases h.1.2 with hn|⟨g,cap,cur,rfl,hbb,hg,rest⟩
 ·exact .inl hn
 ·have hlt:g < hi:=h.2 g rfl
  exact .inr ⟨g,cap,cur,rfl,hbb,by rw [ho.block g (Array.getElem?_eq_some_iff.1 hg).1 (by omega)];exact hg,rest⟩
theorem Row.sl {lo hi:Nat} {E:TypeId} {size n:Nat} {xs:List Value} {w:World} {v:Value} (h:Row lo hi E size n xs w v):Sl w w.heap.size size v n xs:=Sl.of_own h.1
def Made (P:Nat→Nat→World→Value→Prop) (w:World) (e:Ending) (w':World):Prop:=
 ∃v,e= .returned v∧P w.heap.size w'.heap.size w' v∧Below w.heap.size w w'
theorem Fresh.made {w w':World} {E:TypeId} {size n:Nat} {xs:List Value} {e:Ending} (h:Fresh w E size n xs e w'):Made (fun lo hi=> Row lo hi E size n xs) w e w':=by
 obtain ⟨v,he,ho,hb⟩:=h
 exact ⟨v,he,⟨ho,fun k hk=> (ho.lt k hk).2⟩,hb⟩
theorem cell_keep {B:Nat} {w w':World} {b o:Nat} {v:Value} (hc:w.cell? ⟨b,o,none⟩=some v) (h:Below B w w') (hB:b < B):w'.cell? ⟨b,o,none⟩=some v:=(h.cell (p:=⟨b,o,none⟩) hB).trans hc
theorem row_slice {lo hi:Nat} {E:TypeId} {size n:Nat} {xs:List Value} {w:World} {v:Value} (h:Row lo hi E size n xs w v):∃A c,v= .slice A n c:=by
 rcases h.1.2 with ⟨rfl,rfl⟩|⟨g,cap,cur,rfl,_⟩
 ·exact ⟨none,0,rfl⟩
 ·exact ⟨_,_,rfl⟩
theorem Out.refl (lo hi:Nat) (w:World):Out lo hi w w:=⟨rfl,rfl,rfl,Nat.le_refl _,fun _ _ _=> rfl⟩
theorem Out.setCell {lo hi:Nat} {a w:World} (h:Out lo hi a w) {b o:Nat} (h1:lo≤b) (h2:b < hi) (u:Value):Out lo hi a (w.setCell ⟨b,o,none⟩ u):=
 h.trans (Out.of_grown (grownBy_setCell w b o u) fun g hg=> by cases hg;exact ⟨h1,h2⟩)
theorem Out.drew {lo hi:Nat} {a w:World} (h:Out lo hi a w):Out lo hi a w.drew:=⟨h.os,h.tape,h.output,h.size,h.block⟩
theorem Row.wide {lo hi lo' hi':Nat} {E:TypeId} {size n:Nat} {xs:List Value} {w:World} {v:Value} (h:Row lo hi E size n xs w v) (h1:lo'≤lo) (h2:hi≤hi'):Row lo' hi' E size n xs w v:=
 ⟨own_base h.1 h1,fun k hk=> Nat.lt_of_lt_of_le (h.2 k hk) h2⟩
end Go.Proofs.YteldgdelmaeokaaDoor
namespace Go.Proofs.YteldgdelmaeokaaDoor
open Go.RowKit
def OwB (l:List UInt8) (lo hi:Nat) (w:World) (v:Value):Prop:=Row lo hi 5 1 l.length (u8s l) w v
theorem OwB.keep {l:List UInt8} {lo hi lo' hi':Nat} {w w':World} {v:Value} (h:OwB l lo hi w v) (ho:Out lo' hi' w w') (hd:hi≤lo'∨hi'≤lo):OwB l lo hi w' v:=Row.keep h ho hd
theorem OwB.sl {l:List UInt8} {lo hi:Nat} {w:World} {v:Value} (h:OwB l lo hi w v):SlB w w.heap.size v l:=Row.sl h
theorem SlB.len {w:World} {B:Nat} {v:Value} {l:List UInt8} (h:SlB w B v l):l.length≤9223372036854775807:=by
 obtain ⟨A,c,_,hc,hm,_⟩:=h.open_
 unfold maxLen at hm;omega
def MkB (n:Nat) (lo hi:Nat) (w:World) (v:Value) (k r:Int):Prop:=∃j:Nat,k=j∧r=k+n∧n≤4194304∧j≤1125899906842624∧Row lo hi 5 1 n (u8s (marks j n)) w v
theorem MkB.keep {n:Nat} {lo hi lo' hi':Nat} {w w':World} {v:Value} {k r:Int} (h:MkB n lo hi w v k r) (ho:Out lo' hi' w w') (hd:hi≤lo'∨hi'≤lo):MkB n lo hi w' v k r:=by
 obtain ⟨j,h1,h2,h3,h4,h6⟩:=h
 exact ⟨j,h1,h2,h3,h4,h6.keep ho hd⟩
end Go.Proofs.YteldgdelmaeokaaDoor
namespace Go.Proofs.YteldgdelmaeokaaDoor
open Go.RowKit
mutual
def VM.bks:VM→List Nat
 | .mk _ _ vb vi l=> vb.ownBlock.toList++(vi.ownBlock.toList++VM.bkss l)
def VM.bkss:List VM→List Nat
 | []=> []
 |x::l=> x.bks++VM.bkss l
end
theorem VM.bks_mk (n:Int) (b:List UInt8) (vb vi:Value) (l:List VM):(VM.mk n b vb vi l).bks=vb.ownBlock.toList++(vi.ownBlock.toList++VM.bkss l):=by rw [VM.bks]
theorem VM.bkss_nil:VM.bkss []= []:=by rw [VM.bkss]
theorem VM.bkss_cons (x:VM) (l:List VM):VM.bkss (x::l)=x.bks++VM.bkss l:=by rw [VM.bkss]
theorem VM.bkss_append (l l':List VM):VM.bkss (l++l')=VM.bkss l++VM.bkss l':=by
 induction l with
 |nil=> rw [VM.bkss_nil];rfl
 |cons x l ih=> rw [List.cons_append,VM.bkss_cons,VM.bkss_cons,ih,List.append_assoc]
theorem VM.mem_bkss {x:VM} {l:List VM} (h:x∈l) {g:Nat} (hg:g∈x.bks):g∈VM.bkss l:=by
 induction l with
 |nil=> simp at h
 |cons y l ih=>
  rw [VM.bkss_cons,List.mem_append]
  simp only [List.mem_cons] at h
  rcases h with rfl|h
  ·exact .inl hg
  ·exact .inr (ih h)
inductive VM.own (lo:Nat) (w:World):VM→Prop
 |mk {n:Int} {b:List UInt8} {vb vi:Value} {l:List VM} (hb:w.ownsRow lo 5 1 vb b.length (u8s b)) (hi:w.ownsRow lo 29 3 vi l.length (l.flatMap vmCells)) (hx:∀x∈l,VM.own lo w x):VM.own lo w (.mk n b vb vi l)
theorem own_row_keep {w w':World} {base:Nat} {E:TypeId} {size n:Nat} {v:Value} {xs:List Value} (h:w.ownsRow base E size v n xs) (hk:∀g,v.ownBlock=some g→w'.heap[g]?=w.heap[g]?):w'.ownsRow base E size v n xs:=by
 refine ⟨h.1,?_⟩
 rcases h.2 with hn|⟨g,cap,cur,rfl,hbb,hg,rest⟩
 ·exact .inl hn
 ·exact .inr ⟨g,cap,cur,rfl,hbb,by rw [hk g rfl];exact hg,rest⟩
theorem VM.own.bytes {lo:Nat} {w:World} {x:VM} (h:x.own lo w):w.ownsRow lo 5 1 x.vb x.b.length (u8s x.b):=by cases h;assumption
theorem VM.own.row {lo:Nat} {w:World} {x:VM} (h:x.own lo w):w.ownsRow lo 29 3 x.vi x.items.length (x.items.flatMap vmCells):=by cases h;assumption
theorem VM.own.its {lo:Nat} {w:World} {x:VM} (h:x.own lo w):∀y∈x.items,y.own lo w:=by cases h;assumption
theorem VM.own.keep {lo:Nat} {w w':World} {x:VM} (h:x.own lo w) (hk:∀g∈x.bks,w'.heap[g]?=w.heap[g]?):x.own lo w':=by
 induction h with
 |mk hb hi hx ih=>
  rw [VM.bks_mk] at hk
  refine .mk (own_row_keep hb fun g hg=> hk g ?_) (own_row_keep hi fun g hg=> hk g ?_) fun y hy=> ih y hy fun g hg=> hk g ?_
  ·simp [hg]
  ·simp [hg]
  ·simp only [List.mem_append];exact .inr (.inr (VM.mem_bkss hy hg))
theorem VM.own.rd {lo:Nat} {w:World} {x:VM} (h:x.own lo w):x.rd w w.heap.size:=by
 induction h with
 |mk hb hi hx ih=> exact .mk (Sl.of_own hb) (Sl.of_own hi) ih
theorem VM.own.base {lo lo':Nat} {w:World} {x:VM} (h:x.own lo w) (hl:lo'≤lo):x.own lo' w:=by
 induction h with
 |mk hb hi hx ih=> exact .mk (own_base hb hl) (own_base hi hl) ih
theorem VM.own.lt {lo:Nat} {w:World} {x:VM} (h:x.own lo w):∀g∈x.bks,lo≤g∧g < w.heap.size:=by
 induction h with
 | @mk n b vb vi l hb hi hx ih=>
  intro g hg
  rw [VM.bks_mk] at hg
  simp only [List.mem_append,Option.mem_toList] at hg
  rcases hg with hg|hg|hg
  ·exact hb.lt g hg
  ·exact hi.lt g hg
  ·have:∀l':List VM,(∀y∈l',y∈l)→g∈VM.bkss l'→lo≤g∧g < w.heap.size:=by
    intro l'
    induction l' with
    |nil=> intro _ h;rw [VM.bkss_nil] at h;simp at h
    |cons y l' ih'=>
     intro hs h
     rw [VM.bkss_cons,List.mem_append] at h
     rcases h with h|h
     ·exact ih y (hs y (by simp)) g h
     ·exact ih' (fun z hz=> hs z (by simp [hz])) h
   exact this l (fun y hy=> hy) hg
structure OwVs (l:List VM) (lo hi:Nat) (w:World):Prop where
 own:∀x∈l,x.own lo w
 nd:(VM.bkss l).Nodup
 rng:∀g∈VM.bkss l,lo≤g∧g < hi
structure OwV1 (x:VM) (lo hi:Nat) (w:World):Prop where
 own:x.own lo w
 nd:x.bks.Nodup
 rng:∀g∈x.bks,lo≤g∧g < hi
theorem OwV1.keep {x:VM} {lo hi lo' hi':Nat} {w w':World} (h:OwV1 x lo hi w) (ho:Out lo' hi' w w') (hd:hi≤lo'∨hi'≤lo):OwV1 x lo hi w':=
 ⟨h.own.keep fun g hg=> ho.block g (h.own.lt g hg).2 (by have:=h.rng g hg;omega),h.nd,h.rng⟩
theorem OwVs.keep {l:List VM} {lo hi lo' hi':Nat} {w w':World} (h:OwVs l lo hi w) (ho:Out lo' hi' w w') (hd:hi≤lo'∨hi'≤lo):OwVs l lo hi w':=
 ⟨fun x hx=> (h.own x hx).keep fun g hg=> ho.block g ((h.own x hx).lt g hg).2 (by have:=h.rng g (VM.mem_bkss hx hg);omega),h.nd,h.rng⟩
theorem OwV1.wide {x:VM} {lo hi lo' hi':Nat} {w:World} (h:OwV1 x lo hi w) (h1:lo'≤lo) (h2:hi≤hi'):OwV1 x lo' hi' w:=
 ⟨h.own.base h1,h.nd,fun g hg=> by have:=h.rng g hg;omega⟩
theorem OwVs.wide {l:List VM} {lo hi lo' hi':Nat} {w:World} (h:OwVs l lo hi w) (h1:lo'≤lo) (h2:hi≤hi'):OwVs l lo' hi' w:=
 ⟨fun x hx=> (h.own x hx).base h1,h.nd,fun g hg=> by have:=h.rng g hg;omega⟩
theorem OwVs.nil (lo hi:Nat) (w:World):OwVs [] lo hi w:=⟨by simp,by rw [VM.bkss_nil];exact List.nodup_nil,by rw [VM.bkss_nil];simp⟩
theorem OwVs.snoc {l:List VM} {x:VM} {lo m m' hi:Nat} {w:World} (h:OwVs l lo m w) (hx:OwV1 x m' hi w) (h1:m≤m') (h2:lo≤m') (h3:m'≤hi):OwVs (l++ [x]) lo hi w:=by
 refine ⟨fun y hy=> ?_,?_,fun g hg=> ?_⟩
 ·simp only [List.mem_append,List.mem_singleton] at hy
  rcases hy with hy|rfl
  ·exact h.own y hy
  ·exact hx.own.base h2
 ·rw [VM.bkss_append,VM.bkss_cons,VM.bkss_nil,List.append_nil,List.nodup_append]
  refine ⟨h.nd,hx.nd,fun a ha b hb e=> ?_⟩
  have:=h.rng a ha
  have:=hx.rng b hb
  omega
 ·rw [VM.bkss_append,VM.bkss_cons,VM.bkss_nil,List.append_nil,List.mem_append] at hg
  rcases hg with hg|hg
  ·have:=h.rng g hg;omega
  ·have:=hx.rng g hg;omega
theorem OwV1.of {n:Int} {b:List UInt8} {vb vi:Value} {l:List VM} {lo m1 m2 m3 hi:Nat} {w:World} (hb:Row lo m1 5 1 b.length (u8s b) w vb)
  (hi':Row m1 m2 29 3 l.length (l.flatMap vmCells) w vi) (hl:OwVs l m2 m3 w) (h1:lo≤m1) (h2:m1≤m2) (h3:m2≤m3) (h4:m3≤hi):OwV1 (.mk n b vb vi l) lo hi w:=by
 have q1:∀g∈vb.ownBlock.toList,lo≤g∧g < m1:=fun g hg=> ⟨(hb.1.lt g (Option.mem_toList.1 hg)).1,hb.2 g (Option.mem_toList.1 hg)⟩
 have q2:∀g∈vi.ownBlock.toList,m1≤g∧g < m2:=fun g hg=> ⟨(hi'.1.lt g (Option.mem_toList.1 hg)).1,hi'.2 g (Option.mem_toList.1 hg)⟩
 refine ⟨.mk hb.1 (own_base hi'.1 h1) fun x hx=> (hl.own x hx).base (by omega),?_,fun g hg=> ?_⟩
 ·rw [VM.bks_mk,List.nodup_append]
  refine ⟨by cases vb.ownBlock <;> simp,?_,fun a ha c hc e=> ?_⟩
  ·rw [List.nodup_append]
   refine ⟨by cases vi.ownBlock <;> simp,hl.nd,fun a ha c hc e=> ?_⟩
   have:=q2 a ha
   have:=hl.rng c hc
   omega
  ·have:=q1 a ha
   rw [List.mem_append] at hc
   rcases hc with hc|hc
   ·have:=q2 c hc;omega
   ·have:=hl.rng c hc;omega
 ·rw [VM.bks_mk] at hg
  simp only [List.mem_append] at hg
  rcases hg with hg|hg|hg
  ·have:=q1 g hg;omega
  ·have:=q2 g hg;omega
  ·have:=hl.rng g hg;omega
def OwV (X:Val) (lo hi:Nat) (w:World) (v:Value):Prop:=∃x:VM,x.d=X∧v=vmV x∧OwV1 x lo hi w
theorem OwV.keep {X:Val} {lo hi lo' hi':Nat} {w w':World} {v:Value} (h:OwV X lo hi w v) (ho:Out lo' hi' w w') (hd:hi≤lo'∨hi'≤lo):OwV X lo hi w' v:=by
 obtain ⟨x,h1,h2,h3⟩:=h
 exact ⟨x,h1,h2,h3.keep ho hd⟩
theorem OwV.wide {X:Val} {lo hi lo' hi':Nat} {w:World} {v:Value} (h:OwV X lo hi w v) (h1:lo'≤lo) (h2:hi≤hi'):OwV X lo' hi' w v:=by
 obtain ⟨x,a,b,c⟩:=h
 exact ⟨x,a,b,c.wide h1 h2⟩
theorem OwV.rd {X:Val} {lo hi:Nat} {w:World} {v:Value} (h:OwV X lo hi w v):∃x:VM,x.d=X∧v=vmV x∧x.rd w w.heap.size:=by
 obtain ⟨x,h1,h2,h3⟩:=h
 exact ⟨x,h1,h2,h3.own.rd⟩
theorem own_slice {w:World} {base:Nat} {E:TypeId} {size n:Nat} {v:Value} {xs:List Value} (h:w.ownsRow base E size v n xs):∃A c,v= .slice A n c:=by
 rcases h.2 with ⟨rfl,rfl⟩|⟨g,cap,cur,rfl,_⟩
 ·exact ⟨none,0,rfl⟩
 ·exact ⟨_,_,rfl⟩
mutual
def VM.mkd:VM→Nat→VM
 | .mk n b vb vi l,k=> .mk n (marks k b.length) vb vi (VM.mks l (k+b.length))
def VM.mks:List VM→Nat→List VM
 | [],_=> []
 | .mk _ b vb vi l'::l,k=> .mk k (marks (k+1) b.length) vb vi (VM.mks l' (k+1+b.length))::VM.mks l (k+1+(b.length+Val.sizes (VM.ds l')))
end
end Go.Proofs.YteldgdelmaeokaaDoor
namespace Go.Proofs.YteldgdelmaeokaaDoor
open Go.ChangeShapes Go.WideShapes Go.ChangeAt Go.RowKit
open Go.ChangeMaps (open_string shut_string)
theorem own:ownKnob Tryd.prog.godebug=none:=by kernel_rfl
theorem laidOut:laidOutB Tryd.prog=true:=by kernel_rfl
theorem trodAll_below {H:Type} {enc:TypeId × Value→H} {P:Program} (hl:laidOutB P=true) {W W':World} (hb:Below W.heap.size W W'):
  ∀(ts:List TypeId) (vs:List Value) (ds:List (DataW H)) (ps:List MemPlace),(ts.all fun t=> P.readableRec t && decide (t < P.types.size))=true→(∀x∈ps,x.block < W.heap.size)→
  DataW.TrodAll enc P W 0 (fun _=> true) true ts vs ds ps→DataW.TrodAll enc P W' 0 (fun b=> decide (b < W.heap.size)) true ts vs ds ps:=by
 intro ts
 induction ts with
 |nil=> intro vs ds ps _ _ h;cases vs <;> cases ds <;> exact h
 |cons t ts ih=>
  intro vs ds ps hr hp h
  cases vs with
  |nil=> simp [DataW.TrodAll] at h
  |cons v vs=>
   cases ds with
   |nil=> simp [DataW.TrodAll] at h
   |cons d ds=>
    obtain ⟨p,q,h1,h2,rfl⟩:=h
    simp only [List.all_cons,Bool.and_eq_true,decide_eq_true_eq] at hr
    refine ⟨p,q,Below.trod hl hr.1.1 hr.1.2 h1 hb (fun x hx=> hp x (by simp [hx])),ih vs ds q ?_ (fun x hx=> hp x (by simp [hx])) h2,rfl⟩
    simpa using hr.2
theorem trodAll_lt {H:Type} {enc:TypeId × Value→H} {P:Program} {W:World}:
  ∀(ts:List TypeId) (vs:List Value) (ds:List (DataW H)) (ps:List MemPlace),
  DataW.TrodAll enc P W 0 (fun _=> true) true ts vs ds ps→∀x∈ps,x.block < W.heap.size:=by
 intro ts
 induction ts with
 |nil=>
  intro vs ds ps h x hx
  cases vs <;> cases ds <;> simp [DataW.TrodAll] at h
  subst h;simp at hx
 |cons t ts ih=>
  intro vs ds ps h x hx
  cases vs with
  |nil=> simp [DataW.TrodAll] at h
  |cons v vs=>
   cases ds with
   |nil=> simp [DataW.TrodAll] at h
   |cons d ds=>
    obtain ⟨p,q,⟨m,hm⟩,h2,rfl⟩:=h
    simp only [List.mem_append] at hx
    rcases hx with hx|hx
    ·exact DataW.trod_lt m _ _ _ hm x hx
    ·exact ih vs ds q h2 x hx
end Go.Proofs.YteldgdelmaeokaaDoor
namespace Go.Proofs.YteldgdelmaeokaaDoor
open Go.ChangeShapes Go.WideShapes Go.ChangeAt Go.RowKit
def laid3 : List (String × DataW Unit) := [("math/bits.deBruijn32tab", Rows.laid_math_bits_deBruijn32tab), ("math/bits.deBruijn64tab", Rows.laid_math_bits_deBruijn64tab), ("internal/strconv.uint64pow10", Rows.laid_internal_strconv_uint64pow10)]
abbrev Tab (w : World) : Prop := Lib.TabBelow Tryd.prog w.heap.size w "internal/strconv.uint64pow10" .u64 Lib.pow10Tab
theorem tab_on {w W:World} (ht:Tab w) (h:Below w.heap.size w W):Tab W:=fun w' hb=> ht.on h w' (hb.mono h.size)
theorem gTab : Tryd.prog.globalNamed "internal/strconv.uint64pow10" = some 0 := by kernel_rfl
theorem gTabType:(Tryd.prog.globals[0]?).map (·.type)=some 159:=by kernel_rfl
theorem tab_of_laid {W:World} (h:laidMetH Tryd.prog laid3 W):Tab W:=by
 refine Lib.tabBelow_of_tabIs ?_
 rw [MakeChecks.laidMetH_plain _ _ _ (by kernel_rfl)] at h
 obtain ⟨ps,⟨g0,t0,cs0,f0,p0,q0,hg0,ht0,hv0,hd0,⟨g1,t1,cs1,f1,p1,q1,hg1,ht1,hv1,hd1,⟨g2,t2,cs2,f2,p2,q2,hg2,ht2,hv2,hd2,_,_⟩,_⟩,_⟩,_,_⟩:=h
 obtain rfl:=Option.some.inj (gTab.symm.trans hg2)
 obtain rfl:=Option.some.inj (gTabType.symm.trans ht2)
 have hd:DataW.trod _ Tryd.prog W 0 (fun _=> true) false f2 159 cs2.toList=some (Lib.tabData .u64 Lib.pow10Tab,p2):=hd2
 unfold Lib.TabIs
 rw [hv2,←Lib.cells_of_tab Tryd.underlying159 Tryd.underlying152 (by kernel_rfl) (by kernel_rfl) hd]
theorem door_met (os:Os) (args:Array Value):laidMetH Tryd.prog laid3 ((World.doorLaid Tryd.prog 400 os).forCall (fun _ _=> 0) ⟨#[],args, []⟩).memory:=
 laidMetH_of_parts3 (fuel:=8) (laidMet_of_run' 8 (by kernel_rfl) (by kernel_rfl)) (by kernel_rfl) (by kernel_rfl)
set_option maxRecDepth 100000 in
theorem liftD {F:Nat} {fn:Func} {s:ChangeSpec} {conds:List PathCond} (os:Os) (started:os.Started) (H:Type) (enc:TypeId × Value→H)
  (noInit:Tryd.checked.prog.inits.idxOf? F=none) (hfn:Tryd.checked.prog.funcs[F]?=some fn)
  (witness:∃(w:World) (tape:Tape) (i:Input),w.os=os∧(w.forCall tape i).Shaped Tryd.checked.prog∧i.vars= []∧Input.okWide Tryd.checked.prog (w.forCall tape i) .any w.heap.size F i∧
    ((s.pre enc Tryd.checked.prog fn conds false (w.forCall tape i).memory i.args∧laidMetH Tryd.prog laid3 (w.forCall tape i).memory)∧sizedMet enc Tryd.checked.prog fn (OpenSpec.ofChange s) false (w.forCall tape i).memory i.args)∧
    ({}:Assume).holds Tryd.checked.prog (lone (Frame.enter Tryd.checked.prog F i.args .normal) [] (w.forCall tape i)))
  (hvars:s.vars= []) (hres:fn.resultTypes= #[4])
  (hread:(fn.params.toList.all fun t=> Tryd.prog.readableRec t && decide (t < Tryd.prog.types.size))=true)
  (hspec:∀(vs:List Value) (W:World) (ds:List (DataW H)) (p:List MemPlace),DataW.TrodAll enc Tryd.prog W 0 (fun _=> true) true fn.params.toList vs ds p→s.fn H ds={ results:= [.lit (.bool true)],args:=ds })
  (walk:∀(W:World) (base:Nat) (args:Array Value) (ds:List (DataW H)) (p:List MemPlace),
    (∀(j:Nat) t v,fn.params[j]?=some t→args[j]?=some v→Value.okWide Tryd.prog W .any base t v)→
    DataW.TrodAll enc Tryd.prog W 0 (fun _=> true) true fn.params.toList args.toList ds p→Tab W→
    Calls Tryd.prog F args W fun e w'=> e= .returned (.bool true)∧Below W.heap.size W w'):
  ReturnsInHanded {} Tryd.checked os F .any (fun w args=> (s.pre enc Tryd.checked.prog fn conds false w args∧laidMetH Tryd.prog laid3 w)∧sizedMet enc Tryd.checked.prog fn (OpenSpec.ofChange s) false w args) (s.post enc Tryd.checked.prog fn false true false false):=by
 refine returnsInHanded_of_change_and (C:=Tryd.checked) (X:=fun w _=> laidMetH Tryd.prog laid3 w) (fun _ _ _ hh h=> h.of_heap hh) own started noInit hfn witness ?_
 intro W base args ds gs before hval0 hW hcnd _ hL _
 have hW':=hW
 obtain ⟨p,q,hA0,hV,rfl,hfz,hnd⟩:=hW
 have hA:DataW.TrodAll enc Tryd.prog W 0 (fun _=> true) true fn.params.toList args.toList ds p:=hA0
 have hval:∀(j:Nat) t v,fn.params[j]?=some t→args[j]?=some v→Value.okWide Tryd.prog W .any base t v:=hval0
 rw [hvars] at hV
 obtain ⟨rfl,rfl⟩:=trodVars_none hV
 refine (walk W base args ds p hval hA (tab_of_laid hL)).mono fun e W' ⟨he,bel⟩=> ?_
 subst he
 have hs:=hspec _ _ _ _ hA
 refine ⟨_,rfl,ds, [],p++ [], [],p, [],hW',?_,?_,?_,bel.frame _,fun h=> by cases h⟩
 ·rw [hres]
  have e1:(s.fn H (ds++ [])).results= [.lit (.bool true)]:=by rw [List.append_nil,hs]
  rw [e1]
  exact trodAll_mk1 (shut_bool Tryd.underlying4 _)
 ·have e2:(s.fn H (ds++ [])).args=ds:=by rw [List.append_nil,hs]
  rw [e2]
  have hb:=trodAll_below (enc:=enc) laidOut bel _ _ _ _ hread (trodAll_lt _ _ _ _ hA) hA
  exact hb
 ·have e3:(s.fn H (ds++ [])).vars= []:=by rw [List.append_nil,hs]
  rw [e3,hvars]
  rfl
end Go.Proofs.YteldgdelmaeokaaDoor
namespace Go.Proofs.YteldgdelmaeokaaDoor
open Go.RowKit
def inB (x a b:Int):Bool:=decide (a≤x) && decide (x≤b)
theorem inB_true {x a b:Int} (h:a≤x) (h':x≤b):inB x a b=true:=by simp [inB,h,h']
theorem inB_false {x a b:Int} (h:x < a∨b < x):inB x a b=false:=by
 simp only [inB,Bool.and_eq_false_iff,decide_eq_false_iff_not];omega
theorem inB_iff {x a b:Int}:inB x a b=true↔a≤x∧x≤b:=by simp [inB]
theorem l1In_any (x a b:Int) (w:World):Calls Tryd.prog 53 #[.int .i64 x, .int .i64 a, .int .i64 b] w fun e w'=> e= .returned (.bool (inB x a b))∧w=w':=by
 by_cases h:a≤x
 ·by_cases h2:x≤b
  ·have H:=Lib.hid (inB_true h h2)
   go_enter Tryd.func53,Tryd.ntmps53
   go_wp2
   go_ret
   exact ⟨ret_bool (by rw [H.out];try simp [h2]),rfl⟩
  ·have H:=Lib.hid (inB_false (x:=x) (a:=a) (b:=b) (by omega))
   have h4:decide (x≤b)=false:=by simpa using h2
   go_enter Tryd.func53,Tryd.ntmps53
   go_wp2
   go_ret
   exact ⟨ret_bool (by rw [H.out]),rfl⟩
 ·have H:=Lib.hid (inB_false (x:=x) (a:=a) (b:=b) (by omega))
  have h3:decide (a≤x)=false:=by simpa using h
  go_enter Tryd.func53,Tryd.ntmps53
  go_wp2
  go_ret
  exact ⟨ret_bool (by rw [H.out]),rfl⟩
theorem specMin_any (a b:Int) (w:World):Calls Tryd.prog 69 #[.int .i64 a, .int .i64 b] w fun e w'=> e= .returned (.int .i64 (min a b))∧w=w':=by
 by_cases h:b < a
 ·have H:=Lib.hid (show min a b=b by omega)
  go_enter Tryd.func69,Tryd.ntmps69
  go_wp2
  go_ret
  exact ⟨ret_int H.out.symm,rfl⟩
 ·have H:=Lib.hid (show min a b=a by omega)
  go_enter Tryd.func69,Tryd.ntmps69
  go_wp2
  go_ret
  exact ⟨ret_int H.out.symm,rfl⟩
end Go.Proofs.YteldgdelmaeokaaDoor
namespace Go.Proofs.YteldgdelmaeokaaDoor
def digs (n:Nat):List UInt8:=if h:n=0 then [] else digs (n / 10)++ [UInt8.ofNat (48+n % 10)]
termination_by n
decreasing_by omega
theorem digs_zero:digs 0= []:=by rw [digs];simp
theorem digs_pos {n:Nat} (h:n≠0):digs n=digs (n / 10)++ [UInt8.ofNat (48+n % 10)]:=by rw [digs,dif_neg h]
def isDig (c:UInt8):Bool:=decide (48≤c.toNat) && decide (c.toNat≤57)
theorem digit_ofNat (m:Nat) (h:m < 10):(UInt8.ofNat (48+m)).toNat=48+m:=by simp;omega
theorem isDig_iff (c:UInt8):isDig c=true↔48≤c.toNat∧c.toNat≤57:=by simp [isDig]
def fmtI (n:Int):List UInt8:=if n=0 then [48] else if n < 0 then 45::digs n.natAbs else digs n.natAbs
theorem digs_length (n k:Nat) (h:n < 10 ^ k):(digs n).length≤k:=by
 induction k generalizing n with
 |zero=> have:n=0:=by simpa using h
         subst this;rw [digs_zero];simp
 |succ k ih=>
  by_cases h0:n=0
  ·subst h0;rw [digs_zero];simp
  ·rw [digs_pos h0,List.length_append]
   have:=ih (n / 10) (by rw [Nat.pow_succ] at h;omega)
   simp;omega
end Go.Proofs.YteldgdelmaeokaaDoor
namespace Go.Proofs.YteldgdelmaeokaaDoor
open Go.RowKit
def str (l:List UInt8):ByteArray:=⟨l.toArray⟩
theorem str_size (l:List UInt8):(str l).size=l.length:=by simp [str,ByteArray.size]
def dch (m:Nat):UInt8:=UInt8.ofNat (48+m)
theorem dch_size (m:Nat):(str [dch m]).size=1:=by rw [str_size];rfl
theorem str_cons (c:UInt8) (S:List UInt8):str [c]++str S=str (c::S):=by
 unfold str;rw [ByteArray.mk_append_mk];rfl
theorem digs_cons (m:Nat) (h:m≠0) (S:List UInt8):digs m++S=digs (m / 10)++(dch (m % 10)::S):=by
 rw [digs_pos h];simp [dch]
theorem conv_one (W:World) (z:Int) (d:Nat) (h:z=48+(d:Int)) (hd:d < 10):
  (convert 22 9 (.slice (some ⟨W.heap.size,0,none⟩) 1 1)).run Tryd.prog (W.alloc (.cells #[.int .u8 z] 5))= .ok (.string (str [dch d])) (W.alloc (.cells #[.int .u8 z] 5)):=by
 subst h
 refine run_convert_bytes_back (P:=Tryd.prog) _ 22 9 5 ⟨W.heap.size,0,none⟩ 1 [UInt8.ofNat (48+d)] Tryd.underlying22 Tryd.underlying5 Tryd.underlying9 ?_
 intro j hj
 obtain rfl:j=0:=by simpa using hj
 have e:(([UInt8.ofNat (48+d)][0]'hj).toNat:Int)=48+(d:Int):=by
  show ((UInt8.ofNat (48+d)).toNat:Int)=_
  rw [digit_ofNat _ hd];omega
 rw [e]
 simp [go_sem,Addr.add]
set_option maxHeartbeats 1000000 in
set_option maxRecDepth 100000 in
theorem specFormatInt_any (n:Int) (w:World) (hn: -9223372036854775808≤n∧n≤9223372036854775807):
  Calls Tryd.prog 23 #[.int .i64 n] w fun e w'=> e= .returned (.string (str (fmtI n)))∧Below w.heap.size w w':=by
 obtain ⟨hn0,hn1⟩:=hn
 by_cases hz:n=0
 ·subst hz
  have HX:=Lib.hid (show fmtI 0= [48] from rfl)
  go_enter Tryd.func23,Tryd.ntmps23
  go_wp2
  go_ret
  exact ⟨ret_str (by rw [HX.out];rfl),Below.refl _ _⟩
 ·have hzb:(n==0)=false:=by simpa using hz
  have hlen:=digs_length n.natAbs 19 (by omega)
  have HZ:=Lib.hid hz
  clear hz
  go_enter Tryd.func23,Tryd.ntmps23
  go_wp2
  go_loopw [3,4] (fun s i wr=> ∃(x:Int) (S:List UInt8),i= .int .i64 x∧s= .string (str S)∧ -9223372036854775808≤x∧x≤9223372036854775807∧(n < 0→x≤0)∧(0≤n→0≤x)∧digs n.natAbs=digs x.natAbs++S∧Below w.heap.size w wr) (fun _ i _=> (intOf i).natAbs)
  case atStart=> exact ⟨n, [],rfl,rfl,hn0,hn1,by omega,by omega,by simp,Below.refl _ _⟩
  case round=>
   obtain ⟨x,S,rfl,rfl,hx0,hx1,hs1,hs2,hd,hb⟩:=hrel
   have HD:=Lib.hid hd
   have hSl:(str S).size≤19:=by
    have:=congrArg List.length hd
    rw [List.length_append] at this
    rw [str_size];omega
   clear hd
   by_cases hx:x=0
   ·subst hx
    have HE:=Lib.hid (HD.out.trans (by rw [show (0:Int).natAbs=0 from rfl,digs_zero,List.nil_append]))
    clear HD hx0 hx1 hs1 hs2
    by_cases hneg:n < 0
    ·have HF:=Lib.hid (show fmtI n=45::digs n.natAbs by unfold fmtI;rw [if_neg HZ.out,if_pos hneg])
     go_wp2
     go_ret
     exact ⟨ret_str (by rw [HF.out,HE.out];rfl),hb⟩
    ·have HF:=Lib.hid (show fmtI n=digs n.natAbs by unfold fmtI;rw [if_neg HZ.out,if_neg hneg])
     go_wp2
     go_ret
     exact ⟨ret_str (by rw [HF.out,HE.out]),hb⟩
   ·have hxb:(x==0)=false:=by simpa using hx
    have hxn:x.natAbs≠0:=by omega
    have HN:=Lib.hid (HD.out.trans (digs_cons x.natAbs hxn S))
    have HX:=Lib.hid hx
    clear hx
    by_cases hpos:0≤x
    ·have hcv:=conv_one wr (48+x % 10) (x.natAbs % 10) (by omega) (by omega)
     have hm:¬x % 10 < 0:=by omega
     have hsz:=dch_size (x.natAbs % 10)
     have hsz1:(str [dch (x.natAbs % 10)]).size≤1:=by omega
     clear hsz
     have HB:=Lib.hid (hb.alloc hb.size (.cells #[.int .u8 (48+x % 10)] 5))
     go_wp2
     go_roundw
     case rel=>
      refine ⟨x / 10,dch (x.natAbs % 10)::S,rfl,by rw [str_cons],by omega,by omega,by omega,by omega,?_,HB.out⟩
      rw [HN.out,show (x / 10).natAbs=x.natAbs / 10 from by omega]
     case measure=> have:=HX.out;simp [intOf];omega
    ·have t1:=Int.tmod_eq_emod_of_nonneg (show 0≤ -x by omega) (b:=10)
     rw [Int.neg_tmod] at t1
     have t2: -10 < x.tmod 10:=by omega
     have t3:x.tmod 10≤0:=by omega
     have hsz:=dch_size (x.natAbs % 10)
     have hsz1:(str [dch (x.natAbs % 10)]).size≤1:=by omega
     clear hsz
     have HT:=Lib.hid (show x.tdiv 10= -((-x) / 10) by
      have:=Int.tdiv_eq_ediv_of_nonneg (show 0≤ -x by omega) (b:=10)
      rw [Int.neg_tdiv] at this
      omega)
     by_cases hz0:x.tmod 10 < 0
     ·have hcv:=conv_one wr (48+ -x % 10) (x.natAbs % 10) (by omega) (by omega)
      have HB:=Lib.hid (hb.alloc hb.size (.cells #[.int .u8 (48+ -x % 10)] 5))
      go_wp2
      go_roundw
      case rel=>
       have e:=HT.out
       refine ⟨x.tdiv 10,dch (x.natAbs % 10)::S,rfl,by rw [str_cons],by omega,by omega,by omega,by omega,?_,HB.out⟩
       rw [HN.out,show (x.tdiv 10).natAbs=x.natAbs / 10 from by omega]
      case measure=> have:=HX.out;have e:=HT.out;show (x.tdiv 10).natAbs < x.natAbs;omega
     ·have ht0:x.tmod 10=0:=by omega
      have ed:x.natAbs % 10=0:=by omega
      have hcv:=conv_one wr 48 (x.natAbs % 10) (by omega) (by omega)
      have HB:=Lib.hid (hb.alloc hb.size (.cells #[.int .u8 48] 5))
      clear t1 t2 t3 hz0 ed
      go_wp2
      go_roundw
      case rel=>
       have e:=HT.out
       refine ⟨x.tdiv 10,dch (x.natAbs % 10)::S,rfl,by rw [str_cons],by omega,by omega,by omega,by omega,?_,HB.out⟩
       rw [HN.out,show (x.tdiv 10).natAbs=x.natAbs / 10 from by omega]
      case measure=> have:=HX.out;have e:=HT.out;show (x.tdiv 10).natAbs < x.natAbs;omega
end Go.Proofs.YteldgdelmaeokaaDoor
namespace Go.Proofs.YteldgdelmaeokaaDoor
open Go.RowKit
theorem digs_dec (n:Nat) (h:1≤n):digs n=Lib.decDigits n:=by
 induction n using Nat.strongRecOn with
 | _ n ih=>
  rw [digs_pos (by omega),Lib.decDigits]
  by_cases h10:n < 10
  ·rw [dif_pos h10,show n / 10=0 by omega,digs_zero,show n % 10=n by omega]
   rfl
  ·rw [dif_neg h10,ih (n / 10) (by omega) (by omega)]
theorem fmt_itoa (n:Int):fmtI n=Lib.itoa n:=by
 unfold fmtI Lib.itoa
 by_cases hz:n=0
 ·subst hz
  rw [if_pos rfl,if_neg (by omega),Lib.decDigits]
  rfl
 ·rw [if_neg hz]
  by_cases hn:n < 0
  ·rw [if_pos hn,if_pos hn,digs_dec _ (by omega)]
  ·rw [if_neg hn,if_neg hn,digs_dec _ (by omega)]
   congr 1
   omega
theorem fmtI_size (n:Int) (hn:InI64 n):(str (fmtI n)).size≤20:=by
 have h:=digs_length n.natAbs 19 (by have:=hn.1;have:=hn.2;omega)
 rw [str_size]
 unfold fmtI
 split
 ·simp
 ·split
  ·simp;omega
  ·omega
theorem implFormatInt_any (n:Int) (w:World) (hn:InI64 n) (ht:Tab w):
  Calls Tryd.prog 45 #[.int .i64 n] w fun e w'=> e= .returned (.string (str (fmtI n)))∧Below w.heap.size w w':=by
 go_enter Tryd.func45,Tryd.ntmps45
 go_wp2_with fail
 refine (Tryd.strconv_Itoa n hn.1 hn.2 w ht.here).mono ?_
 rintro e w1 ⟨rfl,k,os,rfl⟩
 have H:=Lib.hid (Lib.below_grow w.heap.size w (Nat.le_refl _) k os)
 go_wp2
 go_ret
 exact ⟨ret_str (by rw [fmt_itoa];rfl),H.out⟩
end Go.Proofs.YteldgdelmaeokaaDoor
namespace Go.Proofs.YteldgdelmaeokaaDoor
open Go.ChangeShapes Go.WideShapes Go.ChangeAt Go.RowKit Go.Deep
structure RuleD where
 name:ByteArray
 kind:Int
 size:Int
 little:Bool
 bytes:List UInt8
 names:List ByteArray
 tags:List Int
 kids:List Int
structure RM where
 d:RuleD
 vb:Value
 vn:Value
 vt:Value
 vk:Value
def rmCells (r:RM):List Value:= [.string r.d.name, .int .i64 r.d.kind, .int .i64 r.d.size, .bool r.d.little,r.vb,r.vn,r.vt,r.vk]
structure RM.rd (w:World) (B:Nat) (r:RM):Prop where
 b:SlB w B r.vb r.d.bytes
 n:SlS w B r.vn r.d.names
 t:SlI w B r.vt r.d.tags
 k:SlI w B r.vk r.d.kids
theorem RM.rd.below {w w':World} {B:Nat} {r:RM} (h:r.rd w B) (hb:Below B w w'):r.rd w' B:=⟨h.b.below hb,h.n.below hb,h.t.below hb,h.k.below hb⟩
theorem RM.rd.more {w:World} {B B':Nat} {r:RM} (h:r.rd w B) (hB:B≤B'):r.rd w B':=⟨h.b.more hB,h.n.more hB,h.t.more hB,h.k.more hB⟩
structure RuleD.ok (r:RuleD):Prop where
 name:r.name.size≤maxLen
 kind:InI64 r.kind
 size:InI64 r.size
 names:∀s∈r.names,s.size≤maxLen
 tags:∀a∈r.tags,InI64 a
 kids:∀a∈r.kids,InI64 a
def SlD (w:World) (B:Nat) (v:Value) (l:List RM):Prop:=Sl w B 8 v l.length (l.flatMap rmCells)∧∀r∈l,r.rd w B
theorem SlD.below {w w':World} {B:Nat} {v:Value} {l:List RM} (h:SlD w B v l) (hb:Below B w w'):SlD w' B v l:=⟨Sl.below h.1 hb,fun r hr=> (h.2 r hr).below hb⟩
theorem SlD.more {w:World} {B B':Nat} {v:Value} {l:List RM} (h:SlD w B v l) (hB:B≤B'):SlD w B' v l:=⟨Sl.more h.1 hB,fun r hr=> (h.2 r hr).more hB⟩
theorem rmCells_length (r:RM):(rmCells r).length=8:=rfl
theorem SlD.open_ {w:World} {B:Nat} {v:Value} {l:List RM} (h:SlD w B v l):∃A c,v= .slice A l.length c∧l.length≤c∧c≤maxLen∧
  (∀k (hk:k < l.length),∃b off,A=some ⟨b,off,none⟩∧b < B∧w.cell? ⟨b,off+k*8,none⟩=some (.string l[k].d.name)∧w.cell? ⟨b,off+k*8+1,none⟩=some (.int .i64 l[k].d.kind)∧
    w.cell? ⟨b,off+k*8+2,none⟩=some (.int .i64 l[k].d.size)∧w.cell? ⟨b,off+k*8+3,none⟩=some (.bool l[k].d.little)∧w.cell? ⟨b,off+k*8+4,none⟩=some l[k].vb∧
    w.cell? ⟨b,off+k*8+5,none⟩=some l[k].vn∧w.cell? ⟨b,off+k*8+6,none⟩=some l[k].vt∧w.cell? ⟨b,off+k*8+7,none⟩=some l[k].vk):=by
 obtain ⟨_,A,c,rfl,hc,hm,hr⟩:=h.1
 refine ⟨A,c,rfl,hc,hm,fun k hk=> ?_⟩
 obtain ⟨b,off,e,hb,hcell⟩:=hr (by omega)
 have hat:∀j u,j < 8→(rmCells l[k])[j]?=some u→w.cell? ⟨b,off+k*8+j,none⟩=some u:=fun j u hj hu=> by
  rw [Nat.add_assoc];exact hcell (k*8+j) u (by rw [flatMap_at rmCells 8 rmCells_length l k j hk hj];exact hu)
 exact ⟨b,off,e,hb,hat 0 _ (by omega) rfl,hat 1 _ (by omega) rfl,hat 2 _ (by omega) rfl,hat 3 _ (by omega) rfl,hat 4 _ (by omega) rfl,hat 5 _ (by omega) rfl,hat 6 _ (by omega) rfl,hat 7 _ (by omega) rfl⟩
section
variable {H:Type} {enc:TypeId × Value→H} {w:World}
end
end Go.Proofs.YteldgdelmaeokaaDoor
namespace Go.Proofs.YteldgdelmaeokaaDoor
open Go.RowKit
theorem Tryd.info_str:(Tryd.prog.info? 9).map (fun i=> (i.zero,i.size,i.bytes))=some (some (.string ⟨#[]⟩),1,16):=by kernel_rfl
def total:List ByteArray→Nat
 | []=> 0
 |s::l=> s.size+total l
end Go.Proofs.YteldgdelmaeokaaDoor
namespace Go.Proofs.YteldgdelmaeokaaDoor
open Go.RowKit
structure RuleD.small (r:RuleD) (N:Nat):Prop where
 name:r.name.size≤N
 bytes:r.bytes.length≤N
 names:r.names.length≤N
 total:total r.names≤N
 tags:r.tags.length≤N
 kids:r.kids.length≤N
def rmV (r:RM):Value:= .agg #[.string r.d.name, .int .i64 r.d.kind, .int .i64 r.d.size, .bool r.d.little,r.vb,r.vn,r.vt,r.vk]
end Go.Proofs.YteldgdelmaeokaaDoor
namespace Go.Proofs.YteldgdelmaeokaaDoor
open Go.RowKit
def OwS (l:List ByteArray) (lo hi:Nat) (w:World) (v:Value):Prop:=Row lo hi 9 1 l.length (l.map .string) w v
theorem OwS.keep {l:List ByteArray} {lo hi lo' hi':Nat} {w w':World} {v:Value} (h:OwS l lo hi w v) (ho:Out lo' hi' w w') (hd:hi≤lo'∨hi'≤lo):OwS l lo hi w' v:=Row.keep h ho hd
theorem OwS.sl {l:List ByteArray} {lo hi:Nat} {w:World} {v:Value} (h:OwS l lo hi w v):SlS w w.heap.size v l:=Row.sl h
end Go.Proofs.YteldgdelmaeokaaDoor
namespace Go.Proofs.YteldgdelmaeokaaDoor
open Go.RowKit
theorem Tryd.info_i64:(Tryd.prog.info? 3).map (fun i=> (i.zero,i.size,i.bytes))=some (some (.int .i64 0),1,8):=by kernel_rfl
def OwI (l:List Int) (lo hi:Nat) (w:World) (v:Value):Prop:=Row lo hi 3 1 l.length (l.map (.int .i64)) w v
theorem OwI.keep {l:List Int} {lo hi lo' hi':Nat} {w w':World} {v:Value} (h:OwI l lo hi w v) (ho:Out lo' hi' w w') (hd:hi≤lo'∨hi'≤lo):OwI l lo hi w' v:=Row.keep h ho hd
theorem OwI.sl {l:List Int} {lo hi:Nat} {w:World} {v:Value} (h:OwI l lo hi w v):SlI w w.heap.size v l:=Row.sl h
end Go.Proofs.YteldgdelmaeokaaDoor
namespace Go.Proofs.YteldgdelmaeokaaDoor
open Go.RowKit
def RM.own (lo hi:Nat) (w:World) (r:RM):Prop:=∃m1 m2 m3,OwB r.d.bytes lo m1 w r.vb∧OwS r.d.names m1 m2 w r.vn∧OwI r.d.tags m2 m3 w r.vt∧OwI r.d.kids m3 hi w r.vk∧lo≤m1∧m1≤m2∧m2≤m3∧m3≤hi
theorem RM.own.keep {r:RM} {lo hi lo' hi':Nat} {w w':World} (h:r.own lo hi w) (ho:Out lo' hi' w w') (hd:hi≤lo'∨hi'≤lo):r.own lo hi w':=by
 obtain ⟨m1,m2,m3,h1,h2,h3,h4,a,b,c,d⟩:=h
 exact ⟨m1,m2,m3,h1.keep ho (by omega),h2.keep ho (by omega),h3.keep ho (by omega),h4.keep ho (by omega),a,b,c,d⟩
theorem RM.own.rd {r:RM} {lo hi:Nat} {w:World} (h:r.own lo hi w):r.rd w w.heap.size:=by
 obtain ⟨m1,m2,m3,h1,h2,h3,h4,_⟩:=h
 exact ⟨h1.sl,h2.sl,h3.sl,h4.sl⟩
end Go.Proofs.YteldgdelmaeokaaDoor
namespace Go.Proofs.YteldgdelmaeokaaDoor
open Go.RowKit
def OwRs (hi:Nat) (w:World):List RM→Nat→Prop
 | [],lo=> lo≤hi
 |r::l,lo=> ∃m,lo≤m∧r.own lo m w∧OwRs hi w l m
theorem OwRs.le {hi:Nat} {w:World}:∀{l:List RM} {lo:Nat},OwRs hi w l lo→lo≤hi
 | [],_,h=> h
 | _::_,_,⟨_,h1,_,h3⟩=> Nat.le_trans h1 h3.le
theorem OwRs.keep {hi lo' hi':Nat} {w w':World} (ho:Out lo' hi' w w'):∀{l:List RM} {lo:Nat},OwRs hi w l lo→(hi≤lo'∨hi'≤lo)→OwRs hi w' l lo
 | [],_,h,_=> h
 | _::_,_,⟨m,h1,h2,h3⟩,hd=> ⟨m,h1,h2.keep ho (by have:=h3.le;omega),h3.keep ho (by omega)⟩
theorem RM.own.wide {r:RM} {lo hi hi':Nat} {w:World} (h:r.own lo hi w) (hh:hi≤hi'):r.own lo hi' w:=by
 obtain ⟨m1,m2,m3,h1,h2,h3,h4,a,b,c,d⟩:=h
 exact ⟨m1,m2,m3,h1,h2,h3,Row.wide h4 (Nat.le_refl _) hh,a,b,c,by omega⟩
theorem OwRs.snoc {hi mid:Nat} {w:World} {r:RM} (hr:r.own mid hi w) (hm:mid≤hi):∀{l:List RM} {lo:Nat},OwRs mid w l lo→OwRs hi w (l++ [r]) lo
 | [],lo,h=> by
  obtain ⟨m1,m2,m3,h1,h2,h3,h4,a,b,c,d⟩:=hr
  exact ⟨hi,Nat.le_trans h hm,⟨m1,m2,m3,Row.wide h1 h (Nat.le_refl _),h2,h3,h4,Nat.le_trans h a,b,c,d⟩,Nat.le_refl _⟩
 | _::_,_,⟨m,h1,h2,h3⟩=> ⟨m,h1,h2,h3.snoc hr hm⟩
theorem OwRs.rd {hi:Nat} {w:World}:∀{l:List RM} {lo:Nat},OwRs hi w l lo→∀r∈l,r.rd w w.heap.size
 | [],_,_,r,hr=> by simp at hr
 |x::l,_,⟨_,_,h2,h3⟩,r,hr=> by
  simp only [List.mem_cons] at hr
  rcases hr with rfl|hr
  ·exact h2.rd
  ·exact h3.rd r hr
def OwD (D:List RuleD) (lo hi:Nat) (w:World) (v:Value):Prop:=
 ∃(l:List RM) (m:Nat),l.map RM.d=D∧Row lo m 73 8 l.length (l.flatMap rmCells) w v∧lo≤m∧OwRs hi w l m
theorem OwD.keep {D:List RuleD} {lo hi lo' hi':Nat} {w w':World} {v:Value} (h:OwD D lo hi w v) (ho:Out lo' hi' w w') (hd:hi≤lo'∨hi'≤lo):OwD D lo hi w' v:=by
 obtain ⟨l,m,h1,h2,h3,h4⟩:=h
 have:=h4.le
 exact ⟨l,m,h1,h2.keep ho (by omega),h3,h4.keep ho (by omega)⟩
theorem OwD.sl {D:List RuleD} {lo hi:Nat} {w:World} {v:Value} (h:OwD D lo hi w v):∃l:List RM,l.map RM.d=D∧SlD w w.heap.size v l:=by
 obtain ⟨l,m,h1,h2,h3,h4⟩:=h
 exact ⟨l,h1,h2.sl,h4.rd⟩
theorem OwRs.wide {hi hi':Nat} {w:World} (hh:hi≤hi'):∀{l:List RM} {lo:Nat},OwRs hi w l lo→OwRs hi' w l lo
 | [],_,h=> Nat.le_trans h hh
 | _::_,_,⟨m,h1,h2,h3⟩=> ⟨m,h1,h2,h3.wide hh⟩
theorem OwD.wide {D:List RuleD} {lo hi lo' hi':Nat} {w:World} {v:Value} (h:OwD D lo hi w v) (h1:lo'≤lo) (h2:hi≤hi'):OwD D lo' hi' w v:=by
 obtain ⟨l,m,a,b,c,d⟩:=h
 exact ⟨l,m,a,Row.wide b h1 (Nat.le_refl _),by omega,d.wide h2⟩
theorem Tryd.info_rule:(Tryd.prog.info? 73).map (fun i=> (i.zero,i.size,i.bytes))=some (some (.agg #[.string ⟨#[]⟩, .int .i64 0, .int .i64 0, .bool false, .slice none 0 0, .slice none 0 0, .slice none 0 0, .slice none 0 0]),8,136):=by kernel_rfl
end Go.Proofs.YteldgdelmaeokaaDoor
namespace Go.Proofs.YteldgdelmaeokaaDoor
open Go.RowKit
end Go.Proofs.YteldgdelmaeokaaDoor
