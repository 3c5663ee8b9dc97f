/- Out of Mem, Open, Byte, Val, Own, OwnB, ValOwn, Lift, LiftD, Num, Dec, Ints, FmtD, Desc, Strs, DescSz, OwnS, OwnI, DescTo, DescTo2, DescEq: the walks and plain laws that the claim needs. No condition but those that each theorem names. -/
import Derived.WalkKit
import Derived.Below
import Derived.Laws.OwnMore
import Derived.Deep.Draws
import Derived.Lib.Hide
import Derived.Lib.Strings
import Derived.Maps.AppendAt
import Derived.Deep.AppendLies
import Derived.ProofKit
import Derived.Deep.Slices
import Derived.Deep.Fields
import Derived.Test.YteldgdelmaeokaaGreatDoorRows
import Derived.WalkSpells
import Derived.WalkLawsBesides
import Derived.BigQuiet
import Derived.Deep.QuietTactic
import Derived.Lib.SmallJoins
import Derived.ShutString
import Derived.ChangeOld
import Derived.LaidMore
import Derived.OpenShut
import Derived.Stop.Joined
import Derived.Lib.LaidTab
import Derived.Lib.AppendIntMem
import Derived.BigGuardPart
import Derived.Test.YteldgdelmaeokaaGreatDoorShelf
import Derived.Deep.RegionHeld3
import Derived.Sort.AtCall
set_option linter.unusedSimpArgs false
set_option linter.unusedVariables false
set_option maxHeartbeats 2000000
set_option maxRecDepth 100000
namespace Go.Proofs.YteldgdelmaeokaaGreatDoor
open Go.Proofs.Tryz Go.RowKit
open Go.ChangeShapes Go.WideShapes Go.ChangeAt Go.RowKit Go.Deep
open Go.ChangeShapes Go.WideShapes Go.ChangeAt Go.RowKit
open Go.ChangeMaps (open_string shut_string)
theorem Ec {w wx : World} {a : Addr} {v : Value} (hb : Below w.heap.size w wx) (h : w.cell? a = some v) : wx.cell? a = some v := cell_later hb h
theorem Eb (n : Nat) : 0 ≤ n := Nat.zero_le n
theorem Ea {n m k : Nat} (h : n < m) (h2 : m ≤ k) : n < k := Nat.lt_of_lt_of_le h h2
theorem Fz {α : Type _} {a b : α} (h : some a = some b) : a = b := Option.some.inj h
theorem Fy {p : Prop} [Decidable p] (h : p) : decide p = true := decide_eq_true h
theorem Fx {p : Prop} [Decidable p] (h : ¬p) : decide p = false := decide_eq_false h
theorem Fw {α : Type _} {l : List α} {n : Nat} (h : n < l.length) : l[n] ∈ l := List.getElem_mem h
theorem Fv (B : Nat) (w : World) : Below B w w := Below.refl B w
theorem Fu (n : Nat) : n ≤ n := Nat.le_refl n
theorem Ft {a b : Prop} (h : a) (k : b) : a ∧ b := And.intro h k
theorem Fs {p : Prop} (h : p) : Hid p := Lib.hid h
theorem Qe {k:IntKind} {a b:Int} (h:a=b):Ending.returned (.int k a)= .returned (.int k b):=by rw [h]
theorem Zd {a b:Bool} (h:a=b):Ending.returned (.bool a)= .returned (.bool b):=by rw [h]
theorem Jd {a b:ByteArray} (h:a=b):Ending.returned (.string a)= .returned (.string b):=by rw [h]
theorem Yn {B:Nat} {a w:World} (h:Below B a w) (n:Nat):Below B a (w.drewN n):=⟨h.os,h.tape,h.output,h.size,h.block⟩
theorem Ju {a w:World} {row:Option Nat} (h:a.grownBy w row) {B:Nat} (hB:B≤a.heap.size) (hr:∀k,row=some k→B≤k):Below B a w:=
 (Fv B a).grown h hB hr
theorem Zb {w a b:World} (h1:Below a.heap.size a b) (h:Below w.heap.size w a):Below w.heap.size w b:=h.trans (h1.mono h.size)
def Sl (w:World) (B size:Nat) (v:Value) (n:Nat) (xs:List Value):Prop:=
 xs.length=n*size∧∃A c,v= .slice A n c∧n≤c∧c≤maxLen∧
  (0 < n→∃b off,A=some ⟨b,off,none⟩∧b < B∧∀j u,xs[j]?=some u→w.cell? ⟨b,off+j,none⟩=some u)
section
variable {w w':World} {B B' size n:Nat} {v:Value} {xs:List Value}
theorem Sl.keep (h:Sl w B size v n xs) (hk:∀b o,b < B→w'.cell? ⟨b,o,none⟩=w.cell? ⟨b,o,none⟩):Sl w' B size v n xs:=by
 obtain ⟨hl,A,c,hv,hc,hm,hr⟩:=h
 refine ⟨hl,A,c,hv,hc,hm,fun hn=> ?_⟩
 obtain ⟨b,off,e,hb,hcell⟩:=hr hn
 exact ⟨b,off,e,hb,fun j u hu=> (hk _ _ hb).trans (hcell j u hu)⟩
theorem Sl.more (h:Sl w B size v n xs) (hB:B≤B'):Sl w B' size v n xs:=by
 obtain ⟨hl,A,c,hv,hc,hm,hr⟩:=h
 refine ⟨hl,A,c,hv,hc,hm,fun hn=> ?_⟩
 obtain ⟨b,off,e,hb,hcell⟩:=hr hn
 exact ⟨b,off,e,by omega,hcell⟩
theorem Sl.below (h:Sl w B size v n xs) (hb:Below B w w'):Sl w' B size v n xs:=h.keep fun _ _ hp=> hb.cell (p:=⟨_,_,none⟩) hp
theorem Sl.drewN (h:Sl w B size v n xs) (k:Nat):Sl (w.drewN k) B size v n xs:=h
theorem Sl.grown (h:Sl w B size v n xs) {row:Option Nat} (hg:w.grownBy w' row) (hB:B≤w.heap.size) (hr:∀g,row=some g→B≤g):Sl w' B size v n xs:=
 h.below (Ju hg hB hr)
theorem Sl.of_own {base:Nat} {e:TypeId} (h:w.ownsRow base e size v n xs):Sl w w.heap.size size v n xs:=by
 refine ⟨h.1,?_⟩
 rcases h.2 with ⟨rfl,rfl⟩|⟨g,cap,cur,rfl,hb,hg,hc,hm,hs,ht⟩
 ·exact ⟨none,0,rfl,Fu _,Eb _,fun h=> absurd h (by omega)⟩
 ·refine ⟨_,_,rfl,hc,hm,fun _=> ⟨g,0,rfl,(Array.getElem?_eq_some_iff.1 hg).1,fun j u hu=> ?_⟩⟩
  have:=h.cells (g:=g) rfl j u hu
  have hadd:(⟨g,0,none⟩:Addr).add j=⟨g,j,none⟩:=by unfold Addr.add;split <;> simp_all
  rw [hadd] at this
  simpa using this
theorem Sl.nil (w:World) (B size:Nat):Sl w B size (.slice none 0 0) 0 []:=
 ⟨by simp,none,0,rfl,Fu _,Eb _,fun h=> absurd h (by omega)⟩
end
theorem Qb {w w':World} {base:Nat} {e:TypeId} {size:Nat} {v:Value} {n:Nat} {xs:List Value} (h:w.ownsRow base e size v n xs) {B:Nat} (hb:Below B w w') (hB:w.heap.size≤B):w'.ownsRow base e size v n xs:=by
 refine ⟨h.1,?_⟩
 rcases h.2 with hn|⟨g,cap,cur,rfl,hbb,hg,rest⟩
 ·exact .inl hn
 ·exact .inr ⟨g,cap,cur,rfl,hbb,by rw [hb.block g (by have:=(Array.getElem?_eq_some_iff.1 hg).1;omega)];exact hg,rest⟩
theorem Ve {w:World} {base base':Nat} {e:TypeId} {size:Nat} {v:Value} {n:Nat} {xs:List Value} (h:w.ownsRow base e size v n xs) (hb:base'≤base):w.ownsRow base' e size v n xs:=by
 refine ⟨h.1,?_⟩
 rcases h.2 with hn|⟨g,cap,cur,rfl,hbb,rest⟩
 ·exact .inl hn
 ·exact .inr ⟨g,cap,cur,rfl,by omega,rest⟩
def Qu (w:World) (g o:Nat):List Value→World
 | []=> w
 |u::us=> Qu (w.setCell ⟨g,o,none⟩ u) g (o+1) us
theorem Md {base:Nat} {e:TypeId} {size n cap g:Nat} (us:List Value):∀(w:World) (pre ys:List Value),us.length≤ys.length→
  w.ownsRow base e size (.slice (some ⟨g,0,none⟩) n cap) n (pre++ys)→
  (Qu w g pre.length us).ownsRow base e size (.slice (some ⟨g,0,none⟩) n cap) n (pre++us++ys.drop us.length):=by
 induction us with
 |nil=> intro w pre ys _ h;simpa [Qu] using h
 |cons u us ih=>
  intro w pre ys hl h
  cases ys with
  |nil=> simp at hl
  |cons y ys=>
   have h1:=(h.stored pre.length u).1
   have e1:(pre++y::ys).set pre.length u=(pre++ [u])++ys:=by
    rw [List.set_append_right _ _ (Fu _)];simp
   rw [e1] at h1
   have h2:=ih _ (pre++ [u]) ys (by simpa using hl) h1
   simpa [Qu] using h2
theorem He {B:Nat} {a:World} {g:Nat} (us:List Value):∀(w:World) (o:Nat),Below B a w→B≤g→Below B a (Qu w g o us):=by
 induction us with
 |nil=> intro w o h _;exact h
 |cons u us ih=> intro w o h hg;exact ih _ _ (h.setCell (p:=⟨g,o,none⟩) hg u) hg
theorem Jj (w:World) (g o:Nat) (u:Value):w.grownBy (w.setCell ⟨g,o,none⟩ u) (some g):=
 ⟨rfl,rfl,rfl,by simp [World.setCell],fun k _ hne=> Below.heap_setCell _ _ _ _ (fun e=> hne (by rw [e]))⟩
theorem Ur {a b c:World} {row:Option Nat} (h:a.grownBy b row) (k:b.grownBy c row):a.grownBy c row:=
 ⟨k.os.trans h.os,k.tape.trans h.tape,k.output.trans h.output,Nat.le_trans h.size k.size,fun i hi hne=> (k.block i (Ea hi h.size) hne).trans (h.block i hi hne)⟩
theorem Rp {g:Nat} (us:List Value):∀(w:World) (o:Nat),w.grownBy (Qu w g o us) (some g):=by
 induction us with
 |nil=> intro w o;exact World.grownBy.refl _ _
 |cons u us ih=> intro w o;exact Ur (Jj w g o u) (ih _ _)
def u8v (b:UInt8):Value:= .int .u8 (b.toNat:Int)
def Uy (l:List UInt8):List Value:=l.map u8v
@[simp] theorem u8s_length (l:List UInt8):(Uy l).length=l.length:=by simp [Uy]
theorem Ku (a b:List UInt8):Uy (a++b)=Uy a++Uy b:=by simp [Uy]
theorem u8s_getElem? (l:List UInt8) (k:Nat):(Uy l)[k]?=l[k]?.map u8v:=by simp [Uy]
theorem Xm (l:List UInt8):∀u∈Uy l,u.oneCell'=true:=by
 intro u hu
 simp only [Uy,List.mem_map] at hu
 obtain ⟨b,_,rfl⟩:=hu
 rfl
def Xu (w:World) (B:Nat) (v:Value) (l:List UInt8):Prop:=Sl w B 1 v l.length (Uy l)
theorem Xu.below {w w':World} {B:Nat} {v:Value} {l:List UInt8} (h:Xu w B v l) (hb:Below B w w'):Xu w' B v l:=Sl.below h hb
theorem Xu.more {w:World} {B B':Nat} {v:Value} {l:List UInt8} (h:Xu w B v l) (hB:B≤B'):Xu w B' v l:=Sl.more h hB
theorem Xu.open_ {w:World} {B:Nat} {v:Value} {l:List UInt8} (h:Xu w B v l):∃A c,v= .slice A l.length c∧l.length≤c∧c≤maxLen∧
  (∀k (hk:k < l.length),∃b off,A=some ⟨b,off,none⟩∧b < B∧w.cell? ⟨b,off+k,none⟩=some (.int .u8 (l[k].toNat:Int))):=by
 obtain ⟨_,A,c,rfl,hc,hm,hr⟩:=h
 refine ⟨A,c,rfl,hc,hm,fun k hk=> ?_⟩
 obtain ⟨b,off,e,hb,hcell⟩:=hr (by omega)
 exact ⟨b,off,e,hb,hcell k _ (by rw [u8s_getElem?,List.getElem?_eq_getElem hk];rfl)⟩
def Va (w:World) (B:Nat) (v:Value) (l:List ByteArray):Prop:=Sl w B 1 v l.length (l.map .string)
def Yt (w:World) (B:Nat) (v:Value) (l:List Int):Prop:=Sl w B 1 v l.length (l.map (.int .i64))
theorem Sl.one {T:Type} {w:World} {B:Nat} {v:Value} {f:T→Value} {l:List T} (h:Sl w B 1 v l.length (l.map f)):∃A c,v= .slice A l.length c∧l.length≤c∧c≤maxLen∧
  (∀k (hk:k < l.length),∃b off,A=some ⟨b,off,none⟩∧b < B∧w.cell? ⟨b,off+k,none⟩=some (f l[k])):=by
 obtain ⟨_,A,c,rfl,hc,hm,hr⟩:=h
 refine ⟨A,c,rfl,hc,hm,fun k hk=> ?_⟩
 obtain ⟨b,off,e,hb,hcell⟩:=hr (by omega)
 exact ⟨b,off,e,hb,hcell k _ (by rw [List.getElem?_map,List.getElem?_eq_getElem hk];rfl)⟩
theorem Va.below {w w':World} {B:Nat} {v:Value} {l:List ByteArray} (h:Va w B v l) (hb:Below B w w'):Va w' B v l:=Sl.below h hb
theorem Va.more {w:World} {B B':Nat} {v:Value} {l:List ByteArray} (h:Va w B v l) (hB:B≤B'):Va w B' v l:=Sl.more h hB
theorem Yt.below {w w':World} {B:Nat} {v:Value} {l:List Int} (h:Yt w B v l) (hb:Below B w w'):Yt w' B v l:=Sl.below h hb
theorem Yt.more {w:World} {B B':Nat} {v:Value} {l:List Int} (h:Yt w B v l) (hB:B≤B'):Yt w B' v l:=Sl.more h hB
theorem Vo {T:Type} (c:T→List Value) (size:Nat) (hc:∀t,(c t).length=size) (l:List T) (k j:Nat) (hk:k < l.length) (hj:j < size):(l.flatMap c)[k*size+j]?=(c l[k])[j]?:=by
 induction l generalizing k with
 |nil=> simp at hk
 |cons t l ih=>
  cases k with
  |zero=> simp only [List.flatMap_cons,Nat.zero_mul,Nat.zero_add];rw [List.getElem?_append_left (by rw [hc];exact hj)];rfl
  |succ k=>
   simp only [List.flatMap_cons]
   rw [List.getElem?_append_right (by rw [hc,Nat.succ_mul];omega)]
   have e1:(k+1)*size+j - (c t).length=k*size+j:=by rw [hc,Nat.succ_mul];omega
   rw [e1]
   exact ih k (by simpa using hk)
theorem Vv {T:Type} (c:T→List Value) (size:Nat) (hc:∀t,(c t).length=size) (l:List T):(l.flatMap c).length=l.length*size:=by
 induction l with
 |nil=> simp
 |cons t l ih=> simp only [List.flatMap_cons,List.length_append,List.length_cons,hc,ih,Nat.succ_mul];omega
theorem choose_list {T:Type} (len:Nat) (p:Nat→T→Prop) (h:∀i,i < len→∃t,p i t):∃l:List T,l.length=len∧∀i (hi:i < l.length),p i l[i]:=by
 induction len with
 |zero=> exact ⟨[],rfl,fun i hi=> by simp at hi⟩
 |succ n ih=>
  obtain ⟨l,hl,hp⟩:=ih fun i hi=> h i (by omega)
  obtain ⟨t,ht⟩:=h n (by omega)
  refine ⟨l++ [t],by simp [hl],fun i hi=> ?_⟩
  by_cases hlt:i < l.length
  ·rw [List.getElem_append_left hlt];exact hp i hlt
  ·have:i=n:=by simp at hi;omega
   subst this
   rw [List.getElem_append_right (by omega)]
   simpa [hl] using ht
theorem flat_one {T:Type} (f:T→Value) (l:List T):l.flatMap (fun b=> [f b])=l.map f:=by
 induction l with
 |nil=> rfl
 |cons b l ih=> rw [List.flatMap_cons,ih];rfl
section
variable {H:Type} {enc:TypeId × Value→H} {P:Program} {w:World}
theorem open_list {T:Type} {t e:TypeId} {fuel size:Nat} {v:Value} {x:DataW H × List MemPlace} (ht:P.underlying t=some (.slice e)) (hC:P.cellsOf e=size) (hs:0 < size)
  (c:T→List Value) (Q:T→Prop) (hc:∀t,(c t).length=size) (h:DataW.trod enc P w 0 (fun _=> true) true fuel t [v]=some x)
  (hel:∀n cs' y,DataW.trod enc P w 0 (fun _=> true) true n e cs'=some y→∃t:T,cs'=c t∧Q t):
  ∃l:List T,Sl w w.heap.size size v l.length (l.flatMap c)∧∀t∈l,Q t:=by
 rcases open_slice ht h with ⟨h0,_⟩|⟨a,len,cap,m,n,D,Pl,hcs,_,hl,hm,hmm,_,hi⟩
 ·simp only [List.cons.injEq,and_true] at h0
  subst h0
  exact ⟨[],Sl.nil _ _ _,by simp⟩
 ·simp only [List.cons.injEq,and_true] at hcs
  subst hcs
  simp only [if_true] at hmm
  subst hmm
  have hex:∀i,i < len→∃t:T,w.cells? 0 (a.add (i*size)) size=some (c t)∧Q t:=by
   intro i hil
   obtain ⟨cs',h1,h2⟩:=hi i (by omega)
   rw [hC] at h1
   obtain ⟨t,rfl,hq⟩:=hel n cs' _ h2
   exact ⟨t,h1,hq⟩
  obtain ⟨l,hll,hp⟩:=choose_list len _ hex
  refine ⟨l,⟨Vv c size hc l,some a,m,by rw [hll],by omega,hm,fun hpos=> ?_⟩,?_⟩
  ·obtain ⟨b,off,spot⟩:=a
   have hcell:∀i (hi:i < l.length) j,j < size→w.cell? ((⟨b,off,spot⟩:Addr).add (i*size+j))=(c l[i])[j]?:=by
    intro i hi j hj
    obtain ⟨_,_,hat⟩:=World.cells?_some (hp i hi).1
    have:=hat j hj
    rw [Go.Deep.add_add] at this
    exact this
   have h00:=hcell 0 hpos 0 hs
   rw [List.getElem?_eq_getElem (by rw [hc];exact hs)] at h00
   have hspot:spot=none:=by
    have:=World.cell?_spot h00
    simpa [Addr.add] using this
   subst hspot
   have hadd:∀i,(⟨b,off,none⟩:Addr).add i=⟨b,off+i,none⟩:=by intro i;unfold Addr.add;split <;> simp_all
   refine ⟨b,off,rfl,?_,?_⟩
   ·have:=World.block_lt_of_cell? w _ h00
    rw [hadd] at this
    exact this
   ·intro j u hu
    have hjl:j < l.length*size:=by
     have:=(List.getElem?_eq_some_iff.1 hu).1
     rwa [Vv c size hc l] at this
    have hk:j / size < l.length:=Nat.div_lt_of_lt_mul (by rw [Nat.mul_comm];exact hjl)
    have hm':j % size < size:=Nat.mod_lt _ hs
    have e:j / size*size+j % size=j:=by rw [Nat.mul_comm];exact Nat.div_add_mod j size
    have h1:=hcell (j / size) hk (j % size) hm'
    rw [e,hadd] at h1
    rw [h1,←Vo c size hc l (j / size) (j % size) hk hm',e]
    exact hu
  ·intro t ht'
   obtain ⟨i,hi,rfl⟩:=List.getElem_of_mem ht'
   exact (hp i hi).2
theorem wf_u8_bd {a:Int} (h:(Lit.int .u8 a).wf=true):0≤a∧a≤255:=by
 simpa [Lit.wf,IntKind.min,IntKind.max,IntKind.signed,IntKind.bits] using h
theorem trod_bytes {t e:TypeId} {fuel:Nat} {v:Value} {x:DataW H × List MemPlace} (ht:P.underlying t=some (.slice e)) (he:P.underlying e=some (.int .u8)) (hC:P.cellsOf e=1)
  (h:DataW.trod enc P w 0 (fun _=> true) true fuel t [v]=some x):∃l:List UInt8,Xu w w.heap.size v l:=by
 obtain ⟨l,hl,_⟩:=open_list ht hC (by omega) (fun b:UInt8=> [u8v b]) (fun _=> True) (fun _=> rfl) h (by
  intro n cs' y hy
  obtain ⟨z,rfl,_,hz⟩:=DataW.trod_int he hy
  obtain ⟨h0,h1⟩:=wf_u8_bd hz
  refine ⟨UInt8.ofNat z.toNat,?_,trivial⟩
  simp only [u8v,UInt8.toNat_ofNat']
  rw [show ((z.toNat % 2 ^ 8:Nat):Int)=z from by omega])
 refine ⟨l,?_⟩
 rw [flat_one] at hl
 exact hl
def Qa (a:Int):Prop:= -9223372036854775808≤a∧a≤9223372036854775807
end
theorem info_u8:(prog.info? 5).map (fun i=> (i.zero,i.size,i.bytes))=some (some (.int .u8 0),1,1):=by kernel_rfl
def Gz (w:World) (E:TypeId) (size n:Nat) (xs:List Value) (e:Ending) (w':World):Prop:=
 ∃v,e= .returned v∧w'.ownsRow w.heap.size E size v n xs∧Below w.heap.size w w'
def Quiet (w:World) (v:Value) (e:Ending) (w':World):Prop:=e= .returned v∧∃n,w'=w.drewN n
theorem Quiet.below {w w':World} {v:Value} {e:Ending} (h:Quiet w v e w'):e= .returned v∧Below w.heap.size w w':=by
 obtain ⟨he,n,rfl⟩:=h
 exact ⟨he,Yn (Fv _ _) n⟩
theorem take_next {α:Type} [DecidableEq α] {l l':List α} {k:Nat} (hk:k < l.length) (hk':k < l'.length) (h:l.take k=l'.take k) (e:l[k]=l'[k]):l.take (k+1)=l'.take (k+1):=by
 rw [List.take_succ_eq_append_getElem hk,List.take_succ_eq_append_getElem hk',h,e]
def Lw (k n:Nat):List UInt8:=(List.range n).map fun i=> UInt8.ofNat (k+i)
@[simp] theorem marks_length (k n:Nat):(Lw k n).length=n:=by simp [Lw]
theorem marks_at (k n i:Nat) (h:i < n):(Lw k n)[i]'(by simpa using h)=UInt8.ofNat (k+i):=by simp [Lw]
def marked (xs:List Value) (k j:Nat):List Value:=Uy (Lw k j)++xs.drop j
inductive Zv where
 |mk (n:Int) (b:List UInt8) (items:List Zv)
inductive VM where
 |mk (n:Int) (b:List UInt8) (vb vi:Value) (items:List VM)
namespace Zv
def n:Zv→Int|mk n _ _=> n
def b:Zv→List UInt8|mk _ b _=> b
def items:Zv→List Zv|mk _ _ l=> l
@[simp] theorem n_mk (n b l):(mk n b l).n=n:=rfl
@[simp] theorem b_mk (n b l):(mk n b l).b=b:=rfl
@[simp] theorem items_mk (n b l):(mk n b l).items=l:=rfl
theorem eta (x:Zv):x=mk x.n x.b x.items:=by cases x;rfl
end Zv
namespace VM
def n:VM→Int|mk n _ _ _ _=> n
def b:VM→List UInt8|mk _ b _ _ _=> b
def vb:VM→Value|mk _ _ v _ _=> v
def vi:VM→Value|mk _ _ _ v _=> v
def items:VM→List VM|mk _ _ _ _ l=> l
@[simp] theorem n_mk (n b vb vi l):(mk n b vb vi l).n=n:=rfl
@[simp] theorem b_mk (n b vb vi l):(mk n b vb vi l).b=b:=rfl
@[simp] theorem vb_mk (n b vb vi l):(mk n b vb vi l).vb=vb:=rfl
@[simp] theorem vi_mk (n b vb vi l):(mk n b vb vi l).vi=vi:=rfl
@[simp] theorem items_mk (n b vb vi l):(mk n b vb vi l).items=l:=rfl
end VM
theorem Zv.induct {P:Zv→Prop} (h:∀n b l,(∀x∈l,P x)→P (.mk n b l)):∀x,P x
 | .mk n b l=> h n b l fun x _=> Zv.induct h x
termination_by x=> SizeOf.sizeOf x
decreasing_by
 have:=List.sizeOf_lt_of_mem ‹_›
 simp only [Zv.mk.sizeOf_spec]
 omega
theorem VM.induct {P:VM→Prop} (h:∀n b vb vi l,(∀x∈l,P x)→P (.mk n b vb vi l)):∀x,P x
 | .mk n b vb vi l=> h n b vb vi l fun x _=> VM.induct h x
termination_by x=> SizeOf.sizeOf x
decreasing_by
 have:=List.sizeOf_lt_of_mem ‹_›
 simp only [VM.mk.sizeOf_spec]
 omega
mutual
def VM.d:VM→Zv
 | .mk n b _ _ l=> .mk n b (VM.ds l)
def VM.ds:List VM→List Zv
 | []=> []
 |x::l=> x.d::VM.ds l
end
theorem VM.ds_map:∀l:List VM,VM.ds l=l.map VM.d
 | []=> by rw [VM.ds];rfl
 |x::l=> by rw [VM.ds,VM.ds_map l];rfl
theorem VM.d_mk (n:Int) (b:List UInt8) (vb vi:Value) (l:List VM):(VM.mk n b vb vi l).d= .mk n b (l.map VM.d):=by rw [VM.d,VM.ds_map]
@[simp] theorem VM.d_n (x:VM):x.d.n=x.n:=by cases x;rw [VM.d_mk];rfl
@[simp] theorem VM.d_b (x:VM):x.d.b=x.b:=by cases x;rw [VM.d_mk];rfl
@[simp] theorem VM.d_items (x:VM):x.d.items=x.items.map VM.d:=by cases x;rw [VM.d_mk];rfl
mutual
def Zv.size:Zv→Nat
 | .mk _ b l=> b.length+Zv.sizes l
def Zv.sizes:List Zv→Nat
 | []=> 0
 |x::l=> 1+x.size+Zv.sizes l
end
theorem Zv.size_mk (n:Int) (b:List UInt8) (l:List Zv):(Zv.mk n b l).size=b.length+Zv.sizes l:=by rw [Zv.size]
theorem Zv.sizes_nil:Zv.sizes []=0:=by rw [Zv.sizes]
theorem Zv.sizes_cons (x:Zv) (l:List Zv):Zv.sizes (x::l)=1+x.size+Zv.sizes l:=by rw [Zv.sizes]
theorem Zv.sizes_append (l l':List Zv):Zv.sizes (l++l')=Zv.sizes l+Zv.sizes l':=by
 induction l with
 |nil=> simp [Zv.sizes_nil]
 |cons x l ih=> rw [List.cons_append,Zv.sizes_cons,Zv.sizes_cons,ih];omega
theorem Zv.length_le:∀l:List Zv,l.length≤Zv.sizes l
 | []=> Eb _
 |x::l=> by have:=Zv.length_le l;rw [Zv.sizes_cons,List.length_cons];omega
theorem Zv.size_le_of_mem {x:Zv} {l:List Zv} (h:x∈l):1+x.size≤Zv.sizes l:=by
 induction l with
 |nil=> simp at h
 |cons y l ih=>
  rw [Zv.sizes_cons]
  simp only [List.mem_cons] at h
  rcases h with rfl|h
  ·omega
  ·have:=ih h;omega
def Ze (x:VM):List Value:= [.int .i64 x.n,x.vb,x.vi]
theorem Qj (x:VM):(Ze x).length=3:=rfl
def Qs (x:VM):Value:= .agg #[.int .i64 x.n,x.vb,x.vi]
inductive VM.rd (w:World) (B:Nat):VM→Prop
 |mk {n:Int} {b:List UInt8} {vb vi:Value} {l:List VM} (hb:Xu w B vb b) (hi:Sl w B 3 vi l.length (l.flatMap Ze)) (hx:∀x∈l,VM.rd w B x):VM.rd w B (.mk n b vb vi l)
def Gw (w:World) (B:Nat) (v:Value) (l:List VM):Prop:=Sl w B 3 v l.length (l.flatMap Ze)∧∀x∈l,x.rd w B
theorem VM.rd.bytes {w:World} {B:Nat} {x:VM} (h:x.rd w B):Xu w B x.vb x.b:=by cases h;assumption
theorem VM.rd.its {w:World} {B:Nat} {x:VM} (h:x.rd w B):Gw w B x.vi x.items:=by
 cases h with
 |mk hb hi hx=> exact ⟨hi,hx⟩
theorem VM.rd.of {w:World} {B:Nat} {x:VM} (hb:Xu w B x.vb x.b) (hi:Gw w B x.vi x.items):x.rd w B:=by
 cases x
 exact .mk hb hi.1 hi.2
theorem VM.rd.keep {w w':World} {B:Nat} {x:VM} (h:x.rd w B) (hk:∀b o,b < B→w'.cell? ⟨b,o,none⟩=w.cell? ⟨b,o,none⟩):x.rd w' B:=by
 induction h with
 |mk hb hi hx ih=> exact .mk (Sl.keep hb hk) (Sl.keep hi hk) ih
theorem VM.rd.bel {w w':World} {B:Nat} {x:VM} (h:x.rd w B) (hb:Below B w w'):x.rd w' B:=h.keep fun _ _ hp=> hb.cell (p:=⟨_,_,none⟩) hp
theorem VM.rd.more {w:World} {B B':Nat} {x:VM} (h:x.rd w B) (hB:B≤B'):x.rd w B':=by
 induction h with
 |mk hb hi hx ih=> exact .mk (hb.more hB) (hi.more hB) ih
theorem Gw.keep {w w':World} {B:Nat} {v:Value} {l:List VM} (h:Gw w B v l) (hk:∀b o,b < B→w'.cell? ⟨b,o,none⟩=w.cell? ⟨b,o,none⟩):Gw w' B v l:=⟨h.1.keep hk,fun x hx=> (h.2 x hx).keep hk⟩
theorem Gw.below {w w':World} {B:Nat} {v:Value} {l:List VM} (h:Gw w B v l) (hb:Below B w w'):Gw w' B v l:=⟨h.1.below hb,fun x hx=> (h.2 x hx).bel hb⟩
theorem Gw.more {w:World} {B B':Nat} {v:Value} {l:List VM} (h:Gw w B v l) (hB:B≤B'):Gw w B' v l:=⟨h.1.more hB,fun x hx=> (h.2 x hx).more hB⟩
theorem Gw.open_ {w:World} {B:Nat} {v:Value} {l:List VM} (h:Gw w B v l):∃A c,v= .slice A l.length c∧l.length≤c∧c≤maxLen∧
  (∀k (hk:k < l.length),∃b off,A=some ⟨b,off,none⟩∧b < B∧w.cell? ⟨b,off+k*3,none⟩=some (.int .i64 l[k].n)∧w.cell? ⟨b,off+k*3+1,none⟩=some l[k].vb∧w.cell? ⟨b,off+k*3+2,none⟩=some l[k].vi):=by
 obtain ⟨_,A,c,rfl,hc,hm,hr⟩:=h.1
 refine ⟨A,c,rfl,hc,hm,fun k hk=> ?_⟩
 obtain ⟨b,off,e,hb,hcell⟩:=hr (by omega)
 have hat:∀j u,j < 3→(Ze l[k])[j]?=some u→w.cell? ⟨b,off+k*3+j,none⟩=some u:=fun j u hj hu=> by
  rw [Nat.add_assoc];exact hcell (k*3+j) u (by rw [Vo Ze 3 Qj l k j hk hj];exact hu)
 exact ⟨b,off,e,hb,hat 0 _ (by omega) rfl,hat 1 _ (by omega) rfl,hat 2 _ (by omega) rfl⟩
theorem Gw.at_ {w:World} {B:Nat} {v:Value} {l:List VM} (h:Gw w B v l) (k:Nat) (hk:k < l.length):∃A1 c1 A2 c2,l[k].vb= .slice A1 l[k].b.length c1∧l[k].vi= .slice A2 l[k].items.length c2∧l[k].b.length≤maxLen∧l[k].items.length≤maxLen:=by
 have hr:=h.2 l[k] (Fw hk)
 obtain ⟨A1,c1,e1,h1,h2, -⟩:=hr.bytes.open_
 obtain ⟨A2,c2,e2,h3,h4, -⟩:=hr.its.open_
 exact ⟨A1,c1,A2,c2,e1,e2,by omega,by omega⟩
inductive Zv.ok:Zv→Prop
 |mk {n:Int} {b:List UInt8} {l:List Zv} (hn:Qa n) (hl:∀x∈l,Zv.ok x):Zv.ok (.mk n b l)
theorem Zv.ok.num {x:Zv} (h:x.ok):Qa x.n:=by cases h;assumption
theorem Zv.ok.its {x:Zv} (h:x.ok):∀y∈x.items,y.ok:=by cases h;assumption
section
variable {H:Type} {enc:TypeId × Value→H} {w:World}
end
structure Xq (lo hi:Nat) (w w':World):Prop where
 os:w'.os=w.os
 tape:w'.tape=w.tape
 output:w'.output=w.output
 size:w.heap.size≤w'.heap.size
 block:∀k,k < w.heap.size→(k < lo∨hi≤k)→w'.heap[k]?=w.heap[k]?
theorem Xq.of_below {w w':World} (h:Below w.heap.size w w') (lo hi:Nat):Xq lo hi w w':=⟨h.os,h.tape,h.output,h.size,fun k hk _=> h.block k hk⟩
theorem Xq.of_grown {w w':World} {lo hi:Nat} {row:Option Nat} (h:w.grownBy w' row) (hr:∀k,row=some k→lo≤k∧k < hi):Xq lo hi w w':=
 ⟨h.os,h.tape,h.output,h.size,fun k hk ho=> h.block k hk fun e=> by have:=hr k e.symm;omega⟩
theorem Xq.trans {lo hi:Nat} {a b c:World} (h:Xq lo hi a b) (k:Xq lo hi b c):Xq lo hi a c:=
 ⟨k.os.trans h.os,k.tape.trans h.tape,k.output.trans h.output,Nat.le_trans h.size k.size,fun i hi ho=> (k.block i (Ea hi h.size) ho).trans (h.block i hi ho)⟩
theorem Xq.wide {lo hi lo' hi':Nat} {a b:World} (h:Xq lo hi a b) (h1:lo'≤lo) (h2:hi≤hi'):Xq lo' hi' a b:=
 ⟨h.os,h.tape,h.output,h.size,fun k hk ho=> h.block k hk (by omega)⟩
theorem Xq.below {lo hi:Nat} {w a b:World} (h:Xq lo hi a b) (hb:Below w.heap.size w a) (hlo:w.heap.size≤lo):Below w.heap.size w b:=
 hb.trans ⟨h.os,h.tape,h.output,h.size,fun k hk=> h.block k (Ea hk hb.size) (.inl (by omega))⟩
theorem Xq.cell {lo hi:Nat} {w w':World} (h:Xq lo hi w w') {p:Addr} {v:Value} (hc:w.cell? p=some v) (hp:p.block < lo∨hi≤p.block):w'.cell? p=some v:=
 (World.cell?_of_block (w:=w) (h.block p.block (World.block_lt_of_cell? _ _ hc) hp)).trans hc
def Mt (lo hi:Nat) (E:TypeId) (size:Nat) (n:Nat) (xs:List Value) (w:World) (v:Value):Prop:=
 w.ownsRow lo E size v n xs∧∀k,v.ownBlock=some k→k < hi
theorem Mt.keep {lo hi lo' hi':Nat} {E:TypeId} {size n:Nat} {xs:List Value} {w w':World} {v:Value} (h:Mt lo hi E size n xs w v) (ho:Xq lo' hi' w w') (hd:hi≤lo'∨hi'≤lo):Mt lo hi E size n xs w' v:=by
 refine ⟨⟨h.1.1,?_⟩,h.2⟩
 rcases h.1.2 with hn|⟨g,cap,cur,rfl,hbb,hg,rest⟩
 ·exact .inl hn
 ·have hlt:g < hi:=h.2 g rfl
  exact .inr ⟨g,cap,cur,rfl,hbb,by rw [ho.block g (Array.getElem?_eq_some_iff.1 hg).1 (by omega)];exact hg,rest⟩
theorem Mt.sl {lo hi:Nat} {E:TypeId} {size n:Nat} {xs:List Value} {w:World} {v:Value} (h:Mt lo hi E size n xs w v):Sl w w.heap.size size v n xs:=Sl.of_own h.1
def Lm (P:Nat→Nat→World→Value→Prop) (w:World) (e:Ending) (w':World):Prop:=
 ∃v,e= .returned v∧P w.heap.size w'.heap.size w' v∧Below w.heap.size w w'
theorem Gz.made {w w':World} {E:TypeId} {size n:Nat} {xs:List Value} {e:Ending} (h:Gz w E size n xs e w'):Lm (fun lo hi=> Mt lo hi E size n xs) w e w':=by
 obtain ⟨v,he,ho,hb⟩:=h
 exact ⟨v,he,⟨ho,fun k hk=> (ho.lt k hk).2⟩,hb⟩
def Uw (P:Nat→Nat→World→Value→Prop) (u:Value) (w:World) (e:Ending) (w':World):Prop:=
 ∃v,e= .returned (.tuple #[v,u])∧P w.heap.size w'.heap.size w' v∧Below w.heap.size w w'
theorem Zc {B:Nat} {w w':World} {b o:Nat} {v:Value} (hc:w.cell? ⟨b,o,none⟩=some v) (h:Below B w w') (hB:b < B):w'.cell? ⟨b,o,none⟩=some v:=(h.cell (p:=⟨b,o,none⟩) hB).trans hc
theorem Gc {lo hi:Nat} {E:TypeId} {size n:Nat} {xs:List Value} {w:World} {v:Value} (h:Mt lo hi E size n xs w v):∃A c,v= .slice A n c:=by
 rcases h.1.2 with ⟨rfl,rfl⟩|⟨g,cap,cur,rfl,_⟩
 ·exact ⟨none,0,rfl⟩
 ·exact ⟨_,_,rfl⟩
theorem Xq.refl (lo hi:Nat) (w:World):Xq lo hi w w:=⟨rfl,rfl,rfl,Fu _,fun _ _ _=> rfl⟩
theorem Xq.setCell {lo hi:Nat} {a w:World} (h:Xq lo hi a w) {b o:Nat} (h1:lo≤b) (h2:b < hi) (u:Value):Xq lo hi a (w.setCell ⟨b,o,none⟩ u):=
 h.trans (Xq.of_grown (Jj w b o u) fun g hg=> by cases hg;exact ⟨h1,h2⟩)
theorem Xq.drew {lo hi:Nat} {a w:World} (h:Xq lo hi a w):Xq lo hi a w.drew:=⟨h.os,h.tape,h.output,h.size,h.block⟩
theorem Mt.wide {lo hi lo' hi':Nat} {E:TypeId} {size n:Nat} {xs:List Value} {w:World} {v:Value} (h:Mt lo hi E size n xs w v) (h1:lo'≤lo) (h2:hi≤hi'):Mt lo' hi' E size n xs w v:=
 ⟨Ve h.1 h1,fun k hk=> Ea (h.2 k hk) h2⟩
theorem Hm (g:Nat) (us:List Value):∀(w:World) (o:Nat),(Qu w g o us).heap.size=w.heap.size:=by
 induction us with
 |nil=> intro w o;rfl
 |cons u us ih=> intro w o;rw [Qu,ih];simp
def OwB (l:List UInt8) (lo hi:Nat) (w:World) (v:Value):Prop:=Mt lo hi 5 1 l.length (Uy l) w v
theorem OwB.keep {l:List UInt8} {lo hi lo' hi':Nat} {w w':World} {v:Value} (h:OwB l lo hi w v) (ho:Xq lo' hi' w w') (hd:hi≤lo'∨hi'≤lo):OwB l lo hi w' v:=Mt.keep h ho hd
theorem OwB.sl {l:List UInt8} {lo hi:Nat} {w:World} {v:Value} (h:OwB l lo hi w v):Xu w w.heap.size v l:=Mt.sl h
theorem Xu.len {w:World} {B:Nat} {v:Value} {l:List UInt8} (h:Xu w B v l):l.length≤9223372036854775807:=by
 obtain ⟨A,c,_,hc,hm,_⟩:=h.open_
 unfold maxLen at hm;omega
def MkB (n:Nat) (lo hi:Nat) (w:World) (v:Value) (k r:Int):Prop:=∃j:Nat,k=j∧r=k+n∧n≤4194304∧j≤1125899906842624∧Mt lo hi 5 1 n (Uy (Lw j n)) w v
theorem MkB.keep {n:Nat} {lo hi lo' hi':Nat} {w w':World} {v:Value} {k r:Int} (h:MkB n lo hi w v k r) (ho:Xq lo' hi' w w') (hd:hi≤lo'∨hi'≤lo):MkB n lo hi w' v k r:=by
 obtain ⟨j,h1,h2,h3,h4,h6⟩:=h
 exact ⟨j,h1,h2,h3,h4,h6.keep ho hd⟩
mutual
def VM.bks:VM→List Nat
 | .mk _ _ vb vi l=> vb.ownBlock.toList++(vi.ownBlock.toList++VM.bkss l)
def VM.bkss:List VM→List Nat
 | []=> []
 |x::l=> x.bks++VM.bkss l
end
theorem VM.bks_mk (n:Int) (b:List UInt8) (vb vi:Value) (l:List VM):(VM.mk n b vb vi l).bks=vb.ownBlock.toList++(vi.ownBlock.toList++VM.bkss l):=by rw [VM.bks]
theorem VM.bkss_nil:VM.bkss []= []:=by rw [VM.bkss]
theorem VM.bkss_cons (x:VM) (l:List VM):VM.bkss (x::l)=x.bks++VM.bkss l:=by rw [VM.bkss]
theorem VM.bkss_append (l l':List VM):VM.bkss (l++l')=VM.bkss l++VM.bkss l':=by
 induction l with
 |nil=> rw [VM.bkss_nil];rfl
 |cons x l ih=> rw [List.cons_append,VM.bkss_cons,VM.bkss_cons,ih,List.append_assoc]
theorem VM.mem_bkss {x:VM} {l:List VM} (h:x∈l) {g:Nat} (hg:g∈x.bks):g∈VM.bkss l:=by
 induction l with
 |nil=> simp at h
 |cons y l ih=>
  rw [VM.bkss_cons,List.mem_append]
  simp only [List.mem_cons] at h
  rcases h with rfl|h
  ·exact .inl hg
  ·exact .inr (ih h)
inductive VM.own (lo:Nat) (w:World):VM→Prop
 |mk {n:Int} {b:List UInt8} {vb vi:Value} {l:List VM} (hb:w.ownsRow lo 5 1 vb b.length (Uy b)) (hi:w.ownsRow lo 29 3 vi l.length (l.flatMap Ze)) (hx:∀x∈l,VM.own lo w x):VM.own lo w (.mk n b vb vi l)
theorem Ql {w w':World} {base:Nat} {E:TypeId} {size n:Nat} {v:Value} {xs:List Value} (h:w.ownsRow base E size v n xs) (hk:∀g,v.ownBlock=some g→w'.heap[g]?=w.heap[g]?):w'.ownsRow base E size v n xs:=by
 refine ⟨h.1,?_⟩
 rcases h.2 with hn|⟨g,cap,cur,rfl,hbb,hg,rest⟩
 ·exact .inl hn
 ·exact .inr ⟨g,cap,cur,rfl,hbb,by rw [hk g rfl];exact hg,rest⟩
theorem VM.own.bytes {lo:Nat} {w:World} {x:VM} (h:x.own lo w):w.ownsRow lo 5 1 x.vb x.b.length (Uy x.b):=by cases h;assumption
theorem VM.own.row {lo:Nat} {w:World} {x:VM} (h:x.own lo w):w.ownsRow lo 29 3 x.vi x.items.length (x.items.flatMap Ze):=by cases h;assumption
theorem VM.own.its {lo:Nat} {w:World} {x:VM} (h:x.own lo w):∀y∈x.items,y.own lo w:=by cases h;assumption
theorem VM.own.keep {lo:Nat} {w w':World} {x:VM} (h:x.own lo w) (hk:∀g∈x.bks,w'.heap[g]?=w.heap[g]?):x.own lo w':=by
 induction h with
 |mk hb hi hx ih=>
  rw [VM.bks_mk] at hk
  refine .mk (Ql hb fun g hg=> hk g ?_) (Ql hi fun g hg=> hk g ?_) fun y hy=> ih y hy fun g hg=> hk g ?_
  ·simp [hg]
  ·simp [hg]
  ·simp only [List.mem_append];exact .inr (.inr (VM.mem_bkss hy hg))
theorem VM.own.rd {lo:Nat} {w:World} {x:VM} (h:x.own lo w):x.rd w w.heap.size:=by
 induction h with
 |mk hb hi hx ih=> exact .mk (Sl.of_own hb) (Sl.of_own hi) ih
theorem VM.own.base {lo lo':Nat} {w:World} {x:VM} (h:x.own lo w) (hl:lo'≤lo):x.own lo' w:=by
 induction h with
 |mk hb hi hx ih=> exact .mk (Ve hb hl) (Ve hi hl) ih
theorem VM.own.lt {lo:Nat} {w:World} {x:VM} (h:x.own lo w):∀g∈x.bks,lo≤g∧g < w.heap.size:=by
 induction h with
 | @mk n b vb vi l hb hi hx ih=>
  intro g hg
  rw [VM.bks_mk] at hg
  simp only [List.mem_append,Option.mem_toList] at hg
  rcases hg with hg|hg|hg
  ·exact hb.lt g hg
  ·exact hi.lt g hg
  ·have:∀l':List VM,(∀y∈l',y∈l)→g∈VM.bkss l'→lo≤g∧g < w.heap.size:=by
    intro l'
    induction l' with
    |nil=> intro _ h;rw [VM.bkss_nil] at h;simp at h
    |cons y l' ih'=>
     intro hs h
     rw [VM.bkss_cons,List.mem_append] at h
     rcases h with h|h
     ·exact ih y (hs y (by simp)) g h
     ·exact ih' (fun z hz=> hs z (by simp [hz])) h
   exact this l (fun y hy=> hy) hg
structure Ll (l:List VM) (lo hi:Nat) (w:World):Prop where
 own:∀x∈l,x.own lo w
 nd:(VM.bkss l).Nodup
 rng:∀g∈VM.bkss l,lo≤g∧g < hi
structure Ug (x:VM) (lo hi:Nat) (w:World):Prop where
 own:x.own lo w
 nd:x.bks.Nodup
 rng:∀g∈x.bks,lo≤g∧g < hi
theorem Ug.keep {x:VM} {lo hi lo' hi':Nat} {w w':World} (h:Ug x lo hi w) (ho:Xq lo' hi' w w') (hd:hi≤lo'∨hi'≤lo):Ug x lo hi w':=
 ⟨h.own.keep fun g hg=> ho.block g (h.own.lt g hg).2 (by have:=h.rng g hg;omega),h.nd,h.rng⟩
theorem Ll.keep {l:List VM} {lo hi lo' hi':Nat} {w w':World} (h:Ll l lo hi w) (ho:Xq lo' hi' w w') (hd:hi≤lo'∨hi'≤lo):Ll l lo hi w':=
 ⟨fun x hx=> (h.own x hx).keep fun g hg=> ho.block g ((h.own x hx).lt g hg).2 (by have:=h.rng g (VM.mem_bkss hx hg);omega),h.nd,h.rng⟩
theorem Ug.wide {x:VM} {lo hi lo' hi':Nat} {w:World} (h:Ug x lo hi w) (h1:lo'≤lo) (h2:hi≤hi'):Ug x lo' hi' w:=
 ⟨h.own.base h1,h.nd,fun g hg=> by have:=h.rng g hg;omega⟩
theorem Ll.wide {l:List VM} {lo hi lo' hi':Nat} {w:World} (h:Ll l lo hi w) (h1:lo'≤lo) (h2:hi≤hi'):Ll l lo' hi' w:=
 ⟨fun x hx=> (h.own x hx).base h1,h.nd,fun g hg=> by have:=h.rng g hg;omega⟩
theorem Ll.nil (lo hi:Nat) (w:World):Ll [] lo hi w:=⟨by simp,by rw [VM.bkss_nil];exact List.nodup_nil,by rw [VM.bkss_nil];simp⟩
theorem Ll.snoc {l:List VM} {x:VM} {lo m m' hi:Nat} {w:World} (h:Ll l lo m w) (hx:Ug x m' hi w) (h1:m≤m') (h2:lo≤m') (h3:m'≤hi):Ll (l++ [x]) lo hi w:=by
 refine ⟨fun y hy=> ?_,?_,fun g hg=> ?_⟩
 ·simp only [List.mem_append,List.mem_singleton] at hy
  rcases hy with hy|rfl
  ·exact h.own y hy
  ·exact hx.own.base h2
 ·rw [VM.bkss_append,VM.bkss_cons,VM.bkss_nil,List.append_nil,List.nodup_append]
  refine ⟨h.nd,hx.nd,fun a ha b hb e=> ?_⟩
  have:=h.rng a ha
  have:=hx.rng b hb
  omega
 ·rw [VM.bkss_append,VM.bkss_cons,VM.bkss_nil,List.append_nil,List.mem_append] at hg
  rcases hg with hg|hg
  ·have:=h.rng g hg;omega
  ·have:=hx.rng g hg;omega
theorem Ug.of {n:Int} {b:List UInt8} {vb vi:Value} {l:List VM} {lo m1 m2 m3 hi:Nat} {w:World} (hb:Mt lo m1 5 1 b.length (Uy b) w vb)
  (hi':Mt m1 m2 29 3 l.length (l.flatMap Ze) w vi) (hl:Ll l m2 m3 w) (h1:lo≤m1) (h2:m1≤m2) (h3:m2≤m3) (h4:m3≤hi):Ug (.mk n b vb vi l) lo hi w:=by
 have q1:∀g∈vb.ownBlock.toList,lo≤g∧g < m1:=fun g hg=> ⟨(hb.1.lt g (Option.mem_toList.1 hg)).1,hb.2 g (Option.mem_toList.1 hg)⟩
 have q2:∀g∈vi.ownBlock.toList,m1≤g∧g < m2:=fun g hg=> ⟨(hi'.1.lt g (Option.mem_toList.1 hg)).1,hi'.2 g (Option.mem_toList.1 hg)⟩
 refine ⟨.mk hb.1 (Ve hi'.1 h1) fun x hx=> (hl.own x hx).base (by omega),?_,fun g hg=> ?_⟩
 ·rw [VM.bks_mk,List.nodup_append]
  refine ⟨by cases vb.ownBlock <;> simp,?_,fun a ha c hc e=> ?_⟩
  ·rw [List.nodup_append]
   refine ⟨by cases vi.ownBlock <;> simp,hl.nd,fun a ha c hc e=> ?_⟩
   have:=q2 a ha
   have:=hl.rng c hc
   omega
  ·have:=q1 a ha
   rw [List.mem_append] at hc
   rcases hc with hc|hc
   ·have:=q2 c hc;omega
   ·have:=hl.rng c hc;omega
 ·rw [VM.bks_mk] at hg
  simp only [List.mem_append] at hg
  rcases hg with hg|hg|hg
  ·have:=q1 g hg;omega
  ·have:=q2 g hg;omega
  ·have:=hl.rng g hg;omega
def Ue (X:Zv) (lo hi:Nat) (w:World) (v:Value):Prop:=∃x:VM,x.d=X∧v=Qs x∧Ug x lo hi w
theorem Ue.keep {X:Zv} {lo hi lo' hi':Nat} {w w':World} {v:Value} (h:Ue X lo hi w v) (ho:Xq lo' hi' w w') (hd:hi≤lo'∨hi'≤lo):Ue X lo hi w' v:=by
 obtain ⟨x,h1,h2,h3⟩:=h
 exact ⟨x,h1,h2,h3.keep ho hd⟩
theorem Ue.wide {X:Zv} {lo hi lo' hi':Nat} {w:World} {v:Value} (h:Ue X lo hi w v) (h1:lo'≤lo) (h2:hi≤hi'):Ue X lo' hi' w v:=by
 obtain ⟨x,a,b,c⟩:=h
 exact ⟨x,a,b,c.wide h1 h2⟩
theorem Ue.rd {X:Zv} {lo hi:Nat} {w:World} {v:Value} (h:Ue X lo hi w v):∃x:VM,x.d=X∧v=Qs x∧x.rd w w.heap.size:=by
 obtain ⟨x,h1,h2,h3⟩:=h
 exact ⟨x,h1,h2,h3.own.rd⟩
theorem Zq {w:World} {base:Nat} {E:TypeId} {size n:Nat} {v:Value} {xs:List Value} (h:w.ownsRow base E size v n xs):∃A c,v= .slice A n c:=by
 rcases h.2 with ⟨rfl,rfl⟩|⟨g,cap,cur,rfl,_⟩
 ·exact ⟨none,0,rfl⟩
 ·exact ⟨_,_,rfl⟩
mutual
def VM.mkd:VM→Nat→VM
 | .mk n b vb vi l,k=> .mk n (Lw k b.length) vb vi (VM.mks l (k+b.length))
def VM.mks:List VM→Nat→List VM
 | [],_=> []
 | .mk _ b vb vi l'::l,k=> .mk k (Lw (k+1) b.length) vb vi (VM.mks l' (k+1+b.length))::VM.mks l (k+1+(b.length+Zv.sizes (VM.ds l')))
end
theorem own:ownKnob prog.godebug=none:=by kernel_rfl
theorem laidOut:laidOutB prog=true:=by kernel_rfl
theorem Hj {H:Type} {enc:TypeId × Value→H} {P:Program} (hl:laidOutB P=true) {W W':World} (hb:Below W.heap.size W W'):
  ∀(ts:List TypeId) (vs:List Value) (ds:List (DataW H)) (ps:List MemPlace),(ts.all fun t=> P.readableRec t && decide (t < P.types.size))=true→(∀x∈ps,x.block < W.heap.size)→
  DataW.TrodAll enc P W 0 (fun _=> true) true ts vs ds ps→DataW.TrodAll enc P W' 0 (fun b=> decide (b < W.heap.size)) true ts vs ds ps:=by
 intro ts
 induction ts with
 |nil=> intro vs ds ps _ _ h;cases vs <;> cases ds <;> exact h
 |cons t ts ih=>
  intro vs ds ps hr hp h
  cases vs with
  |nil=> simp [DataW.TrodAll] at h
  |cons v vs=>
   cases ds with
   |nil=> simp [DataW.TrodAll] at h
   |cons d ds=>
    obtain ⟨p,q,h1,h2,rfl⟩:=h
    simp only [List.all_cons,Bool.and_eq_true,decide_eq_true_eq] at hr
    refine ⟨p,q,Below.trod hl hr.1.1 hr.1.2 h1 hb (fun x hx=> hp x (by simp [hx])),ih vs ds q ?_ (fun x hx=> hp x (by simp [hx])) h2,rfl⟩
    simpa using hr.2
theorem trodAll_lt {H:Type} {enc:TypeId × Value→H} {P:Program} {W:World}:
  ∀(ts:List TypeId) (vs:List Value) (ds:List (DataW H)) (ps:List MemPlace),
  DataW.TrodAll enc P W 0 (fun _=> true) true ts vs ds ps→∀x∈ps,x.block < W.heap.size:=by
 intro ts
 induction ts with
 |nil=>
  intro vs ds ps h x hx
  cases vs <;> cases ds <;> simp [DataW.TrodAll] at h
  subst h;simp at hx
 |cons t ts ih=>
  intro vs ds ps h x hx
  cases vs with
  |nil=> simp [DataW.TrodAll] at h
  |cons v vs=>
   cases ds with
   |nil=> simp [DataW.TrodAll] at h
   |cons d ds=>
    obtain ⟨p,q,⟨m,hm⟩,h2,rfl⟩:=h
    simp only [List.mem_append] at hx
    rcases hx with hx|hx
    ·exact DataW.trod_lt m _ _ _ hm x hx
    ·exact ih vs ds q h2 x hx
def Iq : List (String × DataW Unit) := [("math/bits.deBruijn32tab", Rows.laid_math_bits_deBruijn32tab), ("math/bits.deBruijn64tab", Rows.laid_math_bits_deBruijn64tab), ("internal/strconv.uint64pow10", Rows.laid_internal_strconv_uint64pow10)]
abbrev Tab (w : World) : Prop := Lib.TabBelow prog w.heap.size w "internal/strconv.uint64pow10" .u64 Lib.pow10Tab
theorem Pb {w W:World} (ht:Tab w) (h:Below w.heap.size w W):Tab W:=fun w' hb=> ht.on h w' (hb.mono h.size)
theorem gTab : prog.globalNamed "internal/strconv.uint64pow10" = some 0 := by kernel_rfl
theorem gTabType:(prog.globals[0]?).map (·.type)=some 122:=by kernel_rfl
theorem tab_of_laid {W:World} (h:laidMetH prog Iq W):Tab W:=by
 refine Lib.tabBelow_of_tabIs ?_
 rw [MakeChecks.laidMetH_plain _ _ _ (by kernel_rfl)] at h
 obtain ⟨ps,⟨g0,t0,cs0,f0,p0,q0,hg0,ht0,hv0,hd0,⟨g1,t1,cs1,f1,p1,q1,hg1,ht1,hv1,hd1,⟨g2,t2,cs2,f2,p2,q2,hg2,ht2,hv2,hd2,_,_⟩,_⟩,_⟩,_,_⟩:=h
 obtain rfl:=Fz (gTab.symm.trans hg2)
 obtain rfl:=Fz (gTabType.symm.trans ht2)
 have hd:DataW.trod _ prog W 0 (fun _=> true) false f2 122 cs2.toList=some (Lib.tabData .u64 Lib.pow10Tab,p2):=hd2
 unfold Lib.TabIs
 rw [hv2,←Lib.cells_of_tab underlying122 underlying116 (by kernel_rfl) (by kernel_rfl) hd]
theorem door_met (os:Os) (args:Array Value):laidMetH prog Iq ((World.doorLaid prog 400 os).forCall (fun _ _=> 0) ⟨#[],args, []⟩).memory:=
 laidMetH_of_parts3 (fuel:=8) (laidMet_of_run' 8 (by kernel_rfl) (by kernel_rfl)) (by kernel_rfl) (by kernel_rfl)
theorem liftD {F:Nat} {fn:Func} {s:ChangeSpec} {conds:List PathCond} (os:Os) (started:os.Started) (H:Type) (enc:TypeId × Value→H)
  (noInit:checked.prog.inits.idxOf? F=none) (hfn:checked.prog.funcs[F]?=some fn)
  (witness:∃(w:World) (tape:Tape) (i:Input),w.os=os∧(w.forCall tape i).Shaped checked.prog∧i.vars= []∧Input.okWide checked.prog (w.forCall tape i) .any w.heap.size F i∧
    ((s.pre enc checked.prog fn conds false (w.forCall tape i).memory i.args∧laidMetH prog Iq (w.forCall tape i).memory)∧sizedMet enc checked.prog fn (OpenSpec.ofChange s) false (w.forCall tape i).memory i.args)∧
    ({}:Assume).holds checked.prog (lone (Frame.enter checked.prog F i.args .normal) [] (w.forCall tape i)))
  (hvars:s.vars= []) (hres:fn.resultTypes= #[4])
  (hread:(fn.params.toList.all fun t=> prog.readableRec t && decide (t < prog.types.size))=true)
  (hspec:∀(vs:List Value) (W:World) (ds:List (DataW H)) (p:List MemPlace),DataW.TrodAll enc prog W 0 (fun _=> true) true fn.params.toList vs ds p→s.fn H ds={ results:= [.lit (.bool true)],args:=ds })
  (walk:∀(W:World) (base:Nat) (args:Array Value) (ds:List (DataW H)) (p:List MemPlace),
    (∀(j:Nat) t v,fn.params[j]?=some t→args[j]?=some v→Value.okWide prog W .any base t v)→
    DataW.TrodAll enc prog W 0 (fun _=> true) true fn.params.toList args.toList ds p→Tab W→
    Calls prog F args W fun e w'=> e= .returned (.bool true)∧Below W.heap.size W w'):
  ReturnsInHanded {} checked os F .any (fun w args=> (s.pre enc checked.prog fn conds false w args∧laidMetH prog Iq w)∧sizedMet enc checked.prog fn (OpenSpec.ofChange s) false w args) (s.post enc checked.prog fn false true false false):=by
 refine returnsInHanded_of_change_and (C:=checked) (X:=fun w _=> laidMetH prog Iq w) (fun _ _ _ hh h=> h.of_heap hh) own started noInit hfn witness ?_
 intro W base args ds gs before hval0 hW hcnd _ hL _
 have hW':=hW
 obtain ⟨p,q,hA0,hV,rfl,hfz,hnd⟩:=hW
 have hA:DataW.TrodAll enc prog W 0 (fun _=> true) true fn.params.toList args.toList ds p:=hA0
 have hval:∀(j:Nat) t v,fn.params[j]?=some t→args[j]?=some v→Value.okWide prog W .any base t v:=hval0
 rw [hvars] at hV
 obtain ⟨rfl,rfl⟩:=trodVars_none hV
 refine (walk W base args ds p hval hA (tab_of_laid hL)).mono fun e W' ⟨he,bel⟩=> ?_
 subst he
 have hs:=hspec _ _ _ _ hA
 refine ⟨_,rfl,ds, [],p++ [], [],p, [],hW',?_,?_,?_,bel.frame _,fun h=> by cases h⟩
 ·rw [hres]
  have e1:(s.fn H (ds++ [])).results= [.lit (.bool true)]:=by rw [List.append_nil,hs]
  rw [e1]
  exact trodAll_mk1 (shut_bool underlying4 _)
 ·have e2:(s.fn H (ds++ [])).args=ds:=by rw [List.append_nil,hs]
  rw [e2]
  have hb:=Hj (enc:=enc) laidOut bel _ _ _ _ hread (trodAll_lt _ _ _ _ hA) hA
  exact hb
 ·have e3:(s.fn H (ds++ [])).vars= []:=by rw [List.append_nil,hs]
  rw [e3,hvars]
  rfl
def Xs (x a b:Int):Bool:=decide (a≤x) && decide (x≤b)
theorem Xp {x a b:Int} (h:a≤x) (h':x≤b):Xs x a b=true:=by simp [Xs,h,h']
theorem Jl {x a b:Int} (h:x < a∨b < x):Xs x a b=false:=by
 simp only [Xs,Bool.and_eq_false_iff,decide_eq_false_iff_not];omega
theorem Jv {x a b:Int}:Xs x a b=true↔a≤x∧x≤b:=by simp [Xs]
theorem Qi (x a b:Int) (w:World):Calls prog 30 #[.int .i64 x, .int .i64 a, .int .i64 b] w fun e w'=> e= .returned (.bool (Xs x a b))∧w=w':=by
 by_cases h:a≤x
 ·by_cases h2:x≤b
  ·have H:=Fs (Xp h h2)
   go_enter func30,ntmps30
   go_wp2
   go_ret
   exact ⟨Zd (by rw [H.out];try simp [h2]),rfl⟩
  ·have H:=Fs (Jl (x:=x) (a:=a) (b:=b) (by omega))
   have h4:decide (x≤b)=false:=by simpa using h2
   go_enter func30,ntmps30
   go_wp2
   go_ret
   exact ⟨Zd (by rw [H.out]),rfl⟩
 ·have H:=Fs (Jl (x:=x) (a:=a) (b:=b) (by omega))
  have h3:decide (a≤x)=false:=by simpa using h
  go_enter func30,ntmps30
  go_wp2
  go_ret
  exact ⟨Zd (by rw [H.out]),rfl⟩
theorem Zm (x a b:Int) (w:World):Calls prog 26 #[.int .i64 x, .int .i64 a, .int .i64 b] w fun e w'=> e= .returned (.bool (Xs x a b))∧w=w':=by
 by_cases h:a≤x
 ·by_cases h2:x≤b
  ·have H:=Fs (Xp h h2)
   go_enter func26,ntmps26
   go_wp2
   go_ret
   exact ⟨Zd (by rw [H.out];try simp [h2]),rfl⟩
  ·have H:=Fs (Jl (x:=x) (a:=a) (b:=b) (by omega))
   have h4:decide (x≤b)=false:=by simpa using h2
   go_enter func26,ntmps26
   go_wp2
   go_ret
   exact ⟨Zd (by rw [H.out]),rfl⟩
 ·have H:=Fs (Jl (x:=x) (a:=a) (b:=b) (by omega))
  have h3:decide (a≤x)=false:=by simpa using h
  go_enter func26,ntmps26
  go_wp2
  go_ret
  exact ⟨Zd (by rw [H.out]),rfl⟩
theorem Yy (a b:Int) (w:World):Calls prog 53 #[.int .i64 a, .int .i64 b] w fun e w'=> e= .returned (.int .i64 (min a b))∧w=w':=by
 by_cases h:b < a
 ·have H:=Fs (show min a b=b by omega)
  go_enter func53,ntmps53
  go_wp2
  go_ret
  exact ⟨Qe H.out.symm,rfl⟩
 ·have H:=Fs (show min a b=a by omega)
  go_enter func53,ntmps53
  go_wp2
  go_ret
  exact ⟨Qe H.out.symm,rfl⟩
theorem snocRec {α:Type} {p:List α→Prop} (nil:p []) (append_singleton:∀(l:List α) (c:α),p l→p (l++ [c])) (l:List α):p l:=by
 have h:∀l:List α,p l.reverse:=by
  intro l
  induction l with
  |nil=> simpa using nil
  |cons c l ih=> simpa using append_singleton _ c ih
 simpa using h l.reverse
def Ty (n:Nat):List UInt8:=if h:n=0 then [] else Ty (n / 10)++ [UInt8.ofNat (48+n % 10)]
termination_by n
decreasing_by omega
theorem Yv:Ty 0= []:=by rw [Ty];simp
theorem Vg {n:Nat} (h:n≠0):Ty n=Ty (n / 10)++ [UInt8.ofNat (48+n % 10)]:=by rw [Ty,dif_neg h]
def Ym (c:UInt8):Bool:=decide (48≤c.toNat) && decide (c.toNat≤57)
def Yg (l:List UInt8):Nat:=l.foldl (fun n c=> 10*n+(c.toNat - 48)) 0
theorem Pn (l:List UInt8) (c:UInt8):Yg (l++ [c])=10*Yg l+(c.toNat - 48):=by simp [Yg]
theorem Vw (m:Nat) (h:m < 10):(UInt8.ofNat (48+m)).toNat=48+m:=by simp;omega
theorem Pv (c:UInt8):Ym c=true↔48≤c.toNat∧c.toNat≤57:=by simp [Ym]
theorem digs_all (n:Nat):∀c∈Ty n,Ym c=true:=by
 induction n using Nat.strongRecOn with
 | _ n ih=>
  intro c hc
  by_cases h:n=0
  ·subst h;rw [Yv] at hc;simp at hc
  ·rw [Vg h,List.mem_append] at hc
   rcases hc with hc|hc
   ·exact ih (n / 10) (by omega) c hc
   ·simp only [List.mem_singleton] at hc
    subst hc
    rw [Pv,Vw _ (by omega)];omega
theorem valD_digs (n:Nat):Yg (Ty n)=n:=by
 induction n using Nat.strongRecOn with
 | _ n ih=>
  by_cases h:n=0
  ·subst h;rw [Yv];rfl
  ·rw [Vg h,Pn,ih (n / 10) (by omega),Vw _ (by omega)];omega
theorem Gs (n:Nat) (h:n≠0):∃c l,Ty n=c::l∧c≠48:=by
 induction n using Nat.strongRecOn with
 | _ n ih=>
  by_cases h10:n / 10=0
  ·refine ⟨UInt8.ofNat (48+n % 10), [],by rw [Vg h,h10,Yv];rfl,?_⟩
   intro hx
   have:=congrArg UInt8.toNat hx
   rw [Vw _ (by omega)] at this
   have e48:(48:UInt8).toNat=48:=rfl
   omega
  ·obtain ⟨c,l,e,hc⟩:=ih (n / 10) (by omega) h10
   exact ⟨c,l++ [UInt8.ofNat (48+n % 10)],by rw [Vg h,e];rfl,hc⟩
theorem digs_valD (l:List UInt8) (hd:∀c∈l,Ym c=true) (hh:l.head?≠some 48):Ty (Yg l)=l:=by
 induction l using snocRec with
 |nil=> exact Yv
 |append_singleton l c ih=>
  have hc:=(Pv c).1 (hd c (by simp))
  rw [Pn]
  by_cases hl:l= []
  ·subst hl
   have hne:c≠48:=by rintro rfl;exact hh rfl
   have hne2:c.toNat≠48:=fun hx=> hne (UInt8.toNat_inj.1 hx)
   have hv:Yg []=0:=rfl
   rw [hv,Vg (by omega),show (10*0+(c.toNat - 48)) / 10=0 from by omega,Yv]
   have:UInt8.ofNat (48+(10*0+(c.toNat - 48)) % 10)=c:=by
    apply UInt8.toNat_inj.1;rw [Vw _ (by omega)];omega
   rw [this]
  ·have ih':=ih (fun d hd'=> hd d (by simp [hd'])) (by
    cases l with
    |nil=> exact absurd rfl hl
    |cons a l=> simpa using hh)
   have hpos:Yg l≠0:=by
    intro h0
    rw [h0,Yv] at ih'
    exact hl ih'.symm
   rw [Vg (by omega),show (10*Yg l+(c.toNat - 48)) / 10=Yg l from by omega,ih']
   have:UInt8.ofNat (48+(10*Yg l+(c.toNat - 48)) % 10)=c:=by
    apply UInt8.toNat_inj.1;rw [Vw _ (by omega)];omega
   rw [this]
def Ye (n:Int):List UInt8:=if n=0 then [48] else if n < 0 then 45::Ty n.natAbs else Ty n.natAbs
theorem fmt_val (l:List UInt8) (hd:∀c∈l,Ym c=true) (hne:l≠ []):(Ye (Yg l:Nat)=l)↔¬(l.head?=some 48∧1 < l.length):=by
 by_cases hh:l.head?=some 48
 ·by_cases hl:1 < l.length
  ·have hbad:Ye (Yg l:Nat)≠l:=by
    intro hx
    unfold Ye at hx
    split at hx
    ·rw [←hx] at hl;simp at hl
    ·rename_i h0
     rw [if_neg (by omega)] at hx
     obtain ⟨c,t,e,hc⟩:=Gs (Yg l) (by omega)
     rw [Int.natAbs_natCast,e] at hx
     rw [←hx] at hh
     simp at hh
     exact hc hh
   exact ⟨fun h=> absurd h hbad,fun h=> absurd ⟨hh,hl⟩ h⟩
  ·have:l= [48]:=by
    match l,hne,hh,hl with
    | [a],_,hh,_=> simp at hh;rw [hh]
    |a::b::t,_,_,hl=> simp at hl
   subst this
   exact ⟨fun _ h=> hl h.2,fun _=> rfl⟩
 ·have e:=digs_valD l hd hh
  refine ⟨fun _ h=> hh h.1,fun _=> ?_⟩
  have hpos:Yg l≠0:=by
   intro h0;rw [h0,Yv] at e;exact hne e.symm
  unfold Ye
  rw [if_neg (by omega),if_neg (by omega),Int.natAbs_natCast,e]
theorem valD_bd (l:List UInt8) (hd:∀c∈l,Ym c=true):Yg l < 10 ^ l.length:=by
 induction l using snocRec with
 |nil=> simp [Yg]
 |append_singleton l c ih=>
  have hc:=(Pv c).1 (hd c (by simp))
  have:=ih (fun d hd'=> hd d (by simp [hd']))
  rw [Pn,List.length_append,List.length_singleton,Nat.pow_succ]
  omega
theorem Pi (n k:Nat) (h:n < 10 ^ k):(Ty n).length≤k:=by
 induction k generalizing n with
 |zero=> have:n=0:=by simpa using h
         subst this;rw [Yv];simp
 |succ k ih=>
  by_cases h0:n=0
  ·subst h0;rw [Yv];simp
  ·rw [Vg h0,List.length_append]
   have:=ih (n / 10) (by rw [Nat.pow_succ] at h;omega)
   simp;omega
theorem val_int {k:IntKind} {a b:Int} (h:a=b):Value.int k a= .int k b:=by rw [h]
def Tg (l:List UInt8):ByteArray:=⟨l.toArray⟩
theorem Rm (l:List UInt8):(Tg l).data.toList=l:=by simp [Tg]
theorem str_size (l:List UInt8):(Tg l).size=l.length:=by simp [Tg,ByteArray.size]
def dch (m:Nat):UInt8:=UInt8.ofNat (48+m)
theorem dch_size (m:Nat):(Tg [dch m]).size=1:=by rw [str_size];rfl
theorem Ky (c:UInt8) (S:List UInt8):Tg [c]++Tg S=Tg (c::S):=by
 unfold Tg;rw [ByteArray.mk_append_mk];rfl
theorem digs_cons (m:Nat) (h:m≠0) (S:List UInt8):Ty m++S=Ty (m / 10)++(dch (m % 10)::S):=by
 rw [Vg h];simp [dch]
theorem Hd (W:World) (z:Int) (d:Nat) (h:z=48+(d:Int)) (hd:d < 10):
  (convert 22 9 (.slice (some ⟨W.heap.size,0,none⟩) 1 1)).run prog (W.alloc (.cells #[.int .u8 z] 5))= .ok (.string (Tg [dch d])) (W.alloc (.cells #[.int .u8 z] 5)):=by
 subst h
 refine run_convert_bytes_back (P:=prog) _ 22 9 5 ⟨W.heap.size,0,none⟩ 1 [UInt8.ofNat (48+d)] underlying22 underlying5 underlying9 ?_
 intro j hj
 obtain rfl:j=0:=by simpa using hj
 have e:(([UInt8.ofNat (48+d)][0]'hj).toNat:Int)=48+(d:Int):=by
  show ((UInt8.ofNat (48+d)).toNat:Int)=_
  rw [Vw _ hd];omega
 rw [e]
 simp [go_sem,Addr.add]
theorem Qf (n:Int) (w:World) (hn: -9223372036854775808≤n∧n≤9223372036854775807):
  Calls prog 70 #[.int .i64 n] w fun e w'=> e= .returned (.string (Tg (Ye n)))∧Below w.heap.size w w':=by
 obtain ⟨hn0,hn1⟩:=hn
 by_cases hz:n=0
 ·subst hz
  have HX:=Fs (show Ye 0= [48] from rfl)
  go_enter func70,ntmps70
  go_wp2
  go_ret
  exact ⟨Jd (by rw [HX.out];rfl),Fv _ _⟩
 ·have hzb:(n==0)=false:=by simpa using hz
  have hlen:=Pi n.natAbs 19 (by omega)
  have HZ:=Fs hz
  clear hz
  go_enter func70,ntmps70
  go_wp2
  go_loopw [3,4] (fun s i wr=> ∃(x:Int) (S:List UInt8),i= .int .i64 x∧s= .string (Tg S)∧ -9223372036854775808≤x∧x≤9223372036854775807∧(n < 0→x≤0)∧(0≤n→0≤x)∧Ty n.natAbs=Ty x.natAbs++S∧Below w.heap.size w wr) (fun _ i _=> (intOf i).natAbs)
  case atStart=> exact ⟨n, [],rfl,rfl,hn0,hn1,by omega,by omega,by simp,Fv _ _⟩
  case round=>
   obtain ⟨x,S,rfl,rfl,hx0,hx1,hs1,hs2,hd,hb⟩:=hrel
   have HD:=Fs hd
   have hSl:(Tg S).size≤19:=by
    have:=congrArg List.length hd
    rw [List.length_append] at this
    rw [str_size];omega
   clear hd
   by_cases hx:x=0
   ·subst hx
    have HE:=Fs (HD.out.trans (by rw [show (0:Int).natAbs=0 from rfl,Yv,List.nil_append]))
    clear HD hx0 hx1 hs1 hs2
    by_cases hneg:n < 0
    ·have HF:=Fs (show Ye n=45::Ty n.natAbs by unfold Ye;rw [if_neg HZ.out,if_pos hneg])
     go_wp2
     go_ret
     exact ⟨Jd (by rw [HF.out,HE.out];rfl),hb⟩
    ·have HF:=Fs (show Ye n=Ty n.natAbs by unfold Ye;rw [if_neg HZ.out,if_neg hneg])
     go_wp2
     go_ret
     exact ⟨Jd (by rw [HF.out,HE.out]),hb⟩
   ·have hxb:(x==0)=false:=by simpa using hx
    have hxn:x.natAbs≠0:=by omega
    have HN:=Fs (HD.out.trans (digs_cons x.natAbs hxn S))
    have HX:=Fs hx
    clear hx
    by_cases hpos:0≤x
    ·have hcv:=Hd wr (48+x % 10) (x.natAbs % 10) (by omega) (by omega)
     have hm:¬x % 10 < 0:=by omega
     have hsz:=dch_size (x.natAbs % 10)
     have hsz1:(Tg [dch (x.natAbs % 10)]).size≤1:=by omega
     clear hsz
     have HB:=Fs (hb.alloc hb.size (.cells #[.int .u8 (48+x % 10)] 5))
     go_wp2
     go_roundw
     case rel=>
      refine ⟨x / 10,dch (x.natAbs % 10)::S,rfl,by rw [Ky],by omega,by omega,by omega,by omega,?_,HB.out⟩
      rw [HN.out,show (x / 10).natAbs=x.natAbs / 10 from by omega]
     case measure=> have:=HX.out;simp [intOf];omega
    ·have t1:=Int.tmod_eq_emod_of_nonneg (show 0≤ -x by omega) (b:=10)
     rw [Int.neg_tmod] at t1
     have t2: -10 < x.tmod 10:=by omega
     have t3:x.tmod 10≤0:=by omega
     have hsz:=dch_size (x.natAbs % 10)
     have hsz1:(Tg [dch (x.natAbs % 10)]).size≤1:=by omega
     clear hsz
     have HT:=Fs (show x.tdiv 10= -((-x) / 10) by
      have:=Int.tdiv_eq_ediv_of_nonneg (show 0≤ -x by omega) (b:=10)
      rw [Int.neg_tdiv] at this
      omega)
     by_cases hz0:x.tmod 10 < 0
     ·have hcv:=Hd wr (48+ -x % 10) (x.natAbs % 10) (by omega) (by omega)
      have HB:=Fs (hb.alloc hb.size (.cells #[.int .u8 (48+ -x % 10)] 5))
      go_wp2
      go_roundw
      case rel=>
       have e:=HT.out
       refine ⟨x.tdiv 10,dch (x.natAbs % 10)::S,rfl,by rw [Ky],by omega,by omega,by omega,by omega,?_,HB.out⟩
       rw [HN.out,show (x.tdiv 10).natAbs=x.natAbs / 10 from by omega]
      case measure=> have:=HX.out;have e:=HT.out;show (x.tdiv 10).natAbs < x.natAbs;omega
     ·have ht0:x.tmod 10=0:=by omega
      have ed:x.natAbs % 10=0:=by omega
      have hcv:=Hd wr 48 (x.natAbs % 10) (by omega) (by omega)
      have HB:=Fs (hb.alloc hb.size (.cells #[.int .u8 48] 5))
      clear t1 t2 t3 hz0 ed
      go_wp2
      go_roundw
      case rel=>
       have e:=HT.out
       refine ⟨x.tdiv 10,dch (x.natAbs % 10)::S,rfl,by rw [Ky],by omega,by omega,by omega,by omega,?_,HB.out⟩
       rw [HN.out,show (x.tdiv 10).natAbs=x.natAbs / 10 from by omega]
      case measure=> have:=HX.out;have e:=HT.out;show (x.tdiv 10).natAbs < x.natAbs;omega
def Xk (l:List UInt8):Bool:=l.all Ym
def Jf (l:List UInt8):Bool:=decide (1≤l.length) && (decide (l.length≤13) && (Xk l && (!(l.head?==some 48 && decide (1 < l.length)) && decide (Yg l≤1000000000000))))
def Tt (l:List UInt8):Int:=if Jf l then (Yg l:Int) else 0
theorem My (s:ByteArray) (k:Nat) (h:k < s.size):Yg (s.data.toList.take (k+1))=10*Yg (s.data.toList.take k)+(s[k].toNat - 48):=by
 have h':k < s.data.toList.length:=by rw [←Lib.size_eq];exact h
 rw [List.take_succ_eq_append_getElem h',Pn]
 rfl
theorem Pj (s:ByteArray) (k:Nat) (h:k < s.size):Xk (s.data.toList.take (k+1))=(Xk (s.data.toList.take k) && Ym s[k]):=by
 have h':k < s.data.toList.length:=by rw [←Lib.size_eq];exact h
 rw [List.take_succ_eq_append_getElem h',Xk,List.all_append]
 simp [Xk]
 rfl
theorem Rq (s:ByteArray) (k:Nat) (h:k < s.size) (hd:Ym s[k]=false):Xk s.data.toList=false:=by
 have h':k < s.data.toList.length:=by rw [←Lib.size_eq];exact h
 rw [Xk,List.all_eq_false]
 exact ⟨s[k],Fw h',by rw [hd];simp⟩
theorem Rs (l:List UInt8) (k:Nat) (h:Xk (l.take k)=true) (hk:k≤13):Yg (l.take k) < 10000000000000:=by
 have h1:=valD_bd (l.take k) (by simpa [Xk] using h)
 have h2:(l.take k).length≤13:=by rw [List.length_take];omega
 have h3:10 ^ (l.take k).length≤10 ^ 13:=Nat.pow_le_pow_right (by omega) h2
 omega
theorem Po (s:ByteArray):s.data.toList.take s.size=s.data.toList:=by rw [Lib.size_eq];exact List.take_length
theorem Um (s:ByteArray) (w:World) (hs:s.size≤maxLen):
  Calls prog 85 #[.string s] w fun e w'=> e= .returned (.tuple #[.int .i64 (Tt s.data.toList), .bool (Jf s.data.toList)])∧w=w':=by
 unfold maxLen at hs
 have hlen:s.data.toList.length=s.size:=(Lib.size_eq s).symm
 have no:Jf s.data.toList=false→(Ending.returned (.tuple #[.int .i64 0, .bool false])= .returned (.tuple #[.int .i64 (Tt s.data.toList), .bool (Jf s.data.toList)])):=by
  intro h;rw [Tt,h];simp
 by_cases h0:s.size=0
 ·have H:=Fs (show Jf s.data.toList=false by simp [Jf,hlen,h0])
  have HN:=Fs (no H.out)
  have he:(s.toList==(⟨#[]⟩:ByteArray).toList)=true:=by
   rw [beq_iff_eq,Lib.toList_data,Lib.toList_data]
   exact List.eq_nil_of_length_eq_zero (by rw [hlen,h0])
  have he2:s.toList.isEmpty=true:=by rw [Lib.toList_data,List.isEmpty_iff];exact List.eq_nil_of_length_eq_zero (by rw [hlen,h0])
  clear no hlen h0
  go_enter func85,ntmps85
  go_wp2
  go_ret2
  exact ⟨HN.out,rfl⟩
 have hpos:0 < s.size:=by omega
 have hne:(s.toList==(⟨#[]⟩:ByteArray).toList)=false:=by
  rw [beq_eq_false_iff_ne,Lib.toList_data,Lib.toList_data]
  intro hx
  have:=congrArg List.length hx
  rw [hlen] at this;simp only [List.length_nil] at this;omega
 have hne2:s.toList.isEmpty=false:=by
  rw [Lib.toList_data,Bool.eq_false_iff];intro hx;rw [List.isEmpty_iff] at hx
  have:=congrArg List.length hx
  rw [hlen] at this;simp only [List.length_nil] at this;omega
 clear h0
 by_cases h13:13 < s.size
 ·have H:=Fs (show Jf s.data.toList=false by simp only [Jf,hlen,decide_eq_false (show ¬s.size≤13 by omega)];simp)
  have HN:=Fs (no H.out)
  clear no hlen
  go_enter func85,ntmps85
  go_wp2
  go_ret2
  exact ⟨HN.out,rfl⟩
 have hd13:decide (13 < (s.size:Int))=false:=Fx (by omega)
 have hhead:s.data.toList.head?=some s[0]:=by
  rw [List.head?_eq_getElem?,List.getElem?_eq_getElem (by rw [hlen];exact hpos)];rfl
 by_cases hz:s[0].toNat=48∧1 < s.size
 ·have e48:s[0]=48:=UInt8.toNat_inj.1 hz.1
  have H:=Fs (show Jf s.data.toList=false by simp only [Jf,hhead,e48,hlen,decide_eq_true hz.2];simp)
  have HN:=Fs (no H.out)
  have hb:((s[0].toNat:Int)==48)=true:=by rw [beq_iff_eq];omega
  obtain ⟨_,hz2⟩:=hz
  clear no hlen hhead e48
  go_enter func85,ntmps85
  go_wp2
  go_ret2
  exact ⟨HN.out,rfl⟩
 have hlead:(s.data.toList.head?==some 48 && decide (1 < s.data.toList.length))=false:=by
  rw [hhead,hlen]
  by_cases h1:1 < s.size
  ·have:s[0]≠48:=by intro hx;exact hz ⟨by rw [hx];rfl,h1⟩
   simp [this]
  ·simp [h1]
 have HL:=Fs hlead
 have HN:=Fs no
 clear hlead hhead no
 have HLEN:=Fs hlen
 clear hlen
 have loopd:∀(P:Prop),((s[0].toNat:Int)==48)=true→1 < s.size→P:=fun P h1 h2=> absurd ⟨by rw [beq_iff_eq] at h1;omega,h2⟩ hz
 have HLD:=Fs loopd
 clear loopd
 have fin:∀k:Nat,k=s.size→Xk (s.data.toList.take k)=true→Yg (s.data.toList.take k)≤1000000000000→Ending.returned (.tuple #[.int .i64 ((Yg (s.data.toList.take k):Nat):Int), .bool true])= .returned (.tuple #[.int .i64 (Tt s.data.toList), .bool (Jf s.data.toList)]):=by
  intro k hk ha hv
  subst hk
  rw [Po] at*
  have:Jf s.data.toList=true:=by unfold Jf;rw [HL.out,ha,HLEN.out,Fy hv,Fy (show s.size≤13 by omega),Fy (show 1≤s.size by omega)];rfl
  rw [Tt,this,if_pos rfl]
 have big:∀k:Nat,k=s.size→1000000000000 < Yg (s.data.toList.take k)→Jf s.data.toList=false:=by
  intro k hk hv
  subst hk
  rw [Po] at hv
  simp only [Jf,decide_eq_false (show ¬Yg s.data.toList≤1000000000000 by omega)];simp
 have FIN:=Fs fin
 have BIG:=Fs big
 clear fin big hz
 by_cases hb0:((s[0].toNat:Int)==48)=true
 ·have h1:¬1 < s.size:=fun h=> HLD.out False hb0 h
  have hd1:decide (1 < (s.size:Int))=false:=Fx (by omega)
  go_enter func85,ntmps85
  go_wp2
  clear hb0
  go_loop [4,5] (fun n i=> ∃k:Nat,k≤s.size∧i= .int .i64 k∧n= .int .i64 ((Yg (s.data.toList.take k):Nat):Int)∧Xk (s.data.toList.take k)=true) (fun _ i=> s.size - (intOf i).toNat)
  case atStart=> exact ⟨0,Eb _,rfl,rfl,rfl⟩
  case round=>
   obtain ⟨k,hk,rfl,hn,ha⟩:=hrel
   obtain ⟨V,hV⟩:∃V,V=Yg (s.data.toList.take k):=⟨_,rfl⟩
   rw [←hV] at hn
   subst hn
   have hvb:V < 10000000000000:=by rw [hV];exact Rs _ _ ha (by omega)
   have HV:=Fs hV
   have HA:=Fs ha
   clear hV ha
   by_cases hlt:k < s.size
   ·by_cases hc1:s[k].toNat < 48
    ·have H:=Fs (show Jf s.data.toList=false by simp only [Jf,Rq s k hlt (by simp [Ym];omega)];simp)
     have hx1:decide ((s[k].toNat:Int) < 48)=true:=Fy (by omega)
     go_wp2
     go_ret2
     exact ⟨HN.out H.out,rfl⟩
    ·have hx1:decide ((s[k].toNat:Int) < 48)=false:=Fx (by omega)
     by_cases hc2:57 < s[k].toNat
     ·have H:=Fs (show Jf s.data.toList=false by simp only [Jf,Rq s k hlt (by simp [Ym];omega)];simp)
      have hx2:decide (57 < (s[k].toNat:Int))=true:=Fy (by omega)
      go_wp2
      go_ret2
      exact ⟨HN.out H.out,rfl⟩
     ·have hx2:decide (57 < (s[k].toNat:Int))=false:=Fx (by omega)
      have HA2:=Fs (show Xk (s.data.toList.take (k+1))=true by rw [Pj s k hlt,HA.out];simp [Ym];omega)
      have HV2:=Fs (My s k hlt)
      have hc1':48≤(s[k].toNat:Int):=by omega
      have hc2':(s[k].toNat:Int)≤57:=by omega
      go_wp2
      go_round
      case rel=> exact ⟨k+1,by omega,by go_num,by rw [HV2.out,←HV.out];go_num,HA2.out⟩
      case measure=> simp [intOf] <;> omega
   ·have hks:k=s.size:=by omega
    by_cases hbig:1000000000000 < V
    ·have H:=Fs (BIG.out k hks (by rw [←HV.out];exact hbig))
     clear hks
     go_wp2
     go_ret2
     exact ⟨HN.out H.out,rfl⟩
    ·have H:=Fs (FIN.out k hks HA.out (by rw [←HV.out];omega))
     clear hks
     go_wp2
     go_ret2
     exact ⟨by rw [HV.out];exact H.out,rfl⟩
 ·rw [Bool.not_eq_true] at hb0
  go_enter func85,ntmps85
  go_wp2
  clear hb0
  go_loop [4,5] (fun n i=> ∃k:Nat,k≤s.size∧i= .int .i64 k∧n= .int .i64 ((Yg (s.data.toList.take k):Nat):Int)∧Xk (s.data.toList.take k)=true) (fun _ i=> s.size - (intOf i).toNat)
  case atStart=> exact ⟨0,Eb _,rfl,rfl,rfl⟩
  case round=>
   obtain ⟨k,hk,rfl,hn,ha⟩:=hrel
   obtain ⟨V,hV⟩:∃V,V=Yg (s.data.toList.take k):=⟨_,rfl⟩
   rw [←hV] at hn
   subst hn
   have hvb:V < 10000000000000:=by rw [hV];exact Rs _ _ ha (by omega)
   have HV:=Fs hV
   have HA:=Fs ha
   clear hV ha
   by_cases hlt:k < s.size
   ·by_cases hc1:s[k].toNat < 48
    ·have H:=Fs (show Jf s.data.toList=false by simp only [Jf,Rq s k hlt (by simp [Ym];omega)];simp)
     have hx1:decide ((s[k].toNat:Int) < 48)=true:=Fy (by omega)
     go_wp2
     go_ret2
     exact ⟨HN.out H.out,rfl⟩
    ·have hx1:decide ((s[k].toNat:Int) < 48)=false:=Fx (by omega)
     by_cases hc2:57 < s[k].toNat
     ·have H:=Fs (show Jf s.data.toList=false by simp only [Jf,Rq s k hlt (by simp [Ym];omega)];simp)
      have hx2:decide (57 < (s[k].toNat:Int))=true:=Fy (by omega)
      go_wp2
      go_ret2
      exact ⟨HN.out H.out,rfl⟩
     ·have hx2:decide (57 < (s[k].toNat:Int))=false:=Fx (by omega)
      have HA2:=Fs (show Xk (s.data.toList.take (k+1))=true by rw [Pj s k hlt,HA.out];simp [Ym];omega)
      have HV2:=Fs (My s k hlt)
      have hc1':48≤(s[k].toNat:Int):=by omega
      have hc2':(s[k].toNat:Int)≤57:=by omega
      go_wp2
      go_round
      case rel=> exact ⟨k+1,by omega,by go_num,by rw [HV2.out,←HV.out];go_num,HA2.out⟩
      case measure=> simp [intOf] <;> omega
   ·have hks:k=s.size:=by omega
    by_cases hbig:1000000000000 < V
    ·have H:=Fs (BIG.out k hks (by rw [←HV.out];exact hbig))
     clear hks
     go_wp2
     go_ret2
     exact ⟨HN.out H.out,rfl⟩
    ·have H:=Fs (FIN.out k hks HA.out (by rw [←HV.out];omega))
     clear hks
     go_wp2
     go_ret2
     exact ⟨by rw [HV.out];exact H.out,rfl⟩
theorem Li (l:List UInt8) (ha:Xk l=true) (h1:1≤l.length) (h2:l.length≤13) (hv:Yg l≤1000000000000):Jf l=decide (Ye (Yg l:Nat)=l):=by
 have hf:=fmt_val l (by simpa [Xk] using ha) (by rintro rfl;simp at h1)
 unfold Jf
 rw [ha,Fy h1,Fy h2,Fy hv]
 by_cases h:l.head?=some 48∧1 < l.length
 ·rw [Fx (fun hx=> (hf.1 hx) h),h.1,Fy h.2];rfl
 ·rw [Fy (hf.2 h)]
  have:(l.head?==some 48 && decide (1 < l.length))=false:=by
   rw [Bool.and_eq_false_iff]
   by_cases hh:l.head?=some 48
   ·right;exact Fx (fun hx=> h ⟨hh,hx⟩)
   ·left;exact beq_eq_false_iff_ne.2 hh
  rw [this];rfl
theorem Ix (l:List UInt8) (s:ByteArray) (h:l=s.data.toList):((Tg l).toList==s.toList)=true:=by
 rw [Lib.toList_data,Lib.toList_data,Rm,h];simp
theorem fmt_str_ne (l:List UInt8) (s:ByteArray) (h:l≠s.data.toList):((Tg l).toList==s.toList)=false:=by
 rw [Lib.toList_data,Lib.toList_data,Rm];exact beq_eq_false_iff_ne.2 h
theorem Rn (s:ByteArray) (w:World) (hs:s.size≤maxLen):
  Calls prog 80 #[.string s] w fun e w'=> e= .returned (.tuple #[.int .i64 (Tt s.data.toList), .bool (Jf s.data.toList)])∧Below w.heap.size w w':=by
 unfold maxLen at hs
 have hlen:s.data.toList.length=s.size:=(Lib.size_eq s).symm
 have no:Jf s.data.toList=false→(Ending.returned (.tuple #[.int .i64 0, .bool false])= .returned (.tuple #[.int .i64 (Tt s.data.toList), .bool (Jf s.data.toList)])):=by
  intro h;rw [Tt,h];simp
 by_cases h0:s.size < 1∨13 < s.size
 ·have H:=Fs (show Jf s.data.toList=false by
   unfold Jf
   rw [hlen]
   rcases h0 with h|h
   ·rw [Fx (show ¬1≤s.size by omega)];rfl
   ·rw [Fx (show ¬s.size≤13 by omega)];simp)
  have HN:=Fs (no H.out)
  have hin:Xs (s.size:Int) 1 13=false:=Jl (by omega)
  clear no hlen h0
  go_enter func80,ntmps80
  go_wp2_with (go_at_call 30;refine (Qi _ _ _ _).mono ?_;rintro e w' ⟨rfl,rfl⟩)
  go_ret2
  exact ⟨HN.out,Fv _ _⟩
 have h1:1≤s.size:=by omega
 have h13:s.size≤13:=by omega
 have hin:Xs (s.size:Int) 1 13=true:=Xp (by omega) (by omega)
 clear h0
 have HN:=Fs no
 clear no
 have fin:∀k:Nat,k=s.size→Xk (s.data.toList.take k)=true→Yg (s.data.toList.take k)≤1000000000000→Jf s.data.toList=decide (Ye (Yg (s.data.toList.take k):Nat)=s.data.toList)∧Yg (s.data.toList.take k)=Yg s.data.toList:=by
  intro k hk ha hv
  subst hk
  rw [Po] at*
  exact ⟨Li _ ha (by omega) (by omega) hv,rfl⟩
 have big:∀k:Nat,k=s.size→1000000000000 < Yg (s.data.toList.take k)→Jf s.data.toList=false:=by
  intro k hk hv
  subst hk
  rw [Po] at hv
  simp only [Jf,decide_eq_false (show ¬Yg s.data.toList≤1000000000000 by omega)];simp
 have FIN:=Fs fin
 have BIG:=Fs big
 clear fin big hlen
 go_enter func80,ntmps80
 go_wp2_with (go_at_call 30;refine (Qi _ _ _ _).mono ?_;rintro e w' ⟨rfl,rfl⟩)
 go_loop [4,5] (fun n i=> ∃k:Nat,k≤s.size∧i= .int .i64 k∧n= .int .i64 ((Yg (s.data.toList.take k):Nat):Int)∧Xk (s.data.toList.take k)=true) (fun _ i=> s.size - (intOf i).toNat)
 case atStart=> exact ⟨0,Eb _,rfl,rfl,rfl⟩
 case round=>
  obtain ⟨k,hk,rfl,hn,ha⟩:=hrel
  obtain ⟨V,hV⟩:∃V,V=Yg (s.data.toList.take k):=⟨_,rfl⟩
  rw [←hV] at hn
  subst hn
  have hvb:V < 10000000000000:=by rw [hV];exact Rs _ _ ha (by omega)
  have HV:=Fs hV
  have HA:=Fs ha
  clear hV ha
  by_cases hlt:k < s.size
  ·by_cases hc:48≤s[k].toNat∧s[k].toNat≤57
   ·have hic:Xs (s[k].toNat:Int) 48 57=true:=Xp (by omega) (by omega)
    have HA2:=Fs (show Xk (s.data.toList.take (k+1))=true by rw [Pj s k hlt,HA.out];simp [Ym];omega)
    have HV2:=Fs (My s k hlt)
    have hc1':48≤(s[k].toNat:Int):=by omega
    have hc2':(s[k].toNat:Int)≤57:=by omega
    clear hc
    go_wp2_with (go_at_call 30;refine (Qi _ _ _ _).mono ?_;rintro e w' ⟨rfl,rfl⟩)
    all_goals
     go_round
     case rel=> exact ⟨k+1,by omega,by go_num,by rw [HV2.out,←HV.out];exact val_int (by omega),HA2.out⟩
     case measure=> simp [intOf] <;> omega
   ·have hic:Xs (s[k].toNat:Int) 48 57=false:=Jl (by omega)
    have hu8:(s[k].toNat:Int) < 256:=by have:=s[k].toNat_lt;omega
    have H:=Fs (show Jf s.data.toList=false by simp only [Jf,Rq s k hlt (by simp [Ym];omega)];simp)
    clear hc
    go_wp2_with (go_at_call 30;refine (Qi _ _ _ _).mono ?_;rintro e w' ⟨rfl,rfl⟩)
    go_ret2
    exact ⟨HN.out H.out,Fv _ _⟩
  ·have hks:k=s.size:=by omega
   by_cases hbig:1000000000000 < V
   ·have H:=Fs (BIG.out k hks (by rw [←HV.out];exact hbig))
    clear hks
    go_wp2
    go_ret2
    exact ⟨HN.out H.out,Fv _ _⟩
   ·have hdb:decide (1000000000000 < (V:Int))=false:=Fx (by omega)
    have H:=FIN.out k hks HA.out (by rw [←HV.out];omega)
    rw [←HV.out] at H
    have H1:=Fs H.1
    have H2:=Fs H.2
    clear hks H
    go_wp2_with fail
    refine (Qf (V:Int) _ (by omega)).mono ?_
    rintro e w2 ⟨rfl,hb⟩
    by_cases hf:Ye (V:Int)=s.data.toList
    ·have hq:=Ix _ s hf
     have HH:=Fs (H1.out.trans (Fy hf))
     have HB:=Fs hb
     clear hf hb
     go_wp2
     go_ret2
     exact ⟨by rw [Tt,HH.out,if_pos rfl,←H2.out];rfl,HB.out⟩
    ·have hq:=fmt_str_ne _ s hf
     have HH:=Fs (H1.out.trans (Fx hf))
     have HB:=Fs hb
     clear hf hb
     go_wp2
     go_ret2
     exact ⟨HN.out HH.out,HB.out⟩
theorem digs_dec (n:Nat) (h:1≤n):Ty n=Lib.decDigits n:=by
 induction n using Nat.strongRecOn with
 | _ n ih=>
  rw [Vg (by omega),Lib.decDigits]
  by_cases h10:n < 10
  ·rw [dif_pos h10,show n / 10=0 by omega,Yv,show n % 10=n by omega]
   rfl
  ·rw [dif_neg h10,ih (n / 10) (by omega) (by omega)]
theorem fmt_itoa (n:Int):Ye n=Lib.itoa n:=by
 unfold Ye Lib.itoa
 by_cases hz:n=0
 ·subst hz
  rw [if_pos rfl,if_neg (by omega),Lib.decDigits]
  rfl
 ·rw [if_neg hz]
  by_cases hn:n < 0
  ·rw [if_pos hn,if_pos hn,digs_dec _ (by omega)]
  ·rw [if_neg hn,if_neg hn,digs_dec _ (by omega)]
   congr 1
   omega
theorem Mo (n:Int) (w:World) (hn:Qa n) (ht:Tab w):
  Calls prog 95 #[.int .i64 n] w fun e w'=> e= .returned (.string (Tg (Ye n)))∧Below w.heap.size w w':=by
 go_enter func95,ntmps95
 go_wp2_with fail
 refine (Tryz.strconv_Itoa n hn.1 hn.2 w ht.here).mono ?_
 rintro e w1 ⟨rfl,k,os,rfl⟩
 have H:=Fs (Lib.below_grow w.heap.size w (Fu _) k os)
 go_wp2
 go_ret
 exact ⟨Jd (by rw [fmt_itoa];rfl),H.out⟩
structure Zi where
 name:ByteArray
 kind:Int
 size:Int
 little:Bool
 bytes:List UInt8
 names:List ByteArray
 tags:List Int
 kids:List Int
structure RM where
 d:Zi
 vb:Value
 vn:Value
 vt:Value
 vk:Value
def Qq (r:RM):List Value:= [.string r.d.name, .int .i64 r.d.kind, .int .i64 r.d.size, .bool r.d.little,r.vb,r.vn,r.vt,r.vk]
structure RM.rd (w:World) (B:Nat) (r:RM):Prop where
 b:Xu w B r.vb r.d.bytes
 n:Va w B r.vn r.d.names
 t:Yt w B r.vt r.d.tags
 k:Yt w B r.vk r.d.kids
theorem RM.rd.below {w w':World} {B:Nat} {r:RM} (h:r.rd w B) (hb:Below B w w'):r.rd w' B:=⟨h.b.below hb,h.n.below hb,h.t.below hb,h.k.below hb⟩
theorem RM.rd.more {w:World} {B B':Nat} {r:RM} (h:r.rd w B) (hB:B≤B'):r.rd w B':=⟨h.b.more hB,h.n.more hB,h.t.more hB,h.k.more hB⟩
structure Zi.ok (r:Zi):Prop where
 name:r.name.size≤maxLen
 kind:Qa r.kind
 size:Qa r.size
 names:∀s∈r.names,s.size≤maxLen
 tags:∀a∈r.tags,Qa a
 kids:∀a∈r.kids,Qa a
def Qz (w:World) (B:Nat) (v:Value) (l:List RM):Prop:=Sl w B 8 v l.length (l.flatMap Qq)∧∀r∈l,r.rd w B
theorem Qz.below {w w':World} {B:Nat} {v:Value} {l:List RM} (h:Qz w B v l) (hb:Below B w w'):Qz w' B v l:=⟨Sl.below h.1 hb,fun r hr=> (h.2 r hr).below hb⟩
theorem Qz.more {w:World} {B B':Nat} {v:Value} {l:List RM} (h:Qz w B v l) (hB:B≤B'):Qz w B' v l:=⟨Sl.more h.1 hB,fun r hr=> (h.2 r hr).more hB⟩
theorem Ih (r:RM):(Qq r).length=8:=rfl
theorem Qz.open_ {w:World} {B:Nat} {v:Value} {l:List RM} (h:Qz w B v l):∃A c,v= .slice A l.length c∧l.length≤c∧c≤maxLen∧
  (∀k (hk:k < l.length),∃b off,A=some ⟨b,off,none⟩∧b < B∧w.cell? ⟨b,off+k*8,none⟩=some (.string l[k].d.name)∧w.cell? ⟨b,off+k*8+1,none⟩=some (.int .i64 l[k].d.kind)∧
    w.cell? ⟨b,off+k*8+2,none⟩=some (.int .i64 l[k].d.size)∧w.cell? ⟨b,off+k*8+3,none⟩=some (.bool l[k].d.little)∧w.cell? ⟨b,off+k*8+4,none⟩=some l[k].vb∧
    w.cell? ⟨b,off+k*8+5,none⟩=some l[k].vn∧w.cell? ⟨b,off+k*8+6,none⟩=some l[k].vt∧w.cell? ⟨b,off+k*8+7,none⟩=some l[k].vk):=by
 obtain ⟨_,A,c,rfl,hc,hm,hr⟩:=h.1
 refine ⟨A,c,rfl,hc,hm,fun k hk=> ?_⟩
 obtain ⟨b,off,e,hb,hcell⟩:=hr (by omega)
 have hat:∀j u,j < 8→(Qq l[k])[j]?=some u→w.cell? ⟨b,off+k*8+j,none⟩=some u:=fun j u hj hu=> by
  rw [Nat.add_assoc];exact hcell (k*8+j) u (by rw [Vo Qq 8 Ih l k j hk hj];exact hu)
 exact ⟨b,off,e,hb,hat 0 _ (by omega) rfl,hat 1 _ (by omega) rfl,hat 2 _ (by omega) rfl,hat 3 _ (by omega) rfl,hat 4 _ (by omega) rfl,hat 5 _ (by omega) rfl,hat 6 _ (by omega) rfl,hat 7 _ (by omega) rfl⟩
section
variable {H:Type} {enc:TypeId × Value→H} {w:World}
end
theorem info_str:(prog.info? 9).map (fun i=> (i.zero,i.size,i.bytes))=some (some (.string ⟨#[]⟩),1,16):=by kernel_rfl
def Hv:List ByteArray→Nat
 | []=> 0
 |s::l=> s.size+Hv l
theorem own_strs {w:World} {base:Nat} {v:Value} {l:List ByteArray} (h:w.ownsRow base 9 1 v l.length (l.map .string)):Va w w.heap.size v l:=Sl.of_own h
def slash:ByteArray:=⟨#[47]⟩
structure Zi.small (r:Zi) (N:Nat):Prop where
 name:r.name.size≤N
 bytes:r.bytes.length≤N
 names:r.names.length≤N
 Hv:Hv r.names≤N
 tags:r.tags.length≤N
 kids:r.kids.length≤N
def Ja (r:RM):Value:= .agg #[.string r.d.name, .int .i64 r.d.kind, .int .i64 r.d.size, .bool r.d.little,r.vb,r.vn,r.vt,r.vk]
def OwS (l:List ByteArray) (lo hi:Nat) (w:World) (v:Value):Prop:=Mt lo hi 9 1 l.length (l.map .string) w v
theorem OwS.keep {l:List ByteArray} {lo hi lo' hi':Nat} {w w':World} {v:Value} (h:OwS l lo hi w v) (ho:Xq lo' hi' w w') (hd:hi≤lo'∨hi'≤lo):OwS l lo hi w' v:=Mt.keep h ho hd
theorem OwS.sl {l:List ByteArray} {lo hi:Nat} {w:World} {v:Value} (h:OwS l lo hi w v):Va w w.heap.size v l:=Mt.sl h
theorem info_i64:(prog.info? 3).map (fun i=> (i.zero,i.size,i.bytes))=some (some (.int .i64 0),1,8):=by kernel_rfl
def OwI (l:List Int) (lo hi:Nat) (w:World) (v:Value):Prop:=Mt lo hi 3 1 l.length (l.map (.int .i64)) w v
theorem OwI.keep {l:List Int} {lo hi lo' hi':Nat} {w w':World} {v:Value} (h:OwI l lo hi w v) (ho:Xq lo' hi' w w') (hd:hi≤lo'∨hi'≤lo):OwI l lo hi w' v:=Mt.keep h ho hd
theorem OwI.sl {l:List Int} {lo hi:Nat} {w:World} {v:Value} (h:OwI l lo hi w v):Yt w w.heap.size v l:=Mt.sl h
def RM.own (lo hi:Nat) (w:World) (r:RM):Prop:=∃m1 m2 m3,OwB r.d.bytes lo m1 w r.vb∧OwS r.d.names m1 m2 w r.vn∧OwI r.d.tags m2 m3 w r.vt∧OwI r.d.kids m3 hi w r.vk∧lo≤m1∧m1≤m2∧m2≤m3∧m3≤hi
theorem RM.own.keep {r:RM} {lo hi lo' hi':Nat} {w w':World} (h:r.own lo hi w) (ho:Xq lo' hi' w w') (hd:hi≤lo'∨hi'≤lo):r.own lo hi w':=by
 obtain ⟨m1,m2,m3,h1,h2,h3,h4,a,b,c,d⟩:=h
 exact ⟨m1,m2,m3,h1.keep ho (by omega),h2.keep ho (by omega),h3.keep ho (by omega),h4.keep ho (by omega),a,b,c,d⟩
theorem RM.own.rd {r:RM} {lo hi:Nat} {w:World} (h:r.own lo hi w):r.rd w w.heap.size:=by
 obtain ⟨m1,m2,m3,h1,h2,h3,h4,_⟩:=h
 exact ⟨h1.sl,h2.sl,h3.sl,h4.sl⟩
def Ou (hi:Nat) (w:World):List RM→Nat→Prop
 | [],lo=> lo≤hi
 |r::l,lo=> ∃m,lo≤m∧r.own lo m w∧Ou hi w l m
theorem Ou.le {hi:Nat} {w:World}:∀{l:List RM} {lo:Nat},Ou hi w l lo→lo≤hi
 | [],_,h=> h
 | _::_,_,⟨_,h1,_,h3⟩=> Nat.le_trans h1 h3.le
theorem Ou.keep {hi lo' hi':Nat} {w w':World} (ho:Xq lo' hi' w w'):∀{l:List RM} {lo:Nat},Ou hi w l lo→(hi≤lo'∨hi'≤lo)→Ou hi w' l lo
 | [],_,h,_=> h
 | _::_,_,⟨m,h1,h2,h3⟩,hd=> ⟨m,h1,h2.keep ho (by have:=h3.le;omega),h3.keep ho (by omega)⟩
theorem RM.own.wide {r:RM} {lo hi hi':Nat} {w:World} (h:r.own lo hi w) (hh:hi≤hi'):r.own lo hi' w:=by
 obtain ⟨m1,m2,m3,h1,h2,h3,h4,a,b,c,d⟩:=h
 exact ⟨m1,m2,m3,h1,h2,h3,Mt.wide h4 (Fu _) hh,a,b,c,by omega⟩
theorem Ou.snoc {hi mid:Nat} {w:World} {r:RM} (hr:r.own mid hi w) (hm:mid≤hi):∀{l:List RM} {lo:Nat},Ou mid w l lo→Ou hi w (l++ [r]) lo
 | [],lo,h=> by
  obtain ⟨m1,m2,m3,h1,h2,h3,h4,a,b,c,d⟩:=hr
  exact ⟨hi,Nat.le_trans h hm,⟨m1,m2,m3,Mt.wide h1 h (Fu _),h2,h3,h4,Nat.le_trans h a,b,c,d⟩,Fu _⟩
 | _::_,_,⟨m,h1,h2,h3⟩=> ⟨m,h1,h2,h3.snoc hr hm⟩
theorem Ou.rd {hi:Nat} {w:World}:∀{l:List RM} {lo:Nat},Ou hi w l lo→∀r∈l,r.rd w w.heap.size
 | [],_,_,r,hr=> by simp at hr
 |x::l,_,⟨_,_,h2,h3⟩,r,hr=> by
  simp only [List.mem_cons] at hr
  rcases hr with rfl|hr
  ·exact h2.rd
  ·exact h3.rd r hr
def OwD (D:List Zi) (lo hi:Nat) (w:World) (v:Value):Prop:=
 ∃(l:List RM) (m:Nat),l.map RM.d=D∧Mt lo m 50 8 l.length (l.flatMap Qq) w v∧lo≤m∧Ou hi w l m
theorem OwD.keep {D:List Zi} {lo hi lo' hi':Nat} {w w':World} {v:Value} (h:OwD D lo hi w v) (ho:Xq lo' hi' w w') (hd:hi≤lo'∨hi'≤lo):OwD D lo hi w' v:=by
 obtain ⟨l,m,h1,h2,h3,h4⟩:=h
 have:=h4.le
 exact ⟨l,m,h1,h2.keep ho (by omega),h3,h4.keep ho (by omega)⟩
theorem OwD.sl {D:List Zi} {lo hi:Nat} {w:World} {v:Value} (h:OwD D lo hi w v):∃l:List RM,l.map RM.d=D∧Qz w w.heap.size v l:=by
 obtain ⟨l,m,h1,h2,h3,h4⟩:=h
 exact ⟨l,h1,h2.sl,h4.rd⟩
theorem Ou.wide {hi hi':Nat} {w:World} (hh:hi≤hi'):∀{l:List RM} {lo:Nat},Ou hi w l lo→Ou hi' w l lo
 | [],_,h=> Nat.le_trans h hh
 | _::_,_,⟨m,h1,h2,h3⟩=> ⟨m,h1,h2,h3.wide hh⟩
theorem OwD.wide {D:List Zi} {lo hi lo' hi':Nat} {w:World} {v:Value} (h:OwD D lo hi w v) (h1:lo'≤lo) (h2:hi≤hi'):OwD D lo' hi' w v:=by
 obtain ⟨l,m,a,b,c,d⟩:=h
 exact ⟨l,m,a,Mt.wide b h1 (Fu _),by omega,d.wide h2⟩
theorem info_rule:(prog.info? 50).map (fun i=> (i.zero,i.size,i.bytes))=some (some (.agg #[.string ⟨#[]⟩, .int .i64 0, .int .i64 0, .bool false, .slice none 0 0, .slice none 0 0, .slice none 0 0, .slice none 0 0]),8,136):=by kernel_rfl
end Go.Proofs.YteldgdelmaeokaaGreatDoor
