/- Out of DescV, DescW, IsStep, DescP, App, Rg: the walks and plain laws that the claim needs. No condition but those that each theorem names. -/
import Derived.Test.YteldgdelmaeokaaGreatDoorGa
import Derived.WalkSpells
import Derived.WalkLawsBesides
import Derived.Laws.RangeString
import Derived.Laws.RangeAny
import Derived.OwnWalk
import Derived.Deep.RegionHeld3
import Derived.Deep.RegionLaw
import Derived.Maps.RangeWalk
set_option linter.unusedSimpArgs false
set_option linter.unusedVariables false
set_option maxHeartbeats 2000000
set_option maxRecDepth 100000
namespace Go.Proofs.YteldgdelmaeokaaGreatDoor
open Go.Proofs.Tryz Go.RowKit
def Jo (D:List Zi) (i:Int):Option Zi:=if 0≤i then D[i.toNat]? else none
def Tb (n:Int):Int:=if n=1 then 256 else if n=2 then 65536 else if n=3 then 16777216 else 4294967296
def Yh (r:Zi):Int:=if r.kind=1∧1≤r.size∧r.size≤4 then Tb r.size - 1 else -1
def Zr (D:List Zi) (i:Int):Int:=match Jo D i with|none=> -1|some r=> Yh r
theorem Ip (D:List Zi) (i:Int): -1≤Zr D i∧Zr D i≤4294967295:=by
 unfold Zr
 split
 ·omega
 ·unfold Yh Tb
  split
  ·split <;> (try split) <;> (try split) <;> omega
  ·omega
theorem Yd {D:List Zi} {i:Int} (h0:0≤i) (h1:i < D.length):∃k:Nat,∃hk:k < D.length,i=k∧Jo D i=some D[k]:=by
 obtain ⟨k,rfl⟩:=Int.eq_ofNat_of_zero_le h0
 refine ⟨k,by omega,rfl,?_⟩
 unfold Jo
 rw [if_pos h0]
 simp [List.getElem?_eq_getElem (show k < D.length by omega)]
theorem Vr {D:List Zi} {i:Int} (h:i < 0∨(D.length:Int)≤i):Jo D i=none:=by
 unfold Jo
 split
 ·rw [List.getElem?_eq_none];omega
 ·rfl
theorem Below.allocW {B:Nat} (w:World) (o:Obj) (h:B≤w.heap.size):Below B w (w.alloc o):=(Fv B w).alloc h o
theorem Vs (n:Int) (w:World) (h1:1≤n) (h2:n≤4):
  Calls prog 54 #[.int .i64 n] w fun e w'=> e= .returned (.int .i64 (Tb n))∧w=w':=by
 have h:n=1∨n=2∨n=3∨n=4:=by omega
 rcases h with rfl|rfl|rfl|rfl <;>
 ·go_enter func54,ntmps54
  go_wp2
  go_ret
  exact ⟨rfl,rfl⟩
theorem Vc (v:Value) (l:List RM) (i:Int) (B:Nat) (w:World) (h:Qz w B v l) (hB:B≤w.heap.size) (hi:Qa i) (ok:∀r∈l,r.d.ok):
  Calls prog 82 #[.agg #[v], .int .i64 i] w fun e w'=> e= .returned (.int .i64 (Zr (l.map RM.d) i))∧Below w.heap.size w w':=by
 obtain ⟨A,c,rfl,hc,hm,hcell⟩:=h.open_
 unfold maxLen at hm
 have hb:=Below.allocW w (.cells #[.slice A l.length c] 26) (Fu _)
 by_cases hr:0≤i∧i < l.length
 ·obtain ⟨k,hk,rfl,hat⟩:=Yd (D:=l.map RM.d) hr.1 (by simpa using hr.2)
  have hkl:k < l.length:=by simpa using hk
  obtain ⟨b,off,rfl,hbB,c0,c1,c2,crest⟩:=hcell k hkl
  have hok:=ok l[k] (Fw hkl)
  have hz:=hok.size
  rw [List.getElem_map] at hat
  have hlim:Zr (l.map RM.d) (k:Int)=Yh l[k].d:=by rw [Zr,hat]
  have d1:=Ec hb c1
  have d2:=Ec hb c2
  clear hcell c0 c1 c2 h ok hat crest
  generalize l[k].d=r at*
  have hin:Xs (k:Int) 0 ((l.length:Int) - 1)=true:=Xp (by omega) (by omega)
  have HI:=Fs hin
  by_cases hk1:r.kind=1
  ·have e1:(r.kind !=1)=false:=by rw [hk1];rfl
   by_cases hs:1≤r.size∧r.size≤4
   ·have hs4:Xs r.size 1 4=true:=Xp hs.1 hs.2
    have HS:=Fs hs4
    have H:=Fs (hlim.trans (show Yh r=Tb r.size - 1 by rw [Yh,if_pos ⟨hk1,hs⟩]))
    have hp:256≤Tb r.size∧Tb r.size≤4294967296:=by
     unfold Tb
     split
     ·omega
     ·split
      ·omega
      ·split <;> omega
    clear hlim hin hs4 hk1
    go_enter func82,ntmps82
    go_wp2_with fail
    refine (Qi _ _ _ _).mono ?_
    rintro e w1 ⟨rfl,rfl⟩
    rw [HI.out]
    go_wp2_with fail
    refine (Qi _ _ _ _).mono ?_
    rintro e w1 ⟨rfl,rfl⟩
    rw [HS.out]
    go_wp2_with fail
    refine (Vs _ _ hs.1 hs.2).mono ?_
    rintro e w1 ⟨rfl,rfl⟩
    go_wp2
    go_ret
    exact ⟨Qe H.out.symm,hb⟩
   ·have hs4:Xs r.size 1 4=false:=Jl (by omega)
    have HS:=Fs hs4
    have H:=Fs (hlim.trans (show Yh r= -1 by rw [Yh,if_neg (by omega)]))
    clear hlim hin hs4 hk1
    go_enter func82,ntmps82
    go_wp2_with fail
    refine (Qi _ _ _ _).mono ?_
    rintro e w1 ⟨rfl,rfl⟩
    rw [HI.out]
    go_wp2_with fail
    refine (Qi _ _ _ _).mono ?_
    rintro e w1 ⟨rfl,rfl⟩
    rw [HS.out]
    go_wp2
    go_ret
    exact ⟨Qe H.out.symm,hb⟩
  ·have e1:(r.kind !=1)=true:=by rw [bne_iff_ne];exact hk1
   have H:=Fs (hlim.trans (show Yh r= -1 by rw [Yh,if_neg (by omega)]))
   clear hlim hin hk1
   go_enter func82,ntmps82
   go_wp2_with fail
   refine (Qi _ _ _ _).mono ?_
   rintro e w1 ⟨rfl,rfl⟩
   rw [HI.out]
   go_wp2
   go_ret
   exact ⟨Qe H.out.symm,hb⟩
 ·have hl:Zr (l.map RM.d) i= -1:=by rw [Zr,Vr (by simp;omega)]
  have H:=Fs hl
  clear hcell hl
  go_enter func82,ntmps82
  go_wp2_with fail
  refine (Qi _ _ _ _).mono ?_
  rintro e w1 ⟨rfl,rfl⟩
  rw [Jl (by omega)]
  go_wp2
  go_ret
  exact ⟨Qe H.out.symm,hb⟩
theorem Ph (v:Value) (l:List RM) (i:Int) (B:Nat) (w:World) (h:Qz w B v l):
  Calls prog 77 #[.agg #[v], .int .i64 i] w fun e w'=> e= .returned (.bool (Xs i 0 ((l.length:Int) - 1)))∧Below w.heap.size w w':=by
 obtain ⟨A,c,rfl,hc,hm,hcell⟩:=h.open_
 unfold maxLen at hm
 have hb:=Below.allocW w (.cells #[.slice A l.length c] 26) (Fu _)
 clear hcell h
 by_cases h0:0≤i
 ·by_cases h1:i < l.length
  ·have H:=Fs (Xp (a:=0) (b:=(l.length:Int) - 1) h0 (by omega))
   go_enter func77,ntmps77
   go_wp2
   go_ret
   exact ⟨Zd H.out.symm,hb⟩
  ·have H:=Fs (Jl (x:=i) (a:=0) (b:=(l.length:Int) - 1) (by omega))
   go_enter func77,ntmps77
   go_wp2
   go_ret
   exact ⟨Zd H.out.symm,hb⟩
 ·have H:=Fs (Jl (x:=i) (a:=0) (b:=(l.length:Int) - 1) (by omega))
  go_enter func77,ntmps77
  go_wp2
  go_ret
  exact ⟨Zd H.out.symm,hb⟩
theorem Xc (v:Value) (l:List RM) (i:Int) (B:Nat) (w:World) (h:Qz w B v l) (hB:B≤w.heap.size) (hi:Qa i) (ok:∀r∈l,r.d.ok):
  Calls prog 90 #[.agg #[v], .int .i64 i] w fun e w'=> e= .returned (.int .i64 (Zr (l.map RM.d) i))∧Below w.heap.size w w':=by
 have hH:=fun W (hh:Qz W B v l)=> Ph v l i B W hh
 have hd:=h.below ((Fv B w).alloc hB (.cells #[v] 26))
 obtain ⟨A,c,rfl,hc,hm,hcell⟩:=h.open_
 unfold maxLen at hm
 have hb:=Below.allocW w (.cells #[.slice A l.length c] 26) (Fu _)
 have H1:=Fs (hH _ hd)
 clear hH hd h
 by_cases hr:0≤i∧i < l.length
 ·obtain ⟨k,hk,rfl,hat⟩:=Yd (D:=l.map RM.d) hr.1 (by simpa using hr.2)
  have hkl:k < l.length:=by simpa using hk
  obtain ⟨b,off,rfl,hbB,c0,c1,c2,crest⟩:=hcell k hkl
  have hok:=ok l[k] (Fw hkl)
  have hz:=hok.size
  rw [List.getElem_map] at hat
  have hlim:Zr (l.map RM.d) (k:Int)=Yh l[k].d:=by rw [Zr,hat]
  have d1:=Ec hb c1
  have d2:=Ec hb c2
  clear hcell c0 c1 c2 ok hat crest
  generalize l[k].d=r at*
  have hin:Xs (k:Int) 0 ((l.length:Int) - 1)=true:=Xp (by omega) (by omega)
  have HI:=Fs hin
  have hE:(w.alloc (.cells #[.slice (some ⟨b,off,none⟩) l.length c] 26)).cell? ⟨w.heap.size,0,none⟩=some (.slice (some ⟨b,off,none⟩) l.length c):=by simp [go_sem]
  by_cases hk1:r.kind=1
  ·have e1:(r.kind !=1)=false:=by rw [hk1];rfl
   by_cases hs:1≤r.size∧r.size≤4
   ·have hs4:Xs r.size 1 4=true:=Xp hs.1 hs.2
    have hlim:=hlim.trans (show Yh r=Tb r.size - 1 by rw [Yh,if_pos ⟨hk1,hs⟩])
    clear hin hk1
    have hcs:r.size=1∨r.size=2∨r.size=3∨r.size=4:=by omega
    rcases hcs with hq|hq|hq|hq <;>
    ·rw [hq] at d2 hs4 hlim
     have HS:=Fs hs4
     have H:=Fs hlim
     clear hlim hs4 hz hs hq
     go_enter func90,ntmps90
     go_wp2_with fail
     refine H1.out.mono ?_
     rintro e w1 ⟨rfl,hb1⟩
     rw [HI.out]
     have f1:=Ec hb1 d1
     have f2:=Ec hb1 d2
     have fE:=Ec hb1 hE
     have HB:=Fs (Zb hb1 hb)
     clear hb1 d1 d2 hE
     go_wp2_with fail
     refine (Zm _ _ _ _).mono ?_
     rintro e w1 ⟨rfl,rfl⟩
     rw [HS.out]
     go_wp2
     go_ret
     exact ⟨Qe H.out.symm,HB.out⟩
   ·have hs4:Xs r.size 1 4=false:=Jl (by omega)
    have HS:=Fs hs4
    have H:=Fs (hlim.trans (show Yh r= -1 by rw [Yh,if_neg (by omega)]))
    clear hlim hin hs4 hk1
    go_enter func90,ntmps90
    go_wp2_with fail
    refine H1.out.mono ?_
    rintro e w1 ⟨rfl,hb1⟩
    rw [HI.out]
    have f1:=Ec hb1 d1
    have f2:=Ec hb1 d2
    have fE:=Ec hb1 hE
    have HB:=Fs (Zb hb1 hb)
    clear hb1 d1 d2 hE
    go_wp2_with fail
    refine (Zm _ _ _ _).mono ?_
    rintro e w1 ⟨rfl,rfl⟩
    rw [HS.out]
    go_wp2
    go_ret
    exact ⟨Qe H.out.symm,HB.out⟩
  ·have e1:(r.kind !=1)=true:=by rw [bne_iff_ne];exact hk1
   have H:=Fs (hlim.trans (show Yh r= -1 by rw [Yh,if_neg (by omega)]))
   clear hlim hin hk1
   go_enter func90,ntmps90
   go_wp2_with fail
   refine H1.out.mono ?_
   rintro e w1 ⟨rfl,hb1⟩
   rw [HI.out]
   have f1:=Ec hb1 d1
   have f2:=Ec hb1 d2
   have fE:=Ec hb1 hE
   have HB:=Fs (Zb hb1 hb)
   clear hb1 d1 d2 hE
   go_wp2
   go_ret
   exact ⟨Qe H.out.symm,HB.out⟩
 ·have hl:Zr (l.map RM.d) i= -1:=by rw [Zr,Vr (by simp;omega)]
  have H:=Fs hl
  clear hcell hl
  go_enter func90,ntmps90
  go_wp2_with fail
  refine H1.out.mono ?_
  rintro e w1 ⟨rfl,hb1⟩
  rw [Jl (by omega)]
  have HB:=Fs (Zb hb1 hb)
  clear hb1
  go_wp2
  go_ret
  exact ⟨Qe H.out.symm,HB.out⟩
def Ry (l:List ByteArray) (s:ByteArray):Bool:=l.any fun x=> x.toList==s.toList
theorem Gm (l:List ByteArray) (s:ByteArray) (k:Nat) (h:k < l.length):Ry (l.take (k+1)) s=(Ry (l.take k) s||l[k].toList==s.toList):=by
 unfold Ry
 rw [List.take_succ_eq_append_getElem h,List.any_append]
 simp
theorem hasT_in (l:List ByteArray) (s:ByteArray) (k:Nat) (h:k < l.length) (he:(l[k].toList==s.toList)=true):Ry l s=true:=by
 unfold Ry
 rw [List.any_eq_true]
 exact ⟨l[k],Fw h,he⟩
theorem La (v:Value) (l:List ByteArray) (s:ByteArray) (B:Nat) (w:World) (h:Va w B v l):
  Calls prog 106 #[v, .string s] w fun e w'=> e= .returned (.bool (Ry l s))∧w=w':=by
 obtain ⟨A,c,rfl,hc,hm,hcell⟩:=h.one
 unfold maxLen at hm
 clear h
 go_enter func106,ntmps106
 go_wp2
 go_loop [5] (fun i=> ∃k:Nat,k≤l.length∧i= .int .i64 k∧Ry (l.take k) s=false) (fun i=> l.length - (intOf i).toNat)
 case atStart=> exact ⟨0,Eb _,rfl,rfl⟩
 case round=>
  obtain ⟨k,hk,rfl,hno⟩:=hrel
  have HN:=Fs hno
  clear hno
  by_cases hlt:k < l.length
  ·obtain ⟨b,off,rfl,hbB,hc0⟩:=hcell k hlt
   have hT:=Fs (Gm l s k hlt)
   have hI:=Fs (hasT_in l s k hlt)
   clear hcell
   generalize l[k]=y at*
   cases he:(y.toList==s.toList)
   ·have H:=Fs he
    go_wp2
    go_round
    case rel=> exact ⟨k+1,by omega,by go_num,by rw [hT.out,HN.out,H.out];rfl⟩
    case measure=> simp [intOf];omega
   ·have H:=Fs (hI.out he)
    go_wp2
    go_ret
    exact ⟨Zd H.out.symm,rfl⟩
  ·have HK:=Fs (show Ry l s=false by
    have:=HN.out
    rwa [show k=l.length by omega,List.take_length] at this)
   clear hcell HN
   go_wp2
   go_ret
   exact ⟨Zd HK.out.symm,rfl⟩
theorem Lj (v:Value) (l:List ByteArray) (s:ByteArray) (B:Nat) (w:World) (h:Va w B v l):
  Calls prog 108 #[v, .string s] w fun e w'=> e= .returned (.bool (Ry l s))∧w=w':=by
 obtain ⟨A,c,rfl,hc,hm,hcell⟩:=h.one
 unfold maxLen at hm
 clear h
 go_enter func108,ntmps108
 go_wp2
 go_loop [9] (fun i=> ∃k:Nat,k≤l.length∧i= .int .i64 k∧Ry (l.take k) s=false) (fun i=> l.length - (intOf i).toNat)
 case atStart=> exact ⟨0,Eb _,rfl,rfl⟩
 case round=>
  obtain ⟨k,hk,rfl,hno⟩:=hrel
  have HN:=Fs hno
  clear hno
  by_cases hlt:k < l.length
  ·obtain ⟨b,off,rfl,hbB,hc0⟩:=hcell k hlt
   have hT:=Fs (Gm l s k hlt)
   have hI:=Fs (hasT_in l s k hlt)
   clear hcell
   generalize l[k]=y at*
   cases he:(y.toList==s.toList)
   ·have H:=Fs he
    go_wp2
    go_round
    case rel=> exact ⟨k+1,by omega,by go_num,by rw [hT.out,HN.out,H.out];rfl⟩
    case measure=> simp [intOf];omega
   ·have H:=Fs (hI.out he)
    go_wp2
    go_ret
    exact ⟨Zd H.out.symm,rfl⟩
  ·have HK:=Fs (show Ry l s=false by
    have:=HN.out
    rwa [show k=l.length by omega,List.take_length] at this)
   clear hcell HN
   go_wp2
   go_ret
   exact ⟨Zd HK.out.symm,rfl⟩
def Zg (r:Zi) (sz bt nm tg:Bool) (K:Int):Bool:=
 (sz||r.size==0) && ((bt||(r.bytes.length:Int)==0) && ((nm||(r.names.length:Int)==0) && ((tg||(r.tags.length:Int)==0) && (decide (K < 0)||(r.kids.length:Int)==K))))
def Zj (r:Zi) (sz bt nm tg:Bool) (K:Int):Bool:=Zg r sz bt nm tg K && (!r.little||r.kind==1)
theorem Lp (r:RM) (B:Nat) (K:Int) (w:World) (h:r.rd w B):
  Calls prog 99 #[Ja r, .bool true, .bool false, .bool false, .bool false, .int .i64 K] w fun e w'=> e= .returned (.bool (Zj r.d true false false false K))∧Below w.heap.size w w':=by
 obtain ⟨⟨name,kind,size,little,bytes,names,tags,kids⟩,vb,vn,vt,vk⟩:=r
 have h1:Xu w B vb bytes:=h.b
 have h2:Va w B vn names:=h.n
 have h3:Yt w B vt tags:=h.t
 have h4:Yt w B vk kids:=h.k
 clear h
 obtain ⟨Ab,cb,rfl,hb1,hb2,x1⟩:=h1.open_
 obtain ⟨An,cn,rfl,hn1,hn2,x2⟩:=h2.one
 obtain ⟨At,ct,rfl,ht1,ht2,x3⟩:=h3.one
 obtain ⟨Ak,ck,rfl,hk1,hk2,x4⟩:=h4.one
 clear h1 h2 h3 h4 x1 x2 x3 x4
 unfold Ja
 simp only
 unfold maxLen at hb2 hn2 ht2 hk2
 have hb:=Below.allocW w (.cells #[.string name, .int .i64 kind, .int .i64 size, .bool little, .slice Ab bytes.length cb, .slice An names.length cn, .slice At tags.length ct, .slice Ak kids.length ck] 50) (Fu _)
 cases h1:(((bytes.length:Nat):Int)==0)
 ·skip
  have H:=Fs (show Zj ⟨name,kind,size,little,bytes,names,tags,kids⟩ true false false false K=false by simp only [Zj,Zg];rw [h1];rfl)
  go_enter func99,ntmps99
  go_wp2
  go_ret
  exact ⟨Zd H.out.symm,hb⟩
 ·skip
  cases h2:(((names.length:Nat):Int)==0)
  ·skip
   have H:=Fs (show Zj ⟨name,kind,size,little,bytes,names,tags,kids⟩ true false false false K=false by simp only [Zj,Zg];rw [h1,h2];rfl)
   go_enter func99,ntmps99
   go_wp2
   go_ret
   exact ⟨Zd H.out.symm,hb⟩
  ·skip
   cases h3:(((tags.length:Nat):Int)==0)
   ·skip
    have H:=Fs (show Zj ⟨name,kind,size,little,bytes,names,tags,kids⟩ true false false false K=false by simp only [Zj,Zg];rw [h1,h2,h3];rfl)
    go_enter func99,ntmps99
    go_wp2
    go_ret
    exact ⟨Zd H.out.symm,hb⟩
   ·skip
    cases hK:decide (K < 0)
    ·cases hk:((kids.length:Int)==K)
     ·skip
      have H:=Fs (show Zj ⟨name,kind,size,little,bytes,names,tags,kids⟩ true false false false K=false by simp only [Zj,Zg];rw [h1,h2,h3,hK,hk];rfl)
      go_enter func99,ntmps99
      go_wp2
      go_ret
      exact ⟨Zd H.out.symm,hb⟩
     ·skip
      cases little
      ·skip
       have H:=Fs (show Zj ⟨name,kind,size,false,bytes,names,tags,kids⟩ true false false false K=true by simp only [Zj,Zg];rw [h1,h2,h3,hK,hk];rfl)
       go_enter func99,ntmps99
       go_wp2
       go_ret
       exact ⟨Zd H.out.symm,hb⟩
      ·cases hq:(kind==1)
       ·skip
        have H:=Fs (show Zj ⟨name,kind,size,true,bytes,names,tags,kids⟩ true false false false K=false by simp only [Zj,Zg];rw [h1,h2,h3,hK,hk,hq];rfl)
        go_enter func99,ntmps99
        go_wp2
        go_ret
        exact ⟨Zd H.out.symm,hb⟩
       ·skip
        have H:=Fs (show Zj ⟨name,kind,size,true,bytes,names,tags,kids⟩ true false false false K=true by simp only [Zj,Zg];rw [h1,h2,h3,hK,hk,hq];rfl)
        go_enter func99,ntmps99
        go_wp2
        go_ret
        exact ⟨Zd H.out.symm,hb⟩
    ·skip
     cases little
     ·skip
      have H:=Fs (show Zj ⟨name,kind,size,false,bytes,names,tags,kids⟩ true false false false K=true by simp only [Zj,Zg];rw [h1,h2,h3,hK];rfl)
      go_enter func99,ntmps99
      go_wp2
      go_ret
      exact ⟨Zd H.out.symm,hb⟩
     ·cases hq:(kind==1)
      ·skip
       have H:=Fs (show Zj ⟨name,kind,size,true,bytes,names,tags,kids⟩ true false false false K=false by simp only [Zj,Zg];rw [h1,h2,h3,hK,hq];rfl)
       go_enter func99,ntmps99
       go_wp2
       go_ret
       exact ⟨Zd H.out.symm,hb⟩
      ·skip
       have H:=Fs (show Zj ⟨name,kind,size,true,bytes,names,tags,kids⟩ true false false false K=true by simp only [Zj,Zg];rw [h1,h2,h3,hK,hq];rfl)
       go_enter func99,ntmps99
       go_wp2
       go_ret
       exact ⟨Zd H.out.symm,hb⟩
theorem Lq (r:RM) (B:Nat) (K:Int) (w:World) (h:r.rd w B):
  Calls prog 99 #[Ja r, .bool false, .bool true, .bool false, .bool false, .int .i64 K] w fun e w'=> e= .returned (.bool (Zj r.d false true false false K))∧Below w.heap.size w w':=by
 obtain ⟨⟨name,kind,size,little,bytes,names,tags,kids⟩,vb,vn,vt,vk⟩:=r
 have h1:Xu w B vb bytes:=h.b
 have h2:Va w B vn names:=h.n
 have h3:Yt w B vt tags:=h.t
 have h4:Yt w B vk kids:=h.k
 clear h
 obtain ⟨Ab,cb,rfl,hb1,hb2,x1⟩:=h1.open_
 obtain ⟨An,cn,rfl,hn1,hn2,x2⟩:=h2.one
 obtain ⟨At,ct,rfl,ht1,ht2,x3⟩:=h3.one
 obtain ⟨Ak,ck,rfl,hk1,hk2,x4⟩:=h4.one
 clear h1 h2 h3 h4 x1 x2 x3 x4
 unfold Ja
 simp only
 unfold maxLen at hb2 hn2 ht2 hk2
 have hb:=Below.allocW w (.cells #[.string name, .int .i64 kind, .int .i64 size, .bool little, .slice Ab bytes.length cb, .slice An names.length cn, .slice At tags.length ct, .slice Ak kids.length ck] 50) (Fu _)
 cases h0:(size==0)
 ·skip
  have H:=Fs (show Zj ⟨name,kind,size,little,bytes,names,tags,kids⟩ false true false false K=false by simp only [Zj,Zg];rw [h0];rfl)
  go_enter func99,ntmps99
  go_wp2
  go_ret
  exact ⟨Zd H.out.symm,hb⟩
 ·skip
  cases h2:(((names.length:Nat):Int)==0)
  ·skip
   have H:=Fs (show Zj ⟨name,kind,size,little,bytes,names,tags,kids⟩ false true false false K=false by simp only [Zj,Zg];rw [h0,h2];rfl)
   go_enter func99,ntmps99
   go_wp2
   go_ret
   exact ⟨Zd H.out.symm,hb⟩
  ·skip
   cases h3:(((tags.length:Nat):Int)==0)
   ·skip
    have H:=Fs (show Zj ⟨name,kind,size,little,bytes,names,tags,kids⟩ false true false false K=false by simp only [Zj,Zg];rw [h0,h2,h3];rfl)
    go_enter func99,ntmps99
    go_wp2
    go_ret
    exact ⟨Zd H.out.symm,hb⟩
   ·skip
    cases hK:decide (K < 0)
    ·cases hk:((kids.length:Int)==K)
     ·skip
      have H:=Fs (show Zj ⟨name,kind,size,little,bytes,names,tags,kids⟩ false true false false K=false by simp only [Zj,Zg];rw [h0,h2,h3,hK,hk];rfl)
      go_enter func99,ntmps99
      go_wp2
      go_ret
      exact ⟨Zd H.out.symm,hb⟩
     ·skip
      cases little
      ·skip
       have H:=Fs (show Zj ⟨name,kind,size,false,bytes,names,tags,kids⟩ false true false false K=true by simp only [Zj,Zg];rw [h0,h2,h3,hK,hk];rfl)
       go_enter func99,ntmps99
       go_wp2
       go_ret
       exact ⟨Zd H.out.symm,hb⟩
      ·cases hq:(kind==1)
       ·skip
        have H:=Fs (show Zj ⟨name,kind,size,true,bytes,names,tags,kids⟩ false true false false K=false by simp only [Zj,Zg];rw [h0,h2,h3,hK,hk,hq];rfl)
        go_enter func99,ntmps99
        go_wp2
        go_ret
        exact ⟨Zd H.out.symm,hb⟩
       ·skip
        have H:=Fs (show Zj ⟨name,kind,size,true,bytes,names,tags,kids⟩ false true false false K=true by simp only [Zj,Zg];rw [h0,h2,h3,hK,hk,hq];rfl)
        go_enter func99,ntmps99
        go_wp2
        go_ret
        exact ⟨Zd H.out.symm,hb⟩
    ·skip
     cases little
     ·skip
      have H:=Fs (show Zj ⟨name,kind,size,false,bytes,names,tags,kids⟩ false true false false K=true by simp only [Zj,Zg];rw [h0,h2,h3,hK];rfl)
      go_enter func99,ntmps99
      go_wp2
      go_ret
      exact ⟨Zd H.out.symm,hb⟩
     ·cases hq:(kind==1)
      ·skip
       have H:=Fs (show Zj ⟨name,kind,size,true,bytes,names,tags,kids⟩ false true false false K=false by simp only [Zj,Zg];rw [h0,h2,h3,hK,hq];rfl)
       go_enter func99,ntmps99
       go_wp2
       go_ret
       exact ⟨Zd H.out.symm,hb⟩
      ·skip
       have H:=Fs (show Zj ⟨name,kind,size,true,bytes,names,tags,kids⟩ false true false false K=true by simp only [Zj,Zg];rw [h0,h2,h3,hK,hq];rfl)
       go_enter func99,ntmps99
       go_wp2
       go_ret
       exact ⟨Zd H.out.symm,hb⟩
theorem specShape_n (r:RM) (B:Nat) (K:Int) (w:World) (h:r.rd w B):
  Calls prog 99 #[Ja r, .bool false, .bool false, .bool true, .bool false, .int .i64 K] w fun e w'=> e= .returned (.bool (Zj r.d false false true false K))∧Below w.heap.size w w':=by
 obtain ⟨⟨name,kind,size,little,bytes,names,tags,kids⟩,vb,vn,vt,vk⟩:=r
 have h1:Xu w B vb bytes:=h.b
 have h2:Va w B vn names:=h.n
 have h3:Yt w B vt tags:=h.t
 have h4:Yt w B vk kids:=h.k
 clear h
 obtain ⟨Ab,cb,rfl,hb1,hb2,x1⟩:=h1.open_
 obtain ⟨An,cn,rfl,hn1,hn2,x2⟩:=h2.one
 obtain ⟨At,ct,rfl,ht1,ht2,x3⟩:=h3.one
 obtain ⟨Ak,ck,rfl,hk1,hk2,x4⟩:=h4.one
 clear h1 h2 h3 h4 x1 x2 x3 x4
 unfold Ja
 simp only
 unfold maxLen at hb2 hn2 ht2 hk2
 have hb:=Below.allocW w (.cells #[.string name, .int .i64 kind, .int .i64 size, .bool little, .slice Ab bytes.length cb, .slice An names.length cn, .slice At tags.length ct, .slice Ak kids.length ck] 50) (Fu _)
 cases h0:(size==0)
 ·skip
  have H:=Fs (show Zj ⟨name,kind,size,little,bytes,names,tags,kids⟩ false false true false K=false by simp only [Zj,Zg];rw [h0];rfl)
  go_enter func99,ntmps99
  go_wp2
  go_ret
  exact ⟨Zd H.out.symm,hb⟩
 ·skip
  cases h1:(((bytes.length:Nat):Int)==0)
  ·skip
   have H:=Fs (show Zj ⟨name,kind,size,little,bytes,names,tags,kids⟩ false false true false K=false by simp only [Zj,Zg];rw [h0,h1];rfl)
   go_enter func99,ntmps99
   go_wp2
   go_ret
   exact ⟨Zd H.out.symm,hb⟩
  ·skip
   cases h3:(((tags.length:Nat):Int)==0)
   ·skip
    have H:=Fs (show Zj ⟨name,kind,size,little,bytes,names,tags,kids⟩ false false true false K=false by simp only [Zj,Zg];rw [h0,h1,h3];rfl)
    go_enter func99,ntmps99
    go_wp2
    go_ret
    exact ⟨Zd H.out.symm,hb⟩
   ·skip
    cases hK:decide (K < 0)
    ·cases hk:((kids.length:Int)==K)
     ·skip
      have H:=Fs (show Zj ⟨name,kind,size,little,bytes,names,tags,kids⟩ false false true false K=false by simp only [Zj,Zg];rw [h0,h1,h3,hK,hk];rfl)
      go_enter func99,ntmps99
      go_wp2
      go_ret
      exact ⟨Zd H.out.symm,hb⟩
     ·skip
      cases little
      ·skip
       have H:=Fs (show Zj ⟨name,kind,size,false,bytes,names,tags,kids⟩ false false true false K=true by simp only [Zj,Zg];rw [h0,h1,h3,hK,hk];rfl)
       go_enter func99,ntmps99
       go_wp2
       go_ret
       exact ⟨Zd H.out.symm,hb⟩
      ·cases hq:(kind==1)
       ·skip
        have H:=Fs (show Zj ⟨name,kind,size,true,bytes,names,tags,kids⟩ false false true false K=false by simp only [Zj,Zg];rw [h0,h1,h3,hK,hk,hq];rfl)
        go_enter func99,ntmps99
        go_wp2
        go_ret
        exact ⟨Zd H.out.symm,hb⟩
       ·skip
        have H:=Fs (show Zj ⟨name,kind,size,true,bytes,names,tags,kids⟩ false false true false K=true by simp only [Zj,Zg];rw [h0,h1,h3,hK,hk,hq];rfl)
        go_enter func99,ntmps99
        go_wp2
        go_ret
        exact ⟨Zd H.out.symm,hb⟩
    ·skip
     cases little
     ·skip
      have H:=Fs (show Zj ⟨name,kind,size,false,bytes,names,tags,kids⟩ false false true false K=true by simp only [Zj,Zg];rw [h0,h1,h3,hK];rfl)
      go_enter func99,ntmps99
      go_wp2
      go_ret
      exact ⟨Zd H.out.symm,hb⟩
     ·cases hq:(kind==1)
      ·skip
       have H:=Fs (show Zj ⟨name,kind,size,true,bytes,names,tags,kids⟩ false false true false K=false by simp only [Zj,Zg];rw [h0,h1,h3,hK,hq];rfl)
       go_enter func99,ntmps99
       go_wp2
       go_ret
       exact ⟨Zd H.out.symm,hb⟩
      ·skip
       have H:=Fs (show Zj ⟨name,kind,size,true,bytes,names,tags,kids⟩ false false true false K=true by simp only [Zj,Zg];rw [h0,h1,h3,hK,hq];rfl)
       go_enter func99,ntmps99
       go_wp2
       go_ret
       exact ⟨Zd H.out.symm,hb⟩
theorem specShape_t (r:RM) (B:Nat) (K:Int) (w:World) (h:r.rd w B):
  Calls prog 99 #[Ja r, .bool false, .bool false, .bool false, .bool true, .int .i64 K] w fun e w'=> e= .returned (.bool (Zj r.d false false false true K))∧Below w.heap.size w w':=by
 obtain ⟨⟨name,kind,size,little,bytes,names,tags,kids⟩,vb,vn,vt,vk⟩:=r
 have h1:Xu w B vb bytes:=h.b
 have h2:Va w B vn names:=h.n
 have h3:Yt w B vt tags:=h.t
 have h4:Yt w B vk kids:=h.k
 clear h
 obtain ⟨Ab,cb,rfl,hb1,hb2,x1⟩:=h1.open_
 obtain ⟨An,cn,rfl,hn1,hn2,x2⟩:=h2.one
 obtain ⟨At,ct,rfl,ht1,ht2,x3⟩:=h3.one
 obtain ⟨Ak,ck,rfl,hk1,hk2,x4⟩:=h4.one
 clear h1 h2 h3 h4 x1 x2 x3 x4
 unfold Ja
 simp only
 unfold maxLen at hb2 hn2 ht2 hk2
 have hb:=Below.allocW w (.cells #[.string name, .int .i64 kind, .int .i64 size, .bool little, .slice Ab bytes.length cb, .slice An names.length cn, .slice At tags.length ct, .slice Ak kids.length ck] 50) (Fu _)
 cases h0:(size==0)
 ·skip
  have H:=Fs (show Zj ⟨name,kind,size,little,bytes,names,tags,kids⟩ false false false true K=false by simp only [Zj,Zg];rw [h0];rfl)
  go_enter func99,ntmps99
  go_wp2
  go_ret
  exact ⟨Zd H.out.symm,hb⟩
 ·skip
  cases h1:(((bytes.length:Nat):Int)==0)
  ·skip
   have H:=Fs (show Zj ⟨name,kind,size,little,bytes,names,tags,kids⟩ false false false true K=false by simp only [Zj,Zg];rw [h0,h1];rfl)
   go_enter func99,ntmps99
   go_wp2
   go_ret
   exact ⟨Zd H.out.symm,hb⟩
  ·skip
   cases h2:(((names.length:Nat):Int)==0)
   ·skip
    have H:=Fs (show Zj ⟨name,kind,size,little,bytes,names,tags,kids⟩ false false false true K=false by simp only [Zj,Zg];rw [h0,h1,h2];rfl)
    go_enter func99,ntmps99
    go_wp2
    go_ret
    exact ⟨Zd H.out.symm,hb⟩
   ·skip
    cases hK:decide (K < 0)
    ·cases hk:((kids.length:Int)==K)
     ·skip
      have H:=Fs (show Zj ⟨name,kind,size,little,bytes,names,tags,kids⟩ false false false true K=false by simp only [Zj,Zg];rw [h0,h1,h2,hK,hk];rfl)
      go_enter func99,ntmps99
      go_wp2
      go_ret
      exact ⟨Zd H.out.symm,hb⟩
     ·skip
      cases little
      ·skip
       have H:=Fs (show Zj ⟨name,kind,size,false,bytes,names,tags,kids⟩ false false false true K=true by simp only [Zj,Zg];rw [h0,h1,h2,hK,hk];rfl)
       go_enter func99,ntmps99
       go_wp2
       go_ret
       exact ⟨Zd H.out.symm,hb⟩
      ·cases hq:(kind==1)
       ·skip
        have H:=Fs (show Zj ⟨name,kind,size,true,bytes,names,tags,kids⟩ false false false true K=false by simp only [Zj,Zg];rw [h0,h1,h2,hK,hk,hq];rfl)
        go_enter func99,ntmps99
        go_wp2
        go_ret
        exact ⟨Zd H.out.symm,hb⟩
       ·skip
        have H:=Fs (show Zj ⟨name,kind,size,true,bytes,names,tags,kids⟩ false false false true K=true by simp only [Zj,Zg];rw [h0,h1,h2,hK,hk,hq];rfl)
        go_enter func99,ntmps99
        go_wp2
        go_ret
        exact ⟨Zd H.out.symm,hb⟩
    ·skip
     cases little
     ·skip
      have H:=Fs (show Zj ⟨name,kind,size,false,bytes,names,tags,kids⟩ false false false true K=true by simp only [Zj,Zg];rw [h0,h1,h2,hK];rfl)
      go_enter func99,ntmps99
      go_wp2
      go_ret
      exact ⟨Zd H.out.symm,hb⟩
     ·cases hq:(kind==1)
      ·skip
       have H:=Fs (show Zj ⟨name,kind,size,true,bytes,names,tags,kids⟩ false false false true K=false by simp only [Zj,Zg];rw [h0,h1,h2,hK,hq];rfl)
       go_enter func99,ntmps99
       go_wp2
       go_ret
       exact ⟨Zd H.out.symm,hb⟩
      ·skip
       have H:=Fs (show Zj ⟨name,kind,size,true,bytes,names,tags,kids⟩ false false false true K=true by simp only [Zj,Zg];rw [h0,h1,h2,hK,hq];rfl)
       go_enter func99,ntmps99
       go_wp2
       go_ret
       exact ⟨Zd H.out.symm,hb⟩
theorem Rc (r:RM) (B:Nat) (K:Int) (w:World) (h:r.rd w B):
  Calls prog 99 #[Ja r, .bool false, .bool false, .bool false, .bool false, .int .i64 K] w fun e w'=> e= .returned (.bool (Zj r.d false false false false K))∧Below w.heap.size w w':=by
 obtain ⟨⟨name,kind,size,little,bytes,names,tags,kids⟩,vb,vn,vt,vk⟩:=r
 have h1:Xu w B vb bytes:=h.b
 have h2:Va w B vn names:=h.n
 have h3:Yt w B vt tags:=h.t
 have h4:Yt w B vk kids:=h.k
 clear h
 obtain ⟨Ab,cb,rfl,hb1,hb2,x1⟩:=h1.open_
 obtain ⟨An,cn,rfl,hn1,hn2,x2⟩:=h2.one
 obtain ⟨At,ct,rfl,ht1,ht2,x3⟩:=h3.one
 obtain ⟨Ak,ck,rfl,hk1,hk2,x4⟩:=h4.one
 clear h1 h2 h3 h4 x1 x2 x3 x4
 unfold Ja
 simp only
 unfold maxLen at hb2 hn2 ht2 hk2
 have hb:=Below.allocW w (.cells #[.string name, .int .i64 kind, .int .i64 size, .bool little, .slice Ab bytes.length cb, .slice An names.length cn, .slice At tags.length ct, .slice Ak kids.length ck] 50) (Fu _)
 cases h0:(size==0)
 ·skip
  have H:=Fs (show Zj ⟨name,kind,size,little,bytes,names,tags,kids⟩ false false false false K=false by simp only [Zj,Zg];rw [h0];rfl)
  go_enter func99,ntmps99
  go_wp2
  go_ret
  exact ⟨Zd H.out.symm,hb⟩
 ·skip
  cases h1:(((bytes.length:Nat):Int)==0)
  ·skip
   have H:=Fs (show Zj ⟨name,kind,size,little,bytes,names,tags,kids⟩ false false false false K=false by simp only [Zj,Zg];rw [h0,h1];rfl)
   go_enter func99,ntmps99
   go_wp2
   go_ret
   exact ⟨Zd H.out.symm,hb⟩
  ·skip
   cases h2:(((names.length:Nat):Int)==0)
   ·skip
    have H:=Fs (show Zj ⟨name,kind,size,little,bytes,names,tags,kids⟩ false false false false K=false by simp only [Zj,Zg];rw [h0,h1,h2];rfl)
    go_enter func99,ntmps99
    go_wp2
    go_ret
    exact ⟨Zd H.out.symm,hb⟩
   ·skip
    cases h3:(((tags.length:Nat):Int)==0)
    ·skip
     have H:=Fs (show Zj ⟨name,kind,size,little,bytes,names,tags,kids⟩ false false false false K=false by simp only [Zj,Zg];rw [h0,h1,h2,h3];rfl)
     go_enter func99,ntmps99
     go_wp2
     go_ret
     exact ⟨Zd H.out.symm,hb⟩
    ·skip
     cases hK:decide (K < 0)
     ·cases hk:((kids.length:Int)==K)
      ·skip
       have H:=Fs (show Zj ⟨name,kind,size,little,bytes,names,tags,kids⟩ false false false false K=false by simp only [Zj,Zg];rw [h0,h1,h2,h3,hK,hk];rfl)
       go_enter func99,ntmps99
       go_wp2
       go_ret
       exact ⟨Zd H.out.symm,hb⟩
      ·skip
       cases little
       ·skip
        have H:=Fs (show Zj ⟨name,kind,size,false,bytes,names,tags,kids⟩ false false false false K=true by simp only [Zj,Zg];rw [h0,h1,h2,h3,hK,hk];rfl)
        go_enter func99,ntmps99
        go_wp2
        go_ret
        exact ⟨Zd H.out.symm,hb⟩
       ·cases hq:(kind==1)
        ·skip
         have H:=Fs (show Zj ⟨name,kind,size,true,bytes,names,tags,kids⟩ false false false false K=false by simp only [Zj,Zg];rw [h0,h1,h2,h3,hK,hk,hq];rfl)
         go_enter func99,ntmps99
         go_wp2
         go_ret
         exact ⟨Zd H.out.symm,hb⟩
        ·skip
         have H:=Fs (show Zj ⟨name,kind,size,true,bytes,names,tags,kids⟩ false false false false K=true by simp only [Zj,Zg];rw [h0,h1,h2,h3,hK,hk,hq];rfl)
         go_enter func99,ntmps99
         go_wp2
         go_ret
         exact ⟨Zd H.out.symm,hb⟩
     ·skip
      cases little
      ·skip
       have H:=Fs (show Zj ⟨name,kind,size,false,bytes,names,tags,kids⟩ false false false false K=true by simp only [Zj,Zg];rw [h0,h1,h2,h3,hK];rfl)
       go_enter func99,ntmps99
       go_wp2
       go_ret
       exact ⟨Zd H.out.symm,hb⟩
      ·cases hq:(kind==1)
       ·skip
        have H:=Fs (show Zj ⟨name,kind,size,true,bytes,names,tags,kids⟩ false false false false K=false by simp only [Zj,Zg];rw [h0,h1,h2,h3,hK,hq];rfl)
        go_enter func99,ntmps99
        go_wp2
        go_ret
        exact ⟨Zd H.out.symm,hb⟩
       ·skip
        have H:=Fs (show Zj ⟨name,kind,size,true,bytes,names,tags,kids⟩ false false false false K=true by simp only [Zj,Zg];rw [h0,h1,h2,h3,hK,hq];rfl)
        go_enter func99,ntmps99
        go_wp2
        go_ret
        exact ⟨Zd H.out.symm,hb⟩
theorem Lz (r:RM) (B:Nat) (K:Int) (w:World) (h:r.rd w B):
  Calls prog 103 #[Ja r, .bool true, .bool false, .bool false, .bool false, .int .i64 K] w fun e w'=> e= .returned (.bool (Zg r.d true false false false K))∧Below w.heap.size w w':=by
 obtain ⟨⟨name,kind,size,little,bytes,names,tags,kids⟩,vb,vn,vt,vk⟩:=r
 have h1:Xu w B vb bytes:=h.b
 have h2:Va w B vn names:=h.n
 have h3:Yt w B vt tags:=h.t
 have h4:Yt w B vk kids:=h.k
 clear h
 obtain ⟨Ab,cb,rfl,hb1,hb2,x1⟩:=h1.open_
 obtain ⟨An,cn,rfl,hn1,hn2,x2⟩:=h2.one
 obtain ⟨At,ct,rfl,ht1,ht2,x3⟩:=h3.one
 obtain ⟨Ak,ck,rfl,hk1,hk2,x4⟩:=h4.one
 clear h1 h2 h3 h4 x1 x2 x3 x4
 unfold Ja
 simp only
 unfold maxLen at hb2 hn2 ht2 hk2
 have hb:=Below.allocW w (.cells #[.string name, .int .i64 kind, .int .i64 size, .bool little, .slice Ab bytes.length cb, .slice An names.length cn, .slice At tags.length ct, .slice Ak kids.length ck] 50) (Fu _)
 cases h1:(((bytes.length:Nat):Int)==0)
 ·skip
  have H:=Fs (show Zg ⟨name,kind,size,little,bytes,names,tags,kids⟩ true false false false K=false by simp only [Zj,Zg];rw [h1];rfl)
  go_enter func103,ntmps103
  go_wp2
  go_ret
  exact ⟨Zd H.out.symm,hb⟩
 ·skip
  cases h2:(((names.length:Nat):Int)==0)
  ·skip
   have H:=Fs (show Zg ⟨name,kind,size,little,bytes,names,tags,kids⟩ true false false false K=false by simp only [Zj,Zg];rw [h1,h2];rfl)
   go_enter func103,ntmps103
   go_wp2
   go_ret
   exact ⟨Zd H.out.symm,hb⟩
  ·skip
   cases h3:(((tags.length:Nat):Int)==0)
   ·skip
    have H:=Fs (show Zg ⟨name,kind,size,little,bytes,names,tags,kids⟩ true false false false K=false by simp only [Zj,Zg];rw [h1,h2,h3];rfl)
    go_enter func103,ntmps103
    go_wp2
    go_ret
    exact ⟨Zd H.out.symm,hb⟩
   ·skip
    cases hK:decide (K < 0)
    ·cases hk:((kids.length:Int)==K)
     ·skip
      have H:=Fs (show Zg ⟨name,kind,size,little,bytes,names,tags,kids⟩ true false false false K=false by simp only [Zj,Zg];rw [h1,h2,h3,hK,hk];rfl)
      go_enter func103,ntmps103
      go_wp2
      go_ret
      exact ⟨Zd H.out.symm,hb⟩
     ·skip
      have H:=Fs (show Zg ⟨name,kind,size,little,bytes,names,tags,kids⟩ true false false false K=true by simp only [Zj,Zg];rw [h1,h2,h3,hK,hk];rfl)
      go_enter func103,ntmps103
      go_wp2
      go_ret
      exact ⟨Zd H.out.symm,hb⟩
    ·skip
     have H:=Fs (show Zg ⟨name,kind,size,little,bytes,names,tags,kids⟩ true false false false K=true by simp only [Zj,Zg];rw [h1,h2,h3,hK];rfl)
     go_enter func103,ntmps103
     go_wp2
     go_ret
     exact ⟨Zd H.out.symm,hb⟩
theorem Ka (r:RM) (B:Nat) (K:Int) (w:World) (h:r.rd w B):
  Calls prog 103 #[Ja r, .bool false, .bool true, .bool false, .bool false, .int .i64 K] w fun e w'=> e= .returned (.bool (Zg r.d false true false false K))∧Below w.heap.size w w':=by
 obtain ⟨⟨name,kind,size,little,bytes,names,tags,kids⟩,vb,vn,vt,vk⟩:=r
 have h1:Xu w B vb bytes:=h.b
 have h2:Va w B vn names:=h.n
 have h3:Yt w B vt tags:=h.t
 have h4:Yt w B vk kids:=h.k
 clear h
 obtain ⟨Ab,cb,rfl,hb1,hb2,x1⟩:=h1.open_
 obtain ⟨An,cn,rfl,hn1,hn2,x2⟩:=h2.one
 obtain ⟨At,ct,rfl,ht1,ht2,x3⟩:=h3.one
 obtain ⟨Ak,ck,rfl,hk1,hk2,x4⟩:=h4.one
 clear h1 h2 h3 h4 x1 x2 x3 x4
 unfold Ja
 simp only
 unfold maxLen at hb2 hn2 ht2 hk2
 have hb:=Below.allocW w (.cells #[.string name, .int .i64 kind, .int .i64 size, .bool little, .slice Ab bytes.length cb, .slice An names.length cn, .slice At tags.length ct, .slice Ak kids.length ck] 50) (Fu _)
 cases h0:(size==0)
 ·skip
  have H:=Fs (show Zg ⟨name,kind,size,little,bytes,names,tags,kids⟩ false true false false K=false by simp only [Zj,Zg];rw [h0];rfl)
  go_enter func103,ntmps103
  go_wp2
  go_ret
  exact ⟨Zd H.out.symm,hb⟩
 ·skip
  cases h2:(((names.length:Nat):Int)==0)
  ·skip
   have H:=Fs (show Zg ⟨name,kind,size,little,bytes,names,tags,kids⟩ false true false false K=false by simp only [Zj,Zg];rw [h0,h2];rfl)
   go_enter func103,ntmps103
   go_wp2
   go_ret
   exact ⟨Zd H.out.symm,hb⟩
  ·skip
   cases h3:(((tags.length:Nat):Int)==0)
   ·skip
    have H:=Fs (show Zg ⟨name,kind,size,little,bytes,names,tags,kids⟩ false true false false K=false by simp only [Zj,Zg];rw [h0,h2,h3];rfl)
    go_enter func103,ntmps103
    go_wp2
    go_ret
    exact ⟨Zd H.out.symm,hb⟩
   ·skip
    cases hK:decide (K < 0)
    ·cases hk:((kids.length:Int)==K)
     ·skip
      have H:=Fs (show Zg ⟨name,kind,size,little,bytes,names,tags,kids⟩ false true false false K=false by simp only [Zj,Zg];rw [h0,h2,h3,hK,hk];rfl)
      go_enter func103,ntmps103
      go_wp2
      go_ret
      exact ⟨Zd H.out.symm,hb⟩
     ·skip
      have H:=Fs (show Zg ⟨name,kind,size,little,bytes,names,tags,kids⟩ false true false false K=true by simp only [Zj,Zg];rw [h0,h2,h3,hK,hk];rfl)
      go_enter func103,ntmps103
      go_wp2
      go_ret
      exact ⟨Zd H.out.symm,hb⟩
    ·skip
     have H:=Fs (show Zg ⟨name,kind,size,little,bytes,names,tags,kids⟩ false true false false K=true by simp only [Zj,Zg];rw [h0,h2,h3,hK];rfl)
     go_enter func103,ntmps103
     go_wp2
     go_ret
     exact ⟨Zd H.out.symm,hb⟩
theorem implPlain_n (r:RM) (B:Nat) (K:Int) (w:World) (h:r.rd w B):
  Calls prog 103 #[Ja r, .bool false, .bool false, .bool true, .bool false, .int .i64 K] w fun e w'=> e= .returned (.bool (Zg r.d false false true false K))∧Below w.heap.size w w':=by
 obtain ⟨⟨name,kind,size,little,bytes,names,tags,kids⟩,vb,vn,vt,vk⟩:=r
 have h1:Xu w B vb bytes:=h.b
 have h2:Va w B vn names:=h.n
 have h3:Yt w B vt tags:=h.t
 have h4:Yt w B vk kids:=h.k
 clear h
 obtain ⟨Ab,cb,rfl,hb1,hb2,x1⟩:=h1.open_
 obtain ⟨An,cn,rfl,hn1,hn2,x2⟩:=h2.one
 obtain ⟨At,ct,rfl,ht1,ht2,x3⟩:=h3.one
 obtain ⟨Ak,ck,rfl,hk1,hk2,x4⟩:=h4.one
 clear h1 h2 h3 h4 x1 x2 x3 x4
 unfold Ja
 simp only
 unfold maxLen at hb2 hn2 ht2 hk2
 have hb:=Below.allocW w (.cells #[.string name, .int .i64 kind, .int .i64 size, .bool little, .slice Ab bytes.length cb, .slice An names.length cn, .slice At tags.length ct, .slice Ak kids.length ck] 50) (Fu _)
 cases h0:(size==0)
 ·skip
  have H:=Fs (show Zg ⟨name,kind,size,little,bytes,names,tags,kids⟩ false false true false K=false by simp only [Zj,Zg];rw [h0];rfl)
  go_enter func103,ntmps103
  go_wp2
  go_ret
  exact ⟨Zd H.out.symm,hb⟩
 ·skip
  cases h1:(((bytes.length:Nat):Int)==0)
  ·skip
   have H:=Fs (show Zg ⟨name,kind,size,little,bytes,names,tags,kids⟩ false false true false K=false by simp only [Zj,Zg];rw [h0,h1];rfl)
   go_enter func103,ntmps103
   go_wp2
   go_ret
   exact ⟨Zd H.out.symm,hb⟩
  ·skip
   cases h3:(((tags.length:Nat):Int)==0)
   ·skip
    have H:=Fs (show Zg ⟨name,kind,size,little,bytes,names,tags,kids⟩ false false true false K=false by simp only [Zj,Zg];rw [h0,h1,h3];rfl)
    go_enter func103,ntmps103
    go_wp2
    go_ret
    exact ⟨Zd H.out.symm,hb⟩
   ·skip
    cases hK:decide (K < 0)
    ·cases hk:((kids.length:Int)==K)
     ·skip
      have H:=Fs (show Zg ⟨name,kind,size,little,bytes,names,tags,kids⟩ false false true false K=false by simp only [Zj,Zg];rw [h0,h1,h3,hK,hk];rfl)
      go_enter func103,ntmps103
      go_wp2
      go_ret
      exact ⟨Zd H.out.symm,hb⟩
     ·skip
      have H:=Fs (show Zg ⟨name,kind,size,little,bytes,names,tags,kids⟩ false false true false K=true by simp only [Zj,Zg];rw [h0,h1,h3,hK,hk];rfl)
      go_enter func103,ntmps103
      go_wp2
      go_ret
      exact ⟨Zd H.out.symm,hb⟩
    ·skip
     have H:=Fs (show Zg ⟨name,kind,size,little,bytes,names,tags,kids⟩ false false true false K=true by simp only [Zj,Zg];rw [h0,h1,h3,hK];rfl)
     go_enter func103,ntmps103
     go_wp2
     go_ret
     exact ⟨Zd H.out.symm,hb⟩
theorem implPlain_t (r:RM) (B:Nat) (K:Int) (w:World) (h:r.rd w B):
  Calls prog 103 #[Ja r, .bool false, .bool false, .bool false, .bool true, .int .i64 K] w fun e w'=> e= .returned (.bool (Zg r.d false false false true K))∧Below w.heap.size w w':=by
 obtain ⟨⟨name,kind,size,little,bytes,names,tags,kids⟩,vb,vn,vt,vk⟩:=r
 have h1:Xu w B vb bytes:=h.b
 have h2:Va w B vn names:=h.n
 have h3:Yt w B vt tags:=h.t
 have h4:Yt w B vk kids:=h.k
 clear h
 obtain ⟨Ab,cb,rfl,hb1,hb2,x1⟩:=h1.open_
 obtain ⟨An,cn,rfl,hn1,hn2,x2⟩:=h2.one
 obtain ⟨At,ct,rfl,ht1,ht2,x3⟩:=h3.one
 obtain ⟨Ak,ck,rfl,hk1,hk2,x4⟩:=h4.one
 clear h1 h2 h3 h4 x1 x2 x3 x4
 unfold Ja
 simp only
 unfold maxLen at hb2 hn2 ht2 hk2
 have hb:=Below.allocW w (.cells #[.string name, .int .i64 kind, .int .i64 size, .bool little, .slice Ab bytes.length cb, .slice An names.length cn, .slice At tags.length ct, .slice Ak kids.length ck] 50) (Fu _)
 cases h0:(size==0)
 ·skip
  have H:=Fs (show Zg ⟨name,kind,size,little,bytes,names,tags,kids⟩ false false false true K=false by simp only [Zj,Zg];rw [h0];rfl)
  go_enter func103,ntmps103
  go_wp2
  go_ret
  exact ⟨Zd H.out.symm,hb⟩
 ·skip
  cases h1:(((bytes.length:Nat):Int)==0)
  ·skip
   have H:=Fs (show Zg ⟨name,kind,size,little,bytes,names,tags,kids⟩ false false false true K=false by simp only [Zj,Zg];rw [h0,h1];rfl)
   go_enter func103,ntmps103
   go_wp2
   go_ret
   exact ⟨Zd H.out.symm,hb⟩
  ·skip
   cases h2:(((names.length:Nat):Int)==0)
   ·skip
    have H:=Fs (show Zg ⟨name,kind,size,little,bytes,names,tags,kids⟩ false false false true K=false by simp only [Zj,Zg];rw [h0,h1,h2];rfl)
    go_enter func103,ntmps103
    go_wp2
    go_ret
    exact ⟨Zd H.out.symm,hb⟩
   ·skip
    cases hK:decide (K < 0)
    ·cases hk:((kids.length:Int)==K)
     ·skip
      have H:=Fs (show Zg ⟨name,kind,size,little,bytes,names,tags,kids⟩ false false false true K=false by simp only [Zj,Zg];rw [h0,h1,h2,hK,hk];rfl)
      go_enter func103,ntmps103
      go_wp2
      go_ret
      exact ⟨Zd H.out.symm,hb⟩
     ·skip
      have H:=Fs (show Zg ⟨name,kind,size,little,bytes,names,tags,kids⟩ false false false true K=true by simp only [Zj,Zg];rw [h0,h1,h2,hK,hk];rfl)
      go_enter func103,ntmps103
      go_wp2
      go_ret
      exact ⟨Zd H.out.symm,hb⟩
    ·skip
     have H:=Fs (show Zg ⟨name,kind,size,little,bytes,names,tags,kids⟩ false false false true K=true by simp only [Zj,Zg];rw [h0,h1,h2,hK];rfl)
     go_enter func103,ntmps103
     go_wp2
     go_ret
     exact ⟨Zd H.out.symm,hb⟩
theorem Rf (r:RM) (B:Nat) (K:Int) (w:World) (h:r.rd w B):
  Calls prog 103 #[Ja r, .bool false, .bool false, .bool false, .bool false, .int .i64 K] w fun e w'=> e= .returned (.bool (Zg r.d false false false false K))∧Below w.heap.size w w':=by
 obtain ⟨⟨name,kind,size,little,bytes,names,tags,kids⟩,vb,vn,vt,vk⟩:=r
 have h1:Xu w B vb bytes:=h.b
 have h2:Va w B vn names:=h.n
 have h3:Yt w B vt tags:=h.t
 have h4:Yt w B vk kids:=h.k
 clear h
 obtain ⟨Ab,cb,rfl,hb1,hb2,x1⟩:=h1.open_
 obtain ⟨An,cn,rfl,hn1,hn2,x2⟩:=h2.one
 obtain ⟨At,ct,rfl,ht1,ht2,x3⟩:=h3.one
 obtain ⟨Ak,ck,rfl,hk1,hk2,x4⟩:=h4.one
 clear h1 h2 h3 h4 x1 x2 x3 x4
 unfold Ja
 simp only
 unfold maxLen at hb2 hn2 ht2 hk2
 have hb:=Below.allocW w (.cells #[.string name, .int .i64 kind, .int .i64 size, .bool little, .slice Ab bytes.length cb, .slice An names.length cn, .slice At tags.length ct, .slice Ak kids.length ck] 50) (Fu _)
 cases h0:(size==0)
 ·skip
  have H:=Fs (show Zg ⟨name,kind,size,little,bytes,names,tags,kids⟩ false false false false K=false by simp only [Zj,Zg];rw [h0];rfl)
  go_enter func103,ntmps103
  go_wp2
  go_ret
  exact ⟨Zd H.out.symm,hb⟩
 ·skip
  cases h1:(((bytes.length:Nat):Int)==0)
  ·skip
   have H:=Fs (show Zg ⟨name,kind,size,little,bytes,names,tags,kids⟩ false false false false K=false by simp only [Zj,Zg];rw [h0,h1];rfl)
   go_enter func103,ntmps103
   go_wp2
   go_ret
   exact ⟨Zd H.out.symm,hb⟩
  ·skip
   cases h2:(((names.length:Nat):Int)==0)
   ·skip
    have H:=Fs (show Zg ⟨name,kind,size,little,bytes,names,tags,kids⟩ false false false false K=false by simp only [Zj,Zg];rw [h0,h1,h2];rfl)
    go_enter func103,ntmps103
    go_wp2
    go_ret
    exact ⟨Zd H.out.symm,hb⟩
   ·skip
    cases h3:(((tags.length:Nat):Int)==0)
    ·skip
     have H:=Fs (show Zg ⟨name,kind,size,little,bytes,names,tags,kids⟩ false false false false K=false by simp only [Zj,Zg];rw [h0,h1,h2,h3];rfl)
     go_enter func103,ntmps103
     go_wp2
     go_ret
     exact ⟨Zd H.out.symm,hb⟩
    ·skip
     cases hK:decide (K < 0)
     ·cases hk:((kids.length:Int)==K)
      ·skip
       have H:=Fs (show Zg ⟨name,kind,size,little,bytes,names,tags,kids⟩ false false false false K=false by simp only [Zj,Zg];rw [h0,h1,h2,h3,hK,hk];rfl)
       go_enter func103,ntmps103
       go_wp2
       go_ret
       exact ⟨Zd H.out.symm,hb⟩
      ·skip
       have H:=Fs (show Zg ⟨name,kind,size,little,bytes,names,tags,kids⟩ false false false false K=true by simp only [Zj,Zg];rw [h0,h1,h2,h3,hK,hk];rfl)
       go_enter func103,ntmps103
       go_wp2
       go_ret
       exact ⟨Zd H.out.symm,hb⟩
     ·skip
      have H:=Fs (show Zg ⟨name,kind,size,little,bytes,names,tags,kids⟩ false false false false K=true by simp only [Zj,Zg];rw [h0,h1,h2,h3,hK];rfl)
      go_enter func103,ntmps103
      go_wp2
      go_ret
      exact ⟨Zd H.out.symm,hb⟩
def Vf (c:UInt8):Bool:=decide (97≤c.toNat) && decide (c.toNat≤122)
def Tu (s:ByteArray) (k:Nat):Bool:=match s.data.toList[k]? with
 |some c=> Vf c||(Ym c && decide (k≠0))
 |none=> true
def Vz (s:ByteArray):Nat→Bool
 |0=> true
 |k+1=> Vz s k && Tu s k
def Jc (s:ByteArray):Bool:=Vz s s.size && (decide (1≤s.size) && decide (s.size≤12))
theorem Gi (s:ByteArray) (k:Nat) (h:k < s.size):Tu s k=(Vf s[k]||(Ym s[k] && decide (k≠0))):=by
 have h':k < s.data.toList.length:=by rw [←Lib.size_eq];exact h
 rw [Tu,List.getElem?_eq_getElem h'];rfl
theorem Gh (s:ByteArray) (k n:Nat) (h:k < n) (hb:Tu s k=false):Vz s n=false:=by
 induction n with
 |zero=> omega
 |succ n ih=>
  by_cases hk:k=n
  ·subst hk;rw [Vz,hb];simp
  ·rw [Vz,ih (by omega)];rfl
theorem Lv (s:ByteArray) (k:Nat) (h:Vz s k=true) (hb:Tu s k=true):Vz s (k+1)=true:=by rw [Vz,h,hb];rfl
theorem Jn (s:ByteArray) (w:World) (hs:s.size≤maxLen):
  Calls prog 79 #[.string s] w fun e w'=> e= .returned (.bool (Jc s))∧w=w':=by
 unfold maxLen at hs
 go_enter func79,ntmps79
 go_wp2
 go_loop [3] (fun i=> ∃k:Nat,k≤s.size∧i= .int .i64 k∧Vz s k=true) (fun i=> s.size - (intOf i).toNat)
 case atStart=> exact ⟨0,Eb _,rfl,rfl⟩
 case round=>
  obtain ⟨k,hk,rfl,hn⟩:=hrel
  have HN:=Fs hn
  clear hn
  by_cases hlt:k < s.size
  ·have e:=Gi s k hlt
   have good:Tu s k=true→Hid (Vz s (k+1)=true):=fun h=> Lv s k HN.out h
   have bad:Tu s k=false→Hid (Jc s=false):=fun h=> by show Jc s=false;rw [Jc,Gh s k s.size hlt h];rfl
   by_cases a1:97≤s[k].toNat
   ·by_cases a2:s[k].toNat≤122
    ·have H:=good (by rw [e];simp [Vf,a1,a2])
     have d1:decide (97≤(s[k].toNat:Int))=true:=Fy (by omega)
     have d2:decide ((s[k].toNat:Int)≤122)=true:=Fy (by omega)
     have d3:decide (48≤(s[k].toNat:Int))=true:=Fy (by omega)
     have d4:decide ((s[k].toNat:Int)≤57)=false:=Fx (by omega)
     clear e good bad a1 a2
     go_wp2
     all_goals
      go_round
      case rel=> exact ⟨k+1,by omega,by go_num,H.out⟩
      case measure=> simp [intOf] <;> omega
    ·have H:=bad (by rw [e];simp [Vf,Ym];omega)
     have d1:decide (97≤(s[k].toNat:Int))=true:=Fy (by omega)
     have d2:decide ((s[k].toNat:Int)≤122)=false:=Fx (by omega)
     have d3:decide (48≤(s[k].toNat:Int))=true:=Fy (by omega)
     have d4:decide ((s[k].toNat:Int)≤57)=false:=Fx (by omega)
     clear e good bad a1 a2
     go_wp2
     all_goals
      go_ret
      exact ⟨Zd H.out.symm,rfl⟩
   ·have d1:decide (97≤(s[k].toNat:Int))=false:=Fx (by omega)
    by_cases b1:48≤s[k].toNat
    ·have d3:decide (48≤(s[k].toNat:Int))=true:=Fy (by omega)
     by_cases b2:s[k].toNat≤57
     ·have d4:decide ((s[k].toNat:Int)≤57)=true:=Fy (by omega)
      by_cases hk0:k=0
      ·have H:=bad (by rw [e,show Vf s[k]=false by simp [Vf];omega,Fx (show ¬k≠0 by omega)];simp)
       have d5:((k:Int)==0)=true:=by rw [beq_iff_eq];omega
       clear e good bad a1 b1 b2 hk0
       go_wp2
       all_goals
        go_ret
        exact ⟨Zd H.out.symm,rfl⟩
      ·have H:=good (by rw [e,show Ym s[k]=true by simp [Ym];omega,Fy hk0];simp)
       have d5:((k:Int)==0)=false:=by rw [beq_eq_false_iff_ne];omega
       clear e good bad a1 b1 b2 hk0
       go_wp2
       all_goals
        go_round
        case rel=> exact ⟨k+1,by omega,by go_num,H.out⟩
        case measure=> simp [intOf] <;> omega
     ·have d4:decide ((s[k].toNat:Int)≤57)=false:=Fx (by omega)
      have H:=bad (by rw [e];simp [Vf,Ym];omega)
      clear e good bad a1 b1 b2
      go_wp2
      all_goals
       go_ret
       exact ⟨Zd H.out.symm,rfl⟩
    ·have d3:decide (48≤(s[k].toNat:Int))=false:=Fx (by omega)
     have H:=bad (by rw [e];simp [Vf,Ym];omega)
     clear e good bad a1 b1
     go_wp2
     all_goals
      go_ret
      exact ⟨Zd H.out.symm,rfl⟩
  ·have hks:k=s.size:=by omega
   have HX:=Fs (show Jc s=Xs (s.size:Int) 1 12 by
    rw [Jc,←hks,HN.out,hks]
    unfold Xs
    rw [Bool.eq_iff_iff];simp;omega)
   clear hks
   go_wp2_with (go_at_call 30;refine (Qi _ _ _ _).mono ?_;rintro e w' ⟨rfl,rfl⟩)
   go_ret
   exact ⟨Zd HX.out.symm,rfl⟩
theorem Uo (w:World) (s:ByteArray) (p:Nat):Below w.heap.size w (w.iter s p):=(Fv _ _).alloc (Fu _) _
theorem Yp (s:ByteArray) (w:World) (hs:s.size≤maxLen):
  Calls prog 84 #[.string s] w fun e w'=> e= .returned (.bool (Jc s))∧Below w.heap.size w w':=by
 unfold maxLen at hs
 by_cases h1:s.size < 1
 ·have H:=Fs (show Jc s=false by rw [Jc,Fx (show ¬1≤s.size by omega)];simp)
  have d1:decide ((s.size:Int) < 1)=true:=Fy (by omega)
  clear h1
  go_enter func84,ntmps84
  go_wp2
  go_ret
  exact ⟨Zd H.out.symm,Fv _ _⟩
 have d1:decide ((s.size:Int) < 1)=false:=Fx (by omega)
 by_cases h2:12 < s.size
 ·have H:=Fs (show Jc s=false by rw [Jc,Fx (show ¬s.size≤12 by omega)];simp)
  have d2:decide (12 < (s.size:Int))=true:=Fy (by omega)
  clear h2 h1
  go_enter func84,ntmps84
  go_wp2
  go_ret
  exact ⟨Zd H.out.symm,Fv _ _⟩
 have d2:decide (12 < (s.size:Int))=false:=Fx (by omega)
 go_enter func84,ntmps84
 go_wp2
 clear d1 d2
 go_loopw [3] (fun _ wr=> ∃p:Nat,wr=w.iter s p∧p≤s.size∧Vz s p=true) (fun _ wr=> s.size - wr.iterPos w.heap.size)
 case atStart=> exact ⟨0,rfl,Eb _,rfl⟩
 case round=>
  obtain ⟨k,rfl,hk,hn⟩:=hrel
  have HN:=Fs hn
  clear hn
  by_cases hlt:k < s.size
  ·have e:=Gi s k hlt
   have good:Tu s k=true→Hid (Vz s (k+1)=true):=fun h=> Lv s k HN.out h
   have bad:Tu s k=false→Hid (Jc s=false):=fun h=> by show Jc s=false;rw [Jc,Gh s k s.size hlt h];rfl
   by_cases ha:s[k].toNat < 128
   ·have hnx:∀ty,(Instr.next (.pointer (some ⟨w.heap.size,0,none⟩)) true ty).run prog (w.iter s k)=_:=fun ty=> run_next_ascii w s k ty hlt ha
    by_cases a1:97≤s[k].toNat
    ·have e1:decide (97≤(s[k].toNat:Int))=true:=Fy (by omega)
     have e3:decide (48≤(s[k].toNat:Int))=true:=Fy (by omega)
     have e4:decide ((s[k].toNat:Int)≤57)=false:=Fx (by omega)
     by_cases a2:s[k].toNat≤122
     ·have H:=good (by rw [e];simp [Vf,a1,a2])
      have e2:decide ((s[k].toNat:Int)≤122)=true:=Fy (by omega)
      clear e good bad a1 a2 ha
      go_wp2
      go_roundw
      case rel=> exact ⟨k+1,rfl,by omega,H.out⟩
      case measure=> simp <;> omega
     ·have H:=bad (by rw [e];simp [Vf,Ym];omega)
      have e2:decide ((s[k].toNat:Int)≤122)=false:=Fx (by omega)
      clear e good bad a1 a2 ha
      go_wp2
      go_ret
      exact ⟨Zd H.out.symm,Uo _ _ _⟩
    ·have e1:decide (97≤(s[k].toNat:Int))=false:=Fx (by omega)
     by_cases b1:48≤s[k].toNat
     ·have e3:decide (48≤(s[k].toNat:Int))=true:=Fy (by omega)
      by_cases b2:s[k].toNat≤57
      ·have e4:decide ((s[k].toNat:Int)≤57)=true:=Fy (by omega)
       by_cases hk0:k=0
       ·have H:=bad (by rw [e,show Vf s[k]=false by simp [Vf];omega,Fx (show ¬k≠0 by omega)];simp)
        have e5:((k:Int)==0)=true:=by rw [beq_iff_eq];omega
        clear e good bad a1 b1 b2 hk0 ha
        go_wp2
        go_ret
        exact ⟨Zd H.out.symm,Uo _ _ _⟩
       ·have H:=good (by rw [e,show Ym s[k]=true by simp [Ym];omega,Fy hk0];simp)
        have e5:((k:Int)==0)=false:=by rw [beq_eq_false_iff_ne];omega
        clear e good bad a1 b1 b2 hk0 ha
        go_wp2
        go_roundw
        case rel=> exact ⟨k+1,rfl,by omega,H.out⟩
        case measure=> simp <;> omega
      ·have e4:decide ((s[k].toNat:Int)≤57)=false:=Fx (by omega)
       have H:=bad (by rw [e];simp [Vf,Ym];omega)
       clear e good bad a1 b1 b2 ha
       go_wp2
       go_ret
       exact ⟨Zd H.out.symm,Uo _ _ _⟩
     ·have e3:decide (48≤(s[k].toNat:Int))=false:=Fx (by omega)
      have H:=bad (by rw [e];simp [Vf,Ym];omega)
      clear e good bad a1 b1 ha
      go_wp2
      go_ret
      exact ⟨Zd H.out.symm,Uo _ _ _⟩
   ·have H:=bad (by rw [e];simp [Vf,Ym];omega)
    have hnx0:=fun ty=> run_next_any (P:=prog) w s k ty hlt
    obtain ⟨r1,_⟩:=decode_high s k hlt (by omega)
    have r2:=decode_le s k
    generalize (Utf8.decode s k).1=r at*
    generalize k+(Utf8.decode s k).2=p' at*
    have e1:decide (97≤(r:Int))=true:=Fy (by omega)
    have e2:decide ((r:Int)≤122)=false:=Fx (by omega)
    have e3:decide (48≤(r:Int))=true:=Fy (by omega)
    have e4:decide ((r:Int)≤57)=false:=Fx (by omega)
    clear e good bad ha
    go_wp2
    go_ret
    exact ⟨Zd H.out.symm,Uo _ _ _⟩
  ·have hks:k=s.size:=by omega
   have hnx:∀ty,(Instr.next (.pointer (some ⟨w.heap.size,0,none⟩)) true ty).run prog (w.iter s k)=_:=fun ty=> run_next_end w s k ty hlt
   have HX:=Fs (show Jc s=true by
    rw [Jc,←hks,HN.out,hks,Fy (show 1≤s.size by omega),Fy (show s.size≤12 by omega)];rfl)
   clear hks
   go_wp2
   go_ret
   exact ⟨Zd HX.out.symm,Uo _ _ _⟩
def Zf (s:ByteArray):Bool:=Jc s||(s.toList== [42]||(s.toList== [63]||(s.toList== [43]||Jf s.data.toList)))
theorem Ol (l:List UInt8) (h:Jf l=true):Ye (Yg l:Nat)=l∧Tt l=(Yg l:Int)∧Yg l≤1000000000000:=by
 have h':=h
 unfold Jf at h'
 simp only [Bool.and_eq_true,decide_eq_true_eq] at h'
 obtain ⟨a,b,c,_,e⟩:=h'
 have:=Li l c a b e
 rw [h] at this
 exact ⟨of_decide_eq_true this.symm,by rw [Tt,if_pos h],e⟩
theorem Ic (s:ByteArray) (w:World) (hs:s.size≤maxLen):
  Calls prog 64 #[.string s] w fun e w'=> e= .returned (.bool (Zf s))∧Below w.heap.size w w':=by
 cases h1:Jc s
 ·cases h2:(s.toList== [42])
  ·cases h3:(s.toList== [63])
   ·cases h4:(s.toList== [43])
    ·cases h5:Jf s.data.toList
     ·have H:=Fs (show Zf s=false by rw [Zf,h1,h2,h3,h4,h5];rfl)
      go_enter func64,ntmps64
      go_wp2_with fail
      refine (Jn s _ hs).mono ?_
      rintro e w' ⟨rfl,rfl⟩
      go_wp2_with fail
      refine (Rn s _ hs).mono ?_
      rintro e w2 ⟨rfl,hb⟩
      have HB:=Fs hb
      clear hb
      go_wp2
      go_ret
      exact ⟨Zd H.out.symm,HB.out⟩
     ·have H:=Fs (show Zf s=true by rw [Zf,h1,h2,h3,h4,h5];rfl)
      obtain ⟨f1,f2,f3⟩:=Ol _ h5
      have hq:=Ix _ s f1
      have hn: -9223372036854775808≤Tt s.data.toList∧Tt s.data.toList≤9223372036854775807:=by rw [f2];omega
      rw [←f2] at hq
      have HNN:=Fs hn
      clear f1 f2 f3 hn
      go_enter func64,ntmps64
      go_wp2_with fail
      refine (Jn s _ hs).mono ?_
      rintro e w' ⟨rfl,rfl⟩
      go_wp2_with fail
      refine (Rn s _ hs).mono ?_
      rintro e w2 ⟨rfl,hb⟩
      go_wp2_with fail
      refine (Qf _ _ HNN.out).mono ?_
      rintro e w3 ⟨rfl,hb3⟩
      have HB:=Fs (Zb hb3 hb)
      clear hb hb3
      go_wp2
      go_ret
      exact ⟨Zd H.out.symm,HB.out⟩
    ·have H:=Fs (show Zf s=true by rw [Zf,h1,h2,h3,h4];rfl)
     go_enter func64,ntmps64
     go_wp2_with (go_at_call 79;refine (Jn s _ hs).mono ?_;rintro e w' ⟨rfl,rfl⟩)
     go_ret
     exact ⟨Zd H.out.symm,Fv _ _⟩
   ·have H:=Fs (show Zf s=true by rw [Zf,h1,h2,h3];rfl)
    go_enter func64,ntmps64
    go_wp2_with (go_at_call 79;refine (Jn s _ hs).mono ?_;rintro e w' ⟨rfl,rfl⟩)
    go_ret
    exact ⟨Zd H.out.symm,Fv _ _⟩
  ·have H:=Fs (show Zf s=true by rw [Zf,h1,h2];rfl)
   go_enter func64,ntmps64
   go_wp2_with (go_at_call 79;refine (Jn s _ hs).mono ?_;rintro e w' ⟨rfl,rfl⟩)
   go_ret
   exact ⟨Zd H.out.symm,Fv _ _⟩
 ·have H:=Fs (show Zf s=true by rw [Zf,h1];rfl)
  go_enter func64,ntmps64
  go_wp2_with (go_at_call 79;refine (Jn s _ hs).mono ?_;rintro e w' ⟨rfl,rfl⟩)
  go_ret
  exact ⟨Zd H.out.symm,Fv _ _⟩
theorem Iv (s:ByteArray) (w:World) (hs:s.size≤maxLen):
  Calls prog 73 #[.string s] w fun e w'=> e= .returned (.bool (Zf s))∧Below w.heap.size w w':=by
 cases h1:Jc s
 ·cases h2:(s.toList== [42])
  ·cases h3:(s.toList== [63])
   ·cases h4:(s.toList== [43])
    ·have H:=Fs (show Zf s=Jf s.data.toList by rw [Zf,h1,h2,h3,h4];rfl)
     go_enter func73,ntmps73
     go_wp2_with fail
     refine (Yp s _ hs).mono ?_
     rintro e w2 ⟨rfl,hb⟩
     go_wp2_with fail
     refine (Um s _ hs).mono ?_
     rintro e w3 ⟨rfl,rfl⟩
     have HB:=Fs hb
     clear hb
     go_wp2
     go_ret
     exact ⟨Zd H.out.symm,HB.out⟩
    ·have H:=Fs (show Zf s=true by rw [Zf,h1,h2,h3,h4];rfl)
     go_enter func73,ntmps73
     go_wp2_with (go_at_call 84;refine (Yp s _ hs).mono ?_;rintro e w2 ⟨rfl,hb⟩)
     go_ret
     exact ⟨Zd H.out.symm,hb⟩
   ·have H:=Fs (show Zf s=true by rw [Zf,h1,h2,h3];rfl)
    go_enter func73,ntmps73
    go_wp2_with (go_at_call 84;refine (Yp s _ hs).mono ?_;rintro e w2 ⟨rfl,hb⟩)
    go_ret
    exact ⟨Zd H.out.symm,hb⟩
  ·have H:=Fs (show Zf s=true by rw [Zf,h1,h2];rfl)
   go_enter func73,ntmps73
   go_wp2_with (go_at_call 84;refine (Yp s _ hs).mono ?_;rintro e w2 ⟨rfl,hb⟩)
   go_ret
   exact ⟨Zd H.out.symm,hb⟩
 ·have H:=Fs (show Zf s=true by rw [Zf,h1];rfl)
  go_enter func73,ntmps73
  go_wp2_with (go_at_call 84;refine (Yp s _ hs).mono ?_;rintro e w2 ⟨rfl,hb⟩)
  go_ret
  exact ⟨Zd H.out.symm,hb⟩
end Go.Proofs.YteldgdelmaeokaaGreatDoor
namespace Go.Proofs.YteldgdelmaeokaaGreatDoor.FnExactIsStep
open Go.RowKit
end Go.Proofs.YteldgdelmaeokaaGreatDoor.FnExactIsStep
namespace Go.Proofs.YteldgdelmaeokaaGreatDoor
open Go.RowKit
def Jg (p:Nat→Bool):Nat→Bool
 |0=> true
 |n+1=> Jg p n && p n
theorem Yw (p:Nat→Bool) (n:Nat):Jg p n=true↔∀k,k < n→p k=true:=by
 induction n with
 |zero=> simp [Jg]
 |succ n ih=>
  simp only [Jg,Bool.and_eq_true,ih]
  constructor
  ·rintro ⟨h1,h2⟩ k hk
   by_cases h:k=n
   ·subst h;exact h2
   ·exact h1 k (by omega)
  ·intro h
   exact ⟨fun k hk=> h k (by omega),h n (by omega)⟩
theorem Vh (p:Nat→Bool) (k n:Nat) (h:k < n) (hp:p k=false):Jg p n=false:=by
 cases hb:Jg p n
 ·rfl
 ·have:=(Yw p n).1 hb k h
  rw [hp] at this;cases this
theorem Xf (p:Nat→Bool) (k:Nat) (h:Jg p k=true) (hp:p k=true):Jg p (k+1)=true:=by rw [Jg,h,hp];rfl
def Il (l:List ByteArray) (k:Nat):Bool:=match l[k]? with
 |some s=> Jc s && !Ry (l.take k) s
 |none=> true
theorem Ki (l:List ByteArray) (k:Nat) (h:k < l.length):Il l k=(Jc l[k] && !Ry (l.take k) l[k]):=by
 unfold Il;rw [List.getElem?_eq_getElem h]
def Jq (l:List ByteArray):Bool:=Jg (Il l) l.length && Xs l.length 1 8
def Rt (lim:Int) (l:List Int) (k:Nat):Bool:=match l[k]? with
 |some t=> Xs t 0 lim && (match k with|0=> true|j+1=> decide (l.getD j 0 < t))
 |none=> true
theorem Uj (lim:Int) (l:List Int) (h:0 < l.length):Rt lim l 0=Xs l[0] 0 lim:=by
 unfold Rt;rw [List.getElem?_eq_getElem h];simp
theorem Uk (lim:Int) (l:List Int) (k:Nat) (h:k+1 < l.length):Rt lim l (k+1)=(Xs l[k+1] 0 lim && decide (l[k] < l[k+1])):=by
 unfold Rt;rw [List.getElem?_eq_getElem h];simp [List.getD,List.getElem?_eq_getElem (show k < l.length by omega)]
def Xt (r:Zi) (j:Nat):Int:=r.kids.getD j 0
theorem Jb (r:Zi) (j:Nat) (h:j < r.kids.length):Xt r j=r.kids[j]:=by
 unfold Xt;simp [List.getD,List.getElem?_eq_getElem h]
def Yu (D:List Zi) (r:Zi):Bool:=
 ((r.kids.length:Int)==r.tags.length+1) && (Xs r.tags.length 1 8 && Jg (Rt (Zr D (Xt r 0)) r.tags) r.tags.length)
def Zp (D:List Zi) (r:Zi):Bool:=
 if r.kind=1 then Zg r true false false false 0 && (Xs r.size 1 4 && (!r.little||decide (1 < r.size)))
 else if r.kind=2 then Zg r false true false false 0 && Xs r.bytes.length 1 16
 else if r.kind=3 then Zg r true false false false 0 && Xs r.size 1 64
 else if r.kind=4 then Zg r false false false false 1 && decide (0 < Zr D (Xt r 0))
 else if r.kind=5 then Zg r false false false false 2 && decide (0 < Zr D (Xt r 0))
 else if r.kind=6 then Zg r false false true false r.names.length && Jq r.names
 else if r.kind=7 then Zg r false false false true (-1) && Yu D r
 else if r.kind=8∨r.kind=9 then Zg r false false false false 1
 else if r.kind=10 then Zg r false true false false 0 && (((r.bytes.length:Int)==1) && (r.bytes.head? !=some 92))
 else false
def Zx (r:Zi):Bool:= !r.little||r.kind==1
def Xh (D:List Zi) (s:ByteArray) (j:Nat):Bool:=match D[j]? with
 |some r=> !(r.name.toList==s.toList)
 |none=> true
theorem Oi (D:List Zi) (s:ByteArray) (j:Nat) (h:j < D.length):Xh D s j= !(D[j].name.toList==s.toList):=by
 unfold Xh;rw [List.getElem?_eq_getElem h]
def Re (l:List Int) (i:Int) (j:Nat):Bool:=match l[j]? with
 |some k=> Xs k 0 (i - 1)
 |none=> true
theorem Mi (l:List Int) (i:Int) (j:Nat) (h:j < l.length):Re l i j=Xs l[j] 0 (i - 1):=by
 unfold Re;rw [List.getElem?_eq_getElem h]
def Xi (D:List Zi) (i:Nat) (r:Zi):Bool:=
 Jg (Xh D r.name) i && (Jg (Re r.kids i) r.kids.length && (Jc r.name && (Zp D r && Zx r)))
def Yj (D:List Zi) (i:Int):Bool:=match Jo D i with
 |none=> false
 |some r=> Xi D i.toNat r
def Yf (D:List Zi):Bool:=Jg (fun k=> Yj D k) D.length && Xs D.length 1 24
theorem Pm (D:List Zi) (k:Nat) (h:k < D.length):Yj D k=Xi D k D[k]:=by
 unfold Yj Jo
 rw [if_pos (by omega)]
 simp [List.getElem?_eq_getElem h]
theorem Kt (D:List Zi) (i:Int) (h:i < 0∨(D.length:Int)≤i):Yj D i=false:=by
 unfold Yj;rw [Vr h]
def Qd (D:List Zi) (i:Int):Bool:=Xs i 0 ((D.length:Int) - 1) && Yf D
section
variable {P:Program} (w:World)
theorem app_nil (base:Nat) (t ty e:TypeId) (i:TypeInfo) (size:Nat) (ht:P.underlying t=some (.slice e)) (hi:P.info? e=some i)
  (v:Value) (n:Nat) (xs:List Value) (hown:w.ownsRow base e size v n xs) (c:Nat):(Builtin.append_ #[t,t] ty #[v, .slice none 0 c]).run P w= .ok v w:=by
 rcases hown.2 with ⟨rfl,rfl⟩|⟨g,cap,cur,rfl,_,_,hnc,_⟩
 ·simp [Builtin.append_,run_underlying ht,sizeOf,typeInfo,hi,Builtin.lenOf,Builtin.firstCells]
 ·simp [Builtin.append_,run_underlying ht,sizeOf,typeInfo,hi,Builtin.lenOf,Builtin.firstCells,hnc,storeCells]
theorem run_app (base:Nat) (t ty e:TypeId) (i:TypeInfo) (z:Value) (size bytes:Nat) (ht:P.underlying t=some (.slice e)) (hi:P.info? e=some i) (hz:i.zero=some z)
  (hsize:i.size=size) (hby:i.bytes=bytes) (hzs:z.cells.size=size) (hsz:0 < size)
  (v:Value) (n:Nat) (xs:List Value) (hown:w.ownsRow base e size v n xs)
  (B m:Nat) (src:Value) (news:List Value) (hs:Sl w B size src m news) (h1:∀u∈news,u.oneCell'=true)
  (hroom:(n+m)*bytes≤140737488355328) (h63:n+m≤maxLen) (hbase:base≤w.heap.size):
  ∃v' w',(Builtin.append_ #[t,t] ty #[v,src]).run P w= .ok v' w'∧w'.ownsRow base e size v' (n+m) (xs++news)∧w.grownBy w' v.ownBlock∧(v'.ownBlock=v.ownBlock∨v'.ownBlock=some w.heap.size):=by
 obtain ⟨hl,A,c,rfl,hc,hm,hr⟩:=hs
 rcases Nat.eq_zero_or_pos m with h0|h0
 ·subst h0
  have hn:news= []:=List.eq_nil_of_length_eq_zero (by simpa using hl)
  subst hn
  rcases A with _|ad
  ·exact ⟨v,w,app_nil w base t ty e i size ht hi v n xs hown c,by simpa using hown,World.grownBy.refl w _, .inl rfl⟩
  ·obtain ⟨v',w',hrun,h2,h3,_,h5⟩:=run_append_own_at (P:=P) w base t ty e i z size bytes ht hi hz hsize hby hzs hsz v n xs hown ad 0 c [] (by simp) (by simp) (by simp) h63 hroom hbase
   exact ⟨v',w',hrun,h2,h3,h5⟩
 ·obtain ⟨b,off,rfl,hb,hcell⟩:=hr h0
  have hadd:∀j,(⟨b,off,none⟩:Addr).add j=⟨b,off+j,none⟩:=by intro j;unfold Addr.add;split <;> simp_all
  obtain ⟨v',w',hrun,h2,h3,_,h5⟩:=run_append_own_at (P:=P) w base t ty e i z size bytes ht hi hz hsize hby hzs hsz v n xs hown ⟨b,off,none⟩ m c news hl (fun j u hu=> by rw [hadd];exact hcell j u hu) h1 h63 hroom hbase
  exact ⟨v',w',hrun,h2,h3,h5⟩
theorem Je {o:Oper} {a:Act} {K:Act→World→Prop} {Q:Exit→Act→World→Prop} (s x:Operand) (t:TypeId)
  (ho:o.op= .call { callee:= .builtin .append,args:= #[s,x],argTypes:= #[t,t] })
  (base:Nat) (e:TypeId) (i:TypeInfo) (z:Value) (size bytes:Nat) (ht:P.underlying t=some (.slice e)) (hi:P.info? e=some i) (hz:i.zero=some z)
  (hsize:i.size=size) (hby:i.bytes=bytes) (hzs:z.cells.size=size) (hsz:0 < size)
  (v:Value) (n:Nat) (xs:List Value) (hv:a.eval s=v) (hown:w.ownsRow base e size v n xs)
  (B m:Nat) (src:Value) (news:List Value) (hx:a.eval x=src) (hs:Sl w B size src m news) (h1:∀u∈news,u.oneCell'=true)
  (hroom:(n+m)*bytes≤140737488355328) (h63:n+m≤maxLen) (hbase:base≤w.heap.size)
  (h:∀v' w',w'.ownsRow base e size v' (n+m) (xs++news)→w.grownBy w' v.ownBlock→(v'.ownBlock=v.ownBlock∨v'.ownBlock=some w.heap.size)→K (a.put o.dst v') w'):o.wp P a w K Q:=by
 obtain ⟨v',w',hrun,h2,h3,h4⟩:=run_app (P:=P) w base t o.type e i z size bytes ht hi hz hsize hby hzs hsz v n xs hown B m src news hs h1 hroom h63 hbase
 unfold Oper.wp execOp
 simp only [ho,resolve,invoke,builtin,Sem.run_bind,Sem.run_pure,Result.andThen_ok,List.map_toArray,List.map_cons,List.map_nil,hv,hx,hrun]
 exact h v' w' h2 h3 h4
theorem Xv {ops:Array Oper} {rest:List Oper} {o:Oper} {a:Act} {Q:Exit→Act→World→Prop} (hgd:o.guard=none) (s x:Operand) (t:TypeId)
  (ho:o.op= .call { callee:= .builtin .append,args:= #[s,x],argTypes:= #[t,t] })
  (base:Nat) (e:TypeId) (i:TypeInfo) (z:Value) (size bytes:Nat) (ht:P.underlying t=some (.slice e)) (hi:P.info? e=some i) (hz:i.zero=some z)
  (hsize:i.size=size) (hby:i.bytes=bytes) (hzs:z.cells.size=size) (hsz:0 < size)
  (v:Value) (n:Nat) (xs:List Value) (hv:a.eval s=v) (hown:w.ownsRow base e size v n xs)
  (B m:Nat) (src:Value) (news:List Value) (hx:a.eval x=src) (hs:Sl w B size src m news) (h1:∀u∈news,u.oneCell'=true)
  (hroom:(n+m)*bytes≤140737488355328) (h63:n+m≤maxLen) (hbase:base≤w.heap.size)
  (h:∀v' w',w'.ownsRow base e size v' (n+m) (xs++news)→w.grownBy w' v.ownBlock→(v'.ownBlock=v.ownBlock∨v'.ownBlock=some w.heap.size)→wpList P ops Q rest (a.put o.dst v') w'):wpList P ops Q (o::rest) a w:=
 wpList_plain hgd fun _ hK=> Je w s x t ho base e i z size bytes ht hi hz hsize hby hzs hsz v n xs hv hown B m src news hx hs h1 hroom h63 hbase fun v' w' h2 h3 h4=> hK _ _ (h v' w' h2 h3 h4)
end
theorem Ps (w:World) (e:TypeId) (size:Nat):(w.alloc (.cells #[] e)).ownsRow w.heap.size e size (.slice (some ⟨w.heap.size,0,none⟩) 0 0) 0 []:=
 World.ownsRow_made w #[] 0 (Fu _) (Eb _) (by simp)
theorem Sl.cut {w:World} {B size n c lo hi:Nat} {A:Option Addr} {xs:List Value} (h:Sl w B size (.slice A n c) n xs) (h1:lo≤hi) (h2:hi≤n) (h3:0 < size):
  ∀A' c',hi - lo≤c'→c'≤maxLen→(lo < hi→A'=A.map fun ad=> ad.add (lo*size))→Sl w B size (.slice A' (hi - lo) c') (hi - lo) ((xs.drop (lo*size)).take ((hi - lo)*size)):=by
 intro A' c' hc' hm' hA
 obtain ⟨hl,A0,c0,e,hc,hm,hr⟩:=h
 simp only [Value.slice.injEq] at e
 obtain ⟨rfl,_,rfl⟩:=e
 have hmul:hi*size≤n*size:=Nat.mul_le_mul_right _ h2
 have hsub:(hi - lo)*size=hi*size - lo*size:=Nat.sub_mul _ _ _
 refine ⟨?_,A',c',rfl,hc',hm',fun hpos=> ?_⟩
 ·rw [List.length_take,List.length_drop,hl,Nat.min_eq_left]
  omega
 ·have hlh:lo < hi:=Nat.lt_of_sub_pos hpos
  obtain ⟨b,off,rfl,hb,hcell⟩:=hr (Ea (Nat.lt_of_le_of_lt (Eb _) hlh) h2)
  have hadd:(⟨b,off,none⟩:Addr).add (lo*size)=⟨b,off+lo*size,none⟩:=by unfold Addr.add;split <;> simp_all
  refine ⟨b,off+lo*size,by rw [hA hlh];simp [hadd],hb,fun j u hu=> ?_⟩
  rw [List.getElem?_take] at hu
  split at hu
  ·rw [List.getElem?_drop] at hu
   have:=hcell _ u hu
   rwa [←Nat.add_assoc] at this
  ·cases hu
theorem Px {a w w1:World} {B base size n:Nat} {e:TypeId} {v:Value} {xs:List Value} (hg:w.grownBy w1 v.ownBlock) (hown:w.ownsRow base e size v n xs) (hbase:B≤base) (hB:B≤w.heap.size) (hb:Below B a w):Below B a w1:=
 hb.grown hg hB fun k hk=> Nat.le_trans hbase (hown.lt k hk).1
def cutA (A:Option Addr) (m l size:Nat):Option Addr:=if m=l then A else A.map fun ad=> ad.add (l*size)
theorem Gb {P:Program} (i:Int) (y:Nat) (code:BoundsCode) (n:Nat) (h:i=n) (hn:n≤y) (w:World):(Instr.sliceBound (.int .i64 i) y code).run P w= .ok n w:=by
 subst h
 have:(0:Int)≤n∧(n:Int)≤y:=by omega
 simp [Instr.sliceBound,asIntOf,this,go_sem]
theorem Ig {P:Program} {t e:TypeId} {size:Nat} (ht:P.underlying t=some (.slice e)) (hs:∀w,(sizeOf e).run P w= .ok size w) (A:Option Addr) (len cap:Nat) (hi:Int) (h:Nat) (e2:hi=h) (h2:h≤cap) (w:World):
  (Instr.slice t (.slice A len cap) none (some (.int .i64 hi)) none).run P w= .ok (.slice (cutA A cap 0 size) (h - 0) (cap - 0)) w:=by
 have b2:∀code,(Instr.sliceBound (.int .i64 hi) cap code).run P w= .ok h w:=fun code=> Gb _ _ code _ e2 h2 w
 simp only [Instr.slice,Sem.run_bind,run_underlying ht,Result.andThen_ok,Instr.sliceBounds,b2,Sem.run_pure,hs,cutA]
theorem Ma {P:Program} {t e:TypeId} {size:Nat} (ht:P.underlying t=some (.slice e)) (hs:∀w,(sizeOf e).run P w= .ok size w) (A:Option Addr) (len cap:Nat) (lo:Int) (l:Nat) (e1:lo=l) (h1:l≤len) (w:World):
  (Instr.slice t (.slice A len cap) (some (.int .i64 lo)) none none).run P w= .ok (.slice (cutA A cap l size) (len - l) (cap - l)) w:=by
 have b3:∀code,(Instr.sliceBound (.int .i64 lo) len code).run P w= .ok l w:=fun code=> Gb _ _ code _ e1 h1 w
 simp only [Instr.slice,Sem.run_bind,run_underlying ht,Result.andThen_ok,Instr.sliceBounds,b3,Sem.run_pure,hs,cutA]
theorem Sl.cutA {w:World} {B size n c:Nat} {A:Option Addr} {xs:List Value} (h:Sl w B size (.slice A n c) n xs) (l hi m:Nat) (h1:l≤hi) (h2:hi≤n) (h4:hi≤m) (h5:m≤maxLen) (h3:0 < size):
  Sl w B size (.slice (cutA A m l size) (hi - l) (m - l)) (hi - l) ((xs.drop (l*size)).take ((hi - l)*size)):=
 h.cut h1 h2 h3 _ _ (by omega) (by omega) fun hlt=> by unfold Proofs.YteldgdelmaeokaaGreatDoor.cutA;rw [if_neg (by omega)]
theorem Xu.cut {w:World} {B c:Nat} {A:Option Addr} {xs:List UInt8} (h:Xu w B (.slice A xs.length c) xs) (l hi m:Nat) (h1:l≤hi) (h2:hi≤xs.length) (h4:hi≤m) (h5:m≤maxLen):
  Sl w B 1 (.slice (cutA A m l 1) (hi - l) (m - l)) (hi - l) (Uy ((xs.drop l).take (hi - l))):=by
 have:=Sl.cutA h l hi m h1 h2 h4 h5 (by decide)
 simpa [Uy,List.map_take,List.map_drop] using this
theorem Ji {w:World} {e:TypeId} {size g base:Nat} (hg:g=w.heap.size) (hb:base≤g):(w.alloc (.cells #[] e)).ownsRow base e size (.slice (some ⟨g,0,none⟩) 0 0) 0 []:=by
 subst hg;exact Ve (Ps w e size) hb
def Uu:List Oper→Nat→Option Oper
 | [],_=> none
 |o::_,0=> some o
 | _::l,n+1=> Uu l n
theorem nthOp_eq:∀(l:List Oper) (i:Nat),Uu l i=l[i]?
 | [],_=> by simp [Uu]
 |o::l,0=> by simp [Uu]
 |o::l,n+1=> by rw [Uu,nthOp_eq l n];simp
theorem Vi {ops:Array Oper} {i:Nat} {oi:Oper} (h:Uu ops.toList i=some oi):ops[i]?=some oi:=by rw [nthOp_eq] at h;simpa using h
section
variable {P:Program} {ops:Array Oper} {Q:Exit→Act→World→Prop} {md:Region.Mode} {S:World→Prop} {oi:Oper} {d:Option Tmp} {fuel:Nat} {listed:Array Bool} {a:Act} {w:World}
theorem Za (i:Nat) (d:Option Tmp) (hS:S w) (v:Value)
  (h:wpAnyH P md ops Q S fuel (listed.setIfInBounds i true) (a.put d v) w)
  (hi:Uu ops.toList i=some oi:=by rfl) (hd:oi.dst=d:=by rfl) (hs:Region.noSelect ops=true:=by kernel_rfl) (hf:Region.free md ops listed i=true:=by kernel_rfl) (hr:(Region.ready md ops listed).contains i=true:=by kernel_rfl)
  (hQ:∀c v a w,Q (.panic c) (a.put d v) w→Q (.panic c) a w:=by exact fun _ _ _ _ h=> h) (hw:Region.wanted oi (yielded ops a.tmps)=true:=by rfl)
  (hy:∀w,S w→(execOp a.eval oi).run P w= .ok (.value v) w:=by intro w9 hSw;(try dsimp only at hSw);go_simp;try with_reducible rfl):wpAnyH P md ops Q S (fuel+1) listed a w:=by
 subst hd
 exact wpAnyH_take (Vi hi) hs hf hr (fun c a w=> hQ c v a w) (.inl ⟨hw,hy⟩) hS h
theorem Zl (i:Nat) (d:Option Tmp) (hS:S w)
  (h:wpAnyH P md ops Q S fuel (listed.setIfInBounds i true) (a.put d undef) w)
  (hi:Uu ops.toList i=some oi:=by rfl) (hd:oi.dst=d:=by rfl) (hs:Region.noSelect ops=true:=by kernel_rfl) (hf:Region.free md ops listed i=true:=by kernel_rfl) (hr:(Region.ready md ops listed).contains i=true:=by kernel_rfl)
  (hQ:∀c v a w,Q (.panic c) (a.put d v) w→Q (.panic c) a w:=by exact fun _ _ _ _ h=> h) (hw:Region.wanted oi (yielded ops a.tmps)=false:=by rfl):wpAnyH P md ops Q S (fuel+1) listed a w:=by
 subst hd
 exact wpAnyH_take (Vi hi) hs hf hr (fun c a w=> hQ c undef a w) (.inr ⟨hw,rfl⟩) hS h
theorem Zh (i:Nat)
  (h:∀K':Act→World→Prop,Shut (∀a w,S w→(S w→wpAnyH P md ops Q S fuel (listed.setIfInBounds i true) a w)→K' a w)→Oper.wp P oi a w K' Q)
  (hr:Region.ready md ops listed= [i]:=by kernel_rfl) (hi:Uu ops.toList i=some oi:=by rfl) (hw:Region.wanted oi (yielded ops a.tmps)=true:=by rfl):wpAnyH P md ops Q S (fuel+1) listed a w:=
 wpAnyH_ready hr (by simp) (AllReadyH.cons (Vi hi) (fun K' hK=> by rw [if_pos hw];exact h K' hK) AllReadyH.nil)
end
end Go.Proofs.YteldgdelmaeokaaGreatDoor
