/- Out of DescV, DescW, IsStep, DescP, App, Rg: the walks and plain laws that the claim needs. No condition but those that each theorem names. -/
import Derived.Test.YteldgdelmaeokaaDoorGa
import Derived.WalkSpells
import Derived.WalkLawsBesides
import Derived.Laws.RangeString
import Derived.Laws.RangeAny
import Derived.OwnWalk
import Derived.Deep.RegionHeld3
import Derived.Deep.RegionLaw
import Derived.Maps.RangeWalk
set_option linter.unusedSimpArgs false
set_option linter.unusedVariables false
namespace Go.Proofs.YteldgdelmaeokaaDoor
open Go.RowKit
def ruleAt (D:List RuleD) (i:Int):Option RuleD:=if 0≤i then D[i.toNat]? else none
def pow8 (n:Int):Int:=if n=1 then 256 else if n=2 then 65536 else if n=3 then 16777216 else 4294967296
def limitR (r:RuleD):Int:=if r.kind=1∧1≤r.size∧r.size≤4 then pow8 r.size - 1 else -1
def limitOf (D:List RuleD) (i:Int):Int:=match ruleAt D i with|none=> -1|some r=> limitR r
theorem limitOf_bd (D:List RuleD) (i:Int): -1≤limitOf D i∧limitOf D i≤4294967295:=by
 unfold limitOf
 split
 ·omega
 ·unfold limitR pow8
  split
  ·split <;> (try split) <;> (try split) <;> omega
  ·omega
theorem ruleAt_some {D:List RuleD} {i:Int} (h0:0≤i) (h1:i < D.length):∃k:Nat,∃hk:k < D.length,i=k∧ruleAt D i=some D[k]:=by
 obtain ⟨k,rfl⟩:=Int.eq_ofNat_of_zero_le h0
 refine ⟨k,by omega,rfl,?_⟩
 unfold ruleAt
 rw [if_pos h0]
 simp [List.getElem?_eq_getElem (show k < D.length by omega)]
theorem ruleAt_none {D:List RuleD} {i:Int} (h:i < 0∨(D.length:Int)≤i):ruleAt D i=none:=by
 unfold ruleAt
 split
 ·rw [List.getElem?_eq_none];omega
 ·rfl
theorem Below.allocW {B:Nat} (w:World) (o:Obj) (h:B≤w.heap.size):Below B w (w.alloc o):=(Below.refl B w).alloc h o
set_option maxHeartbeats 400000 in
theorem l2Power_any (n:Int) (w:World) (h1:1≤n) (h2:n≤4):
  Calls Tryd.prog 70 #[.int .i64 n] w fun e w'=> e= .returned (.int .i64 (pow8 n))∧w=w':=by
 have h:n=1∨n=2∨n=3∨n=4:=by omega
 rcases h with rfl|rfl|rfl|rfl <;>
 ·go_enter Tryd.func70,Tryd.ntmps70
  go_wp2
  go_ret
  exact ⟨rfl,rfl⟩
set_option maxHeartbeats 1000000 in
theorem specLimit_any (v:Value) (l:List RM) (i:Int) (B:Nat) (w:World) (h:SlD w B v l) (hB:B≤w.heap.size) (hi:InI64 i) (ok:∀r∈l,r.d.ok):
  Calls Tryd.prog 94 #[.agg #[v], .int .i64 i] w fun e w'=> e= .returned (.int .i64 (limitOf (l.map RM.d) i))∧Below w.heap.size w w':=by
 obtain ⟨A,c,rfl,hc,hm,hcell⟩:=h.open_
 unfold maxLen at hm
 have hb:=Below.allocW w (.cells #[.slice A l.length c] 26) (Nat.le_refl _)
 by_cases hr:0≤i∧i < l.length
 ·obtain ⟨k,hk,rfl,hat⟩:=ruleAt_some (D:=l.map RM.d) hr.1 (by simpa using hr.2)
  have hkl:k < l.length:=by simpa using hk
  obtain ⟨b,off,rfl,hbB,c0,c1,c2,crest⟩:=hcell k hkl
  have hok:=ok l[k] (List.getElem_mem hkl)
  have hz:=hok.size
  rw [List.getElem_map] at hat
  have hlim:limitOf (l.map RM.d) (k:Int)=limitR l[k].d:=by rw [limitOf,hat]
  have d1:=cell_later hb c1
  have d2:=cell_later hb c2
  clear hcell c0 c1 c2 h ok hat crest
  generalize l[k].d=r at*
  have hin:inB (k:Int) 0 ((l.length:Int) - 1)=true:=inB_true (by omega) (by omega)
  have HI:=Lib.hid hin
  by_cases hk1:r.kind=1
  ·have e1:(r.kind !=1)=false:=by rw [hk1];rfl
   by_cases hs:1≤r.size∧r.size≤4
   ·have hs4:inB r.size 1 4=true:=inB_true hs.1 hs.2
    have HS:=Lib.hid hs4
    have H:=Lib.hid (hlim.trans (show limitR r=pow8 r.size - 1 by rw [limitR,if_pos ⟨hk1,hs⟩]))
    have hp:256≤pow8 r.size∧pow8 r.size≤4294967296:=by
     unfold pow8
     split
     ·omega
     ·split
      ·omega
      ·split <;> omega
    clear hlim hin hs4 hk1
    go_enter Tryd.func94,Tryd.ntmps94
    go_wp2_with fail
    refine (l1In_any _ _ _ _).mono ?_
    rintro e w1 ⟨rfl,rfl⟩
    rw [HI.out]
    go_wp2_with fail
    refine (l1In_any _ _ _ _).mono ?_
    rintro e w1 ⟨rfl,rfl⟩
    rw [HS.out]
    go_wp2_with fail
    refine (l2Power_any _ _ hs.1 hs.2).mono ?_
    rintro e w1 ⟨rfl,rfl⟩
    go_wp2
    go_ret
    exact ⟨ret_int H.out.symm,hb⟩
   ·have hs4:inB r.size 1 4=false:=inB_false (by omega)
    have HS:=Lib.hid hs4
    have H:=Lib.hid (hlim.trans (show limitR r= -1 by rw [limitR,if_neg (by omega)]))
    clear hlim hin hs4 hk1
    go_enter Tryd.func94,Tryd.ntmps94
    go_wp2_with fail
    refine (l1In_any _ _ _ _).mono ?_
    rintro e w1 ⟨rfl,rfl⟩
    rw [HI.out]
    go_wp2_with fail
    refine (l1In_any _ _ _ _).mono ?_
    rintro e w1 ⟨rfl,rfl⟩
    rw [HS.out]
    go_wp2
    go_ret
    exact ⟨ret_int H.out.symm,hb⟩
  ·have e1:(r.kind !=1)=true:=by rw [bne_iff_ne];exact hk1
   have H:=Lib.hid (hlim.trans (show limitR r= -1 by rw [limitR,if_neg (by omega)]))
   clear hlim hin hk1
   go_enter Tryd.func94,Tryd.ntmps94
   go_wp2_with fail
   refine (l1In_any _ _ _ _).mono ?_
   rintro e w1 ⟨rfl,rfl⟩
   rw [HI.out]
   go_wp2
   go_ret
   exact ⟨ret_int H.out.symm,hb⟩
 ·have hl:limitOf (l.map RM.d) i= -1:=by rw [limitOf,ruleAt_none (by simp;omega)]
  have H:=Lib.hid hl
  clear hcell hl
  go_enter Tryd.func94,Tryd.ntmps94
  go_wp2_with fail
  refine (l1In_any _ _ _ _).mono ?_
  rintro e w1 ⟨rfl,rfl⟩
  rw [inB_false (by omega)]
  go_wp2
  go_ret
  exact ⟨ret_int H.out.symm,hb⟩
theorem hasRule_any (v:Value) (l:List RM) (i:Int) (B:Nat) (w:World) (h:SlD w B v l):
  Calls Tryd.prog 61 #[.agg #[v], .int .i64 i] w fun e w'=> e= .returned (.bool (inB i 0 ((l.length:Int) - 1)))∧Below w.heap.size w w':=by
 obtain ⟨A,c,rfl,hc,hm,hcell⟩:=h.open_
 unfold maxLen at hm
 have hb:=Below.allocW w (.cells #[.slice A l.length c] 26) (Nat.le_refl _)
 clear hcell h
 by_cases h0:0≤i
 ·by_cases h1:i < l.length
  ·have H:=Lib.hid (inB_true (a:=0) (b:=(l.length:Int) - 1) h0 (by omega))
   go_enter Tryd.func61,Tryd.ntmps61
   go_wp2
   go_ret
   exact ⟨ret_bool H.out.symm,hb⟩
  ·have H:=Lib.hid (inB_false (x:=i) (a:=0) (b:=(l.length:Int) - 1) (by omega))
   go_enter Tryd.func61,Tryd.ntmps61
   go_wp2
   go_ret
   exact ⟨ret_bool H.out.symm,hb⟩
 ·have H:=Lib.hid (inB_false (x:=i) (a:=0) (b:=(l.length:Int) - 1) (by omega))
  go_enter Tryd.func61,Tryd.ntmps61
  go_wp2
  go_ret
  exact ⟨ret_bool H.out.symm,hb⟩
def hasT (l:List ByteArray) (s:ByteArray):Bool:=l.any fun x=> x.toList==s.toList
theorem hasT_take (l:List ByteArray) (s:ByteArray) (k:Nat) (h:k < l.length):hasT (l.take (k+1)) s=(hasT (l.take k) s||l[k].toList==s.toList):=by
 unfold hasT
 rw [List.take_succ_eq_append_getElem h,List.any_append]
 simp
theorem hasT_in (l:List ByteArray) (s:ByteArray) (k:Nat) (h:k < l.length) (he:(l[k].toList==s.toList)=true):hasT l s=true:=by
 unfold hasT
 rw [List.any_eq_true]
 exact ⟨l[k],List.getElem_mem h,he⟩
set_option maxHeartbeats 400000 in
theorem specContains_any (v:Value) (l:List ByteArray) (s:ByteArray) (B:Nat) (w:World) (h:SlS w B v l):
  Calls Tryd.prog 134 #[v, .string s] w fun e w'=> e= .returned (.bool (hasT l s))∧w=w':=by
 obtain ⟨A,c,rfl,hc,hm,hcell⟩:=h.one
 unfold maxLen at hm
 clear h
 go_enter Tryd.func134,Tryd.ntmps134
 go_wp2
 go_loop [5] (fun i=> ∃k:Nat,k≤l.length∧i= .int .i64 k∧hasT (l.take k) s=false) (fun i=> l.length - (intOf i).toNat)
 case atStart=> exact ⟨0,Nat.zero_le _,rfl,rfl⟩
 case round=>
  obtain ⟨k,hk,rfl,hno⟩:=hrel
  have HN:=Lib.hid hno
  clear hno
  by_cases hlt:k < l.length
  ·obtain ⟨b,off,rfl,hbB,hc0⟩:=hcell k hlt
   have hT:=Lib.hid (hasT_take l s k hlt)
   have hI:=Lib.hid (hasT_in l s k hlt)
   clear hcell
   generalize l[k]=y at*
   cases he:(y.toList==s.toList)
   ·have H:=Lib.hid he
    go_wp2
    go_round
    case rel=> exact ⟨k+1,by omega,by go_num,by rw [hT.out,HN.out,H.out];rfl⟩
    case measure=> simp [intOf];omega
   ·have H:=Lib.hid (hI.out he)
    go_wp2
    go_ret
    exact ⟨ret_bool H.out.symm,rfl⟩
  ·have HK:=Lib.hid (show hasT l s=false by
    have:=HN.out
    rwa [show k=l.length by omega,List.take_length] at this)
   clear hcell HN
   go_wp2
   go_ret
   exact ⟨ret_bool HK.out.symm,rfl⟩
end Go.Proofs.YteldgdelmaeokaaDoor
namespace Go.Proofs.YteldgdelmaeokaaDoor
open Go.RowKit
def plainR (r:RuleD) (sz bt nm tg:Bool) (K:Int):Bool:=
 (sz||r.size==0) && ((bt||(r.bytes.length:Int)==0) && ((nm||(r.names.length:Int)==0) && ((tg||(r.tags.length:Int)==0) && (decide (K < 0)||(r.kids.length:Int)==K))))
def shapeR (r:RuleD) (sz bt nm tg:Bool) (K:Int):Bool:=plainR r sz bt nm tg K && (!r.little||r.kind==1)
set_option maxHeartbeats 2000000 in
theorem specShape_i (r:RM) (B:Nat) (K:Int) (w:World) (h:r.rd w B):
  Calls Tryd.prog 124 #[rmV r, .bool true, .bool false, .bool false, .bool false, .int .i64 K] w fun e w'=> e= .returned (.bool (shapeR r.d true false false false K))∧Below w.heap.size w w':=by
 obtain ⟨⟨name,kind,size,little,bytes,names,tags,kids⟩,vb,vn,vt,vk⟩:=r
 have h1:SlB w B vb bytes:=h.b
 have h2:SlS w B vn names:=h.n
 have h3:SlI w B vt tags:=h.t
 have h4:SlI w B vk kids:=h.k
 clear h
 obtain ⟨Ab,cb,rfl,hb1,hb2,x1⟩:=h1.open_
 obtain ⟨An,cn,rfl,hn1,hn2,x2⟩:=h2.one
 obtain ⟨At,ct,rfl,ht1,ht2,x3⟩:=h3.one
 obtain ⟨Ak,ck,rfl,hk1,hk2,x4⟩:=h4.one
 clear h1 h2 h3 h4 x1 x2 x3 x4
 unfold rmV
 simp only
 unfold maxLen at hb2 hn2 ht2 hk2
 have hb:=Below.allocW w (.cells #[.string name, .int .i64 kind, .int .i64 size, .bool little, .slice Ab bytes.length cb, .slice An names.length cn, .slice At tags.length ct, .slice Ak kids.length ck] 73) (Nat.le_refl _)
 cases h1:(((bytes.length:Nat):Int)==0)
 ·skip
  have H:=Lib.hid (show shapeR ⟨name,kind,size,little,bytes,names,tags,kids⟩ true false false false K=false by simp only [shapeR,plainR];rw [h1];rfl)
  go_enter Tryd.func124,Tryd.ntmps124
  go_wp2
  go_ret
  exact ⟨ret_bool H.out.symm,hb⟩
 ·skip
  cases h2:(((names.length:Nat):Int)==0)
  ·skip
   have H:=Lib.hid (show shapeR ⟨name,kind,size,little,bytes,names,tags,kids⟩ true false false false K=false by simp only [shapeR,plainR];rw [h1,h2];rfl)
   go_enter Tryd.func124,Tryd.ntmps124
   go_wp2
   go_ret
   exact ⟨ret_bool H.out.symm,hb⟩
  ·skip
   cases h3:(((tags.length:Nat):Int)==0)
   ·skip
    have H:=Lib.hid (show shapeR ⟨name,kind,size,little,bytes,names,tags,kids⟩ true false false false K=false by simp only [shapeR,plainR];rw [h1,h2,h3];rfl)
    go_enter Tryd.func124,Tryd.ntmps124
    go_wp2
    go_ret
    exact ⟨ret_bool H.out.symm,hb⟩
   ·skip
    cases hK:decide (K < 0)
    ·cases hk:((kids.length:Int)==K)
     ·skip
      have H:=Lib.hid (show shapeR ⟨name,kind,size,little,bytes,names,tags,kids⟩ true false false false K=false by simp only [shapeR,plainR];rw [h1,h2,h3,hK,hk];rfl)
      go_enter Tryd.func124,Tryd.ntmps124
      go_wp2
      go_ret
      exact ⟨ret_bool H.out.symm,hb⟩
     ·skip
      cases little
      ·skip
       have H:=Lib.hid (show shapeR ⟨name,kind,size,false,bytes,names,tags,kids⟩ true false false false K=true by simp only [shapeR,plainR];rw [h1,h2,h3,hK,hk];rfl)
       go_enter Tryd.func124,Tryd.ntmps124
       go_wp2
       go_ret
       exact ⟨ret_bool H.out.symm,hb⟩
      ·cases hq:(kind==1)
       ·skip
        have H:=Lib.hid (show shapeR ⟨name,kind,size,true,bytes,names,tags,kids⟩ true false false false K=false by simp only [shapeR,plainR];rw [h1,h2,h3,hK,hk,hq];rfl)
        go_enter Tryd.func124,Tryd.ntmps124
        go_wp2
        go_ret
        exact ⟨ret_bool H.out.symm,hb⟩
       ·skip
        have H:=Lib.hid (show shapeR ⟨name,kind,size,true,bytes,names,tags,kids⟩ true false false false K=true by simp only [shapeR,plainR];rw [h1,h2,h3,hK,hk,hq];rfl)
        go_enter Tryd.func124,Tryd.ntmps124
        go_wp2
        go_ret
        exact ⟨ret_bool H.out.symm,hb⟩
    ·skip
     cases little
     ·skip
      have H:=Lib.hid (show shapeR ⟨name,kind,size,false,bytes,names,tags,kids⟩ true false false false K=true by simp only [shapeR,plainR];rw [h1,h2,h3,hK];rfl)
      go_enter Tryd.func124,Tryd.ntmps124
      go_wp2
      go_ret
      exact ⟨ret_bool H.out.symm,hb⟩
     ·cases hq:(kind==1)
      ·skip
       have H:=Lib.hid (show shapeR ⟨name,kind,size,true,bytes,names,tags,kids⟩ true false false false K=false by simp only [shapeR,plainR];rw [h1,h2,h3,hK,hq];rfl)
       go_enter Tryd.func124,Tryd.ntmps124
       go_wp2
       go_ret
       exact ⟨ret_bool H.out.symm,hb⟩
      ·skip
       have H:=Lib.hid (show shapeR ⟨name,kind,size,true,bytes,names,tags,kids⟩ true false false false K=true by simp only [shapeR,plainR];rw [h1,h2,h3,hK,hq];rfl)
       go_enter Tryd.func124,Tryd.ntmps124
       go_wp2
       go_ret
       exact ⟨ret_bool H.out.symm,hb⟩
set_option maxHeartbeats 2000000 in
theorem specShape_b (r:RM) (B:Nat) (K:Int) (w:World) (h:r.rd w B):
  Calls Tryd.prog 124 #[rmV r, .bool false, .bool true, .bool false, .bool false, .int .i64 K] w fun e w'=> e= .returned (.bool (shapeR r.d false true false false K))∧Below w.heap.size w w':=by
 obtain ⟨⟨name,kind,size,little,bytes,names,tags,kids⟩,vb,vn,vt,vk⟩:=r
 have h1:SlB w B vb bytes:=h.b
 have h2:SlS w B vn names:=h.n
 have h3:SlI w B vt tags:=h.t
 have h4:SlI w B vk kids:=h.k
 clear h
 obtain ⟨Ab,cb,rfl,hb1,hb2,x1⟩:=h1.open_
 obtain ⟨An,cn,rfl,hn1,hn2,x2⟩:=h2.one
 obtain ⟨At,ct,rfl,ht1,ht2,x3⟩:=h3.one
 obtain ⟨Ak,ck,rfl,hk1,hk2,x4⟩:=h4.one
 clear h1 h2 h3 h4 x1 x2 x3 x4
 unfold rmV
 simp only
 unfold maxLen at hb2 hn2 ht2 hk2
 have hb:=Below.allocW w (.cells #[.string name, .int .i64 kind, .int .i64 size, .bool little, .slice Ab bytes.length cb, .slice An names.length cn, .slice At tags.length ct, .slice Ak kids.length ck] 73) (Nat.le_refl _)
 cases h0:(size==0)
 ·skip
  have H:=Lib.hid (show shapeR ⟨name,kind,size,little,bytes,names,tags,kids⟩ false true false false K=false by simp only [shapeR,plainR];rw [h0];rfl)
  go_enter Tryd.func124,Tryd.ntmps124
  go_wp2
  go_ret
  exact ⟨ret_bool H.out.symm,hb⟩
 ·skip
  cases h2:(((names.length:Nat):Int)==0)
  ·skip
   have H:=Lib.hid (show shapeR ⟨name,kind,size,little,bytes,names,tags,kids⟩ false true false false K=false by simp only [shapeR,plainR];rw [h0,h2];rfl)
   go_enter Tryd.func124,Tryd.ntmps124
   go_wp2
   go_ret
   exact ⟨ret_bool H.out.symm,hb⟩
  ·skip
   cases h3:(((tags.length:Nat):Int)==0)
   ·skip
    have H:=Lib.hid (show shapeR ⟨name,kind,size,little,bytes,names,tags,kids⟩ false true false false K=false by simp only [shapeR,plainR];rw [h0,h2,h3];rfl)
    go_enter Tryd.func124,Tryd.ntmps124
    go_wp2
    go_ret
    exact ⟨ret_bool H.out.symm,hb⟩
   ·skip
    cases hK:decide (K < 0)
    ·cases hk:((kids.length:Int)==K)
     ·skip
      have H:=Lib.hid (show shapeR ⟨name,kind,size,little,bytes,names,tags,kids⟩ false true false false K=false by simp only [shapeR,plainR];rw [h0,h2,h3,hK,hk];rfl)
      go_enter Tryd.func124,Tryd.ntmps124
      go_wp2
      go_ret
      exact ⟨ret_bool H.out.symm,hb⟩
     ·skip
      cases little
      ·skip
       have H:=Lib.hid (show shapeR ⟨name,kind,size,false,bytes,names,tags,kids⟩ false true false false K=true by simp only [shapeR,plainR];rw [h0,h2,h3,hK,hk];rfl)
       go_enter Tryd.func124,Tryd.ntmps124
       go_wp2
       go_ret
       exact ⟨ret_bool H.out.symm,hb⟩
      ·cases hq:(kind==1)
       ·skip
        have H:=Lib.hid (show shapeR ⟨name,kind,size,true,bytes,names,tags,kids⟩ false true false false K=false by simp only [shapeR,plainR];rw [h0,h2,h3,hK,hk,hq];rfl)
        go_enter Tryd.func124,Tryd.ntmps124
        go_wp2
        go_ret
        exact ⟨ret_bool H.out.symm,hb⟩
       ·skip
        have H:=Lib.hid (show shapeR ⟨name,kind,size,true,bytes,names,tags,kids⟩ false true false false K=true by simp only [shapeR,plainR];rw [h0,h2,h3,hK,hk,hq];rfl)
        go_enter Tryd.func124,Tryd.ntmps124
        go_wp2
        go_ret
        exact ⟨ret_bool H.out.symm,hb⟩
    ·skip
     cases little
     ·skip
      have H:=Lib.hid (show shapeR ⟨name,kind,size,false,bytes,names,tags,kids⟩ false true false false K=true by simp only [shapeR,plainR];rw [h0,h2,h3,hK];rfl)
      go_enter Tryd.func124,Tryd.ntmps124
      go_wp2
      go_ret
      exact ⟨ret_bool H.out.symm,hb⟩
     ·cases hq:(kind==1)
      ·skip
       have H:=Lib.hid (show shapeR ⟨name,kind,size,true,bytes,names,tags,kids⟩ false true false false K=false by simp only [shapeR,plainR];rw [h0,h2,h3,hK,hq];rfl)
       go_enter Tryd.func124,Tryd.ntmps124
       go_wp2
       go_ret
       exact ⟨ret_bool H.out.symm,hb⟩
      ·skip
       have H:=Lib.hid (show shapeR ⟨name,kind,size,true,bytes,names,tags,kids⟩ false true false false K=true by simp only [shapeR,plainR];rw [h0,h2,h3,hK,hq];rfl)
       go_enter Tryd.func124,Tryd.ntmps124
       go_wp2
       go_ret
       exact ⟨ret_bool H.out.symm,hb⟩
set_option maxHeartbeats 2000000 in
theorem specShape_n (r:RM) (B:Nat) (K:Int) (w:World) (h:r.rd w B):
  Calls Tryd.prog 124 #[rmV r, .bool false, .bool false, .bool true, .bool false, .int .i64 K] w fun e w'=> e= .returned (.bool (shapeR r.d false false true false K))∧Below w.heap.size w w':=by
 obtain ⟨⟨name,kind,size,little,bytes,names,tags,kids⟩,vb,vn,vt,vk⟩:=r
 have h1:SlB w B vb bytes:=h.b
 have h2:SlS w B vn names:=h.n
 have h3:SlI w B vt tags:=h.t
 have h4:SlI w B vk kids:=h.k
 clear h
 obtain ⟨Ab,cb,rfl,hb1,hb2,x1⟩:=h1.open_
 obtain ⟨An,cn,rfl,hn1,hn2,x2⟩:=h2.one
 obtain ⟨At,ct,rfl,ht1,ht2,x3⟩:=h3.one
 obtain ⟨Ak,ck,rfl,hk1,hk2,x4⟩:=h4.one
 clear h1 h2 h3 h4 x1 x2 x3 x4
 unfold rmV
 simp only
 unfold maxLen at hb2 hn2 ht2 hk2
 have hb:=Below.allocW w (.cells #[.string name, .int .i64 kind, .int .i64 size, .bool little, .slice Ab bytes.length cb, .slice An names.length cn, .slice At tags.length ct, .slice Ak kids.length ck] 73) (Nat.le_refl _)
 cases h0:(size==0)
 ·skip
  have H:=Lib.hid (show shapeR ⟨name,kind,size,little,bytes,names,tags,kids⟩ false false true false K=false by simp only [shapeR,plainR];rw [h0];rfl)
  go_enter Tryd.func124,Tryd.ntmps124
  go_wp2
  go_ret
  exact ⟨ret_bool H.out.symm,hb⟩
 ·skip
  cases h1:(((bytes.length:Nat):Int)==0)
  ·skip
   have H:=Lib.hid (show shapeR ⟨name,kind,size,little,bytes,names,tags,kids⟩ false false true false K=false by simp only [shapeR,plainR];rw [h0,h1];rfl)
   go_enter Tryd.func124,Tryd.ntmps124
   go_wp2
   go_ret
   exact ⟨ret_bool H.out.symm,hb⟩
  ·skip
   cases h3:(((tags.length:Nat):Int)==0)
   ·skip
    have H:=Lib.hid (show shapeR ⟨name,kind,size,little,bytes,names,tags,kids⟩ false false true false K=false by simp only [shapeR,plainR];rw [h0,h1,h3];rfl)
    go_enter Tryd.func124,Tryd.ntmps124
    go_wp2
    go_ret
    exact ⟨ret_bool H.out.symm,hb⟩
   ·skip
    cases hK:decide (K < 0)
    ·cases hk:((kids.length:Int)==K)
     ·skip
      have H:=Lib.hid (show shapeR ⟨name,kind,size,little,bytes,names,tags,kids⟩ false false true false K=false by simp only [shapeR,plainR];rw [h0,h1,h3,hK,hk];rfl)
      go_enter Tryd.func124,Tryd.ntmps124
      go_wp2
      go_ret
      exact ⟨ret_bool H.out.symm,hb⟩
     ·skip
      cases little
      ·skip
       have H:=Lib.hid (show shapeR ⟨name,kind,size,false,bytes,names,tags,kids⟩ false false true false K=true by simp only [shapeR,plainR];rw [h0,h1,h3,hK,hk];rfl)
       go_enter Tryd.func124,Tryd.ntmps124
       go_wp2
       go_ret
       exact ⟨ret_bool H.out.symm,hb⟩
      ·cases hq:(kind==1)
       ·skip
        have H:=Lib.hid (show shapeR ⟨name,kind,size,true,bytes,names,tags,kids⟩ false false true false K=false by simp only [shapeR,plainR];rw [h0,h1,h3,hK,hk,hq];rfl)
        go_enter Tryd.func124,Tryd.ntmps124
        go_wp2
        go_ret
        exact ⟨ret_bool H.out.symm,hb⟩
       ·skip
        have H:=Lib.hid (show shapeR ⟨name,kind,size,true,bytes,names,tags,kids⟩ false false true false K=true by simp only [shapeR,plainR];rw [h0,h1,h3,hK,hk,hq];rfl)
        go_enter Tryd.func124,Tryd.ntmps124
        go_wp2
        go_ret
        exact ⟨ret_bool H.out.symm,hb⟩
    ·skip
     cases little
     ·skip
      have H:=Lib.hid (show shapeR ⟨name,kind,size,false,bytes,names,tags,kids⟩ false false true false K=true by simp only [shapeR,plainR];rw [h0,h1,h3,hK];rfl)
      go_enter Tryd.func124,Tryd.ntmps124
      go_wp2
      go_ret
      exact ⟨ret_bool H.out.symm,hb⟩
     ·cases hq:(kind==1)
      ·skip
       have H:=Lib.hid (show shapeR ⟨name,kind,size,true,bytes,names,tags,kids⟩ false false true false K=false by simp only [shapeR,plainR];rw [h0,h1,h3,hK,hq];rfl)
       go_enter Tryd.func124,Tryd.ntmps124
       go_wp2
       go_ret
       exact ⟨ret_bool H.out.symm,hb⟩
      ·skip
       have H:=Lib.hid (show shapeR ⟨name,kind,size,true,bytes,names,tags,kids⟩ false false true false K=true by simp only [shapeR,plainR];rw [h0,h1,h3,hK,hq];rfl)
       go_enter Tryd.func124,Tryd.ntmps124
       go_wp2
       go_ret
       exact ⟨ret_bool H.out.symm,hb⟩
set_option maxHeartbeats 2000000 in
theorem specShape_t (r:RM) (B:Nat) (K:Int) (w:World) (h:r.rd w B):
  Calls Tryd.prog 124 #[rmV r, .bool false, .bool false, .bool false, .bool true, .int .i64 K] w fun e w'=> e= .returned (.bool (shapeR r.d false false false true K))∧Below w.heap.size w w':=by
 obtain ⟨⟨name,kind,size,little,bytes,names,tags,kids⟩,vb,vn,vt,vk⟩:=r
 have h1:SlB w B vb bytes:=h.b
 have h2:SlS w B vn names:=h.n
 have h3:SlI w B vt tags:=h.t
 have h4:SlI w B vk kids:=h.k
 clear h
 obtain ⟨Ab,cb,rfl,hb1,hb2,x1⟩:=h1.open_
 obtain ⟨An,cn,rfl,hn1,hn2,x2⟩:=h2.one
 obtain ⟨At,ct,rfl,ht1,ht2,x3⟩:=h3.one
 obtain ⟨Ak,ck,rfl,hk1,hk2,x4⟩:=h4.one
 clear h1 h2 h3 h4 x1 x2 x3 x4
 unfold rmV
 simp only
 unfold maxLen at hb2 hn2 ht2 hk2
 have hb:=Below.allocW w (.cells #[.string name, .int .i64 kind, .int .i64 size, .bool little, .slice Ab bytes.length cb, .slice An names.length cn, .slice At tags.length ct, .slice Ak kids.length ck] 73) (Nat.le_refl _)
 cases h0:(size==0)
 ·skip
  have H:=Lib.hid (show shapeR ⟨name,kind,size,little,bytes,names,tags,kids⟩ false false false true K=false by simp only [shapeR,plainR];rw [h0];rfl)
  go_enter Tryd.func124,Tryd.ntmps124
  go_wp2
  go_ret
  exact ⟨ret_bool H.out.symm,hb⟩
 ·skip
  cases h1:(((bytes.length:Nat):Int)==0)
  ·skip
   have H:=Lib.hid (show shapeR ⟨name,kind,size,little,bytes,names,tags,kids⟩ false false false true K=false by simp only [shapeR,plainR];rw [h0,h1];rfl)
   go_enter Tryd.func124,Tryd.ntmps124
   go_wp2
   go_ret
   exact ⟨ret_bool H.out.symm,hb⟩
  ·skip
   cases h2:(((names.length:Nat):Int)==0)
   ·skip
    have H:=Lib.hid (show shapeR ⟨name,kind,size,little,bytes,names,tags,kids⟩ false false false true K=false by simp only [shapeR,plainR];rw [h0,h1,h2];rfl)
    go_enter Tryd.func124,Tryd.ntmps124
    go_wp2
    go_ret
    exact ⟨ret_bool H.out.symm,hb⟩
   ·skip
    cases hK:decide (K < 0)
    ·cases hk:((kids.length:Int)==K)
     ·skip
      have H:=Lib.hid (show shapeR ⟨name,kind,size,little,bytes,names,tags,kids⟩ false false false true K=false by simp only [shapeR,plainR];rw [h0,h1,h2,hK,hk];rfl)
      go_enter Tryd.func124,Tryd.ntmps124
      go_wp2
      go_ret
      exact ⟨ret_bool H.out.symm,hb⟩
     ·skip
      cases little
      ·skip
       have H:=Lib.hid (show shapeR ⟨name,kind,size,false,bytes,names,tags,kids⟩ false false false true K=true by simp only [shapeR,plainR];rw [h0,h1,h2,hK,hk];rfl)
       go_enter Tryd.func124,Tryd.ntmps124
       go_wp2
       go_ret
       exact ⟨ret_bool H.out.symm,hb⟩
      ·cases hq:(kind==1)
       ·skip
        have H:=Lib.hid (show shapeR ⟨name,kind,size,true,bytes,names,tags,kids⟩ false false false true K=false by simp only [shapeR,plainR];rw [h0,h1,h2,hK,hk,hq];rfl)
        go_enter Tryd.func124,Tryd.ntmps124
        go_wp2
        go_ret
        exact ⟨ret_bool H.out.symm,hb⟩
       ·skip
        have H:=Lib.hid (show shapeR ⟨name,kind,size,true,bytes,names,tags,kids⟩ false false false true K=true by simp only [shapeR,plainR];rw [h0,h1,h2,hK,hk,hq];rfl)
        go_enter Tryd.func124,Tryd.ntmps124
        go_wp2
        go_ret
        exact ⟨ret_bool H.out.symm,hb⟩
    ·skip
     cases little
     ·skip
      have H:=Lib.hid (show shapeR ⟨name,kind,size,false,bytes,names,tags,kids⟩ false false false true K=true by simp only [shapeR,plainR];rw [h0,h1,h2,hK];rfl)
      go_enter Tryd.func124,Tryd.ntmps124
      go_wp2
      go_ret
      exact ⟨ret_bool H.out.symm,hb⟩
     ·cases hq:(kind==1)
      ·skip
       have H:=Lib.hid (show shapeR ⟨name,kind,size,true,bytes,names,tags,kids⟩ false false false true K=false by simp only [shapeR,plainR];rw [h0,h1,h2,hK,hq];rfl)
       go_enter Tryd.func124,Tryd.ntmps124
       go_wp2
       go_ret
       exact ⟨ret_bool H.out.symm,hb⟩
      ·skip
       have H:=Lib.hid (show shapeR ⟨name,kind,size,true,bytes,names,tags,kids⟩ false false false true K=true by simp only [shapeR,plainR];rw [h0,h1,h2,hK,hq];rfl)
       go_enter Tryd.func124,Tryd.ntmps124
       go_wp2
       go_ret
       exact ⟨ret_bool H.out.symm,hb⟩
set_option maxHeartbeats 2000000 in
theorem specShape_o (r:RM) (B:Nat) (K:Int) (w:World) (h:r.rd w B):
  Calls Tryd.prog 124 #[rmV r, .bool false, .bool false, .bool false, .bool false, .int .i64 K] w fun e w'=> e= .returned (.bool (shapeR r.d false false false false K))∧Below w.heap.size w w':=by
 obtain ⟨⟨name,kind,size,little,bytes,names,tags,kids⟩,vb,vn,vt,vk⟩:=r
 have h1:SlB w B vb bytes:=h.b
 have h2:SlS w B vn names:=h.n
 have h3:SlI w B vt tags:=h.t
 have h4:SlI w B vk kids:=h.k
 clear h
 obtain ⟨Ab,cb,rfl,hb1,hb2,x1⟩:=h1.open_
 obtain ⟨An,cn,rfl,hn1,hn2,x2⟩:=h2.one
 obtain ⟨At,ct,rfl,ht1,ht2,x3⟩:=h3.one
 obtain ⟨Ak,ck,rfl,hk1,hk2,x4⟩:=h4.one
 clear h1 h2 h3 h4 x1 x2 x3 x4
 unfold rmV
 simp only
 unfold maxLen at hb2 hn2 ht2 hk2
 have hb:=Below.allocW w (.cells #[.string name, .int .i64 kind, .int .i64 size, .bool little, .slice Ab bytes.length cb, .slice An names.length cn, .slice At tags.length ct, .slice Ak kids.length ck] 73) (Nat.le_refl _)
 cases h0:(size==0)
 ·skip
  have H:=Lib.hid (show shapeR ⟨name,kind,size,little,bytes,names,tags,kids⟩ false false false false K=false by simp only [shapeR,plainR];rw [h0];rfl)
  go_enter Tryd.func124,Tryd.ntmps124
  go_wp2
  go_ret
  exact ⟨ret_bool H.out.symm,hb⟩
 ·skip
  cases h1:(((bytes.length:Nat):Int)==0)
  ·skip
   have H:=Lib.hid (show shapeR ⟨name,kind,size,little,bytes,names,tags,kids⟩ false false false false K=false by simp only [shapeR,plainR];rw [h0,h1];rfl)
   go_enter Tryd.func124,Tryd.ntmps124
   go_wp2
   go_ret
   exact ⟨ret_bool H.out.symm,hb⟩
  ·skip
   cases h2:(((names.length:Nat):Int)==0)
   ·skip
    have H:=Lib.hid (show shapeR ⟨name,kind,size,little,bytes,names,tags,kids⟩ false false false false K=false by simp only [shapeR,plainR];rw [h0,h1,h2];rfl)
    go_enter Tryd.func124,Tryd.ntmps124
    go_wp2
    go_ret
    exact ⟨ret_bool H.out.symm,hb⟩
   ·skip
    cases h3:(((tags.length:Nat):Int)==0)
    ·skip
     have H:=Lib.hid (show shapeR ⟨name,kind,size,little,bytes,names,tags,kids⟩ false false false false K=false by simp only [shapeR,plainR];rw [h0,h1,h2,h3];rfl)
     go_enter Tryd.func124,Tryd.ntmps124
     go_wp2
     go_ret
     exact ⟨ret_bool H.out.symm,hb⟩
    ·skip
     cases hK:decide (K < 0)
     ·cases hk:((kids.length:Int)==K)
      ·skip
       have H:=Lib.hid (show shapeR ⟨name,kind,size,little,bytes,names,tags,kids⟩ false false false false K=false by simp only [shapeR,plainR];rw [h0,h1,h2,h3,hK,hk];rfl)
       go_enter Tryd.func124,Tryd.ntmps124
       go_wp2
       go_ret
       exact ⟨ret_bool H.out.symm,hb⟩
      ·skip
       cases little
       ·skip
        have H:=Lib.hid (show shapeR ⟨name,kind,size,false,bytes,names,tags,kids⟩ false false false false K=true by simp only [shapeR,plainR];rw [h0,h1,h2,h3,hK,hk];rfl)
        go_enter Tryd.func124,Tryd.ntmps124
        go_wp2
        go_ret
        exact ⟨ret_bool H.out.symm,hb⟩
       ·cases hq:(kind==1)
        ·skip
         have H:=Lib.hid (show shapeR ⟨name,kind,size,true,bytes,names,tags,kids⟩ false false false false K=false by simp only [shapeR,plainR];rw [h0,h1,h2,h3,hK,hk,hq];rfl)
         go_enter Tryd.func124,Tryd.ntmps124
         go_wp2
         go_ret
         exact ⟨ret_bool H.out.symm,hb⟩
        ·skip
         have H:=Lib.hid (show shapeR ⟨name,kind,size,true,bytes,names,tags,kids⟩ false false false false K=true by simp only [shapeR,plainR];rw [h0,h1,h2,h3,hK,hk,hq];rfl)
         go_enter Tryd.func124,Tryd.ntmps124
         go_wp2
         go_ret
         exact ⟨ret_bool H.out.symm,hb⟩
     ·skip
      cases little
      ·skip
       have H:=Lib.hid (show shapeR ⟨name,kind,size,false,bytes,names,tags,kids⟩ false false false false K=true by simp only [shapeR,plainR];rw [h0,h1,h2,h3,hK];rfl)
       go_enter Tryd.func124,Tryd.ntmps124
       go_wp2
       go_ret
       exact ⟨ret_bool H.out.symm,hb⟩
      ·cases hq:(kind==1)
       ·skip
        have H:=Lib.hid (show shapeR ⟨name,kind,size,true,bytes,names,tags,kids⟩ false false false false K=false by simp only [shapeR,plainR];rw [h0,h1,h2,h3,hK,hq];rfl)
        go_enter Tryd.func124,Tryd.ntmps124
        go_wp2
        go_ret
        exact ⟨ret_bool H.out.symm,hb⟩
       ·skip
        have H:=Lib.hid (show shapeR ⟨name,kind,size,true,bytes,names,tags,kids⟩ false false false false K=true by simp only [shapeR,plainR];rw [h0,h1,h2,h3,hK,hq];rfl)
        go_enter Tryd.func124,Tryd.ntmps124
        go_wp2
        go_ret
        exact ⟨ret_bool H.out.symm,hb⟩
end Go.Proofs.YteldgdelmaeokaaDoor
namespace Go.Proofs.YteldgdelmaeokaaDoor
open Go.RowKit
def isLow (c:UInt8):Bool:=decide (97≤c.toNat) && decide (c.toNat≤122)
def nameAt (s:ByteArray) (k:Nat):Bool:=match s.data.toList[k]? with
 |some c=> isLow c||(isDig c && decide (k≠0))
 |none=> true
def nameTo (s:ByteArray):Nat→Bool
 |0=> true
 |k+1=> nameTo s k && nameAt s k
def isName (s:ByteArray):Bool:=nameTo s s.size && (decide (1≤s.size) && decide (s.size≤12))
theorem nameAt_eq (s:ByteArray) (k:Nat) (h:k < s.size):nameAt s k=(isLow s[k]||(isDig s[k] && decide (k≠0))):=by
 have h':k < s.data.toList.length:=by rw [←Lib.size_eq];exact h
 rw [nameAt,List.getElem?_eq_getElem h'];rfl
theorem nameTo_no (s:ByteArray) (k n:Nat) (h:k < n) (hb:nameAt s k=false):nameTo s n=false:=by
 induction n with
 |zero=> omega
 |succ n ih=>
  by_cases hk:k=n
  ·subst hk;rw [nameTo,hb];simp
  ·rw [nameTo,ih (by omega)];rfl
theorem nameTo_step (s:ByteArray) (k:Nat) (h:nameTo s k=true) (hb:nameAt s k=true):nameTo s (k+1)=true:=by rw [nameTo,h,hb];rfl
set_option maxHeartbeats 2000000 in
theorem specIsName_any (s:ByteArray) (w:World) (hs:s.size≤maxLen):
  Calls Tryd.prog 91 #[.string s] w fun e w'=> e= .returned (.bool (isName s))∧w=w':=by
 unfold maxLen at hs
 go_enter Tryd.func91,Tryd.ntmps91
 go_wp2
 go_loop [3] (fun i=> ∃k:Nat,k≤s.size∧i= .int .i64 k∧nameTo s k=true) (fun i=> s.size - (intOf i).toNat)
 case atStart=> exact ⟨0,Nat.zero_le _,rfl,rfl⟩
 case round=>
  obtain ⟨k,hk,rfl,hn⟩:=hrel
  have HN:=Lib.hid hn
  clear hn
  by_cases hlt:k < s.size
  ·have e:=nameAt_eq s k hlt
   have good:nameAt s k=true→Hid (nameTo s (k+1)=true):=fun h=> nameTo_step s k HN.out h
   have bad:nameAt s k=false→Hid (isName s=false):=fun h=> by show isName s=false;rw [isName,nameTo_no s k s.size hlt h];rfl
   by_cases a1:97≤s[k].toNat
   ·by_cases a2:s[k].toNat≤122
    ·have H:=good (by rw [e];simp [isLow,a1,a2])
     have d1:decide (97≤(s[k].toNat:Int))=true:=decide_eq_true (by omega)
     have d2:decide ((s[k].toNat:Int)≤122)=true:=decide_eq_true (by omega)
     have d3:decide (48≤(s[k].toNat:Int))=true:=decide_eq_true (by omega)
     have d4:decide ((s[k].toNat:Int)≤57)=false:=decide_eq_false (by omega)
     clear e good bad a1 a2
     go_wp2
     all_goals
      go_round
      case rel=> exact ⟨k+1,by omega,by go_num,H.out⟩
      case measure=> simp [intOf] <;> omega
    ·have H:=bad (by rw [e];simp [isLow,isDig];omega)
     have d1:decide (97≤(s[k].toNat:Int))=true:=decide_eq_true (by omega)
     have d2:decide ((s[k].toNat:Int)≤122)=false:=decide_eq_false (by omega)
     have d3:decide (48≤(s[k].toNat:Int))=true:=decide_eq_true (by omega)
     have d4:decide ((s[k].toNat:Int)≤57)=false:=decide_eq_false (by omega)
     clear e good bad a1 a2
     go_wp2
     all_goals
      go_ret
      exact ⟨ret_bool H.out.symm,rfl⟩
   ·have d1:decide (97≤(s[k].toNat:Int))=false:=decide_eq_false (by omega)
    by_cases b1:48≤s[k].toNat
    ·have d3:decide (48≤(s[k].toNat:Int))=true:=decide_eq_true (by omega)
     by_cases b2:s[k].toNat≤57
     ·have d4:decide ((s[k].toNat:Int)≤57)=true:=decide_eq_true (by omega)
      by_cases hk0:k=0
      ·have H:=bad (by rw [e,show isLow s[k]=false by simp [isLow];omega,decide_eq_false (show ¬k≠0 by omega)];simp)
       have d5:((k:Int)==0)=true:=by rw [beq_iff_eq];omega
       clear e good bad a1 b1 b2 hk0
       go_wp2
       all_goals
        go_ret
        exact ⟨ret_bool H.out.symm,rfl⟩
      ·have H:=good (by rw [e,show isDig s[k]=true by simp [isDig];omega,decide_eq_true hk0];simp)
       have d5:((k:Int)==0)=false:=by rw [beq_eq_false_iff_ne];omega
       clear e good bad a1 b1 b2 hk0
       go_wp2
       all_goals
        go_round
        case rel=> exact ⟨k+1,by omega,by go_num,H.out⟩
        case measure=> simp [intOf] <;> omega
     ·have d4:decide ((s[k].toNat:Int)≤57)=false:=decide_eq_false (by omega)
      have H:=bad (by rw [e];simp [isLow,isDig];omega)
      clear e good bad a1 b1 b2
      go_wp2
      all_goals
       go_ret
       exact ⟨ret_bool H.out.symm,rfl⟩
    ·have d3:decide (48≤(s[k].toNat:Int))=false:=decide_eq_false (by omega)
     have H:=bad (by rw [e];simp [isLow,isDig];omega)
     clear e good bad a1 b1
     go_wp2
     all_goals
      go_ret
      exact ⟨ret_bool H.out.symm,rfl⟩
  ·have hks:k=s.size:=by omega
   have HX:=Lib.hid (show isName s=inB (s.size:Int) 1 12 by
    rw [isName,←hks,HN.out,hks]
    unfold inB
    rw [Bool.eq_iff_iff];simp;omega)
   clear hks
   go_wp2_with (go_at_call 53;refine (l1In_any _ _ _ _).mono ?_;rintro e w' ⟨rfl,rfl⟩)
   go_ret
   exact ⟨ret_bool HX.out.symm,rfl⟩
end Go.Proofs.YteldgdelmaeokaaDoor
namespace Go.Proofs.YteldgdelmaeokaaDoor.FnExactIsStep
open Go.RowKit
end Go.Proofs.YteldgdelmaeokaaDoor.FnExactIsStep
namespace Go.Proofs.YteldgdelmaeokaaDoor
open Go.RowKit
def allTo (p:Nat→Bool):Nat→Bool
 |0=> true
 |n+1=> allTo p n && p n
theorem allTo_iff (p:Nat→Bool) (n:Nat):allTo p n=true↔∀k,k < n→p k=true:=by
 induction n with
 |zero=> simp [allTo]
 |succ n ih=>
  simp only [allTo,Bool.and_eq_true,ih]
  constructor
  ·rintro ⟨h1,h2⟩ k hk
   by_cases h:k=n
   ·subst h;exact h2
   ·exact h1 k (by omega)
  ·intro h
   exact ⟨fun k hk=> h k (by omega),h n (by omega)⟩
theorem allTo_no (p:Nat→Bool) (k n:Nat) (h:k < n) (hp:p k=false):allTo p n=false:=by
 cases hb:allTo p n
 ·rfl
 ·have:=(allTo_iff p n).1 hb k h
  rw [hp] at this;cases this
theorem allTo_step (p:Nat→Bool) (k:Nat) (h:allTo p k=true) (hp:p k=true):allTo p (k+1)=true:=by rw [allTo,h,hp];rfl
def nmAt (l:List ByteArray) (k:Nat):Bool:=match l[k]? with
 |some s=> isName s && !hasT (l.take k) s
 |none=> true
theorem nmAt_eq (l:List ByteArray) (k:Nat) (h:k < l.length):nmAt l k=(isName l[k] && !hasT (l.take k) l[k]):=by
 unfold nmAt;rw [List.getElem?_eq_getElem h]
def okNames (l:List ByteArray):Bool:=allTo (nmAt l) l.length && inB l.length 1 8
def tgAt (lim:Int) (l:List Int) (k:Nat):Bool:=match l[k]? with
 |some t=> inB t 0 lim && (match k with|0=> true|j+1=> decide (l.getD j 0 < t))
 |none=> true
theorem tgAt_zero (lim:Int) (l:List Int) (h:0 < l.length):tgAt lim l 0=inB l[0] 0 lim:=by
 unfold tgAt;rw [List.getElem?_eq_getElem h];simp
theorem tgAt_succ (lim:Int) (l:List Int) (k:Nat) (h:k+1 < l.length):tgAt lim l (k+1)=(inB l[k+1] 0 lim && decide (l[k] < l[k+1])):=by
 unfold tgAt;rw [List.getElem?_eq_getElem h];simp [List.getD,List.getElem?_eq_getElem (show k < l.length by omega)]
def kid (r:RuleD) (j:Nat):Int:=r.kids.getD j 0
theorem kid_at (r:RuleD) (j:Nat) (h:j < r.kids.length):kid r j=r.kids[j]:=by
 unfold kid;simp [List.getD,List.getElem?_eq_getElem h]
def okTags (D:List RuleD) (r:RuleD):Bool:=
 ((r.kids.length:Int)==r.tags.length+1) && (inB r.tags.length 1 8 && allTo (tgAt (limitOf D (kid r 0)) r.tags) r.tags.length)
def kindR (D:List RuleD) (r:RuleD):Bool:=
 if r.kind=1 then plainR r true false false false 0 && (inB r.size 1 4 && (!r.little||decide (1 < r.size)))
 else if r.kind=2 then plainR r false true false false 0 && inB r.bytes.length 1 16
 else if r.kind=3 then plainR r true false false false 0 && inB r.size 1 64
 else if r.kind=4 then plainR r false false false false 1 && decide (0 < limitOf D (kid r 0))
 else if r.kind=5 then plainR r false false false false 2 && decide (0 < limitOf D (kid r 0))
 else if r.kind=6 then plainR r false false true false r.names.length && okNames r.names
 else if r.kind=7 then plainR r false false false true (-1) && okTags D r
 else if r.kind=8∨r.kind=9 then plainR r false false false false 1
 else if r.kind=10 then plainR r false true false false 0 && (((r.bytes.length:Int)==1) && (r.bytes.head? !=some 92))
 else false
def littleOk (r:RuleD):Bool:= !r.little||r.kind==1
def otherAt (D:List RuleD) (s:ByteArray) (j:Nat):Bool:=match D[j]? with
 |some r=> !(r.name.toList==s.toList)
 |none=> true
theorem otherAt_eq (D:List RuleD) (s:ByteArray) (j:Nat) (h:j < D.length):otherAt D s j= !(D[j].name.toList==s.toList):=by
 unfold otherAt;rw [List.getElem?_eq_getElem h]
def kidAt (l:List Int) (i:Int) (j:Nat):Bool:=match l[j]? with
 |some k=> inB k 0 (i - 1)
 |none=> true
theorem kidAt_eq (l:List Int) (i:Int) (j:Nat) (h:j < l.length):kidAt l i j=inB l[j] 0 (i - 1):=by
 unfold kidAt;rw [List.getElem?_eq_getElem h]
def ruleOk (D:List RuleD) (i:Nat) (r:RuleD):Bool:=
 allTo (otherAt D r.name) i && (allTo (kidAt r.kids i) r.kids.length && (isName r.name && (kindR D r && littleOk r)))
def validR (D:List RuleD) (i:Int):Bool:=match ruleAt D i with
 |none=> false
 |some r=> ruleOk D i.toNat r
def validD (D:List RuleD):Bool:=allTo (fun k=> validR D k) D.length && inB D.length 1 24
theorem validR_at (D:List RuleD) (k:Nat) (h:k < D.length):validR D k=ruleOk D k D[k]:=by
 unfold validR ruleAt
 rw [if_pos (by omega)]
 simp [List.getElem?_eq_getElem h]
theorem validR_out (D:List RuleD) (i:Int) (h:i < 0∨(D.length:Int)≤i):validR D i=false:=by
 unfold validR;rw [ruleAt_none h]
def knownD (D:List RuleD) (i:Int):Bool:=inB i 0 ((D.length:Int) - 1) && validD D
end Go.Proofs.YteldgdelmaeokaaDoor
namespace Go.Proofs.YteldgdelmaeokaaDoor
open Go.RowKit
section
variable {P:Program} (w:World)
theorem app_nil (base:Nat) (t ty e:TypeId) (i:TypeInfo) (size:Nat) (ht:P.underlying t=some (.slice e)) (hi:P.info? e=some i)
  (v:Value) (n:Nat) (xs:List Value) (hown:w.ownsRow base e size v n xs) (c:Nat):(Builtin.append_ #[t,t] ty #[v, .slice none 0 c]).run P w= .ok v w:=by
 rcases hown.2 with ⟨rfl,rfl⟩|⟨g,cap,cur,rfl,_,_,hnc,_⟩
 ·simp [Builtin.append_,run_underlying ht,sizeOf,typeInfo,hi,Builtin.lenOf,Builtin.firstCells]
 ·simp [Builtin.append_,run_underlying ht,sizeOf,typeInfo,hi,Builtin.lenOf,Builtin.firstCells,hnc,storeCells]
theorem run_app (base:Nat) (t ty e:TypeId) (i:TypeInfo) (z:Value) (size bytes:Nat) (ht:P.underlying t=some (.slice e)) (hi:P.info? e=some i) (hz:i.zero=some z)
  (hsize:i.size=size) (hby:i.bytes=bytes) (hzs:z.cells.size=size) (hsz:0 < size)
  (v:Value) (n:Nat) (xs:List Value) (hown:w.ownsRow base e size v n xs)
  (B m:Nat) (src:Value) (news:List Value) (hs:Sl w B size src m news) (h1:∀u∈news,u.oneCell'=true)
  (hroom:(n+m)*bytes≤140737488355328) (h63:n+m≤maxLen) (hbase:base≤w.heap.size):
  ∃v' w',(Builtin.append_ #[t,t] ty #[v,src]).run P w= .ok v' w'∧w'.ownsRow base e size v' (n+m) (xs++news)∧w.grownBy w' v.ownBlock∧(v'.ownBlock=v.ownBlock∨v'.ownBlock=some w.heap.size):=by
 obtain ⟨hl,A,c,rfl,hc,hm,hr⟩:=hs
 rcases Nat.eq_zero_or_pos m with h0|h0
 ·subst h0
  have hn:news= []:=List.eq_nil_of_length_eq_zero (by simpa using hl)
  subst hn
  rcases A with _|ad
  ·exact ⟨v,w,app_nil w base t ty e i size ht hi v n xs hown c,by simpa using hown,World.grownBy.refl w _, .inl rfl⟩
  ·obtain ⟨v',w',hrun,h2,h3,_,h5⟩:=run_append_own_at (P:=P) w base t ty e i z size bytes ht hi hz hsize hby hzs hsz v n xs hown ad 0 c [] (by simp) (by simp) (by simp) h63 hroom hbase
   exact ⟨v',w',hrun,h2,h3,h5⟩
 ·obtain ⟨b,off,rfl,hb,hcell⟩:=hr h0
  have hadd:∀j,(⟨b,off,none⟩:Addr).add j=⟨b,off+j,none⟩:=by intro j;unfold Addr.add;split <;> simp_all
  obtain ⟨v',w',hrun,h2,h3,_,h5⟩:=run_append_own_at (P:=P) w base t ty e i z size bytes ht hi hz hsize hby hzs hsz v n xs hown ⟨b,off,none⟩ m c news hl (fun j u hu=> by rw [hadd];exact hcell j u hu) h1 h63 hroom hbase
  exact ⟨v',w',hrun,h2,h3,h5⟩
theorem wp_app {o:Oper} {a:Act} {K:Act→World→Prop} {Q:Exit→Act→World→Prop} (s x:Operand) (t:TypeId)
  (ho:o.op= .call { callee:= .builtin .append,args:= #[s,x],argTypes:= #[t,t] })
  (base:Nat) (e:TypeId) (i:TypeInfo) (z:Value) (size bytes:Nat) (ht:P.underlying t=some (.slice e)) (hi:P.info? e=some i) (hz:i.zero=some z)
  (hsize:i.size=size) (hby:i.bytes=bytes) (hzs:z.cells.size=size) (hsz:0 < size)
  (v:Value) (n:Nat) (xs:List Value) (hv:a.eval s=v) (hown:w.ownsRow base e size v n xs)
  (B m:Nat) (src:Value) (news:List Value) (hx:a.eval x=src) (hs:Sl w B size src m news) (h1:∀u∈news,u.oneCell'=true)
  (hroom:(n+m)*bytes≤140737488355328) (h63:n+m≤maxLen) (hbase:base≤w.heap.size)
  (h:∀v' w',w'.ownsRow base e size v' (n+m) (xs++news)→w.grownBy w' v.ownBlock→(v'.ownBlock=v.ownBlock∨v'.ownBlock=some w.heap.size)→K (a.put o.dst v') w'):o.wp P a w K Q:=by
 obtain ⟨v',w',hrun,h2,h3,h4⟩:=run_app (P:=P) w base t o.type e i z size bytes ht hi hz hsize hby hzs hsz v n xs hown B m src news hs h1 hroom h63 hbase
 unfold Oper.wp execOp
 simp only [ho,resolve,invoke,builtin,Sem.run_bind,Sem.run_pure,Result.andThen_ok,List.map_toArray,List.map_cons,List.map_nil,hv,hx,hrun]
 exact h v' w' h2 h3 h4
theorem wpList_app {ops:Array Oper} {rest:List Oper} {o:Oper} {a:Act} {Q:Exit→Act→World→Prop} (hgd:o.guard=none) (s x:Operand) (t:TypeId)
  (ho:o.op= .call { callee:= .builtin .append,args:= #[s,x],argTypes:= #[t,t] })
  (base:Nat) (e:TypeId) (i:TypeInfo) (z:Value) (size bytes:Nat) (ht:P.underlying t=some (.slice e)) (hi:P.info? e=some i) (hz:i.zero=some z)
  (hsize:i.size=size) (hby:i.bytes=bytes) (hzs:z.cells.size=size) (hsz:0 < size)
  (v:Value) (n:Nat) (xs:List Value) (hv:a.eval s=v) (hown:w.ownsRow base e size v n xs)
  (B m:Nat) (src:Value) (news:List Value) (hx:a.eval x=src) (hs:Sl w B size src m news) (h1:∀u∈news,u.oneCell'=true)
  (hroom:(n+m)*bytes≤140737488355328) (h63:n+m≤maxLen) (hbase:base≤w.heap.size)
  (h:∀v' w',w'.ownsRow base e size v' (n+m) (xs++news)→w.grownBy w' v.ownBlock→(v'.ownBlock=v.ownBlock∨v'.ownBlock=some w.heap.size)→wpList P ops Q rest (a.put o.dst v') w'):wpList P ops Q (o::rest) a w:=
 wpList_plain hgd fun _ hK=> wp_app w s x t ho base e i z size bytes ht hi hz hsize hby hzs hsz v n xs hv hown B m src news hx hs h1 hroom h63 hbase fun v' w' h2 h3 h4=> hK _ _ (h v' w' h2 h3 h4)
end
theorem own_empty (w:World) (e:TypeId) (size:Nat):(w.alloc (.cells #[] e)).ownsRow w.heap.size e size (.slice (some ⟨w.heap.size,0,none⟩) 0 0) 0 []:=
 World.ownsRow_made w #[] 0 (Nat.le_refl _) (Nat.zero_le _) (by simp)
theorem Sl.cut {w:World} {B size n c lo hi:Nat} {A:Option Addr} {xs:List Value} (h:Sl w B size (.slice A n c) n xs) (h1:lo≤hi) (h2:hi≤n) (h3:0 < size):
  ∀A' c',hi - lo≤c'→c'≤maxLen→(lo < hi→A'=A.map fun ad=> ad.add (lo*size))→Sl w B size (.slice A' (hi - lo) c') (hi - lo) ((xs.drop (lo*size)).take ((hi - lo)*size)):=by
 intro A' c' hc' hm' hA
 obtain ⟨hl,A0,c0,e,hc,hm,hr⟩:=h
 simp only [Value.slice.injEq] at e
 obtain ⟨rfl,_,rfl⟩:=e
 have hmul:hi*size≤n*size:=Nat.mul_le_mul_right _ h2
 have hsub:(hi - lo)*size=hi*size - lo*size:=Nat.sub_mul _ _ _
 refine ⟨?_,A',c',rfl,hc',hm',fun hpos=> ?_⟩
 ·rw [List.length_take,List.length_drop,hl,Nat.min_eq_left]
  omega
 ·have hlh:lo < hi:=Nat.lt_of_sub_pos hpos
  obtain ⟨b,off,rfl,hb,hcell⟩:=hr (Nat.lt_of_lt_of_le (Nat.lt_of_le_of_lt (Nat.zero_le _) hlh) h2)
  have hadd:(⟨b,off,none⟩:Addr).add (lo*size)=⟨b,off+lo*size,none⟩:=by unfold Addr.add;split <;> simp_all
  refine ⟨b,off+lo*size,by rw [hA hlh];simp [hadd],hb,fun j u hu=> ?_⟩
  rw [List.getElem?_take] at hu
  split at hu
  ·rw [List.getElem?_drop] at hu
   have:=hcell _ u hu
   rwa [←Nat.add_assoc] at this
  ·cases hu
theorem below_app {a w w1:World} {B base size n:Nat} {e:TypeId} {v:Value} {xs:List Value} (hg:w.grownBy w1 v.ownBlock) (hown:w.ownsRow base e size v n xs) (hbase:B≤base) (hB:B≤w.heap.size) (hb:Below B a w):Below B a w1:=
 hb.grown hg hB fun k hk=> Nat.le_trans hbase (hown.lt k hk).1
def cutA (A:Option Addr) (m l size:Nat):Option Addr:=if m=l then A else A.map fun ad=> ad.add (l*size)
theorem run_bound {P:Program} (i:Int) (y:Nat) (code:BoundsCode) (n:Nat) (h:i=n) (hn:n≤y) (w:World):(Instr.sliceBound (.int .i64 i) y code).run P w= .ok n w:=by
 subst h
 have:(0:Int)≤n∧(n:Int)≤y:=by omega
 simp [Instr.sliceBound,asIntOf,this,go_sem]
theorem run_cutLH {P:Program} {t e:TypeId} {size:Nat} (ht:P.underlying t=some (.slice e)) (hs:∀w,(sizeOf e).run P w= .ok size w) (A:Option Addr) (len cap:Nat) (lo hi:Int) (l h:Nat) (e1:lo=l) (e2:hi=h) (h1:l≤h) (h2:h≤cap) (w:World):
  (Instr.slice t (.slice A len cap) (some (.int .i64 lo)) (some (.int .i64 hi)) none).run P w= .ok (.slice (cutA A cap l size) (h - l) (cap - l)) w:=by
 have b2:∀code,(Instr.sliceBound (.int .i64 hi) cap code).run P w= .ok h w:=fun code=> run_bound _ _ code _ e2 h2 w
 have b3:∀code,(Instr.sliceBound (.int .i64 lo) h code).run P w= .ok l w:=fun code=> run_bound _ _ code _ e1 h1 w
 simp only [Instr.slice,Sem.run_bind,run_underlying ht,Result.andThen_ok,Instr.sliceBounds,b2,b3,Sem.run_pure,hs,cutA]
theorem run_cutH {P:Program} {t e:TypeId} {size:Nat} (ht:P.underlying t=some (.slice e)) (hs:∀w,(sizeOf e).run P w= .ok size w) (A:Option Addr) (len cap:Nat) (hi:Int) (h:Nat) (e2:hi=h) (h2:h≤cap) (w:World):
  (Instr.slice t (.slice A len cap) none (some (.int .i64 hi)) none).run P w= .ok (.slice (cutA A cap 0 size) (h - 0) (cap - 0)) w:=by
 have b2:∀code,(Instr.sliceBound (.int .i64 hi) cap code).run P w= .ok h w:=fun code=> run_bound _ _ code _ e2 h2 w
 simp only [Instr.slice,Sem.run_bind,run_underlying ht,Result.andThen_ok,Instr.sliceBounds,b2,Sem.run_pure,hs,cutA]
theorem Sl.cutA {w:World} {B size n c:Nat} {A:Option Addr} {xs:List Value} (h:Sl w B size (.slice A n c) n xs) (l hi m:Nat) (h1:l≤hi) (h2:hi≤n) (h4:hi≤m) (h5:m≤maxLen) (h3:0 < size):
  Sl w B size (.slice (cutA A m l size) (hi - l) (m - l)) (hi - l) ((xs.drop (l*size)).take ((hi - l)*size)):=
 h.cut h1 h2 h3 _ _ (by omega) (by omega) fun hlt=> by unfold Proofs.YteldgdelmaeokaaDoor.cutA;rw [if_neg (by omega)]
theorem SlB.cut {w:World} {B c:Nat} {A:Option Addr} {xs:List UInt8} (h:SlB w B (.slice A xs.length c) xs) (l hi m:Nat) (h1:l≤hi) (h2:hi≤xs.length) (h4:hi≤m) (h5:m≤maxLen):
  Sl w B 1 (.slice (cutA A m l 1) (hi - l) (m - l)) (hi - l) (u8s ((xs.drop l).take (hi - l))):=by
 have:=Sl.cutA h l hi m h1 h2 h4 h5 (by decide)
 simpa [u8s,List.map_take,List.map_drop] using this
theorem own_empty_at {w:World} {e:TypeId} {size g base:Nat} (hg:g=w.heap.size) (hb:base≤g):(w.alloc (.cells #[] e)).ownsRow base e size (.slice (some ⟨g,0,none⟩) 0 0) 0 []:=by
 subst hg;exact own_base (own_empty w e size) hb
end Go.Proofs.YteldgdelmaeokaaDoor
namespace Go.Proofs.YteldgdelmaeokaaDoor
open Go.RowKit
def nthOp:List Oper→Nat→Option Oper
 | [],_=> none
 |o::_,0=> some o
 | _::l,n+1=> nthOp l n
theorem nthOp_eq:∀(l:List Oper) (i:Nat),nthOp l i=l[i]?
 | [],_=> by simp [nthOp]
 |o::l,0=> by simp [nthOp]
 |o::l,n+1=> by rw [nthOp,nthOp_eq l n];simp
theorem ops_nth {ops:Array Oper} {i:Nat} {oi:Oper} (h:nthOp ops.toList i=some oi):ops[i]?=some oi:=by rw [nthOp_eq] at h;simpa using h
section
variable {P:Program} {ops:Array Oper} {Q:Exit→Act→World→Prop} {md:Region.Mode} {S:World→Prop} {oi:Oper} {d:Option Tmp} {fuel:Nat} {listed:Array Bool} {a:Act} {w:World}
theorem rgTake (i:Nat) (d:Option Tmp) (hS:S w) (v:Value)
  (h:wpAnyH P md ops Q S fuel (listed.setIfInBounds i true) (a.put d v) w)
  (hi:nthOp ops.toList i=some oi:=by rfl) (hd:oi.dst=d:=by rfl) (hs:Region.noSelect ops=true:=by kernel_rfl) (hf:Region.free md ops listed i=true:=by kernel_rfl) (hr:(Region.ready md ops listed).contains i=true:=by kernel_rfl)
  (hQ:∀c v a w,Q (.panic c) (a.put d v) w→Q (.panic c) a w:=by exact fun _ _ _ _ h=> h) (hw:Region.wanted oi (yielded ops a.tmps)=true:=by rfl)
  (hy:∀w,S w→(execOp a.eval oi).run P w= .ok (.value v) w:=by intro w9 hSw;(try dsimp only at hSw);go_simp;try with_reducible rfl):wpAnyH P md ops Q S (fuel+1) listed a w:=by
 subst hd
 exact wpAnyH_take (ops_nth hi) hs hf hr (fun c a w=> hQ c v a w) (.inl ⟨hw,hy⟩) hS h
theorem rgSkip (i:Nat) (d:Option Tmp) (hS:S w)
  (h:wpAnyH P md ops Q S fuel (listed.setIfInBounds i true) (a.put d undef) w)
  (hi:nthOp ops.toList i=some oi:=by rfl) (hd:oi.dst=d:=by rfl) (hs:Region.noSelect ops=true:=by kernel_rfl) (hf:Region.free md ops listed i=true:=by kernel_rfl) (hr:(Region.ready md ops listed).contains i=true:=by kernel_rfl)
  (hQ:∀c v a w,Q (.panic c) (a.put d v) w→Q (.panic c) a w:=by exact fun _ _ _ _ h=> h) (hw:Region.wanted oi (yielded ops a.tmps)=false:=by rfl):wpAnyH P md ops Q S (fuel+1) listed a w:=by
 subst hd
 exact wpAnyH_take (ops_nth hi) hs hf hr (fun c a w=> hQ c undef a w) (.inr ⟨hw,rfl⟩) hS h
theorem rgStep (i:Nat)
  (h:∀K':Act→World→Prop,Shut (∀a w,S w→(S w→wpAnyH P md ops Q S fuel (listed.setIfInBounds i true) a w)→K' a w)→Oper.wp P oi a w K' Q)
  (hr:Region.ready md ops listed= [i]:=by kernel_rfl) (hi:nthOp ops.toList i=some oi:=by rfl) (hw:Region.wanted oi (yielded ops a.tmps)=true:=by rfl):wpAnyH P md ops Q S (fuel+1) listed a w:=
 wpAnyH_ready hr (by simp) (AllReadyH.cons (ops_nth hi) (fun K' hK=> by rw [if_pos hw];exact h K' hK) AllReadyH.nil)
end
end Go.Proofs.YteldgdelmaeokaaDoor
