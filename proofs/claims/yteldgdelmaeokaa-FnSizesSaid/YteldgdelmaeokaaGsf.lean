/- Out of IntB, SumB, FldP: the walks and plain laws that the claim needs. No condition but those that each theorem names. -/
import Derived.Test.YteldgdelmaeokaaGb
import Derived.Test.YteldgdelmaeokaaGda
import Derived.WalkSpells
import Derived.WalkLawsBesides
import Derived.Test.YteldgdelmaeokaaGa
import Derived.Test.YteldgdelmaeokaaGsa
import Derived.Test.YteldgdelmaeokaaGh
import Derived.Test.YteldgdelmaeokaaGf
import Derived.Test.YteldgdelmaeokaaGsb
set_option linter.unusedSimpArgs false
set_option linter.unusedVariables false
namespace Go.Proofs.Yteldgdelmaeokaa
open Go.RowKit
def MadeN (m:Nat) (w:World) (e:Ending) (w':World):Prop:=∃u xs,e= .returned u∧xs.length=m∧w'.ownsRow w.heap.size 5 1 u xs.length (u8s xs)∧Below w.heap.size w w'
set_option maxHeartbeats 1000000 in
set_option maxRecDepth 100000 in
theorem specBig_any (n:Int) (m:Nat) (w:World) (h1:1≤m) (h4:m≤4) (hn:0≤n) (hp:n≤pow8 m - 1) (hn2:n≤4294967295):
  Calls Try.prog 53 #[.int .i64 n, .int .i64 m] w (MadeN m w):=by
 obtain ⟨i0,hi,hz0,hz1,hz2⟩:=info_parts Try.info_u8
 have hin1:inB (m:Int) 1 4=true:=inB_true (by omega) (by omega)
 have hin2:inB n 0 (pow8 m - 1)=true:=inB_true hn hp
 have hpb:pow8 m≤4294967296∧256≤pow8 m:=by unfold pow8;repeat' split <;> omega
 go_enter Try.func53,Try.ntmps53
 go_wp2_with fail
 refine (l1In_any _ _ _ _).mono ?_
 rintro e w1 ⟨rfl,rfl⟩
 rw [hin1]
 go_wp2_with fail
 refine (l2Power_any _ _ (by omega) (by omega)).mono ?_
 rintro e w1 ⟨rfl,rfl⟩
 have hpw:IntKind.i64.wrap (pow8 m - 1)=pow8 m - 1:=IntWalk.i64_in _ (by omega)
 go_wp2_with fail
 refine (l1In_any _ _ _ _).mono ?_
 rintro e w1 ⟨rfl,rfl⟩
 rw [hin2]
 go_wp2
 go_loopw [5,6] (fun o i wr=> ∃xs:List UInt8,xs.length≤m∧i= .int .i64 ((m:Int) - 1 - xs.length)∧wr.ownsRow w.heap.size 5 1 o xs.length (u8s xs)∧Below w.heap.size w wr) (fun _ i _=> (intOf i+1).toNat)
 case atStart=> exact ⟨[],Nat.zero_le _,by simp,own_empty _ _ _,(Below.refl _ _).alloc (Nat.le_refl _) _⟩
 case round=>
  obtain ⟨xs,hk,rfl,hown,hb⟩:=hrel
  by_cases hlt:xs.length < m
  ·have hsz:=hb.size
   have hOW:=Lib.hid hown
   have hBB:=Lib.hid hb
   clear hown hb
   obtain ⟨j,hj⟩:∃j:Nat,(m:Int) - 1 - xs.length=j:=⟨m - 1 - xs.length,by omega⟩
   rw [hj]
   have hj4:j≤3:=by omega
   obtain ⟨z,hzq⟩:∃z:Int,z=n / 2 ^ (8*j) % 256:=⟨_,rfl⟩
   have hx0:0≤z:=by rw [hzq];omega
   have hx1:z≤255:=by rw [hzq];omega
   go_wp2_with (at_builtin;rw [←hzq];refine wpList_app _ rfl (.tmp 26) (.tmp 32) 22 rfl w.heap.size 5 i0 (.int .u8 0) 1 1 Try.underlying22 hi hz0 hz1 hz2 rfl (by decide) _ xs.length _ rfl (own_below hOW.out ((Below.refl _ _).alloc (Nat.le_refl _) _) (Nat.le_refl _)) _ 1 _ (u8s [UInt8.ofNat z.toNat]) rfl (slb_oneG hx0 hx1 rfl) (u8s_one _) (by omega) (by unfold maxLen;omega) (by simp;omega) ?_;intro v2 w2 own2 hg2 _)
   have hlt3:=hOW.out.lt
   rw [←u8s_append] at own2
   have H2:=Lib.hid (And.intro own2 ((hBB.out.alloc hsz _).grown hg2 (by simp;omega) fun k e=> (hlt3 k e).1))
   clear own2 hg2 hlt3 hOW hBB
   go_roundw
   case rel=> exact ⟨xs++ [UInt8.ofNat z.toNat],by simp;omega,by simp;omega,by simpa using H2.out.1,H2.out.2⟩
   case measure=> simp [intOf] <;> omega
  ·have hM:xs.length=m:=by omega
   have H2:=Lib.hid (And.intro hown hb)
   clear hown hb
   go_wp2
   go_ret
   exact ⟨_,xs,rfl,hM,H2.out.1,H2.out.2⟩
set_option maxHeartbeats 1000000 in
set_option maxRecDepth 100000 in
theorem specLittle_any (n:Int) (m:Nat) (w:World) (h1:1≤m) (h4:m≤4) (hn:0≤n) (hp:n≤pow8 m - 1) (hn2:n≤4294967295):
  Calls Try.prog 52 #[.int .i64 n, .int .i64 m] w (MadeN m w):=by
 obtain ⟨i0,hi,hz0,hz1,hz2⟩:=info_parts Try.info_u8
 go_enter Try.func52,Try.ntmps52
 go_wp2_with fail
 refine (specBig_any n m w h1 h4 hn hp hn2).mono ?_
 rintro e w1 ⟨vb,bs,rfl,hbl,hbo,hb1⟩
 have hlt1:=hbo.lt
 have hsl:SlB w1 w1.heap.size vb bs:=Sl.of_own hbo
 obtain ⟨Ab,cb,rfl,hcb,hmb,hcell⟩:=hsl.one
 unfold maxLen at hmb
 have HC:=Lib.hid hcell
 have HB1:=Lib.hid hb1
 have hz1':=hb1.size
 clear hbo hsl hcell hb1 hlt1
 go_wp2
 go_loopw [6,7] (fun o i wr=> ∃xs:List UInt8,xs.length≤bs.length∧i= .int .i64 ((bs.length:Int) - 1 - xs.length)∧wr.ownsRow w1.heap.size 5 1 o xs.length (u8s xs)∧Below w1.heap.size w1 wr) (fun _ i _=> (intOf i+1).toNat)
 case atStart=> exact ⟨[],Nat.zero_le _,by simp;omega,own_empty _ _ _,(Below.refl _ _).alloc (Nat.le_refl _) _⟩
 case round=>
  obtain ⟨xs,hk,rfl,hown,hb⟩:=hrel
  by_cases hlt:xs.length < bs.length
  ·have hsz:=hb.size
   have hOW:=Lib.hid hown
   have hBB:=Lib.hid hb
   clear hown
   obtain ⟨j,hj⟩:∃j:Nat,(bs.length:Int) - 1 - xs.length=j:=⟨bs.length - 1 - xs.length,by omega⟩
   rw [hj]
   have hjb:j < bs.length:=by omega
   obtain ⟨bb,off,rfl,hbb,hd⟩:=HC.out j hjb
   have hd:=cell_at hb hbb hd
   have hx0:(0:Int)≤(bs[j].toNat:Int):=by omega
   have hx1:(bs[j].toNat:Int)≤255:=by have:=bs[j].toNat_lt;omega
   clear hb
   generalize bs[j]=y at*
   unfold u8v at hd
   go_wp2_with (at_builtin;refine wpList_app _ rfl (.tmp 19) (.tmp 24) 22 rfl w1.heap.size 5 i0 (.int .u8 0) 1 1 Try.underlying22 hi hz0 hz1 hz2 rfl (by decide) _ xs.length _ rfl (own_below hOW.out ((Below.refl _ _).alloc (Nat.le_refl _) _) (Nat.le_refl _)) _ 1 _ (u8s [UInt8.ofNat (y.toNat:Int).toNat]) rfl (slb_oneG hx0 hx1 rfl) (u8s_one _) (by omega) (by unfold maxLen;omega) (by simp;omega) ?_;intro v2 w2 own2 hg2 _)
   have hlt3:=hOW.out.lt
   rw [←u8s_append] at own2
   have H2:=Lib.hid (And.intro own2 ((hBB.out.alloc hsz _).grown hg2 (by simp;omega) fun k e=> (hlt3 k e).1))
   clear own2 hg2 hlt3 hOW hBB
   go_roundw
   case rel=> exact ⟨xs++ [UInt8.ofNat (y.toNat:Int).toNat],by simp;omega,by simp;omega,by simpa using H2.out.1,H2.out.2⟩
   case measure=> simp [intOf] <;> omega
  ·have hM:xs.length=bs.length:=by omega
   have H2:=Lib.hid (And.intro (own_base hown hz1') (below_step hb HB1.out))
   clear hown hb
   go_wp2
   go_ret
   exact ⟨_,xs,rfl,by omega,H2.out.1,H2.out.2⟩
set_option maxHeartbeats 1000000 in
set_option maxRecDepth 100000 in
theorem l8Integer_any (r:RM) (n:Int) (B:Nat) (w:World) (h:r.rd w B) (h1:1≤r.d.size) (h4:r.d.size≤4) (hn:0≤n) (hp:n≤pow8 r.d.size - 1):
  Calls Try.prog 45 #[rmV r, .int .i64 n] w (MadeN r.d.size.toNat w):=by
 have hpb:pow8 r.d.size≤4294967296:=by unfold pow8;repeat' split <;> omega
 have hn2:n≤4294967295:=by omega
 obtain ⟨m,hm⟩:=Int.eq_ofNat_of_zero_le (show 0≤r.d.size by omega)
 have hBG:∀W,Below w.heap.size w W→Calls Try.prog 53 #[.int .i64 n, .int .i64 r.d.size] W (MadeN r.d.size.toNat W):=fun W _=> by
  rw [hm] at hp ⊢
  exact specBig_any n m W (by omega) (by omega) hn hp hn2
 have hLT:∀W,Below w.heap.size w W→Calls Try.prog 52 #[.int .i64 n, .int .i64 r.d.size] W (MadeN r.d.size.toNat W):=fun W _=> by
  rw [hm] at hp ⊢
  exact specLittle_any n m W (by omega) (by omega) hn hp hn2
 obtain ⟨Ab,cb,eb, -⟩:=h.b.open_
 obtain ⟨An,cn,en, -⟩:=h.n.one
 obtain ⟨At,ct,et, -⟩:=h.t.one
 obtain ⟨Ak,ck,ek, -⟩:=h.k.one
 unfold rmV
 rw [eb,en,et,ek]
 have HBG:=Lib.hid hBG
 have HLT:=Lib.hid hLT
 have hb:=Below.allocW w (.cells #[.string r.d.name, .int .i64 r.d.kind, .int .i64 r.d.size, .bool r.d.little, .slice Ab r.d.bytes.length cb, .slice An r.d.names.length cn, .slice At r.d.tags.length ct, .slice Ak r.d.kids.length ck] 38) (Nat.le_refl _)
 have HBL:=Lib.hid hb
 clear hBG hLT hb hm hp h eb en et ek
 cases hl:r.d.little
 ·go_enter Try.func45,Try.ntmps45
  rw [hl] at HBL
  go_wp2_with fail
  refine (HBG.out _ HBL.out).mono ?_
  rintro e w1 ⟨u,xs,rfl,hx,ho,hb1⟩
  have HF:=Lib.hid (And.intro (own_base ho HBL.out.size) (below_step hb1 HBL.out))
  clear ho hb1
  go_wp2
  go_ret
  exact ⟨u,xs,rfl,hx,HF.out.1,HF.out.2⟩
 ·go_enter Try.func45,Try.ntmps45
  rw [hl] at HBL
  go_wp2_with fail
  refine (HLT.out _ HBL.out).mono ?_
  rintro e w1 ⟨u,xs,rfl,hx,ho,hb1⟩
  have HF:=Lib.hid (And.intro (own_base ho HBL.out.size) (below_step hb1 HBL.out))
  clear ho hb1
  go_wp2
  go_ret
  exact ⟨u,xs,rfl,hx,HF.out.1,HF.out.2⟩
end Go.Proofs.Yteldgdelmaeokaa
namespace Go.Proofs.Yteldgdelmaeokaa
open Go.RowKit
set_option maxHeartbeats 1000000 in
set_option maxRecDepth 100000 in
theorem specSum_any (v:Value) (l:List UInt8) (B:Nat) (w:World) (h:SlB w B v l) (hB:B≤w.heap.size):
  Calls Try.prog 46 #[v] w fun e w'=> (∃x:Int,e= .returned (.int .i64 x)∧0≤x∧x≤255)∧w=w':=by
 obtain ⟨A,c,rfl,hc,hm,hcell⟩:=h.one
 unfold maxLen at hm
 have HC:=Lib.hid hcell
 clear hcell h
 go_enter Try.func46,Try.ntmps46
 go_wp2
 go_loopw [3,4] (fun s i wr=> ∃(k:Nat) (x:Int),k≤l.length∧i= .int .i64 k∧s= .int .i64 x∧0≤x∧x≤255∧wr=w) (fun _ i _=> l.length - (intOf i).toNat)
 case atStart=> exact ⟨0,0,Nat.zero_le _,rfl,rfl,by omega,by omega,rfl⟩
 case round=>
  obtain ⟨k,x,hk,rfl,rfl,hx0,hx1,rfl⟩:=hrel
  by_cases hlt:k < l.length
  ·obtain ⟨bb,off,rfl,hbb,hd⟩:=HC.out k hlt
   have hy0:(0:Int)≤(l[k].toNat:Int):=by omega
   have hy1:(l[k].toNat:Int)≤255:=by have:=l[k].toNat_lt;omega
   unfold u8v at hd
   generalize l[k]=y at*
   go_wp2
   go_roundw
   case rel=> exact ⟨k+1,(x+(y.toNat:Int)) % 256,by omega,by go_num,by simp,by omega,by omega,by trivial⟩
   case measure=> simp [intOf];omega
  ·go_wp2
   go_ret
   exact ⟨⟨x,rfl,hx0,hx1⟩,by trivial⟩
end Go.Proofs.Yteldgdelmaeokaa
namespace Go.Proofs.Yteldgdelmaeokaa
open Go.RowKit
theorem fld_at {D:List RuleD} (hD:validD D=true) {k:Nat} (hk:k < D.length) (h0:0 < D[k].kids.length) (hl:0≤limitOf D (kid D[k] 0)):
  ∃q:Nat,∃hq:q < k,D[k].kids[0]=q∧szOf D (kid D[k] 0)=(D[q]'(by omega)).size∧1≤(D[q]'(by omega)).size∧(D[q]'(by omega)).size≤4∧limitOf D (kid D[k] 0)=pow8 (D[q]'(by omega)).size - 1:=by
 obtain ⟨q,e,hq⟩:=ruleOk_kids (validD_at hD hk) h0
 refine ⟨q,hq,e,?_⟩
 rw [kid_at _ _ h0,e] at hl ⊢
 have hs:szOf D (q:Int)=(D[q]'(by omega)).size:=by unfold szOf;rw [ruleAt_at (show q < D.length by omega)]
 have hm:limitOf D (q:Int)=limitR (D[q]'(by omega)):=by unfold limitOf;rw [ruleAt_at (show q < D.length by omega)]
 rw [hm] at hl ⊢
 unfold limitR at hl ⊢
 split at hl
 ·rename_i h
  rw [if_pos h]
  exact ⟨hs,h.2.1,h.2.2,rfl⟩
 ·omega
theorem tag_le {D:List RuleD} (hD:validD D=true) {k:Nat} (hk:k < D.length) (q:D[k].kind=7) {n:Int} (ho:0≤itemR D[k] n 0):0≤n∧n≤limitOf D (kid D[k] 0):=by
 have h:=ruleOk_kind (validD_at hD hk)
 generalize D[k]=r at*
 unfold kindR at h
 rw [q] at h
 simp only [show ¬((7:Int)=1) by decide,show ¬((7:Int)=2) by decide,show ¬((7:Int)=3) by decide,show ¬((7:Int)=4) by decide,show ¬((7:Int)=5) by decide,show ¬((7:Int)=6) by decide,if_false,if_true,Bool.and_eq_true] at h
 have h2:=h.2
 unfold okTags at h2
 simp only [Bool.and_eq_true,beq_iff_eq] at h2
 rcases tagAt_bd r n with e|⟨t,ht,e,e2⟩
 ·rw [itemR_7' q e] at ho;omega
 ·have h3:=(allTo_iff _ _).1 h2.2.2 t ht
  unfold tgAt at h3
  rw [List.getElem?_eq_getElem ht,e2] at h3
  simp only [Bool.and_eq_true] at h3
  have:=inB_iff.1 h3.1
  omega
theorem fldL {L:List RM} (hv:validD (L.map RM.d)=true) {k:Nat} (hk:k < L.length) (h0:0 < L[k].d.kids.length) (hl:0≤limitOf (L.map RM.d) (kid L[k].d 0)):
  ∃q:Nat,∃hq:q < L.length,q < k∧L[k].d.kids[0]=q∧szOf (L.map RM.d) (kid L[k].d 0)=L[q].d.size∧1≤L[q].d.size∧L[q].d.size≤4∧limitOf (L.map RM.d) (kid L[k].d 0)=pow8 L[q].d.size - 1:=by
 have:=fld_at hv (k:=k) (by rw [List.length_map];exact hk)
 simp only [List.getElem_map] at this
 obtain ⟨q,hq,e⟩:=this h0 hl
 exact ⟨q,by omega,hq,e⟩
theorem fld_cells {w:World} {B:Nat} {v A4:_} {L:List RM} (h:SlD w B v L) {k c4:Nat} (hk:k < L.length) (h0:0 < L[k].d.kids.length) (e4:L[k].vk= .slice A4 L[k].d.kids.length c4):
  ∃bk ok,A4=some ⟨bk,ok,none⟩∧bk < B∧w.cell? ⟨bk,ok,none⟩=some (.int .i64 L[k].d.kids[0]):=by
 obtain ⟨b,off,c,e, -, -,hb,hc⟩:=SlI.all (h.2 _ (List.getElem_mem hk)).k h0
 rw [e4] at e
 simp only [Value.slice.injEq] at e
 exact ⟨b,off,e.1,hb,hc 0 h0⟩
theorem own_oneP (w:World) (e:TypeId) (x:Value):(w.alloc (.cells #[x] e)).ownsRow w.heap.size e 1 (.slice (some ⟨w.heap.size,0,none⟩) 1 1) 1 [x]:=
 ⟨rfl, .inr ⟨w.heap.size,1, #[x],rfl,Nat.le_refl _,heap_alloc_new w _,Nat.le_refl _,by simp [maxLen],rfl,rfl⟩⟩
theorem bytes_10 {D:List RuleD} {r:RuleD} (h:kindR D r=true) (q:r.kind=10):r.bytes.length=1:=by
 unfold kindR at h
 rw [q] at h
 simp only [show ¬((10:Int)=1) by decide,show ¬((10:Int)=2) by decide,show ¬((10:Int)=3) by decide,show ¬((10:Int)=4) by decide,show ¬((10:Int)=5) by decide,show ¬((10:Int)=6) by decide,show ¬((10:Int)=7) by decide,show ¬((10:Int)=8∨(10:Int)=9) by decide,if_false,if_true,Bool.and_eq_true,beq_iff_eq] at h
 omega
theorem escN_snoc (t c:UInt8):∀l:List UInt8,escN t (l++ [c])=escN t l+(if c=t∨c=92 then 2 else 1)
 | []=> by simp [escN]
 |x::l=> by rw [List.cons_append,escN,escN,escN_snoc t c l];omega
theorem escN_take {t:UInt8} {l:List UInt8} {m:Nat} (hm:m < l.length):escN t (l.take (m+1))=escN t (l.take m)+(if l[m]=t∨l[m]=92 then 2 else 1):=by
 rw [List.take_succ_eq_append_getElem hm,escN_snoc]
end Go.Proofs.Yteldgdelmaeokaa
