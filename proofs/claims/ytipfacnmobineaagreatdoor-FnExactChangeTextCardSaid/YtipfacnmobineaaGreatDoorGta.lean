/- Out of TxP, TxH, TxL: the walks and plain laws that the claim needs. No condition but those that each theorem names. -/
import Derived.Test.YtipfacnmobineaaGreatDoorGh
import Derived.Test.YtipfacnmobineaaGreatDoorGa
import Derived.Test.YtipfacnmobineaaGreatDoorGb
import Derived.Test.YtipfacnmobineaaGreatDoorGn
import Derived.WalkSpells
import Derived.WalkLawsBesides
import Derived.BigQuiet
import Derived.Deep.DeepCutAuto
import Derived.Deep.CutRange
import Derived.Deep.RegionHeld3
set_option linter.unusedSimpArgs false
set_option linter.unusedVariables false
namespace Go.Proofs.YtipfacnmobineaaGreatDoor
open Go.RowKit
def hexc (n:Nat):UInt8:=([48,49,50,51,52,53,54,55,56,57,97,98,99,100,101,102]:List UInt8).getD n 0
def hexL:List UInt8→List UInt8
 | []=> []
 |b::l=> hexc (b.toNat / 16)::hexc (b.toNat % 16)::hexL l
theorem hexL_length:∀l:List UInt8,(hexL l).length=2*l.length
 | []=> rfl
 |b::l=> by rw [hexL,List.length_cons,List.length_cons,hexL_length l,List.length_cons];omega
theorem hexL_append (l l':List UInt8):hexL (l++l')=hexL l++hexL l':=by
 induction l with
 |nil=> rfl
 |cons b l ih=> rw [List.cons_append,hexL,hexL,ih];rfl
def inT (r:RuleD) (ts:List ByteArray):Nat→ByteArray
 |0=> ⟨#[]⟩
 |k+1=>
  let s:=if 0 < k then inT r ts k++⟨#[44]⟩ else inT r ts k
  let s:=if r.kind=6 then s++r.names.getD k ⟨#[]⟩++⟨#[58]⟩ else s
  s++ts.getD k ⟨#[]⟩
def wrapT (k n:Int) (b:List UInt8) (ni:Nat) (s:ByteArray):ByteArray:=
 if k=1 then str (fmtI n)
 else if k=2 then ⟨#[33]⟩
 else if k=5 then ⟨#[91]⟩++s++⟨#[93]⟩
 else if k=6 then ⟨#[123]⟩++s++⟨#[125]⟩
 else if k=7 then str (fmtI n)++⟨#[60]⟩++s++⟨#[62]⟩
 else if k=8 then (if ni=0 then ⟨#[45]⟩ else ⟨#[63]⟩++s)
 else if k=9 then ⟨#[40]⟩++s++⟨#[41]⟩
 else ⟨#[120]⟩++str (hexL b)
mutual
def textV (D:List RuleD):Int→Val→ByteArray
 |k, .mk n b l=> (match ruleAt D k with|none=> ⟨#[]⟩|some r=> wrapT r.kind n b l.length (inT r (textsV D r n 0 l) l.length))
def textsV (D:List RuleD) (r:RuleD) (n:Int):Nat→List Val→List ByteArray
 | _, []=> []
 |i,x::l=> textV D (itemR r n i) x::textsV D r n (i+1) l
end
theorem textsV_length (D:List RuleD) (r:RuleD) (n:Int):∀(l:List Val) (i:Nat),(textsV D r n i l).length=l.length
 | [],i=> by rw [textsV];rfl
 |x::l,i=> by rw [textsV,List.length_cons,textsV_length D r n l,List.length_cons]
theorem textsV_at (D:List RuleD) (r:RuleD) (n:Int):∀(l:List Val) (i j:Nat) (hj:j < l.length),(textsV D r n i l).getD j ⟨#[]⟩=textV D (itemR r n (i+j)) l[j]
 |x::l,i,0,hj=> by rw [textsV];rfl
 |x::l,i,j+1,hj=> by
  rw [textsV,List.getD_cons_succ,textsV_at D r n l (i+1) j (by simpa using hj),show i+1+j=i+(j+1) by omega]
  rfl
theorem textV_at {D:List RuleD} {k:Nat} (hk:k < D.length) (x:Val):textV D k x=wrapT D[k].kind x.n x.b x.items.length (inT D[k] (textsV D D[k] x.n 0 x.items) x.items.length):=by
 obtain ⟨n,b,l⟩:=x
 rw [textV]
 have:ruleAt D (k:Int)=some D[k]:=by unfold ruleAt;simp [hk]
 rw [this]
 rfl
def fmtV (D:List RuleD) (k:Int) (x:Val):ByteArray:=if knownD D k && validV D k x then textV D k x else ⟨#[]⟩
def sumTo (f:Nat→Nat):Nat→Nat
 |0=> 0
 |k+1=> sumTo f k+f k
theorem sumTo_cons (f:Nat→Nat):∀k,sumTo f (k+1)=f 0+sumTo (fun j=> f (j+1)) k
 |0=> by rw [sumTo,sumTo,sumTo];omega
 |k+1=> by rw [sumTo,sumTo_cons f k,sumTo];omega
theorem sumTo_le {f g:Nat→Nat}:∀k,(∀j,j < k→f j≤g j)→sumTo f k≤sumTo g k
 |0,_=> Nat.le_refl _
 |k+1,h=> by have:=sumTo_le k fun j hj=> h j (by omega);have:=h k (by omega);rw [sumTo,sumTo];omega
theorem sumTo_names:∀(l:List ByteArray) (k:Nat),sumTo (fun j=> (l.getD j ⟨#[]⟩).size) k≤total l
 | [],k=> by
  induction k with
  |zero=> exact Nat.zero_le _
  |succ k ih=>
   rw [sumTo]
   have e:(([]:List ByteArray).getD k ⟨#[]⟩).size=0:=rfl
   omega
 |s::l,0=> Nat.zero_le _
 |s::l,k+1=> by
  rw [sumTo_cons,total]
  have:=sumTo_names l k
  simp only [List.getD_cons_zero,List.getD_cons_succ]
  omega
theorem inT_size (r:RuleD) (ts:List ByteArray):∀k,(inT r ts k).size≤2*k+sumTo (fun j=> (r.names.getD j ⟨#[]⟩).size) k+sumTo (fun j=> (ts.getD j ⟨#[]⟩).size) k
 |0=> Nat.zero_le _
 |k+1=> by
  have ih:=inT_size r ts k
  rw [inT,sumTo,sumTo]
  have e1:(⟨#[44]⟩:ByteArray).size=1:=rfl
  have e2:(⟨#[58]⟩:ByteArray).size=1:=rfl
  split <;> split <;> simp only [ByteArray.size_append,e1,e2] <;> omega
theorem own_n {D:List RuleD} {r:RuleD} {n:Int} {nb ni:Nat} (hr:r.ok) (h:ownB D r n nb ni=true):InI64 n:=by
 have h0:n=0→InI64 n:=fun e=> by subst e;constructor <;> omega
 unfold ownB at h
 split at h
 ·simp only [Bool.and_eq_true,inB,decide_eq_true_eq] at h
  have h1:pow8 r.size≤4294967296:=by unfold pow8;(repeat' split) <;> omega
  have:=h.1
  constructor <;> omega
 ·split at h
  ·simp only [Bool.and_eq_true,decide_eq_true_eq] at h;exact h0 h.1
  ·split at h
   ·simp only [Bool.and_eq_true,decide_eq_true_eq] at h;exact h0 h.1
   ·split at h
    ·simp only [Bool.and_eq_true,decide_eq_true_eq] at h;exact h0 h.1
    ·split at h
     ·simp only [Bool.and_eq_true,decide_eq_true_eq] at h;exact h0 h.1
     ·split at h
      ·simp only [Bool.and_eq_true,decide_eq_true_eq] at h;exact h0 h.1
      ·split at h
       ·simp only [Bool.and_eq_true,decide_eq_true_eq] at h;exact h0 h.1
       ·split at h
        ·rename_i h7
         simp only [Bool.and_eq_true,decide_eq_true_eq] at h
         have h2:=h.2.2
         rcases tagAt_bd r n with e|⟨k,hk,e,hn⟩
         ·unfold itemR at h2
          rw [if_neg (by omega),if_neg (by omega),if_pos h7,e,if_pos (by omega)] at h2
          omega
         ·rw [←hn];exact hr.tags _ (List.getElem_mem hk)
        ·split at h <;> (simp only [Bool.and_eq_true,decide_eq_true_eq] at h;exact h0 h.1)
theorem validV_nat {D:List RuleD} {i:Int} {x:Val} (h:validV D i x=true):∃q:Nat,q < D.length∧i=q:=by
 by_cases hi:0≤i∧i < D.length
 ·exact ⟨i.toNat,by omega,by omega⟩
 ·rw [validV_mk,ruleAt_none (by omega)] at h
  cases h
theorem sum_items {f:Nat→Nat} {C:Nat}:∀(l:List Val),(∀j (hj:j < l.length),f j+2≤C*(1+l[j].size))→sumTo f l.length+2*l.length≤C*Val.sizes l:=by
 intro l
 induction l generalizing f with
 |nil=> intro _;rw [Val.sizes_nil];simp [sumTo]
 |cons x l ih=>
  intro h
  have h0:=h 0 (by simp)
  have h1:=ih (f:=fun j=> f (j+1)) fun j hj=> h (j+1) (by simpa using hj)
  rw [List.length_cons,sumTo_cons,Val.sizes_cons]
  simp only [List.getElem_cons_zero] at h0
  have h2:C*(1+x.size+Val.sizes l)=C*(1+x.size)+C*Val.sizes l:=Nat.mul_add ..
  omega
theorem textV_size {D:List RuleD} (hr:∀r∈D,r.ok) (sm:∀r∈D,total r.names≤1048576) (x:Val):∀(k:Nat),k < D.length→validV D k x=true→(textV D k x).size+2≤4194304*(1+x.size):=by
 induction x using Val.induct with
 |h n b l ih=>
  intro k hk hv
  have hv2:=hv
  rw [validV_at hk] at hv2
  rw [textV_at hk]
  simp only [Val.n_mk,Val.b_mk,Val.items_mk,Bool.and_eq_true] at hv2 ⊢
  obtain ⟨ho,hvs⟩:=hv2
  have hn:=fmtI_size n (own_n (hr _ (List.getElem_mem hk)) ho)
  have hsm:=sm _ (List.getElem_mem hk)
  have h1:=inT_size D[k] (textsV D D[k] n 0 l) l.length
  have h2:=sumTo_names D[k].names l.length
  have h3:sumTo (fun j=> ((textsV D D[k] n 0 l).getD j ⟨#[]⟩).size) l.length+2*l.length≤4194304*Val.sizes l:=by
   refine sum_items l fun j hj=> ?_
   rw [textsV_at D D[k] n l 0 j hj,Nat.zero_add]
   have hvj:=validVs_at hvs hj
   obtain ⟨q,hq,e⟩:=validV_nat hvj
   rw [e] at hvj ⊢
   exact ih _ (List.getElem_mem hj) q hq hvj
  rw [Val.size_mk]
  have hx:=hexL_length b
  have e1:(⟨#[33]⟩:ByteArray).size=1:=rfl
  have e2:(⟨#[91]⟩:ByteArray).size=1:=rfl
  have e3:(⟨#[93]⟩:ByteArray).size=1:=rfl
  have e4:(⟨#[123]⟩:ByteArray).size=1:=rfl
  have e5:(⟨#[125]⟩:ByteArray).size=1:=rfl
  have e6:(⟨#[60]⟩:ByteArray).size=1:=rfl
  have e7:(⟨#[62]⟩:ByteArray).size=1:=rfl
  have e8:(⟨#[45]⟩:ByteArray).size=1:=rfl
  have e9:(⟨#[63]⟩:ByteArray).size=1:=rfl
  have ea:(⟨#[40]⟩:ByteArray).size=1:=rfl
  have eb:(⟨#[41]⟩:ByteArray).size=1:=rfl
  have ec:(⟨#[120]⟩:ByteArray).size=1:=rfl
  unfold wrapT
  (repeat' split) <;> simp only [ByteArray.size_append,str_size,e1,e2,e3,e4,e5,e6,e7,e8,e9,ea,eb,ec,hx] at hn ⊢ <;> omega
end Go.Proofs.YtipfacnmobineaaGreatDoor
namespace Go.Proofs.YtipfacnmobineaaGreatDoor
open Go.RowKit
theorem str_app (a b:List UInt8):str a++str b=str (a++b):=by
 apply ByteArray.ext
 simp [str,ByteArray.data_append]
theorem ext_hex (q:Nat) (h:q < 16):(⟨#[48,49,50,51,52,53,54,55,56,57,97,98,99,100,101,102]⟩:ByteArray).extract q (q+1)=str [hexc q]:=by
 have:∀q:Fin 16,(⟨#[48,49,50,51,52,53,54,55,56,57,97,98,99,100,101,102]⟩:ByteArray).extract q (q+1)=str [hexc q]:=by decide
 exact this ⟨q,h⟩
set_option maxHeartbeats 1000000 in
set_option maxRecDepth 100000 in
theorem specHex_any (v:Value) (l:List UInt8) (B:Nat) (w:World) (h:SlB w B v l) (hB:B≤w.heap.size) (hl:l.length≤4194304):
  Calls Tryz.prog 92 #[v] w fun e w'=> e= .returned (.string (str (hexL l)))∧Below w.heap.size w w':=by
 obtain ⟨A,c,rfl,hc,hm,hcell⟩:=h.open_
 unfold maxLen at hm
 clear h
 go_enter Tryz.func92,Tryz.ntmps92
 go_wp2
 go_loopw [4,5,6,7] (fun s i _ _ wr=> ∃(k:Nat) (S:ByteArray),k≤l.length∧i= .int .i64 k∧s= .string S∧Hid (S=str (hexL (l.take k)))∧Below w.heap.size w wr) (fun _ i _ _ _=> l.length - (intOf i).toNat)
 case atStart=> exact ⟨0,_,Nat.zero_le _,rfl,rfl,Lib.hid rfl,Below.refl _ _⟩
 case round=>
  obtain ⟨k,S,hk,rfl,rfl,HS,hb⟩:=hrel
  by_cases hlt:k < l.length
  ·obtain ⟨b,off,rfl,hbB,hc0⟩:=hcell k hlt
   have hd0:wr.cell? ⟨b,off+k,none⟩=some (.int .u8 (l[k].toNat:Int)):=((hb.mono hB).cell (p:=⟨b,off+k,none⟩) hbB).trans hc0
   have hsz:S.size≤16777216:=by
    rw [HS.out,str_size,hexL_length,List.length_take];omega
   have hb1:=l[k].toNat_lt
   have HB:=Lib.hid hb
   have HN:=Lib.hid (show hexL (l.take (k+1))=hexL (l.take k)++ [hexc (l[k].toNat / 16),hexc (l[k].toNat % 16)] by rw [List.take_succ_eq_append_getElem hlt,hexL_append];rfl)
   generalize l[k].toNat=a at*
   have hq:(a:Int) / 16=((a / 16:Nat):Int):=rfl
   have hp:(a:Int) % 16=((a % 16:Nat):Int):=rfl
   have hq1:a / 16 < 16:=by omega
   have hp1:a % 16 < 16:=by omega
   generalize a / 16=q at*
   generalize a % 16=p at*
   clear hcell hc0 hb
   go_wp2_with fail
   go_quiet (fail)
   rw [ext_hex q hq1,ext_hex p hp1]
   have HR:=Lib.hid (show S++str [hexc q]++str [hexc p]=str (hexL (l.take (k+1))) by rw [HN.out,HS.out];simp [str_app])
   go_wp2
   go_roundw
   case rel=> exact ⟨k+1,_,by omega,by go_num,rfl,Lib.hid HR.out,below_drewN HB.out _⟩
   case measure=> simp [intOf];omega
  ·have hkl:k=l.length:=by omega
   have HR:=Lib.hid (show S=str (hexL l) by rw [HS.out,hkl,List.take_length])
   clear hcell
   go_wp2
   go_ret
   exact ⟨ret_str HR.out,hb⟩
theorem hexAt (q:Nat) (h:q < 16) (h':q < (⟨#[48,49,50,51,52,53,54,55,56,57,97,98,99,100,101,102]⟩:ByteArray).size):(⟨#[48,49,50,51,52,53,54,55,56,57,97,98,99,100,101,102]⟩:ByteArray)[q]=hexc q:=by
 have:∀q:Fin 16,(⟨#[48,49,50,51,52,53,54,55,56,57,97,98,99,100,101,102]⟩:ByteArray)[q.val]'(by have:=q.isLt;exact this)=hexc q.val:=by decide
 exact this ⟨q,h⟩
theorem own_lit2 {W:World} {a b:Value} {T:TypeId} {base g:Nat} (hg:g=W.heap.size) (hb:base≤g):(W.alloc (.cells #[a,b] T)).ownsRow base T 1 (.slice (some ⟨g,0,none⟩) 2 2) 2 [a,b]:=by
 subst hg
 exact ⟨by simp, .inr ⟨W.heap.size,2, #[a,b],rfl,hb,heap_alloc_new W _,Nat.le_refl _,by unfold maxLen;omega,by simp,by simp⟩⟩
set_option maxRecDepth 100000 in
theorem and_15 (a:Nat) (h:a < 256):bits .and .u8 (a:Int) 15=((a % 16:Nat):Int):=by
 have:∀a:Fin 256,bits .and .u8 ((a.val:Nat):Int) 15=((a.val % 16:Nat):Int):=by decide
 exact this ⟨a,h⟩
set_option maxHeartbeats 2000000 in
set_option maxRecDepth 100000 in
theorem implHex_any (v:Value) (l:List UInt8) (B:Nat) (w:World) (h:SlB w B v l) (hB:B≤w.heap.size) (hl:l.length≤4194304):
  Calls Tryz.prog 98 #[v] w fun e w'=> e= .returned (.string (str (hexL l)))∧Below w.heap.size w w':=by
 obtain ⟨i0,hi,hz0,hz1,hz2⟩:=info_parts Tryz.info_u8
 obtain ⟨A,c,rfl,hc,hm,hcell⟩:=h.open_
 unfold maxLen at hm
 clear h
 go_enter Tryz.func98,Tryz.ntmps98
 go_upto_region 2 with (at_make;refine wpList_plain rfl (fun K hK=> ?_);refine wp_make_own _ _ _ 25 rfl w.heap.size 5 i0 (.int .u8 0) 1 Tryz.underlying25 hi hz0 hz1 .i64 .i64 _ (2*l.length) rfl rfl (by go_num) (by rw [hz2];omega) (by unfold maxLen;omega) (Nat.le_refl _) ?_;intro w1 hown hg)
 have hb1:Below w.heap.size w w1:=below_grown hg (Nat.le_refl _) (by intro k hk;cases hk)
 have HI:=Lib.hid (And.intro hi (And.intro hz0 (And.intro hz1 hz2)))
 clear hg hi hz0 hz1 hz2
 go_wp2_with fail
 go_loopw [3,12] (fun s i wr=> ∃k:Nat,k≤l.length∧i= .int .i64 k∧wr.ownsRow w.heap.size 5 1 s (2*k) (u8s (hexL (l.take k)))∧Below w.heap.size w wr) (fun _ i _=> l.length - (intOf i).toNat)
 case atStart=> exact ⟨0,Nat.zero_le _,rfl,hown,hb1⟩
 case round=>
  clear hown hb1
  obtain ⟨k,hk,rfl,hown,hb⟩:=hrel
  obtain ⟨As,cs,rfl⟩:=own_slice hown
  by_cases hlt:k < l.length
  ·obtain ⟨b,off,rfl,hbB,hc0⟩:=hcell k hlt
   have hd0:wr.cell? ⟨b,off+k,none⟩=some (.int .u8 (l[k].toNat:Int)):=((hb.mono hB).cell (p:=⟨b,off+k,none⟩) hbB).trans hc0
   have ha1:=l[k].toNat_lt
   have HN:=Lib.hid (show hexL (l.take (k+1))=hexL (l.take k)++ [hexc (l[k].toNat / 16),hexc (l[k].toNat % 16)] by rw [List.take_succ_eq_append_getElem hlt,hexL_append];rfl)
   generalize l[k].toNat=a at*
   clear hcell hc0
   have hq:(a:Int) / 16=((a / 16:Nat):Int):=rfl
   have hp:=and_15 a ha1
   have hq1:a / 16 < 16:=by omega
   have hp1:a % 16 < 16:=by omega
   go_upto_region 5 with fail
   generalize a / 16=q at*
   generalize a % 16=p at*
   have hq2:(q:Int) < 16:=by omega
   have hp2:(p:Int) < 16:=by omega
   have bq:=(Below.refl wr.heap.size wr).drew
   refine wp_region_held_drew (S:=(fun _=> True)) (by kernel_rfl) ?_ (fun hHeld=> ?_)
   ·(try dsimp only);(try trivial)
   refine rgTake 0 (some 16) hHeld _ ?_;try go_frame
   refine rgTake 1 (some 17) hHeld _ ?_;try go_frame
   refine rgTake 2 (some 18) hHeld _ ?_;try go_frame
   refine rgTake 3 (some 19) hHeld _ ?_;try go_frame
   refine rgTake 4 (some 20) hHeld _ ?_;try go_frame
   refine rgTake 5 (some 21) hHeld _ ?_;try go_frame
   refine rgTake 6 (some 22) hHeld _ ?_;try go_frame
   refine rgStep 7 (fun K hK=> ?_)
   (try go_simp)
   simp only [hexAt q hq1,hexAt p hp1];obtain ⟨X1,hX1⟩:∃V,V=(wr.alloc (.cells #[.int .u8 ((hexc q).toNat:Int), .int .u8 ((hexc p).toNat:Int)] 5)).drew:=⟨_,rfl⟩;rw [←hX1];have hlit:X1.ownsRow wr.heap.size 5 1 (.slice (some ⟨wr.heap.size,0,none⟩) 2 2) 2 (u8s [hexc q,hexc p]):=(by rw [hX1];exact own_lit2 (W:=wr) rfl (Nat.le_refl _));have bq:Below wr.heap.size wr X1:=(by rw [hX1];exact ((Below.refl wr.heap.size wr).alloc (Nat.le_refl _) _).drew);have hv:=own_below hown bq (Nat.le_refl _);have hbX:=hb.trans (bq.mono hb.size);clear hX1
   refine hK.out _ _ ?_ (fun hHeld=> ?_)
   ·(try dsimp only);(try trivial)
   clear hK K
   try go_frame
   refine rgStep 8 (fun K hK=> ?_)
   refine wp_app _ (.tmp 16) (.tmp 23) 25 rfl w.heap.size 5 i0 (.int .u8 0) 1 1 Tryz.underlying25 HI.out.1 HI.out.2.1 HI.out.2.2.1 HI.out.2.2.2 rfl (by decide) _ (2*k) _ rfl (by exact hv) X1.heap.size 2 _ (u8s [hexc q,hexc p]) rfl (by exact Sl.of_own hlit) (by intro u hu;simp [u8s,u8v] at hu;rcases hu with rfl|rfl <;> rfl) (by omega) (by unfold maxLen;omega) hbX.size ?_;intro v5 X5 hv5 hg5 hvv5;have hbX:=hbX.grown hg5 hbX.size (by intro q hq;exact (hv.lt q hq).1);clear hg5 hvv5 hv hlit
   refine hK.out _ _ ?_ (fun hHeld=> ?_)
   ·(try dsimp only);(try trivial)
   clear hK K
   try go_frame
   refine rgTake 9 (some 3) hHeld _ ?_;try go_frame
   refine wpAnyH_done (by kernel_rfl) ?_ _
   have HR:=Lib.hid (show X5.ownsRow w.heap.size 5 1 v5 (2*(k+1)) (u8s (hexL (l.take (k+1)))) by
    rw [HN.out]
    have:u8s (hexL (l.take k)++ [hexc q,hexc p])=u8s (hexL (l.take k))++u8s [hexc q,hexc p]:=by simp [u8s]
    rw [this]
    exact hv5)
   have HB:=Lib.hid hbX
   clear hv5 hown hb hbX bq
   go_wp2
   go_roundw
   case rel=> exact ⟨k+1,by omega,by go_num,HR.out,HB.out⟩
   case measure=> simp [intOf];omega
  ·have hkl:k=l.length:=by omega
   rw [hkl,List.take_length] at hown
   have hlen:=hexL_length l
   have HC:(convert 25 9 (.slice As (2*l.length) cs)).run Tryz.prog wr= .ok (.string (str (hexL l))) wr:=by
    rcases hown.2 with ⟨e,h0⟩|⟨g,cap,cur,e, -, -, -, -, -, -⟩
    ·rw [e]
     have hnil:hexL l= []:=List.eq_nil_of_length_eq_zero (by omega)
     rw [hnil]
     exact run_convert_bytes_nil wr 25 5 Tryz.underlying25 Tryz.underlying5 0 0 9 Tryz.underlying9
    ·cases e
     have:=run_convert_bytes_back (P:=Tryz.prog) wr 25 9 5 ⟨g,0,none⟩ cs (hexL l) Tryz.underlying25 Tryz.underlying5 Tryz.underlying9 (fun j hj=> by
      have h1:=hown.cellAt j (by omega)
      have hadd:(⟨g,0,none⟩:Addr).add j=⟨g,j,none⟩:=by unfold Addr.add;split <;> simp_all
      rw [hadd,h1,u8s_getElem?,List.getElem?_eq_getElem hj]
      rfl)
     rw [hlen] at this
     exact this
   have HB:=Lib.hid hb
   clear hown hb hcell hlen
   subst hkl
   go_wp2
   go_ret
   exact ⟨rfl,HB.out⟩
end Go.Proofs.YtipfacnmobineaaGreatDoor
namespace Go.Proofs.YtipfacnmobineaaGreatDoor
open Go.RowKit
theorem kids_6 {D:List RuleD} {r:RuleD} (h:kindR D r=true) (hk:r.kind=6):r.kids.length=r.names.length:=by
 unfold kindR at h
 rw [hk] at h
 simp only [show ¬((6:Int)=1) by decide,show ¬((6:Int)=2) by decide,show ¬((6:Int)=3) by decide,show ¬((6:Int)=4) by decide,show ¬((6:Int)=5) by decide,if_false,if_true,Bool.and_eq_true] at h
 have h2:=h.1
 have:=plain_kids (by omega) h.1
 omega
theorem inT_bd {D:List RuleD} (hr:∀r∈D,r.ok) (sm:∀r∈D,total r.names≤1048576) {r:RuleD} (hrn:total r.names≤1048576) {n:Int} {l:List Val} (hvs:validVs D r n 0 l=true) {j:Nat} (hj:j≤l.length):(inT r (textsV D r n 0 l) j).size≤4194304*(1+Val.sizes l):=by
 have h1:=inT_size r (textsV D r n 0 l) j
 have h2:=sumTo_names r.names j
 have h3:sumTo (fun j=> ((textsV D r n 0 l).getD j ⟨#[]⟩).size) l.length+2*l.length≤4194304*Val.sizes l:=by
  refine sum_items l fun j hj=> ?_
  rw [textsV_at D r n l 0 j hj,Nat.zero_add]
  have hvj:=validVs_at hvs hj
  obtain ⟨q,hq,e⟩:=validV_nat hvj
  rw [e] at hvj ⊢
  exact textV_size hr sm _ q hq hvj
 have h4:∀(f:Nat→Nat) (a b:Nat),a≤b→sumTo f a≤sumTo f b:=fun f a b hab=> by
  induction b with
  |zero=> obtain rfl:a=0:=by omega
          exact Nat.le_refl _
  |succ b ih=>
   by_cases e:a=b+1
   ·subst e;exact Nat.le_refl _
   ·have:=ih (by omega);rw [sumTo];omega
 have h5:=h4 (fun j=> ((textsV D r n 0 l).getD j ⟨#[]⟩).size) j l.length hj
 omega
def TxC (x:VM):Prop:=∀(vD:Value) (l:List RM) (k B:Nat) (w:World),SlD w B vD l→B≤w.heap.size→(∀r∈l,r.d.ok)→(∀r∈l,r.d.small 1048576)→validD (l.map RM.d)=true→k < l.length→validV (l.map RM.d) k x.d=true→x.rd w B→x.d.size≤4194304→
 Calls Tryz.prog 70 #[.agg #[vD], .int .i64 k,vmV x] w fun e w'=> e= .returned (.string (textV (l.map RM.d) k x.d))∧Below w.heap.size w w'
set_option maxHeartbeats 4000000 in
set_option maxRecDepth 100000 in
theorem l10List_of (xn:Int) (xb:List UInt8) (xvb xvi:Value) (L:List VM) (ih:∀y∈L,TxC y) (vD:Value) (l:List RM) (k B:Nat) (w:World) (h:SlD w B vD l) (hB:B≤w.heap.size) (ok:∀r∈l,r.d.ok) (sm:∀r∈l,r.d.small 1048576) (hv:validD (l.map RM.d)=true) (hkl:k < l.length) (hval:validV (l.map RM.d) k (VM.mk xn xb xvb xvi L).d=true) (hx:(VM.mk xn xb xvb xvi L).rd w B) (hs:(VM.mk xn xb xvb xvi L).d.size≤4194304):
  Calls Tryz.prog 89 #[.agg #[vD],rmV l[k],vmV (.mk xn xb xvb xvi L)] w fun e w'=> e= .returned (.string (inT l[k].d (textsV (l.map RM.d) l[k].d xn 0 (L.map VM.d)) L.length))∧Below w.heap.size w w':=by
 have hlm:(l.map RM.d).length=l.length:=List.length_map ..
 rw [VM.d_mk] at hval hs
 rw [validV_at (by rw [hlm];exact hkl),List.getElem_map] at hval
 simp only [Val.n_mk,Val.b_mk,Val.items_mk,Bool.and_eq_true,List.length_map] at hval
 obtain ⟨hown,hvs⟩:=hval
 have hok:=validD_at hv (k:=k) (by rw [hlm];exact hkl)
 rw [List.getElem_map] at hok
 have hkR:=ruleOk_kind hok
 rw [Val.size_mk] at hs
 have hll:=Val.length_le (L.map VM.d)
 rw [List.length_map] at hll
 have hsm:∀y∈L,y.d.size≤4194304:=fun y hy=> by have:=Val.size_le_of_mem (List.mem_map_of_mem (f:=VM.d) hy);omega
 have hokD:∀r∈l.map RM.d,r.ok:=fun r hr=> by obtain ⟨q,hq,rfl⟩:=List.mem_map.1 hr;exact ok q hq
 have hsmD:∀r∈l.map RM.d,total r.names≤1048576:=fun r hr=> by obtain ⟨q,hq,rfl⟩:=List.mem_map.1 hr;exact (sm q hq).total
 have hBD:∀j,j≤L.length→(inT l[k].d (textsV (l.map RM.d) l[k].d xn 0 (L.map VM.d)) j).size≤35184372088832:=fun j hj=> by
  have:=inT_bd hokD hsmD (sm _ (List.getElem_mem hkl)).total hvs (j:=j) (by rw [List.length_map];exact hj)
  omega
 have hT:∀j (hj:j < L.length),∃q:Nat,itemR l[k].d xn j=q∧(textsV (l.map RM.d) l[k].d xn 0 (L.map VM.d)).getD j ⟨#[]⟩=textV (l.map RM.d) q L[j].d∧(textV (l.map RM.d) q L[j].d).size≤35184372088832∧∀W,Below w.heap.size w W→Calls Tryz.prog 70 #[.agg #[vD], .int .i64 q,vmV L[j]] W fun e w'=> e= .returned (.string (textV (l.map RM.d) q L[j].d))∧Below W.heap.size W w':=fun j hj=> by
  have hvj:=validVs_at hvs (j:=j) (by rw [List.length_map];exact hj)
  rw [List.getElem_map] at hvj
  obtain ⟨q,hq,e⟩:=validV_nat hvj
  rw [e] at hvj
  have hz:=textV_size hokD hsmD L[j].d q hq hvj
  have hy:=hsm _ (List.getElem_mem hj)
  refine ⟨q,e,?_,by omega,fun W hb=> ih _ (List.getElem_mem hj) vD l q B W (h.below (hb.mono hB)) (by have:=hb.size;omega) ok sm hv (by rw [hlm] at hq;exact hq) hvj ((hx.its.2 _ (List.getElem_mem hj)).bel (hb.mono hB)) hy⟩
  rw [textsV_at _ _ _ _ _ _ (by rw [List.length_map];exact hj),Nat.zero_add,e,List.getElem_map]
 have hITM:∀W (j:Nat),j≤4194304→Below w.heap.size w W→Calls Tryz.prog 66 #[rmV l[k], .int .i64 xn, .int .i64 j] W fun e w'=> e= .returned (.int .i64 (itemR l[k].d xn j))∧Below W.heap.size W w':=fun W j hj hb=>
  l9Item_any (l.map RM.d) l[k] xn j B W ((h.2 _ (List.getElem_mem hkl)).below (hb.mono hB)) (by have:=hb.size;omega) hkR (sm _ (List.getElem_mem hkl)) hj
 have hNL:l[k].d.kind=6→L.length=l[k].d.names.length:=fun e=> by
  have h1:=kids_6 hkR e
  rw [own_6 e] at hown
  simp only [Bool.and_eq_true,decide_eq_true_eq] at hown
  omega
 have hnm:∀s∈l[k].d.names,s.size≤1048576:=fun s hs'=> by
  have:=size_le_total _ s hs'
  have:=(sm _ (List.getElem_mem hkl)).total
  omega
 obtain ⟨A,c,rfl, -, -, -⟩:=h.open_
 obtain ⟨b,off,A1,c1,A2,c2,A3,c3,A4,c4,rfl,hbB,e1,e2,e3,e4,m1,m2,m3,m4, -⟩:=rule_cells h k hkl
 obtain ⟨An,cn,en,hcn,hmn,hnc⟩:=(h.2 _ (List.getElem_mem hkl)).n.one
 rw [e2] at en
 simp only [Value.slice.injEq,true_and] at en
 obtain ⟨rfl,rfl⟩:=en
 obtain ⟨Ax,cx,ex, -⟩:=hx.bytes.open_
 obtain ⟨Ay,cy,ey,hcy,hmy,hic⟩:=hx.its.open_
 simp only [VM.vb_mk,VM.b_mk,VM.vi_mk,VM.items_mk] at ex ey hic hcy hmy
 subst ex ey
 unfold maxLen at hmn hmy
 unfold rmV at hITM
 rw [e1,e2,e3,e4] at hITM
 have HITM:=Lib.hid hITM
 have HT:=Lib.hid hT
 have HNC:=Lib.hid hnc
 have HIC:=Lib.hid hic
 have HBD:=Lib.hid hBD
 have HNL:=Lib.hid hNL
 have HNM:=Lib.hid hnm
 have hNN:=(sm _ (List.getElem_mem hkl)).names
 clear hITM hT hnc hic hBD hNL hnm hown hvs hok hkR hx h ih hsm ok sm hv m1 m3 m4 hokD hsmD
 unfold rmV vmV
 rw [e1,e2,e3,e4]
 simp only [VM.n_mk,VM.vb_mk,VM.vi_mk]
 clear e1 e2 e3 e4
 generalize textsV (l.map RM.d) l[k].d xn 0 (L.map VM.d)=ts at*
 generalize l[k]=r at*
 generalize r.d=d at*
 generalize l.map RM.d=D at*
 clear hlm
 generalize l.length=nl at*
 obtain ⟨W0,hW0⟩:∃W0,W0=(((w.alloc (.cells #[.slice (some ⟨b,off,none⟩) nl c] 40)).alloc (.cells #[.string d.name, .int .i64 d.kind, .int .i64 d.size, .bool d.little, .slice A1 d.bytes.length c1, .slice A2 d.names.length c2, .slice A3 d.tags.length c3, .slice A4 d.kids.length c4] 90)).alloc (.cells #[.int .i64 xn, .slice Ax xb.length cx, .slice Ay L.length cy] 35)):=⟨_,rfl⟩
 have hb0:Below w.heap.size w W0:=by rw [hW0];exact (((Below.refl w.heap.size w).alloc (Nat.le_refl _) _).alloc (by simp) _).alloc (by simp;omega) _
 have hz:W0.heap.size=w.heap.size+3:=by rw [hW0];simp
 have y0:W0.cell? ⟨w.heap.size,0,none⟩=some (.slice (some ⟨b,off,none⟩) nl c):=by rw [hW0];simp [go_sem]
 have u0:W0.cell? ⟨w.heap.size+1,0,none⟩=some (.string d.name):=by rw [hW0];simp [go_sem]
 have u1:W0.cell? ⟨w.heap.size+1,1,none⟩=some (.int .i64 d.kind):=by rw [hW0];simp [go_sem]
 have u2:W0.cell? ⟨w.heap.size+1,2,none⟩=some (.int .i64 d.size):=by rw [hW0];simp [go_sem]
 have u3:W0.cell? ⟨w.heap.size+1,3,none⟩=some (.bool d.little):=by rw [hW0];simp [go_sem]
 have u4:W0.cell? ⟨w.heap.size+1,4,none⟩=some (.slice A1 d.bytes.length c1):=by rw [hW0];simp [go_sem]
 have u5:W0.cell? ⟨w.heap.size+1,5,none⟩=some (.slice A2 d.names.length c2):=by rw [hW0];simp [go_sem]
 have u6:W0.cell? ⟨w.heap.size+1,6,none⟩=some (.slice A3 d.tags.length c3):=by rw [hW0];simp [go_sem]
 have u7:W0.cell? ⟨w.heap.size+1,7,none⟩=some (.slice A4 d.kids.length c4):=by rw [hW0];simp [go_sem]
 have v0:W0.cell? ⟨w.heap.size+1+1,0,none⟩=some (.int .i64 xn):=by rw [hW0];simp [go_sem]
 have v2:W0.cell? ⟨w.heap.size+1+1,2,none⟩=some (.slice Ay L.length cy):=by rw [hW0];simp [go_sem]
 have hzz:w.heap.size+3≤W0.heap.size:=by omega
 go_enter Tryz.func89,Tryz.ntmps89
 go_upto_region 1 with fail
 rw [←hW0]
 clear hW0 hz
 go_wp2_with fail
 go_loopw [7,8] (fun s i wr=> ∃(j:Nat) (S:ByteArray),j≤L.length∧i= .int .i64 j∧s= .string S∧Hid (S=inT d ts j)∧Below W0.heap.size W0 wr) (fun _ i _=> L.length - (intOf i).toNat)
 case atStart=> exact ⟨0,_,Nat.zero_le _,rfl,rfl,Lib.hid rfl,Below.refl _ _⟩
 case round=>
  obtain ⟨j,S,hj,rfl,rfl,HS,hb⟩:=hrel
  have s0:=cell_later hb y0
  have s1:=cell_later hb v0
  have s2:=cell_later hb v2
  have t0:=cell_later hb u0
  have t1:=cell_later hb u1
  have t2:=cell_later hb u2
  have t3:=cell_later hb u3
  have t4:=cell_later hb u4
  have t5:=cell_later hb u5
  have t6:=cell_later hb u6
  have t7:=cell_later hb u7
  have hbw:=hb0.trans (hb.mono hb0.size)
  by_cases hlt:j < L.length
  ·obtain ⟨bi,fi,rfl,hbi,e0,e1,e2⟩:=HIC.out j hlt
   obtain ⟨q,hq,ht,htz,hcall⟩:=HT.out j hlt
   have i0:=cell_keep e0 (hbw.mono hB) hbi
   have i1:=cell_keep e1 (hbw.mono hB) hbi
   have i2:=cell_keep e2 (hbw.mono hB) hbi
   have HI:=Lib.hid (fun W hb=> HITM.out W j (by omega) hb)
   rw [hq] at HI
   have HR:=Lib.hid hcall
   have hSz:S.size≤35184372088832:=by rw [HS.out];exact HBD.out j hj
   generalize textV D q L[j].d=T at*
   have HTT:=Lib.hid ht
   clear hq ht hcall e0 e1 e2 y0 v0 v2 u0 u1 u2 u3 u4 u5 u6 u7
   by_cases h6:d.kind=6
   ·have hjn:j < d.names.length:=by have:=HNL.out h6;omega
    obtain ⟨bn,fn,rfl,hbn,n0⟩:=HNC.out j hjn
    have n0:=cell_keep n0 (hbw.mono hB) hbn
    have hnz:=HNM.out _ (List.getElem_mem hjn)
    have HNM9:=Lib.hid (show d.names.getD j ⟨#[]⟩=d.names[j] from by rw [List.getD_eq_getElem?_getD,List.getElem?_eq_getElem hjn];rfl)
    generalize d.names[j]=nm at*
    have hk6:(d.kind==6)=true:=by rw [h6];rfl
    by_cases hj0:j=0
    ·have hj1:decide ((0:Int) < (j:Int))=false:=decide_eq_false (by omega)
     have hj2:decide (0 < j)=false:=decide_eq_false (by omega)
     have HIN:=Lib.hid (show inT d ts (j+1)=S++nm++⟨#[58]⟩++T by
      rw [inT]
      (try dsimp only)
      rw [if_neg (show ¬0 < j by omega),if_pos h6,HTT.out,←HS.out,HNM9.out])
     have hbig:¬9223372036854775807 < S.size+nm.size+1+T.size:=by omega
     clear h6 hj0
     go_upto_region 9 with fail
     have bq:=(Below.refl wr.heap.size wr).drew
     go_wp2_with fail
     refine wp_region_held_drew (S:=(fun w9=> w9.cell? ⟨w.heap.size,0,none⟩=some (.slice (some ⟨b,off,none⟩) nl c)∧w9.cell? ⟨w.heap.size+1+1,0,none⟩=some (.int .i64 xn)∧w9.cell? ⟨w.heap.size+1+1,2,none⟩=some (.slice (some ⟨bi,fi,none⟩) L.length cy)∧w9.cell? ⟨w.heap.size+1,0,none⟩=some (.string d.name)∧w9.cell? ⟨w.heap.size+1,1,none⟩=some (.int .i64 d.kind)∧w9.cell? ⟨w.heap.size+1,2,none⟩=some (.int .i64 d.size)∧w9.cell? ⟨w.heap.size+1,3,none⟩=some (.bool d.little)∧w9.cell? ⟨w.heap.size+1,4,none⟩=some (.slice A1 d.bytes.length c1)∧w9.cell? ⟨w.heap.size+1,5,none⟩=some (.slice (some ⟨bn,fn,none⟩) d.names.length c2)∧w9.cell? ⟨w.heap.size+1,6,none⟩=some (.slice A3 d.tags.length c3)∧w9.cell? ⟨w.heap.size+1,7,none⟩=some (.slice A4 d.kids.length c4)∧w9.cell? ⟨bi,fi+j*3,none⟩=some (.int .i64 L[j].n)∧w9.cell? ⟨bi,fi+j*3+1,none⟩=some L[j].vb∧w9.cell? ⟨bi,fi+j*3+2,none⟩=some L[j].vi)) (by kernel_rfl) ?_ (fun hHeld=> ?_)
     ·(try dsimp only);exact ⟨s0,s1,s2,t0,t1,t2,t3,t4,t5,t6,t7,i0,i1,i2⟩
     refine rgTake 0 (some 31) hHeld _ ?_;try go_frame
     refine rgTake 1 (some 32) hHeld _ ?_;try go_frame
     refine rgTake 2 (some 33) hHeld _ ?_;try go_frame
     refine rgTake 3 (some 34) hHeld _ ?_;try go_frame
     refine rgTake 4 (some 35) hHeld _ ?_;try go_frame
     refine rgTake 5 (some 36) hHeld _ ?_;try go_frame
     refine rgTake 7 (some 38) hHeld _ ?_;try go_frame
     refine rgTake 8 (some 39) hHeld _ ?_;try go_frame
     refine rgTake 9 (some 40) hHeld _ ?_;try go_frame
     refine rgTake 10 (some 41) hHeld _ ?_;try go_frame
     refine rgTake 11 (some 42) hHeld _ ?_;try go_frame
     refine rgStep 6 (fun K hK=> ?_)
     go_simp
     refine (HI.out _ hbw.drew).mono ?_;rintro e w7 ⟨rfl,bel7⟩;have bq:=below_step bel7 bq;have bw:=below_step bel7 hbw.drew
     (try go_wp2_with fail)
     refine hK.out _ _ ?_ (fun hHeld=> ?_)
     ·(try dsimp only);exact ⟨cell_later bq s0,cell_later bq s1,cell_later bq s2,cell_later bq t0,cell_later bq t1,cell_later bq t2,cell_later bq t3,cell_later bq t4,cell_later bq t5,cell_later bq t6,cell_later bq t7,cell_later bq i0,cell_later bq i1,cell_later bq i2⟩
     clear hK K
     try go_frame
     refine rgStep 12 (fun K hK=> ?_)
     go_simp
     refine (HR.out _ bw).mono ?_;rintro e w8 ⟨rfl,bel8⟩;have bq:=below_step bel8 bq
     (try go_wp2_with fail)
     refine hK.out _ _ ?_ (fun hHeld=> ?_)
     ·(try dsimp only);exact ⟨cell_later bq s0,cell_later bq s1,cell_later bq s2,cell_later bq t0,cell_later bq t1,cell_later bq t2,cell_later bq t3,cell_later bq t4,cell_later bq t5,cell_later bq t6,cell_later bq t7,cell_later bq i0,cell_later bq i1,cell_later bq i2⟩
     clear hK K
     try go_frame
     refine rgTake 13 (some 44) hHeld _ ?_;try go_frame
     refine rgTake 14 (some 7) hHeld _ ?_;try go_frame
     refine wpAnyH_done (by kernel_rfl) ?_ _
     have HB:=Lib.hid (below_step bq hb)
     clear bel7 bel8 bq bw t0 t1 t2 t3 t4 t5 t6 t7 i0 i1 i2 s0 s1 s2 hb hbw
     go_wp2
     go_roundw
     case rel=> exact ⟨j+1,_,by omega,by go_num,rfl,Lib.hid HIN.out.symm,HB.out⟩
     case measure=> simp [intOf];omega
    ·have hj1:decide ((0:Int) < (j:Int))=true:=decide_eq_true (by omega)
     have hj2:decide (0 < j)=true:=decide_eq_true (by omega)
     have HIN:=Lib.hid (show inT d ts (j+1)=S++⟨#[44]⟩++nm++⟨#[58]⟩++T by
      rw [inT]
      (try dsimp only)
      rw [if_pos (show 0 < j by omega),if_pos h6,HTT.out,←HS.out,HNM9.out])
     have hbig:¬9223372036854775807 < S.size+1+nm.size+1+T.size:=by omega
     clear h6 hj0
     go_upto_region 9 with fail
     have bq:=(Below.refl wr.heap.size wr).drew
     go_wp2_with fail
     refine wp_region_held_drew (S:=(fun w9=> w9.cell? ⟨w.heap.size,0,none⟩=some (.slice (some ⟨b,off,none⟩) nl c)∧w9.cell? ⟨w.heap.size+1+1,0,none⟩=some (.int .i64 xn)∧w9.cell? ⟨w.heap.size+1+1,2,none⟩=some (.slice (some ⟨bi,fi,none⟩) L.length cy)∧w9.cell? ⟨w.heap.size+1,0,none⟩=some (.string d.name)∧w9.cell? ⟨w.heap.size+1,1,none⟩=some (.int .i64 d.kind)∧w9.cell? ⟨w.heap.size+1,2,none⟩=some (.int .i64 d.size)∧w9.cell? ⟨w.heap.size+1,3,none⟩=some (.bool d.little)∧w9.cell? ⟨w.heap.size+1,4,none⟩=some (.slice A1 d.bytes.length c1)∧w9.cell? ⟨w.heap.size+1,5,none⟩=some (.slice (some ⟨bn,fn,none⟩) d.names.length c2)∧w9.cell? ⟨w.heap.size+1,6,none⟩=some (.slice A3 d.tags.length c3)∧w9.cell? ⟨w.heap.size+1,7,none⟩=some (.slice A4 d.kids.length c4)∧w9.cell? ⟨bi,fi+j*3,none⟩=some (.int .i64 L[j].n)∧w9.cell? ⟨bi,fi+j*3+1,none⟩=some L[j].vb∧w9.cell? ⟨bi,fi+j*3+2,none⟩=some L[j].vi)) (by kernel_rfl) ?_ (fun hHeld=> ?_)
     ·(try dsimp only);exact ⟨s0,s1,s2,t0,t1,t2,t3,t4,t5,t6,t7,i0,i1,i2⟩
     refine rgTake 0 (some 31) hHeld _ ?_;try go_frame
     refine rgTake 1 (some 32) hHeld _ ?_;try go_frame
     refine rgTake 2 (some 33) hHeld _ ?_;try go_frame
     refine rgTake 3 (some 34) hHeld _ ?_;try go_frame
     refine rgTake 4 (some 35) hHeld _ ?_;try go_frame
     refine rgTake 5 (some 36) hHeld _ ?_;try go_frame
     refine rgTake 7 (some 38) hHeld _ ?_;try go_frame
     refine rgTake 8 (some 39) hHeld _ ?_;try go_frame
     refine rgTake 9 (some 40) hHeld _ ?_;try go_frame
     refine rgTake 10 (some 41) hHeld _ ?_;try go_frame
     refine rgTake 11 (some 42) hHeld _ ?_;try go_frame
     refine rgStep 6 (fun K hK=> ?_)
     go_simp
     refine (HI.out _ hbw.drew).mono ?_;rintro e w7 ⟨rfl,bel7⟩;have bq:=below_step bel7 bq;have bw:=below_step bel7 hbw.drew
     (try go_wp2_with fail)
     refine hK.out _ _ ?_ (fun hHeld=> ?_)
     ·(try dsimp only);exact ⟨cell_later bq s0,cell_later bq s1,cell_later bq s2,cell_later bq t0,cell_later bq t1,cell_later bq t2,cell_later bq t3,cell_later bq t4,cell_later bq t5,cell_later bq t6,cell_later bq t7,cell_later bq i0,cell_later bq i1,cell_later bq i2⟩
     clear hK K
     try go_frame
     refine rgStep 12 (fun K hK=> ?_)
     go_simp
     refine (HR.out _ bw).mono ?_;rintro e w8 ⟨rfl,bel8⟩;have bq:=below_step bel8 bq
     (try go_wp2_with fail)
     refine hK.out _ _ ?_ (fun hHeld=> ?_)
     ·(try dsimp only);exact ⟨cell_later bq s0,cell_later bq s1,cell_later bq s2,cell_later bq t0,cell_later bq t1,cell_later bq t2,cell_later bq t3,cell_later bq t4,cell_later bq t5,cell_later bq t6,cell_later bq t7,cell_later bq i0,cell_later bq i1,cell_later bq i2⟩
     clear hK K
     try go_frame
     refine rgTake 13 (some 44) hHeld _ ?_;try go_frame
     refine rgTake 14 (some 7) hHeld _ ?_;try go_frame
     refine wpAnyH_done (by kernel_rfl) ?_ _
     have HB:=Lib.hid (below_step bq hb)
     clear bel7 bel8 bq bw t0 t1 t2 t3 t4 t5 t6 t7 i0 i1 i2 s0 s1 s2 hb hbw
     go_wp2
     go_roundw
     case rel=> exact ⟨j+1,_,by omega,by go_num,rfl,Lib.hid HIN.out.symm,HB.out⟩
     case measure=> simp [intOf];omega
   ·have hk6:(d.kind==6)=false:=by simpa using h6
    by_cases hj0:j=0
    ·have hj1:decide ((0:Int) < (j:Int))=false:=decide_eq_false (by omega)
     have hj2:decide (0 < j)=false:=decide_eq_false (by omega)
     have HIN:=Lib.hid (show inT d ts (j+1)=S++T by
      rw [inT]
      (try dsimp only)
      rw [if_neg (show ¬0 < j by omega),if_neg h6,HTT.out,←HS.out])
     have hbig:¬9223372036854775807 < S.size+T.size:=by omega
     clear h6 hj0
     go_upto_region 9 with fail
     have bq:=(Below.refl wr.heap.size wr).drew
     go_wp2_with fail
     refine wp_region_held_drew (S:=(fun w9=> w9.cell? ⟨w.heap.size,0,none⟩=some (.slice (some ⟨b,off,none⟩) nl c)∧w9.cell? ⟨w.heap.size+1+1,0,none⟩=some (.int .i64 xn)∧w9.cell? ⟨w.heap.size+1+1,2,none⟩=some (.slice (some ⟨bi,fi,none⟩) L.length cy)∧w9.cell? ⟨w.heap.size+1,0,none⟩=some (.string d.name)∧w9.cell? ⟨w.heap.size+1,1,none⟩=some (.int .i64 d.kind)∧w9.cell? ⟨w.heap.size+1,2,none⟩=some (.int .i64 d.size)∧w9.cell? ⟨w.heap.size+1,3,none⟩=some (.bool d.little)∧w9.cell? ⟨w.heap.size+1,4,none⟩=some (.slice A1 d.bytes.length c1)∧w9.cell? ⟨w.heap.size+1,5,none⟩=some (.slice A2 d.names.length c2)∧w9.cell? ⟨w.heap.size+1,6,none⟩=some (.slice A3 d.tags.length c3)∧w9.cell? ⟨w.heap.size+1,7,none⟩=some (.slice A4 d.kids.length c4)∧w9.cell? ⟨bi,fi+j*3,none⟩=some (.int .i64 L[j].n)∧w9.cell? ⟨bi,fi+j*3+1,none⟩=some L[j].vb∧w9.cell? ⟨bi,fi+j*3+2,none⟩=some L[j].vi)) (by kernel_rfl) ?_ (fun hHeld=> ?_)
     ·(try dsimp only);exact ⟨s0,s1,s2,t0,t1,t2,t3,t4,t5,t6,t7,i0,i1,i2⟩
     refine rgTake 0 (some 31) hHeld _ ?_;try go_frame
     refine rgTake 1 (some 32) hHeld _ ?_;try go_frame
     refine rgTake 2 (some 33) hHeld _ ?_;try go_frame
     refine rgTake 3 (some 34) hHeld _ ?_;try go_frame
     refine rgTake 4 (some 35) hHeld _ ?_;try go_frame
     refine rgTake 5 (some 36) hHeld _ ?_;try go_frame
     refine rgTake 7 (some 38) hHeld _ ?_;try go_frame
     refine rgTake 8 (some 39) hHeld _ ?_;try go_frame
     refine rgTake 9 (some 40) hHeld _ ?_;try go_frame
     refine rgTake 10 (some 41) hHeld _ ?_;try go_frame
     refine rgTake 11 (some 42) hHeld _ ?_;try go_frame
     refine rgStep 6 (fun K hK=> ?_)
     go_simp
     refine (HI.out _ hbw.drew).mono ?_;rintro e w7 ⟨rfl,bel7⟩;have bq:=below_step bel7 bq;have bw:=below_step bel7 hbw.drew
     (try go_wp2_with fail)
     refine hK.out _ _ ?_ (fun hHeld=> ?_)
     ·(try dsimp only);exact ⟨cell_later bq s0,cell_later bq s1,cell_later bq s2,cell_later bq t0,cell_later bq t1,cell_later bq t2,cell_later bq t3,cell_later bq t4,cell_later bq t5,cell_later bq t6,cell_later bq t7,cell_later bq i0,cell_later bq i1,cell_later bq i2⟩
     clear hK K
     try go_frame
     refine rgStep 12 (fun K hK=> ?_)
     go_simp
     refine (HR.out _ bw).mono ?_;rintro e w8 ⟨rfl,bel8⟩;have bq:=below_step bel8 bq
     (try go_wp2_with fail)
     refine hK.out _ _ ?_ (fun hHeld=> ?_)
     ·(try dsimp only);exact ⟨cell_later bq s0,cell_later bq s1,cell_later bq s2,cell_later bq t0,cell_later bq t1,cell_later bq t2,cell_later bq t3,cell_later bq t4,cell_later bq t5,cell_later bq t6,cell_later bq t7,cell_later bq i0,cell_later bq i1,cell_later bq i2⟩
     clear hK K
     try go_frame
     refine rgTake 13 (some 44) hHeld _ ?_;try go_frame
     refine rgTake 14 (some 7) hHeld _ ?_;try go_frame
     refine wpAnyH_done (by kernel_rfl) ?_ _
     have HB:=Lib.hid (below_step bq hb)
     clear bel7 bel8 bq bw t0 t1 t2 t3 t4 t5 t6 t7 i0 i1 i2 s0 s1 s2 hb hbw
     go_wp2
     go_roundw
     case rel=> exact ⟨j+1,_,by omega,by go_num,rfl,Lib.hid HIN.out.symm,HB.out⟩
     case measure=> simp [intOf];omega
    ·have hj1:decide ((0:Int) < (j:Int))=true:=decide_eq_true (by omega)
     have hj2:decide (0 < j)=true:=decide_eq_true (by omega)
     have HIN:=Lib.hid (show inT d ts (j+1)=S++⟨#[44]⟩++T by
      rw [inT]
      (try dsimp only)
      rw [if_pos (show 0 < j by omega),if_neg h6,HTT.out,←HS.out])
     have hbig:¬9223372036854775807 < S.size+1+T.size:=by omega
     clear h6 hj0
     go_upto_region 9 with fail
     have bq:=(Below.refl wr.heap.size wr).drew
     go_wp2_with fail
     refine wp_region_held_drew (S:=(fun w9=> w9.cell? ⟨w.heap.size,0,none⟩=some (.slice (some ⟨b,off,none⟩) nl c)∧w9.cell? ⟨w.heap.size+1+1,0,none⟩=some (.int .i64 xn)∧w9.cell? ⟨w.heap.size+1+1,2,none⟩=some (.slice (some ⟨bi,fi,none⟩) L.length cy)∧w9.cell? ⟨w.heap.size+1,0,none⟩=some (.string d.name)∧w9.cell? ⟨w.heap.size+1,1,none⟩=some (.int .i64 d.kind)∧w9.cell? ⟨w.heap.size+1,2,none⟩=some (.int .i64 d.size)∧w9.cell? ⟨w.heap.size+1,3,none⟩=some (.bool d.little)∧w9.cell? ⟨w.heap.size+1,4,none⟩=some (.slice A1 d.bytes.length c1)∧w9.cell? ⟨w.heap.size+1,5,none⟩=some (.slice A2 d.names.length c2)∧w9.cell? ⟨w.heap.size+1,6,none⟩=some (.slice A3 d.tags.length c3)∧w9.cell? ⟨w.heap.size+1,7,none⟩=some (.slice A4 d.kids.length c4)∧w9.cell? ⟨bi,fi+j*3,none⟩=some (.int .i64 L[j].n)∧w9.cell? ⟨bi,fi+j*3+1,none⟩=some L[j].vb∧w9.cell? ⟨bi,fi+j*3+2,none⟩=some L[j].vi)) (by kernel_rfl) ?_ (fun hHeld=> ?_)
     ·(try dsimp only);exact ⟨s0,s1,s2,t0,t1,t2,t3,t4,t5,t6,t7,i0,i1,i2⟩
     refine rgTake 0 (some 31) hHeld _ ?_;try go_frame
     refine rgTake 1 (some 32) hHeld _ ?_;try go_frame
     refine rgTake 2 (some 33) hHeld _ ?_;try go_frame
     refine rgTake 3 (some 34) hHeld _ ?_;try go_frame
     refine rgTake 4 (some 35) hHeld _ ?_;try go_frame
     refine rgTake 5 (some 36) hHeld _ ?_;try go_frame
     refine rgTake 7 (some 38) hHeld _ ?_;try go_frame
     refine rgTake 8 (some 39) hHeld _ ?_;try go_frame
     refine rgTake 9 (some 40) hHeld _ ?_;try go_frame
     refine rgTake 10 (some 41) hHeld _ ?_;try go_frame
     refine rgTake 11 (some 42) hHeld _ ?_;try go_frame
     refine rgStep 6 (fun K hK=> ?_)
     go_simp
     refine (HI.out _ hbw.drew).mono ?_;rintro e w7 ⟨rfl,bel7⟩;have bq:=below_step bel7 bq;have bw:=below_step bel7 hbw.drew
     (try go_wp2_with fail)
     refine hK.out _ _ ?_ (fun hHeld=> ?_)
     ·(try dsimp only);exact ⟨cell_later bq s0,cell_later bq s1,cell_later bq s2,cell_later bq t0,cell_later bq t1,cell_later bq t2,cell_later bq t3,cell_later bq t4,cell_later bq t5,cell_later bq t6,cell_later bq t7,cell_later bq i0,cell_later bq i1,cell_later bq i2⟩
     clear hK K
     try go_frame
     refine rgStep 12 (fun K hK=> ?_)
     go_simp
     refine (HR.out _ bw).mono ?_;rintro e w8 ⟨rfl,bel8⟩;have bq:=below_step bel8 bq
     (try go_wp2_with fail)
     refine hK.out _ _ ?_ (fun hHeld=> ?_)
     ·(try dsimp only);exact ⟨cell_later bq s0,cell_later bq s1,cell_later bq s2,cell_later bq t0,cell_later bq t1,cell_later bq t2,cell_later bq t3,cell_later bq t4,cell_later bq t5,cell_later bq t6,cell_later bq t7,cell_later bq i0,cell_later bq i1,cell_later bq i2⟩
     clear hK K
     try go_frame
     refine rgTake 13 (some 44) hHeld _ ?_;try go_frame
     refine rgTake 14 (some 7) hHeld _ ?_;try go_frame
     refine wpAnyH_done (by kernel_rfl) ?_ _
     have HB:=Lib.hid (below_step bq hb)
     clear bel7 bel8 bq bw t0 t1 t2 t3 t4 t5 t6 t7 i0 i1 i2 s0 s1 s2 hb hbw
     go_wp2
     go_roundw
     case rel=> exact ⟨j+1,_,by omega,by go_num,rfl,Lib.hid HIN.out.symm,HB.out⟩
     case measure=> simp [intOf];omega
  ·have hjl:j=L.length:=by omega
   have HX:=Lib.hid (show S=inT d ts L.length by rw [HS.out,hjl])
   have HB:=Lib.hid hbw
   clear hbw hb t0 t1 t2 t3 t4 t5 t6 t7
   go_wp2
   go_ret
   exact ⟨ret_str HX.out,HB.out⟩
end Go.Proofs.YtipfacnmobineaaGreatDoor
