/- Out of TxI, TxJ, TxW: the walks and plain laws that the claim needs. No condition but those that each theorem names. -/
import Derived.Test.YtipfacnmobineaaGreatDoorGta
import Derived.Test.YtipfacnmobineaaGreatDoorGa
import Derived.WalkSpells
import Derived.WalkLawsBesides
import Derived.Test.YtipfacnmobineaaGreatDoorShelfJ
import Derived.Lib.Join
import Derived.Test.YtipfacnmobineaaGreatDoorGj
import Derived.Deep.RegionHeld3
import Derived.Deep.DeepCutAuto
set_option linter.unusedSimpArgs false
set_option linter.unusedVariables false
namespace Go.Proofs.YtipfacnmobineaaGreatDoor
open Go.RowKit
def shapeV (k:Int) (vn:Value):Value:=
 if k=1 then .iface 119 (.agg #[])
 else if k=2 then .iface 120 (.agg #[])
 else if k=5 then .iface 121 (.agg #[])
 else if k=6 then .iface 124 (.agg #[vn])
 else if k=7 then .iface 125 (.agg #[])
 else if k=8 then .iface 126 (.agg #[])
 else if k=9 then .iface 127 (.agg #[])
 else .iface 139 (.agg #[])
theorem ret_val {a b:Value} (h:a=b):Ending.returned a= .returned b:=by rw [h]
set_option maxHeartbeats 4000000 in
set_option maxRecDepth 100000 in
theorem shapeOf_any (name:ByteArray) (k size:Int) (little:Bool) (A1:Option Addr) (n1 c1:Nat) (A2:Option Addr) (n2 c2:Nat) (A3:Option Addr) (n3 c3:Nat) (A4:Option Addr) (n4 c4:Nat) (w:World) (hk:k=1∨k=2∨k=3∨k=4∨k=5∨k=6∨k=7∨k=8∨k=9∨k=10):
  Calls Tryz.prog 94 #[.agg #[.string name, .int .i64 k, .int .i64 size, .bool little, .slice A1 n1 c1, .slice A2 n2 c2, .slice A3 n3 c3, .slice A4 n4 c4]] w fun e w'=> e= .returned (shapeV k (.slice A2 n2 c2))∧Below w.heap.size w w':=by
 have hb:=(Below.refl w.heap.size w).alloc (Nat.le_refl _) (.cells #[.string name, .int .i64 k, .int .i64 size, .bool little, .slice A1 n1 c1, .slice A2 n2 c2, .slice A3 n3 c3, .slice A4 n4 c4] 90)
 rcases hk with rfl|rfl|rfl|rfl|rfl|rfl|rfl|rfl|rfl|rfl
 all_goals
  go_enter Tryz.func94,Tryz.ntmps94
  go_wp2
  go_ret
  exact ⟨ret_val (by simp [shapeV]),hb⟩
set_option maxHeartbeats 1000000 in
theorem implNum_any (n:Int) (a s b:ByteArray) (w:World) (hn:InI64 n) (h:a.size+s.size+b.size≤4611686018427387904) (ht:Tab w):
  Calls Tryz.prog 97 #[.int .i64 n, .string a, .string s, .string b] w fun e w'=> e= .returned (.string (str (fmtI n)++a++s++b))∧Below w.heap.size w w':=by
 have hz:=fmtI_size n hn
 have HC:=Lib.hid (implFormatInt_any n w hn ht)
 generalize str (fmtI n)=S at*
 clear hn ht
 go_enter Tryz.func97,Tryz.ntmps97
 go_wp2_with fail
 refine HC.out.mono ?_
 rintro e w1 ⟨rfl,bel⟩
 go_wp2
 go_ret
 exact ⟨rfl,bel⟩
theorem ta_yes {P:Program} {t:TypeId} {fs:Array Field} (hu:P.underlying t=some (.struct fs)) (v:Value) (xT:TypeId) (w:World):(Instr.typeAssert (.iface t v) xT t true).run P w= .ok (.tuple #[v, .bool true]) w:=by
 simp [Instr.typeAssert,run_underlying hu]
theorem ta_no {P:Program} {t u:TypeId} {fs:Array Field} {z:Value} (hu:P.underlying u=some (.struct fs)) (hz:∀w,(zeroValue u).run P w= .ok z w) (hn:t≠u) (v:Value) (xT:TypeId) (w:World):(Instr.typeAssert (.iface t v) xT u true).run P w= .ok (.tuple #[z, .bool false]) w:=by
 simp [Instr.typeAssert,run_underlying hu,hn,hz]
end Go.Proofs.YtipfacnmobineaaGreatDoor
namespace Go.Proofs.YtipfacnmobineaaGreatDoor
open Go.RowKit
def pieceT (r:RuleD) (ts:List ByteArray) (i:Nat):ByteArray:=if r.kind=6 then r.names.getD i ⟨#[]⟩++⟨#[58]⟩++ts.getD i ⟨#[]⟩ else ts.getD i ⟨#[]⟩
def piecesT (r:RuleD) (ts:List ByteArray) (j:Nat):List ByteArray:=(List.range j).map (pieceT r ts)
theorem piecesT_length (r:RuleD) (ts:List ByteArray) (j:Nat):(piecesT r ts j).length=j:=by simp [piecesT]
theorem piecesT_succ (r:RuleD) (ts:List ByteArray) (j:Nat):piecesT r ts (j+1)=piecesT r ts j++ [pieceT r ts j]:=by simp [piecesT,List.range_succ]
theorem join_snoc (x:List UInt8) (r:List (List UInt8)) (y sep:List UInt8):Lib.join ((x::r)++ [y]) sep=Lib.join (x::r) sep++sep++y:=by
 rw [List.cons_append,Lib.join_cons,Lib.join_cons]
 unfold Lib.joinTail
 simp
theorem inT_join (r:RuleD) (ts:List ByteArray):∀j,inT r ts j=str (Lib.join ((piecesT r ts j).map (·.data.toList)) [44])
 |0=> rfl
 |j+1=> by
  have ih:=inT_join r ts j
  have e:inT r ts (j+1)=(if 0 < j then inT r ts j++⟨#[44]⟩ else inT r ts j)++pieceT r ts j:=by
   rw [inT]
   (try dsimp only)
   unfold pieceT
   split <;> simp [ByteArray.append_assoc]
  rw [e,piecesT_succ,List.map_append,List.map_cons,List.map_nil,ih]
  have hs:∀s:ByteArray,str s.data.toList=s:=fun s=> by apply ByteArray.ext;simp [str]
  cases j with
  |zero=>
   rw [if_neg (Nat.lt_irrefl 0)]
   show str (Lib.join [] [44])++pieceT r ts 0=str (Lib.join [(pieceT r ts 0).data.toList] [44])
   rw [Lib.join_one,Lib.join_nil,hs]
   apply ByteArray.ext
   simp [str,ByteArray.data_append]
  |succ j=>
   rw [if_pos (by omega)]
   obtain ⟨x,t,hxt⟩:∃x t,(piecesT r ts (j+1)).map (·.data.toList)=x::t:=by
    cases h:(piecesT r ts (j+1)).map (·.data.toList) with
    |nil=> have:=congrArg List.length h;simp [piecesT_length] at this
    |cons x t=> exact ⟨x,t,rfl⟩
   rw [hxt,join_snoc,←str_app,←str_app,hs]
   rfl
set_option maxHeartbeats 1000000 in
theorem implJoin_any (r:RuleD) (ts:List ByteArray) (n g cap base:Nat) (w:World) (h:w.ownsRow base 9 1 (.slice (some ⟨g,0,none⟩) n cap) n ((piecesT r ts n).map .string)) (hn:n≤4194304) (hz:(inT r ts n).size≤35184372088832):
  Calls Tryz.prog 96 #[.slice (some ⟨g,0,none⟩) n cap, .string ⟨#[44]⟩] w fun e w'=> e= .returned (.string (inT r ts n))∧Below w.heap.size w w':=by
 have hJ:=inT_join r ts n
 have hg:=(h.lt g rfl).2
 have hcap:n≤cap:=by
  rcases h.2 with ⟨e,_⟩|⟨g',cap',cur,e, -, -,hc, -⟩
  ·cases e
  ·cases e;exact hc
 have hlen:(Lib.join ((piecesT r ts n).map (·.data.toList)) [44]).length≤35184372088832:=by rw [hJ,str_size] at hz;exact hz
 have hc:=Tryz.strings_Join g 0 cap (piecesT r ts n) ⟨#[44]⟩ w (fun j x hx=> by
  have h1:=h.cellAt j (by have:=(List.getElem?_eq_some_iff.1 hx).1;rw [piecesT_length] at this;omega)
  rw [Nat.zero_add,h1,List.getElem?_map,hx]
  rfl) hg (by rw [piecesT_length];omega) (by rw [piecesT_length];exact hcap) (by show (Lib.join _ [44]).length≤_;omega)
 rw [piecesT_length] at hc
 have HC:=Lib.hid hc
 have HJ:=Lib.hid hJ
 clear h hz hJ hc hlen
 go_enter Tryz.func96,Tryz.ntmps96
 go_wp2_with (go_at_call 114;refine HC.out.mono ?_;rintro e w1 ⟨rfl,bel⟩)
 go_ret
 exact ⟨ret_str HJ.out.symm,bel⟩
end Go.Proofs.YtipfacnmobineaaGreatDoor
namespace Go.Proofs.YtipfacnmobineaaGreatDoor
open Go.RowKit
set_option maxHeartbeats 2000000 in
set_option maxRecDepth 100000 in
theorem itemClo_any (k q j n nl c g o gd gr gv bi fi cy:Nat) (A:Option Addr) (T:ByteArray) (w:World) (d0:w.cell? ⟨gd,0,none⟩=some (.slice A nl c)) (r0:w.cell? ⟨gr,0,none⟩=some (.int .i64 k)) (p0:w.cell? ⟨gv,0,none⟩=some (.pointer (some ⟨g,o,none⟩)))
  (v2:w.cell? ⟨g,o+2,none⟩=some (.slice (some ⟨bi,fi,none⟩) n cy)) (hj:j < n) (hn:n≤4194304)
  (hCR:∀W,Below w.heap.size w W→Calls Tryz.prog 88 #[.agg #[.slice A nl c], .int .i64 k, .pointer (some ⟨g,o,none⟩), .int .i64 j] W fun e w'=> e= .returned (.int .i64 q)∧Below W.heap.size W w')
  (hVT:∀W,Below w.heap.size w W→Calls Tryz.prog 71 #[.agg #[.slice A nl c], .int .i64 q, .pointer (some ⟨bi,fi+j*3,none⟩)] W fun e w'=> e= .returned (.string T)∧Below W.heap.size W w'):
  Calls Tryz.prog 93 #[.int .i64 j, .pointer (some ⟨gd,0,none⟩), .pointer (some ⟨gr,0,none⟩), .pointer (some ⟨gv,0,none⟩)] w fun e w'=> e= .returned (.string T)∧Below w.heap.size w w':=by
 have HCR:=Lib.hid hCR
 have HVT:=Lib.hid hVT
 clear hCR hVT
 go_enter Tryz.func93,Tryz.ntmps93
 go_upto_region 1 with fail
 have bq:=(Below.refl w.heap.size w).drew
 refine wp_region_held_drew (S:=(fun w9=> w9.cell? ⟨gd,0,none⟩=some (.slice A nl c)∧w9.cell? ⟨gr,0,none⟩=some (.int .i64 k)∧w9.cell? ⟨gv,0,none⟩=some (.pointer (some ⟨g,o,none⟩))∧w9.cell? ⟨g,o+2,none⟩=some (.slice (some ⟨bi,fi,none⟩) n cy))) (by kernel_rfl) ?_ (fun hHeld=> ?_)
 ·(try dsimp only);exact ⟨d0,r0,p0,v2⟩
 refine rgTake 0 (some 6) hHeld _ ?_;try go_frame
 refine rgTake 1 (some 7) hHeld _ ?_;try go_frame
 refine rgTake 2 (some 8) hHeld _ ?_;try go_frame
 refine rgTake 3 (some 9) hHeld _ ?_;try go_frame
 refine rgTake 4 (some 10) hHeld _ ?_;try go_frame
 refine rgTake 6 (some 12) hHeld _ ?_;try go_frame
 refine rgTake 7 (some 13) hHeld _ ?_;try go_frame
 refine rgTake 8 (some 14) hHeld _ ?_;try go_frame
 refine rgTake 9 (some 15) hHeld _ ?_;try go_frame
 refine rgTake 10 (some 16) hHeld _ ?_;try go_frame
 refine rgTake 11 (some 17) hHeld _ ?_;try go_frame
 refine rgStep 5 (fun K hK=> ?_)
 go_simp
 refine (HCR.out _ bq).mono ?_;rintro e w7 ⟨rfl,bel7⟩;have bq:=below_step bel7 bq
 (try go_wp2_with fail)
 refine hK.out _ _ ?_ (fun hHeld=> ?_)
 ·(try dsimp only);exact ⟨cell_later bq d0,cell_later bq r0,cell_later bq p0,cell_later bq v2⟩
 clear hK K
 try go_frame
 refine rgStep 12 (fun K hK=> ?_)
 go_simp
 refine (HVT.out _ bq).mono ?_;rintro e w8 ⟨rfl,bel8⟩;have bq:=below_step bel8 bq
 (try go_wp2_with fail)
 refine hK.out _ _ ?_ (fun hHeld=> ?_)
 ·(try dsimp only);exact ⟨cell_later bq d0,cell_later bq r0,cell_later bq p0,cell_later bq v2⟩
 clear hK K
 try go_frame
 refine rgTake 13 (some 5) hHeld _ ?_;try go_frame
 refine wpAnyH_done (by kernel_rfl) ?_ _
 have HB:=Lib.hid bq
 clear bq bel7 bel8
 go_wp2
 go_ret
 exact ⟨rfl,HB.out⟩
end Go.Proofs.YtipfacnmobineaaGreatDoor
