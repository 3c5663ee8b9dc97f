/- The walks of FollowStep, spec and impl. Conditions: the description reads as its small rules, the value has at most 2^20 items, the text has at most 2^20 bytes; for impl: the table of powers of ten reads as laid. -/
import Derived.Test.YteldgdelmaeokaaGreatDoorGf
import Derived.Test.YteldgdelmaeokaaGreatDoorGa
import Derived.Test.YteldgdelmaeokaaGreatDoorGb
import Derived.WalkSpells
import Derived.WalkLawsBesides
import Derived.Deep.RegionHeld3
set_option linter.unusedSimpArgs false
set_option linter.unusedVariables false
set_option maxHeartbeats 4000000
set_option maxRecDepth 100000
namespace Go.Proofs.YteldgdelmaeokaaGreatDoor
open Go.Proofs.Tryz Go.RowKit
theorem Pc (v:Value) (l:List RM) (i:Int) (x:VM) (s:ByteArray) (B:Nat) (w:World) (h:Qz w B v l) (hB:B≤w.heap.size) (ok:∀r∈l,r.d.ok) (sm:∀r∈l,r.d.small 1048576) (hx:x.rd w B) (hm:x.items.length≤1048576):
  Calls prog 36 #[.agg #[v], .int .i64 i,Qs x, .string s] w fun e w'=> e= .returned (.int .i64 (Qy (l.map RM.d) i x.items.length s))∧Below w.heap.size w w':=by
 have hK:∀W,Below w.heap.size w W→Calls prog 44 #[.agg #[v], .int .i64 i] W fun e w'=> e= .returned (.bool (Qd (l.map RM.d) i))∧Below W.heap.size W w':=fun W hb=>
  Rg v l i B W (h.below (hb.mono hB)) (by have:=hb.size;omega) ok sm
 obtain ⟨A,c,rfl,hc,hm', -⟩:=h.open_
 obtain ⟨xn,xb,vb,vi,L⟩:=x
 obtain ⟨Ab,cb,eb, -⟩:=hx.bytes.open_
 obtain ⟨Ai,ci,ei, -, -, -⟩:=hx.its.open_
 simp only [VM.vb_mk,VM.b_mk,VM.vi_mk,VM.items_mk] at eb ei hm ⊢
 subst eb ei
 clear hx
 show Calls prog 36 #[.agg #[.slice A l.length c], .int .i64 i, .agg #[.int .i64 xn, .slice Ab xb.length cb, .slice Ai L.length ci], .string s] w _
 generalize L.length=m at*
 unfold maxLen at hm'
 obtain ⟨W0,hW0⟩:∃W0,W0=(w.alloc (.cells #[.slice A l.length c] 26)).alloc (.cells #[.int .i64 xn, .slice Ab xb.length cb, .slice Ai m ci] 29):=⟨_,rfl⟩
 have hbW:Below w.heap.size w W0:=by rw [hW0];exact (Below.allocW w _ (Fu _)).alloc (by simp) _
 have zW:W0.heap.size=w.heap.size+2:=by rw [hW0];simp
 have c0:W0.cell? ⟨w.heap.size,0,none⟩=some (.slice A l.length c):=by rw [hW0];simp [go_sem]
 have c2:W0.cell? ⟨w.heap.size+1,2,none⟩=some (.slice Ai m ci):=by rw [hW0];simp [go_sem]
 cases hk:Qd (l.map RM.d) i
 ·have HX:=Fs (Kc (m:=m) (s:=s) hk)
  rw [hk] at hK
  have HK:=Fs hK
  clear hK hk h
  go_enter func36,ntmps36
  go_wp2_with fail
  rw [←hW0]
  clear hW0
  go_loopw [9,10] (fun i _ wr=> i= .int .i64 0∧wr=W0) (fun _ _ _=> 0)
  case atStart=> exact ⟨rfl,rfl⟩
  case round=>
   obtain ⟨rfl,rfl⟩:=hrel
   by_cases hz:0 < m
   ·go_wp2_with fail
    refine (HK.out _ hbW).mono ?_
    rintro e w1 ⟨rfl,bel⟩
    have b1:=Zb bel hbW
    clear bel
    go_wp2
    go_ret
    exact ⟨Qe HX.out.symm,b1⟩
   ·obtain rfl:m=0:=by omega
    go_wp2
    go_ret
    exact ⟨Qe HX.out.symm,hbW⟩
 ·obtain ⟨k,hkl,rfl,hat⟩:=Ke hk
  have hkl:k < l.length:=by simpa using hkl
  have hat:=hat m s
  rw [List.getElem_map] at hat
  have HX:=Fs hat
  rw [hk] at hK
  have HK:=Fs hK
  obtain ⟨b,off,A1,c1,A2,c2',A3,c3,A4,c4,rfl,hbB,e1,e2,e3,e4,m1,m2,m3,m4,hcell⟩:=Zw h k hkl
  have HC:=Fs hcell
  have HR:=Fs (Ft (h.2 l[k] (Fw hkl)) (Ft (sm l[k] (Fw hkl)) (Ft e1 (Ft e2 (Ft e3 e4)))))
  clear hK hk h hat hcell m1 m2 m3 m4 e1 e2 e3 e4 ok sm
  generalize l[k]=r at*
  go_enter func36,ntmps36
  go_wp2_with fail
  rw [←hW0]
  clear hW0
  go_loopw [9,10] (fun i _ wr=> ∃j:Nat,j≤m∧i= .int .i64 j∧Below W0.heap.size W0 wr∧Hid (∀q,q < j→Hq (Jt r.d q) s=false)) (fun i _ _=> m - (intOf i).toNat)
  case atStart=> exact ⟨0,Eb _,rfl,Fv _ _,Fs (fun q hq=> by omega)⟩
  case round=>
   obtain ⟨j,hj,rfl,hb,HN⟩:=hrel
   have d0:=Zz hb (show w.heap.size < W0.heap.size by omega) c0
   have d2:=Zz hb (show w.heap.size+1 < W0.heap.size by omega) c2
   have hbw:=hbW.trans (hb.mono (by omega))
   have hsz:=hb.size
   by_cases hlt:j < m
   ·go_wp2_with fail
    refine (HK.out _ hbw).mono ?_
    rintro e w1 ⟨rfl,bel⟩
    have b1:=Zb bel hbw
    have bb1:=Zb bel hb
    have q0:=Ec bel d0
    have q2:=Ec bel d2
    have z1:=b1.size
    obtain ⟨x0,x1,x2,x3,x4,x5,x6,x7⟩:=HC.out w1 (Zu b1 hB)
    have HS:=Fs (Ly r j B w1 (HR.out.1.below (b1.mono hB)) (by omega) (by omega) (by omega) HR.out.2.1)
    clear bel
    go_wp2_with fail
    have hs:=HS.out
    unfold Ja at hs
    rw [HR.out.2.2.1,HR.out.2.2.2.1,HR.out.2.2.2.2.1,HR.out.2.2.2.2.2] at hs
    refine hs.mono ?_
    rintro e w2 ⟨rfl,bel2⟩
    have b2:=Zb bel2 b1
    have bb2:=Zb bel2 bb1
    have HB:=Fs (Ft b2 bb2)
    clear hs x0 x1 x2 x3 x4 x5 x6 x7 q0 q2 d0 d2 bel2 b1 bb1 b2 bb2 hb hbw HS
    cases hh:Hq (Jt r.d j) s
    ·have HM:=Fs (show ∀q,q < j+1→Hq (Jt r.d q) s=false from fun q hq=> by
      by_cases e:q=j
      ·rw [e];exact hh
      ·exact HN.out q (by omega))
     generalize Jt r.d j=T at*
     cases he:T.toList.isEmpty
     ·have he2:(T.toList==s.toList)=false:=by
       unfold Hq at hh;rw [he] at hh;simpa using hh
      have he3:(T.toList==([]:List UInt8))=false:=by rw [nilB,he]
      clear hh
      go_wp2
      go_roundw
      case rel=> exact ⟨j+1,by omega,by go_num,HB.out.2,HM⟩
      case measure=> simp [intOf];omega
     ·have he3:(T.toList==([]:List UInt8))=true:=by rw [nilB,he]
      clear hh
      go_wp2
      go_roundw
      case rel=> exact ⟨j+1,by omega,by go_num,HB.out.2,HM⟩
      case measure=> simp [intOf];omega
    ·have HY:=Fs (HX.out.trans (Vp hlt hh HN.out))
     generalize Jt r.d j=T at*
     unfold Hq at hh
     rw [Bool.and_eq_true,Bool.not_eq_true'] at hh
     have he:=hh.1
     have he2:=hh.2
     have he3:(T.toList==([]:List UInt8))=false:=by rw [nilB,he]
     clear hh
     go_wp2
     go_ret
     exact ⟨Qe HY.out.symm,HB.out.1⟩
   ·obtain rfl:j=m:=by omega
    have HY:=Fs (HX.out.trans (Xd HN.out))
    clear c0
    go_wp2
    go_ret
    exact ⟨Qe HY.out.symm,hbw⟩
theorem Fo (t s:ByteArray) (g:Nat) (w:World) (hp:w.cell? ⟨g,0,none⟩=some (.string s)):
  Calls prog 87 #[.string t, .pointer (some ⟨g,0,none⟩)] w fun e w'=> e= .returned (.bool (t.toList==s.toList))∧w=w':=by
 go_enter func87,ntmps87
 go_wp2
 go_ret
 exact ⟨rfl,rfl⟩
theorem indexT_any (v:Value) (l:List ByteArray) (s:ByteArray) (g:Nat) (B:Nat) (w:World) (h:Va w B v l) (hl:l.length≤1048576) (hp:w.cell? ⟨g,0,none⟩=some (.string s)):
  Calls prog 86 #[v, .func (.func 87) #[] #[.pointer (some ⟨g,0,none⟩)]] w fun e w'=> w=w'∧
   ((e= .returned (.int .i64 (-1))∧∀k (hk:k < l.length),(l[k].toList==s.toList)=false)∨
    ∃j:Nat,∃hj:j < l.length,e= .returned (.int .i64 j)∧(l[j].toList==s.toList)=true∧∀k (hk:k < j),((l[k]'(by omega)).toList==s.toList)=false):=by
 obtain ⟨A,c,rfl,hc,hm,hcell⟩:=h.one
 unfold maxLen at hm
 clear h
 go_enter func86,ntmps86
 go_wp2
 go_loopw [5,6,9] (fun _ _ i wr=> wr=w∧∃k:Nat,k≤l.length∧i= .int .i64 k∧Hid (∀q (hq:q < k) (hl:q < l.length),(l[q].toList==s.toList)=false)) (fun _ _ i _=> l.length - (intOf i).toNat)
 case atStart=> exact ⟨rfl,0,Eb _,rfl,Fs (fun q hq=> by omega)⟩
 case round=>
  obtain ⟨rfl,k,hk,rfl,HN⟩:=hrel
  by_cases hlt:k < l.length
  ·obtain ⟨b,off,rfl,hbB,hc0⟩:=hcell k hlt
   clear hcell
   go_wp2_with fail
   refine (Fo l[k] s g _ hp).mono ?_
   rintro e w1 ⟨rfl,rfl⟩
   cases hh:(l[k].toList==s.toList)
   ·have HM:=Fs (show ∀q (hq:q < k+1) (hl:q < l.length),(l[q].toList==s.toList)=false from fun q hq hl=> by
     by_cases e:q=k
     ·subst e;exact hh
     ·exact HN.out q (by omega) hl)
    clear hh
    go_wp2
    go_roundw
    case rel=> exact ⟨by trivial,k+1,by omega,by go_num,HM⟩
    case measure=> simp [intOf];omega
   ·have HH:=Fs hh
    clear hh
    go_wp2
    go_ret
    exact ⟨rfl, .inr ⟨k,hlt,rfl,HH.out,fun q hq=> HN.out q hq (by omega)⟩⟩
  ·clear hcell
   go_wp2
   go_ret
   exact ⟨rfl, .inl ⟨rfl,fun q hq=> HN.out q (by omega) hq⟩⟩
theorem Iw (v:Value) (l:List RM) (i:Int) (x:VM) (s:ByteArray) (B:Nat) (w:World) (h:Qz w B v l) (hB:B≤w.heap.size) (ok:∀r∈l,r.d.ok) (sm:∀r∈l,r.d.small 1048576) (hx:x.rd w B) (hm:x.items.length≤1048576) (hs:s.size≤maxLen) (ht:Tab w):
  Calls prog 74 #[.agg #[v], .int .i64 i,Qs x, .string s] w fun e w'=> e= .returned (.int .i64 (Qy (l.map RM.d) i x.items.length s))∧Below w.heap.size w w':=by
 have hK:∀W,Below w.heap.size w W→Calls prog 60 #[.agg #[v], .int .i64 i] W fun e w'=> e= .returned (.bool (Qd (l.map RM.d) i))∧Below W.heap.size W w':=fun W hb=>
  Rl v l i B W (h.below (hb.mono hB)) (by have:=hb.size;omega) ok sm
 have hT:∀(it:Int) W,Qa it→Below w.heap.size w W→Calls prog 88 #[.agg #[v], .int .i64 i, .int .i64 it] W fun e w'=> e= .returned (.string (Of (l.map RM.d) i it))∧Below W.heap.size W w':=fun it W hi hb=>
  Iu v l i it B W (h.below (hb.mono hB)) (by have:=hb.size;omega) ok sm hi (Pb ht hb)
 have HT:=Fs hT
 clear hT ht
 obtain ⟨A,c,rfl,hc,hm', -⟩:=h.open_
 obtain ⟨xn,xb,vb,vi,L⟩:=x
 obtain ⟨Ab,cb,eb, -⟩:=hx.bytes.open_
 obtain ⟨Ai,ci,ei, -, -, -⟩:=hx.its.open_
 simp only [VM.vb_mk,VM.b_mk,VM.vi_mk,VM.items_mk] at eb ei hm ⊢
 subst eb ei
 clear hx
 show Calls prog 74 #[.agg #[.slice A l.length c], .int .i64 i, .agg #[.int .i64 xn, .slice Ab xb.length cb, .slice Ai L.length ci], .string s] w _
 generalize L.length=m at*
 have hsz:=hs
 unfold maxLen at hm' hs
 obtain ⟨W0,hW0⟩:∃W0,W0=((w.alloc (.cells #[.slice A l.length c] 26)).alloc (.cells #[.int .i64 xn, .slice Ab xb.length cb, .slice Ai m ci] 29)).alloc (.cells #[.string s] 9):=⟨_,rfl⟩
 have hbW:Below w.heap.size w W0:=by rw [hW0];exact ((Below.allocW w _ (Fu _)).alloc (by simp) _).alloc (by simp;omega) _
 have zW0:w.heap.size+3≤W0.heap.size:=by rw [hW0];simp
 have c0:W0.cell? ⟨w.heap.size,0,none⟩=some (.slice A l.length c):=by rw [hW0];simp [go_sem]
 have c2:W0.cell? ⟨w.heap.size+1,2,none⟩=some (.slice Ai m ci):=by rw [hW0];simp [go_sem]
 have c7:W0.cell? ⟨w.heap.size+1+1,0,none⟩=some (.string s):=by rw [hW0];simp [go_sem]
 cases hk:Qd (l.map RM.d) i
 ·have HX:=Fs (Kc (m:=m) (s:=s) hk)
  rw [hk] at hK
  have HK:=Fs hK
  clear hK hk h
  go_enter func74,ntmps74
  go_wp2_with fail
  rw [←hW0]
  clear hW0
  refine (HK.out _ hbW).mono ?_
  rintro e w1 ⟨rfl,bel⟩
  have b1:=Zb bel hbW
  clear bel
  go_wp2
  go_ret
  exact ⟨Qe HX.out.symm,b1⟩
 ·obtain ⟨k,hkl,rfl,hat⟩:=Ke hk
  have hkl:k < l.length:=by simpa using hkl
  have hat:=hat m s
  rw [List.getElem_map] at hat
  have HX:=Fs hat
  have hst:∀it:Int,0≤it→Of (l.map RM.d) k it=Jt l[k].d it:=fun it h0=> by
   obtain ⟨k',hk',e,e2⟩:=Ga (D:=l.map RM.d) (rule:=(k:Int)) hk h0
   obtain rfl:k=k':=by omega
   rw [e2,List.getElem_map]
  have HST:=Fs hst
  rw [hk] at hK
  have HK:=Fs hK
  have hsmk:=(sm l[k] (Fw hkl)).names
  have hnr:=(h.2 l[k] (Fw hkl)).n
  obtain ⟨b,off,A1,c1,A2,c2',A3,c3,A4,c4,rfl,hbB,e1,e2,e3,e4,m1,m2,m3,m4,hcell⟩:=Zw h k hkl
  rw [e2] at hnr
  have HC:=Fs hcell
  have HNR:=Fs hnr
  clear hK hk h hat hcell m1 m2 m3 m4 e1 e2 e3 e4 ok sm hst hnr
  generalize l[k]=r at*
  generalize r.d=d at*
  go_enter func74,ntmps74
  go_wp2_with fail
  rw [←hW0]
  clear hW0
  refine (HK.out _ hbW).mono ?_
  rintro e w1 ⟨rfl,bel⟩
  have b1:=Zb bel hbW
  have d0:=Ec bel c0
  have d2:=Ec bel c2
  have d7:=Ec bel c7
  have z1:w.heap.size+1+1 < w1.heap.size:=by have:=bel.size;omega
  have z2:w.heap.size+1 < w1.heap.size:=by omega
  have z3:w.heap.size < w1.heap.size:=by omega
  clear bel c0 c2 c7
  obtain ⟨W2,hW2⟩:∃W2,W2=w1.alloc (.cells #[.string d.name, .int .i64 d.kind, .int .i64 d.size, .bool d.little, .slice A1 d.bytes.length c1, .slice A2 d.names.length c2', .slice A3 d.tags.length c3, .slice A4 d.kids.length c4] 50):=⟨_,rfl⟩
  have b2:Below w.heap.size w W2:=by rw [hW2];exact b1.alloc b1.size _
  have bw:Below w1.heap.size w1 W2:=by rw [hW2];exact Below.allocW w1 _ (Fu _)
  have y0:=Ec bw d0
  have y2:=Ec bw d2
  have y7:=Ec bw d7
  have yk:W2.cell? ⟨w1.heap.size,1,none⟩=some (.int .i64 d.kind):=by rw [hW2];simp [go_sem]
  have yn:W2.cell? ⟨w1.heap.size,5,none⟩=some (.slice A2 d.names.length c2'):=by rw [hW2];simp [go_sem]
  obtain ⟨x0,x1,x2,x3,x4,x5,x6,x7⟩:=HC.out w1 (Zu b1 hB)
  clear HC
  have hin:Qa 0:=by constructor <;> omega
  have hmB:(m:Int)≤1048576:=by omega
  by_cases q5:d.kind=5
  ·have f5:(d.kind==5)=true:=by rw [q5];rfl
   have H5:=Fs q5
   clear q5
   cases hn:Jf s.data.toList
   ·have HY:=Fs (HX.out.trans (fol_5_no H5.out hm hn))
    have HP:=Fs (show Calls prog 85 #[.string s] W2 fun e w'=> e= .returned (.tuple #[.int .i64 (Tt s.data.toList), .bool false])∧W2=w' by have:=Um s W2 hsz;rw [hn] at this;exact this)
    clear hn HNR HT HST
    generalize Tt s.data.toList=nn at*
    go_wp2_with fail
    rw [←hW2]
    clear hW2 x0 x1 x2 x3 x4 x5 x6 x7 d0 d2 d7 bw
    refine HP.out.mono ?_
    rintro e w8 ⟨rfl,rfl⟩
    go_wp2
    go_ret
    exact ⟨Qe HY.out.symm,b2⟩
   ·obtain ⟨t1,t2,t3⟩:=Ol _ hn
    have hne:s.data.toList≠ []:=fun e=> by rw [e] at hn;exact absurd hn (by decide)
    have HP0:=Fs (show Calls prog 85 #[.string s] W2 fun e w'=> e= .returned (.tuple #[.int .i64 (Yg s.data.toList:Nat), .bool true])∧W2=w' by have:=Um s W2 hsz;rw [hn,t2] at this;exact this)
    have hHY:Pz d m s=if Yg s.data.toList < m then ((Yg s.data.toList:Nat):Int) else -1:=by
     split
     ·rename_i hlt;exact fol_5_at H5.out hm hn hlt
     ·rename_i hlt;exact fol_5_ge H5.out hm (by omega)
    have hSt:Jt d (Yg s.data.toList:Nat)=s:=by
     rw [Ru H5.out,t1];rfl
    have HHY:=Fs hHY
    have HSt:=Fs hSt
    clear hHY hSt t1 t2 hn
    generalize Yg s.data.toList=v at*
    have HP:=Fs HP0.out
    have h0:decide ((v:Int) < 0)=false:=by simp
    have e3:(s.toList==([]:List UInt8))=false:=by rw [nilB,Lib.toList_data];simpa using hne
    clear HP0 hne
    by_cases hlt:v < m
    ·have HY:=Fs (HX.out.trans (HHY.out.trans (if_pos hlt)))
     have HCALL:=Fs (fun W (hW:Below w.heap.size w W)=> show Calls prog 88 #[.agg #[.slice (some ⟨b,off,none⟩) l.length c], .int .i64 k, .int .i64 v] W fun e w'=> e= .returned (.string s)∧Below W.heap.size W w' by
      have:=HT.out v W ⟨by omega,by omega⟩ hW
      rw [HST.out v (by omega),HSt.out] at this
      exact this)
     have h1:decide (m≤v)=false:=Fx (by omega)
     have h2:decide ((m:Int)≤(v:Int))=false:=Fx (by omega)
     have e1:(s.toList==s.toList)=true:=by simp
     have e2:(s.toList !=s.toList)=false:=by simp
     clear HHY HSt HT HST HNR
     go_wp2_with fail
     rw [←hW2]
     clear hW2 x0 x1 x2 x3 x4 x5 x6 x7 d0 d2 d7 bw
     refine HP.out.mono ?_
     rintro e w8 ⟨rfl,rfl⟩
     go_wp2_with fail
     refine wp_region_held_drew (S:=(fun w9=> w9.cell? ⟨w.heap.size,0,none⟩=some (.slice (some ⟨b,off,none⟩) l.length c)∧w9.cell? ⟨w.heap.size+1,2,none⟩=some (.slice Ai m ci)∧w9.cell? ⟨w.heap.size+1+1,0,none⟩=some (.string s))) (by kernel_rfl) ?_ (fun hHeld=> ?_)
     ·(try dsimp only);exact ⟨y0,y2,y7⟩
     refine Za 0 (some 40) hHeld _ ?_;try go_frame
     refine Za 1 (some 41) hHeld _ ?_;try go_frame
     refine Za 2 (some 42) hHeld _ ?_;try go_frame
     refine Za 3 (some 43) hHeld _ ?_;try go_frame
     refine Za 4 (some 44) hHeld _ ?_;try go_frame
     refine Za 5 (some 45) hHeld _ ?_;try go_frame
     refine Za 6 (some 46) hHeld _ ?_;try go_frame
     refine Za 7 (some 47) hHeld _ ?_;try go_frame
     refine Za 8 (some 48) hHeld _ ?_;try go_frame
     refine Za 9 (some 49) hHeld _ ?_;try go_frame
     refine Za 10 (some 50) hHeld _ ?_;try go_frame
     refine Za 11 (some 51) hHeld _ ?_;try go_frame
     refine Za 12 (some 52) hHeld _ ?_;try go_frame
     refine Za 14 (some 54) hHeld _ ?_;try go_frame
     refine Zh 13 (fun K hK=> ?_)
     go_simp
     refine (HCALL.out _ (b2.drew)).mono ?_;rintro e w9 ⟨rfl,bel⟩
     (try go_wp2_with fail)
     refine hK.out _ _ ?_ (fun hHeld=> ?_)
     ·(try dsimp only);exact ⟨Ec bel y0,Ec bel y2,Ec bel y7⟩
     clear hK K
     try go_frame
     refine Za 15 (some 55) hHeld _ ?_;try go_frame
     refine Za 16 (some 56) hHeld _ ?_;try go_frame
     refine Za 17 (some 57) hHeld _ ?_;try go_frame
     refine Za 18 (some 58) hHeld _ ?_;try go_frame
     refine Za 19 (some 59) hHeld _ ?_;try go_frame
     refine Za 20 (some 60) hHeld _ ?_;try go_frame
     refine wpAnyH_done (by kernel_rfl) ?_ _
     go_wp2
     go_ret
     exact ⟨Qe HY.out.symm,Zb bel b2.drew⟩
    ·have HY:=Fs (HX.out.trans (HHY.out.trans (if_neg hlt)))
     have h1:decide (m≤v)=true:=Fy (by omega)
     have h2:decide ((m:Int)≤(v:Int))=true:=Fy (by omega)
     have h3:m≤v:=by omega
     clear HHY HSt HT HST HNR hlt
     go_wp2_with fail
     rw [←hW2]
     clear hW2 x0 x1 x2 x3 x4 x5 x6 x7 d0 d2 d7 bw
     refine HP.out.mono ?_
     rintro e w8 ⟨rfl,rfl⟩
     go_wp2_with fail
     refine wp_region_held_drew (S:=(fun w9=> w9.cell? ⟨w.heap.size,0,none⟩=some (.slice (some ⟨b,off,none⟩) l.length c)∧w9.cell? ⟨w.heap.size+1,2,none⟩=some (.slice Ai m ci)∧w9.cell? ⟨w.heap.size+1+1,0,none⟩=some (.string s))) (by kernel_rfl) ?_ (fun hHeld=> ?_)
     ·(try dsimp only);exact ⟨y0,y2,y7⟩
     refine Za 0 (some 40) hHeld _ ?_;try go_frame
     refine Za 1 (some 41) hHeld _ ?_;try go_frame
     refine Za 2 (some 42) hHeld _ ?_;try go_frame
     refine Za 3 (some 43) hHeld _ ?_;try go_frame
     refine Za 4 (some 44) hHeld _ ?_;try go_frame
     refine Za 5 (some 45) hHeld _ ?_;try go_frame
     refine Za 6 (some 46) hHeld _ ?_;try go_frame
     refine Za 7 (some 47) hHeld _ ?_;try go_frame
     refine Za 8 (some 48) hHeld _ ?_;try go_frame
     refine Za 9 (some 49) hHeld _ ?_;try go_frame
     refine Zl 10 (some 50) hHeld ?_;try go_frame
     refine Zl 11 (some 51) hHeld ?_;try go_frame
     refine Zl 12 (some 52) hHeld ?_;try go_frame
     refine Zl 13 (some 53) hHeld ?_;try go_frame
     refine Zl 14 (some 54) hHeld ?_;try go_frame
     refine Zl 15 (some 55) hHeld ?_;try go_frame
     refine Za 16 (some 56) hHeld _ ?_;try go_frame
     refine Za 17 (some 57) hHeld _ ?_;try go_frame
     refine Zl 18 (some 58) hHeld ?_;try go_frame
     refine Zl 19 (some 59) hHeld ?_;try go_frame
     refine Za 20 (some 60) hHeld _ ?_;try go_frame
     refine wpAnyH_done (by kernel_rfl) ?_ _
     go_wp2
     go_ret
     exact ⟨Qe HY.out.symm,b2.drew⟩
  ·have f5:(d.kind==5)=false:=beq_eq_false_iff_ne.2 q5
   by_cases q6:d.kind=6
   ·have f6:(d.kind==6)=true:=by rw [q6];rfl
    have H6:=Fs q6
    clear q5 q6
    have HI:=Fs (indexT_any (.slice A2 d.names.length c2') d.names s (w.heap.size+1+1) B W2 (HNR.out.below (b2.mono hB)) (by omega) y7)
    go_wp2_with fail
    rw [←hW2]
    clear hW2 x0 x1 x2 x3 x4 x5 x6 x7 d0 d2 d7 bw
    refine HI.out.mono ?_
    rintro e w8 ⟨rfl,h8⟩
    rcases h8 with ⟨rfl,hno⟩|⟨j,hj,rfl,hje,hjn⟩
    ·have HY:=Fs (HX.out.trans (fol_6_no H6.out fun q hq _=> by have:=hno q hq;rw [Lib.toList_data,Lib.toList_data] at this;exact beq_eq_false_iff_ne.1 this))
     clear hno HNR HT HST HI
     go_wp2_with fail
     refine wp_region_held_drew (S:=(fun w9=> w9.cell? ⟨w.heap.size,0,none⟩=some (.slice (some ⟨b,off,none⟩) l.length c)∧w9.cell? ⟨w.heap.size+1,2,none⟩=some (.slice Ai m ci)∧w9.cell? ⟨w.heap.size+1+1,0,none⟩=some (.string s))) (by kernel_rfl) ?_ (fun hHeld=> ?_)
     ·(try dsimp only);exact ⟨y0,y2,y7⟩
     refine Za 0 (some 40) hHeld _ ?_;try go_frame
     refine Za 1 (some 41) hHeld _ ?_;try go_frame
     refine Za 2 (some 42) hHeld _ ?_;try go_frame
     refine Zl 3 (some 43) hHeld ?_;try go_frame
     refine Zl 4 (some 44) hHeld ?_;try go_frame
     refine Zl 5 (some 45) hHeld ?_;try go_frame
     refine Zl 6 (some 46) hHeld ?_;try go_frame
     refine Zl 7 (some 47) hHeld ?_;try go_frame
     refine Za 8 (some 48) hHeld _ ?_;try go_frame
     refine Za 9 (some 49) hHeld _ ?_;try go_frame
     refine Zl 10 (some 50) hHeld ?_;try go_frame
     refine Zl 11 (some 51) hHeld ?_;try go_frame
     refine Zl 12 (some 52) hHeld ?_;try go_frame
     refine Zl 13 (some 53) hHeld ?_;try go_frame
     refine Zl 14 (some 54) hHeld ?_;try go_frame
     refine Zl 15 (some 55) hHeld ?_;try go_frame
     refine Za 16 (some 56) hHeld _ ?_;try go_frame
     refine Za 17 (some 57) hHeld _ ?_;try go_frame
     refine Zl 18 (some 58) hHeld ?_;try go_frame
     refine Zl 19 (some 59) hHeld ?_;try go_frame
     refine Za 20 (some 60) hHeld _ ?_;try go_frame
     refine wpAnyH_done (by kernel_rfl) ?_ _
     go_wp2
     go_ret
     exact ⟨Qe HY.out.symm,b2.drew⟩
    ·have hje':d.names[j].data.toList=s.data.toList:=by rw [Lib.toList_data,Lib.toList_data] at hje;exact eq_of_beq hje
     have hjn':∀q (hq:q < j),(d.names[q]'(by omega)).data.toList≠s.data.toList:=fun q hq=> by have:=hjn q hq;rw [Lib.toList_data,Lib.toList_data] at this;exact beq_eq_false_iff_ne.1 this
     have HJ:=Fs (Ft hje' hjn')
     have h0:decide ((j:Int) < 0)=false:=by simp
     clear hje hjn hje' hjn' HI
     by_cases hlt:j < m
     ·have h1:decide (m≤j)=false:=Fx (by omega)
      have h2:decide ((m:Int)≤(j:Int))=false:=Fx (by omega)
      have HCALL:=Fs (fun W (hW:Below w.heap.size w W)=> show Calls prog 88 #[.agg #[.slice (some ⟨b,off,none⟩) l.length c], .int .i64 k, .int .i64 j] W fun e w'=> e= .returned (.string d.names[j])∧Below W.heap.size W w' by
       have:=HT.out j W ⟨by omega,by omega⟩ hW
       rw [HST.out j (by omega),Pp H6.out hj] at this
       exact this)
      have e1:=eqT_true HJ.out.1
      have e2:(d.names[j].toList !=s.toList)=false:=by rw [bne,e1];rfl
      cases hs0:s.data.toList.isEmpty
      ·have e3:(s.toList==([]:List UInt8))=false:=by rw [nilB,Lib.toList_data];exact hs0
       have HY:=Fs (HX.out.trans (fol_6_at H6.out hj hlt HJ.out.1 (fun e=> by rw [e] at hs0;cases hs0) HJ.out.2))
       clear hs0 HT HST HNR HJ
       generalize d.names[j]=T at*
       go_wp2_with fail
       refine wp_region_held_drew (S:=(fun w9=> w9.cell? ⟨w.heap.size,0,none⟩=some (.slice (some ⟨b,off,none⟩) l.length c)∧w9.cell? ⟨w.heap.size+1,2,none⟩=some (.slice Ai m ci)∧w9.cell? ⟨w.heap.size+1+1,0,none⟩=some (.string s))) (by kernel_rfl) ?_ (fun hHeld=> ?_)
       ·(try dsimp only);exact ⟨y0,y2,y7⟩
       refine Za 0 (some 40) hHeld _ ?_;try go_frame
       refine Za 1 (some 41) hHeld _ ?_;try go_frame
       refine Za 2 (some 42) hHeld _ ?_;try go_frame
       refine Za 3 (some 43) hHeld _ ?_;try go_frame
       refine Za 4 (some 44) hHeld _ ?_;try go_frame
       refine Za 5 (some 45) hHeld _ ?_;try go_frame
       refine Za 6 (some 46) hHeld _ ?_;try go_frame
       refine Za 7 (some 47) hHeld _ ?_;try go_frame
       refine Za 8 (some 48) hHeld _ ?_;try go_frame
       refine Za 9 (some 49) hHeld _ ?_;try go_frame
       refine Za 10 (some 50) hHeld _ ?_;try go_frame
       refine Za 11 (some 51) hHeld _ ?_;try go_frame
       refine Za 12 (some 52) hHeld _ ?_;try go_frame
       refine Za 14 (some 54) hHeld _ ?_;try go_frame
       refine Zh 13 (fun K hK=> ?_)
       go_simp
       refine (HCALL.out _ (b2.drew)).mono ?_;rintro e w9 ⟨rfl,bel⟩
       (try go_wp2_with fail)
       refine hK.out _ _ ?_ (fun hHeld=> ?_)
       ·(try dsimp only);exact ⟨Ec bel y0,Ec bel y2,Ec bel y7⟩
       clear hK K
       try go_frame
       refine Za 15 (some 55) hHeld _ ?_;try go_frame
       refine Za 16 (some 56) hHeld _ ?_;try go_frame
       refine Za 17 (some 57) hHeld _ ?_;try go_frame
       refine Za 18 (some 58) hHeld _ ?_;try go_frame
       refine Za 19 (some 59) hHeld _ ?_;try go_frame
       refine Za 20 (some 60) hHeld _ ?_;try go_frame
       refine wpAnyH_done (by kernel_rfl) ?_ _
       go_wp2
       go_ret
       exact ⟨Qe HY.out.symm,Zb bel b2.drew⟩
      ·have e3:(s.toList==([]:List UInt8))=true:=by rw [nilB,Lib.toList_data];exact hs0
       have HY:=Fs (HX.out.trans (Gn (by simpa using hs0)))
       clear hs0 HT HST HNR HJ
       generalize d.names[j]=T at*
       go_wp2_with fail
       refine wp_region_held_drew (S:=(fun w9=> w9.cell? ⟨w.heap.size,0,none⟩=some (.slice (some ⟨b,off,none⟩) l.length c)∧w9.cell? ⟨w.heap.size+1,2,none⟩=some (.slice Ai m ci)∧w9.cell? ⟨w.heap.size+1+1,0,none⟩=some (.string s))) (by kernel_rfl) ?_ (fun hHeld=> ?_)
       ·(try dsimp only);exact ⟨y0,y2,y7⟩
       refine Za 0 (some 40) hHeld _ ?_;try go_frame
       refine Za 1 (some 41) hHeld _ ?_;try go_frame
       refine Za 2 (some 42) hHeld _ ?_;try go_frame
       refine Za 3 (some 43) hHeld _ ?_;try go_frame
       refine Za 4 (some 44) hHeld _ ?_;try go_frame
       refine Za 5 (some 45) hHeld _ ?_;try go_frame
       refine Za 6 (some 46) hHeld _ ?_;try go_frame
       refine Za 7 (some 47) hHeld _ ?_;try go_frame
       refine Za 8 (some 48) hHeld _ ?_;try go_frame
       refine Za 9 (some 49) hHeld _ ?_;try go_frame
       refine Za 10 (some 50) hHeld _ ?_;try go_frame
       refine Za 11 (some 51) hHeld _ ?_;try go_frame
       refine Za 12 (some 52) hHeld _ ?_;try go_frame
       refine Za 14 (some 54) hHeld _ ?_;try go_frame
       refine Zh 13 (fun K hK=> ?_)
       go_simp
       refine (HCALL.out _ (b2.drew)).mono ?_;rintro e w9 ⟨rfl,bel⟩
       (try go_wp2_with fail)
       refine hK.out _ _ ?_ (fun hHeld=> ?_)
       ·(try dsimp only);exact ⟨Ec bel y0,Ec bel y2,Ec bel y7⟩
       clear hK K
       try go_frame
       refine Za 15 (some 55) hHeld _ ?_;try go_frame
       refine Za 16 (some 56) hHeld _ ?_;try go_frame
       refine Za 17 (some 57) hHeld _ ?_;try go_frame
       refine Za 18 (some 58) hHeld _ ?_;try go_frame
       refine Za 19 (some 59) hHeld _ ?_;try go_frame
       refine Za 20 (some 60) hHeld _ ?_;try go_frame
       refine wpAnyH_done (by kernel_rfl) ?_ _
       go_wp2
       go_ret
       exact ⟨Qe HY.out.symm,Zb bel b2.drew⟩
     ·have h1:decide (m≤j)=true:=Fy (by omega)
      have h2:decide ((m:Int)≤(j:Int))=true:=Fy (by omega)
      have h3:m≤j:=by omega
      have HY:=Fs (HX.out.trans (fol_6_no H6.out fun q hq hqm=> HJ.out.2 q (by omega)))
      clear HT HST HNR HJ hlt
      go_wp2_with fail
      refine wp_region_held_drew (S:=(fun w9=> w9.cell? ⟨w.heap.size,0,none⟩=some (.slice (some ⟨b,off,none⟩) l.length c)∧w9.cell? ⟨w.heap.size+1,2,none⟩=some (.slice Ai m ci)∧w9.cell? ⟨w.heap.size+1+1,0,none⟩=some (.string s))) (by kernel_rfl) ?_ (fun hHeld=> ?_)
      ·(try dsimp only);exact ⟨y0,y2,y7⟩
      refine Za 0 (some 40) hHeld _ ?_;try go_frame
      refine Za 1 (some 41) hHeld _ ?_;try go_frame
      refine Za 2 (some 42) hHeld _ ?_;try go_frame
      refine Za 3 (some 43) hHeld _ ?_;try go_frame
      refine Za 4 (some 44) hHeld _ ?_;try go_frame
      refine Za 5 (some 45) hHeld _ ?_;try go_frame
      refine Za 6 (some 46) hHeld _ ?_;try go_frame
      refine Za 7 (some 47) hHeld _ ?_;try go_frame
      refine Za 8 (some 48) hHeld _ ?_;try go_frame
      refine Za 9 (some 49) hHeld _ ?_;try go_frame
      refine Zl 10 (some 50) hHeld ?_;try go_frame
      refine Zl 11 (some 51) hHeld ?_;try go_frame
      refine Zl 12 (some 52) hHeld ?_;try go_frame
      refine Zl 13 (some 53) hHeld ?_;try go_frame
      refine Zl 14 (some 54) hHeld ?_;try go_frame
      refine Zl 15 (some 55) hHeld ?_;try go_frame
      refine Za 16 (some 56) hHeld _ ?_;try go_frame
      refine Za 17 (some 57) hHeld _ ?_;try go_frame
      refine Zl 18 (some 58) hHeld ?_;try go_frame
      refine Zl 19 (some 59) hHeld ?_;try go_frame
      refine Za 20 (some 60) hHeld _ ?_;try go_frame
      refine wpAnyH_done (by kernel_rfl) ?_ _
      go_wp2
      go_ret
      exact ⟨Qe HY.out.symm,b2.drew⟩
   ·have f6:(d.kind==6)=false:=beq_eq_false_iff_ne.2 q6
    have HCALL0:=fun W (hW:Below w.heap.size w W)=> show Calls prog 88 #[.agg #[.slice (some ⟨b,off,none⟩) l.length c], .int .i64 k, .int .i64 0] W fun e w'=> e= .returned (.string (Jt d 0))∧Below W.heap.size W w' by
     have:=HT.out 0 W hin hW
     rw [HST.out 0 (by omega)] at this
     exact this
    have HCALL:=Fs HCALL0
    have HQ:=Fs (Ft q5 q6)
    clear HT HST HNR q5 q6 HCALL0
    go_wp2_with fail
    rw [←hW2]
    clear hW2 x0 x1 x2 x3 x4 x5 x6 x7 d0 d2 d7 bw
    by_cases hm0:m=0
    ·have HY:=Fs (HX.out.trans (show Pz d m s= -1 by rw [hm0];exact fol_0_m))
     have h1:decide (m=0)=true:=Fy hm0
     have h2:(m=0)=True:=eq_true hm0
     clear HCALL hm0
     go_wp2_with fail
     refine wp_region_held_drew (S:=(fun w9=> w9.cell? ⟨w.heap.size,0,none⟩=some (.slice (some ⟨b,off,none⟩) l.length c)∧w9.cell? ⟨w.heap.size+1,2,none⟩=some (.slice Ai m ci)∧w9.cell? ⟨w.heap.size+1+1,0,none⟩=some (.string s))) (by kernel_rfl) ?_ (fun hHeld=> ?_)
     ·(try dsimp only);exact ⟨y0,y2,y7⟩
     refine Za 0 (some 40) hHeld _ ?_;try go_frame
     refine Za 1 (some 41) hHeld _ ?_;try go_frame
     refine Za 2 (some 42) hHeld _ ?_;try go_frame
     refine Za 3 (some 43) hHeld _ ?_;try go_frame
     refine Za 4 (some 44) hHeld _ ?_;try go_frame
     refine Za 5 (some 45) hHeld _ ?_;try go_frame
     refine Za 6 (some 46) hHeld _ ?_;try go_frame
     refine Za 7 (some 47) hHeld _ ?_;try go_frame
     refine Za 8 (some 48) hHeld _ ?_;try go_frame
     refine Za 9 (some 49) hHeld _ ?_;try go_frame
     refine Zl 10 (some 50) hHeld ?_;try go_frame
     refine Zl 11 (some 51) hHeld ?_;try go_frame
     refine Zl 12 (some 52) hHeld ?_;try go_frame
     refine Zl 13 (some 53) hHeld ?_;try go_frame
     refine Zl 14 (some 54) hHeld ?_;try go_frame
     refine Zl 15 (some 55) hHeld ?_;try go_frame
     refine Za 16 (some 56) hHeld _ ?_;try go_frame
     refine Za 17 (some 57) hHeld _ ?_;try go_frame
     refine Zl 18 (some 58) hHeld ?_;try go_frame
     refine Zl 19 (some 59) hHeld ?_;try go_frame
     refine Za 20 (some 60) hHeld _ ?_;try go_frame
     refine wpAnyH_done (by kernel_rfl) ?_ _
     go_wp2
     go_ret
     exact ⟨Qe HY.out.symm,b2.drew⟩
    ·have h1:decide (m=0)=false:=Fx hm0
     have h2:(m=0)=False:=eq_false hm0
     have h3:0 < m:=by omega
     clear hm0
     by_cases he:(Jt d 0).data.toList=s.data.toList
     ·have e1:=eqT_true he
      have e2:((Jt d 0).toList !=s.toList)=false:=by rw [bne,e1];rfl
      cases hs0:s.data.toList.isEmpty
      ·have e3:(s.toList==([]:List UInt8))=false:=by rw [nilB,Lib.toList_data];exact hs0
       have HY:=Fs (HX.out.trans (fol_0_at h3 he (fun e=> by rw [e] at hs0;cases hs0)))
       clear hs0 he
       generalize Jt d 0=T at*
       go_wp2_with fail
       refine wp_region_held_drew (S:=(fun w9=> w9.cell? ⟨w.heap.size,0,none⟩=some (.slice (some ⟨b,off,none⟩) l.length c)∧w9.cell? ⟨w.heap.size+1,2,none⟩=some (.slice Ai m ci)∧w9.cell? ⟨w.heap.size+1+1,0,none⟩=some (.string s))) (by kernel_rfl) ?_ (fun hHeld=> ?_)
       ·(try dsimp only);exact ⟨y0,y2,y7⟩
       refine Za 0 (some 40) hHeld _ ?_;try go_frame
       refine Za 1 (some 41) hHeld _ ?_;try go_frame
       refine Za 2 (some 42) hHeld _ ?_;try go_frame
       refine Za 3 (some 43) hHeld _ ?_;try go_frame
       refine Za 4 (some 44) hHeld _ ?_;try go_frame
       refine Za 5 (some 45) hHeld _ ?_;try go_frame
       refine Za 6 (some 46) hHeld _ ?_;try go_frame
       refine Za 7 (some 47) hHeld _ ?_;try go_frame
       refine Za 8 (some 48) hHeld _ ?_;try go_frame
       refine Za 9 (some 49) hHeld _ ?_;try go_frame
       refine Za 10 (some 50) hHeld _ ?_;try go_frame
       refine Za 11 (some 51) hHeld _ ?_;try go_frame
       refine Za 12 (some 52) hHeld _ ?_;try go_frame
       refine Za 14 (some 54) hHeld _ ?_;try go_frame
       refine Zh 13 (fun K hK=> ?_)
       go_simp
       refine (HCALL.out _ (b2.drew)).mono ?_;rintro e w9 ⟨rfl,bel⟩
       (try go_wp2_with fail)
       refine hK.out _ _ ?_ (fun hHeld=> ?_)
       ·(try dsimp only);exact ⟨Ec bel y0,Ec bel y2,Ec bel y7⟩
       clear hK K
       try go_frame
       refine Za 15 (some 55) hHeld _ ?_;try go_frame
       refine Za 16 (some 56) hHeld _ ?_;try go_frame
       refine Za 17 (some 57) hHeld _ ?_;try go_frame
       refine Za 18 (some 58) hHeld _ ?_;try go_frame
       refine Za 19 (some 59) hHeld _ ?_;try go_frame
       refine Za 20 (some 60) hHeld _ ?_;try go_frame
       refine wpAnyH_done (by kernel_rfl) ?_ _
       go_wp2
       go_ret
       exact ⟨Qe HY.out.symm,Zb bel b2.drew⟩
      ·have e3:(s.toList==([]:List UInt8))=true:=by rw [nilB,Lib.toList_data];exact hs0
       have HY:=Fs (HX.out.trans (Gn (by simpa using hs0)))
       clear hs0 he
       generalize Jt d 0=T at*
       go_wp2_with fail
       refine wp_region_held_drew (S:=(fun w9=> w9.cell? ⟨w.heap.size,0,none⟩=some (.slice (some ⟨b,off,none⟩) l.length c)∧w9.cell? ⟨w.heap.size+1,2,none⟩=some (.slice Ai m ci)∧w9.cell? ⟨w.heap.size+1+1,0,none⟩=some (.string s))) (by kernel_rfl) ?_ (fun hHeld=> ?_)
       ·(try dsimp only);exact ⟨y0,y2,y7⟩
       refine Za 0 (some 40) hHeld _ ?_;try go_frame
       refine Za 1 (some 41) hHeld _ ?_;try go_frame
       refine Za 2 (some 42) hHeld _ ?_;try go_frame
       refine Za 3 (some 43) hHeld _ ?_;try go_frame
       refine Za 4 (some 44) hHeld _ ?_;try go_frame
       refine Za 5 (some 45) hHeld _ ?_;try go_frame
       refine Za 6 (some 46) hHeld _ ?_;try go_frame
       refine Za 7 (some 47) hHeld _ ?_;try go_frame
       refine Za 8 (some 48) hHeld _ ?_;try go_frame
       refine Za 9 (some 49) hHeld _ ?_;try go_frame
       refine Za 10 (some 50) hHeld _ ?_;try go_frame
       refine Za 11 (some 51) hHeld _ ?_;try go_frame
       refine Za 12 (some 52) hHeld _ ?_;try go_frame
       refine Za 14 (some 54) hHeld _ ?_;try go_frame
       refine Zh 13 (fun K hK=> ?_)
       go_simp
       refine (HCALL.out _ (b2.drew)).mono ?_;rintro e w9 ⟨rfl,bel⟩
       (try go_wp2_with fail)
       refine hK.out _ _ ?_ (fun hHeld=> ?_)
       ·(try dsimp only);exact ⟨Ec bel y0,Ec bel y2,Ec bel y7⟩
       clear hK K
       try go_frame
       refine Za 15 (some 55) hHeld _ ?_;try go_frame
       refine Za 16 (some 56) hHeld _ ?_;try go_frame
       refine Za 17 (some 57) hHeld _ ?_;try go_frame
       refine Za 18 (some 58) hHeld _ ?_;try go_frame
       refine Za 19 (some 59) hHeld _ ?_;try go_frame
       refine Za 20 (some 60) hHeld _ ?_;try go_frame
       refine wpAnyH_done (by kernel_rfl) ?_ _
       go_wp2
       go_ret
       exact ⟨Qe HY.out.symm,Zb bel b2.drew⟩
     ·have e1:=eqT_false he
      have e2:((Jt d 0).toList !=s.toList)=true:=by rw [bne,e1];rfl
      have HY:=Fs (HX.out.trans (fol_0_no HQ.out.1 HQ.out.2 he))
      clear he
      generalize Jt d 0=T at*
      go_wp2_with fail
      refine wp_region_held_drew (S:=(fun w9=> w9.cell? ⟨w.heap.size,0,none⟩=some (.slice (some ⟨b,off,none⟩) l.length c)∧w9.cell? ⟨w.heap.size+1,2,none⟩=some (.slice Ai m ci)∧w9.cell? ⟨w.heap.size+1+1,0,none⟩=some (.string s))) (by kernel_rfl) ?_ (fun hHeld=> ?_)
      ·(try dsimp only);exact ⟨y0,y2,y7⟩
      refine Za 0 (some 40) hHeld _ ?_;try go_frame
      refine Za 1 (some 41) hHeld _ ?_;try go_frame
      refine Za 2 (some 42) hHeld _ ?_;try go_frame
      refine Za 3 (some 43) hHeld _ ?_;try go_frame
      refine Za 4 (some 44) hHeld _ ?_;try go_frame
      refine Za 5 (some 45) hHeld _ ?_;try go_frame
      refine Za 6 (some 46) hHeld _ ?_;try go_frame
      refine Za 7 (some 47) hHeld _ ?_;try go_frame
      refine Za 8 (some 48) hHeld _ ?_;try go_frame
      refine Za 9 (some 49) hHeld _ ?_;try go_frame
      refine Za 10 (some 50) hHeld _ ?_;try go_frame
      refine Za 11 (some 51) hHeld _ ?_;try go_frame
      refine Za 12 (some 52) hHeld _ ?_;try go_frame
      refine Za 14 (some 54) hHeld _ ?_;try go_frame
      refine Zh 13 (fun K hK=> ?_)
      go_simp
      refine (HCALL.out _ (b2.drew)).mono ?_;rintro e w9 ⟨rfl,bel⟩
      (try go_wp2_with fail)
      refine hK.out _ _ ?_ (fun hHeld=> ?_)
      ·(try dsimp only);exact ⟨Ec bel y0,Ec bel y2,Ec bel y7⟩
      clear hK K
      try go_frame
      refine Za 15 (some 55) hHeld _ ?_;try go_frame
      refine Za 16 (some 56) hHeld _ ?_;try go_frame
      refine Za 17 (some 57) hHeld _ ?_;try go_frame
      refine Zl 18 (some 58) hHeld ?_;try go_frame
      refine Zl 19 (some 59) hHeld ?_;try go_frame
      refine Za 20 (some 60) hHeld _ ?_;try go_frame
      refine wpAnyH_done (by kernel_rfl) ?_ _
      go_wp2
      go_ret
      exact ⟨Qe HY.out.symm,Zb bel b2.drew⟩
end Go.Proofs.YteldgdelmaeokaaGreatDoor
