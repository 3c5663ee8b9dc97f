/- The draws of paths and patterns. Conditions: the cursor's block holds a cursor; the texts are short. -/
import Derived.Test.YtglminmoglncpaaDrawP
import Derived.Test.YtglminmoglncpaaSplitS
import Derived.Test.YtglminmoglncpaaStepsS
import Derived.WalkSpells
import Derived.WalkLawsBesides
namespace Go.Proofs.Ytglminmoglncpaa
open Go.RowKit
/-- No letter of it is a sign of patterns. -/
def clean (s : ByteArray) : Bool := s.data.toList.all fun c => c != 35 && c != 46
theorem clean_app (a b : ByteArray) : clean (a ++ b) = (clean a && clean b) := by simp [clean, ByteArray.data_append]
theorem GoB.row {b : Nat} {a w w' : World} {row : Option Nat} (h : GoB b a w) (hg : w.grownBy w' row) (hr : ∀ k, row = some k → a.heap.size ≤ k) : GoB b a w' :=
  ⟨hg.os.trans h.os, hg.tape.trans h.tape, hg.output.trans h.output, Nat.le_trans h.size hg.size, fun k hk hne => (hg.block k (Nat.lt_of_lt_of_le hk h.size) (fun e => by have := hr k e.symm; omega)).trans (h.block k hk hne)⟩
theorem CurW.row {b : Nat} {v : Value} {l : List UInt8} {w w' : World} {row : Option Nat} (h : CurW b v l w) (hg : w.grownBy w' row) (hr : ∀ k, row = some k → b < k) : CurW b v l w' := by
  have hb : Below (b + 1) w w' := (Below.refl (b + 1) w).grown hg h.lt (fun k e => hr k e)
  exact ⟨Sl.below h.sl (hb.mono (by omega)), h.at_.grown hb⟩
theorem own_go {b base : Nat} {w w' : World} {e : TypeId} {size : Nat} {v : Value} {n : Nat} {xs : List Value} (h : w.ownsRow base e size v n xs) (hs : GoB b w w') (hb : b < base) : w'.ownsRow base e size v n xs := by
  refine ⟨h.1, ?_⟩
  rcases h.2 with hn | ⟨g, cap, cur, rfl, hbb, hg, rest⟩
  · exact .inl hn
  · exact .inr ⟨g, cap, cur, rfl, hbb, by rw [hs.block g (Array.getElem?_eq_some_iff.1 hg).1 (fun e => by injection e; omega)]; exact hg, rest⟩
/-- What a draw that collects keeps: the cursor, a list that it reads, the row that it builds. -/
structure PS (b : Nat) (v : Value) (l : List UInt8) (w : World) (lo hi : Nat) (u : Value) (L : List ByteArray) (base : Nat) (o : Value) (R : List ByteArray) (wr : World) : Prop where
  go : GoB b w wr
  cur : CurW b v l wr
  rd : RdS L lo hi wr u
  own : wr.ownsRow base 9 1 o R.length (R.map .string)
  hb : b < lo
  hbase : hi ≤ base
  hlo : lo ≤ base
  hw : w.heap.size ≤ base
  hsz : base ≤ wr.heap.size
theorem PS.alloc {b : Nat} {v : Value} {l : List UInt8} {w : World} {lo hi : Nat} {u : Value} {L : List ByteArray} {base : Nat} {o : Value} {R : List ByteArray} {wr : World} (h : PS b v l w lo hi u L base o R wr) (ob : Obj) : PS b v l w lo hi u L base o R (wr.alloc ob) :=
  ⟨h.go.alloc ob, h.cur.alloc ob, h.rd.keep (Out.of_below ((Below.refl _ _).alloc (Nat.le_refl _) ob) wr.heap.size wr.heap.size) (by have := h.hbase; have := h.hsz; omega), h.own.alloc ob, h.hb, h.hbase, h.hlo, h.hw, by have := h.hsz; simp; omega⟩
theorem PS.step {b : Nat} {v : Value} {l : List UInt8} {w : World} {lo hi : Nat} {u : Value} {L : List ByteArray} {base : Nat} {o : Value} {R : List ByteArray} {wr wr' : World} (h : PS b v l w lo hi u L base o R wr) (hs : GoB b wr wr') (hc : CurW b v l wr') : PS b v l w lo hi u L base o R wr' :=
  ⟨h.go.trans hs, hc, h.rd.keep hs.out (by have := h.hb; omega), own_go h.own hs (by have := h.hb; have := h.hlo; omega), h.hb, h.hbase, h.hlo, h.hw, Nat.le_trans h.hsz hs.size⟩
theorem PS.app {b : Nat} {v : Value} {l : List UInt8} {w : World} {lo hi : Nat} {u : Value} {L : List ByteArray} {base : Nat} {o o2 : Value} {R R2 : List ByteArray} {wr w2 : World} {n2 : Nat} {xs2 : List Value} (h : PS b v l w lo hi u L base o R wr)
    (own2 : w2.ownsRow base 9 1 o2 n2 xs2) (hn : n2 = R2.length) (hx : xs2 = R2.map .string) (hg : wr.grownBy w2 o.ownBlock) : PS b v l w lo hi u L base o2 R2 w2 := by
  subst hn hx
  have hr : ∀ k, o.ownBlock = some k → base ≤ k := fun k hk => (h.own.lt k hk).1
  exact ⟨h.go.row hg (fun k e => by have := hr k e; have := h.hw; omega), h.cur.row hg (fun k e => by have := hr k e; have := h.hb; have := h.hlo; omega),
    h.rd.keep (Out.of_grown (lo := base) (hi := wr.heap.size) hg fun k hk => ⟨hr k hk, (h.own.lt k hk).2⟩) (by have := h.hbase; omega), own2, h.hb, h.hbase, h.hlo, h.hw, Nat.le_trans h.hsz hg.size⟩
theorem PS.of_below {b : Nat} {v : Value} {l : List UInt8} {w : World} {lo hi : Nat} {u : Value} {L : List ByteArray} {base : Nat} {o : Value} {R : List ByteArray} {wr w2 : World} (h : PS b v l w lo hi u L base o R wr) (hb : Below wr.heap.size wr w2) : PS b v l w lo hi u L base o R w2 :=
  ⟨h.go.trans (GoB.of_below hb), h.cur.below hb, h.rd.keep (Out.of_below hb wr.heap.size wr.heap.size) (by have := h.hbase; have := h.hsz; omega), own_below h.own hb (Nat.le_refl _), h.hb, h.hbase, h.hlo, h.hw, Nat.le_trans h.hsz hb.size⟩
theorem rdS_nil {w : World} {lo hi : Nat} (h : hi ≤ w.heap.size) : RdS [] lo hi w (.slice none 0 0) :=
  ⟨⟨by simp, _, _, rfl, Nat.le_refl _, Nat.zero_le _, fun h => absurd h (by simp)⟩, fun ad n c e => (by cases e), h⟩
def xs18 : List ByteArray := [⟨#[47, 112]⟩, ⟨#[47, 48]⟩, ⟨#[47, 42]⟩, ⟨#[47, 49, 50]⟩, ⟨#[47]⟩, ⟨#[120]⟩, ⟨#[47, 63]⟩]
theorem xs18_all : ∀ x ∈ xs18, x.size ≤ 3 ∧ clean x = true := by
  have : (xs18.all fun x => decide (x.size ≤ 3) && clean x) = true := by rfl
  intro x hx
  have := List.all_eq_true.1 this x hx
  simpa using this
def xs21 : List ByteArray := [⟨#[112]⟩, ⟨#[113]⟩, ⟨#[48]⟩, ⟨#[49]⟩, ⟨#[42]⟩]
theorem xs21_all : ∀ x ∈ xs21, x.size ≤ 1 ∧ clean x = true := by
  have : (xs21.all fun x => decide (x.size ≤ 1) && clean x) = true := by rfl
  intro x hx
  have := List.all_eq_true.1 this x hx
  simpa using this
set_option maxHeartbeats 1000000 in
set_option maxRecDepth 100000 in
theorem l18Text_any (b : Nat) (v : Value) (l : List UInt8) (w : World) (h : CurW b v l w) :
    Calls Try.prog 34 #[.pointer (some ⟨b, 0, none⟩)] w fun e w' => (∃ S : ByteArray, e = .returned (.string S) ∧ S.size ≤ 12 ∧ clean S = true) ∧ GoB b w w' ∧ CurW b v l w' := by
  have h0 := h.lt
  go_enter Try.func34, Try.ntmps34
  go_wp2_with fail
  refine (below_any b b v l 5 w h (by omega) (by omega)).mono ?_
  rintro e w1 ⟨⟨x, rfl, hx0, hx1⟩, hs, hz, hc⟩
  obtain ⟨n, rfl⟩ := Int.eq_ofNat_of_zero_le hx0
  have HS := Lib.hid hs
  have HC := Lib.hid hc
  clear hs hc h hz
  go_wp2
  go_loopw [3, 4] (fun s i wr => ∃ (k : Nat) (S : ByteArray), i = .int .i64 k ∧ k ≤ 4 ∧ s = .string S ∧ S.size ≤ 3 * (4 - k) ∧ clean S = true ∧ GoB b w wr ∧ CurW b v l wr) (fun _ i _ => (intOf i).natAbs)
  case atStart => exact ⟨n, _, rfl, by omega, rfl, Nat.zero_le _, rfl, HS.out, HC.out⟩
  case round =>
    obtain ⟨k, S, rfl, hk, rfl, hSz, hcl, hg, hcw⟩ := hrel
    have HX := Lib.hid (And.intro hcl (And.intro hg hcw))
    clear hcl hg hcw HS HC
    by_cases hk0 : k = 0
    · subst hk0
      have hz : decide ((0 : Int) < ((0 : Nat) : Int)) = false := rfl
      go_wp2
      go_ret
      exact ⟨⟨S, rfl, by omega, HX.out.1⟩, HX.out.2.1, HX.out.2.2⟩
    · have hpos : (0 : Int) < k := by omega
      go_wp2_with fail
      refine (l1Str_any b wr.heap.size (wr.heap.size + 1) v _ l xs18 _ (HX.out.2.2.alloc _) (rdS_lit xs18 _ rfl _ _ rfl rfl (by decide)) HX.out.2.2.lt (by decide) (by decide)).mono ?_
      rintro e w2 ⟨⟨y, hy, rfl⟩, hs2, hz2, hc2⟩
      have hy2 := xs18_all y hy
      have hys := hy2.1
      have HY := Lib.hid (show clean (S ++ y) = true by rw [clean_app, HX.out.1, hy2.2]; rfl)
      have HG := Lib.hid ((HX.out.2.1.alloc _).trans hs2)
      have HC2 := Lib.hid hc2
      have hSs : S.size ≤ 12 := by omega
      clear hs2 hc2 hy hy2 hz2 HX
      go_wp2
      go_roundw
      case rel => exact ⟨k - 1, S ++ y, by congr 1; go_num, by omega, rfl, by rw [ByteArray.size_append]; omega, HY.out, HG.out, HC2.out⟩
      case measure => simp [intOf]; omega
set_option maxHeartbeats 400000 in
theorem drawSplitPath_any (v : Value) (l : List UInt8) (w : World) (h : SlB w w.heap.size v l) (hl : l.length ≤ 1048576) :
    Calls Try.prog 18 #[v] w fun e w' => (∃ S : ByteArray, e = .returned (.string S) ∧ S.size ≤ 12 ∧ clean S = true) ∧ Below w.heap.size w w' := by
  go_enter Try.func18, Try.ntmps18
  go_wp2_with fail
  refine (l1New_any v l _ w h hl).mono ?_
  rintro e w1 ⟨rfl, x, rfl⟩
  have ha : Below w.heap.size w (w.alloc (.cells #[v, .int .i64 0, .int .i64 x] 59)) := (Below.refl _ _).alloc (Nat.le_refl _) _
  have hc : CurW w.heap.size v l (w.alloc (.cells #[v, .int .i64 0, .int .i64 x] 59)) := ⟨h.below ha, cur_new⟩
  generalize w.alloc (.cells #[v, .int .i64 0, .int .i64 x] 59) = W at ha hc
  have HA := Lib.hid ha
  have HC := Lib.hid hc
  clear h ha hc
  go_wp2_with fail
  refine (l18Text_any _ v l W HC.out).mono ?_
  rintro e w2 ⟨⟨S, rfl, hz, hcl⟩, hg, hc2⟩
  have H := Lib.hid (And.intro hcl (hg.below HA.out HA.out.size (Nat.le_refl _)))
  clear hcl hg hc2
  go_wp2
  go_ret
  exact ⟨⟨S, rfl, hz, H.out.1⟩, H.out.2⟩
end Go.Proofs.Ytglminmoglncpaa
