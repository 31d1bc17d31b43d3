/- Lists of txn: copies, comparisons, sizes: each function by its contract. -/
import Derived.Test.YtdleibkkjnodlaaBase
import Derived.Test.YtdleibkkjnodlaaOwn
import Derived.Test.YtdleibkkjnodlaaSz
import Derived.Deep.RegionHeld3
namespace Go.Proofs.Ytdleibkkjnodlaa
open Go.RowKit
set_option linter.unusedVariables false

/-- A txn's fields. -/
structure VTxn where
  f : Int
  t : Int
  s : Int
  e : Int
/-- Its cells. -/
def VTxn.cells (x : VTxn) : List Value := [.int .i64 x.f, .int .i64 x.t, .int .i64 x.s, .int .i64 x.e]
def VTxn.zero : VTxn := ⟨0, 0, 0, 0⟩
/-- The element at place k (a name that the walk does not look into). -/
def nthTxn (bs : List VTxn) (k : Nat) : VTxn := bs.getD k VTxn.zero
theorem nthTxn_eq {bs : List VTxn} {k : Nat} (h : k < bs.length) : nthTxn bs k = bs[k] := by simp [nthTxn, List.getElem?_eq_getElem h]
/-- The slice at A holds these elements, in a block below B. -/
def LstTxn (w : World) (B : Nat) (A : Option Addr) (bs : List VTxn) : Prop :=
  bs ≠ [] → ∃ b off, A = some ⟨b, off, none⟩ ∧ b < B ∧ ∀ i, i < bs.length → w.cell? ⟨b, off + i * 4, none⟩ = some (.int .i64 (nthTxn bs i).f) ∧ w.cell? ⟨b, off + i * 4 + 1, none⟩ = some (.int .i64 (nthTxn bs i).t) ∧ w.cell? ⟨b, off + i * 4 + 2, none⟩ = some (.int .i64 (nthTxn bs i).s) ∧ w.cell? ⟨b, off + i * 4 + 3, none⟩ = some (.int .i64 (nthTxn bs i).e)
theorem LstTxn.at_ {w : World} {B : Nat} {A : Option Addr} {bs : List VTxn} (h : LstTxn w B A bs) {k : Nat} (hk : k < bs.length) : ∃ b off, A = some ⟨b, off, none⟩ ∧ b < B ∧ ∀ i, i < bs.length → w.cell? ⟨b, off + i * 4, none⟩ = some (.int .i64 (nthTxn bs i).f) ∧ w.cell? ⟨b, off + i * 4 + 1, none⟩ = some (.int .i64 (nthTxn bs i).t) ∧ w.cell? ⟨b, off + i * 4 + 2, none⟩ = some (.int .i64 (nthTxn bs i).s) ∧ w.cell? ⟨b, off + i * 4 + 3, none⟩ = some (.int .i64 (nthTxn bs i).e) :=
  h (by intro e; subst e; simp at hk)
theorem LstTxn.below {w w' : World} {B : Nat} {A : Option Addr} {bs : List VTxn} (h : LstTxn w B A bs) (hb : Below B w w') : LstTxn w' B A bs := fun hn => by
  obtain ⟨b, off, e, hB, hc⟩ := h hn
  exact ⟨b, off, e, hB, fun i hi => by
    obtain ⟨c0, c1, c2, c3⟩ := hc i hi
    exact ⟨(hb.cell hB).trans c0, (hb.cell hB).trans c1, (hb.cell hB).trans c2, (hb.cell hB).trans c3⟩⟩
theorem LstTxn.more {w : World} {B B' : Nat} {A : Option Addr} {bs : List VTxn} (h : LstTxn w B A bs) (hB : B ≤ B') : LstTxn w B' A bs := fun hn => by
  obtain ⟨b, off, e, hb, hc⟩ := h hn
  exact ⟨b, off, e, by omega, hc⟩
theorem LstTxn.carry {w w' : World} {A : Option Addr} {bs : List VTxn} (h : LstTxn w w.heap.size A bs) (hb : Below w.heap.size w w') : LstTxn w' w'.heap.size A bs := (h.below hb).more hb.size
theorem LstTxn.quiet {w w' : World} {B : Nat} {A : Option Addr} {bs : List VTxn} (h : LstTxn w B A bs) (hq : Quiet w w') : LstTxn w' B A bs := h.below (hq.below B)
/-- An array that holds these elements. -/
def ArrTxn (arr : Array Value) (bs : List VTxn) : Prop := arr.size = bs.length * 4 ∧ ∀ j, j < bs.length → arr[j * 4]? = some (.int .i64 (nthTxn bs j).f) ∧ arr[j * 4 + 1]? = some (.int .i64 (nthTxn bs j).t) ∧ arr[j * 4 + 2]? = some (.int .i64 (nthTxn bs j).s) ∧ arr[j * 4 + 3]? = some (.int .i64 (nthTxn bs j).e)
theorem LstTxn.of_blk {w : World} {g B : Nat} {t : TypeId} {arr : Array Value} {bs : List VTxn} (h : w.heap[g]? = some (.cells arr t (0, 0))) (ha : ArrTxn arr bs) (hB : g < B) : LstTxn w B (some ⟨g, 0, none⟩) bs := fun _ =>
  ⟨g, 0, rfl, hB, fun i hi => by
    obtain ⟨c0, c1, c2, c3⟩ := ha.2 i hi
    exact ⟨by rw [cell_of_row w g _ _ _ _ h, Nat.zero_add]; exact c0, by rw [cell_of_row w g _ _ _ _ h, Nat.zero_add]; exact c1, by rw [cell_of_row w g _ _ _ _ h, Nat.zero_add]; exact c2, by rw [cell_of_row w g _ _ _ _ h, Nat.zero_add]; exact c3⟩⟩
set_option maxHeartbeats 1000000 in
theorem toTxn_exact (f : Int) (t : Int) (s : Int) (e : Int) (w : World) :
    Calls Try.prog 47 #[.agg #[.int .i64 f, .int .i64 t, .int .i64 s, .int .i64 e]] w fun e1 w' => e1 = .returned (.agg #[.int .i64 f, .int .i64 t, .int .i64 s, .int .i64 e]) ∧ ((w.alloc (.cells #[.int .i64 f, .int .i64 t, .int .i64 s, .int .i64 e] 65)).alloc (.cells #[.int .i64 f, .int .i64 t, .int .i64 s, .int .i64 e] 46)).alloc (.cells #[.int .i64 f, .int .i64 t, .int .i64 s, .int .i64 e] 46) = w' := by
  go_enter Try.func47, Try.ntmps47
  go_wp2
  exact bodyPost_ret (v := .agg #[.int .i64 f, .int .i64 t, .int .i64 s, .int .i64 e]) (by simp [results, Try.results47, go_sem]) rfl ⟨rfl, rfl⟩
theorem info_Txn : (Try.prog.info? 46).map (fun i => (i.zero, i.size, i.bytes)) = some (some (.agg #[.int .i64 0, .int .i64 0, .int .i64 0, .int .i64 0]), 4, 32) := by kernel_rfl
theorem make_Txn (n : Nat) (hn : n ≤ 1048576) (w : World) : (Instr.makeSlice 34 (.int .i64 (n : Int)) (.int .i64 (n : Int))).run Try.prog w = .ok (.slice (some ⟨w.heap.size, 0, none⟩) n n) (w.alloc (.cells (madeCells #[.int .i64 0, .int .i64 0, .int .i64 0, .int .i64 0] (n * 4)) 46)) := by
  obtain ⟨i, hi, hz, hs, hb⟩ := info_parts info_Txn
  have hr := run_make (P := Try.prog) w 34 46 i _ Try.underlying34 hi hz .i64 .i64 n n (by omega) (Int.le_refl _) (by rw [hb]; omega) (by omega)
  simp only [Int.toNat_natCast, hs] at hr
  exact hr
set_option maxHeartbeats 4000000 in
theorem toTxnS_any (A : Option Addr) (c : Nat) (bs : List VTxn) (w : World) (h : LstTxn w w.heap.size A bs) (hn : bs.length ≤ 1048576) :
    Calls Try.prog 19 #[.slice A bs.length c] w fun e w' => ∃ arr : Array Value, e = .returned (.slice (some ⟨w.heap.size, 0, none⟩) bs.length bs.length) ∧ w'.heap[w.heap.size]? = some (.cells arr 46 (0, 0)) ∧ ArrTxn arr bs ∧ Below w.heap.size w w' := by
  have hmk := fun W => make_Txn bs.length hn W
  go_enter Try.func19, Try.ntmps19
  go_wp2
  clear hmk
  go_loopw [4] (fun i wr => ∃ (k : Nat) (arr : Array Value), k ≤ bs.length ∧ i = .int .i64 k ∧ wr.heap[w.heap.size]? = some (.cells arr 46 (0, 0)) ∧ arr.size = bs.length * 4 ∧ (∀ j, j < k → arr[j * 4]? = some (.int .i64 (nthTxn bs j).f) ∧ arr[j * 4 + 1]? = some (.int .i64 (nthTxn bs j).t) ∧ arr[j * 4 + 2]? = some (.int .i64 (nthTxn bs j).s) ∧ arr[j * 4 + 3]? = some (.int .i64 (nthTxn bs j).e)) ∧ Below w.heap.size w wr) (fun i _ => bs.length - (intOf i).toNat)
  case atStart => exact ⟨0, _, Nat.zero_le _, rfl, heap_alloc_new w _, size_madeCells _ _, fun j hj => absurd hj (by omega), allocB w _⟩
  case round =>
    obtain ⟨k, arr, hk, rfl, hb, hs, ha, hbel⟩ := hrel
    by_cases hlt : k < bs.length
    · obtain ⟨b, off, rfl, hbb, hc⟩ := (h.below hbel).at_ hlt
      obtain ⟨x, hx⟩ : ∃ x, x = nthTxn bs k := ⟨_, rfl⟩
      obtain ⟨x0, x1, x2, x3⟩ := hc k hlt
      rw [← hx] at x0 x1 x2 x3
      have HX := Lib.hid hx
      have HB := Lib.hid hb
      have HS := Lib.hid hs
      have HA := Lib.hid ha
      have HL := Lib.hid hbel
      clear hx hb hs ha hbel hc h
      go_wp2_with fail
      refine (toTxn_exact _ _ _ _ _).mono ?_
      rintro e w' ⟨rfl, hw1⟩
      obtain ⟨w1, rfl⟩ : ∃ w1 : World, w1 = w' := ⟨_, rfl⟩
      have hb1 : Below wr.heap.size wr w1 := by rw [← hw1]; exact allocB3 wr _ _ _
      have hblk : w1.heap[w.heap.size]? = some (.cells arr 46 (0, 0)) := (hb1.block _ (lt_blk HB.out)).trans HB.out
      clear hw1
      have hsz := HS.out
      obtain ⟨u0, s0, f0⟩ := blk_at hblk (j := k * 4) (by omega)
      obtain ⟨u1, s1, f1⟩ := blk_at hblk (j := k * 4 + 1) (by omega)
      obtain ⟨u2, s2, f2⟩ := blk_at hblk (j := k * 4 + 2) (by omega)
      obtain ⟨u3, s3, f3⟩ := blk_at hblk (j := k * 4 + 3) (by omega)
      have HK := Lib.hid hblk
      have HL1 := Lib.hid (next HL.out hb1)
      clear hblk hb1 hsz
      go_wp2_with fail
      go_roundw
      case rel =>
        refine ⟨k + 1, _, by omega, by go_num, blk_set (blk_set (blk_set (blk_set (HK.out) (k * 4) _) (k * 4 + 1) _) (k * 4 + 2) _) (k * 4 + 3) _, by simp [HS.out], fun j hj => ?_, ((((HL1.out).setCell (Nat.le_refl _) _).setCell (Nat.le_refl _) _).setCell (Nat.le_refl _) _).setCell (Nat.le_refl _) _⟩
        have hsz := HS.out
        by_cases e : j = k
        · subst e
          rw [← HX.out]
          refine ⟨?_, ?_, ?_, ?_⟩ <;> simp [Array.getElem?_setIfInBounds, hsz] <;> omega
        · obtain ⟨d0, d1, d2, d3⟩ := HA.out j (by omega)
          refine ⟨by rw [Array.getElem?_setIfInBounds_ne (by omega), Array.getElem?_setIfInBounds_ne (by omega), Array.getElem?_setIfInBounds_ne (by omega), Array.getElem?_setIfInBounds_ne (by omega)]; exact d0, by rw [Array.getElem?_setIfInBounds_ne (by omega), Array.getElem?_setIfInBounds_ne (by omega), Array.getElem?_setIfInBounds_ne (by omega), Array.getElem?_setIfInBounds_ne (by omega)]; exact d1, by rw [Array.getElem?_setIfInBounds_ne (by omega), Array.getElem?_setIfInBounds_ne (by omega), Array.getElem?_setIfInBounds_ne (by omega), Array.getElem?_setIfInBounds_ne (by omega)]; exact d2, by rw [Array.getElem?_setIfInBounds_ne (by omega), Array.getElem?_setIfInBounds_ne (by omega), Array.getElem?_setIfInBounds_ne (by omega), Array.getElem?_setIfInBounds_ne (by omega)]; exact d3⟩
      case measure => simp [intOf]; omega
    · clear h
      have HH := Lib.hid (And.intro hb (And.intro hs (And.intro ha hbel)))
      clear hb hs ha hbel
      go_wp2_with fail
      go_ret
      obtain ⟨h1, h2, h3, h4⟩ := HH.out
      have e : k = bs.length := by omega
      subst e
      exact ⟨arr, rfl, h1, ⟨h2, h3⟩, h4⟩
set_option maxHeartbeats 1000000 in
theorem eqTxn_same (f : Int) (t : Int) (s : Int) (e : Int) (w : World) :
    Calls Try.prog 50 #[.agg #[.int .i64 f, .int .i64 t, .int .i64 s, .int .i64 e], .agg #[.int .i64 f, .int .i64 t, .int .i64 s, .int .i64 e]] w fun e w' => e = .returned (.bool true) ∧ Below w.heap.size w w' := by
  go_enter Try.func50, Try.ntmps50
  go_wp2
  go_ret
  exact ⟨rfl, allocB2 w _ _⟩
set_option maxHeartbeats 4000000 in
theorem eqTxnS_same (A A' : Option Addr) (c c' : Nat) (bs : List VTxn) (w : World) (h : LstTxn w w.heap.size A bs) (h' : LstTxn w w.heap.size A' bs) (hn : bs.length ≤ 1048576) :
    Calls Try.prog 21 #[.slice A bs.length c, .slice A' bs.length c'] w fun e w' => e = .returned (.bool true) ∧ Below w.heap.size w w' := by
  have hl' : ((bs.length : Int) != (bs.length : Int)) = false := by simp
  go_enter Try.func21, Try.ntmps21
  go_wp2
  go_loopw [5] (fun i wr => ∃ k : Nat, k ≤ bs.length ∧ i = .int .i64 k ∧ Below w.heap.size w wr) (fun i _ => bs.length - (intOf i).toNat)
  case atStart => exact ⟨0, Nat.zero_le _, rfl, Below.refl _ _⟩
  case round =>
    obtain ⟨k, hk, rfl, hbel⟩ := hrel
    have HL := Lib.hid hbel
    by_cases hlt : k < bs.length
    · obtain ⟨b, off, rfl, hbb, hc⟩ := (h.below hbel).at_ hlt
      obtain ⟨b', off', rfl, hbb', hc'⟩ := (h'.below hbel).at_ hlt
      obtain ⟨x, hx⟩ : ∃ x, x = nthTxn bs k := ⟨_, rfl⟩
      obtain ⟨x0, x1, x2, x3⟩ := hc k hlt
      obtain ⟨y0, y1, y2, y3⟩ := hc' k hlt
      rw [← hx] at x0 x1 x2 x3 y0 y1 y2 y3
      have hi0 : (0 : Int) ≤ (k : Int) := by omega
      have hi1 : (k : Int) < (bs.length : Int) := by omega
      clear hx hbel hc hc' h h'
      go_wp2_with fail
      have hS0 : wr.drew.cell? ⟨b, off + k * 4, none⟩ = some (.int .i64 x.f) ∧ wr.drew.cell? ⟨b, off + k * 4 + 1, none⟩ = some (.int .i64 x.t) ∧ wr.drew.cell? ⟨b, off + k * 4 + 2, none⟩ = some (.int .i64 x.s) ∧ wr.drew.cell? ⟨b, off + k * 4 + 3, none⟩ = some (.int .i64 x.e) ∧ wr.drew.cell? ⟨b', off' + k * 4, none⟩ = some (.int .i64 x.f) ∧ wr.drew.cell? ⟨b', off' + k * 4 + 1, none⟩ = some (.int .i64 x.t) ∧ wr.drew.cell? ⟨b', off' + k * 4 + 2, none⟩ = some (.int .i64 x.s) ∧ wr.drew.cell? ⟨b', off' + k * 4 + 3, none⟩ = some (.int .i64 x.e) := ⟨x0, x1, x2, x3, y0, y1, y2, y3⟩
      go_region_held3 (fun W => W.cell? ⟨b, off + k * 4, none⟩ = some (.int .i64 x.f) ∧ W.cell? ⟨b, off + k * 4 + 1, none⟩ = some (.int .i64 x.t) ∧ W.cell? ⟨b, off + k * 4 + 2, none⟩ = some (.int .i64 x.s) ∧ W.cell? ⟨b, off + k * 4 + 3, none⟩ = some (.int .i64 x.e) ∧ W.cell? ⟨b', off' + k * 4, none⟩ = some (.int .i64 x.f) ∧ W.cell? ⟨b', off' + k * 4 + 1, none⟩ = some (.int .i64 x.t) ∧ W.cell? ⟨b', off' + k * 4 + 2, none⟩ = some (.int .i64 x.s) ∧ W.cell? ⟨b', off' + k * 4 + 3, none⟩ = some (.int .i64 x.e)) (first | assumption | go_keep)
        (first | (go_at_call 50; refine (eqTxn_same _ _ _ _ _).mono ?_; rintro e w1 ⟨rfl, b1⟩; have hS1 : w1.cell? ⟨b, off + k * 4, none⟩ = some (.int .i64 x.f) ∧ w1.cell? ⟨b, off + k * 4 + 1, none⟩ = some (.int .i64 x.t) ∧ w1.cell? ⟨b, off + k * 4 + 2, none⟩ = some (.int .i64 x.s) ∧ w1.cell? ⟨b, off + k * 4 + 3, none⟩ = some (.int .i64 x.e) ∧ w1.cell? ⟨b', off' + k * 4, none⟩ = some (.int .i64 x.f) ∧ w1.cell? ⟨b', off' + k * 4 + 1, none⟩ = some (.int .i64 x.t) ∧ w1.cell? ⟨b', off' + k * 4 + 2, none⟩ = some (.int .i64 x.s) ∧ w1.cell? ⟨b', off' + k * 4 + 3, none⟩ = some (.int .i64 x.e) := ⟨keepc b1 hS0.1, keepc b1 hS0.2.1, keepc b1 hS0.2.2.1, keepc b1 hS0.2.2.2.1, keepc b1 hS0.2.2.2.2.1, keepc b1 hS0.2.2.2.2.2.1, keepc b1 hS0.2.2.2.2.2.2.1, keepc b1 hS0.2.2.2.2.2.2.2⟩; have HL1 := Lib.hid (next HL.out.drew b1); clear b1))
      go_wp2_with fail
      go_roundw
      case rel => exact ⟨k + 1, by omega, by go_num, HL1.out⟩
      case measure => simp [intOf]; omega
    · clear h h' hbel
      go_wp2_with fail
      go_ret
      exact ⟨rfl, HL.out⟩
set_option maxHeartbeats 1000000 in
theorem szTxnS_any (A : Option Addr) (c n : Nat) (left : Int) (w : World) (h0 : 0 ≤ left) (h1 : left ≤ 1048576) (hn : n ≤ 9223372036854775807) :
    Calls Try.prog 17 #[.slice A n c, .int .i64 left] w fun e w' => e = .returned (.int .i64 (szL left n)) ∧ w = w' := by
  by_cases h : left < (n : Int)
  · go_enter Try.func17, Try.ntmps17
    go_wp2
    go_ret
    exact ⟨ret_int (by rw [szL_neg (by omega)]), rfl⟩
  · go_enter Try.func17, Try.ntmps17
    go_wp2
    go_ret
    exact ⟨ret_int (by rw [szL_pos (by omega)]), rfl⟩
end Go.Proofs.Ytdleibkkjnodlaa
