/- Lists of batch: copies, comparisons, sizes: each function by its contract. -/
import Derived.Test.YtmfbhddnlgbcmaaBase
import Derived.Test.YtmfbhddnlgbcmaaOwn
import Derived.Test.YtmfbhddnlgbcmaaSz
import Derived.Deep.RegionHeld3
namespace Go.Proofs.Ytmfbhddnlgbcmaa
open Go.RowKit
set_option linter.unusedVariables false

/-- A batch's fields. -/
structure VBatch where
  d : Int
  a : Int
  r : Int
  s : Int
/-- Its cells. -/
def VBatch.cells (x : VBatch) : List Value := [.int .i64 x.d, .int .i64 x.a, .int .i64 x.r, .int .i64 x.s]
def VBatch.zero : VBatch := ⟨0, 0, 0, 0⟩
/-- The element at place k (a name that the walk does not look into). -/
def nthBatch (bs : List VBatch) (k : Nat) : VBatch := bs.getD k VBatch.zero
theorem nthBatch_eq {bs : List VBatch} {k : Nat} (h : k < bs.length) : nthBatch bs k = bs[k] := by simp [nthBatch, List.getElem?_eq_getElem h]
/-- The slice at A holds these elements, in a block below B. -/
def LstBatch (w : World) (B : Nat) (A : Option Addr) (bs : List VBatch) : Prop :=
  bs ≠ [] → ∃ b off, A = some ⟨b, off, none⟩ ∧ b < B ∧ ∀ i, i < bs.length → w.cell? ⟨b, off + i * 4, none⟩ = some (.int .i64 (nthBatch bs i).d) ∧ w.cell? ⟨b, off + i * 4 + 1, none⟩ = some (.int .i64 (nthBatch bs i).a) ∧ w.cell? ⟨b, off + i * 4 + 2, none⟩ = some (.int .i64 (nthBatch bs i).r) ∧ w.cell? ⟨b, off + i * 4 + 3, none⟩ = some (.int .i64 (nthBatch bs i).s)
theorem LstBatch.at_ {w : World} {B : Nat} {A : Option Addr} {bs : List VBatch} (h : LstBatch w B A bs) {k : Nat} (hk : k < bs.length) : ∃ b off, A = some ⟨b, off, none⟩ ∧ b < B ∧ ∀ i, i < bs.length → w.cell? ⟨b, off + i * 4, none⟩ = some (.int .i64 (nthBatch bs i).d) ∧ w.cell? ⟨b, off + i * 4 + 1, none⟩ = some (.int .i64 (nthBatch bs i).a) ∧ w.cell? ⟨b, off + i * 4 + 2, none⟩ = some (.int .i64 (nthBatch bs i).r) ∧ w.cell? ⟨b, off + i * 4 + 3, none⟩ = some (.int .i64 (nthBatch bs i).s) :=
  h (by intro e; subst e; simp at hk)
theorem LstBatch.below {w w' : World} {B : Nat} {A : Option Addr} {bs : List VBatch} (h : LstBatch w B A bs) (hb : Below B w w') : LstBatch w' B A bs := fun hn => by
  obtain ⟨b, off, e, hB, hc⟩ := h hn
  exact ⟨b, off, e, hB, fun i hi => by
    obtain ⟨c0, c1, c2, c3⟩ := hc i hi
    exact ⟨(hb.cell hB).trans c0, (hb.cell hB).trans c1, (hb.cell hB).trans c2, (hb.cell hB).trans c3⟩⟩
theorem LstBatch.more {w : World} {B B' : Nat} {A : Option Addr} {bs : List VBatch} (h : LstBatch w B A bs) (hB : B ≤ B') : LstBatch w B' A bs := fun hn => by
  obtain ⟨b, off, e, hb, hc⟩ := h hn
  exact ⟨b, off, e, by omega, hc⟩
theorem LstBatch.carry {w w' : World} {A : Option Addr} {bs : List VBatch} (h : LstBatch w w.heap.size A bs) (hb : Below w.heap.size w w') : LstBatch w' w'.heap.size A bs := (h.below hb).more hb.size
theorem LstBatch.quiet {w w' : World} {B : Nat} {A : Option Addr} {bs : List VBatch} (h : LstBatch w B A bs) (hq : Quiet w w') : LstBatch w' B A bs := h.below (hq.below B)
/-- An array that holds these elements. -/
def ArrBatch (arr : Array Value) (bs : List VBatch) : Prop := arr.size = bs.length * 4 ∧ ∀ j, j < bs.length → arr[j * 4]? = some (.int .i64 (nthBatch bs j).d) ∧ arr[j * 4 + 1]? = some (.int .i64 (nthBatch bs j).a) ∧ arr[j * 4 + 2]? = some (.int .i64 (nthBatch bs j).r) ∧ arr[j * 4 + 3]? = some (.int .i64 (nthBatch bs j).s)
theorem LstBatch.of_blk {w : World} {g B : Nat} {t : TypeId} {arr : Array Value} {bs : List VBatch} (h : w.heap[g]? = some (.cells arr t (0, 0))) (ha : ArrBatch arr bs) (hB : g < B) : LstBatch w B (some ⟨g, 0, none⟩) bs := fun _ =>
  ⟨g, 0, rfl, hB, fun i hi => by
    obtain ⟨c0, c1, c2, c3⟩ := ha.2 i hi
    exact ⟨by rw [cell_of_row w g _ _ _ _ h, Nat.zero_add]; exact c0, by rw [cell_of_row w g _ _ _ _ h, Nat.zero_add]; exact c1, by rw [cell_of_row w g _ _ _ _ h, Nat.zero_add]; exact c2, by rw [cell_of_row w g _ _ _ _ h, Nat.zero_add]; exact c3⟩⟩
set_option maxHeartbeats 1000000 in
theorem toBatch_exact (d : Int) (a : Int) (r : Int) (s : Int) (w : World) :
    Calls Try.prog 59 #[.agg #[.int .i64 d, .int .i64 a, .int .i64 r, .int .i64 s]] w fun e1 w' => e1 = .returned (.agg #[.int .i64 d, .int .i64 a, .int .i64 r, .int .i64 s]) ∧ ((w.alloc (.cells #[.int .i64 d, .int .i64 a, .int .i64 r, .int .i64 s] 77)).alloc (.cells #[.int .i64 d, .int .i64 a, .int .i64 r, .int .i64 s] 27)).alloc (.cells #[.int .i64 d, .int .i64 a, .int .i64 r, .int .i64 s] 27) = w' := by
  go_enter Try.func59, Try.ntmps59
  go_wp2
  exact bodyPost_ret (v := .agg #[.int .i64 d, .int .i64 a, .int .i64 r, .int .i64 s]) (by simp [results, Try.results59, go_sem]) rfl ⟨rfl, rfl⟩
theorem info_Batch : (Try.prog.info? 27).map (fun i => (i.zero, i.size, i.bytes)) = some (some (.agg #[.int .i64 0, .int .i64 0, .int .i64 0, .int .i64 0]), 4, 32) := by kernel_rfl
theorem make_Batch (n : Nat) (hn : n ≤ 1048576) (w : World) : (Instr.makeSlice 23 (.int .i64 (n : Int)) (.int .i64 (n : Int))).run Try.prog w = .ok (.slice (some ⟨w.heap.size, 0, none⟩) n n) (w.alloc (.cells (madeCells #[.int .i64 0, .int .i64 0, .int .i64 0, .int .i64 0] (n * 4)) 27)) := by
  obtain ⟨i, hi, hz, hs, hb⟩ := info_parts info_Batch
  have hr := run_make (P := Try.prog) w 23 27 i _ Try.underlying23 hi hz .i64 .i64 n n (by omega) (Int.le_refl _) (by rw [hb]; omega) (by omega)
  simp only [Int.toNat_natCast, hs] at hr
  exact hr
set_option maxHeartbeats 4000000 in
theorem toBatchS_any (A : Option Addr) (c : Nat) (bs : List VBatch) (w : World) (h : LstBatch w w.heap.size A bs) (hn : bs.length ≤ 1048576) :
    Calls Try.prog 49 #[.slice A bs.length c] w fun e w' => ∃ arr : Array Value, e = .returned (.slice (some ⟨w.heap.size, 0, none⟩) bs.length bs.length) ∧ w'.heap[w.heap.size]? = some (.cells arr 27 (0, 0)) ∧ ArrBatch arr bs ∧ Below w.heap.size w w' := by
  have hmk := fun W => make_Batch bs.length hn W
  go_enter Try.func49, Try.ntmps49
  go_wp2
  clear hmk
  go_loopw [4] (fun i wr => ∃ (k : Nat) (arr : Array Value), k ≤ bs.length ∧ i = .int .i64 k ∧ wr.heap[w.heap.size]? = some (.cells arr 27 (0, 0)) ∧ arr.size = bs.length * 4 ∧ (∀ j, j < k → arr[j * 4]? = some (.int .i64 (nthBatch bs j).d) ∧ arr[j * 4 + 1]? = some (.int .i64 (nthBatch bs j).a) ∧ arr[j * 4 + 2]? = some (.int .i64 (nthBatch bs j).r) ∧ arr[j * 4 + 3]? = some (.int .i64 (nthBatch bs j).s)) ∧ Below w.heap.size w wr) (fun i _ => bs.length - (intOf i).toNat)
  case atStart => exact ⟨0, _, Nat.zero_le _, rfl, heap_alloc_new w _, size_madeCells _ _, fun j hj => absurd hj (by omega), allocB w _⟩
  case round =>
    obtain ⟨k, arr, hk, rfl, hb, hs, ha, hbel⟩ := hrel
    by_cases hlt : k < bs.length
    · obtain ⟨b, off, rfl, hbb, hc⟩ := (h.below hbel).at_ hlt
      obtain ⟨x, hx⟩ : ∃ x, x = nthBatch bs k := ⟨_, rfl⟩
      obtain ⟨x0, x1, x2, x3⟩ := hc k hlt
      rw [← hx] at x0 x1 x2 x3
      have HX := Lib.hid hx
      have HB := Lib.hid hb
      have HS := Lib.hid hs
      have HA := Lib.hid ha
      have HL := Lib.hid hbel
      clear hx hb hs ha hbel hc h
      go_wp2_with fail
      refine (toBatch_exact _ _ _ _ _).mono ?_
      rintro e w' ⟨rfl, hw1⟩
      obtain ⟨w1, rfl⟩ : ∃ w1 : World, w1 = w' := ⟨_, rfl⟩
      have hb1 : Below wr.heap.size wr w1 := by rw [← hw1]; exact allocB3 wr _ _ _
      have hblk : w1.heap[w.heap.size]? = some (.cells arr 27 (0, 0)) := (hb1.block _ (lt_blk HB.out)).trans HB.out
      clear hw1
      have hsz := HS.out
      obtain ⟨u0, s0, f0⟩ := blk_at hblk (j := k * 4) (by omega)
      obtain ⟨u1, s1, f1⟩ := blk_at hblk (j := k * 4 + 1) (by omega)
      obtain ⟨u2, s2, f2⟩ := blk_at hblk (j := k * 4 + 2) (by omega)
      obtain ⟨u3, s3, f3⟩ := blk_at hblk (j := k * 4 + 3) (by omega)
      have HK := Lib.hid hblk
      have HL1 := Lib.hid (next HL.out hb1)
      clear hblk hb1 hsz
      go_wp2_with fail
      go_roundw
      case rel =>
        refine ⟨k + 1, _, by omega, by go_num, blk_set (blk_set (blk_set (blk_set (HK.out) (k * 4) _) (k * 4 + 1) _) (k * 4 + 2) _) (k * 4 + 3) _, by simp [HS.out], fun j hj => ?_, ((((HL1.out).setCell (Nat.le_refl _) _).setCell (Nat.le_refl _) _).setCell (Nat.le_refl _) _).setCell (Nat.le_refl _) _⟩
        have hsz := HS.out
        by_cases e : j = k
        · subst e
          rw [← HX.out]
          refine ⟨?_, ?_, ?_, ?_⟩ <;> simp [Array.getElem?_setIfInBounds, hsz] <;> omega
        · obtain ⟨d0, d1, d2, d3⟩ := HA.out j (by omega)
          refine ⟨by rw [Array.getElem?_setIfInBounds_ne (by omega), Array.getElem?_setIfInBounds_ne (by omega), Array.getElem?_setIfInBounds_ne (by omega), Array.getElem?_setIfInBounds_ne (by omega)]; exact d0, by rw [Array.getElem?_setIfInBounds_ne (by omega), Array.getElem?_setIfInBounds_ne (by omega), Array.getElem?_setIfInBounds_ne (by omega), Array.getElem?_setIfInBounds_ne (by omega)]; exact d1, by rw [Array.getElem?_setIfInBounds_ne (by omega), Array.getElem?_setIfInBounds_ne (by omega), Array.getElem?_setIfInBounds_ne (by omega), Array.getElem?_setIfInBounds_ne (by omega)]; exact d2, by rw [Array.getElem?_setIfInBounds_ne (by omega), Array.getElem?_setIfInBounds_ne (by omega), Array.getElem?_setIfInBounds_ne (by omega), Array.getElem?_setIfInBounds_ne (by omega)]; exact d3⟩
      case measure => simp [intOf]; omega
    · clear h
      have HH := Lib.hid (And.intro hb (And.intro hs (And.intro ha hbel)))
      clear hb hs ha hbel
      go_wp2_with fail
      go_ret
      obtain ⟨h1, h2, h3, h4⟩ := HH.out
      have e : k = bs.length := by omega
      subst e
      exact ⟨arr, rfl, h1, ⟨h2, h3⟩, h4⟩
set_option maxHeartbeats 1000000 in
theorem eqBatch_same (d : Int) (a : Int) (r : Int) (s : Int) (w : World) :
    Calls Try.prog 27 #[.agg #[.int .i64 d, .int .i64 a, .int .i64 r, .int .i64 s], .agg #[.int .i64 d, .int .i64 a, .int .i64 r, .int .i64 s]] w fun e w' => e = .returned (.bool true) ∧ Below w.heap.size w w' := by
  go_enter Try.func27, Try.ntmps27
  go_wp2
  go_ret
  exact ⟨rfl, allocB2 w _ _⟩
set_option maxHeartbeats 4000000 in
theorem eqBatchS_same (A A' : Option Addr) (c c' : Nat) (bs : List VBatch) (w : World) (h : LstBatch w w.heap.size A bs) (h' : LstBatch w w.heap.size A' bs) (hn : bs.length ≤ 1048576) :
    Calls Try.prog 51 #[.slice A bs.length c, .slice A' bs.length c'] w fun e w' => e = .returned (.bool true) ∧ Below w.heap.size w w' := by
  have hl' : ((bs.length : Int) != (bs.length : Int)) = false := by simp
  go_enter Try.func51, Try.ntmps51
  go_wp2
  go_loopw [5] (fun i wr => ∃ k : Nat, k ≤ bs.length ∧ i = .int .i64 k ∧ Below w.heap.size w wr) (fun i _ => bs.length - (intOf i).toNat)
  case atStart => exact ⟨0, Nat.zero_le _, rfl, Below.refl _ _⟩
  case round =>
    obtain ⟨k, hk, rfl, hbel⟩ := hrel
    have HL := Lib.hid hbel
    by_cases hlt : k < bs.length
    · obtain ⟨b, off, rfl, hbb, hc⟩ := (h.below hbel).at_ hlt
      obtain ⟨b', off', rfl, hbb', hc'⟩ := (h'.below hbel).at_ hlt
      obtain ⟨x, hx⟩ : ∃ x, x = nthBatch bs k := ⟨_, rfl⟩
      obtain ⟨x0, x1, x2, x3⟩ := hc k hlt
      obtain ⟨y0, y1, y2, y3⟩ := hc' k hlt
      rw [← hx] at x0 x1 x2 x3 y0 y1 y2 y3
      have hi0 : (0 : Int) ≤ (k : Int) := by omega
      have hi1 : (k : Int) < (bs.length : Int) := by omega
      clear hx hbel hc hc' h h'
      go_wp2_with fail
      have hS0 : wr.drew.cell? ⟨b, off + k * 4, none⟩ = some (.int .i64 x.d) ∧ wr.drew.cell? ⟨b, off + k * 4 + 1, none⟩ = some (.int .i64 x.a) ∧ wr.drew.cell? ⟨b, off + k * 4 + 2, none⟩ = some (.int .i64 x.r) ∧ wr.drew.cell? ⟨b, off + k * 4 + 3, none⟩ = some (.int .i64 x.s) ∧ wr.drew.cell? ⟨b', off' + k * 4, none⟩ = some (.int .i64 x.d) ∧ wr.drew.cell? ⟨b', off' + k * 4 + 1, none⟩ = some (.int .i64 x.a) ∧ wr.drew.cell? ⟨b', off' + k * 4 + 2, none⟩ = some (.int .i64 x.r) ∧ wr.drew.cell? ⟨b', off' + k * 4 + 3, none⟩ = some (.int .i64 x.s) := ⟨x0, x1, x2, x3, y0, y1, y2, y3⟩
      go_region_held3 (fun W => W.cell? ⟨b, off + k * 4, none⟩ = some (.int .i64 x.d) ∧ W.cell? ⟨b, off + k * 4 + 1, none⟩ = some (.int .i64 x.a) ∧ W.cell? ⟨b, off + k * 4 + 2, none⟩ = some (.int .i64 x.r) ∧ W.cell? ⟨b, off + k * 4 + 3, none⟩ = some (.int .i64 x.s) ∧ W.cell? ⟨b', off' + k * 4, none⟩ = some (.int .i64 x.d) ∧ W.cell? ⟨b', off' + k * 4 + 1, none⟩ = some (.int .i64 x.a) ∧ W.cell? ⟨b', off' + k * 4 + 2, none⟩ = some (.int .i64 x.r) ∧ W.cell? ⟨b', off' + k * 4 + 3, none⟩ = some (.int .i64 x.s)) (first | assumption | go_keep)
        (first | (go_at_call 27; refine (eqBatch_same _ _ _ _ _).mono ?_; rintro e w1 ⟨rfl, b1⟩; have hS1 : w1.cell? ⟨b, off + k * 4, none⟩ = some (.int .i64 x.d) ∧ w1.cell? ⟨b, off + k * 4 + 1, none⟩ = some (.int .i64 x.a) ∧ w1.cell? ⟨b, off + k * 4 + 2, none⟩ = some (.int .i64 x.r) ∧ w1.cell? ⟨b, off + k * 4 + 3, none⟩ = some (.int .i64 x.s) ∧ w1.cell? ⟨b', off' + k * 4, none⟩ = some (.int .i64 x.d) ∧ w1.cell? ⟨b', off' + k * 4 + 1, none⟩ = some (.int .i64 x.a) ∧ w1.cell? ⟨b', off' + k * 4 + 2, none⟩ = some (.int .i64 x.r) ∧ w1.cell? ⟨b', off' + k * 4 + 3, none⟩ = some (.int .i64 x.s) := ⟨keepc b1 hS0.1, keepc b1 hS0.2.1, keepc b1 hS0.2.2.1, keepc b1 hS0.2.2.2.1, keepc b1 hS0.2.2.2.2.1, keepc b1 hS0.2.2.2.2.2.1, keepc b1 hS0.2.2.2.2.2.2.1, keepc b1 hS0.2.2.2.2.2.2.2⟩; have HL1 := Lib.hid (next HL.out.drew b1); clear b1))
      go_wp2_with fail
      go_roundw
      case rel => exact ⟨k + 1, by omega, by go_num, HL1.out⟩
      case measure => simp [intOf]; omega
    · clear h h' hbel
      go_wp2_with fail
      go_ret
      exact ⟨rfl, HL.out⟩
set_option maxHeartbeats 1000000 in
theorem szBatchS_any (A : Option Addr) (c n : Nat) (left : Int) (w : World) (h0 : 0 ≤ left) (h1 : left ≤ 1048576) (hn : n ≤ 9223372036854775807) :
    Calls Try.prog 47 #[.slice A n c, .int .i64 left] w fun e w' => e = .returned (.int .i64 (szL left n)) ∧ w = w' := by
  by_cases h : left < (n : Int)
  · go_enter Try.func47, Try.ntmps47
    go_wp2
    go_ret
    exact ⟨ret_int (by rw [szL_neg (by omega)]), rfl⟩
  · go_enter Try.func47, Try.ntmps47
    go_wp2
    go_ret
    exact ⟨ret_int (by rw [szL_pos (by omega)]), rfl⟩
end Go.Proofs.Ytmfbhddnlgbcmaa
