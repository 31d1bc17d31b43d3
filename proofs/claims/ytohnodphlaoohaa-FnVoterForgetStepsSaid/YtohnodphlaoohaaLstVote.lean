/- Lists of vote: copies, comparisons, sizes: each function by its contract. -/
import Derived.Test.YtohnodphlaoohaaBase
import Derived.Test.YtohnodphlaoohaaOwn
import Derived.Test.YtohnodphlaoohaaSz
import Derived.Deep.RegionHeld3
namespace Go.Proofs.Ytohnodphlaoohaa
open Go.RowKit
set_option linter.unusedVariables false

/-- A vote's fields. -/
structure VVote where
  r : Int
  a : Int
  d : Int
/-- Its cells. -/
def VVote.cells (x : VVote) : List Value := [.int .i64 x.r, .int .i64 x.a, .int .i64 x.d]
def VVote.zero : VVote := ⟨0, 0, 0⟩
/-- The element at place k (a name that the walk does not look into). -/
def nthVote (bs : List VVote) (k : Nat) : VVote := bs.getD k VVote.zero
theorem nthVote_eq {bs : List VVote} {k : Nat} (h : k < bs.length) : nthVote bs k = bs[k] := by simp [nthVote, List.getElem?_eq_getElem h]
/-- The slice at A holds these elements, in a block below B. -/
def LstVote (w : World) (B : Nat) (A : Option Addr) (bs : List VVote) : Prop :=
  bs ≠ [] → ∃ b off, A = some ⟨b, off, none⟩ ∧ b < B ∧ ∀ i, i < bs.length → w.cell? ⟨b, off + i * 3, none⟩ = some (.int .i64 (nthVote bs i).r) ∧ w.cell? ⟨b, off + i * 3 + 1, none⟩ = some (.int .i64 (nthVote bs i).a) ∧ w.cell? ⟨b, off + i * 3 + 2, none⟩ = some (.int .i64 (nthVote bs i).d)
theorem LstVote.at_ {w : World} {B : Nat} {A : Option Addr} {bs : List VVote} (h : LstVote w B A bs) {k : Nat} (hk : k < bs.length) : ∃ b off, A = some ⟨b, off, none⟩ ∧ b < B ∧ ∀ i, i < bs.length → w.cell? ⟨b, off + i * 3, none⟩ = some (.int .i64 (nthVote bs i).r) ∧ w.cell? ⟨b, off + i * 3 + 1, none⟩ = some (.int .i64 (nthVote bs i).a) ∧ w.cell? ⟨b, off + i * 3 + 2, none⟩ = some (.int .i64 (nthVote bs i).d) :=
  h (by intro e; subst e; simp at hk)
theorem LstVote.below {w w' : World} {B : Nat} {A : Option Addr} {bs : List VVote} (h : LstVote w B A bs) (hb : Below B w w') : LstVote w' B A bs := fun hn => by
  obtain ⟨b, off, e, hB, hc⟩ := h hn
  exact ⟨b, off, e, hB, fun i hi => by
    obtain ⟨c0, c1, c2⟩ := hc i hi
    exact ⟨(hb.cell hB).trans c0, (hb.cell hB).trans c1, (hb.cell hB).trans c2⟩⟩
theorem LstVote.more {w : World} {B B' : Nat} {A : Option Addr} {bs : List VVote} (h : LstVote w B A bs) (hB : B ≤ B') : LstVote w B' A bs := fun hn => by
  obtain ⟨b, off, e, hb, hc⟩ := h hn
  exact ⟨b, off, e, by omega, hc⟩
theorem LstVote.carry {w w' : World} {A : Option Addr} {bs : List VVote} (h : LstVote w w.heap.size A bs) (hb : Below w.heap.size w w') : LstVote w' w'.heap.size A bs := (h.below hb).more hb.size
theorem LstVote.quiet {w w' : World} {B : Nat} {A : Option Addr} {bs : List VVote} (h : LstVote w B A bs) (hq : Quiet w w') : LstVote w' B A bs := h.below (hq.below B)
/-- An array that holds these elements. -/
def ArrVote (arr : Array Value) (bs : List VVote) : Prop := arr.size = bs.length * 3 ∧ ∀ j, j < bs.length → arr[j * 3]? = some (.int .i64 (nthVote bs j).r) ∧ arr[j * 3 + 1]? = some (.int .i64 (nthVote bs j).a) ∧ arr[j * 3 + 2]? = some (.int .i64 (nthVote bs j).d)
theorem LstVote.of_blk {w : World} {g B : Nat} {t : TypeId} {arr : Array Value} {bs : List VVote} (h : w.heap[g]? = some (.cells arr t (0, 0))) (ha : ArrVote arr bs) (hB : g < B) : LstVote w B (some ⟨g, 0, none⟩) bs := fun _ =>
  ⟨g, 0, rfl, hB, fun i hi => by
    obtain ⟨c0, c1, c2⟩ := ha.2 i hi
    exact ⟨by rw [cell_of_row w g _ _ _ _ h, Nat.zero_add]; exact c0, by rw [cell_of_row w g _ _ _ _ h, Nat.zero_add]; exact c1, by rw [cell_of_row w g _ _ _ _ h, Nat.zero_add]; exact c2⟩⟩
set_option maxHeartbeats 1000000 in
theorem toVote_exact (r : Int) (a : Int) (d : Int) (w : World) :
    Calls Try.prog 87 #[.agg #[.int .i64 r, .int .i64 a, .int .i64 d]] w fun e1 w' => e1 = .returned (.agg #[.int .i64 r, .int .i64 a, .int .i64 d]) ∧ ((w.alloc (.cells #[.int .i64 r, .int .i64 a, .int .i64 d] 59)).alloc (.cells #[.int .i64 r, .int .i64 a, .int .i64 d] 35)).alloc (.cells #[.int .i64 r, .int .i64 a, .int .i64 d] 35) = w' := by
  go_enter Try.func87, Try.ntmps87
  go_wp2
  exact bodyPost_ret (v := .agg #[.int .i64 r, .int .i64 a, .int .i64 d]) (by simp [results, Try.results87, go_sem]) rfl ⟨rfl, rfl⟩
theorem info_Vote : (Try.prog.info? 35).map (fun i => (i.zero, i.size, i.bytes)) = some (some (.agg #[.int .i64 0, .int .i64 0, .int .i64 0]), 3, 24) := by kernel_rfl
theorem make_Vote (n : Nat) (hn : n ≤ 1048576) (w : World) : (Instr.makeSlice 48 (.int .i64 (n : Int)) (.int .i64 (n : Int))).run Try.prog w = .ok (.slice (some ⟨w.heap.size, 0, none⟩) n n) (w.alloc (.cells (madeCells #[.int .i64 0, .int .i64 0, .int .i64 0] (n * 3)) 35)) := by
  obtain ⟨i, hi, hz, hs, hb⟩ := info_parts info_Vote
  have hr := run_make (P := Try.prog) w 48 35 i _ Try.underlying48 hi hz .i64 .i64 n n (by omega) (Int.le_refl _) (by rw [hb]; omega) (by omega)
  simp only [Int.toNat_natCast, hs] at hr
  exact hr
set_option maxHeartbeats 4000000 in
theorem toVoteS_any (A : Option Addr) (c : Nat) (bs : List VVote) (w : World) (h : LstVote w w.heap.size A bs) (hn : bs.length ≤ 1048576) :
    Calls Try.prog 80 #[.slice A bs.length c] w fun e w' => ∃ arr : Array Value, e = .returned (.slice (some ⟨w.heap.size, 0, none⟩) bs.length bs.length) ∧ w'.heap[w.heap.size]? = some (.cells arr 35 (0, 0)) ∧ ArrVote arr bs ∧ Below w.heap.size w w' := by
  have hmk := fun W => make_Vote bs.length hn W
  go_enter Try.func80, Try.ntmps80
  go_wp2
  clear hmk
  go_loopw [4] (fun i wr => ∃ (k : Nat) (arr : Array Value), k ≤ bs.length ∧ i = .int .i64 k ∧ wr.heap[w.heap.size]? = some (.cells arr 35 (0, 0)) ∧ arr.size = bs.length * 3 ∧ (∀ j, j < k → arr[j * 3]? = some (.int .i64 (nthVote bs j).r) ∧ arr[j * 3 + 1]? = some (.int .i64 (nthVote bs j).a) ∧ arr[j * 3 + 2]? = some (.int .i64 (nthVote bs j).d)) ∧ Below w.heap.size w wr) (fun i _ => bs.length - (intOf i).toNat)
  case atStart => exact ⟨0, _, Nat.zero_le _, rfl, heap_alloc_new w _, size_madeCells _ _, fun j hj => absurd hj (by omega), allocB w _⟩
  case round =>
    obtain ⟨k, arr, hk, rfl, hb, hs, ha, hbel⟩ := hrel
    by_cases hlt : k < bs.length
    · obtain ⟨b, off, rfl, hbb, hc⟩ := (h.below hbel).at_ hlt
      obtain ⟨x, hx⟩ : ∃ x, x = nthVote bs k := ⟨_, rfl⟩
      obtain ⟨x0, x1, x2⟩ := hc k hlt
      rw [← hx] at x0 x1 x2
      have HX := Lib.hid hx
      have HB := Lib.hid hb
      have HS := Lib.hid hs
      have HA := Lib.hid ha
      have HL := Lib.hid hbel
      clear hx hb hs ha hbel hc h
      go_wp2_with fail
      refine (toVote_exact _ _ _ _).mono ?_
      rintro e w' ⟨rfl, hw1⟩
      obtain ⟨w1, rfl⟩ : ∃ w1 : World, w1 = w' := ⟨_, rfl⟩
      have hb1 : Below wr.heap.size wr w1 := by rw [← hw1]; exact allocB3 wr _ _ _
      have hblk : w1.heap[w.heap.size]? = some (.cells arr 35 (0, 0)) := (hb1.block _ (lt_blk HB.out)).trans HB.out
      clear hw1
      have hsz := HS.out
      obtain ⟨u0, s0, f0⟩ := blk_at hblk (j := k * 3) (by omega)
      obtain ⟨u1, s1, f1⟩ := blk_at hblk (j := k * 3 + 1) (by omega)
      obtain ⟨u2, s2, f2⟩ := blk_at hblk (j := k * 3 + 2) (by omega)
      have HK := Lib.hid hblk
      have HL1 := Lib.hid (next HL.out hb1)
      clear hblk hb1 hsz
      go_wp2_with fail
      go_roundw
      case rel =>
        refine ⟨k + 1, _, by omega, by go_num, blk_set (blk_set (blk_set (HK.out) (k * 3) _) (k * 3 + 1) _) (k * 3 + 2) _, by simp [HS.out], fun j hj => ?_, (((HL1.out).setCell (Nat.le_refl _) _).setCell (Nat.le_refl _) _).setCell (Nat.le_refl _) _⟩
        have hsz := HS.out
        by_cases e : j = k
        · subst e
          rw [← HX.out]
          refine ⟨?_, ?_, ?_⟩ <;> simp [Array.getElem?_setIfInBounds, hsz] <;> omega
        · obtain ⟨d0, d1, d2⟩ := HA.out j (by omega)
          refine ⟨by rw [Array.getElem?_setIfInBounds_ne (by omega), Array.getElem?_setIfInBounds_ne (by omega), Array.getElem?_setIfInBounds_ne (by omega)]; exact d0, by rw [Array.getElem?_setIfInBounds_ne (by omega), Array.getElem?_setIfInBounds_ne (by omega), Array.getElem?_setIfInBounds_ne (by omega)]; exact d1, by rw [Array.getElem?_setIfInBounds_ne (by omega), Array.getElem?_setIfInBounds_ne (by omega), Array.getElem?_setIfInBounds_ne (by omega)]; exact d2⟩
      case measure => simp [intOf]; omega
    · clear h
      have HH := Lib.hid (And.intro hb (And.intro hs (And.intro ha hbel)))
      clear hb hs ha hbel
      go_wp2_with fail
      go_ret
      obtain ⟨h1, h2, h3, h4⟩ := HH.out
      have e : k = bs.length := by omega
      subst e
      exact ⟨arr, rfl, h1, ⟨h2, h3⟩, h4⟩
set_option maxHeartbeats 1000000 in
theorem eqVote_same (r : Int) (a : Int) (d : Int) (w : World) :
    Calls Try.prog 88 #[.agg #[.int .i64 r, .int .i64 a, .int .i64 d], .agg #[.int .i64 r, .int .i64 a, .int .i64 d]] w fun e w' => e = .returned (.bool true) ∧ Below w.heap.size w w' := by
  go_enter Try.func88, Try.ntmps88
  go_wp2
  go_ret
  exact ⟨rfl, allocB2 w _ _⟩
set_option maxHeartbeats 4000000 in
theorem eqVoteS_same (A A' : Option Addr) (c c' : Nat) (bs : List VVote) (w : World) (h : LstVote w w.heap.size A bs) (h' : LstVote w w.heap.size A' bs) (hn : bs.length ≤ 1048576) :
    Calls Try.prog 84 #[.slice A bs.length c, .slice A' bs.length c'] w fun e w' => e = .returned (.bool true) ∧ Below w.heap.size w w' := by
  have hl' : ((bs.length : Int) != (bs.length : Int)) = false := by simp
  go_enter Try.func84, Try.ntmps84
  go_wp2
  go_loopw [5] (fun i wr => ∃ k : Nat, k ≤ bs.length ∧ i = .int .i64 k ∧ Below w.heap.size w wr) (fun i _ => bs.length - (intOf i).toNat)
  case atStart => exact ⟨0, Nat.zero_le _, rfl, Below.refl _ _⟩
  case round =>
    obtain ⟨k, hk, rfl, hbel⟩ := hrel
    have HL := Lib.hid hbel
    by_cases hlt : k < bs.length
    · obtain ⟨b, off, rfl, hbb, hc⟩ := (h.below hbel).at_ hlt
      obtain ⟨b', off', rfl, hbb', hc'⟩ := (h'.below hbel).at_ hlt
      obtain ⟨x, hx⟩ : ∃ x, x = nthVote bs k := ⟨_, rfl⟩
      obtain ⟨x0, x1, x2⟩ := hc k hlt
      obtain ⟨y0, y1, y2⟩ := hc' k hlt
      rw [← hx] at x0 x1 x2 y0 y1 y2
      have hi0 : (0 : Int) ≤ (k : Int) := by omega
      have hi1 : (k : Int) < (bs.length : Int) := by omega
      clear hx hbel hc hc' h h'
      go_wp2_with fail
      have hS0 : wr.drew.cell? ⟨b, off + k * 3, none⟩ = some (.int .i64 x.r) ∧ wr.drew.cell? ⟨b, off + k * 3 + 1, none⟩ = some (.int .i64 x.a) ∧ wr.drew.cell? ⟨b, off + k * 3 + 2, none⟩ = some (.int .i64 x.d) ∧ wr.drew.cell? ⟨b', off' + k * 3, none⟩ = some (.int .i64 x.r) ∧ wr.drew.cell? ⟨b', off' + k * 3 + 1, none⟩ = some (.int .i64 x.a) ∧ wr.drew.cell? ⟨b', off' + k * 3 + 2, none⟩ = some (.int .i64 x.d) := ⟨x0, x1, x2, y0, y1, y2⟩
      go_region_held3 (fun W => W.cell? ⟨b, off + k * 3, none⟩ = some (.int .i64 x.r) ∧ W.cell? ⟨b, off + k * 3 + 1, none⟩ = some (.int .i64 x.a) ∧ W.cell? ⟨b, off + k * 3 + 2, none⟩ = some (.int .i64 x.d) ∧ W.cell? ⟨b', off' + k * 3, none⟩ = some (.int .i64 x.r) ∧ W.cell? ⟨b', off' + k * 3 + 1, none⟩ = some (.int .i64 x.a) ∧ W.cell? ⟨b', off' + k * 3 + 2, none⟩ = some (.int .i64 x.d)) (first | assumption | go_keep)
        (first | (go_at_call 88; refine (eqVote_same _ _ _ _).mono ?_; rintro e w1 ⟨rfl, b1⟩; have hS1 : w1.cell? ⟨b, off + k * 3, none⟩ = some (.int .i64 x.r) ∧ w1.cell? ⟨b, off + k * 3 + 1, none⟩ = some (.int .i64 x.a) ∧ w1.cell? ⟨b, off + k * 3 + 2, none⟩ = some (.int .i64 x.d) ∧ w1.cell? ⟨b', off' + k * 3, none⟩ = some (.int .i64 x.r) ∧ w1.cell? ⟨b', off' + k * 3 + 1, none⟩ = some (.int .i64 x.a) ∧ w1.cell? ⟨b', off' + k * 3 + 2, none⟩ = some (.int .i64 x.d) := ⟨keepc b1 hS0.1, keepc b1 hS0.2.1, keepc b1 hS0.2.2.1, keepc b1 hS0.2.2.2.1, keepc b1 hS0.2.2.2.2.1, keepc b1 hS0.2.2.2.2.2⟩; have HL1 := Lib.hid (next HL.out.drew b1); clear b1))
      go_wp2_with fail
      go_roundw
      case rel => exact ⟨k + 1, by omega, by go_num, HL1.out⟩
      case measure => simp [intOf]; omega
    · clear h h' hbel
      go_wp2_with fail
      go_ret
      exact ⟨rfl, HL.out⟩
set_option maxHeartbeats 1000000 in
theorem szVoteS_any (A : Option Addr) (c n : Nat) (left : Int) (w : World) (h0 : 0 ≤ left) (h1 : left ≤ 1048576) (hn : n ≤ 9223372036854775807) :
    Calls Try.prog 76 #[.slice A n c, .int .i64 left] w fun e w' => e = .returned (.int .i64 (szL left n)) ∧ w = w' := by
  by_cases h : left < (n : Int)
  · go_enter Try.func76, Try.ntmps76
    go_wp2
    go_ret
    exact ⟨ret_int (by rw [szL_neg (by omega)]), rfl⟩
  · go_enter Try.func76, Try.ntmps76
    go_wp2
    go_ret
    exact ⟨ret_int (by rw [szL_pos (by omega)]), rfl⟩
end Go.Proofs.Ytohnodphlaoohaa
