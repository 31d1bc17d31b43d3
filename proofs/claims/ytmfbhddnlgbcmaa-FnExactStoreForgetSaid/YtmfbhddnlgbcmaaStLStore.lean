/- Structs of a number and a list (Store): copies, comparisons, sizes: each function by its contract. -/
import Derived.Test.YtmfbhddnlgbcmaaLstBatch
import Derived.Test.YtmfbhddnlgbcmaaDraw5
import Derived.Test.YtmfbhddnlgbcmaaArgT

namespace Go.Proofs.Ytmfbhddnlgbcmaa
open Go.ChangeShapes Go.WideShapes Go.ChangeAt Go.RowKit Go.Joins
set_option linter.unusedVariables false

set_option maxHeartbeats 4000000 in
theorem toStore_any (f : Int) (A : Option Addr) (c : Nat) (bs : List VBatch) (w : World) (h : LstBatch w w.heap.size A bs) (hn : bs.length ≤ 1048576) :
    Calls Try.prog 21 #[.agg #[.int .i64 f, .slice A bs.length c]] w fun e w' => ∃ (g : Nat) (arr : Array Value), e = .returned (.agg #[.int .i64 f, .slice (some ⟨g, 0, none⟩) bs.length bs.length]) ∧ Box w' g 27 arr ∧ ArrBatch arr bs ∧ w.heap.size ≤ g ∧ Below w.heap.size w w' := by
  have H := Lib.hid h
  clear h
  go_enter Try.func21, Try.ntmps21
  go_wp2_with fail
  refine (toBatchS_any _ _ bs _ (H.out.carry (allocB3 w _ _ _)) hn).mono ?_
  rintro e w1 ⟨arr, rfl, hblk, harr, b1⟩
  have o1 : Box w1 (w.heap.size + 1) 25 #[.int .i64 0, .slice none 0 0] := by
    have := ((Box.new (w.alloc (.cells #[.int .i64 f, .slice A bs.length c] 37)) #[.int .i64 0, .slice none 0 0] 25).carry (allocB _ _)).carry b1
    simpa using this
  have o2 : Box w1 (w.heap.size + 2) 25 #[.int .i64 f, .slice none 0 0] := by
    have := (Box.new ((w.alloc (.cells #[.int .i64 f, .slice A bs.length c] 37)).alloc (.cells #[.int .i64 0, .slice none 0 0] 25)) #[.int .i64 f, .slice none 0 0] 25).carry b1
    simpa using this
  have hg : Box w1 (w.heap.size + 3) 27 arr := by unfold Box; simpa using hblk
  have bw := (allocB3 w (.cells #[.int .i64 f, .slice A bs.length c] 37) (.cells #[.int .i64 0, .slice none 0 0] 25) (.cells #[.int .i64 f, .slice none 0 0] 25)).trans (b1.mono (by simp; omega))
  have c0 := o1.cell (j := 0) (u := .int .i64 0) rfl
  have c1 := o1.cell (j := 1) (u := .slice none 0 0) rfl
  have d0 := o2.cell (j := 0) (u := .int .i64 f) rfl
  have d1 := o2.cell (j := 1) (u := .slice none 0 0) rfl
  have f0 := o1.free 0
  have f1 := o1.free 1
  have g0 := o2.free 0
  have g1 := o2.free 1
  have HG := Lib.hid hg
  have HA := Lib.hid harr
  have HB := Lib.hid bw
  clear hblk b1 o1 o2 hg harr bw
  go_wp2_with fail
  refine bodyPost_ret (v := .agg #[.int .i64 f, .slice (some ⟨w.heap.size + 3, 0, none⟩) bs.length bs.length]) (by simp [results, Try.results21, go_sem, *]) rfl ⟨_, arr, rfl, ?_, HA.out, by omega, ?_⟩
  · exact ((HG.out.other (by omega) _ _).other (by omega) _ _).other (by omega) _ _
  · exact ((HB.out.setCell (by show w.heap.size ≤ w.heap.size + 2; omega) _).setCell (by show w.heap.size ≤ w.heap.size + 1; omega) _).setCell (by show w.heap.size ≤ w.heap.size + 1; omega) _
set_option maxHeartbeats 2000000 in
theorem eqStore_same (f : Int) (A A' : Option Addr) (c c' : Nat) (bs : List VBatch) (w : World) (h : LstBatch w w.heap.size A bs) (h' : LstBatch w w.heap.size A' bs) (hn : bs.length ≤ 1048576) :
    Calls Try.prog 23 #[.agg #[.int .i64 f, .slice A bs.length c], .agg #[.int .i64 f, .slice A' bs.length c']] w fun e w' => e = .returned (.bool true) ∧ Below w.heap.size w w' := by
  have hff : (f != f) = false := by simp
  have H := Lib.hid (h.carry (allocB2 w (.cells #[.int .i64 f, .slice A bs.length c] 25) (.cells #[.int .i64 f, .slice A' bs.length c'] 25)))
  have H' := Lib.hid (h'.carry (allocB2 w (.cells #[.int .i64 f, .slice A bs.length c] 25) (.cells #[.int .i64 f, .slice A' bs.length c'] 25)))
  clear h h'
  go_enter Try.func23, Try.ntmps23
  go_wp2_with fail
  refine (eqBatchS_same _ _ _ _ bs _ H.out H'.out hn).mono ?_
  rintro e w1 ⟨rfl, b1⟩
  have B1 := Lib.hid (next (allocB2 w _ _) b1)
  clear b1
  go_wp2_with fail
  go_ret
  exact ⟨rfl, B1.out⟩
set_option maxHeartbeats 2000000 in
theorem szStore_any (f : Int) (A : Option Addr) (c n : Nat) (left : Int) (w : World) (h0 : 0 ≤ left) (h1 : left ≤ 1048576) (hn : n ≤ 9223372036854775807) :
    Calls Try.prog 19 #[.agg #[.int .i64 f, .slice A n c], .int .i64 left] w fun e w' => e = .returned (.int .i64 (szL left n)) ∧ Below w.heap.size w w' := by
  by_cases h : left < (n : Int)
  · go_enter Try.func19, Try.ntmps19
    go_wp2_with fail
    refine (szBatchS_any _ _ _ _ _ h0 h1 hn).mono ?_
    rw [szL_neg (by omega)]
    rintro e w' ⟨rfl, rfl⟩
    go_wp2_with fail
    go_ret
    exact ⟨ret_int (by rw [szL_neg (by omega)]), allocB w _⟩
  · go_enter Try.func19, Try.ntmps19
    go_wp2_with fail
    refine (szBatchS_any _ _ _ _ _ h0 h1 hn).mono ?_
    rw [szL_pos (by omega)]
    rintro e w' ⟨rfl, rfl⟩
    go_wp2_with fail
    go_ret
    exact ⟨ret_int (by rw [szL_pos (by omega)]), allocB w _⟩
end Go.Proofs.Ytmfbhddnlgbcmaa
