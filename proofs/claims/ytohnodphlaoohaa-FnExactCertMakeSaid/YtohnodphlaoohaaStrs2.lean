/- Tallies, vertices, certificates: comparisons of equal ones and sizes, each function by its contract. -/
import Derived.Test.YtohnodphlaoohaaStrs
namespace Go.Proofs.Ytohnodphlaoohaa
open Go.RowKit
set_option linter.unusedVariables false

set_option maxHeartbeats 2000000 in
theorem eqTally_same (r a d : Int) (A A' : Option Addr) (c c' : Nat) (zs : List Int) (w : World) (h : Ints w w.heap.size A zs) (h' : Ints w w.heap.size A' zs) (hn : zs.length ≤ 1048576) :
    Calls Try.prog 37 #[.agg #[.int .i64 r, .int .i64 a, .int .i64 d, .slice A zs.length c], .agg #[.int .i64 r, .int .i64 a, .int .i64 d, .slice A' zs.length c']] w fun e w' => e = .returned (.bool true) ∧ Below w.heap.size w w' := by
  have H := Lib.hid (h.carry (allocB2 w (.cells #[.int .i64 r, .int .i64 a, .int .i64 d, .slice A zs.length c] 37) (.cells #[.int .i64 r, .int .i64 a, .int .i64 d, .slice A' zs.length c'] 37)))
  have H' := Lib.hid (h'.carry (allocB2 w (.cells #[.int .i64 r, .int .i64 a, .int .i64 d, .slice A zs.length c] 37) (.cells #[.int .i64 r, .int .i64 a, .int .i64 d, .slice A' zs.length c'] 37)))
  have BB := Lib.hid (allocB2 w (.cells #[.int .i64 r, .int .i64 a, .int .i64 d, .slice A zs.length c] 37) (.cells #[.int .i64 r, .int .i64 a, .int .i64 d, .slice A' zs.length c'] 37))
  clear h h'
  have ht : decide (zs = zs) = true := by simp
  go_enter Try.func37, Try.ntmps37
  go_wp2_with fail
  refine (eqVote_any _ _ _ _ _ _ _).mono ?_
  rw [decide_eq_true (show r = r ∧ a = a ∧ d = d by simp)]
  rintro e w2 ⟨rfl, b2⟩
  replace H := Lib.hid (H.out.carry b2)
  replace H' := Lib.hid (H'.out.carry b2)
  replace BB := Lib.hid (next BB.out b2)
  have x0 := keepc (b := w.heap.size) (off := 0) (v := .int .i64 r) b2 (by simp)
  have x1 := keepc (b := w.heap.size) (off := 1) (v := .int .i64 a) b2 (by simp)
  have x2 := keepc (b := w.heap.size) (off := 2) (v := .int .i64 d) b2 (by simp)
  have x3 := keepc (b := w.heap.size) (off := 3) (v := .slice A zs.length c) b2 (by simp)
  have y0 := keepc (b := w.heap.size + 1) (off := 0) (v := .int .i64 r) b2 (by simp)
  have y1 := keepc (b := w.heap.size + 1) (off := 1) (v := .int .i64 a) b2 (by simp)
  have y2 := keepc (b := w.heap.size + 1) (off := 2) (v := .int .i64 d) b2 (by simp)
  have y3 := keepc (b := w.heap.size + 1) (off := 3) (v := .slice A' zs.length c') b2 (by simp)
  clear b2
  go_wp2_with fail
  refine (eqIntS_any _ _ _ _ _ _ _ _ H.out H'.out hn hn).mono ?_
  rintro e w3 ⟨rfl, b3⟩
  replace H := Lib.hid (H.out.carry (b3.below _))
  replace H' := Lib.hid (H'.out.carry (b3.below _))
  replace BB := Lib.hid (next BB.out (b3.below _))
  replace x0 := keepc (b3.below _) x0
  replace x1 := keepc (b3.below _) x1
  replace x2 := keepc (b3.below _) x2
  replace x3 := keepc (b3.below _) x3
  replace y0 := keepc (b3.below _) y0
  replace y1 := keepc (b3.below _) y1
  replace y2 := keepc (b3.below _) y2
  replace y3 := keepc (b3.below _) y3
  clear b3
  go_wp2_with fail
  go_ret
  exact ⟨rfl, BB.out⟩
set_option maxHeartbeats 2000000 in
theorem szTally_any (r a d : Int) (A : Option Addr) (c n : Nat) (left : Int) (w : World) (h0 : 0 ≤ left) (h1 : left ≤ 1048576) (hn : n ≤ 9223372036854775807) :
    Calls Try.prog 35 #[.agg #[.int .i64 r, .int .i64 a, .int .i64 d, .slice A n c], .int .i64 left] w fun e w' => e = .returned (.int .i64 (szL left n)) ∧ Below w.heap.size w w' := by
  by_cases h : left < (n : Int)
  · go_enter Try.func35, Try.ntmps35
    go_wp2_with fail
    refine (szIntS_any _ _ _ _ _ h0 h1 hn).mono ?_
    rw [szL_neg (by omega)]
    rintro e w' ⟨rfl, rfl⟩
    go_wp2_with fail
    go_ret
    exact ⟨ret_int (by rw [szL_neg (by omega)]), allocB w _⟩
  · go_enter Try.func35, Try.ntmps35
    go_wp2_with fail
    refine (szIntS_any _ _ _ _ _ h0 h1 hn).mono ?_
    rw [szL_pos (by omega)]
    rintro e w' ⟨rfl, rfl⟩
    go_wp2_with fail
    go_ret
    exact ⟨ret_int (by rw [szL_pos (by omega)]), allocB w _⟩
set_option maxHeartbeats 2000000 in
theorem eqCert_same (d s : Int) (A A' : Option Addr) (c c' : Nat) (zs : List Int) (w : World) (h : Ints w w.heap.size A zs) (h' : Ints w w.heap.size A' zs) (hn : zs.length ≤ 1048576) :
    Calls Try.prog 16 #[.agg #[.int .i64 d, .slice A zs.length c, .int .i64 s], .agg #[.int .i64 d, .slice A' zs.length c', .int .i64 s]] w fun e w' => e = .returned (.bool true) ∧ Below w.heap.size w w' := by
  have H := Lib.hid (h.carry (allocB2 w (.cells #[.int .i64 d, .slice A zs.length c, .int .i64 s] 24) (.cells #[.int .i64 d, .slice A' zs.length c', .int .i64 s] 24)))
  have H' := Lib.hid (h'.carry (allocB2 w (.cells #[.int .i64 d, .slice A zs.length c, .int .i64 s] 24) (.cells #[.int .i64 d, .slice A' zs.length c', .int .i64 s] 24)))
  have BB := Lib.hid (allocB2 w (.cells #[.int .i64 d, .slice A zs.length c, .int .i64 s] 24) (.cells #[.int .i64 d, .slice A' zs.length c', .int .i64 s] 24))
  clear h h'
  have ht : decide (zs = zs) = true := by simp
  go_enter Try.func16, Try.ntmps16
  go_wp2_with fail
  refine (eqIntS_any _ _ _ _ _ _ _ _ H.out H'.out hn hn).mono ?_
  rintro e w2 ⟨rfl, b2⟩
  replace H := Lib.hid (H.out.carry (b2.below _))
  replace H' := Lib.hid (H'.out.carry (b2.below _))
  replace BB := Lib.hid (next BB.out (b2.below _))
  have x0 := keepc (b := w.heap.size) (off := 0) (v := .int .i64 d) (b2.below _) (by simp)
  have x1 := keepc (b := w.heap.size) (off := 1) (v := .slice A zs.length c) (b2.below _) (by simp)
  have x2 := keepc (b := w.heap.size) (off := 2) (v := .int .i64 s) (b2.below _) (by simp)
  have y0 := keepc (b := w.heap.size + 1) (off := 0) (v := .int .i64 d) (b2.below _) (by simp)
  have y1 := keepc (b := w.heap.size + 1) (off := 1) (v := .slice A' zs.length c') (b2.below _) (by simp)
  have y2 := keepc (b := w.heap.size + 1) (off := 2) (v := .int .i64 s) (b2.below _) (by simp)
  clear b2
  go_wp2_with fail
  go_ret
  exact ⟨rfl, BB.out⟩
set_option maxHeartbeats 2000000 in
theorem szCert_any (d s : Int) (A : Option Addr) (c n : Nat) (left : Int) (w : World) (h0 : 0 ≤ left) (h1 : left ≤ 1048576) (hn : n ≤ 9223372036854775807) :
    Calls Try.prog 40 #[.agg #[.int .i64 d, .slice A n c, .int .i64 s], .int .i64 left] w fun e w' => e = .returned (.int .i64 (szL left n)) ∧ Below w.heap.size w w' := by
  by_cases h : left < (n : Int)
  · go_enter Try.func40, Try.ntmps40
    go_wp2_with fail
    refine (szIntS_any _ _ _ _ _ h0 h1 hn).mono ?_
    rw [szL_neg (by omega)]
    rintro e w' ⟨rfl, rfl⟩
    go_wp2_with fail
    go_ret
    exact ⟨ret_int (by rw [szL_neg (by omega)]), allocB w _⟩
  · go_enter Try.func40, Try.ntmps40
    go_wp2_with fail
    refine (szIntS_any _ _ _ _ _ h0 h1 hn).mono ?_
    rw [szL_pos (by omega)]
    rintro e w' ⟨rfl, rfl⟩
    go_wp2_with fail
    go_ret
    exact ⟨ret_int (by rw [szL_pos (by omega)]), allocB w _⟩
end Go.Proofs.Ytohnodphlaoohaa
