/- Tallies: whether they are valid and done, each function by its contract. -/
import Derived.Test.YtohnodphlaoohaaStrs2
import Derived.Test.YtohnodphlaoohaaCmt3
namespace Go.Proofs.Ytohnodphlaoohaa
open Go.RowKit
set_option linter.unusedVariables false

def tallyB (zs ms : List Int) (r a d : Int) : Bool := validB zs && voteB r a d && memB zs.length ms
def doneB (zs ms : List Int) (r a d : Int) : Bool := tallyB zs ms r a d && decide (quorum zs ≤ weight zs ms)
set_option maxHeartbeats 2000000 in
theorem i_tallyValid (r a d : Int) (A A' : Option Addr) (c c' : Nat) (zs ms : List Int) (w : World) (h : Ints w w.heap.size A zs) (h' : Ints w w.heap.size A' ms) (hn : zs.length ≤ 1048576) (hm : ms.length ≤ 1048576) :
    Calls Try.prog 70 #[.slice A zs.length c, .agg #[.int .i64 r, .int .i64 a, .int .i64 d, .slice A' ms.length c']] w fun e w' => e = .returned (.bool (tallyB zs ms r a d)) ∧ Below w.heap.size w w' := by
  have BB := Lib.hid (allocB w (.cells #[.int .i64 r, .int .i64 a, .int .i64 d, .slice A' ms.length c'] 37))
  have H := Lib.hid (h.carry BB.out)
  have H' := Lib.hid (h'.carry BB.out)
  clear h h'
  rcases hv : membersB zs ms with _ | _
  · have hr : tallyB zs ms r a d = false := by
      simp only [membersB, Bool.and_eq_false_iff] at hv; simp only [tallyB, Bool.and_eq_false_iff]; rcases hv with hv | hv; (· exact .inl (.inl hv)); (· exact .inr hv)
    have HR := Lib.hid hr
    clear hr
    go_enter Try.func70, Try.ntmps70
    go_wp2_with fail
    refine (i_MembersValid _ _ _ _ _ _ _ _ H.out H'.out hn hm).mono ?_
    rintro e w' ⟨rfl, rfl⟩
    go_wp2_with fail
    go_ret
    exact ⟨ret_bool (by rw [HR.out]), BB.out⟩
  have hr : tallyB zs ms r a d = voteB r a d := by
    simp only [membersB, Bool.and_eq_true] at hv; simp [tallyB, hv.1, hv.2]
  have HR := Lib.hid hr
  clear hr
  go_enter Try.func70, Try.ntmps70
  go_wp2_with fail
  refine (i_MembersValid _ _ _ _ _ _ _ _ H.out H'.out hn hm).mono ?_
  rintro e w' ⟨rfl, rfl⟩
  go_wp2_with fail
  refine (i_voteValid _ _ _ _).mono ?_
  rintro e w2 ⟨rfl, b2⟩
  replace H := Lib.hid (H.out.carry b2)
  replace H' := Lib.hid (H'.out.carry b2)
  replace BB := Lib.hid (next BB.out b2)
  have x0 := keepc (b := w.heap.size) (off := 0) (v := .int .i64 r) b2 (by simp)
  have x1 := keepc (b := w.heap.size) (off := 1) (v := .int .i64 a) b2 (by simp)
  have x2 := keepc (b := w.heap.size) (off := 2) (v := .int .i64 d) b2 (by simp)
  have x3 := keepc (b := w.heap.size) (off := 3) (v := .slice A' ms.length c') b2 (by simp)
  clear b2
  go_wp2_with fail
  go_ret
  exact ⟨ret_bool (by rw [HR.out]), BB.out⟩
set_option maxHeartbeats 2000000 in
theorem s_l12Tally (r a d : Int) (A A' : Option Addr) (c c' : Nat) (zs ms : List Int) (w : World) (h : Ints w w.heap.size A zs) (h' : Ints w w.heap.size A' ms) (hn : zs.length ≤ 1048576) (hm : ms.length ≤ 1048576) :
    Calls Try.prog 73 #[.slice A zs.length c, .agg #[.int .i64 r, .int .i64 a, .int .i64 d, .slice A' ms.length c']] w fun e w' => e = .returned (.bool (tallyB zs ms r a d)) ∧ Below w.heap.size w w' := by
  have BB := Lib.hid (allocB w (.cells #[.int .i64 r, .int .i64 a, .int .i64 d, .slice A' ms.length c'] 37))
  have H := Lib.hid (h.carry BB.out)
  have H' := Lib.hid (h'.carry BB.out)
  clear h h'
  rcases hv : validB zs with _ | _
  · go_enter Try.func73, Try.ntmps73
    go_wp2_with fail
    refine (s_CommitteeValid _ _ _ _ _ H.out hn).mono ?_
    rw [hv]
    rintro e w' ⟨rfl, rfl⟩
    go_wp2_with fail
    go_ret
    exact ⟨ret_bool (by simp [tallyB, hv]), BB.out⟩
  rcases hw : voteB r a d with _ | _
  · go_enter Try.func73, Try.ntmps73
    go_wp2_with fail
    refine (s_CommitteeValid _ _ _ _ _ H.out hn).mono ?_
    rw [hv]
    rintro e w' ⟨rfl, rfl⟩
    go_wp2_with fail
    refine (s_l12Vote _ _ _ _).mono ?_
    rw [hw]
    rintro e w2 ⟨rfl, b2⟩
    replace H := Lib.hid (H.out.carry b2)
    replace H' := Lib.hid (H'.out.carry b2)
    replace BB := Lib.hid (next BB.out b2)
    have x0 := keepc (b := w.heap.size) (off := 0) (v := .int .i64 r) b2 (by simp)
    have x1 := keepc (b := w.heap.size) (off := 1) (v := .int .i64 a) b2 (by simp)
    have x2 := keepc (b := w.heap.size) (off := 2) (v := .int .i64 d) b2 (by simp)
    have x3 := keepc (b := w.heap.size) (off := 3) (v := .slice A' ms.length c') b2 (by simp)
    clear b2
    go_wp2_with fail
    go_ret
    exact ⟨ret_bool (by simp [tallyB, hw]), BB.out⟩
  go_enter Try.func73, Try.ntmps73
  go_wp2_with fail
  refine (s_CommitteeValid _ _ _ _ _ H.out hn).mono ?_
  rw [hv]
  rintro e w' ⟨rfl, rfl⟩
  go_wp2_with fail
  refine (s_l12Vote _ _ _ _).mono ?_
  rw [hw]
  rintro e w2 ⟨rfl, b2⟩
  replace H := Lib.hid (H.out.carry b2)
  replace H' := Lib.hid (H'.out.carry b2)
  replace BB := Lib.hid (next BB.out b2)
  have x0 := keepc (b := w.heap.size) (off := 0) (v := .int .i64 r) b2 (by simp)
  have x1 := keepc (b := w.heap.size) (off := 1) (v := .int .i64 a) b2 (by simp)
  have x2 := keepc (b := w.heap.size) (off := 2) (v := .int .i64 d) b2 (by simp)
  have x3 := keepc (b := w.heap.size) (off := 3) (v := .slice A' ms.length c') b2 (by simp)
  clear b2
  go_wp2_with fail
  refine (s_l1Members _ _ _ _ _ _ _ _ H'.out hn hm).mono ?_
  rintro e w3 ⟨rfl, b3⟩
  replace H := Lib.hid (H.out.carry (b3.below _))
  replace H' := Lib.hid (H'.out.carry (b3.below _))
  replace BB := Lib.hid (next BB.out (b3.below _))
  replace x0 := keepc (b3.below _) x0
  replace x1 := keepc (b3.below _) x1
  replace x2 := keepc (b3.below _) x2
  replace x3 := keepc (b3.below _) x3
  clear b3
  go_wp2_with fail
  go_ret
  exact ⟨ret_bool (by simp [tallyB, hv, hw]), BB.out⟩
end Go.Proofs.Ytohnodphlaoohaa
