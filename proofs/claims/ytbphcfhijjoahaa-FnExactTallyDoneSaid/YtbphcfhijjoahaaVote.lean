/- Votes: ranges, copies, comparisons; sizes: each function by its contract. -/
import Derived.Test.YtbphcfhijjoahaaRcpt
import Derived.Laws.ResultCell
namespace Go.Proofs.Ytbphcfhijjoahaa
open Go.RowKit
set_option linter.unusedVariables false

set_option maxHeartbeats 1000000 in
theorem i_isRound (v : Int) (w : World) : Calls Try.prog 85 #[.int .i64 v] w fun e w' => e = .returned (.bool (inB v 0 30)) ∧ w = w' := by
  by_cases h0 : 0 ≤ v
  · by_cases h1 : v ≤ 30
    · go_enter Try.func85, Try.ntmps85
      go_wp2
      go_ret
      exact ⟨ret_bool (by rw [inB_iff.2 (by omega)]; try (simp; omega)), rfl⟩
    · go_enter Try.func85, Try.ntmps85
      go_wp2
      go_ret
      exact ⟨ret_bool (by rw [inB_no.2 (by omega)]; try (simp; omega)), rfl⟩
  · go_enter Try.func85, Try.ntmps85
    go_wp2
    go_ret
    exact ⟨ret_bool (by rw [inB_no.2 (by omega)]), rfl⟩
set_option maxHeartbeats 1000000 in
theorem i_isFloor (v : Int) (w : World) : Calls Try.prog 77 #[.int .i64 v] w fun e w' => e = .returned (.bool (inB v 0 31)) ∧ w = w' := by
  by_cases h0 : 0 ≤ v
  · by_cases h1 : v ≤ 31
    · go_enter Try.func77, Try.ntmps77
      go_wp2
      go_ret
      exact ⟨ret_bool (by rw [inB_iff.2 (by omega)]; try (simp; omega)), rfl⟩
    · go_enter Try.func77, Try.ntmps77
      go_wp2
      go_ret
      exact ⟨ret_bool (by rw [inB_no.2 (by omega)]; try (simp; omega)), rfl⟩
  · go_enter Try.func77, Try.ntmps77
    go_wp2
    go_ret
    exact ⟨ret_bool (by rw [inB_no.2 (by omega)]), rfl⟩
set_option maxHeartbeats 1000000 in
theorem i_isAuthor (v : Int) (w : World) : Calls Try.prog 107 #[.int .i64 v] w fun e w' => e = .returned (.bool (inB v 0 6)) ∧ w = w' := by
  by_cases h0 : 0 ≤ v
  · by_cases h1 : v ≤ 6
    · go_enter Try.func107, Try.ntmps107
      go_wp2
      go_ret
      exact ⟨ret_bool (by rw [inB_iff.2 (by omega)]; try (simp; omega)), rfl⟩
    · go_enter Try.func107, Try.ntmps107
      go_wp2
      go_ret
      exact ⟨ret_bool (by rw [inB_no.2 (by omega)]; try (simp; omega)), rfl⟩
  · go_enter Try.func107, Try.ntmps107
    go_wp2
    go_ret
    exact ⟨ret_bool (by rw [inB_no.2 (by omega)]), rfl⟩
def voteB (r a d : Int) : Bool := inB r 0 30 && inB a 0 6 && digB d
set_option maxHeartbeats 2000000 in
theorem s_l12Vote (r a d : Int) (w : World) :
    Calls Try.prog 73 #[.agg #[.int .i64 r, .int .i64 a, .int .i64 d]] w fun e w' => e = .returned (.bool (voteB r a d)) ∧ Below w.heap.size w w' := by
  rcases h0 : inB r 0 30 with _ | _
  · go_enter Try.func73, Try.ntmps73
    go_wp2_with (first | (go_at_call 75; refine (l6In_any _ _ _ _).mono ?_; rintro e w' ⟨rfl, rfl⟩) | (go_at_call 53; refine (s_l2Digest _ _).mono ?_; rintro e w' ⟨rfl, rfl⟩))
    go_ret
    exact ⟨ret_bool (by simp [voteB, h0]), allocB w _⟩
  rcases h1 : inB a 0 6 with _ | _
  · go_enter Try.func73, Try.ntmps73
    go_wp2_with (first | (go_at_call 75; refine (l6In_any _ _ _ _).mono ?_; rintro e w' ⟨rfl, rfl⟩) | (go_at_call 53; refine (s_l2Digest _ _).mono ?_; rintro e w' ⟨rfl, rfl⟩))
    go_ret
    exact ⟨ret_bool (by simp [voteB, h0, h1]), allocB w _⟩
  rcases h2 : digB d with _ | _
  · go_enter Try.func73, Try.ntmps73
    go_wp2_with (first | (go_at_call 75; refine (l6In_any _ _ _ _).mono ?_; rintro e w' ⟨rfl, rfl⟩) | (go_at_call 53; refine (s_l2Digest _ _).mono ?_; rintro e w' ⟨rfl, rfl⟩))
    go_ret
    exact ⟨ret_bool (by simp [voteB, h0, h1, h2]), allocB w _⟩
  go_enter Try.func73, Try.ntmps73
  go_wp2_with (first | (go_at_call 75; refine (l6In_any _ _ _ _).mono ?_; rintro e w' ⟨rfl, rfl⟩) | (go_at_call 53; refine (s_l2Digest _ _).mono ?_; rintro e w' ⟨rfl, rfl⟩))
  go_ret
  exact ⟨ret_bool (by simp [voteB, h0, h1, h2]), allocB w _⟩
set_option maxHeartbeats 2000000 in
theorem i_voteValid (r a d : Int) (w : World) :
    Calls Try.prog 78 #[.agg #[.int .i64 r, .int .i64 a, .int .i64 d]] w fun e w' => e = .returned (.bool (voteB r a d)) ∧ Below w.heap.size w w' := by
  rcases h0 : inB r 0 30 with _ | _
  · go_enter Try.func78, Try.ntmps78
    go_wp2_with (first | (go_at_call 85; refine (i_isRound _ _).mono ?_; rintro e w' ⟨rfl, rfl⟩) | (go_at_call 107; refine (i_isAuthor _ _).mono ?_; rintro e w' ⟨rfl, rfl⟩) | (go_at_call 58; refine (i_isDigest _ _).mono ?_; rintro e w' ⟨rfl, rfl⟩))
    go_ret
    exact ⟨ret_bool (by simp [voteB, h0]), allocB w _⟩
  rcases h1 : inB a 0 6 with _ | _
  · go_enter Try.func78, Try.ntmps78
    go_wp2_with (first | (go_at_call 85; refine (i_isRound _ _).mono ?_; rintro e w' ⟨rfl, rfl⟩) | (go_at_call 107; refine (i_isAuthor _ _).mono ?_; rintro e w' ⟨rfl, rfl⟩) | (go_at_call 58; refine (i_isDigest _ _).mono ?_; rintro e w' ⟨rfl, rfl⟩))
    go_ret
    exact ⟨ret_bool (by simp [voteB, h0, h1]), allocB w _⟩
  rcases h2 : digB d with _ | _
  · go_enter Try.func78, Try.ntmps78
    go_wp2_with (first | (go_at_call 85; refine (i_isRound _ _).mono ?_; rintro e w' ⟨rfl, rfl⟩) | (go_at_call 107; refine (i_isAuthor _ _).mono ?_; rintro e w' ⟨rfl, rfl⟩) | (go_at_call 58; refine (i_isDigest _ _).mono ?_; rintro e w' ⟨rfl, rfl⟩))
    go_ret
    exact ⟨ret_bool (by simp [voteB, h0, h1, h2]), allocB w _⟩
  go_enter Try.func78, Try.ntmps78
  go_wp2_with (first | (go_at_call 85; refine (i_isRound _ _).mono ?_; rintro e w' ⟨rfl, rfl⟩) | (go_at_call 107; refine (i_isAuthor _ _).mono ?_; rintro e w' ⟨rfl, rfl⟩) | (go_at_call 58; refine (i_isDigest _ _).mono ?_; rintro e w' ⟨rfl, rfl⟩))
  go_ret
  exact ⟨ret_bool (by simp [voteB, h0, h1, h2]), allocB w _⟩
set_option maxHeartbeats 1000000 in
theorem toVote_any (r a d : Int) (w : World) :
    Calls Try.prog 87 #[.agg #[.int .i64 r, .int .i64 a, .int .i64 d]] w fun e w' => e = .returned (.agg #[.int .i64 r, .int .i64 a, .int .i64 d]) ∧ Below w.heap.size w w' := by
  go_enter Try.func87, Try.ntmps87
  go_wp2
  exact bodyPost_ret (v := .agg #[.int .i64 r, .int .i64 a, .int .i64 d]) (by simp [results, Try.results87, go_sem]) rfl ⟨rfl, allocB3 w _ _ _⟩
set_option maxHeartbeats 1000000 in
theorem toVote_exact (r a d : Int) (w : World) :
    Calls Try.prog 87 #[.agg #[.int .i64 r, .int .i64 a, .int .i64 d]] w fun e w' => e = .returned (.agg #[.int .i64 r, .int .i64 a, .int .i64 d]) ∧
      ((w.alloc (.cells #[.int .i64 r, .int .i64 a, .int .i64 d] 62)).alloc (.cells #[.int .i64 r, .int .i64 a, .int .i64 d] 35)).alloc (.cells #[.int .i64 r, .int .i64 a, .int .i64 d] 35) = w' := by
  go_enter Try.func87, Try.ntmps87
  go_wp2
  exact bodyPost_ret (v := .agg #[.int .i64 r, .int .i64 a, .int .i64 d]) (by simp [results, Try.results87, go_sem]) rfl ⟨rfl, rfl⟩
set_option maxHeartbeats 2000000 in
theorem eqVote_any (r a d r' a' d' : Int) (w : World) :
    Calls Try.prog 88 #[.agg #[.int .i64 r, .int .i64 a, .int .i64 d], .agg #[.int .i64 r', .int .i64 a', .int .i64 d']] w fun e w' => e = .returned (.bool (decide (r = r' ∧ a = a' ∧ d = d'))) ∧ Below w.heap.size w w' := by
  by_cases h0 : r = r'
  case neg =>
    have g0 : (r != r') = true := by simp [h0]
    have hr : decide (r = r' ∧ a = a' ∧ d = d') = false := by simp [h0]
    have HR := Lib.hid hr
    clear hr h0
    go_enter Try.func88, Try.ntmps88
    go_wp2
    go_ret
    exact ⟨ret_bool HR.out.symm, allocB2 w _ _⟩
  have g0 : (r != r') = false := by simp [h0]
  by_cases h1 : a = a'
  case neg =>
    have g1 : (a != a') = true := by simp [h1]
    have hr : decide (r = r' ∧ a = a' ∧ d = d') = false := by simp [h1]
    have HR := Lib.hid hr
    clear hr h0 h1
    go_enter Try.func88, Try.ntmps88
    go_wp2
    go_ret
    exact ⟨ret_bool HR.out.symm, allocB2 w _ _⟩
  have g1 : (a != a') = false := by simp [h1]
  by_cases h2 : d = d'
  case neg =>
    have g2 : (d != d') = true := by simp [h2]
    have hr : decide (r = r' ∧ a = a' ∧ d = d') = false := by simp [h2]
    have HR := Lib.hid hr
    clear hr h0 h1 h2
    go_enter Try.func88, Try.ntmps88
    go_wp2
    go_ret
    exact ⟨ret_bool HR.out.symm, allocB2 w _ _⟩
  have g2 : (d != d') = false := by simp [h2]
  have hr : decide (r = r' ∧ a = a' ∧ d = d') = true := by simp [h0, h1, h2]
  have HR := Lib.hid hr
  clear hr h0 h1 h2
  go_enter Try.func88, Try.ntmps88
  go_wp2
  go_ret
  exact ⟨ret_bool HR.out.symm, allocB2 w _ _⟩
/-- What is left of a budget behind a list of n: -1 if it is too long. -/
def szL (left : Int) (n : Nat) : Int := if left < (n : Int) then -1 else left - n
theorem szL_neg {left : Int} {n : Nat} (h : left < (n : Int)) : szL left n = -1 := by rw [szL, if_pos h]
theorem szL_pos {left : Int} {n : Nat} (h : ¬ left < (n : Int)) : szL left n = left - n := by rw [szL, if_neg h]
set_option maxHeartbeats 1000000 in
theorem szIntS_any (A : Option Addr) (c n : Nat) (left : Int) (w : World) (h0 : 0 ≤ left) (h1 : left ≤ 1048576) (hn : n ≤ 9223372036854775807) :
    Calls Try.prog 81 #[.slice A n c, .int .i64 left] w fun e w' => e = .returned (.int .i64 (szL left n)) ∧ w = w' := by
  by_cases h : left < (n : Int)
  · go_enter Try.func81, Try.ntmps81
    go_wp2
    go_ret
    exact ⟨ret_int (by rw [szL_neg (by omega)]), rfl⟩
  · go_enter Try.func81, Try.ntmps81
    go_wp2
    go_ret
    exact ⟨ret_int (by rw [szL_pos (by omega)]), rfl⟩
end Go.Proofs.Ytbphcfhijjoahaa
