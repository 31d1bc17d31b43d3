/- Votes: ranges, copies, comparisons; sizes: each function by its contract. -/
import Derived.Test.YtohnodphlaoohaaRcpt
import Derived.Test.YtohnodphlaoohaaSz
import Derived.Laws.ResultCell
namespace Go.Proofs.Ytohnodphlaoohaa
open Go.RowKit
set_option linter.unusedVariables false

set_option maxHeartbeats 1000000 in
theorem i_isRound (v : Int) (w : World) : Calls Try.prog 116 #[.int .i64 v] w fun e w' => e = .returned (.bool (inB v 0 30)) ∧ w = w' := by
  by_cases h0 : 0 ≤ v
  · by_cases h1 : v ≤ 30
    · go_enter Try.func116, Try.ntmps116
      go_wp2
      go_ret
      exact ⟨ret_bool (by rw [inB_iff.2 (by omega)]; try (simp; omega)), rfl⟩
    · go_enter Try.func116, Try.ntmps116
      go_wp2
      go_ret
      exact ⟨ret_bool (by rw [inB_no.2 (by omega)]; try (simp; omega)), rfl⟩
  · go_enter Try.func116, Try.ntmps116
    go_wp2
    go_ret
    exact ⟨ret_bool (by rw [inB_no.2 (by omega)]), rfl⟩
set_option maxHeartbeats 1000000 in
theorem i_isFloor (v : Int) (w : World) : Calls Try.prog 81 #[.int .i64 v] w fun e w' => e = .returned (.bool (inB v 0 31)) ∧ w = w' := by
  by_cases h0 : 0 ≤ v
  · by_cases h1 : v ≤ 31
    · go_enter Try.func81, Try.ntmps81
      go_wp2
      go_ret
      exact ⟨ret_bool (by rw [inB_iff.2 (by omega)]; try (simp; omega)), rfl⟩
    · go_enter Try.func81, Try.ntmps81
      go_wp2
      go_ret
      exact ⟨ret_bool (by rw [inB_no.2 (by omega)]; try (simp; omega)), rfl⟩
  · go_enter Try.func81, Try.ntmps81
    go_wp2
    go_ret
    exact ⟨ret_bool (by rw [inB_no.2 (by omega)]), rfl⟩
set_option maxHeartbeats 1000000 in
theorem i_isAuthor (v : Int) (w : World) : Calls Try.prog 117 #[.int .i64 v] w fun e w' => e = .returned (.bool (inB v 0 6)) ∧ w = w' := by
  by_cases h0 : 0 ≤ v
  · by_cases h1 : v ≤ 6
    · go_enter Try.func117, Try.ntmps117
      go_wp2
      go_ret
      exact ⟨ret_bool (by rw [inB_iff.2 (by omega)]; try (simp; omega)), rfl⟩
    · go_enter Try.func117, Try.ntmps117
      go_wp2
      go_ret
      exact ⟨ret_bool (by rw [inB_no.2 (by omega)]; try (simp; omega)), rfl⟩
  · go_enter Try.func117, Try.ntmps117
    go_wp2
    go_ret
    exact ⟨ret_bool (by rw [inB_no.2 (by omega)]), rfl⟩
def voteB (r a d : Int) : Bool := inB r 0 30 && inB a 0 6 && digB d
set_option maxHeartbeats 2000000 in
theorem s_l12Vote (r a d : Int) (w : World) :
    Calls Try.prog 77 #[.agg #[.int .i64 r, .int .i64 a, .int .i64 d]] w fun e w' => e = .returned (.bool (voteB r a d)) ∧ Below w.heap.size w w' := by
  rcases h0 : inB r 0 30 with _ | _
  · go_enter Try.func77, Try.ntmps77
    go_wp2_with (first | (go_at_call 79; refine (l6In_any _ _ _ _).mono ?_; rintro e w' ⟨rfl, rfl⟩) | (go_at_call 57; refine (s_l2Digest _ _).mono ?_; rintro e w' ⟨rfl, rfl⟩))
    go_ret
    exact ⟨ret_bool (by simp [voteB, h0]), allocB w _⟩
  rcases h1 : inB a 0 6 with _ | _
  · go_enter Try.func77, Try.ntmps77
    go_wp2_with (first | (go_at_call 79; refine (l6In_any _ _ _ _).mono ?_; rintro e w' ⟨rfl, rfl⟩) | (go_at_call 57; refine (s_l2Digest _ _).mono ?_; rintro e w' ⟨rfl, rfl⟩))
    go_ret
    exact ⟨ret_bool (by simp [voteB, h0, h1]), allocB w _⟩
  rcases h2 : digB d with _ | _
  · go_enter Try.func77, Try.ntmps77
    go_wp2_with (first | (go_at_call 79; refine (l6In_any _ _ _ _).mono ?_; rintro e w' ⟨rfl, rfl⟩) | (go_at_call 57; refine (s_l2Digest _ _).mono ?_; rintro e w' ⟨rfl, rfl⟩))
    go_ret
    exact ⟨ret_bool (by simp [voteB, h0, h1, h2]), allocB w _⟩
  go_enter Try.func77, Try.ntmps77
  go_wp2_with (first | (go_at_call 79; refine (l6In_any _ _ _ _).mono ?_; rintro e w' ⟨rfl, rfl⟩) | (go_at_call 57; refine (s_l2Digest _ _).mono ?_; rintro e w' ⟨rfl, rfl⟩))
  go_ret
  exact ⟨ret_bool (by simp [voteB, h0, h1, h2]), allocB w _⟩
set_option maxHeartbeats 2000000 in
theorem i_voteValid (r a d : Int) (w : World) :
    Calls Try.prog 82 #[.agg #[.int .i64 r, .int .i64 a, .int .i64 d]] w fun e w' => e = .returned (.bool (voteB r a d)) ∧ Below w.heap.size w w' := by
  rcases h0 : inB r 0 30 with _ | _
  · go_enter Try.func82, Try.ntmps82
    go_wp2_with (first | (go_at_call 116; refine (i_isRound _ _).mono ?_; rintro e w' ⟨rfl, rfl⟩) | (go_at_call 117; refine (i_isAuthor _ _).mono ?_; rintro e w' ⟨rfl, rfl⟩) | (go_at_call 62; refine (i_isDigest _ _).mono ?_; rintro e w' ⟨rfl, rfl⟩))
    go_ret
    exact ⟨ret_bool (by simp [voteB, h0]), allocB w _⟩
  rcases h1 : inB a 0 6 with _ | _
  · go_enter Try.func82, Try.ntmps82
    go_wp2_with (first | (go_at_call 116; refine (i_isRound _ _).mono ?_; rintro e w' ⟨rfl, rfl⟩) | (go_at_call 117; refine (i_isAuthor _ _).mono ?_; rintro e w' ⟨rfl, rfl⟩) | (go_at_call 62; refine (i_isDigest _ _).mono ?_; rintro e w' ⟨rfl, rfl⟩))
    go_ret
    exact ⟨ret_bool (by simp [voteB, h0, h1]), allocB w _⟩
  rcases h2 : digB d with _ | _
  · go_enter Try.func82, Try.ntmps82
    go_wp2_with (first | (go_at_call 116; refine (i_isRound _ _).mono ?_; rintro e w' ⟨rfl, rfl⟩) | (go_at_call 117; refine (i_isAuthor _ _).mono ?_; rintro e w' ⟨rfl, rfl⟩) | (go_at_call 62; refine (i_isDigest _ _).mono ?_; rintro e w' ⟨rfl, rfl⟩))
    go_ret
    exact ⟨ret_bool (by simp [voteB, h0, h1, h2]), allocB w _⟩
  go_enter Try.func82, Try.ntmps82
  go_wp2_with (first | (go_at_call 116; refine (i_isRound _ _).mono ?_; rintro e w' ⟨rfl, rfl⟩) | (go_at_call 117; refine (i_isAuthor _ _).mono ?_; rintro e w' ⟨rfl, rfl⟩) | (go_at_call 62; refine (i_isDigest _ _).mono ?_; rintro e w' ⟨rfl, rfl⟩))
  go_ret
  exact ⟨ret_bool (by simp [voteB, h0, h1, h2]), allocB w _⟩
set_option maxHeartbeats 1000000 in
theorem toVote_any (r a d : Int) (w : World) :
    Calls Try.prog 87 #[.agg #[.int .i64 r, .int .i64 a, .int .i64 d]] w fun e w' => e = .returned (.agg #[.int .i64 r, .int .i64 a, .int .i64 d]) ∧ Below w.heap.size w w' := by
  go_enter Try.func87, Try.ntmps87
  go_wp2
  exact bodyPost_ret (v := .agg #[.int .i64 r, .int .i64 a, .int .i64 d]) (by simp [results, Try.results87, go_sem]) rfl ⟨rfl, allocB3 w _ _ _⟩
set_option maxHeartbeats 1000000 in
theorem toVote_exact (r a d : Int) (w : World) :
    Calls Try.prog 87 #[.agg #[.int .i64 r, .int .i64 a, .int .i64 d]] w fun e w' => e = .returned (.agg #[.int .i64 r, .int .i64 a, .int .i64 d]) ∧
      ((w.alloc (.cells #[.int .i64 r, .int .i64 a, .int .i64 d] 59)).alloc (.cells #[.int .i64 r, .int .i64 a, .int .i64 d] 35)).alloc (.cells #[.int .i64 r, .int .i64 a, .int .i64 d] 35) = w' := by
  go_enter Try.func87, Try.ntmps87
  go_wp2
  exact bodyPost_ret (v := .agg #[.int .i64 r, .int .i64 a, .int .i64 d]) (by simp [results, Try.results87, go_sem]) rfl ⟨rfl, rfl⟩
set_option maxHeartbeats 2000000 in
theorem eqVote_any (r a d r' a' d' : Int) (w : World) :
    Calls Try.prog 88 #[.agg #[.int .i64 r, .int .i64 a, .int .i64 d], .agg #[.int .i64 r', .int .i64 a', .int .i64 d']] w fun e w' => e = .returned (.bool (decide (r = r' ∧ a = a' ∧ d = d'))) ∧ Below w.heap.size w w' := by
  by_cases h0 : r = r'
  case neg =>
    have g0 : (r != r') = true := by simp [h0]
    have hr : decide (r = r' ∧ a = a' ∧ d = d') = false := by simp [h0]
    have HR := Lib.hid hr
    clear hr h0
    go_enter Try.func88, Try.ntmps88
    go_wp2
    go_ret
    exact ⟨ret_bool HR.out.symm, allocB2 w _ _⟩
  have g0 : (r != r') = false := by simp [h0]
  by_cases h1 : a = a'
  case neg =>
    have g1 : (a != a') = true := by simp [h1]
    have hr : decide (r = r' ∧ a = a' ∧ d = d') = false := by simp [h1]
    have HR := Lib.hid hr
    clear hr h0 h1
    go_enter Try.func88, Try.ntmps88
    go_wp2
    go_ret
    exact ⟨ret_bool HR.out.symm, allocB2 w _ _⟩
  have g1 : (a != a') = false := by simp [h1]
  by_cases h2 : d = d'
  case neg =>
    have g2 : (d != d') = true := by simp [h2]
    have hr : decide (r = r' ∧ a = a' ∧ d = d') = false := by simp [h2]
    have HR := Lib.hid hr
    clear hr h0 h1 h2
    go_enter Try.func88, Try.ntmps88
    go_wp2
    go_ret
    exact ⟨ret_bool HR.out.symm, allocB2 w _ _⟩
  have g2 : (d != d') = false := by simp [h2]
  have hr : decide (r = r' ∧ a = a' ∧ d = d') = true := by simp [h0, h1, h2]
  have HR := Lib.hid hr
  clear hr h0 h1 h2
  go_enter Try.func88, Try.ntmps88
  go_wp2
  go_ret
  exact ⟨ret_bool HR.out.symm, allocB2 w _ _⟩
set_option maxHeartbeats 1000000 in
theorem szIntS_any (A : Option Addr) (c n : Nat) (left : Int) (w : World) (h0 : 0 ≤ left) (h1 : left ≤ 1048576) (hn : n ≤ 9223372036854775807) :
    Calls Try.prog 86 #[.slice A n c, .int .i64 left] w fun e w' => e = .returned (.int .i64 (szL left n)) ∧ w = w' := by
  by_cases h : left < (n : Int)
  · go_enter Try.func86, Try.ntmps86
    go_wp2
    go_ret
    exact ⟨ret_int (by rw [szL_neg (by omega)]), rfl⟩
  · go_enter Try.func86, Try.ntmps86
    go_wp2
    go_ret
    exact ⟨ret_int (by rw [szL_pos (by omega)]), rfl⟩
end Go.Proofs.Ytohnodphlaoohaa
