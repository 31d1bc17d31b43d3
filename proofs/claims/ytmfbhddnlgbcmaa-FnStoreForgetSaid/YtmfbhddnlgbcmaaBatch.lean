/- Batches: the range tests, the totals of authors. -/
import Derived.Test.YtmfbhddnlgbcmaaStoreP
import Derived.Test.YtmfbhddnlgbcmaaVote
namespace Go.Proofs.Ytmfbhddnlgbcmaa
open Go.RowKit
set_option linter.unusedVariables false

set_option maxHeartbeats 1000000 in
theorem i_Batch_valid (d a r s : Int) (w : World) :
    Calls Try.prog 38 #[.agg #[.int .i64 d, .int .i64 a, .int .i64 r, .int .i64 s]] w fun e w' => e = .returned (.bool (batchB ⟨d, a, r, s⟩)) ∧ Below w.heap.size w w' := by
  rcases h0 : digB d with _ | _
  · go_enter Try.func38, Try.ntmps38
    go_wp2_with (first | (go_at_call 56; refine (i_isDigest _ _).mono ?_; rintro e w' ⟨rfl, rfl⟩) | (go_at_call 46; refine (i_isAuthor _ _).mono ?_; rintro e w' ⟨rfl, rfl⟩) | (go_at_call 57; refine (i_isRound _ _).mono ?_; rintro e w' ⟨rfl, rfl⟩))
    go_ret
    exact ⟨ret_bool (by unfold digB at h0; simp [batchB, h0]), allocB w _⟩
  rcases h1 : inB a 0 6 with _ | _
  · go_enter Try.func38, Try.ntmps38
    go_wp2_with (first | (go_at_call 56; refine (i_isDigest _ _).mono ?_; rintro e w' ⟨rfl, rfl⟩) | (go_at_call 46; refine (i_isAuthor _ _).mono ?_; rintro e w' ⟨rfl, rfl⟩) | (go_at_call 57; refine (i_isRound _ _).mono ?_; rintro e w' ⟨rfl, rfl⟩))
    go_ret
    exact ⟨ret_bool (by unfold digB at h0; simp [batchB, h0, h1]), allocB w _⟩
  rcases h2 : inB r 0 30 with _ | _
  · go_enter Try.func38, Try.ntmps38
    go_wp2_with (first | (go_at_call 56; refine (i_isDigest _ _).mono ?_; rintro e w' ⟨rfl, rfl⟩) | (go_at_call 46; refine (i_isAuthor _ _).mono ?_; rintro e w' ⟨rfl, rfl⟩) | (go_at_call 57; refine (i_isRound _ _).mono ?_; rintro e w' ⟨rfl, rfl⟩))
    go_ret
    exact ⟨ret_bool (by unfold digB at h0; simp [batchB, h0, h1, h2]), allocB w _⟩
  by_cases h3 : 1 ≤ s
  · by_cases h4 : s ≤ 12
    · go_enter Try.func38, Try.ntmps38
      go_wp2_with (first | (go_at_call 56; refine (i_isDigest _ _).mono ?_; rintro e w' ⟨rfl, rfl⟩) | (go_at_call 46; refine (i_isAuthor _ _).mono ?_; rintro e w' ⟨rfl, rfl⟩) | (go_at_call 57; refine (i_isRound _ _).mono ?_; rintro e w' ⟨rfl, rfl⟩))
      go_ret
      exact ⟨ret_bool (by rw [show batchB ⟨d, a, r, s⟩ = inB s 1 12 from by unfold digB at h0; simp [batchB, h0, h1, h2], inB_iff.2 (by omega)]; try (simp; omega)), allocB w _⟩
    · go_enter Try.func38, Try.ntmps38
      go_wp2_with (first | (go_at_call 56; refine (i_isDigest _ _).mono ?_; rintro e w' ⟨rfl, rfl⟩) | (go_at_call 46; refine (i_isAuthor _ _).mono ?_; rintro e w' ⟨rfl, rfl⟩) | (go_at_call 57; refine (i_isRound _ _).mono ?_; rintro e w' ⟨rfl, rfl⟩))
      go_ret
      exact ⟨ret_bool (by rw [show batchB ⟨d, a, r, s⟩ = inB s 1 12 from by unfold digB at h0; simp [batchB, h0, h1, h2], inB_no.2 (by omega)]; try (simp; omega)), allocB w _⟩
  · go_enter Try.func38, Try.ntmps38
    go_wp2_with (first | (go_at_call 56; refine (i_isDigest _ _).mono ?_; rintro e w' ⟨rfl, rfl⟩) | (go_at_call 46; refine (i_isAuthor _ _).mono ?_; rintro e w' ⟨rfl, rfl⟩) | (go_at_call 57; refine (i_isRound _ _).mono ?_; rintro e w' ⟨rfl, rfl⟩))
    go_ret
    exact ⟨ret_bool (by rw [show batchB ⟨d, a, r, s⟩ = inB s 1 12 from by unfold digB at h0; simp [batchB, h0, h1, h2], inB_no.2 (by omega)]), allocB w _⟩
set_option maxHeartbeats 1000000 in
theorem s_l23Batch (d a r s : Int) (w : World) :
    Calls Try.prog 44 #[.agg #[.int .i64 d, .int .i64 a, .int .i64 r, .int .i64 s]] w fun e w' => e = .returned (.bool (batchB ⟨d, a, r, s⟩)) ∧ Below w.heap.size w w' := by
  rcases h0 : digB d with _ | _
  · go_enter Try.func44, Try.ntmps44
    go_wp2_with (first | (go_at_call 58; refine (s_l2Digest _ _).mono ?_; rintro e w' ⟨rfl, rfl⟩) | (go_at_call 48; refine (l6In_any _ _ _ _).mono ?_; rintro e w' ⟨rfl, rfl⟩))
    go_ret
    exact ⟨ret_bool (by unfold digB at h0; simp [batchB, h0]), allocB w _⟩
  rcases h1 : inB a 0 6 with _ | _
  · go_enter Try.func44, Try.ntmps44
    go_wp2_with (first | (go_at_call 58; refine (s_l2Digest _ _).mono ?_; rintro e w' ⟨rfl, rfl⟩) | (go_at_call 48; refine (l6In_any _ _ _ _).mono ?_; rintro e w' ⟨rfl, rfl⟩))
    go_ret
    exact ⟨ret_bool (by unfold digB at h0; simp [batchB, h0, h1]), allocB w _⟩
  rcases h2 : inB r 0 30 with _ | _
  · go_enter Try.func44, Try.ntmps44
    go_wp2_with (first | (go_at_call 58; refine (s_l2Digest _ _).mono ?_; rintro e w' ⟨rfl, rfl⟩) | (go_at_call 48; refine (l6In_any _ _ _ _).mono ?_; rintro e w' ⟨rfl, rfl⟩))
    go_ret
    exact ⟨ret_bool (by unfold digB at h0; simp [batchB, h0, h1, h2]), allocB w _⟩
  go_enter Try.func44, Try.ntmps44
  go_wp2_with (first | (go_at_call 58; refine (s_l2Digest _ _).mono ?_; rintro e w' ⟨rfl, rfl⟩) | (go_at_call 48; refine (l6In_any _ _ _ _).mono ?_; rintro e w' ⟨rfl, rfl⟩))
  go_ret
  exact ⟨ret_bool (by unfold digB at h0; simp [batchB, h0, h1, h2]), allocB w _⟩
set_option maxHeartbeats 1000000 in
theorem s_l23Used (A : Option Addr) (c : Nat) (bs : List VBatch) (a : Int) (w : World) (B : Nat) (h : LstBatch w B A bs) (hn : bs.length ≤ 1048576) :
    Calls Try.prog 45 #[.slice A bs.length c, .int .i64 a] w fun e w' => e = .returned (.int .i64 (usedW bs a bs.length)) ∧ w = w' := by
  go_enter Try.func45, Try.ntmps45
  go_wp2
  go_loop [5, 6] (fun n i => ∃ k : Nat, k ≤ bs.length ∧ i = .int .i64 k ∧ n = .int .i64 (usedW bs a k)) (fun _ i => bs.length - (intOf i).toNat)
  case atStart => exact ⟨0, Nat.zero_le _, rfl, rfl⟩
  case round =>
    obtain ⟨k, hk, rfl, rfl⟩ := hrel
    by_cases hlt : k < bs.length
    · obtain ⟨b, off, rfl, hbb, hc⟩ := h.at_ hlt
      obtain ⟨c0, c1, c2, c3⟩ := hc k hlt
      clear hc h
      by_cases he : (nthBatch bs k).a = a
      · have hd : ((nthBatch bs k).a == a) = true := by simp [he]
        have HE := Lib.hid he
        clear he
        go_wp2
        go_round
        case rel => exact ⟨k + 1, by omega, by go_num, by rw [usedW_hit HE.out]⟩
        case measure => simp [intOf]; omega
      · have hd : ((nthBatch bs k).a == a) = false := by simp [he]
        have HE := Lib.hid he
        clear he
        go_wp2
        go_round
        case rel => exact ⟨k + 1, by omega, by go_num, by rw [usedW_miss HE.out]⟩
        case measure => simp [intOf]; omega
    · clear h
      go_wp2
      go_ret
      have e : k = bs.length := by omega
      subst e
      exact ⟨rfl, rfl⟩
end Go.Proofs.Ytmfbhddnlgbcmaa
