/- Members, weights, leaders and the coin's leader: each function by its contract. -/
import Derived.Test.YtohnodphlaoohaaCmt
namespace Go.Proofs.Ytohnodphlaoohaa
open Go.RowKit
set_option linter.unusedVariables false

set_option maxHeartbeats 1000000 in
theorem i_has (A : Option Addr) (c n : Nat) (m : Int) (w : World) (hn : n ≤ 1048576) :
    Calls Try.prog 101 #[.slice A n c, .int .i64 m] w fun e w' => e = .returned (.bool (inB m 0 ((n : Int) - 1))) ∧ w = w' := by
  by_cases h0 : 0 ≤ m
  · by_cases h1 : m < n
    · go_enter Try.func101, Try.ntmps101
      go_wp2
      go_ret
      exact ⟨ret_bool (by rw [inB_iff.2 (by omega)]), rfl⟩
    · go_enter Try.func101, Try.ntmps101
      go_wp2
      go_ret
      exact ⟨ret_bool (by rw [inB_no.2 (by omega)]), rfl⟩
  · go_enter Try.func101, Try.ntmps101
    go_wp2
    go_ret
    exact ⟨ret_bool (by rw [inB_no.2 (by omega)]), rfl⟩
set_option maxHeartbeats 2000000 in
theorem i_holds (A A' : Option Addr) (c c' n : Nat) (ms : List Int) (w : World) (B : Nat) (h : Ints w B A' ms) (hn : n ≤ 1048576) (hm : ms.length ≤ 1048576) :
    Calls Try.prog 122 #[.slice A n c, .slice A' ms.length c'] w fun e w' => e = .returned (.bool (memB n ms)) ∧ w = w' := by
  go_enter Try.func122, Try.ntmps122
  go_wp2
  go_loop [9] (fun i => ∃ k : Nat, k ≤ ms.length ∧ i = .int .i64 k ∧ allTo (memOk n ms) k = true) (fun i => ms.length - (intOf i).toNat)
  case atStart => exact ⟨0, Nat.zero_le _, rfl, rfl⟩
  case round =>
    obtain ⟨k, hk, rfl, hs⟩ := hrel
    have HS := Lib.hid hs
    clear hs
    by_cases hlt : k < ms.length
    · obtain ⟨b, off, rfl, hbb, hc⟩ := h.at_ hlt
      have hck := hc k hlt
      rcases hv : inB (nth ms k) 0 ((n : Int) - 1) with _ | _
      · clear hc h
        go_wp2_with (go_at_call 101; refine (i_has _ _ _ _ _ hn).mono ?_; rintro e w' ⟨rfl, rfl⟩)
        go_ret
        exact ⟨ret_bool (by unfold memB; rw [allTo_bad hlt (by simp [memOk, hv])]), rfl⟩
      · by_cases h0 : (0 : Int) < k
        · have hcp := hc (k - 1) (by omega)
          have e1 : ((k : Int) - 1).toNat = k - 1 := by omega
          clear hc h
          by_cases hle : nth ms k ≤ nth ms (k - 1)
          · go_wp2_with (go_at_call 101; refine (i_has _ _ _ _ _ hn).mono ?_; rintro e w' ⟨rfl, rfl⟩)
            go_ret
            exact ⟨ret_bool (by unfold memB; rw [allTo_bad hlt (by simp [memOk, hv, hle]; omega)]), rfl⟩
          · go_wp2_with (go_at_call 101; refine (i_has _ _ _ _ _ hn).mono ?_; rintro e w' ⟨rfl, rfl⟩)
            go_round
            case rel => exact ⟨k + 1, by omega, by go_num, allTo_step HS.out (by simp [memOk, hv]; omega)⟩
            case measure => simp [intOf]; omega
        · clear hc h
          go_wp2_with (go_at_call 101; refine (i_has _ _ _ _ _ hn).mono ?_; rintro e w' ⟨rfl, rfl⟩)
          go_round
          case rel => exact ⟨k + 1, by omega, by go_num, allTo_step HS.out (by simp [memOk, hv]; omega)⟩
          case measure => simp [intOf]; omega
    · clear h
      go_wp2_with fail
      go_ret
      exact ⟨ret_bool (by have : k = ms.length := by omega
                          subst this; unfold memB; rw [HS.out]), rfl⟩
set_option maxHeartbeats 2000000 in
theorem s_l1Members (A A' : Option Addr) (c c' n : Nat) (ms : List Int) (w : World) (B : Nat) (h : Ints w B A' ms) (hn : n ≤ 1048576) (hm : ms.length ≤ 1048576) :
    Calls Try.prog 89 #[.slice A n c, .slice A' ms.length c'] w fun e w' => e = .returned (.bool (memB n ms)) ∧ Quiet w w' := by
  go_enter Try.func89, Try.ntmps89
  go_wp2
  go_loopw [5] (fun i wr => ∃ k : Nat, k ≤ ms.length ∧ i = .int .i64 k ∧ allTo (memOk n ms) k = true ∧ Quiet w wr) (fun i _ => ms.length - (intOf i).toNat)
  case atStart => exact ⟨0, Nat.zero_le _, rfl, rfl, Quiet.refl _⟩
  case round =>
    obtain ⟨k, hk, rfl, hs, hq⟩ := hrel
    have HS := Lib.hid hs
    have HQ := Lib.hid hq
    by_cases hlt : k < ms.length
    · obtain ⟨b, off, rfl, hbb, hc⟩ := (h.quiet hq).at_ hlt
      have hck := hc k hlt
      have hi0 : (0 : Int) ≤ (k : Int) := by omega
      have hi1 : (k : Int) < (ms.length : Int) := by omega
      clear hs hq
      rcases hv : inB (nth ms k) 0 ((n : Int) - 1) with _ | _
      · clear hc h
        go_wp2_with fail
        have hw1 : IntKind.i64.wrap ((n : Int) - 1) = (n : Int) - 1 := IntWalk.i64_in _ (by omega)
        go_quiet ((go_at_call 79; exact quiet_same (l6In_any _ _ _ _)))
        clear hw1
        go_wp2
        go_ret
        exact ⟨ret_bool (by unfold memB; rw [allTo_bad hlt (by simp [memOk, hv])]), HQ.out.trans ⟨_, rfl⟩⟩
      · by_cases h0 : (0 : Int) < k
        · have hcp := hc (k - 1) (by omega)
          have e2 : (0 : Int) ≤ (k : Int) - 1 := by omega
          have e3 : (k : Int) - 1 < (ms.length : Int) := by omega
          have hd : decide (0 < k) = true := by simp; omega
          clear hc h
          by_cases hle : nth ms k ≤ nth ms (k - 1)
          · have hd2 : decide (nth ms k ≤ nth ms (k - 1)) = true := by simpa using hle
            go_wp2_with fail
            have e1 : ((k : Int) - 1).toNat = k - 1 := by omega
            have hw1 : IntKind.i64.wrap ((n : Int) - 1) = (n : Int) - 1 := IntWalk.i64_in _ (by omega)
            have hw2 : IntKind.i64.wrap ((k : Int) - 1) = (k : Int) - 1 := IntWalk.i64_in _ (by omega)
            go_quiet ((go_at_call 79; exact quiet_same (l6In_any _ _ _ _)))
            clear hw1 hw2 e1
            go_wp2
            go_ret
            exact ⟨ret_bool (by unfold memB; rw [allTo_bad hlt (by simp [memOk, hv, hle]; omega)]), HQ.out.trans ⟨_, rfl⟩⟩
          · have hd2 : decide (nth ms k ≤ nth ms (k - 1)) = false := by simpa using hle
            go_wp2_with fail
            have e1 : ((k : Int) - 1).toNat = k - 1 := by omega
            have hw1 : IntKind.i64.wrap ((n : Int) - 1) = (n : Int) - 1 := IntWalk.i64_in _ (by omega)
            have hw2 : IntKind.i64.wrap ((k : Int) - 1) = (k : Int) - 1 := IntWalk.i64_in _ (by omega)
            go_quiet ((go_at_call 79; exact quiet_same (l6In_any _ _ _ _)))
            clear hw1 hw2 e1
            go_wp2
            go_roundw
            case rel => exact ⟨k + 1, by omega, by go_num, allTo_step HS.out (by simp [memOk, hv]; omega), HQ.out.trans ⟨_, rfl⟩⟩
            case measure => simp [intOf]; omega
        · have hd : decide (0 < k) = false := by simp; omega
          clear hc h
          go_wp2_with fail
          have hw1 : IntKind.i64.wrap ((n : Int) - 1) = (n : Int) - 1 := IntWalk.i64_in _ (by omega)
          go_quiet ((go_at_call 79; exact quiet_same (l6In_any _ _ _ _)))
          clear hw1
          go_wp2
          go_roundw
          case rel => exact ⟨k + 1, by omega, by go_num, allTo_step HS.out (by simp [memOk, hv]; omega), HQ.out.trans ⟨_, rfl⟩⟩
          case measure => simp [intOf]; omega
    · clear h hs hq
      go_wp2_with fail
      go_ret
      exact ⟨ret_bool (by have : k = ms.length := by omega
                          subst this; unfold memB; rw [HS.out]), HQ.out⟩
end Go.Proofs.Ytohnodphlaoohaa
