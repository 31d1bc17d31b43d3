/- Sets of members and their weights, the leaders, the coin's leader: each function by its contract. -/
import Derived.Test.YtohnodphlaoohaaCmt2
namespace Go.Proofs.Ytohnodphlaoohaa
open Go.RowKit
set_option linter.unusedVariables false

set_option maxHeartbeats 1000000 in
theorem i_MembersValid (A A' : Option Addr) (c c' : Nat) (zs ms : List Int) (w : World) (B : Nat) (h : Ints w B A zs) (h' : Ints w B A' ms) (hn : zs.length ≤ 1048576) (hm : ms.length ≤ 1048576) :
    Calls Try.prog 108 #[.slice A zs.length c, .slice A' ms.length c'] w fun e w' => e = .returned (.bool (membersB zs ms)) ∧ w = w' := by
  have H := Lib.hid h
  have H' := Lib.hid h'
  clear h h'
  rcases hv : validB zs with _ | _
  · go_enter Try.func108, Try.ntmps108
    go_wp2_with (go_at_call 104; refine (i_valid _ _ _ _ _ H.out hn).mono ?_; rintro e w' ⟨rfl, rfl⟩)
    go_ret
    exact ⟨ret_bool (by simp [membersB, hv]), rfl⟩
  · go_enter Try.func108, Try.ntmps108
    go_wp2_with (first | (go_at_call 104; refine (i_valid _ _ _ _ _ H.out hn).mono ?_; rintro e w' ⟨rfl, rfl⟩) | (go_at_call 122; refine (i_holds _ _ _ _ _ _ _ _ H'.out hn hm).mono ?_; rintro e w' ⟨rfl, rfl⟩))
    go_ret
    exact ⟨ret_bool (by simp [membersB, hv]), rfl⟩
set_option maxHeartbeats 1000000 in
theorem s_l1Weight (A A' : Option Addr) (c c' : Nat) (zs ms : List Int) (w : World) (B : Nat) (h : Ints w B A zs) (h' : Ints w B A' ms) (hv : validB zs = true) (hmb : memB zs.length ms = true) (hm : ms.length ≤ 1048576) :
    Calls Try.prog 59 #[.slice A zs.length c, .slice A' ms.length c'] w fun e w' => e = .returned (.int .i64 (weight zs ms)) ∧ w = w' := by
  have hlen := validB_len hv
  have HV := Lib.hid hv
  have HM := Lib.hid hmb
  clear hv hmb
  go_enter Try.func59, Try.ntmps59
  go_wp2
  go_loop [5, 6] (fun s i => ∃ k : Nat, k ≤ ms.length ∧ i = .int .i64 k ∧ s = .int .i64 (sumTo (weightAt zs ms) k)) (fun _ i => ms.length - (intOf i).toNat)
  case atStart => exact ⟨0, Nat.zero_le _, rfl, rfl⟩
  case round =>
    obtain ⟨k, hk, rfl, rfl⟩ := hrel
    have hs := weight_to HV.out HM.out hk
    by_cases hlt : k < ms.length
    · obtain ⟨b, off, rfl, hbb, hc⟩ := h'.at_ hlt
      have hck := hc k hlt
      have hin := memB_in HM.out hlt
      obtain ⟨b', off', rfl, hbb', hc'⟩ := h.at_ (k := (nth ms k).toNat) (by omega)
      have hcw := hc' (nth ms k).toNat (by omega)
      have he := validB_at HV.out (j := (nth ms k).toNat) (by omega)
      clear hc hc' h h'
      go_wp2
      go_round
      case rel => exact ⟨k + 1, by omega, by go_num, rfl⟩
      case measure => simp [intOf]; omega
    · clear h h'
      go_wp2
      go_ret
      exact ⟨ret_int (by have : k = ms.length := by omega
                         subst this; rfl), rfl⟩
set_option maxHeartbeats 1000000 in
theorem i_weigh (A A' : Option Addr) (c c' : Nat) (zs ms : List Int) (w : World) (B : Nat) (h : Ints w B A zs) (h' : Ints w B A' ms) (hv : validB zs = true) (hmb : memB zs.length ms = true) (hm : ms.length ≤ 1048576) :
    Calls Try.prog 109 #[.slice A zs.length c, .slice A' ms.length c'] w fun e w' => e = .returned (.int .i64 (weight zs ms)) ∧ w = w' := by
  have hlen := validB_len hv
  have HV := Lib.hid hv
  have HM := Lib.hid hmb
  clear hv hmb
  go_enter Try.func109, Try.ntmps109
  go_wp2
  go_loop [5, 10] (fun s i => ∃ k : Nat, k ≤ ms.length ∧ i = .int .i64 k ∧ s = .int .i64 (sumTo (weightAt zs ms) k)) (fun _ i => ms.length - (intOf i).toNat)
  case atStart => exact ⟨0, Nat.zero_le _, rfl, rfl⟩
  case round =>
    obtain ⟨k, hk, rfl, rfl⟩ := hrel
    have hs := weight_to HV.out HM.out hk
    by_cases hlt : k < ms.length
    · obtain ⟨b, off, rfl, hbb, hc⟩ := h'.at_ hlt
      have hck := hc k hlt
      have hin := memB_in HM.out hlt
      obtain ⟨b', off', rfl, hbb', hc'⟩ := h.at_ (k := (nth ms k).toNat) (by omega)
      have hcw := hc' (nth ms k).toNat (by omega)
      have he := validB_at HV.out (j := (nth ms k).toNat) (by omega)
      clear hc hc' h h'
      go_wp2
      go_round
      case rel => exact ⟨k + 1, by omega, by go_num, rfl⟩
      case measure => simp [intOf]; omega
    · clear h h'
      go_wp2
      go_ret
      exact ⟨ret_int (by have : k = ms.length := by omega
                         subst this; rfl), rfl⟩
set_option maxHeartbeats 1000000 in
theorem i_MembersWeight (A A' : Option Addr) (c c' : Nat) (zs ms : List Int) (w : World) (B : Nat) (h : Ints w B A zs) (h' : Ints w B A' ms) (hn : zs.length ≤ 1048576) (hm : ms.length ≤ 1048576) :
    Calls Try.prog 64 #[.slice A zs.length c, .slice A' ms.length c'] w fun e w' => e = .returned (.int .i64 (cWeight zs ms)) ∧ w = w' := by
  have H := Lib.hid h
  have H' := Lib.hid h'
  clear h h'
  rcases hv : membersB zs ms with _ | _
  · go_enter Try.func64, Try.ntmps64
    go_wp2_with (go_at_call 108; refine (i_MembersValid _ _ _ _ _ _ _ _ H.out H'.out hn hm).mono ?_; rintro e w' ⟨rfl, rfl⟩)
    go_ret
    exact ⟨ret_int (by simp [cWeight, hv]), rfl⟩
  · have hv2 := hv
    simp only [membersB, Bool.and_eq_true] at hv2
    have HV := Lib.hid hv2
    clear hv2
    go_enter Try.func64, Try.ntmps64
    go_wp2_with (first | (go_at_call 108; refine (i_MembersValid _ _ _ _ _ _ _ _ H.out H'.out hn hm).mono ?_; rintro e w' ⟨rfl, rfl⟩) | (go_at_call 109; refine (i_weigh _ _ _ _ _ _ _ _ H.out H'.out HV.out.1 HV.out.2 hm).mono ?_; rintro e w' ⟨rfl, rfl⟩))
    go_ret
    exact ⟨ret_int (by simp [cWeight, hv]), rfl⟩
set_option maxHeartbeats 1000000 in
theorem s_l21Leaders (A A' : Option Addr) (c c' n : Nat) (ms : List Int) (w : World) (B : Nat) (h : Ints w B A' ms) (hn : n ≤ 1048576) (hm : ms.length ≤ 1048576) :
    Calls Try.prog 103 #[.slice A n c, .slice A' ms.length c'] w fun e w' => e = .returned (.bool (leadB n ms)) ∧ w = w' := by
  go_enter Try.func103, Try.ntmps103
  go_wp2
  go_loop [5] (fun i => ∃ k : Nat, k ≤ ms.length ∧ i = .int .i64 k ∧ allTo (leadOk n ms) k = true) (fun i => ms.length - (intOf i).toNat)
  case atStart => exact ⟨0, Nat.zero_le _, rfl, rfl⟩
  case round =>
    obtain ⟨k, hk, rfl, hs⟩ := hrel
    have HS := Lib.hid hs
    clear hs
    by_cases hlt : k < ms.length
    · obtain ⟨b, off, rfl, hbb, hc⟩ := h.at_ hlt
      have hck := hc k hlt
      clear hc h
      rcases hv : inB (nth ms k) 0 ((n : Int) - 1) with _ | _
      · go_wp2_with (go_at_call 79; refine (l6In_any _ _ _ _).mono ?_; rintro e w' ⟨rfl, rfl⟩)
        go_ret
        exact ⟨ret_bool (by unfold leadB; rw [allTo_bad hlt hv]; rfl), rfl⟩
      · go_wp2_with (go_at_call 79; refine (l6In_any _ _ _ _).mono ?_; rintro e w' ⟨rfl, rfl⟩)
        go_round
        case rel => exact ⟨k + 1, by omega, by go_num, allTo_step HS.out hv⟩
        case measure => simp [intOf]; omega
    · clear h
      go_wp2_with fail
      go_ret
      exact ⟨ret_bool (by have : k = ms.length := by omega
                          subst this; unfold leadB; rw [HS.out]; simp; omega), rfl⟩
set_option maxHeartbeats 1000000 in
theorem s_LeadersValid (A A' : Option Addr) (c c' : Nat) (zs ms : List Int) (w : World) (B : Nat) (h : Ints w B A zs) (h' : Ints w B A' ms) (hn : zs.length ≤ 1048576) (hm : ms.length ≤ 1048576) :
    Calls Try.prog 54 #[.slice A zs.length c, .slice A' ms.length c'] w fun e w' => e = .returned (.bool (leadersB zs ms)) ∧ w = w' := by
  have H := Lib.hid h
  have H' := Lib.hid h'
  clear h h'
  rcases hv : validB zs with _ | _
  · go_enter Try.func54, Try.ntmps54
    go_wp2_with (go_at_call 102; refine (s_CommitteeValid _ _ _ _ _ H.out hn).mono ?_; rintro e w' ⟨rfl, rfl⟩)
    go_ret
    exact ⟨ret_bool (by simp [leadersB, hv]), rfl⟩
  · go_enter Try.func54, Try.ntmps54
    go_wp2_with (first | (go_at_call 102; refine (s_CommitteeValid _ _ _ _ _ H.out hn).mono ?_; rintro e w' ⟨rfl, rfl⟩) | (go_at_call 103; refine (s_l21Leaders _ _ _ _ _ _ _ _ H'.out hn hm).mono ?_; rintro e w' ⟨rfl, rfl⟩))
    go_ret
    exact ⟨ret_bool (by simp [leadersB, hv]), rfl⟩
set_option maxHeartbeats 2000000 in
theorem i_LeadersValid (A A' : Option Addr) (c c' : Nat) (zs ms : List Int) (w : World) (B : Nat) (h : Ints w B A zs) (h' : Ints w B A' ms) (hn : zs.length ≤ 1048576) (hm : ms.length ≤ 1048576) :
    Calls Try.prog 53 #[.slice A zs.length c, .slice A' ms.length c'] w fun e w' => e = .returned (.bool (leadersB zs ms)) ∧ w = w' := by
  have H := Lib.hid h
  clear h
  rcases hv : validB zs with _ | _
  · go_enter Try.func53, Try.ntmps53
    go_wp2_with (go_at_call 55; refine (i_CommitteeValid _ _ _ _ _ H.out hn).mono ?_; rintro e w' ⟨rfl, rfl⟩)
    go_ret
    exact ⟨ret_bool (by simp [leadersB, hv]), rfl⟩
  by_cases h15 : (15 : Int) < ms.length
  · go_enter Try.func53, Try.ntmps53
    go_wp2_with (go_at_call 55; refine (i_CommitteeValid _ _ _ _ _ H.out hn).mono ?_; rintro e w' ⟨rfl, rfl⟩)
    go_ret
    exact ⟨ret_bool (by unfold leadersB leadB; rw [decide_eq_false (show ¬ ms.length ≤ 15 by omega)]; simp), rfl⟩
  go_enter Try.func53, Try.ntmps53
  go_wp2_with (go_at_call 55; refine (i_CommitteeValid _ _ _ _ _ H.out hn).mono ?_; rintro e w' ⟨rfl, rfl⟩)
  go_loop [17] (fun i => ∃ k : Nat, k ≤ ms.length ∧ i = .int .i64 k ∧ allTo (leadOk zs.length ms) k = true) (fun i => ms.length - (intOf i).toNat)
  case atStart => exact ⟨0, Nat.zero_le _, rfl, rfl⟩
  case round =>
    obtain ⟨k, hk, rfl, hs⟩ := hrel
    have HS := Lib.hid hs
    clear hs
    by_cases hlt : k < ms.length
    · obtain ⟨b, off, rfl, hbb, hc⟩ := h'.at_ hlt
      have hck := hc k hlt
      clear hc h'
      rcases hi : inB (nth ms k) 0 ((zs.length : Int) - 1) with _ | _
      · go_wp2_with (go_at_call 101; refine (i_has _ _ _ _ _ hn).mono ?_; rintro e w' ⟨rfl, rfl⟩)
        go_ret
        exact ⟨ret_bool (by unfold leadersB leadB; rw [allTo_bad hlt hi]; simp), rfl⟩
      · go_wp2_with (go_at_call 101; refine (i_has _ _ _ _ _ hn).mono ?_; rintro e w' ⟨rfl, rfl⟩)
        go_round
        case rel => exact ⟨k + 1, by omega, by go_num, allTo_step HS.out hi⟩
        case measure => simp [intOf]; omega
    · clear h'
      go_wp2_with fail
      go_ret
      exact ⟨ret_bool (by have : k = ms.length := by omega
                          subst this; unfold leadersB leadB; rw [HS.out, hv, decide_eq_true (show ms.length ≤ 15 by omega)]; rfl), rfl⟩
end Go.Proofs.Ytohnodphlaoohaa
