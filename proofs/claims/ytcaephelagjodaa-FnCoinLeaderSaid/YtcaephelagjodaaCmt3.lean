/- Sets of members and their weights, the leaders, the coin's leader: each function by its contract. -/
import Derived.Test.YtcaephelagjodaaCmt2
namespace Go.Proofs.Ytcaephelagjodaa
open Go.RowKit
set_option linter.unusedVariables false

set_option maxHeartbeats 1000000 in
theorem s_MembersValid (A A' : Option Addr) (c c' : Nat) (zs ms : List Int) (w : World) (B : Nat) (h : Ints w B A zs) (h' : Ints w B A' ms) (hn : zs.length ≤ 1048576) (hm : ms.length ≤ 1048576) :
    Calls Try.prog 31 #[.slice A zs.length c, .slice A' ms.length c'] w fun e w' => e = .returned (.bool (membersB zs ms)) ∧ Quiet w w' := by
  have H := Lib.hid h
  have H' := Lib.hid h'
  clear h h'
  rcases hv : validB zs with _ | _
  · go_enter Try.func31, Try.ntmps31
    go_wp2_with (go_at_call 59; refine (s_CommitteeValid _ _ _ _ _ H.out hn).mono ?_; rintro e w' ⟨rfl, rfl⟩)
    go_ret
    exact ⟨ret_bool (by simp [membersB, hv]), Quiet.refl _⟩
  · go_enter Try.func31, Try.ntmps31
    go_wp2_with (first | (go_at_call 59; refine (s_CommitteeValid _ _ _ _ _ H.out hn).mono ?_; rintro e w' ⟨rfl, rfl⟩) | (go_at_call 68; refine (s_l1Members _ _ _ _ _ _ _ _ H'.out hn hm).mono ?_; rintro e w' ⟨rfl, nq, rfl⟩))
    go_ret
    exact ⟨ret_bool (by simp [membersB, hv]), ⟨_, rfl⟩⟩
set_option maxHeartbeats 1000000 in
theorem i_MembersValid (A A' : Option Addr) (c c' : Nat) (zs ms : List Int) (w : World) (B : Nat) (h : Ints w B A zs) (h' : Ints w B A' ms) (hn : zs.length ≤ 1048576) (hm : ms.length ≤ 1048576) :
    Calls Try.prog 30 #[.slice A zs.length c, .slice A' ms.length c'] w fun e w' => e = .returned (.bool (membersB zs ms)) ∧ w = w' := by
  have H := Lib.hid h
  have H' := Lib.hid h'
  clear h h'
  rcases hv : validB zs with _ | _
  · go_enter Try.func30, Try.ntmps30
    go_wp2_with (go_at_call 57; refine (i_valid _ _ _ _ _ H.out hn).mono ?_; rintro e w' ⟨rfl, rfl⟩)
    go_ret
    exact ⟨ret_bool (by simp [membersB, hv]), rfl⟩
  · go_enter Try.func30, Try.ntmps30
    go_wp2_with (first | (go_at_call 57; refine (i_valid _ _ _ _ _ H.out hn).mono ?_; rintro e w' ⟨rfl, rfl⟩) | (go_at_call 67; refine (i_holds _ _ _ _ _ _ _ _ H'.out hn hm).mono ?_; rintro e w' ⟨rfl, rfl⟩))
    go_ret
    exact ⟨ret_bool (by simp [membersB, hv]), rfl⟩
set_option maxHeartbeats 1000000 in
theorem s_l1Weight (A A' : Option Addr) (c c' : Nat) (zs ms : List Int) (w : World) (B : Nat) (h : Ints w B A zs) (h' : Ints w B A' ms) (hv : validB zs = true) (hmb : memB zs.length ms = true) (hm : ms.length ≤ 1048576) :
    Calls Try.prog 76 #[.slice A zs.length c, .slice A' ms.length c'] w fun e w' => e = .returned (.int .i64 (weight zs ms)) ∧ w = w' := by
  have hlen := validB_len hv
  have HV := Lib.hid hv
  have HM := Lib.hid hmb
  clear hv hmb
  go_enter Try.func76, Try.ntmps76
  go_wp2
  go_loop [5, 6] (fun s i => ∃ k : Nat, k ≤ ms.length ∧ i = .int .i64 k ∧ s = .int .i64 (sumTo (weightAt zs ms) k)) (fun _ i => ms.length - (intOf i).toNat)
  case atStart => exact ⟨0, Nat.zero_le _, rfl, rfl⟩
  case round =>
    obtain ⟨k, hk, rfl, rfl⟩ := hrel
    have hs := weight_to HV.out HM.out hk
    by_cases hlt : k < ms.length
    · obtain ⟨b, off, rfl, hbb, hc⟩ := h'.at_ hlt
      have hck := hc k hlt
      have hin := memB_in HM.out hlt
      obtain ⟨b', off', rfl, hbb', hc'⟩ := h.at_ (k := (nth ms k).toNat) (by omega)
      have hcw := hc' (nth ms k).toNat (by omega)
      have he := validB_at HV.out (j := (nth ms k).toNat) (by omega)
      clear hc hc' h h'
      go_wp2
      go_round
      case rel => exact ⟨k + 1, by omega, by go_num, rfl⟩
      case measure => simp [intOf]; omega
    · clear h h'
      go_wp2
      go_ret
      exact ⟨ret_int (by have : k = ms.length := by omega
                         subst this; rfl), rfl⟩
set_option maxHeartbeats 1000000 in
theorem i_weigh (A A' : Option Addr) (c c' : Nat) (zs ms : List Int) (w : World) (B : Nat) (h : Ints w B A zs) (h' : Ints w B A' ms) (hv : validB zs = true) (hmb : memB zs.length ms = true) (hm : ms.length ≤ 1048576) :
    Calls Try.prog 75 #[.slice A zs.length c, .slice A' ms.length c'] w fun e w' => e = .returned (.int .i64 (weight zs ms)) ∧ w = w' := by
  have hlen := validB_len hv
  have HV := Lib.hid hv
  have HM := Lib.hid hmb
  clear hv hmb
  go_enter Try.func75, Try.ntmps75
  go_wp2
  go_loop [5, 10] (fun s i => ∃ k : Nat, k ≤ ms.length ∧ i = .int .i64 k ∧ s = .int .i64 (sumTo (weightAt zs ms) k)) (fun _ i => ms.length - (intOf i).toNat)
  case atStart => exact ⟨0, Nat.zero_le _, rfl, rfl⟩
  case round =>
    obtain ⟨k, hk, rfl, rfl⟩ := hrel
    have hs := weight_to HV.out HM.out hk
    by_cases hlt : k < ms.length
    · obtain ⟨b, off, rfl, hbb, hc⟩ := h'.at_ hlt
      have hck := hc k hlt
      have hin := memB_in HM.out hlt
      obtain ⟨b', off', rfl, hbb', hc'⟩ := h.at_ (k := (nth ms k).toNat) (by omega)
      have hcw := hc' (nth ms k).toNat (by omega)
      have he := validB_at HV.out (j := (nth ms k).toNat) (by omega)
      clear hc hc' h h'
      go_wp2
      go_round
      case rel => exact ⟨k + 1, by omega, by go_num, rfl⟩
      case measure => simp [intOf]; omega
    · clear h h'
      go_wp2
      go_ret
      exact ⟨ret_int (by have : k = ms.length := by omega
                         subst this; rfl), rfl⟩
set_option maxHeartbeats 1000000 in
theorem s_MembersWeight (A A' : Option Addr) (c c' : Nat) (zs ms : List Int) (w : World) (B : Nat) (h : Ints w B A zs) (h' : Ints w B A' ms) (hn : zs.length ≤ 1048576) (hm : ms.length ≤ 1048576) :
    Calls Try.prog 47 #[.slice A zs.length c, .slice A' ms.length c'] w fun e w' => e = .returned (.int .i64 (cWeight zs ms)) ∧ Quiet w w' := by
  have H := Lib.hid h
  have H' := Lib.hid h'
  clear h h'
  rcases hv : membersB zs ms with _ | _
  · go_enter Try.func47, Try.ntmps47
    go_wp2_with (go_at_call 31; refine (s_MembersValid _ _ _ _ _ _ _ _ H.out H'.out hn hm).mono ?_; rintro e w' ⟨rfl, nq, rfl⟩)
    go_ret
    exact ⟨ret_int (by simp [cWeight, hv]), ⟨_, rfl⟩⟩
  · have hv2 := hv
    simp only [membersB, Bool.and_eq_true] at hv2
    have HV := Lib.hid hv2
    clear hv2
    go_enter Try.func47, Try.ntmps47
    go_wp2_with (first | (go_at_call 31; refine (s_MembersValid _ _ _ _ _ _ _ _ H.out H'.out hn hm).mono ?_; rintro e w' ⟨rfl, nq, rfl⟩) | (go_at_call 76; refine (s_l1Weight _ _ _ _ _ _ _ _ (H.out.quiet ⟨_, rfl⟩) (H'.out.quiet ⟨_, rfl⟩) HV.out.1 HV.out.2 hm).mono ?_; rintro e w' ⟨rfl, rfl⟩))
    go_ret
    exact ⟨ret_int (by simp [cWeight, hv]), ⟨_, rfl⟩⟩
set_option maxHeartbeats 1000000 in
theorem i_MembersWeight (A A' : Option Addr) (c c' : Nat) (zs ms : List Int) (w : World) (B : Nat) (h : Ints w B A zs) (h' : Ints w B A' ms) (hn : zs.length ≤ 1048576) (hm : ms.length ≤ 1048576) :
    Calls Try.prog 44 #[.slice A zs.length c, .slice A' ms.length c'] w fun e w' => e = .returned (.int .i64 (cWeight zs ms)) ∧ w = w' := by
  have H := Lib.hid h
  have H' := Lib.hid h'
  clear h h'
  rcases hv : membersB zs ms with _ | _
  · go_enter Try.func44, Try.ntmps44
    go_wp2_with (go_at_call 30; refine (i_MembersValid _ _ _ _ _ _ _ _ H.out H'.out hn hm).mono ?_; rintro e w' ⟨rfl, rfl⟩)
    go_ret
    exact ⟨ret_int (by simp [cWeight, hv]), rfl⟩
  · have hv2 := hv
    simp only [membersB, Bool.and_eq_true] at hv2
    have HV := Lib.hid hv2
    clear hv2
    go_enter Try.func44, Try.ntmps44
    go_wp2_with (first | (go_at_call 30; refine (i_MembersValid _ _ _ _ _ _ _ _ H.out H'.out hn hm).mono ?_; rintro e w' ⟨rfl, rfl⟩) | (go_at_call 75; refine (i_weigh _ _ _ _ _ _ _ _ H.out H'.out HV.out.1 HV.out.2 hm).mono ?_; rintro e w' ⟨rfl, rfl⟩))
    go_ret
    exact ⟨ret_int (by simp [cWeight, hv]), rfl⟩
set_option maxHeartbeats 1000000 in
theorem s_l21Leaders (A A' : Option Addr) (c c' n : Nat) (ms : List Int) (w : World) (B : Nat) (h : Ints w B A' ms) (hn : n ≤ 1048576) (hm : ms.length ≤ 1048576) :
    Calls Try.prog 65 #[.slice A n c, .slice A' ms.length c'] w fun e w' => e = .returned (.bool (leadB n ms)) ∧ w = w' := by
  go_enter Try.func65, Try.ntmps65
  go_wp2
  go_loop [5] (fun i => ∃ k : Nat, k ≤ ms.length ∧ i = .int .i64 k ∧ allTo (leadOk n ms) k = true) (fun i => ms.length - (intOf i).toNat)
  case atStart => exact ⟨0, Nat.zero_le _, rfl, rfl⟩
  case round =>
    obtain ⟨k, hk, rfl, hs⟩ := hrel
    have HS := Lib.hid hs
    clear hs
    by_cases hlt : k < ms.length
    · obtain ⟨b, off, rfl, hbb, hc⟩ := h.at_ hlt
      have hck := hc k hlt
      clear hc h
      rcases hv : inB (nth ms k) 0 ((n : Int) - 1) with _ | _
      · go_wp2_with (go_at_call 74; refine (l6In_any _ _ _ _).mono ?_; rintro e w' ⟨rfl, rfl⟩)
        go_ret
        exact ⟨ret_bool (by unfold leadB; rw [allTo_bad hlt hv]; rfl), rfl⟩
      · go_wp2_with (go_at_call 74; refine (l6In_any _ _ _ _).mono ?_; rintro e w' ⟨rfl, rfl⟩)
        go_round
        case rel => exact ⟨k + 1, by omega, by go_num, allTo_step HS.out hv⟩
        case measure => simp [intOf]; omega
    · clear h
      go_wp2_with fail
      go_ret
      exact ⟨ret_bool (by have : k = ms.length := by omega
                          subst this; unfold leadB; rw [HS.out]; simp; omega), rfl⟩
set_option maxHeartbeats 1000000 in
theorem s_LeadersValid (A A' : Option Addr) (c c' : Nat) (zs ms : List Int) (w : World) (B : Nat) (h : Ints w B A zs) (h' : Ints w B A' ms) (hn : zs.length ≤ 1048576) (hm : ms.length ≤ 1048576) :
    Calls Try.prog 27 #[.slice A zs.length c, .slice A' ms.length c'] w fun e w' => e = .returned (.bool (leadersB zs ms)) ∧ w = w' := by
  have H := Lib.hid h
  have H' := Lib.hid h'
  clear h h'
  rcases hv : validB zs with _ | _
  · go_enter Try.func27, Try.ntmps27
    go_wp2_with (go_at_call 59; refine (s_CommitteeValid _ _ _ _ _ H.out hn).mono ?_; rintro e w' ⟨rfl, rfl⟩)
    go_ret
    exact ⟨ret_bool (by simp [leadersB, hv]), rfl⟩
  · go_enter Try.func27, Try.ntmps27
    go_wp2_with (first | (go_at_call 59; refine (s_CommitteeValid _ _ _ _ _ H.out hn).mono ?_; rintro e w' ⟨rfl, rfl⟩) | (go_at_call 65; refine (s_l21Leaders _ _ _ _ _ _ _ _ H'.out hn hm).mono ?_; rintro e w' ⟨rfl, rfl⟩))
    go_ret
    exact ⟨ret_bool (by simp [leadersB, hv]), rfl⟩
set_option maxHeartbeats 2000000 in
theorem i_LeadersValid (A A' : Option Addr) (c c' : Nat) (zs ms : List Int) (w : World) (B : Nat) (h : Ints w B A zs) (h' : Ints w B A' ms) (hn : zs.length ≤ 1048576) (hm : ms.length ≤ 1048576) :
    Calls Try.prog 26 #[.slice A zs.length c, .slice A' ms.length c'] w fun e w' => e = .returned (.bool (leadersB zs ms)) ∧ w = w' := by
  have H := Lib.hid h
  clear h
  rcases hv : validB zs with _ | _
  · go_enter Try.func26, Try.ntmps26
    go_wp2_with (go_at_call 28; refine (i_CommitteeValid _ _ _ _ _ H.out hn).mono ?_; rintro e w' ⟨rfl, rfl⟩)
    go_ret
    exact ⟨ret_bool (by simp [leadersB, hv]), rfl⟩
  by_cases h15 : (15 : Int) < ms.length
  · go_enter Try.func26, Try.ntmps26
    go_wp2_with (go_at_call 28; refine (i_CommitteeValid _ _ _ _ _ H.out hn).mono ?_; rintro e w' ⟨rfl, rfl⟩)
    go_ret
    exact ⟨ret_bool (by unfold leadersB leadB; rw [decide_eq_false (show ¬ ms.length ≤ 15 by omega)]; simp), rfl⟩
  go_enter Try.func26, Try.ntmps26
  go_wp2_with (go_at_call 28; refine (i_CommitteeValid _ _ _ _ _ H.out hn).mono ?_; rintro e w' ⟨rfl, rfl⟩)
  go_loop [17] (fun i => ∃ k : Nat, k ≤ ms.length ∧ i = .int .i64 k ∧ allTo (leadOk zs.length ms) k = true) (fun i => ms.length - (intOf i).toNat)
  case atStart => exact ⟨0, Nat.zero_le _, rfl, rfl⟩
  case round =>
    obtain ⟨k, hk, rfl, hs⟩ := hrel
    have HS := Lib.hid hs
    clear hs
    by_cases hlt : k < ms.length
    · obtain ⟨b, off, rfl, hbb, hc⟩ := h'.at_ hlt
      have hck := hc k hlt
      clear hc h'
      rcases hi : inB (nth ms k) 0 ((zs.length : Int) - 1) with _ | _
      · go_wp2_with (go_at_call 64; refine (i_has _ _ _ _ _ hn).mono ?_; rintro e w' ⟨rfl, rfl⟩)
        go_ret
        exact ⟨ret_bool (by unfold leadersB leadB; rw [allTo_bad hlt hi]; simp), rfl⟩
      · go_wp2_with (go_at_call 64; refine (i_has _ _ _ _ _ hn).mono ?_; rintro e w' ⟨rfl, rfl⟩)
        go_round
        case rel => exact ⟨k + 1, by omega, by go_num, allTo_step HS.out hi⟩
        case measure => simp [intOf]; omega
    · clear h'
      go_wp2_with fail
      go_ret
      exact ⟨ret_bool (by have : k = ms.length := by omega
                          subst this; unfold leadersB leadB; rw [HS.out, hv, decide_eq_true (show ms.length ≤ 15 by omega)]; rfl), rfl⟩
end Go.Proofs.Ytcaephelagjodaa
