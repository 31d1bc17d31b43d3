/- The committee's functions, of the program and of the reference: each by its contract. -/
import Derived.Test.YtcaephelagjodaaBase
namespace Go.Proofs.Ytcaephelagjodaa
open Go.RowKit
set_option linter.unusedVariables false

set_option maxHeartbeats 1000000 in
theorem s_CommitteeValid (A : Option Addr) (c : Nat) (zs : List Int) (w : World) (B : Nat) (h : Ints w B A zs) (hn : zs.length ≤ 1048576) :
    Calls Try.prog 59 #[.slice A zs.length c] w fun e w' => e = .returned (.bool (validB zs)) ∧ w = w' := by
  go_enter Try.func59, Try.ntmps59
  go_wp2
  go_loop [3] (fun i => ∃ k : Nat, k ≤ zs.length ∧ i = .int .i64 k ∧ allTo (okW zs) k = true) (fun i => zs.length - (intOf i).toNat)
  case atStart => exact ⟨0, Nat.zero_le _, rfl, rfl⟩
  case round =>
    obtain ⟨k, hk, rfl, hs⟩ := hrel
    have HS := Lib.hid hs
    clear hs
    by_cases hlt : k < zs.length
    · obtain ⟨b, off, rfl, hbb, hc⟩ := h.at_ hlt
      have hck := hc k hlt
      clear hc h
      rcases hv : inB (nth zs k) 1 9 with _ | _
      · go_wp2_with (go_at_call 74; refine (l6In_any _ _ _ _).mono ?_; rintro e w' ⟨rfl, rfl⟩)
        go_ret
        exact ⟨ret_bool (by unfold validB; rw [allTo_bad hlt hv]; rfl), rfl⟩
      · go_wp2_with (go_at_call 74; refine (l6In_any _ _ _ _).mono ?_; rintro e w' ⟨rfl, rfl⟩)
        go_round
        case rel => exact ⟨k + 1, by omega, by go_num, allTo_step HS.out hv⟩
        case measure => simp [intOf]; omega
    · clear h
      go_wp2_with (go_at_call 74; refine (l6In_any _ _ _ _).mono ?_; rintro e w' ⟨rfl, rfl⟩)
      go_ret
      exact ⟨ret_bool (by have : k = zs.length := by omega
                          subst this; unfold validB; rw [HS.out]; rfl), rfl⟩

set_option maxHeartbeats 1000000 in
theorem i_valid (A : Option Addr) (c : Nat) (zs : List Int) (w : World) (B : Nat) (h : Ints w B A zs) (hn : zs.length ≤ 1048576) :
    Calls Try.prog 57 #[.slice A zs.length c] w fun e w' => e = .returned (.bool (validB zs)) ∧ w = w' := by
  by_cases h1 : (zs.length : Int) < 1
  · go_enter Try.func57, Try.ntmps57
    go_wp2
    go_ret
    exact ⟨ret_bool (by unfold validB; rw [inB_no.2 (by omega)]; simp), rfl⟩
  by_cases h7 : (7 : Int) < zs.length
  · go_enter Try.func57, Try.ntmps57
    go_wp2
    go_ret
    exact ⟨ret_bool (by unfold validB; rw [inB_no.2 (by omega)]; simp), rfl⟩
  go_enter Try.func57, Try.ntmps57
  go_wp2
  go_loop [15] (fun i => ∃ k : Nat, k ≤ zs.length ∧ i = .int .i64 k ∧ allTo (okW zs) k = true) (fun i => zs.length - (intOf i).toNat)
  case atStart => exact ⟨0, Nat.zero_le _, rfl, rfl⟩
  case round =>
    obtain ⟨k, hk, rfl, hs⟩ := hrel
    have HS := Lib.hid hs
    clear hs
    by_cases hlt : k < zs.length
    · obtain ⟨b, off, rfl, hbb, hc⟩ := h.at_ hlt
      have hck := hc k hlt
      clear hc h
      by_cases g1 : nth zs k < 1
      · go_wp2
        go_ret
        exact ⟨ret_bool (by unfold validB; rw [allTo_bad hlt (inB_no.2 (by omega))]; rfl), rfl⟩
      by_cases g9 : 9 < nth zs k
      · go_wp2
        go_ret
        exact ⟨ret_bool (by unfold validB; rw [allTo_bad hlt (inB_no.2 (by omega))]; rfl), rfl⟩
      go_wp2
      go_round
      case rel => exact ⟨k + 1, by omega, by go_num, allTo_step HS.out (inB_iff.2 (by omega))⟩
      case measure => simp [intOf]; omega
    · clear h
      go_wp2
      go_ret
      exact ⟨ret_bool (by have : k = zs.length := by omega
                          subst this; unfold validB; rw [HS.out, inB_iff.2 (by omega)]; rfl), rfl⟩

set_option maxHeartbeats 1000000 in
theorem i_CommitteeValid (A : Option Addr) (c : Nat) (zs : List Int) (w : World) (B : Nat) (h : Ints w B A zs) (hn : zs.length ≤ 1048576) :
    Calls Try.prog 28 #[.slice A zs.length c] w fun e w' => e = .returned (.bool (validB zs)) ∧ w = w' := by
  have H := Lib.hid h
  clear h
  go_enter Try.func28, Try.ntmps28
  go_wp2_with (go_at_call 57; refine (i_valid _ _ _ _ _ H.out hn).mono ?_; rintro e w' ⟨rfl, rfl⟩)
  go_ret
  exact ⟨rfl, rfl⟩

set_option maxHeartbeats 1000000 in
theorem s_l1Total (A : Option Addr) (c : Nat) (zs : List Int) (w : World) (B : Nat) (h : Ints w B A zs) (hv : validB zs = true) :
    Calls Try.prog 60 #[.slice A zs.length c] w fun e w' => e = .returned (.int .i64 (total zs)) ∧ w = w' := by
  have hlen := validB_len hv
  have HV := Lib.hid hv
  clear hv
  go_enter Try.func60, Try.ntmps60
  go_wp2
  go_loop [3, 4] (fun s i => ∃ k : Nat, k ≤ zs.length ∧ i = .int .i64 k ∧ s = .int .i64 (sumTo (nth zs) k)) (fun _ i => zs.length - (intOf i).toNat)
  case atStart => exact ⟨0, Nat.zero_le _, rfl, rfl⟩
  case round =>
    obtain ⟨k, hk, rfl, rfl⟩ := hrel
    have hs := total_to HV.out hk
    by_cases hlt : k < zs.length
    · obtain ⟨b, off, rfl, hbb, hc⟩ := h.at_ hlt
      have hck := hc k hlt
      have he := validB_at HV.out hlt
      clear hc h
      go_wp2
      go_round
      case rel => exact ⟨k + 1, by omega, by go_num, rfl⟩
      case measure => simp [intOf]; omega
    · clear h
      go_wp2
      go_ret
      exact ⟨ret_int (by have : k = zs.length := by omega
                         subst this; rfl), rfl⟩
set_option maxHeartbeats 1000000 in
theorem i_total (A : Option Addr) (c : Nat) (zs : List Int) (w : World) (B : Nat) (h : Ints w B A zs) (hv : validB zs = true) :
    Calls Try.prog 61 #[.slice A zs.length c] w fun e w' => e = .returned (.int .i64 (total zs)) ∧ w = w' := by
  have hlen := validB_len hv
  have HV := Lib.hid hv
  clear hv
  go_enter Try.func61, Try.ntmps61
  go_wp2
  go_loop [3, 8] (fun s i => ∃ k : Nat, k ≤ zs.length ∧ i = .int .i64 k ∧ s = .int .i64 (sumTo (nth zs) k)) (fun _ i => zs.length - (intOf i).toNat)
  case atStart => exact ⟨0, Nat.zero_le _, rfl, rfl⟩
  case round =>
    obtain ⟨k, hk, rfl, rfl⟩ := hrel
    have hs := total_to HV.out hk
    by_cases hlt : k < zs.length
    · obtain ⟨b, off, rfl, hbb, hc⟩ := h.at_ hlt
      have hck := hc k hlt
      have he := validB_at HV.out hlt
      clear hc h
      go_wp2
      go_round
      case rel => exact ⟨k + 1, by omega, by go_num, rfl⟩
      case measure => simp [intOf]; omega
    · clear h
      go_wp2
      go_ret
      exact ⟨ret_int (by have : k = zs.length := by omega
                         subst this; rfl), rfl⟩
set_option maxHeartbeats 1000000 in
theorem i_faults (A : Option Addr) (c : Nat) (zs : List Int) (w : World) (B : Nat) (h : Ints w B A zs) (hv : validB zs = true) :
    Calls Try.prog 58 #[.slice A zs.length c] w fun e w' => e = .returned (.int .i64 ((total zs - 1) / 3)) ∧ w = w' := by
  have hb := total_bd hv
  have HV := Lib.hid hv
  have H := Lib.hid h
  clear hv h
  go_enter Try.func58, Try.ntmps58
  go_wp2_with (go_at_call 61; refine (i_total _ _ _ _ _ H.out HV.out).mono ?_; rintro e w' ⟨rfl, rfl⟩)
  go_ret
  exact ⟨rfl, rfl⟩
set_option maxHeartbeats 1000000 in
theorem i_quorum (A : Option Addr) (c : Nat) (zs : List Int) (w : World) (B : Nat) (h : Ints w B A zs) (hv : validB zs = true) :
    Calls Try.prog 69 #[.slice A zs.length c] w fun e w' => e = .returned (.int .i64 (quorum zs)) ∧ w = w' := by
  have hb := total_bd hv
  have HV := Lib.hid hv
  have H := Lib.hid h
  clear hv h
  go_enter Try.func69, Try.ntmps69
  go_wp2_with (go_at_call 61; refine (i_total _ _ _ _ _ H.out HV.out).mono ?_; rintro e w' ⟨rfl, rfl⟩)
  go_ret
  exact ⟨rfl, rfl⟩
set_option maxHeartbeats 1000000 in
theorem i_support (A : Option Addr) (c : Nat) (zs : List Int) (w : World) (B : Nat) (h : Ints w B A zs) (hv : validB zs = true) :
    Calls Try.prog 71 #[.slice A zs.length c] w fun e w' => e = .returned (.int .i64 (support zs)) ∧ w = w' := by
  have hb := total_bd hv
  have HV := Lib.hid hv
  have H := Lib.hid h
  clear hv h
  go_enter Try.func71, Try.ntmps71
  go_wp2_with (go_at_call 61; refine (i_total _ _ _ _ _ H.out HV.out).mono ?_; rintro e w' ⟨rfl, rfl⟩)
  go_ret
  exact ⟨rfl, rfl⟩
set_option maxHeartbeats 1000000 in
theorem s_l1Quorum (A : Option Addr) (c : Nat) (zs : List Int) (w : World) (B : Nat) (h : Ints w B A zs) (hv : validB zs = true) :
    Calls Try.prog 70 #[.slice A zs.length c] w fun e w' => e = .returned (.int .i64 (quorum zs)) ∧ w = w' := by
  have hb := total_bd hv
  have HV := Lib.hid hv
  have H := Lib.hid h
  clear hv h
  go_enter Try.func70, Try.ntmps70
  go_wp2_with (go_at_call 60; refine (s_l1Total _ _ _ _ _ H.out HV.out).mono ?_; rintro e w' ⟨rfl, rfl⟩)
  go_ret
  exact ⟨rfl, rfl⟩
set_option maxHeartbeats 1000000 in
theorem s_l1Support (A : Option Addr) (c : Nat) (zs : List Int) (w : World) (B : Nat) (h : Ints w B A zs) (hv : validB zs = true) :
    Calls Try.prog 72 #[.slice A zs.length c] w fun e w' => e = .returned (.int .i64 (support zs)) ∧ w = w' := by
  have hb := total_bd hv
  have HV := Lib.hid hv
  have H := Lib.hid h
  clear hv h
  go_enter Try.func72, Try.ntmps72
  go_wp2_with (go_at_call 60; refine (s_l1Total _ _ _ _ _ H.out HV.out).mono ?_; rintro e w' ⟨rfl, rfl⟩)
  go_ret
  exact ⟨rfl, rfl⟩
set_option maxHeartbeats 1000000 in
theorem s_CommitteeTotal (A : Option Addr) (c : Nat) (zs : List Int) (w : World) (B : Nat) (h : Ints w B A zs) (hn : zs.length ≤ 1048576) :
    Calls Try.prog 42 #[.slice A zs.length c] w fun e w' => e = .returned (.int .i64 (cTotal zs)) ∧ w = w' := by
  have H := Lib.hid h
  clear h
  rcases hv : validB zs with _ | _
  · go_enter Try.func42, Try.ntmps42
    go_wp2_with (go_at_call 59; refine (s_CommitteeValid _ _ _ _ _ H.out hn).mono ?_; rintro e w' ⟨rfl, rfl⟩)
    go_ret
    exact ⟨ret_int (by simp [cTotal, hv]), rfl⟩
  · have hb := total_bd hv
    have HV := Lib.hid hv
    go_enter Try.func42, Try.ntmps42
    go_wp2_with (first | (go_at_call 59; refine (s_CommitteeValid _ _ _ _ _ H.out hn).mono ?_; rintro e w' ⟨rfl, rfl⟩) | (go_at_call 60; refine (s_l1Total _ _ _ _ _ H.out HV.out).mono ?_; rintro e w' ⟨rfl, rfl⟩))
    go_ret
    exact ⟨ret_int (by simp [cTotal, hv]), rfl⟩
set_option maxHeartbeats 1000000 in
theorem i_CommitteeTotal (A : Option Addr) (c : Nat) (zs : List Int) (w : World) (B : Nat) (h : Ints w B A zs) (hn : zs.length ≤ 1048576) :
    Calls Try.prog 24 #[.slice A zs.length c] w fun e w' => e = .returned (.int .i64 (cTotal zs)) ∧ w = w' := by
  have H := Lib.hid h
  clear h
  rcases hv : validB zs with _ | _
  · go_enter Try.func24, Try.ntmps24
    go_wp2_with (go_at_call 57; refine (i_valid _ _ _ _ _ H.out hn).mono ?_; rintro e w' ⟨rfl, rfl⟩)
    go_ret
    exact ⟨ret_int (by simp [cTotal, hv]), rfl⟩
  · have hb := total_bd hv
    have HV := Lib.hid hv
    go_enter Try.func24, Try.ntmps24
    go_wp2_with (first | (go_at_call 57; refine (i_valid _ _ _ _ _ H.out hn).mono ?_; rintro e w' ⟨rfl, rfl⟩) | (go_at_call 61; refine (i_total _ _ _ _ _ H.out HV.out).mono ?_; rintro e w' ⟨rfl, rfl⟩))
    go_ret
    exact ⟨ret_int (by simp [cTotal, hv]), rfl⟩
set_option maxHeartbeats 1000000 in
theorem s_CommitteeFaults (A : Option Addr) (c : Nat) (zs : List Int) (w : World) (B : Nat) (h : Ints w B A zs) (hn : zs.length ≤ 1048576) :
    Calls Try.prog 23 #[.slice A zs.length c] w fun e w' => e = .returned (.int .i64 (cFaults zs)) ∧ w = w' := by
  have H := Lib.hid h
  clear h
  rcases hv : validB zs with _ | _
  · go_enter Try.func23, Try.ntmps23
    go_wp2_with (go_at_call 59; refine (s_CommitteeValid _ _ _ _ _ H.out hn).mono ?_; rintro e w' ⟨rfl, rfl⟩)
    go_ret
    exact ⟨ret_int (by simp [cFaults, hv]), rfl⟩
  · have hb := total_bd hv
    have HV := Lib.hid hv
    go_enter Try.func23, Try.ntmps23
    go_wp2_with (first | (go_at_call 59; refine (s_CommitteeValid _ _ _ _ _ H.out hn).mono ?_; rintro e w' ⟨rfl, rfl⟩) | (go_at_call 60; refine (s_l1Total _ _ _ _ _ H.out HV.out).mono ?_; rintro e w' ⟨rfl, rfl⟩))
    go_ret
    exact ⟨ret_int (by simp [cFaults, hv]), rfl⟩
set_option maxHeartbeats 1000000 in
theorem i_CommitteeFaults (A : Option Addr) (c : Nat) (zs : List Int) (w : World) (B : Nat) (h : Ints w B A zs) (hn : zs.length ≤ 1048576) :
    Calls Try.prog 22 #[.slice A zs.length c] w fun e w' => e = .returned (.int .i64 (cFaults zs)) ∧ w = w' := by
  have H := Lib.hid h
  clear h
  rcases hv : validB zs with _ | _
  · go_enter Try.func22, Try.ntmps22
    go_wp2_with (go_at_call 57; refine (i_valid _ _ _ _ _ H.out hn).mono ?_; rintro e w' ⟨rfl, rfl⟩)
    go_ret
    exact ⟨ret_int (by simp [cFaults, hv]), rfl⟩
  · have hb := total_bd hv
    have HV := Lib.hid hv
    go_enter Try.func22, Try.ntmps22
    go_wp2_with (first | (go_at_call 57; refine (i_valid _ _ _ _ _ H.out hn).mono ?_; rintro e w' ⟨rfl, rfl⟩) | (go_at_call 58; refine (i_faults _ _ _ _ _ H.out HV.out).mono ?_; rintro e w' ⟨rfl, rfl⟩))
    go_ret
    exact ⟨ret_int (by simp [cFaults, hv]), rfl⟩
set_option maxHeartbeats 1000000 in
theorem s_CommitteeQuorum (A : Option Addr) (c : Nat) (zs : List Int) (w : World) (B : Nat) (h : Ints w B A zs) (hn : zs.length ≤ 1048576) :
    Calls Try.prog 34 #[.slice A zs.length c] w fun e w' => e = .returned (.int .i64 (cQuorum zs)) ∧ w = w' := by
  have H := Lib.hid h
  clear h
  rcases hv : validB zs with _ | _
  · go_enter Try.func34, Try.ntmps34
    go_wp2_with (go_at_call 59; refine (s_CommitteeValid _ _ _ _ _ H.out hn).mono ?_; rintro e w' ⟨rfl, rfl⟩)
    go_ret
    exact ⟨ret_int (by simp [cQuorum, hv]), rfl⟩
  · have hb := total_bd hv
    have HV := Lib.hid hv
    go_enter Try.func34, Try.ntmps34
    go_wp2_with (first | (go_at_call 59; refine (s_CommitteeValid _ _ _ _ _ H.out hn).mono ?_; rintro e w' ⟨rfl, rfl⟩) | (go_at_call 70; refine (s_l1Quorum _ _ _ _ _ H.out HV.out).mono ?_; rintro e w' ⟨rfl, rfl⟩))
    go_ret
    exact ⟨ret_int (by simp [cQuorum, hv]), rfl⟩
set_option maxHeartbeats 1000000 in
theorem i_CommitteeQuorum (A : Option Addr) (c : Nat) (zs : List Int) (w : World) (B : Nat) (h : Ints w B A zs) (hn : zs.length ≤ 1048576) :
    Calls Try.prog 33 #[.slice A zs.length c] w fun e w' => e = .returned (.int .i64 (cQuorum zs)) ∧ w = w' := by
  have H := Lib.hid h
  clear h
  rcases hv : validB zs with _ | _
  · go_enter Try.func33, Try.ntmps33
    go_wp2_with (go_at_call 57; refine (i_valid _ _ _ _ _ H.out hn).mono ?_; rintro e w' ⟨rfl, rfl⟩)
    go_ret
    exact ⟨ret_int (by simp [cQuorum, hv]), rfl⟩
  · have hb := total_bd hv
    have HV := Lib.hid hv
    go_enter Try.func33, Try.ntmps33
    go_wp2_with (first | (go_at_call 57; refine (i_valid _ _ _ _ _ H.out hn).mono ?_; rintro e w' ⟨rfl, rfl⟩) | (go_at_call 69; refine (i_quorum _ _ _ _ _ H.out HV.out).mono ?_; rintro e w' ⟨rfl, rfl⟩))
    go_ret
    exact ⟨ret_int (by simp [cQuorum, hv]), rfl⟩
set_option maxHeartbeats 1000000 in
theorem s_CommitteeSupport (A : Option Addr) (c : Nat) (zs : List Int) (w : World) (B : Nat) (h : Ints w B A zs) (hn : zs.length ≤ 1048576) :
    Calls Try.prog 37 #[.slice A zs.length c] w fun e w' => e = .returned (.int .i64 (cSupport zs)) ∧ w = w' := by
  have H := Lib.hid h
  clear h
  rcases hv : validB zs with _ | _
  · go_enter Try.func37, Try.ntmps37
    go_wp2_with (go_at_call 59; refine (s_CommitteeValid _ _ _ _ _ H.out hn).mono ?_; rintro e w' ⟨rfl, rfl⟩)
    go_ret
    exact ⟨ret_int (by simp [cSupport, hv]), rfl⟩
  · have hb := total_bd hv
    have HV := Lib.hid hv
    go_enter Try.func37, Try.ntmps37
    go_wp2_with (first | (go_at_call 59; refine (s_CommitteeValid _ _ _ _ _ H.out hn).mono ?_; rintro e w' ⟨rfl, rfl⟩) | (go_at_call 72; refine (s_l1Support _ _ _ _ _ H.out HV.out).mono ?_; rintro e w' ⟨rfl, rfl⟩))
    go_ret
    exact ⟨ret_int (by simp [cSupport, hv]), rfl⟩
set_option maxHeartbeats 1000000 in
theorem i_CommitteeSupport (A : Option Addr) (c : Nat) (zs : List Int) (w : World) (B : Nat) (h : Ints w B A zs) (hn : zs.length ≤ 1048576) :
    Calls Try.prog 36 #[.slice A zs.length c] w fun e w' => e = .returned (.int .i64 (cSupport zs)) ∧ w = w' := by
  have H := Lib.hid h
  clear h
  rcases hv : validB zs with _ | _
  · go_enter Try.func36, Try.ntmps36
    go_wp2_with (go_at_call 57; refine (i_valid _ _ _ _ _ H.out hn).mono ?_; rintro e w' ⟨rfl, rfl⟩)
    go_ret
    exact ⟨ret_int (by simp [cSupport, hv]), rfl⟩
  · have hb := total_bd hv
    have HV := Lib.hid hv
    go_enter Try.func36, Try.ntmps36
    go_wp2_with (first | (go_at_call 57; refine (i_valid _ _ _ _ _ H.out hn).mono ?_; rintro e w' ⟨rfl, rfl⟩) | (go_at_call 71; refine (i_support _ _ _ _ _ H.out HV.out).mono ?_; rintro e w' ⟨rfl, rfl⟩))
    go_ret
    exact ⟨ret_int (by simp [cSupport, hv]), rfl⟩
end Go.Proofs.Ytcaephelagjodaa
