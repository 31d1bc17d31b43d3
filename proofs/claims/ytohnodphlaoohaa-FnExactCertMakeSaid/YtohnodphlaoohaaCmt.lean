/- The committee's functions, of the program and of the reference: each by its contract. -/
import Derived.Test.YtohnodphlaoohaaBase
namespace Go.Proofs.Ytohnodphlaoohaa
open Go.RowKit
set_option linter.unusedVariables false

set_option maxHeartbeats 1000000 in
theorem s_CommitteeValid (A : Option Addr) (c : Nat) (zs : List Int) (w : World) (B : Nat) (h : Ints w B A zs) (hn : zs.length ≤ 1048576) :
    Calls Try.prog 102 #[.slice A zs.length c] w fun e w' => e = .returned (.bool (validB zs)) ∧ w = w' := by
  go_enter Try.func102, Try.ntmps102
  go_wp2
  go_loop [3] (fun i => ∃ k : Nat, k ≤ zs.length ∧ i = .int .i64 k ∧ allTo (okW zs) k = true) (fun i => zs.length - (intOf i).toNat)
  case atStart => exact ⟨0, Nat.zero_le _, rfl, rfl⟩
  case round =>
    obtain ⟨k, hk, rfl, hs⟩ := hrel
    have HS := Lib.hid hs
    clear hs
    by_cases hlt : k < zs.length
    · obtain ⟨b, off, rfl, hbb, hc⟩ := h.at_ hlt
      have hck := hc k hlt
      clear hc h
      rcases hv : inB (nth zs k) 1 9 with _ | _
      · go_wp2_with (go_at_call 79; refine (l6In_any _ _ _ _).mono ?_; rintro e w' ⟨rfl, rfl⟩)
        go_ret
        exact ⟨ret_bool (by unfold validB; rw [allTo_bad hlt hv]; rfl), rfl⟩
      · go_wp2_with (go_at_call 79; refine (l6In_any _ _ _ _).mono ?_; rintro e w' ⟨rfl, rfl⟩)
        go_round
        case rel => exact ⟨k + 1, by omega, by go_num, allTo_step HS.out hv⟩
        case measure => simp [intOf]; omega
    · clear h
      go_wp2_with (go_at_call 79; refine (l6In_any _ _ _ _).mono ?_; rintro e w' ⟨rfl, rfl⟩)
      go_ret
      exact ⟨ret_bool (by have : k = zs.length := by omega
                          subst this; unfold validB; rw [HS.out]; rfl), rfl⟩

set_option maxHeartbeats 1000000 in
theorem i_valid (A : Option Addr) (c : Nat) (zs : List Int) (w : World) (B : Nat) (h : Ints w B A zs) (hn : zs.length ≤ 1048576) :
    Calls Try.prog 104 #[.slice A zs.length c] w fun e w' => e = .returned (.bool (validB zs)) ∧ w = w' := by
  by_cases h1 : (zs.length : Int) < 1
  · go_enter Try.func104, Try.ntmps104
    go_wp2
    go_ret
    exact ⟨ret_bool (by unfold validB; rw [inB_no.2 (by omega)]; simp), rfl⟩
  by_cases h7 : (7 : Int) < zs.length
  · go_enter Try.func104, Try.ntmps104
    go_wp2
    go_ret
    exact ⟨ret_bool (by unfold validB; rw [inB_no.2 (by omega)]; simp), rfl⟩
  go_enter Try.func104, Try.ntmps104
  go_wp2
  go_loop [15] (fun i => ∃ k : Nat, k ≤ zs.length ∧ i = .int .i64 k ∧ allTo (okW zs) k = true) (fun i => zs.length - (intOf i).toNat)
  case atStart => exact ⟨0, Nat.zero_le _, rfl, rfl⟩
  case round =>
    obtain ⟨k, hk, rfl, hs⟩ := hrel
    have HS := Lib.hid hs
    clear hs
    by_cases hlt : k < zs.length
    · obtain ⟨b, off, rfl, hbb, hc⟩ := h.at_ hlt
      have hck := hc k hlt
      clear hc h
      by_cases g1 : nth zs k < 1
      · go_wp2
        go_ret
        exact ⟨ret_bool (by unfold validB; rw [allTo_bad hlt (inB_no.2 (by omega))]; rfl), rfl⟩
      by_cases g9 : 9 < nth zs k
      · go_wp2
        go_ret
        exact ⟨ret_bool (by unfold validB; rw [allTo_bad hlt (inB_no.2 (by omega))]; rfl), rfl⟩
      go_wp2
      go_round
      case rel => exact ⟨k + 1, by omega, by go_num, allTo_step HS.out (inB_iff.2 (by omega))⟩
      case measure => simp [intOf]; omega
    · clear h
      go_wp2
      go_ret
      exact ⟨ret_bool (by have : k = zs.length := by omega
                          subst this; unfold validB; rw [HS.out, inB_iff.2 (by omega)]; rfl), rfl⟩

set_option maxHeartbeats 1000000 in
theorem i_CommitteeValid (A : Option Addr) (c : Nat) (zs : List Int) (w : World) (B : Nat) (h : Ints w B A zs) (hn : zs.length ≤ 1048576) :
    Calls Try.prog 55 #[.slice A zs.length c] w fun e w' => e = .returned (.bool (validB zs)) ∧ w = w' := by
  have H := Lib.hid h
  clear h
  go_enter Try.func55, Try.ntmps55
  go_wp2_with (go_at_call 104; refine (i_valid _ _ _ _ _ H.out hn).mono ?_; rintro e w' ⟨rfl, rfl⟩)
  go_ret
  exact ⟨rfl, rfl⟩

set_option maxHeartbeats 1000000 in
theorem s_l1Total (A : Option Addr) (c : Nat) (zs : List Int) (w : World) (B : Nat) (h : Ints w B A zs) (hv : validB zs = true) :
    Calls Try.prog 106 #[.slice A zs.length c] w fun e w' => e = .returned (.int .i64 (total zs)) ∧ w = w' := by
  have hlen := validB_len hv
  have HV := Lib.hid hv
  clear hv
  go_enter Try.func106, Try.ntmps106
  go_wp2
  go_loop [3, 4] (fun s i => ∃ k : Nat, k ≤ zs.length ∧ i = .int .i64 k ∧ s = .int .i64 (sumTo (nth zs) k)) (fun _ i => zs.length - (intOf i).toNat)
  case atStart => exact ⟨0, Nat.zero_le _, rfl, rfl⟩
  case round =>
    obtain ⟨k, hk, rfl, rfl⟩ := hrel
    have hs := total_to HV.out hk
    by_cases hlt : k < zs.length
    · obtain ⟨b, off, rfl, hbb, hc⟩ := h.at_ hlt
      have hck := hc k hlt
      have he := validB_at HV.out hlt
      clear hc h
      go_wp2
      go_round
      case rel => exact ⟨k + 1, by omega, by go_num, rfl⟩
      case measure => simp [intOf]; omega
    · clear h
      go_wp2
      go_ret
      exact ⟨ret_int (by have : k = zs.length := by omega
                         subst this; rfl), rfl⟩
set_option maxHeartbeats 1000000 in
theorem i_total (A : Option Addr) (c : Nat) (zs : List Int) (w : World) (B : Nat) (h : Ints w B A zs) (hv : validB zs = true) :
    Calls Try.prog 123 #[.slice A zs.length c] w fun e w' => e = .returned (.int .i64 (total zs)) ∧ w = w' := by
  have hlen := validB_len hv
  have HV := Lib.hid hv
  clear hv
  go_enter Try.func123, Try.ntmps123
  go_wp2
  go_loop [3, 8] (fun s i => ∃ k : Nat, k ≤ zs.length ∧ i = .int .i64 k ∧ s = .int .i64 (sumTo (nth zs) k)) (fun _ i => zs.length - (intOf i).toNat)
  case atStart => exact ⟨0, Nat.zero_le _, rfl, rfl⟩
  case round =>
    obtain ⟨k, hk, rfl, rfl⟩ := hrel
    have hs := total_to HV.out hk
    by_cases hlt : k < zs.length
    · obtain ⟨b, off, rfl, hbb, hc⟩ := h.at_ hlt
      have hck := hc k hlt
      have he := validB_at HV.out hlt
      clear hc h
      go_wp2
      go_round
      case rel => exact ⟨k + 1, by omega, by go_num, rfl⟩
      case measure => simp [intOf]; omega
    · clear h
      go_wp2
      go_ret
      exact ⟨ret_int (by have : k = zs.length := by omega
                         subst this; rfl), rfl⟩
set_option maxHeartbeats 1000000 in
theorem i_quorum (A : Option Addr) (c : Nat) (zs : List Int) (w : World) (B : Nat) (h : Ints w B A zs) (hv : validB zs = true) :
    Calls Try.prog 110 #[.slice A zs.length c] w fun e w' => e = .returned (.int .i64 (quorum zs)) ∧ w = w' := by
  have hb := total_bd hv
  have HV := Lib.hid hv
  have H := Lib.hid h
  clear hv h
  go_enter Try.func110, Try.ntmps110
  go_wp2_with (go_at_call 123; refine (i_total _ _ _ _ _ H.out HV.out).mono ?_; rintro e w' ⟨rfl, rfl⟩)
  go_ret
  exact ⟨rfl, rfl⟩
set_option maxHeartbeats 1000000 in
theorem s_l1Quorum (A : Option Addr) (c : Nat) (zs : List Int) (w : World) (B : Nat) (h : Ints w B A zs) (hv : validB zs = true) :
    Calls Try.prog 60 #[.slice A zs.length c] w fun e w' => e = .returned (.int .i64 (quorum zs)) ∧ w = w' := by
  have hb := total_bd hv
  have HV := Lib.hid hv
  have H := Lib.hid h
  clear hv h
  go_enter Try.func60, Try.ntmps60
  go_wp2_with (go_at_call 106; refine (s_l1Total _ _ _ _ _ H.out HV.out).mono ?_; rintro e w' ⟨rfl, rfl⟩)
  go_ret
  exact ⟨rfl, rfl⟩
set_option maxHeartbeats 1000000 in
theorem i_CommitteeQuorum (A : Option Addr) (c : Nat) (zs : List Int) (w : World) (B : Nat) (h : Ints w B A zs) (hn : zs.length ≤ 1048576) :
    Calls Try.prog 65 #[.slice A zs.length c] w fun e w' => e = .returned (.int .i64 (cQuorum zs)) ∧ w = w' := by
  have H := Lib.hid h
  clear h
  rcases hv : validB zs with _ | _
  · go_enter Try.func65, Try.ntmps65
    go_wp2_with (go_at_call 104; refine (i_valid _ _ _ _ _ H.out hn).mono ?_; rintro e w' ⟨rfl, rfl⟩)
    go_ret
    exact ⟨ret_int (by simp [cQuorum, hv]), rfl⟩
  · have hb := total_bd hv
    have HV := Lib.hid hv
    go_enter Try.func65, Try.ntmps65
    go_wp2_with (first | (go_at_call 104; refine (i_valid _ _ _ _ _ H.out hn).mono ?_; rintro e w' ⟨rfl, rfl⟩) | (go_at_call 110; refine (i_quorum _ _ _ _ _ H.out HV.out).mono ?_; rintro e w' ⟨rfl, rfl⟩))
    go_ret
    exact ⟨ret_int (by simp [cQuorum, hv]), rfl⟩
end Go.Proofs.Ytohnodphlaoohaa
