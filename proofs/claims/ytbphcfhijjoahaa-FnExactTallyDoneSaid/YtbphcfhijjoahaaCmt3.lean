/- Sets of members and their weights, the leaders, the coin's leader: each function by its contract. -/
import Derived.Test.YtbphcfhijjoahaaCmt2
namespace Go.Proofs.Ytbphcfhijjoahaa
open Go.RowKit
set_option linter.unusedVariables false

set_option maxHeartbeats 1000000 in
theorem i_MembersValid (A A' : Option Addr) (c c' : Nat) (zs ms : List Int) (w : World) (B : Nat) (h : Ints w B A zs) (h' : Ints w B A' ms) (hn : zs.length ≤ 1048576) (hm : ms.length ≤ 1048576) :
    Calls Try.prog 84 #[.slice A zs.length c, .slice A' ms.length c'] w fun e w' => e = .returned (.bool (membersB zs ms)) ∧ w = w' := by
  have H := Lib.hid h
  have H' := Lib.hid h'
  clear h h'
  rcases hv : validB zs with _ | _
  · go_enter Try.func84, Try.ntmps84
    go_wp2_with (go_at_call 100; refine (i_valid _ _ _ _ _ H.out hn).mono ?_; rintro e w' ⟨rfl, rfl⟩)
    go_ret
    exact ⟨ret_bool (by simp [membersB, hv]), rfl⟩
  · go_enter Try.func84, Try.ntmps84
    go_wp2_with (first | (go_at_call 100; refine (i_valid _ _ _ _ _ H.out hn).mono ?_; rintro e w' ⟨rfl, rfl⟩) | (go_at_call 110; refine (i_holds _ _ _ _ _ _ _ _ H'.out hn hm).mono ?_; rintro e w' ⟨rfl, rfl⟩))
    go_ret
    exact ⟨ret_bool (by simp [membersB, hv]), rfl⟩
set_option maxHeartbeats 1000000 in
theorem s_l1Weight (A A' : Option Addr) (c c' : Nat) (zs ms : List Int) (w : World) (B : Nat) (h : Ints w B A zs) (h' : Ints w B A' ms) (hv : validB zs = true) (hmb : memB zs.length ms = true) (hm : ms.length ≤ 1048576) :
    Calls Try.prog 55 #[.slice A zs.length c, .slice A' ms.length c'] w fun e w' => e = .returned (.int .i64 (weight zs ms)) ∧ w = w' := by
  have hlen := validB_len hv
  have HV := Lib.hid hv
  have HM := Lib.hid hmb
  clear hv hmb
  go_enter Try.func55, Try.ntmps55
  go_wp2
  go_loop [5, 6] (fun s i => ∃ k : Nat, k ≤ ms.length ∧ i = .int .i64 k ∧ s = .int .i64 (sumTo (weightAt zs ms) k)) (fun _ i => ms.length - (intOf i).toNat)
  case atStart => exact ⟨0, Nat.zero_le _, rfl, rfl⟩
  case round =>
    obtain ⟨k, hk, rfl, rfl⟩ := hrel
    have hs := weight_to HV.out HM.out hk
    by_cases hlt : k < ms.length
    · obtain ⟨b, off, rfl, hbb, hc⟩ := h'.at_ hlt
      have hck := hc k hlt
      have hin := memB_in HM.out hlt
      obtain ⟨b', off', rfl, hbb', hc'⟩ := h.at_ (k := (nth ms k).toNat) (by omega)
      have hcw := hc' (nth ms k).toNat (by omega)
      have he := validB_at HV.out (j := (nth ms k).toNat) (by omega)
      clear hc hc' h h'
      go_wp2
      go_round
      case rel => exact ⟨k + 1, by omega, by go_num, rfl⟩
      case measure => simp [intOf]; omega
    · clear h h'
      go_wp2
      go_ret
      exact ⟨ret_int (by have : k = ms.length := by omega
                         subst this; rfl), rfl⟩
set_option maxHeartbeats 1000000 in
theorem i_weigh (A A' : Option Addr) (c c' : Nat) (zs ms : List Int) (w : World) (B : Nat) (h : Ints w B A zs) (h' : Ints w B A' ms) (hv : validB zs = true) (hmb : memB zs.length ms = true) (hm : ms.length ≤ 1048576) :
    Calls Try.prog 99 #[.slice A zs.length c, .slice A' ms.length c'] w fun e w' => e = .returned (.int .i64 (weight zs ms)) ∧ w = w' := by
  have hlen := validB_len hv
  have HV := Lib.hid hv
  have HM := Lib.hid hmb
  clear hv hmb
  go_enter Try.func99, Try.ntmps99
  go_wp2
  go_loop [5, 10] (fun s i => ∃ k : Nat, k ≤ ms.length ∧ i = .int .i64 k ∧ s = .int .i64 (sumTo (weightAt zs ms) k)) (fun _ i => ms.length - (intOf i).toNat)
  case atStart => exact ⟨0, Nat.zero_le _, rfl, rfl⟩
  case round =>
    obtain ⟨k, hk, rfl, rfl⟩ := hrel
    have hs := weight_to HV.out HM.out hk
    by_cases hlt : k < ms.length
    · obtain ⟨b, off, rfl, hbb, hc⟩ := h'.at_ hlt
      have hck := hc k hlt
      have hin := memB_in HM.out hlt
      obtain ⟨b', off', rfl, hbb', hc'⟩ := h.at_ (k := (nth ms k).toNat) (by omega)
      have hcw := hc' (nth ms k).toNat (by omega)
      have he := validB_at HV.out (j := (nth ms k).toNat) (by omega)
      clear hc hc' h h'
      go_wp2
      go_round
      case rel => exact ⟨k + 1, by omega, by go_num, rfl⟩
      case measure => simp [intOf]; omega
    · clear h h'
      go_wp2
      go_ret
      exact ⟨ret_int (by have : k = ms.length := by omega
                         subst this; rfl), rfl⟩
set_option maxHeartbeats 1000000 in
theorem i_MembersWeight (A A' : Option Addr) (c c' : Nat) (zs ms : List Int) (w : World) (B : Nat) (h : Ints w B A zs) (h' : Ints w B A' ms) (hn : zs.length ≤ 1048576) (hm : ms.length ≤ 1048576) :
    Calls Try.prog 60 #[.slice A zs.length c, .slice A' ms.length c'] w fun e w' => e = .returned (.int .i64 (cWeight zs ms)) ∧ w = w' := by
  have H := Lib.hid h
  have H' := Lib.hid h'
  clear h h'
  rcases hv : membersB zs ms with _ | _
  · go_enter Try.func60, Try.ntmps60
    go_wp2_with (go_at_call 84; refine (i_MembersValid _ _ _ _ _ _ _ _ H.out H'.out hn hm).mono ?_; rintro e w' ⟨rfl, rfl⟩)
    go_ret
    exact ⟨ret_int (by simp [cWeight, hv]), rfl⟩
  · have hv2 := hv
    simp only [membersB, Bool.and_eq_true] at hv2
    have HV := Lib.hid hv2
    clear hv2
    go_enter Try.func60, Try.ntmps60
    go_wp2_with (first | (go_at_call 84; refine (i_MembersValid _ _ _ _ _ _ _ _ H.out H'.out hn hm).mono ?_; rintro e w' ⟨rfl, rfl⟩) | (go_at_call 99; refine (i_weigh _ _ _ _ _ _ _ _ H.out H'.out HV.out.1 HV.out.2 hm).mono ?_; rintro e w' ⟨rfl, rfl⟩))
    go_ret
    exact ⟨ret_int (by simp [cWeight, hv]), rfl⟩
end Go.Proofs.Ytbphcfhijjoahaa
