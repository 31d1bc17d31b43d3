/- The committee's functions, of the program and of the reference: each by its contract. -/
import Derived.Test.YtejkcollhgekiaaBase
namespace Go.Proofs.Ytejkcollhgekiaa
open Go.RowKit
set_option linter.unusedVariables false

set_option maxHeartbeats 1000000 in
theorem s_CommitteeValid (A : Option Addr) (c : Nat) (zs : List Int) (w : World) (B : Nat) (h : Ints w B A zs) (hn : zs.length ≤ 1048576) :
    Calls Try.prog 18 #[.slice A zs.length c] w fun e w' => e = .returned (.bool (validB zs)) ∧ w = w' := by
  go_enter Try.func18, Try.ntmps18
  go_wp2
  go_loop [3] (fun i => ∃ k : Nat, k ≤ zs.length ∧ i = .int .i64 k ∧ allTo (okW zs) k = true) (fun i => zs.length - (intOf i).toNat)
  case atStart => exact ⟨0, Nat.zero_le _, rfl, rfl⟩
  case round =>
    obtain ⟨k, hk, rfl, hs⟩ := hrel
    have HS := Lib.hid hs
    clear hs
    by_cases hlt : k < zs.length
    · obtain ⟨b, off, rfl, hbb, hc⟩ := h.at_ hlt
      have hck := hc k hlt
      clear hc h
      rcases hv : inB (nth zs k) 1 9 with _ | _
      · go_wp2_with (go_at_call 42; refine (l6In_any _ _ _ _).mono ?_; rintro e w' ⟨rfl, rfl⟩)
        go_ret
        exact ⟨ret_bool (by unfold validB; rw [allTo_bad hlt hv]; rfl), rfl⟩
      · go_wp2_with (go_at_call 42; refine (l6In_any _ _ _ _).mono ?_; rintro e w' ⟨rfl, rfl⟩)
        go_round
        case rel => exact ⟨k + 1, by omega, by go_num, allTo_step HS.out hv⟩
        case measure => simp [intOf]; omega
    · clear h
      go_wp2_with (go_at_call 42; refine (l6In_any _ _ _ _).mono ?_; rintro e w' ⟨rfl, rfl⟩)
      go_ret
      exact ⟨ret_bool (by have : k = zs.length := by omega
                          subst this; unfold validB; rw [HS.out]; rfl), rfl⟩

set_option maxHeartbeats 1000000 in
theorem i_valid (A : Option Addr) (c : Nat) (zs : List Int) (w : World) (B : Nat) (h : Ints w B A zs) (hn : zs.length ≤ 1048576) :
    Calls Try.prog 43 #[.slice A zs.length c] w fun e w' => e = .returned (.bool (validB zs)) ∧ w = w' := by
  by_cases h1 : (zs.length : Int) < 1
  · go_enter Try.func43, Try.ntmps43
    go_wp2
    go_ret
    exact ⟨ret_bool (by unfold validB; rw [inB_no.2 (by omega)]; simp), rfl⟩
  by_cases h7 : (7 : Int) < zs.length
  · go_enter Try.func43, Try.ntmps43
    go_wp2
    go_ret
    exact ⟨ret_bool (by unfold validB; rw [inB_no.2 (by omega)]; simp), rfl⟩
  go_enter Try.func43, Try.ntmps43
  go_wp2
  go_loop [15] (fun i => ∃ k : Nat, k ≤ zs.length ∧ i = .int .i64 k ∧ allTo (okW zs) k = true) (fun i => zs.length - (intOf i).toNat)
  case atStart => exact ⟨0, Nat.zero_le _, rfl, rfl⟩
  case round =>
    obtain ⟨k, hk, rfl, hs⟩ := hrel
    have HS := Lib.hid hs
    clear hs
    by_cases hlt : k < zs.length
    · obtain ⟨b, off, rfl, hbb, hc⟩ := h.at_ hlt
      have hck := hc k hlt
      clear hc h
      by_cases g1 : nth zs k < 1
      · go_wp2
        go_ret
        exact ⟨ret_bool (by unfold validB; rw [allTo_bad hlt (inB_no.2 (by omega))]; rfl), rfl⟩
      by_cases g9 : 9 < nth zs k
      · go_wp2
        go_ret
        exact ⟨ret_bool (by unfold validB; rw [allTo_bad hlt (inB_no.2 (by omega))]; rfl), rfl⟩
      go_wp2
      go_round
      case rel => exact ⟨k + 1, by omega, by go_num, allTo_step HS.out (inB_iff.2 (by omega))⟩
      case measure => simp [intOf]; omega
    · clear h
      go_wp2
      go_ret
      exact ⟨ret_bool (by have : k = zs.length := by omega
                          subst this; unfold validB; rw [HS.out, inB_iff.2 (by omega)]; rfl), rfl⟩

set_option maxHeartbeats 1000000 in
theorem i_CommitteeValid (A : Option Addr) (c : Nat) (zs : List Int) (w : World) (B : Nat) (h : Ints w B A zs) (hn : zs.length ≤ 1048576) :
    Calls Try.prog 20 #[.slice A zs.length c] w fun e w' => e = .returned (.bool (validB zs)) ∧ w = w' := by
  have H := Lib.hid h
  clear h
  go_enter Try.func20, Try.ntmps20
  go_wp2_with (go_at_call 43; refine (i_valid _ _ _ _ _ H.out hn).mono ?_; rintro e w' ⟨rfl, rfl⟩)
  go_ret
  exact ⟨rfl, rfl⟩
end Go.Proofs.Ytejkcollhgekiaa
