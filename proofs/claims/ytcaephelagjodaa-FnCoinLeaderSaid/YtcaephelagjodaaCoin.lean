/- The coin's leader: both functions by their contracts. -/
import Derived.Test.YtcaephelagjodaaCmt3
namespace Go.Proofs.Ytcaephelagjodaa
open Go.RowKit
set_option linter.unusedVariables false

set_option maxHeartbeats 1000000 in
theorem i_isSymbol (v : Int) (w : World) :
    Calls Try.prog 73 #[.int .i64 v] w fun e w' => e = .returned (.bool (inB v 0 250)) ∧ w = w' := by
  by_cases h0 : 0 ≤ v
  · by_cases h1 : v < 251
    · go_enter Try.func73, Try.ntmps73
      go_wp2
      go_ret
      exact ⟨ret_bool (by rw [inB_iff.2 (by omega)]), rfl⟩
    · go_enter Try.func73, Try.ntmps73
      go_wp2
      go_ret
      exact ⟨ret_bool (by rw [inB_no.2 (by omega)]), rfl⟩
  · go_enter Try.func73, Try.ntmps73
    go_wp2
    go_ret
    exact ⟨ret_bool (by rw [inB_no.2 (by omega)]), rfl⟩
set_option maxHeartbeats 2000000 in
theorem s_CoinLeader (A : Option Addr) (c : Nat) (zs : List Int) (v : Int) (w : World) (B : Nat) (h : Ints w B A zs) (hn : zs.length ≤ 1048576) :
    Calls Try.prog 40 #[.slice A zs.length c, .int .i64 v] w fun e w' => e = .returned (.int .i64 (coin zs v)) ∧ w = w' := by
  have H := Lib.hid h
  clear h
  rcases hv : validB zs with _ | _
  · go_enter Try.func40, Try.ntmps40
    go_wp2_with (go_at_call 59; refine (s_CommitteeValid _ _ _ _ _ H.out hn).mono ?_; rintro e w' ⟨rfl, rfl⟩)
    go_ret
    exact ⟨ret_int (by simp [coin, hv]), rfl⟩
  rcases hs : inB v 0 250 with _ | _
  · go_enter Try.func40, Try.ntmps40
    go_wp2_with (first | (go_at_call 59; refine (s_CommitteeValid _ _ _ _ _ H.out hn).mono ?_; rintro e w' ⟨rfl, rfl⟩) | (go_at_call 74; refine (l6In_any _ _ _ _).mono ?_; rintro e w' ⟨rfl, rfl⟩))
    go_ret
    exact ⟨ret_int (by simp [coin, hs]), rfl⟩
  have hb := total_bd hv
  have hvb := inB_iff.1 hs
  have HV := Lib.hid hv
  have hmod : 0 ≤ v % total zs ∧ v % total zs < total zs := ⟨Int.emod_nonneg _ (by omega), Int.emod_lt_of_pos _ (by omega)⟩
  have hfin : coin zs v = (leadOf zs (v % total zs) : Int) := by simp [coin, hv, hs]
  have HF := Lib.hid hfin
  clear hfin
  have hne : (total zs == 0) = false := by simp; omega
  go_enter Try.func40, Try.ntmps40
  go_wp2_with (first | (go_at_call 59; refine (s_CommitteeValid _ _ _ _ _ H.out hn).mono ?_; rintro e w' ⟨rfl, rfl⟩) | (go_at_call 74; refine (l6In_any _ _ _ _).mono ?_; rintro e w' ⟨rfl, rfl⟩) | (go_at_call 60; refine (s_l1Total _ _ _ _ _ H.out HV.out).mono ?_; rintro e w' ⟨rfl, rfl⟩))
  clear hv hs hne
  go_loop [5, 6] (fun n i => ∃ k : Nat, k < zs.length ∧ i = .int .i64 k ∧ n = .int .i64 (v % total zs - sumTo (nth zs) k) ∧ 0 ≤ v % total zs - sumTo (nth zs) k ∧ ∀ j, j < k → sumTo (nth zs) (j + 1) ≤ v % total zs) (fun _ i => zs.length - (intOf i).toNat)
  case atStart => exact ⟨0, by have := validB_len HV.out; omega, rfl, by simp [sumTo], by simp [sumTo]; omega, fun j hj => absurd hj (by omega)⟩
  case round =>
    obtain ⟨k, hk, rfl, rfl, h0, hs⟩ := hrel
    obtain ⟨b, off, rfl, hbb, hc⟩ := H.out.at_ hk
    have hck := hc k hk
    have he := validB_at HV.out hk
    have hst := total_to HV.out (k := k) (by omega)
    have HS := Lib.hid hs
    clear hc hs
    have hlen := validB_len HV.out
    by_cases hge : nth zs k ≤ v % total zs - sumTo (nth zs) k
    · go_wp2
      go_round
      case rel =>
        have hlt : k + 1 < zs.length := by
          rcases Nat.lt_or_ge (k + 1) zs.length with hl | hl
          · exact hl
          · exfalso
            have e : k + 1 = zs.length := by omega
            have h1 : sumTo (nth zs) (k + 1) = total zs := by rw [e]; rfl
            have h2 : sumTo (nth zs) (k + 1) = sumTo (nth zs) k + nth zs k := rfl
            omega
        have h2 : sumTo (nth zs) (k + 1) = sumTo (nth zs) k + nth zs k := rfl
        exact ⟨k + 1, hlt, by go_num, by rw [h2]; exact congrArg _ (by omega), by omega, fun j hj => by
          by_cases e : j = k
          · subst e; omega
          · exact HS.out j (by omega)⟩
      case measure => simp [intOf]; omega
    · go_wp2
      go_ret
      exact ⟨ret_int (by
        rw [HF.out]
        have h2 : sumTo (nth zs) (k + 1) = sumTo (nth zs) k + nth zs k := rfl
        rw [leadOf_eq HS.out (by omega) hk]), rfl⟩
set_option maxHeartbeats 2000000 in
theorem i_CoinLeader (A : Option Addr) (c : Nat) (zs : List Int) (v : Int) (w : World) (B : Nat) (h : Ints w B A zs) (hn : zs.length ≤ 1048576) :
    Calls Try.prog 39 #[.slice A zs.length c, .int .i64 v] w fun e w' => e = .returned (.int .i64 (coin zs v)) ∧ w = w' := by
  have H := Lib.hid h
  clear h
  rcases hv : validB zs with _ | _
  · go_enter Try.func39, Try.ntmps39
    go_wp2_with (go_at_call 28; refine (i_CommitteeValid _ _ _ _ _ H.out hn).mono ?_; rintro e w' ⟨rfl, rfl⟩)
    go_ret
    exact ⟨ret_int (by simp [coin, hv]), rfl⟩
  rcases hs : inB v 0 250 with _ | _
  · go_enter Try.func39, Try.ntmps39
    go_wp2_with (first | (go_at_call 28; refine (i_CommitteeValid _ _ _ _ _ H.out hn).mono ?_; rintro e w' ⟨rfl, rfl⟩) | (go_at_call 73; refine (i_isSymbol _ _).mono ?_; rintro e w' ⟨rfl, rfl⟩))
    go_ret
    exact ⟨ret_int (by simp [coin, hs]), rfl⟩
  have hb := total_bd hv
  have hvb := inB_iff.1 hs
  have HV := Lib.hid hv
  have hmod : 0 ≤ v % total zs ∧ v % total zs < total zs := ⟨Int.emod_nonneg _ (by omega), Int.emod_lt_of_pos _ (by omega)⟩
  have hfin : coin zs v = (leadOf zs (v % total zs) : Int) := by simp [coin, hv, hs]
  have hct : cTotal zs = total zs := by simp [cTotal, hv]
  have HF := Lib.hid hfin
  have HC := Lib.hid hct
  clear hfin hct
  have hne : (total zs == 0) = false := by simp; omega
  go_enter Try.func39, Try.ntmps39
  go_wp2_with (first | (go_at_call 28; refine (i_CommitteeValid _ _ _ _ _ H.out hn).mono ?_; rintro e w' ⟨rfl, rfl⟩) | (go_at_call 73; refine (i_isSymbol _ _).mono ?_; rintro e w' ⟨rfl, rfl⟩) | (go_at_call 24; refine (i_CommitteeTotal _ _ _ _ _ H.out hn).mono ?_; rw [HC.out]; rintro e w' ⟨rfl, rfl⟩))
  clear hv hs hne
  go_loop [6, 23] (fun n i => ∃ k : Nat, k ≤ zs.length ∧ i = .int .i64 k ∧ n = .int .i64 (sumTo (nth zs) k) ∧ ∀ j, j < k → sumTo (nth zs) (j + 1) ≤ v % total zs) (fun _ i => zs.length - (intOf i).toNat)
  case atStart => exact ⟨0, Nat.zero_le _, rfl, rfl, fun j hj => absurd hj (by omega)⟩
  case round =>
    obtain ⟨k, hk, rfl, rfl, hs⟩ := hrel
    have HS := Lib.hid hs
    clear hs
    have hst := total_to HV.out hk
    have hlen := validB_len HV.out
    by_cases hlt : k < zs.length
    · obtain ⟨b, off, rfl, hbb, hc⟩ := H.out.at_ hlt
      have hck := hc k hlt
      have he := validB_at HV.out hlt
      clear hc
      by_cases hge : v % total zs < sumTo (nth zs) k + nth zs k
      · go_wp2
        go_ret
        exact ⟨ret_int (by
          rw [HF.out]
          have h2 : sumTo (nth zs) (k + 1) = sumTo (nth zs) k + nth zs k := rfl
          rw [leadOf_eq HS.out (by omega) hlt]), rfl⟩
      · go_wp2
        go_round
        case rel => exact ⟨k + 1, by omega, by go_num, rfl, fun j hj => by
          have h2 : sumTo (nth zs) (k + 1) = sumTo (nth zs) k + nth zs k := rfl
          by_cases e : j = k
          · subst e; omega
          · exact HS.out j (by omega)⟩
        case measure => simp [intOf]; omega
    · exfalso
      have e : k = zs.length := by omega
      have h1 := HS.out (k - 1) (by omega)
      have h2 : sumTo (nth zs) (k - 1 + 1) = total zs := by rw [show k - 1 + 1 = zs.length by omega]; rfl
      omega
end Go.Proofs.Ytcaephelagjodaa
