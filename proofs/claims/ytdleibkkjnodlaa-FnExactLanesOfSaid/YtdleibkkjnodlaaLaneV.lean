/- Valid transactions and lists of them: both sides by contract. -/
import Derived.Test.YtdleibkkjnodlaaLstTxn
import Derived.Test.YtdleibkkjnodlaaTxn
namespace Go.Proofs.Ytdleibkkjnodlaa
open Go.RowKit
set_option linter.unusedVariables false

def txnB (f t s e : Int) : Bool := inB f 0 5 && (inB t 0 5 && ((f != t) && (inB s 1 99 && inB e 0 9)))
def txnAt (bs : List VTxn) (j : Nat) : Bool := txnB (nthTxn bs j).f (nthTxn bs j).t (nthTxn bs j).s (nthTxn bs j).e
def txnsB (bs : List VTxn) : Bool := allTo (txnAt bs) bs.length && decide (bs.length ≤ 16)
set_option maxHeartbeats 1000000 in
theorem i_isAccount (d : Int) (w : World) : Calls Try.prog 83 #[.int .i64 d] w fun e w' => e = .returned (.bool (inB d 0 5)) ∧ w = w' := by
  by_cases h0 : 0 ≤ d
  · by_cases h1 : d < 6
    · go_enter Try.func83, Try.ntmps83
      go_wp2
      go_ret
      exact ⟨ret_bool (by rw [inB_iff.2 (by omega)]), rfl⟩
    · go_enter Try.func83, Try.ntmps83
      go_wp2
      go_ret
      exact ⟨ret_bool (by rw [inB_no.2 (by omega)]), rfl⟩
  · go_enter Try.func83, Try.ntmps83
    go_wp2
    go_ret
    exact ⟨ret_bool (by rw [inB_no.2 (by omega)]), rfl⟩
set_option maxHeartbeats 4000000 in
theorem s_TxnValid (f t s x : Int) (w : World) :
    Calls Try.prog 71 #[.agg #[.int .i64 f, .int .i64 t, .int .i64 s, .int .i64 x]] w fun e w' => e = .returned (.bool (txnB f t s x)) ∧ Below w.heap.size w w' := by
  have BB := Lib.hid (allocB w (.cells #[.int .i64 f, .int .i64 t, .int .i64 s, .int .i64 x] 46))
  rcases h1 : inB f 0 5 with _ | _
  · go_enter Try.func71, Try.ntmps71
    go_wp2_with fail
    refine (l6In_any _ _ _ _).mono ?_
    rw [h1]
    rintro e w' ⟨rfl, rfl⟩
    go_wp2_with fail
    go_ret
    exact ⟨ret_bool (by simp [txnB, *]), BB.out⟩
  rcases h2 : inB t 0 5 with _ | _
  · go_enter Try.func71, Try.ntmps71
    go_wp2_with fail
    refine (l6In_any _ _ _ _).mono ?_
    rw [h1]
    rintro e w' ⟨rfl, rfl⟩
    go_wp2_with fail
    refine (l6In_any _ _ _ _).mono ?_
    rw [h2]
    rintro e w' ⟨rfl, rfl⟩
    go_wp2_with fail
    go_ret
    exact ⟨ret_bool (by simp [txnB, *]), BB.out⟩
  by_cases h3 : f = t
  · have h3b : (f != t) = false := by simp [h3]
    have HR := Lib.hid (show txnB f t s x = false by simp [txnB, h3])
    clear h3
    go_enter Try.func71, Try.ntmps71
    go_wp2_with fail
    refine (l6In_any _ _ _ _).mono ?_
    rw [h1]
    rintro e w' ⟨rfl, rfl⟩
    go_wp2_with fail
    refine (l6In_any _ _ _ _).mono ?_
    rw [h2]
    rintro e w' ⟨rfl, rfl⟩
    go_wp2_with fail
    go_ret
    exact ⟨ret_bool HR.out.symm, BB.out⟩
  have h3b : (f != t) = true := by simp [h3]
  rcases h4 : inB s 1 99 with _ | _
  · go_enter Try.func71, Try.ntmps71
    go_wp2_with fail
    refine (l6In_any _ _ _ _).mono ?_
    rw [h1]
    rintro e w' ⟨rfl, rfl⟩
    go_wp2_with fail
    refine (l6In_any _ _ _ _).mono ?_
    rw [h2]
    rintro e w' ⟨rfl, rfl⟩
    go_wp2_with fail
    refine (l6In_any _ _ _ _).mono ?_
    rw [h4]
    rintro e w' ⟨rfl, rfl⟩
    go_wp2_with fail
    go_ret
    exact ⟨ret_bool (by simp [txnB, *]), BB.out⟩
  rcases h5 : inB x 0 9 with _ | _
  all_goals
    go_enter Try.func71, Try.ntmps71
    go_wp2_with fail
    refine (l6In_any _ _ _ _).mono ?_
    rw [h1]
    rintro e w' ⟨rfl, rfl⟩
    go_wp2_with fail
    refine (l6In_any _ _ _ _).mono ?_
    rw [h2]
    rintro e w' ⟨rfl, rfl⟩
    go_wp2_with fail
    refine (l6In_any _ _ _ _).mono ?_
    rw [h4]
    rintro e w' ⟨rfl, rfl⟩
    go_wp2_with fail
    refine (l6In_any _ _ _ _).mono ?_
    rw [h5]
    rintro e w' ⟨rfl, rfl⟩
    go_wp2_with fail
    go_ret
    exact ⟨ret_bool (by simp [txnB, *]), BB.out⟩
set_option maxHeartbeats 4000000 in
theorem s_txns (A : Option Addr) (c : Nat) (bs : List VTxn) (w : World) (h : LstTxn w w.heap.size A bs) (hn : bs.length ≤ 1048576) :
    Calls Try.prog 45 #[.slice A bs.length c] w fun e w' => e = .returned (.bool (txnsB bs)) ∧ Below w.heap.size w w' := by
  have H := Lib.hid h
  clear h
  go_enter Try.func45, Try.ntmps45
  go_wp2_with fail
  go_loopw [3] (fun j wr => ∃ k : Nat, k ≤ bs.length ∧ j = .int .i64 k ∧ (∀ i, i < k → txnAt bs i = true) ∧ Below w.heap.size w wr) (fun j _ => bs.length - (intOf j).toNat)
  case atStart => exact ⟨0, Nat.zero_le _, rfl, (fun i hi => absurd hi (by omega)), Below.refl _ _⟩
  case round =>
    obtain ⟨k, hk, rfl, hs, hb⟩ := hrel
    have HS := Lib.hid hs
    have HB := Lib.hid hb
    clear hs hb
    by_cases hlt : k < bs.length
    · obtain ⟨b, off, rfl, hbb, hc⟩ := (H.out.below HB.out).at_ hlt
      obtain ⟨x0, x1, x2, x3⟩ := hc k hlt
      obtain ⟨x, hx⟩ : ∃ x, x = nthTxn bs k := ⟨_, rfl⟩
      rw [← hx] at x0 x1 x2 x3
      have HX := Lib.hid (show txnAt bs k = txnB x.f x.t x.s x.e by unfold txnAt; rw [← hx])
      clear hc hx
      rcases hv : txnB x.f x.t x.s x.e with _ | _
      · have HF := Lib.hid (show txnsB bs = false by have : txnAt bs k = false := HX.out.trans hv; simp [txnsB, allTo_bad hlt this])
        go_wp2_with fail
        refine (s_TxnValid _ _ _ _ _).mono ?_
        rw [hv]
        rintro e w2 ⟨rfl, b2⟩
        replace HB := Lib.hid (HB.out.trans (b2.mono HB.out.size))
        clear b2
        go_wp2_with fail
        go_ret
        exact ⟨ret_bool HF.out.symm, HB.out⟩
      · have HOK := Lib.hid (HX.out.trans hv)
        go_wp2_with fail
        refine (s_TxnValid _ _ _ _ _).mono ?_
        rw [hv]
        rintro e w2 ⟨rfl, b2⟩
        replace HB := Lib.hid (HB.out.trans (b2.mono HB.out.size))
        clear b2 hv x0 x1 x2 x3
        go_wp2_with fail
        go_roundw
        case rel => exact ⟨k + 1, by omega, by go_num, fun i hi => by
          by_cases e : i = k
          · subst e; exact HOK.out
          · exact HS.out i (by omega), HB.out⟩
        case measure => simp [intOf]; omega
    · have e : k = bs.length := by omega
      subst e
      go_wp2_with fail
      go_ret
      exact ⟨ret_bool (by have := allTo_iff.2 HS.out; simp [txnsB, this]; omega), HB.out⟩
set_option maxHeartbeats 4000000 in
theorem i_TxnValid (f t s x : Int) (w : World) :
    Calls Try.prog 73 #[.agg #[.int .i64 f, .int .i64 t, .int .i64 s, .int .i64 x]] w fun e w' => e = .returned (.bool (txnB f t s x)) ∧ Below w.heap.size w w' := by
  have BB := Lib.hid (allocB w (.cells #[.int .i64 f, .int .i64 t, .int .i64 s, .int .i64 x] 46))
  rcases h1 : inB f 0 5 with _ | _
  · go_enter Try.func73, Try.ntmps73
    go_wp2_with fail
    refine (i_isAccount _ _).mono ?_
    rw [h1]
    rintro e w' ⟨rfl, rfl⟩
    go_wp2_with fail
    go_ret
    exact ⟨ret_bool (by simp [txnB, *]), BB.out⟩
  rcases h2 : inB t 0 5 with _ | _
  · go_enter Try.func73, Try.ntmps73
    go_wp2_with fail
    refine (i_isAccount _ _).mono ?_
    rw [h1]
    rintro e w' ⟨rfl, rfl⟩
    go_wp2_with fail
    refine (i_isAccount _ _).mono ?_
    rw [h2]
    rintro e w' ⟨rfl, rfl⟩
    go_wp2_with fail
    go_ret
    exact ⟨ret_bool (by simp [txnB, *]), BB.out⟩
  by_cases h3 : f = t
  · have h3b : (f == t) = true := by simp [h3]
    have HR := Lib.hid (show txnB f t s x = false by simp [txnB, h3])
    clear h3
    go_enter Try.func73, Try.ntmps73
    go_wp2_with fail
    refine (i_isAccount _ _).mono ?_
    rw [h1]
    rintro e w' ⟨rfl, rfl⟩
    go_wp2_with fail
    refine (i_isAccount _ _).mono ?_
    rw [h2]
    rintro e w' ⟨rfl, rfl⟩
    go_wp2_with fail
    go_ret
    exact ⟨ret_bool HR.out.symm, BB.out⟩
  have h3b : (f == t) = false := by simp [h3]
  have HR := Lib.hid (show txnB f t s x = (inB s 1 99 && inB x 0 9) by simp [txnB, h1, h2, h3])
  clear h3
  by_cases k1 : 1 ≤ s
  rotate_left
  · go_enter Try.func73, Try.ntmps73
    go_wp2_with fail
    refine (i_isAccount _ _).mono ?_
    rw [h1]
    rintro e w' ⟨rfl, rfl⟩
    go_wp2_with fail
    refine (i_isAccount _ _).mono ?_
    rw [h2]
    rintro e w' ⟨rfl, rfl⟩
    go_wp2_with fail
    go_ret
    exact ⟨ret_bool (by rw [HR.out]; rw [(inB_no (n := s) (lo := 1) (hi := 99)).2 (by omega)]; rfl), BB.out⟩
  by_cases k2 : s ≤ 99
  rotate_left
  · go_enter Try.func73, Try.ntmps73
    go_wp2_with fail
    refine (i_isAccount _ _).mono ?_
    rw [h1]
    rintro e w' ⟨rfl, rfl⟩
    go_wp2_with fail
    refine (i_isAccount _ _).mono ?_
    rw [h2]
    rintro e w' ⟨rfl, rfl⟩
    go_wp2_with fail
    go_ret
    exact ⟨ret_bool (by rw [HR.out]; rw [(inB_no (n := s) (lo := 1) (hi := 99)).2 (by omega)]; rfl), BB.out⟩
  by_cases k3 : 0 ≤ x
  rotate_left
  · go_enter Try.func73, Try.ntmps73
    go_wp2_with fail
    refine (i_isAccount _ _).mono ?_
    rw [h1]
    rintro e w' ⟨rfl, rfl⟩
    go_wp2_with fail
    refine (i_isAccount _ _).mono ?_
    rw [h2]
    rintro e w' ⟨rfl, rfl⟩
    go_wp2_with fail
    go_ret
    exact ⟨ret_bool (by rw [HR.out]; rw [(inB_no (n := x) (lo := 0) (hi := 9)).2 (by omega)]; simp <;> omega), BB.out⟩
  by_cases k4 : x ≤ 9
  · go_enter Try.func73, Try.ntmps73
    go_wp2_with fail
    refine (i_isAccount _ _).mono ?_
    rw [h1]
    rintro e w' ⟨rfl, rfl⟩
    go_wp2_with fail
    refine (i_isAccount _ _).mono ?_
    rw [h2]
    rintro e w' ⟨rfl, rfl⟩
    go_wp2_with fail
    go_ret
    exact ⟨ret_bool (by rw [HR.out]; rw [(inB_iff (n := s) (lo := 1) (hi := 99)).2 (by omega), (inB_iff (n := x) (lo := 0) (hi := 9)).2 (by omega)]; rfl), BB.out⟩
  · go_enter Try.func73, Try.ntmps73
    go_wp2_with fail
    refine (i_isAccount _ _).mono ?_
    rw [h1]
    rintro e w' ⟨rfl, rfl⟩
    go_wp2_with fail
    refine (i_isAccount _ _).mono ?_
    rw [h2]
    rintro e w' ⟨rfl, rfl⟩
    go_wp2_with fail
    go_ret
    exact ⟨ret_bool (by rw [HR.out]; rw [(inB_no (n := x) (lo := 0) (hi := 9)).2 (by omega)]; simp <;> omega), BB.out⟩
set_option maxHeartbeats 4000000 in
theorem i_txns (A : Option Addr) (c : Nat) (bs : List VTxn) (w : World) (h : LstTxn w w.heap.size A bs) (hn : bs.length ≤ 1048576) :
    Calls Try.prog 48 #[.slice A bs.length c] w fun e w' => e = .returned (.bool (txnsB bs)) ∧ Below w.heap.size w w' := by
  by_cases h16 : 16 < bs.length
  · rw [show txnsB bs = false by simp [txnsB]; intro _; omega]
    have d2 : decide ((16 : Int) < bs.length) = true := decide_eq_true (by omega)
    go_enter Try.func48, Try.ntmps48
    go_wp2_with fail
    go_ret
    exact ⟨rfl, Below.refl _ _⟩
  have d2 : decide ((16 : Int) < bs.length) = false := decide_eq_false (by omega)
  have H := Lib.hid h
  clear h
  go_enter Try.func48, Try.ntmps48
  go_wp2_with fail
  go_loopw [10] (fun j wr => ∃ k : Nat, k ≤ bs.length ∧ j = .int .i64 k ∧ (∀ i, i < k → txnAt bs i = true) ∧ Below w.heap.size w wr) (fun j _ => bs.length - (intOf j).toNat)
  case atStart => exact ⟨0, Nat.zero_le _, rfl, (fun i hi => absurd hi (by omega)), Below.refl _ _⟩
  case round =>
    obtain ⟨k, hk, rfl, hs, hb⟩ := hrel
    have HS := Lib.hid hs
    have HB := Lib.hid hb
    clear hs hb
    by_cases hlt : k < bs.length
    · obtain ⟨b, off, rfl, hbb, hc⟩ := (H.out.below HB.out).at_ hlt
      obtain ⟨x0, x1, x2, x3⟩ := hc k hlt
      obtain ⟨x, hx⟩ : ∃ x, x = nthTxn bs k := ⟨_, rfl⟩
      rw [← hx] at x0 x1 x2 x3
      have HX := Lib.hid (show txnAt bs k = txnB x.f x.t x.s x.e by unfold txnAt; rw [← hx])
      clear hc hx
      have ba := allocB wr (.cells #[.int .i64 x.f, .int .i64 x.t, .int .i64 x.s, .int .i64 x.e] 46)
      replace HB := Lib.hid (HB.out.trans (ba.mono HB.out.size))
      clear ba
      rcases hv : txnB x.f x.t x.s x.e with _ | _
      · have HF := Lib.hid (show txnsB bs = false by have : txnAt bs k = false := HX.out.trans hv; simp [txnsB, allTo_bad hlt this])
        go_wp2_with fail
        refine (i_TxnValid _ _ _ _ _).mono ?_
        rw [hv]
        rintro e w2 ⟨rfl, b2⟩
        replace HB := Lib.hid (HB.out.trans (b2.mono HB.out.size))
        clear b2
        go_wp2_with fail
        go_ret
        exact ⟨ret_bool HF.out.symm, HB.out⟩
      · have HOK := Lib.hid (HX.out.trans hv)
        go_wp2_with fail
        refine (i_TxnValid _ _ _ _ _).mono ?_
        rw [hv]
        rintro e w2 ⟨rfl, b2⟩
        replace HB := Lib.hid (HB.out.trans (b2.mono HB.out.size))
        clear b2 hv x0 x1 x2 x3
        go_wp2_with fail
        go_roundw
        case rel => exact ⟨k + 1, by omega, by go_num, fun i hi => by
          by_cases e : i = k
          · subst e; exact HOK.out
          · exact HS.out i (by omega), HB.out⟩
        case measure => simp [intOf]; omega
    · have e : k = bs.length := by omega
      subst e
      go_wp2_with fail
      go_ret
      exact ⟨ret_bool (by have := allTo_iff.2 HS.out; simp [txnsB, this]; omega), HB.out⟩
end Go.Proofs.Ytdleibkkjnodlaa
