/- Voters: whether they are valid, in the program and in the reference. -/
import Derived.Test.YtohnodphlaoohaaVoter
namespace Go.Proofs.Ytohnodphlaoohaa
open Go.RowKit
set_option linter.unusedVariables false

set_option maxHeartbeats 16000000 in
theorem s_VoterValid (f : Int) (A : Option Addr) (c : Nat) (bs : List VVote) (w : World) (h : LstVote w w.heap.size A bs) (hn : bs.length ≤ 1048576) :
    Calls Try.prog 27 #[.agg #[.int .i64 f, .slice A bs.length c]] w fun e w' => e = .returned (.bool (voterB f bs)) ∧ Below w.heap.size w w' := by
  have H := Lib.hid h
  clear h
  go_enter Try.func27, Try.ntmps27
  go_wp2_with fail
  go_loopw [3] (fun i wr => ∃ k : Nat, k ≤ bs.length ∧ i = .int .i64 k ∧ allTo (vtOk f bs) k = true ∧ wr.cell? ⟨w.heap.size, 0, none⟩ = some (.int .i64 f) ∧ wr.cell? ⟨w.heap.size, 1, none⟩ = some (.slice A bs.length c) ∧ Below w.heap.size w wr ∧ w.heap.size < wr.heap.size) (fun i _ => bs.length - (intOf i).toNat)
  case atStart => exact ⟨0, Nat.zero_le _, rfl, rfl, by simp, by simp, allocB w _, by simp⟩
  case round =>
    obtain ⟨k, hk, rfl, hok, p0, p1, hbel, hsz⟩ := hrel
    have HO := Lib.hid hok
    by_cases hlt : k < bs.length
    · obtain ⟨b, off, rfl, hbb, hc⟩ := (H.out.below hbel).at_ hlt
      obtain ⟨x0', x1', x2'⟩ := hc k hlt
      obtain ⟨y0', y1', y2'⟩ := hc (k - 1) (by omega)
      have q0 := GrowOf.cell p0
      have q1 := GrowOf.cell p1
      have x0 := GrowOf.cell x0'
      have x1 := GrowOf.cell x1'
      have x2 := GrowOf.cell x2'
      have y0 := GrowOf.cell y0'
      have y1 := GrowOf.cell y1'
      have y2 := GrowOf.cell y2'
      have HB := Lib.hid hbel
      have HS := Lib.hid hsz
      have he1 : ((k : Int) - 1).toNat = k - 1 := by omega
      have hww : IntKind.i64.wrap ((k : Int) - 1) = (k : Int) - 1 := IntWalk.i64_in _ (by omega)
      have HE1 := Lib.hid he1
      have HW2 := Lib.hid hww
      have e3 : (k : Int) - 1 < (bs.length : Int) := by omega
      have hi0 : (0 : Int) ≤ (k : Int) := by omega
      have hi1 : (k : Int) < (bs.length : Int) := by omega
      clear hc hok hbel y0' y1' y2' x0' x1' x2' he1 hww
      rcases hv : vB (nthVote bs k) with _ | _
      · have hv' : voteB (nthVote bs k).r (nthVote bs k).a (nthVote bs k).d = false := hv
        have HV := Lib.hid hv
        clear hv
        have hres := vt_bad (f := f) hlt (vt_no1 HV.out)
        have HRS := Lib.hid hres
        clear hres
        go_wp2_with fail
        have e1 : ((k : Int) - 1).toNat = k - 1 := HE1.out
        have hw2 : IntKind.i64.wrap ((k : Int) - 1) = (k : Int) - 1 := HW2.out
        refine wp_region_grow (by kernel_rfl) (by kernel_rfl) ?_
        repeat (go_big_quiet_step (first | (go_at_call 77; exact grow_below (s_l12Vote _ _ _ _)) | (go_at_call 78; exact grow_below (s_l12Before _ _ _ _ _ _ _))))
        refine wpQuiet_nil ?_
        rintro _ ⟨pq, rfl⟩
        have hq := next HB.out pq.h
        have HQ := Lib.hid hq
        clear e1 hw2 hq
        go_wp2_with fail
        go_ret
        exact ⟨ret_bool HRS.out.symm, HQ.out⟩
      have hv' : voteB (nthVote bs k).r (nthVote bs k).a (nthVote bs k).d = true := hv
      have HV := Lib.hid hv
      clear hv
      by_cases hr : (nthVote bs k).r < f
      · have hrd : decide ((nthVote bs k).r < f) = true := by simpa using hr
        have hres := vt_bad (f := f) hlt (vt_no2 hr)
        have HRS := Lib.hid hres
        clear hres
        go_wp2_with fail
        have e1 : ((k : Int) - 1).toNat = k - 1 := HE1.out
        have hw2 : IntKind.i64.wrap ((k : Int) - 1) = (k : Int) - 1 := HW2.out
        refine wp_region_grow (by kernel_rfl) (by kernel_rfl) ?_
        repeat (go_big_quiet_step (first | (go_at_call 77; exact grow_below (s_l12Vote _ _ _ _)) | (go_at_call 78; exact grow_below (s_l12Before _ _ _ _ _ _ _))))
        refine wpQuiet_nil ?_
        rintro _ ⟨pq, rfl⟩
        have hq := next HB.out pq.h
        have HQ := Lib.hid hq
        clear e1 hw2 hq
        go_wp2_with fail
        go_ret
        exact ⟨ret_bool HRS.out.symm, HQ.out⟩
      have hrd : decide ((nthVote bs k).r < f) = false := by simpa using hr
      by_cases h0 : (0 : Int) < k
      · have e2 : (0 : Int) ≤ (k : Int) - 1 := by omega
        have hd : decide (0 < k) = true := by simp; omega
        rcases hle : befB (nthVote bs (k - 1)) (nthVote bs k) with _ | _
        · have hd2 : befB ⟨(nthVote bs (k - 1)).r, (nthVote bs (k - 1)).a, (nthVote bs (k - 1)).d⟩ ⟨(nthVote bs k).r, (nthVote bs k).a, (nthVote bs k).d⟩ = false := hle
          have HLE := Lib.hid hle
          clear hle
          have hres := vt_bad (f := f) hlt (vt_no3 (by omega) HLE.out)
          have HRS := Lib.hid hres
          clear hres
          go_wp2_with fail
          have e1 : ((k : Int) - 1).toNat = k - 1 := HE1.out
          have hw2 : IntKind.i64.wrap ((k : Int) - 1) = (k : Int) - 1 := HW2.out
          refine wp_region_grow (by kernel_rfl) (by kernel_rfl) ?_
          repeat (go_big_quiet_step (first | (go_at_call 77; exact grow_below (s_l12Vote _ _ _ _)) | (go_at_call 78; exact grow_below (s_l12Before _ _ _ _ _ _ _))))
          refine wpQuiet_nil ?_
          rintro _ ⟨pq, rfl⟩
          have hq := next HB.out pq.h
          have HQ := Lib.hid hq
          clear e1 hw2 hq
          go_wp2_with fail
          go_ret
          exact ⟨ret_bool HRS.out.symm, HQ.out⟩
        · have hd2 : befB ⟨(nthVote bs (k - 1)).r, (nthVote bs (k - 1)).a, (nthVote bs (k - 1)).d⟩ ⟨(nthVote bs k).r, (nthVote bs k).a, (nthVote bs k).d⟩ = true := hle
          have HLE := Lib.hid hle
          clear hle
          have hyes := vt_yes HV.out (show f ≤ (nthVote bs k).r by omega) (fun _ => HLE.out)
          have HYES := Lib.hid hyes
          clear hyes
          go_wp2_with fail
          have e1 : ((k : Int) - 1).toNat = k - 1 := HE1.out
          have hw2 : IntKind.i64.wrap ((k : Int) - 1) = (k : Int) - 1 := HW2.out
          refine wp_region_grow (by kernel_rfl) (by kernel_rfl) ?_
          repeat (go_big_quiet_step (first | (go_at_call 77; exact grow_below (s_l12Vote _ _ _ _)) | (go_at_call 78; exact grow_below (s_l12Before _ _ _ _ _ _ _))))
          refine wpQuiet_nil ?_
          rintro _ ⟨pq, rfl⟩
          have hq := next HB.out pq.h
          have HQ := Lib.hid hq
          clear e1 hw2 hq
          go_wp2_with fail
          go_roundw
          case rel => exact ⟨k + 1, by omega, by go_num, allTo_step HO.out HYES.out, q0 pq, q1 pq, HQ.out, Nat.lt_of_lt_of_le HS.out pq.h.size⟩
          case measure => simp [intOf]; omega
      · have hd : decide (0 < k) = false := by simp; omega
        have hyes := vt_yes HV.out (show f ≤ (nthVote bs k).r by omega) (fun hh => absurd hh (by omega))
        have HYES := Lib.hid hyes
        clear hyes
        go_wp2_with fail
        have e1 : ((k : Int) - 1).toNat = k - 1 := HE1.out
        have hw2 : IntKind.i64.wrap ((k : Int) - 1) = (k : Int) - 1 := HW2.out
        refine wp_region_grow (by kernel_rfl) (by kernel_rfl) ?_
        repeat (go_big_quiet_step (first | (go_at_call 77; exact grow_below (s_l12Vote _ _ _ _)) | (go_at_call 78; exact grow_below (s_l12Before _ _ _ _ _ _ _))))
        refine wpQuiet_nil ?_
        rintro _ ⟨pq, rfl⟩
        have hq := next HB.out pq.h
        have HQ := Lib.hid hq
        clear e1 hw2 hq
        go_wp2_with fail
        go_roundw
        case rel => exact ⟨k + 1, by omega, by go_num, allTo_step HO.out HYES.out, q0 pq, q1 pq, HQ.out, Nat.lt_of_lt_of_le HS.out pq.h.size⟩
        case measure => simp [intOf]; omega
    · have HB := Lib.hid hbel
      clear hok hbel
      have e : k = bs.length := by omega
      subst e
      have hfin : voterB f bs = (inB f 0 31 && decide (bs.length ≤ 40)) := by unfold voterB; rw [HO.out]; rfl
      have HF := Lib.hid hfin
      clear hfin
      rcases hf : inB f 0 31 with _ | _
      · go_wp2_with (go_at_call 79; refine (l6In_any _ _ _ _).mono ?_; rintro e w' ⟨rfl, rfl⟩)
        go_ret
        exact ⟨ret_bool (by rw [HF.out, hf]; rfl), HB.out⟩
      · by_cases hl : bs.length ≤ 40
        · go_wp2_with (go_at_call 79; refine (l6In_any _ _ _ _).mono ?_; rintro e w' ⟨rfl, rfl⟩)
          go_ret
          exact ⟨ret_bool (by rw [HF.out, hf]; simp [hl]; omega), HB.out⟩
        · go_wp2_with (go_at_call 79; refine (l6In_any _ _ _ _).mono ?_; rintro e w' ⟨rfl, rfl⟩)
          go_ret
          exact ⟨ret_bool (by rw [HF.out, hf]; simp [hl]; omega), HB.out⟩
set_option maxHeartbeats 16000000 in
theorem i_VoterValid (f : Int) (A : Option Addr) (c : Nat) (bs : List VVote) (w : World) (h : LstVote w w.heap.size A bs) (hn : bs.length ≤ 1048576) :
    Calls Try.prog 29 #[.agg #[.int .i64 f, .slice A bs.length c]] w fun e w' => e = .returned (.bool (voterB f bs)) ∧ Below w.heap.size w w' := by
  rcases hf : inB f 0 31 with _ | _
  · go_enter Try.func29, Try.ntmps29
    go_wp2_with (go_at_call 81; refine (i_isFloor _ _).mono ?_; rintro e w' ⟨rfl, rfl⟩)
    go_ret
    exact ⟨ret_bool (by simp [voterB, hf]), allocB w _⟩
  by_cases hl : bs.length ≤ 40
  · have hfin : (∀ j, j < bs.length → vtOk f bs j = true) → voterB f bs = true := fun hh => by unfold voterB; rw [hf, decide_eq_true hl, allTo_iff.2 hh]; rfl
    have HF := Lib.hid hfin
    clear hfin
    have H := Lib.hid h
    clear h
    go_enter Try.func29, Try.ntmps29
    go_wp2_with (go_at_call 81; refine (i_isFloor _ _).mono ?_; rintro e w' ⟨rfl, rfl⟩)
    clear hf
    go_loopw [18] (fun i wr => ∃ k : Nat, k ≤ bs.length ∧ i = .int .i64 k ∧ (∀ j, j < k → vtOk f bs j = true) ∧ wr.cell? ⟨w.heap.size, 0, none⟩ = some (.int .i64 f) ∧ wr.cell? ⟨w.heap.size, 1, none⟩ = some (.slice A bs.length c) ∧ Below w.heap.size w wr ∧ w.heap.size < wr.heap.size) (fun i _ => bs.length - (intOf i).toNat)
    case atStart => exact ⟨0, Nat.zero_le _, rfl, (fun j hj => absurd hj (by omega)), by simp, by simp, allocB w _, by simp⟩
    case round =>
      obtain ⟨k, hk, rfl, hok, p0, p1, hbel, hsz⟩ := hrel
      by_cases hlt : k < bs.length
      · obtain ⟨b, off, rfl, hbb, hc⟩ := (H.out.below hbel).at_ hlt
        obtain ⟨x0, x1, x2⟩ := hc k hlt
        obtain ⟨y0', y1', y2'⟩ := hc (k - 1) (by omega)
        have HO := Lib.hid hok
        have he1 : ((k : Int) - 1).toNat = k - 1 := by omega
        have hww : IntKind.i64.wrap ((k : Int) - 1) = (k : Int) - 1 := IntWalk.i64_in _ (by omega)
        have HE1 := Lib.hid he1
        have HW2 := Lib.hid hww
        have HBR := Lib.hid hbel
        clear hc hok hbel he1 hww
        go_wp2_with fail
        refine (i_voteValid _ _ _ _).mono ?_
        rintro e w1 ⟨rfl, b1⟩
        have ba := next (allocB wr _) b1
        have z0 := keepc (b := wr.heap.size) (off := 0) (v := .int .i64 (nthVote bs k).r) b1 (by simp)
        have z1 := keepc (b := wr.heap.size) (off := 1) (v := .int .i64 (nthVote bs k).a) b1 (by simp)
        have z2 := keepc (b := wr.heap.size) (off := 2) (v := .int .i64 (nthVote bs k).d) b1 (by simp)
        replace p0 := keepc ba p0
        replace p1 := keepc ba p1
        have q0 := GrowOf.cell p0
        have q1 := GrowOf.cell p1
        have t0 := GrowOf.cell z0
        have t1 := GrowOf.cell z1
        have t2 := GrowOf.cell z2
        have y0 := GrowOf.cell (keepc ba y0')
        have y1 := GrowOf.cell (keepc ba y1')
        have y2 := GrowOf.cell (keepc ba y2')
        have HB := Lib.hid (next HBR.out ba)
        have hS : w.heap.size < w1.heap.size := Nat.lt_of_lt_of_le hsz ba.size
        have HS := Lib.hid hS
        have e3 : (k : Int) - 1 < (bs.length : Int) := by omega
        clear x0 x1 x2 y0' y1' y2' b1 ba HBR hS
        rcases hv : vB (nthVote bs k) with _ | _
        · have hres := vt_bad hlt (vt_no1 (f := f) hv)
          have HRS := Lib.hid hres
          have hv' : voteB (nthVote bs k).r (nthVote bs k).a (nthVote bs k).d = false := hv
          clear hres hv
          go_wp2_with fail
          go_ret
          exact ⟨ret_bool HRS.out.symm, HB.out⟩
        have hv' : voteB (nthVote bs k).r (nthVote bs k).a (nthVote bs k).d = true := hv
        have HV := Lib.hid hv
        clear hv
        by_cases hr : (nthVote bs k).r < f
        · have hres := vt_bad hlt (vt_no2 (f := f) hr)
          have HRS := Lib.hid hres
          clear hres
          go_wp2_with fail
          go_ret
          exact ⟨ret_bool HRS.out.symm, HB.out⟩
        by_cases h0 : (0 : Int) < k
        · have e2 : (0 : Int) ≤ (k : Int) - 1 := by omega
          have hd : decide (0 < k) = true := by simp; omega
          rcases hle : befB (nthVote bs (k - 1)) (nthVote bs k) with _ | _
          · have hd2 : ¬ cmpV ⟨(nthVote bs (k - 1)).r, (nthVote bs (k - 1)).a, (nthVote bs (k - 1)).d⟩ ⟨(nthVote bs k).r, (nthVote bs k).a, (nthVote bs k).d⟩ < 0 := fun hh => by
              have h1 : befB (nthVote bs (k - 1)) (nthVote bs k) = true := cmpV_neg.1 hh
              rw [hle] at h1; cases h1
            have hd3 : decide (0 ≤ cmpV ⟨(nthVote bs (k - 1)).r, (nthVote bs (k - 1)).a, (nthVote bs (k - 1)).d⟩ ⟨(nthVote bs k).r, (nthVote bs k).a, (nthVote bs k).d⟩) = true := by simp; omega
            have HLE := Lib.hid hle
            clear hle hd2
            have hres := vt_bad (f := f) hlt (vt_no3 (by omega) HLE.out)
            have HRS := Lib.hid hres
            clear hres
            go_wp2_with fail
            have e1 : ((k : Int) - 1).toNat = k - 1 := HE1.out
            have hw2 : IntKind.i64.wrap ((k : Int) - 1) = (k : Int) - 1 := HW2.out
            refine wp_region_grow (by kernel_rfl) (by kernel_rfl) ?_
            repeat (go_big_quiet_step (first | (go_at_call 83; exact grow_below (i_compareVotes _ _ _ _ _ _ _))))
            refine wpQuiet_nil ?_
            rintro _ ⟨pq, rfl⟩
            have hq := next HB.out pq.h
            have HQ := Lib.hid hq
            clear e1 hw2 hq
            go_wp2_with fail
            go_ret
            exact ⟨ret_bool HRS.out.symm, HQ.out⟩
          · have hd2 : cmpV ⟨(nthVote bs (k - 1)).r, (nthVote bs (k - 1)).a, (nthVote bs (k - 1)).d⟩ ⟨(nthVote bs k).r, (nthVote bs k).a, (nthVote bs k).d⟩ < 0 := cmpV_neg.2 hle
            have hd3 : decide (0 ≤ cmpV ⟨(nthVote bs (k - 1)).r, (nthVote bs (k - 1)).a, (nthVote bs (k - 1)).d⟩ ⟨(nthVote bs k).r, (nthVote bs k).a, (nthVote bs k).d⟩) = false := by simp; omega
            have HLE := Lib.hid hle
            clear hle hd2
            have hyes := vt_yes HV.out (show f ≤ (nthVote bs k).r by omega) (fun _ => HLE.out)
            have HYES := Lib.hid hyes
            clear hyes
            go_wp2_with fail
            have e1 : ((k : Int) - 1).toNat = k - 1 := HE1.out
            have hw2 : IntKind.i64.wrap ((k : Int) - 1) = (k : Int) - 1 := HW2.out
            refine wp_region_grow (by kernel_rfl) (by kernel_rfl) ?_
            repeat (go_big_quiet_step (first | (go_at_call 83; exact grow_below (i_compareVotes _ _ _ _ _ _ _))))
            refine wpQuiet_nil ?_
            rintro _ ⟨pq, rfl⟩
            have hq := next HB.out pq.h
            have HQ := Lib.hid hq
            clear e1 hw2 hq
            go_wp2_with fail
            go_roundw
            case rel => exact ⟨k + 1, by omega, by go_num, (fun j hj => by
              by_cases e : j = k
              · subst e; exact HYES.out
              · exact HO.out j (by omega)), q0 pq, q1 pq, HQ.out, Nat.lt_of_lt_of_le HS.out pq.h.size⟩
            case measure => simp [intOf]; omega
        · have hd : decide (0 < k) = false := by simp; omega
          have hyes := vt_yes HV.out (show f ≤ (nthVote bs k).r by omega) (fun hh => absurd hh (by omega))
          have HYES := Lib.hid hyes
          clear hyes
          go_wp2_with fail
          have e1 : ((k : Int) - 1).toNat = k - 1 := HE1.out
          have hw2 : IntKind.i64.wrap ((k : Int) - 1) = (k : Int) - 1 := HW2.out
          refine wp_region_grow (by kernel_rfl) (by kernel_rfl) ?_
          repeat (go_big_quiet_step (first | (go_at_call 83; exact grow_below (i_compareVotes _ _ _ _ _ _ _))))
          refine wpQuiet_nil ?_
          rintro _ ⟨pq, rfl⟩
          have hq := next HB.out pq.h
          have HQ := Lib.hid hq
          clear e1 hw2 hq
          go_wp2_with fail
          go_roundw
          case rel => exact ⟨k + 1, by omega, by go_num, (fun j hj => by
            by_cases e : j = k
            · subst e; exact HYES.out
            · exact HO.out j (by omega)), q0 pq, q1 pq, HQ.out, Nat.lt_of_lt_of_le HS.out pq.h.size⟩
          case measure => simp [intOf]; omega
      · have HO := Lib.hid hok
        have HB := Lib.hid hbel
        clear hok hbel
        go_wp2_with fail
        go_ret
        have e : k = bs.length := by omega
        subst e
        exact ⟨ret_bool (HF.out HO.out).symm, HB.out⟩
  · go_enter Try.func29, Try.ntmps29
    go_wp2_with (go_at_call 81; refine (i_isFloor _ _).mono ?_; rintro e w' ⟨rfl, rfl⟩)
    go_ret
    exact ⟨ret_bool (by simp [voterB, hl]), allocB w _⟩
end Go.Proofs.Ytohnodphlaoohaa
