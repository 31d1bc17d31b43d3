/- Stores: whether they are valid, in the reference. -/
import Derived.Test.YtmfbhddnlgbcmaaStoreV
import Derived.Test.YtmfbhddnlgbcmaaReg
namespace Go.Proofs.Ytmfbhddnlgbcmaa
open Go.RowKit
set_option linter.unusedVariables false

theorem st_bad {f : Int} {bs : List VBatch} {k : Nat} (hlt : k < bs.length) (h : stOk f bs k = false) : storeB f bs = false := by
  unfold storeB; rw [allTo_bad hlt h]; simp
theorem st_no1 {f : Int} {bs : List VBatch} {k : Nat} (h : batchB (nthBatch bs k) = false) : stOk f bs k = false := by simp [stOk, ordOk, h]
theorem st_no2 {f : Int} {bs : List VBatch} {k : Nat} (h : (nthBatch bs k).r < f) : stOk f bs k = false := by
  have : ¬ f ≤ (nthBatch bs k).r := by omega
  simp [stOk, ordOk, this]
theorem st_no3 {f : Int} {bs : List VBatch} {k : Nat} (h0 : 0 < k) (h : (nthBatch bs k).d ≤ (nthBatch bs (k - 1)).d) : stOk f bs k = false := by
  simp [stOk, ordOk, h0, h]
theorem st_no4 {f : Int} {bs : List VBatch} {k : Nat} (h : 30 < usedW bs (nthBatch bs k).a bs.length) : stOk f bs k = false := by
  have : ¬ usedW bs (nthBatch bs k).a bs.length ≤ 30 := by omega
  simp [stOk, this]
theorem st_yes {f : Int} {bs : List VBatch} {k : Nat} (h1 : batchB (nthBatch bs k) = true) (h2 : f ≤ (nthBatch bs k).r) (h3 : 0 < k → ¬ (nthBatch bs k).d ≤ (nthBatch bs (k - 1)).d) (h4 : usedW bs (nthBatch bs k).a bs.length ≤ 30) : stOk f bs k = true := by
  simp only [stOk, ordOk, h1, Bool.and_eq_true, decide_eq_true_eq, Bool.not_eq_true', Bool.and_eq_false_iff, decide_eq_false_iff_not, true_and]
  refine ⟨⟨h2, ?_⟩, h4⟩
  by_cases h0 : 0 < k
  · exact .inr (h3 h0)
  · exact .inl h0
set_option maxHeartbeats 16000000 in
theorem s_StoreValid (f : Int) (A : Option Addr) (c : Nat) (bs : List VBatch) (w : World) (h : LstBatch w w.heap.size A bs) (hn : bs.length ≤ 1048576) :
    Calls Try.prog 20 #[.agg #[.int .i64 f, .slice A bs.length c]] w fun e w' => e = .returned (.bool (storeB f bs)) ∧ Below w.heap.size w w' := by
  have H := Lib.hid h
  clear h
  go_enter Try.func20, Try.ntmps20
  go_wp2_with fail
  go_loopw [3] (fun i wr => ∃ k : Nat, k ≤ bs.length ∧ i = .int .i64 k ∧ allTo (stOk f bs) k = true ∧ wr.cell? ⟨w.heap.size, 0, none⟩ = some (.int .i64 f) ∧ wr.cell? ⟨w.heap.size, 1, none⟩ = some (.slice A bs.length c) ∧ Below w.heap.size w wr ∧ w.heap.size < wr.heap.size) (fun i _ => bs.length - (intOf i).toNat)
  case atStart => exact ⟨0, Nat.zero_le _, rfl, rfl, by simp, by simp, allocB w _, by simp⟩
  case round =>
    obtain ⟨k, hk, rfl, hok, p0, p1, hbel, hsz⟩ := hrel
    have HO := Lib.hid hok
    by_cases hlt : k < bs.length
    · obtain ⟨b, off, rfl, hbb, hc⟩ := (H.out.below hbel).at_ hlt
      obtain ⟨x0, x1, x2, x3⟩ := hc k hlt
      have y0' := (hc (k - 1) (by omega)).1
      have ba := allocB wr (.cells #[.int .i64 (nthBatch bs k).d, .int .i64 (nthBatch bs k).a, .int .i64 (nthBatch bs k).r, .int .i64 (nthBatch bs k).s] 27)
      have q0 := GrowOf.cell (keepc ba p0)
      have q1 := GrowOf.cell (keepc ba p1)
      have y0 := GrowOf.cell (keepc ba y0')
      have z0 := GrowOf.cell (w := wr.alloc (.cells #[.int .i64 (nthBatch bs k).d, .int .i64 (nthBatch bs k).a, .int .i64 (nthBatch bs k).r, .int .i64 (nthBatch bs k).s] 27)) (b := wr.heap.size) (off := 0) (v := .int .i64 (nthBatch bs k).d) (by simp)
      have z1 := GrowOf.cell (w := wr.alloc (.cells #[.int .i64 (nthBatch bs k).d, .int .i64 (nthBatch bs k).a, .int .i64 (nthBatch bs k).r, .int .i64 (nthBatch bs k).s] 27)) (b := wr.heap.size) (off := 1) (v := .int .i64 (nthBatch bs k).a) (by simp)
      have z2 := GrowOf.cell (w := wr.alloc (.cells #[.int .i64 (nthBatch bs k).d, .int .i64 (nthBatch bs k).a, .int .i64 (nthBatch bs k).r, .int .i64 (nthBatch bs k).s] 27)) (b := wr.heap.size) (off := 2) (v := .int .i64 (nthBatch bs k).r) (by simp)
      have z3 := GrowOf.cell (w := wr.alloc (.cells #[.int .i64 (nthBatch bs k).d, .int .i64 (nthBatch bs k).a, .int .i64 (nthBatch bs k).r, .int .i64 (nthBatch bs k).s] 27)) (b := wr.heap.size) (off := 3) (v := .int .i64 (nthBatch bs k).s) (by simp)
      have hL : ∀ p : GrowOf (wr.alloc (.cells #[.int .i64 (nthBatch bs k).d, .int .i64 (nthBatch bs k).a, .int .i64 (nthBatch bs k).r, .int .i64 (nthBatch bs k).s] 27)), LstBatch p.W p.W.heap.size (some ⟨b, off, none⟩) bs := fun p => ((H.out.carry hbel).carry ba).carry p.h
      have HL := Lib.hid hL
      have HB := Lib.hid (next hbel ba)
      have hS : w.heap.size < (wr.alloc (.cells #[.int .i64 (nthBatch bs k).d, .int .i64 (nthBatch bs k).a, .int .i64 (nthBatch bs k).r, .int .i64 (nthBatch bs k).s] 27)).heap.size := by simp; omega
      have HS := Lib.hid hS
      have he1 : ((k : Int) - 1).toNat = k - 1 := by omega
      have hww : IntKind.i64.wrap ((k : Int) - 1) = (k : Int) - 1 := IntWalk.i64_in _ (by omega)
      have HE1 := Lib.hid he1
      have HW2 := Lib.hid hww
      have e3 : (k : Int) - 1 < (bs.length : Int) := by omega
      clear hc ba hok hbel hL y0' he1 hww hS
      rcases hv : batchB (nthBatch bs k) with _ | _
      · have hv' : batchB ⟨(nthBatch bs k).d, (nthBatch bs k).a, (nthBatch bs k).r, (nthBatch bs k).s⟩ = false := hv
        have HV := Lib.hid hv
        clear hv
        have hres := st_bad (f := f) hlt (st_no1 HV.out)
        have HRS := Lib.hid hres
        clear hres
        go_wp2_with fail
        have e1 : ((k : Int) - 1).toNat = k - 1 := HE1.out
        have hw2 : IntKind.i64.wrap ((k : Int) - 1) = (k : Int) - 1 := HW2.out
        refine wp_region_grow (by kernel_rfl) (by kernel_rfl) ?_
        repeat (go_big_quiet_step (first | (go_at_call 44; exact grow_below (s_l23Batch _ _ _ _ _)) | (go_at_call 45; exact grow_same (s_l23Used _ _ bs _ _ _ (HL.out _) hn))))
        refine wpQuiet_nil ?_
        rintro _ ⟨pq, rfl⟩
        have hq := next HB.out pq.h
        have HQ := Lib.hid hq
        clear e1 hw2 hq
        go_wp2_with fail
        go_ret
        exact ⟨ret_bool HRS.out.symm, HQ.out⟩
      have hv' : batchB ⟨(nthBatch bs k).d, (nthBatch bs k).a, (nthBatch bs k).r, (nthBatch bs k).s⟩ = true := hv
      have HV := Lib.hid hv
      clear hv
      by_cases hr : (nthBatch bs k).r < f
      · have hrd : decide ((nthBatch bs k).r < f) = true := by simpa using hr
        have hres := st_bad (f := f) hlt (st_no2 hr)
        have HRS := Lib.hid hres
        clear hres
        go_wp2_with fail
        have e1 : ((k : Int) - 1).toNat = k - 1 := HE1.out
        have hw2 : IntKind.i64.wrap ((k : Int) - 1) = (k : Int) - 1 := HW2.out
        refine wp_region_grow (by kernel_rfl) (by kernel_rfl) ?_
        repeat (go_big_quiet_step (first | (go_at_call 44; exact grow_below (s_l23Batch _ _ _ _ _)) | (go_at_call 45; exact grow_same (s_l23Used _ _ bs _ _ _ (HL.out _) hn))))
        refine wpQuiet_nil ?_
        rintro _ ⟨pq, rfl⟩
        have hq := next HB.out pq.h
        have HQ := Lib.hid hq
        clear e1 hw2 hq
        go_wp2_with fail
        go_ret
        exact ⟨ret_bool HRS.out.symm, HQ.out⟩
      have hrd : decide ((nthBatch bs k).r < f) = false := by simpa using hr
      by_cases h0 : (0 : Int) < k
      · have e2 : (0 : Int) ≤ (k : Int) - 1 := by omega
        have hd : decide (0 < k) = true := by simp; omega
        by_cases hle : (nthBatch bs k).d ≤ (nthBatch bs (k - 1)).d
        · have hd2 : decide ((nthBatch bs k).d ≤ (nthBatch bs (k - 1)).d) = true := by simpa using hle
          have hres := st_bad (f := f) hlt (st_no3 (by omega) hle)
          have HRS := Lib.hid hres
          clear hres
          go_wp2_with fail
          have e1 : ((k : Int) - 1).toNat = k - 1 := HE1.out
          have hw2 : IntKind.i64.wrap ((k : Int) - 1) = (k : Int) - 1 := HW2.out
          refine wp_region_grow (by kernel_rfl) (by kernel_rfl) ?_
          repeat (go_big_quiet_step (first | (go_at_call 44; exact grow_below (s_l23Batch _ _ _ _ _)) | (go_at_call 45; exact grow_same (s_l23Used _ _ bs _ _ _ (HL.out _) hn))))
          refine wpQuiet_nil ?_
          rintro _ ⟨pq, rfl⟩
          have hq := next HB.out pq.h
          have HQ := Lib.hid hq
          clear e1 hw2 hq
          go_wp2_with fail
          go_ret
          exact ⟨ret_bool HRS.out.symm, HQ.out⟩
        have hd2 : decide ((nthBatch bs k).d ≤ (nthBatch bs (k - 1)).d) = false := by simpa using hle
        by_cases hu : 30 < usedW bs (nthBatch bs k).a bs.length
        · have hres := st_bad (f := f) hlt (st_no4 hu)
          have HRS := Lib.hid hres
          clear hres
          go_wp2_with fail
          have e1 : ((k : Int) - 1).toNat = k - 1 := HE1.out
          have hw2 : IntKind.i64.wrap ((k : Int) - 1) = (k : Int) - 1 := HW2.out
          refine wp_region_grow (by kernel_rfl) (by kernel_rfl) ?_
          repeat (go_big_quiet_step (first | (go_at_call 44; exact grow_below (s_l23Batch _ _ _ _ _)) | (go_at_call 45; exact grow_same (s_l23Used _ _ bs _ _ _ (HL.out _) hn))))
          refine wpQuiet_nil ?_
          rintro _ ⟨pq, rfl⟩
          have hq := next HB.out pq.h
          have HQ := Lib.hid hq
          clear e1 hw2 hq
          go_wp2_with fail
          go_ret
          exact ⟨ret_bool HRS.out.symm, HQ.out⟩
        · have hyes := st_yes HV.out (show f ≤ (nthBatch bs k).r by omega) (fun _ => hle) (by omega)
          have HYES := Lib.hid hyes
          clear hyes
          go_wp2_with fail
          have e1 : ((k : Int) - 1).toNat = k - 1 := HE1.out
          have hw2 : IntKind.i64.wrap ((k : Int) - 1) = (k : Int) - 1 := HW2.out
          refine wp_region_grow (by kernel_rfl) (by kernel_rfl) ?_
          repeat (go_big_quiet_step (first | (go_at_call 44; exact grow_below (s_l23Batch _ _ _ _ _)) | (go_at_call 45; exact grow_same (s_l23Used _ _ bs _ _ _ (HL.out _) hn))))
          refine wpQuiet_nil ?_
          rintro _ ⟨pq, rfl⟩
          have hq := next HB.out pq.h
          have HQ := Lib.hid hq
          clear e1 hw2 hq
          go_wp2_with fail
          go_roundw
          case rel => exact ⟨k + 1, by omega, by go_num, allTo_step HO.out HYES.out, q0 pq, q1 pq, HQ.out, Nat.lt_of_lt_of_le HS.out pq.h.size⟩
          case measure => simp [intOf]; omega
      · have hd : decide (0 < k) = false := by simp; omega
        by_cases hu : 30 < usedW bs (nthBatch bs k).a bs.length
        · have hres := st_bad (f := f) hlt (st_no4 hu)
          have HRS := Lib.hid hres
          clear hres
          go_wp2_with fail
          have e1 : ((k : Int) - 1).toNat = k - 1 := HE1.out
          have hw2 : IntKind.i64.wrap ((k : Int) - 1) = (k : Int) - 1 := HW2.out
          refine wp_region_grow (by kernel_rfl) (by kernel_rfl) ?_
          repeat (go_big_quiet_step (first | (go_at_call 44; exact grow_below (s_l23Batch _ _ _ _ _)) | (go_at_call 45; exact grow_same (s_l23Used _ _ bs _ _ _ (HL.out _) hn))))
          refine wpQuiet_nil ?_
          rintro _ ⟨pq, rfl⟩
          have hq := next HB.out pq.h
          have HQ := Lib.hid hq
          clear e1 hw2 hq
          go_wp2_with fail
          go_ret
          exact ⟨ret_bool HRS.out.symm, HQ.out⟩
        · have hyes := st_yes HV.out (show f ≤ (nthBatch bs k).r by omega) (fun hh => absurd hh (by omega)) (by omega)
          have HYES := Lib.hid hyes
          clear hyes
          go_wp2_with fail
          have e1 : ((k : Int) - 1).toNat = k - 1 := HE1.out
          have hw2 : IntKind.i64.wrap ((k : Int) - 1) = (k : Int) - 1 := HW2.out
          refine wp_region_grow (by kernel_rfl) (by kernel_rfl) ?_
          repeat (go_big_quiet_step (first | (go_at_call 44; exact grow_below (s_l23Batch _ _ _ _ _)) | (go_at_call 45; exact grow_same (s_l23Used _ _ bs _ _ _ (HL.out _) hn))))
          refine wpQuiet_nil ?_
          rintro _ ⟨pq, rfl⟩
          have hq := next HB.out pq.h
          have HQ := Lib.hid hq
          clear e1 hw2 hq
          go_wp2_with fail
          go_roundw
          case rel => exact ⟨k + 1, by omega, by go_num, allTo_step HO.out HYES.out, q0 pq, q1 pq, HQ.out, Nat.lt_of_lt_of_le HS.out pq.h.size⟩
          case measure => simp [intOf]; omega
    · have HB := Lib.hid hbel
      clear hok hbel
      have e : k = bs.length := by omega
      subst e
      have hfin : storeB f bs = (inB f 0 31 && decide (bs.length ≤ 12)) := by unfold storeB; rw [HO.out]; rfl
      have HF := Lib.hid hfin
      clear hfin
      rcases hf : inB f 0 31 with _ | _
      · go_wp2_with (go_at_call 48; refine (l6In_any _ _ _ _).mono ?_; rintro e w' ⟨rfl, rfl⟩)
        go_ret
        exact ⟨ret_bool (by rw [HF.out, hf]; rfl), HB.out⟩
      · by_cases hl : bs.length ≤ 12
        · go_wp2_with (go_at_call 48; refine (l6In_any _ _ _ _).mono ?_; rintro e w' ⟨rfl, rfl⟩)
          go_ret
          exact ⟨ret_bool (by rw [HF.out, hf]; simp [hl]; omega), HB.out⟩
        · go_wp2_with (go_at_call 48; refine (l6In_any _ _ _ _).mono ?_; rintro e w' ⟨rfl, rfl⟩)
          go_ret
          exact ⟨ret_bool (by rw [HF.out, hf]; simp [hl]; omega), HB.out⟩
end Go.Proofs.Ytmfbhddnlgbcmaa
