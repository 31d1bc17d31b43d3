/- Stores: whether they are valid, in the program. -/
import Derived.Test.YtmfbhddnlgbcmaaBatch
import Derived.Test.YtmfbhddnlgbcmaaDraw5
import Derived.Deep.RegionHeld3
import Derived.RegionTactic
import Derived.ChangeAlike
namespace Go.Proofs.Ytmfbhddnlgbcmaa
open Go.RowKit
set_option linter.unusedVariables false

theorem ip_bad {f : Int} {bs : List VBatch} {k : Nat} (hn : bs.length ≤ 1048576) (hlt : k < bs.length) (h : ipOk f bs k = false) : storeB f bs = false := by
  rw [storeB_i hn, allTo_bad hlt h]; simp
theorem ip_no1 {f : Int} {bs : List VBatch} {k : Nat} (h : batchB (nthBatch bs k) = false) : ipOk f bs k = false := by simp [ipOk, ordOk, h]
theorem ip_no2 {f : Int} {bs : List VBatch} {k : Nat} (h : (nthBatch bs k).r < f) : ipOk f bs k = false := by
  have : ¬ f ≤ (nthBatch bs k).r := by omega
  simp [ipOk, ordOk, this]
theorem ip_no3 {f : Int} {bs : List VBatch} {k : Nat} (h0 : 0 < k) (h : (nthBatch bs k).d ≤ (nthBatch bs (k - 1)).d) : ipOk f bs k = false := by
  simp [ipOk, ordOk, h0, h]
theorem ip_no4 {f : Int} {bs : List VBatch} {k : Nat} (h : 30 < usedTo bs (nthBatch bs k).a (k + 1)) : ipOk f bs k = false := by
  have : ¬ usedTo bs (nthBatch bs k).a (k + 1) ≤ 30 := by omega
  simp [ipOk, this]
theorem ip_yes {f : Int} {bs : List VBatch} {k : Nat} (h1 : batchB (nthBatch bs k) = true) (h2 : f ≤ (nthBatch bs k).r) (h3 : 0 < k → ¬ (nthBatch bs k).d ≤ (nthBatch bs (k - 1)).d) (h4 : usedTo bs (nthBatch bs k).a (k + 1) ≤ 30) : ipOk f bs k = true := by
  simp only [ipOk, ordOk, h1, Bool.and_eq_true, decide_eq_true_eq, Bool.not_eq_true', Bool.and_eq_false_iff, decide_eq_false_iff_not, true_and]
  refine ⟨⟨h2, ?_⟩, h4⟩
  by_cases h0 : 0 < k
  · exact .inr (h3 h0)
  · exact .inl h0
theorem ip_batch {f : Int} {bs : List VBatch} {k : Nat} (h : ∀ j, j < k → ipOk f bs j = true) : ∀ j, j < k → batchB (nthBatch bs j) = true := fun j hj => by
  have := h j hj; simp only [ipOk, Bool.and_eq_true] at this; exact ordOk_batch this.1
theorem used_step {bs : List VBatch} {k : Nat} (j : Nat) : (if j = ((nthBatch bs k).a).toNat then Value.int .i64 (usedTo bs (nthBatch bs k).a k + (nthBatch bs k).s) else .int .i64 (usedTo bs (j : Int) k)) = .int .i64 (usedTo bs (j : Int) (k + 1)) ∨ ¬ 0 ≤ (nthBatch bs k).a := by
  by_cases h0 : 0 ≤ (nthBatch bs k).a
  · left
    by_cases h : j = ((nthBatch bs k).a).toNat
    · have e : (nthBatch bs k).a = (j : Int) := by omega
      rw [if_pos h, usedTo_hit e, e]
    · have e : ¬ (nthBatch bs k).a = (j : Int) := by omega
      rw [if_neg h, usedTo_miss e]
  · exact .inr h0
set_option maxHeartbeats 8000000 in
theorem i_StoreValid (f : Int) (A : Option Addr) (c : Nat) (bs : List VBatch) (w : World) (h : LstBatch w w.heap.size A bs) (hn : bs.length ≤ 1048576) :
    Calls Try.prog 22 #[.agg #[.int .i64 f, .slice A bs.length c]] w fun e w' => e = .returned (.bool (storeB f bs)) ∧ Below w.heap.size w w' := by
  rcases hf : inB f 0 31 with _ | _
  · go_enter Try.func22, Try.ntmps22
    go_wp2_with (go_at_call 50; refine (i_isFloor _ _).mono ?_; rintro e w' ⟨rfl, rfl⟩)
    go_ret
    exact ⟨ret_bool (by rw [storeB_i hn, hf]; rfl), allocB w _⟩
  by_cases hl : bs.length ≤ 12
  · have hfin : (∀ j, j < bs.length → ipOk f bs j = true) → storeB f bs = true := fun hh => by rw [storeB_i hn, hf, decide_eq_true hl, allTo_iff.2 hh]; rfl
    have HF := Lib.hid hfin
    clear hfin
    have H := Lib.hid h
    clear h
    go_enter Try.func22, Try.ntmps22
    go_wp2_with (go_at_call 50; refine (i_isFloor _ _).mono ?_; rintro e w' ⟨rfl, rfl⟩)
    clear hf
    go_loopw [19] (fun i wr => ∃ k : Nat, k ≤ bs.length ∧ i = .int .i64 k ∧ (∀ j, j < k → ipOk f bs j = true) ∧ Box wr w.heap.size 25 #[.int .i64 f, .slice A bs.length c] ∧ wr.rowIs (w.heap.size + 1) 67 7 (fun j => .int .i64 (usedTo bs j k)) ∧ Below w.heap.size w wr) (fun i _ => bs.length - (intOf i).toNat)
    case atStart =>
      refine ⟨0, Nat.zero_le _, rfl, fun j hj => absurd hj (by omega), (Box.new w _ _).carry (allocB _ _), ?_, allocB2 w _ _⟩
      have := World.rowIs_alloc (w.alloc (.cells #[.int .i64 f, .slice A bs.length c] 25)) #[.int .i64 0, .int .i64 0, .int .i64 0, .int .i64 0, .int .i64 0, .int .i64 0, .int .i64 0] 67 (fun j => .int .i64 (usedTo bs j 0)) (fun i hi => by
        rcases (show i = 0 ∨ i = 1 ∨ i = 2 ∨ i = 3 ∨ i = 4 ∨ i = 5 ∨ i = 6 by simp at hi; omega) with h | h | h | h | h | h | h <;> subst h <;> rfl)
      simpa using this
    case round =>
      obtain ⟨k, hk, rfl, hok, hbox, hrow, hbel⟩ := hrel
      by_cases hlt : k < bs.length
      · obtain ⟨b, off, rfl, hbb, hc⟩ := (H.out.below hbel).at_ hlt
        obtain ⟨x0, x1, x2, x3⟩ := hc k hlt
        have hy : 0 < k → wr.cell? ⟨b, off + (k - 1) * 4, none⟩ = some (.int .i64 (nthBatch bs (k - 1)).d) := fun h0 => (hc (k - 1) (by omega)).1
        have p0 := hbox.cell (j := 0) (u := .int .i64 f) rfl
        have p1 := hbox.cell (j := 1) (u := .slice (some ⟨b, off, none⟩) bs.length c) rfl
        have hub := usedTo_bd (bs := bs) (a := (nthBatch bs k).a) (k := k) (ip_batch hok)
        have HY := Lib.hid hy
        have HO := Lib.hid hok
        have HX := Lib.hid hbox
        have HR := Lib.hid hrow
        have HB := Lib.hid hbel
        clear hc hok hbox hrow hbel hy
        go_wp2_with fail
        refine (i_Batch_valid _ _ _ _ _).mono ?_
        rintro e w1 ⟨rfl, b1⟩
        have ba := next (allocB wr _) b1
        have z0 := keepc (b := wr.heap.size) (off := 0) (v := .int .i64 (nthBatch bs k).d) b1 (by simp)
        have z1 := keepc (b := wr.heap.size) (off := 1) (v := .int .i64 (nthBatch bs k).a) b1 (by simp)
        have z2 := keepc (b := wr.heap.size) (off := 2) (v := .int .i64 (nthBatch bs k).r) b1 (by simp)
        have z3 := keepc (b := wr.heap.size) (off := 3) (v := .int .i64 (nthBatch bs k).s) b1 (by simp)
        have hy1 : 0 < k → w1.cell? ⟨b, off + (k - 1) * 4, none⟩ = some (.int .i64 (nthBatch bs (k - 1)).d) := fun h0 => keepc ba (HY.out h0)
        replace p0 := keepc ba p0
        replace p1 := keepc ba p1
        have hrow1 : w1.rowIs (w.heap.size + 1) 67 7 (fun j => .int .i64 (usedTo bs j k)) := HR.out.of_block (ba.block _ HR.out.lt)
        have hbox1 := HX.out.carry ba
        have hw1 : w.heap.size + 2 ≤ wr.heap.size := by have := HR.out.lt; omega
        have HX1 := Lib.hid hbox1
        have HR1 := Lib.hid hrow1
        have HB1 := Lib.hid (next HB.out ba)
        have HY1 := Lib.hid hy1
        clear x0 x1 x2 x3 b1 ba hrow1 hbox1 hy1 HY HX HR HB
        rcases hv : batchB (nthBatch bs k) with _ | _
        · have hres := ip_bad hn hlt (ip_no1 (f := f) hv)
          have HRS := Lib.hid hres
          have hv' : batchB ⟨(nthBatch bs k).d, (nthBatch bs k).a, (nthBatch bs k).r, (nthBatch bs k).s⟩ = false := hv
          clear hres hv
          go_wp2_with fail
          go_ret
          exact ⟨ret_bool HRS.out.symm, HB1.out⟩
        have hbd := batchB_bd hv
        obtain ⟨_, ⟨ha0, ha6⟩, _, hs1, hs12⟩ := hbd
        have hv' : batchB ⟨(nthBatch bs k).d, (nthBatch bs k).a, (nthBatch bs k).r, (nthBatch bs k).s⟩ = true := hv
        have HV := Lib.hid hv
        clear hv
        by_cases hr : (nthBatch bs k).r < f
        · have hres := ip_bad hn hlt (ip_no2 (f := f) hr)
          have HRS := Lib.hid hres
          clear hres
          go_wp2_with fail
          go_ret
          exact ⟨ret_bool HRS.out.symm, HB1.out⟩
        have hstep : ∀ (wq : World), wq.rowIs (w.heap.size + 1) 67 7 (fun j => .int .i64 (usedTo bs j k)) → (wq.setCell ⟨w.heap.size + 1, ((nthBatch bs k).a).toNat, none⟩ (.int .i64 (usedTo bs (nthBatch bs k).a k + (nthBatch bs k).s))).rowIs (w.heap.size + 1) 67 7 (fun j => .int .i64 (usedTo bs j (k + 1))) := fun wq hq =>
          (hq.set ((nthBatch bs k).a).toNat (.int .i64 (usedTo bs (nthBatch bs k).a k + (nthBatch bs k).s))).congr (fun j _ => by
            rcases used_step (bs := bs) (k := k) j with h | h
            · exact h
            · exact absurd ha0 h)
        have HST := Lib.hid hstep
        have hus := usedTo_hit (bs := bs) (a := (nthBatch bs k).a) (k := k) rfl
        have HUS := Lib.hid hus
        have hcell := HR1.out.cell (i := ((nthBatch bs k).a).toNat) (by omega)
        have hcast : ((((nthBatch bs k).a).toNat : Nat) : Int) = (nthBatch bs k).a := by omega
        rw [hcast] at hcell
        have hfree := HR1.out.frozen ((nthBatch bs k).a).toNat
        have ha7 : (nthBatch bs k).a < 7 := by omega
        generalize hu : usedTo bs (nthBatch bs k).a k = u at *
        have HU := Lib.hid hu
        clear hstep hus hcast hu
        by_cases h0 : (0 : Int) < k
        · have hcp := HY1.out (by omega)
          have e2 : (0 : Int) ≤ (k : Int) - 1 := by omega
          have e3 : (k : Int) - 1 < (bs.length : Int) := by omega
          have hd : decide (0 < k) = true := by simp; omega
          by_cases hle : (nthBatch bs k).d ≤ (nthBatch bs (k - 1)).d
          · have hd2 : decide ((nthBatch bs k).d ≤ (nthBatch bs (k - 1)).d) = true := by simpa using hle
            have hres := ip_bad hn hlt (ip_no3 (f := f) (by omega) hle)
            have HRS := Lib.hid hres
            clear hres hle
            go_wp2_with fail
            have e1 : ((k : Int) - 1).toNat = k - 1 := by omega
            have hw2 : IntKind.i64.wrap ((k : Int) - 1) = (k : Int) - 1 := IntWalk.i64_in _ (by omega)
            go_quiet (fail)
            clear hw2 e1
            go_wp2
            go_ret
            exact ⟨ret_bool HRS.out.symm, below_drewN HB1.out _⟩
          · have hd2 : decide ((nthBatch bs k).d ≤ (nthBatch bs (k - 1)).d) = false := by simpa using hle
            have hle' := Lib.hid hle
            clear hle
            go_wp2_with fail
            have e1 : ((k : Int) - 1).toNat = k - 1 := by omega
            have hw2 : IntKind.i64.wrap ((k : Int) - 1) = (k : Int) - 1 := IntWalk.i64_in _ (by omega)
            go_quiet (fail)
            clear hw2 e1 hcp e2 e3 hd hd2
            go_wp2
            have hw3 : IntKind.i64.wrap (u + (nthBatch bs k).s) = u + (nthBatch bs k).s := IntWalk.i64_in _ (by omega)
            go_region
            clear hw3
            have hne1 : wr.heap.size ≠ w.heap.size + 1 := by omega
            have hne2 : w.heap.size + 1 ≠ wr.heap.size := by omega
            have hne3 : w.heap.size + 1 ≠ w.heap.size := by omega
            have hro := HST.out _ (show (w1.drewN (nq + 1)).rowIs (w.heap.size + 1) 67 7 (fun j => .int .i64 (usedTo bs j k)) from HR1.out)
            have hbx := (show Box (w1.drewN (nq + 1)) w.heap.size 25 #[.int .i64 f, .slice (some ⟨b, off, none⟩) bs.length c] from HX1.out).other hne3 ((nthBatch bs k).a).toNat (.int .i64 (u + (nthBatch bs k).s))
            have hbl := (below_drewN HB1.out (nq + 1)).setCell (p := ⟨w.heap.size + 1, ((nthBatch bs k).a).toNat, none⟩) (by simp) (.int .i64 (u + (nthBatch bs k).s))
            have HRO := Lib.hid hro
            have HBX := Lib.hid hbx
            have HBL := Lib.hid hbl
            clear hro hbx hbl hne3
            by_cases hq : 30 < u + (nthBatch bs k).s
            · have hres := ip_bad hn hlt (ip_no4 (f := f) (bs := bs) (k := k) (by rw [HUS.out]; exact hq))
              have HRS := Lib.hid hres
              clear hres
              go_wp2_with fail
              go_ret
              exact ⟨ret_bool HRS.out.symm, HBL.out⟩
            · have hyes := ip_yes HV.out (show f ≤ (nthBatch bs k).r by omega) (fun _ => by have := hle'.out; omega) (by rw [HUS.out]; omega)
              have HYES := Lib.hid hyes
              clear hyes
              go_wp2_with fail
              go_roundw
              case rel => exact ⟨k + 1, by omega, by go_num, (fun j hj => by
                by_cases e : j = k
                · subst e; exact HYES.out
                · exact HO.out j (by omega)), HBX.out, HRO.out, HBL.out⟩
              case measure => simp [intOf]; omega
        · have hd : decide (0 < k) = false := by simp; omega
          go_wp2_with fail
          go_quiet (fail)
          clear hd
          go_wp2
          have hw3 : IntKind.i64.wrap (u + (nthBatch bs k).s) = u + (nthBatch bs k).s := IntWalk.i64_in _ (by omega)
          go_region
          clear hw3
          have hne1 : wr.heap.size ≠ w.heap.size + 1 := by omega
          have hne2 : w.heap.size + 1 ≠ wr.heap.size := by omega
          have hne3 : w.heap.size + 1 ≠ w.heap.size := by omega
          have hro := HST.out _ (show (w1.drewN (nq + 1)).rowIs (w.heap.size + 1) 67 7 (fun j => .int .i64 (usedTo bs j k)) from HR1.out)
          have hbx := (show Box (w1.drewN (nq + 1)) w.heap.size 25 #[.int .i64 f, .slice (some ⟨b, off, none⟩) bs.length c] from HX1.out).other hne3 ((nthBatch bs k).a).toNat (.int .i64 (u + (nthBatch bs k).s))
          have hbl := (below_drewN HB1.out (nq + 1)).setCell (p := ⟨w.heap.size + 1, ((nthBatch bs k).a).toNat, none⟩) (by simp) (.int .i64 (u + (nthBatch bs k).s))
          have HRO := Lib.hid hro
          have HBX := Lib.hid hbx
          have HBL := Lib.hid hbl
          clear hro hbx hbl hne3
          by_cases hq : 30 < u + (nthBatch bs k).s
          · exfalso; omega
          · have hyes := ip_yes HV.out (show f ≤ (nthBatch bs k).r by omega) (fun hh => absurd hh (by omega)) (by rw [HUS.out]; omega)
            have HYES := Lib.hid hyes
            clear hyes
            go_wp2_with fail
            go_roundw
            case rel => exact ⟨k + 1, by omega, by go_num, (fun j hj => by
              by_cases e : j = k
              · subst e; exact HYES.out
              · exact HO.out j (by omega)), HBX.out, HRO.out, HBL.out⟩
            case measure => simp [intOf]; omega
      · have HO := Lib.hid hok
        have HB := Lib.hid hbel
        clear hok hbox hrow hbel
        go_wp2_with fail
        go_ret
        have e : k = bs.length := by omega
        subst e
        exact ⟨ret_bool (HF.out HO.out).symm, HB.out⟩
  · go_enter Try.func22, Try.ntmps22
    go_wp2_with (go_at_call 50; refine (i_isFloor _ _).mono ?_; rintro e w' ⟨rfl, rfl⟩)
    go_ret
    exact ⟨ret_bool (by rw [storeB_i hn, hf, decide_eq_false hl]; rfl), allocB w _⟩
end Go.Proofs.Ytmfbhddnlgbcmaa
