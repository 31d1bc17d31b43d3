/- The law FnLanesPartition holds for every input: each transaction lies in one lane, lanes and their heads ascend. -/
import Derived.Test.YtdleibkkjnodlaaLaneR
import Derived.Test.YtdleibkkjnodlaaTxn
import Derived.Test.YtdleibkkjnodlaaArgs
namespace Go.Proofs.Ytdleibkkjnodlaa.lawLanesPartition
open Go.ChangeShapes Go.WideShapes Go.ChangeAt Go.RowKit
set_option linter.unusedVariables false

set_option maxRecDepth 20000 in
set_option maxHeartbeats 16000000 in
theorem walk (a0 : Option Addr) (c0 : Nat) (z0 : List Int) (w : World) (h0 : Bytes w w.heap.size a0 z0 ∧ z0.length ≤ c0) :
    Calls Try.prog 8 #[.slice a0 z0.length c0] w fun e w' => e = .returned (.bool true) ∧ Below w.heap.size w w' := by
  by_cases hbig0 : (1048576 : Int) < z0.length
  · go_enter Try.func8, Try.ntmps8
    go_wp2_with fail
    go_ret
    exact ⟨rfl, Below.refl _ _⟩
  have hn0 : z0.length ≤ 1048576 := by omega
  have H0 := Lib.hid h0
  clear h0
  go_enter Try.func8, Try.ntmps8
  go_wp2_with fail
  refine (s_DrawLanesOf _ _ _ _ H0.out.1 H0.out.2 hn0).mono ?_
  rintro e w1 ⟨g, c, bs, rfl, hl, hu, b1⟩
  have BB := Lib.hid b1
  have LU := Lib.hid hu.lst
  obtain ⟨ls, hls⟩ : ∃ ls, ls = lanesZ bs := ⟨_, rfl⟩
  have OK := Lib.hid (show LaneOK bs ls by rw [hls]; exact laneOK bs hl)
  have HZ := Lib.hid hls.symm
  have hlen := OK.out.len
  clear b1 hu hls H0 hbig0
  go_wp2_with fail
  refine (i_LanesOf _ _ bs _ LU.out (by omega)).mono ?_
  intro e w2 hm
  rw [HZ.out] at hm
  obtain ⟨gl, cap, rfl, hll, b2⟩ := hm.lls
  have HL := Lib.hid hll
  replace BB := Lib.hid (next BB.out b2)
  replace LU := Lib.hid (LU.out.carry b2)
  clear hll b2 hm
  go_wp2_with fail
  refine (s_LanesOf _ _ bs _ LU.out (by omega)).mono ?_
  intro e w3 hm
  rw [HZ.out] at hm
  obtain ⟨gs, caps, rfl, hll, b3⟩ := hm.lls
  have HS := Lib.hid hll
  replace BB := Lib.hid (next BB.out b3)
  replace LU := Lib.hid (LU.out.carry b3)
  replace HL := Lib.hid (HL.out.carry b3)
  clear hll b3 hm HZ
  by_cases hz : ls.length = 0
  · have hz2 : ((ls.length : Int) == 0) = true := by simp [hz]
    clear hz
    go_wp2_with fail
    refine (sameLanes_eq _ _ _ _ ls _ HL.out HS.out (by omega) (fun i hi => by have := OK.out.one i hi; omega)).mono ?_
    rintro e w4 ⟨rfl, q4⟩
    replace BB := Lib.hid (BB.out.trans ((q4.below _).mono BB.out.size))
    replace HL := Lib.hid (HL.out.carry (q4.below _))
    replace HS := Lib.hid (HS.out.carry (q4.below _))
    clear q4
    go_wp2_with fail
    refine (sameLanes_eq _ _ _ _ ls _ HL.out HS.out (by omega) (fun i hi => by have := OK.out.one i hi; omega)).mono ?_
    rintro e w5 ⟨rfl, q4⟩
    replace BB := Lib.hid (BB.out.trans ((q4.below _).mono BB.out.size))
    clear q4
    go_wp2_with fail
    go_ret
    exact ⟨rfl, BB.out⟩
  have HSum := Lib.hid (OK.out.sum (by omega))
  have hz2 : ((ls.length : Int) == 0) = false := by simp; intro e; subst e; exact hz rfl
  clear hz
  go_wp2_with fail
  refine (sameLanes_eq _ _ _ _ ls _ HL.out HS.out (by omega) (fun i hi => by have := OK.out.one i hi; omega)).mono ?_
  rintro e w4 ⟨rfl, q4⟩
  replace BB := Lib.hid (BB.out.trans ((q4.below _).mono BB.out.size))
  replace LU := Lib.hid (LU.out.carry (q4.below _))
  replace HL := Lib.hid (HL.out.carry (q4.below _))
  clear q4 HS
  go_wp2_with fail
  go_loopw [6, 7] (fun s i wr => ∃ k : Nat, k ≤ ls.length ∧ i = .int .i64 k ∧ s = .int .i64 (sumLen ls k : Int) ∧ sumLen ls k ≤ 17 * k ∧ Below w4.heap.size w4 wr) (fun _ i _ => ls.length - (intOf i).toNat)
  case atStart => exact ⟨0, Nat.zero_le _, rfl, rfl, Nat.le_refl _, Below.refl _ _⟩
  case round =>
    obtain ⟨i, hi, rfl, rfl, hsu, hb⟩ := hrel
    have HB := Lib.hid hb
    by_cases hlt : i < ls.length
    · have hpos := OK.out.pos i hlt
      have hl1 := OK.out.one i hlt
      obtain ⟨b1, o1, c1, p0, p1⟩ := (HL.out.carry hb).elem hlt hpos
      have p2 := p1 0 hpos
      rw [Nat.add_zero] at p2
      have hsu2 : sumLen ls (i + 1) ≤ 17 * (i + 1) := by simp only [sumLen]; omega
      have HSU := Lib.hid (show ((sumLen ls (i + 1) : Nat) : Int) = (sumLen ls i : Int) + ((nthL ls i).length : Int) by simp only [sumLen]; push_cast; rfl)
      have HSU2 := Lib.hid hsu2
      clear hsu2 p1
      have hne : (((nthL ls i).length : Int) == 0) = false := beq_false_of_ne (by omega)
      have hwn : IntKind.i64.wrap ((sumLen ls i : Int) + ((nthL ls i).length : Int)) = (sumLen ls i : Int) + ((nthL ls i).length : Int) := IntWalk.i64_in _ (by omega)
      have hi0 : (0 : Int) ≤ (i : Int) := by omega
      have hi1 : (i : Int) < (ls.length : Int) := by omega
      by_cases h0 : 0 < i
      · have hd : decide ((0 : Int) < (i : Int)) = true := by simp; omega
        have hlt' : i - 1 < ls.length := by omega
        have hpos' := OK.out.pos (i - 1) hlt'
        obtain ⟨b2, o2, c2, q0, q1⟩ := (HL.out.carry hb).elem hlt' hpos'
        have q2 := q1 0 hpos'
        rw [Nat.add_zero] at q2
        have hhd := OK.out.heads (i - 1) i (by omega) hlt
        obtain ⟨n2, hn2⟩ : ∃ n2, n2 = (nthL ls (i - 1)).length := ⟨_, rfl⟩
        obtain ⟨x2, hx2⟩ : ∃ x2, x2 = nth (nthL ls (i - 1)) 0 := ⟨_, rfl⟩
        rw [← hn2] at q0 hpos'
        rw [← hx2] at q2 hhd
        obtain ⟨x1, hx1⟩ : ∃ x1, x1 = nth (nthL ls i) 0 := ⟨_, rfl⟩
        rw [← hx1] at p2 hhd
        have hdec : decide (x1 ≤ x2) = false := decide_eq_false (by omega)
        have gp0 := fun p : GrowOf wr => GrowOf.cell p0 p
        have gp2 := fun p : GrowOf wr => GrowOf.cell p2 p
        have gq0 := fun p : GrowOf wr => GrowOf.cell q0 p
        have gq2 := fun p : GrowOf wr => GrowOf.cell q2 p
        have e2 : (0 : Int) ≤ (i : Int) - 1 := by omega
        have e3 : (i : Int) - 1 < (ls.length : Int) := by omega
        have HE1 := Lib.hid (show ((i : Int) - 1).toNat = i - 1 by omega)
        have HW2 := Lib.hid (show IntKind.i64.wrap ((i : Int) - 1) = (i : Int) - 1 from IntWalk.i64_in _ (by omega))
        clear q1 hb hn2 hx2 hx1
        go_wp2_with fail
        have e1 := HE1.out
        have hw2 := HW2.out
        refine wp_region_grow (by kernel_rfl) (by kernel_rfl) ?_
        repeat (go_big_quiet_step (fail))
        refine wpQuiet_nil ?_
        rintro _ ⟨pq, rfl⟩
        have HB3 := Lib.hid (HB.out.trans (pq.h.mono HB.out.size))
        clear e1 hw2 gp0 gp2 gq0 gq2 p0 p2 q0 q2
        generalize pq.W = w5 at HB3 ⊢
        go_wp2_with fail
        clear hwn hne hsu
        obtain ⟨sv, hsv⟩ : ∃ sv : Int, (sumLen ls i : Int) + ((nthL ls i).length : Int) = sv := ⟨_, rfl⟩
        rw [hsv]
        have HSV := Lib.hid (HSU.out.trans hsv)
        clear hsv
        go_loopw [8] (fun q wr => ∃ k : Nat, k ≤ (nthL ls i).length ∧ q = .int .i64 k ∧ Below w4.heap.size w4 wr) (fun q _ => (nthL ls i).length - (intOf q).toNat)
        case atStart => exact ⟨0, Nat.zero_le _, rfl, HB3.out⟩
        case round =>
          clear HB3 HB
          obtain ⟨a, ha, rfl, hb⟩ := hrel
          have HB := Lib.hid hb
          by_cases hlt3 : a < (nthL ls i).length
          · obtain ⟨b1, o1, c1, p0, p1⟩ := (HL.out.carry hb).elem hlt hpos
            obtain ⟨x, hx, ex⟩ := OK.out.at_ i a hlt hlt3
            have r0 := p1 a hlt3
            rw [ex] at r0
            have hge : decide ((bs.length : Int) ≤ (x : Int)) = false := decide_eq_false (by omega)
            have hge2 : decide (bs.length ≤ x) = false := decide_eq_false (by omega)
            have ha0 : (0 : Int) ≤ (a : Int) := by omega
            have ha1 : (a : Int) < ((nthL ls i).length : Int) := by omega
            have gp0 := fun p : GrowOf wr => GrowOf.cell p0 p
            have gr0 := fun p : GrowOf wr => GrowOf.cell r0 p
            by_cases h0a : 0 < a
            · have hda : decide ((0 : Int) < (a : Int)) = true := by simp; omega
              have s0 := p1 (a - 1) (by omega)
              have hasc := OK.out.asc i (a - 1) a hlt (by omega) hlt3
              rw [ex] at hasc
              obtain ⟨y, hy⟩ : ∃ y, y = nth (nthL ls i) (a - 1) := ⟨_, rfl⟩
              rw [← hy] at s0 hasc
              have hdec2 : decide ((x : Int) ≤ y) = false := decide_eq_false (by omega)
              have gs0 := fun p : GrowOf wr => GrowOf.cell s0 p
              have f2 : (0 : Int) ≤ (a : Int) - 1 := by omega
              have f3 : (a : Int) - 1 < ((nthL ls i).length : Int) := by omega
              have HF1 := Lib.hid (show ((a : Int) - 1).toNat = a - 1 by omega)
              have HF2 := Lib.hid (show IntKind.i64.wrap ((a : Int) - 1) = (a : Int) - 1 from IntWalk.i64_in _ (by omega))
              clear p1 hb hy ex
              go_wp2_with fail
              have f1 := HF1.out
              have hfw := HF2.out
              refine wp_region_grow (by kernel_rfl) (by kernel_rfl) ?_
              repeat (go_big_quiet_step (fail))
              refine wpQuiet_nil ?_
              rintro _ ⟨pr, rfl⟩
              have HB4 := Lib.hid (HB.out.trans (pr.h.mono HB.out.size))
              clear f1 hfw gp0 gr0 gs0 p0 r0 s0
              go_wp2_with fail
              go_roundw
              case rel => exact ⟨a + 1, by omega, by go_num, HB4.out⟩
              case measure => simp [intOf]; omega
            · have hda : decide ((0 : Int) < (a : Int)) = false := by simp; omega
              clear p1 hb ex
              go_wp2_with fail
              refine wp_region_grow (by kernel_rfl) (by kernel_rfl) ?_
              repeat (go_big_quiet_step (fail))
              refine wpQuiet_nil ?_
              rintro _ ⟨pr, rfl⟩
              have HB4 := Lib.hid (HB.out.trans (pr.h.mono HB.out.size))
              clear gp0 gr0 p0 r0
              go_wp2_with fail
              go_roundw
              case rel => exact ⟨a + 1, by omega, by go_num, HB4.out⟩
              case measure => simp [intOf]; omega
          · obtain ⟨A2, c2, y0, _⟩ := (HL.out.carry hb).row hlt
            clear hb
            try clear hdec
            try clear hhd
            try clear hd
            try clear e2
            try clear e3
            try clear hi0
            try clear hi1
            try clear h0
            try clear hz2
            try clear hpos'
            try clear hlt'
            go_wp2_with fail
            go_roundw
            case rel => exact ⟨i + 1, by omega, by go_num, by rw [HSV.out], HSU2.out, HB.out⟩
            case measure => simp [intOf]; omega
      · have e : i = 0 := by omega
        have hd : decide ((0 : Int) < (i : Int)) = false := by simp; omega
        have gp0 := fun p : GrowOf wr => GrowOf.cell p0 p
        have gp2 := fun p : GrowOf wr => GrowOf.cell p2 p
        clear hb e
        go_wp2_with fail
        refine wp_region_grow (by kernel_rfl) (by kernel_rfl) ?_
        repeat (go_big_quiet_step (fail))
        refine wpQuiet_nil ?_
        rintro _ ⟨pq, rfl⟩
        have HB3 := Lib.hid (HB.out.trans (pq.h.mono HB.out.size))
        clear gp0 gp2 p0 p2
        generalize pq.W = w5 at HB3 ⊢
        go_wp2_with fail
        clear hwn hne hsu
        obtain ⟨sv, hsv⟩ : ∃ sv : Int, (sumLen ls i : Int) + ((nthL ls i).length : Int) = sv := ⟨_, rfl⟩
        rw [hsv]
        have HSV := Lib.hid (HSU.out.trans hsv)
        clear hsv
        go_loopw [8] (fun q wr => ∃ k : Nat, k ≤ (nthL ls i).length ∧ q = .int .i64 k ∧ Below w4.heap.size w4 wr) (fun q _ => (nthL ls i).length - (intOf q).toNat)
        case atStart => exact ⟨0, Nat.zero_le _, rfl, HB3.out⟩
        case round =>
          clear HB3 HB
          obtain ⟨a, ha, rfl, hb⟩ := hrel
          have HB := Lib.hid hb
          by_cases hlt3 : a < (nthL ls i).length
          · obtain ⟨b1, o1, c1, p0, p1⟩ := (HL.out.carry hb).elem hlt hpos
            obtain ⟨x, hx, ex⟩ := OK.out.at_ i a hlt hlt3
            have r0 := p1 a hlt3
            rw [ex] at r0
            have hge : decide ((bs.length : Int) ≤ (x : Int)) = false := decide_eq_false (by omega)
            have hge2 : decide (bs.length ≤ x) = false := decide_eq_false (by omega)
            have ha0 : (0 : Int) ≤ (a : Int) := by omega
            have ha1 : (a : Int) < ((nthL ls i).length : Int) := by omega
            have gp0 := fun p : GrowOf wr => GrowOf.cell p0 p
            have gr0 := fun p : GrowOf wr => GrowOf.cell r0 p
            by_cases h0a : 0 < a
            · have hda : decide ((0 : Int) < (a : Int)) = true := by simp; omega
              have s0 := p1 (a - 1) (by omega)
              have hasc := OK.out.asc i (a - 1) a hlt (by omega) hlt3
              rw [ex] at hasc
              obtain ⟨y, hy⟩ : ∃ y, y = nth (nthL ls i) (a - 1) := ⟨_, rfl⟩
              rw [← hy] at s0 hasc
              have hdec2 : decide ((x : Int) ≤ y) = false := decide_eq_false (by omega)
              have gs0 := fun p : GrowOf wr => GrowOf.cell s0 p
              have f2 : (0 : Int) ≤ (a : Int) - 1 := by omega
              have f3 : (a : Int) - 1 < ((nthL ls i).length : Int) := by omega
              have HF1 := Lib.hid (show ((a : Int) - 1).toNat = a - 1 by omega)
              have HF2 := Lib.hid (show IntKind.i64.wrap ((a : Int) - 1) = (a : Int) - 1 from IntWalk.i64_in _ (by omega))
              clear p1 hb hy ex
              go_wp2_with fail
              have f1 := HF1.out
              have hfw := HF2.out
              refine wp_region_grow (by kernel_rfl) (by kernel_rfl) ?_
              repeat (go_big_quiet_step (fail))
              refine wpQuiet_nil ?_
              rintro _ ⟨pr, rfl⟩
              have HB4 := Lib.hid (HB.out.trans (pr.h.mono HB.out.size))
              clear f1 hfw gp0 gr0 gs0 p0 r0 s0
              go_wp2_with fail
              go_roundw
              case rel => exact ⟨a + 1, by omega, by go_num, HB4.out⟩
              case measure => simp [intOf]; omega
            · have hda : decide ((0 : Int) < (a : Int)) = false := by simp; omega
              clear p1 hb ex
              go_wp2_with fail
              refine wp_region_grow (by kernel_rfl) (by kernel_rfl) ?_
              repeat (go_big_quiet_step (fail))
              refine wpQuiet_nil ?_
              rintro _ ⟨pr, rfl⟩
              have HB4 := Lib.hid (HB.out.trans (pr.h.mono HB.out.size))
              clear gp0 gr0 p0 r0
              go_wp2_with fail
              go_roundw
              case rel => exact ⟨a + 1, by omega, by go_num, HB4.out⟩
              case measure => simp [intOf]; omega
          · obtain ⟨A2, c2, y0, _⟩ := (HL.out.carry hb).row hlt
            clear hb
            try clear hdec
            try clear hhd
            try clear hd
            try clear e2
            try clear e3
            try clear hi0
            try clear hi1
            try clear h0
            try clear hz2
            try clear hpos'
            try clear hlt'
            go_wp2_with fail
            go_roundw
            case rel => exact ⟨i + 1, by omega, by go_num, by rw [HSV.out], HSU2.out, HB.out⟩
            case measure => simp [intOf]; omega
    · have e : i = ls.length := by omega
      subst e
      have hq : ((sumLen ls ls.length : Int) == (bs.length : Int)) = true := by rw [HSum.out]; simp
      have BF := Lib.hid (BB.out.trans (HB.out.mono BB.out.size))
      clear hb
      go_wp2_with fail
      go_ret
      exact ⟨rfl, BF.out⟩

set_option maxRecDepth 100000 in
theorem lifted (os : Os) (started : os.Started) (H : Type) (enc : TypeId × Value → H) :
    ReturnsInHanded {} Try.checked os 8 .any (Rows.fnLanesPartitionSpec.pre6 enc Try.prog Try.f8 Rows.fnLanesPartitionRow.domain false) (Rows.fnLanesPartitionSpec.post enc Try.prog Try.f8 false true false false) := by
  refine returnsInHanded_of_change (C := Try.checked) own started (by kernel_rfl) Try.func8
    (ChangeSpec.witness6 (enc := enc) (C := Try.checked) false ⟨#[], #[.slice none 0 0], []⟩ 8 (by kernel_rfl) (by kernel_rfl) (by kernel_rfl) (by kernel_rfl)) ?_
  intro W base args ds gs before hval0 hW hcnd _
  have hval : ∀ (j : Nat) t v, Try.f8.params[j]? = some t → args[j]? = some v → Value.okWide Try.prog W .any base t v := hval0
  have hW' := hW
  obtain ⟨p, q, hA0, hV, rfl, hfz, hnd⟩ := hW
  have hA : DataW.TrodAll enc Try.prog W 0 (fun _ => true) true Try.f8.params.toList args.toList ds p := hA0
  rw [Try.params8] at hA hval
  obtain ⟨v0, vs0, d0, ds0, p0, q0, hargs, rfl, rfl, h0, r0⟩ := trodAll_cons hA
  obtain ⟨rfl, rfl, rfl⟩ := trodAll_nil r0
  obtain rfl : args = #[v0] := by cases args; simp_all
  obtain ⟨rfl, rfl⟩ := trodVars_none hV
  obtain ⟨a0, len0, c0, rfl⟩ := okWide_slice Try.underlying38 (hval 0 38 v0 rfl rfl)
  have k0 := h0
  have lt0 : ∀ x ∈ p0, x.block < W.heap.size := by obtain ⟨m, hm⟩ := k0; exact DataW.trod_lt m _ _ _ hm
  obtain ⟨z0, rfl, w0⟩ := bytes_of_trod h0
  clear hA0 hval0
  refine (walk a0 c0 z0 W w0).mono fun e W' ⟨he, bel⟩ => ?_
  subst he
  exact ⟨_, rfl, _, _, _, [], _, [], hW', trodAll_mk1 (shut_bool Try.underlying4 _), (trodAll_cons_mk (Below.trod laidOut (by kernel_rfl) (of_decide_eq_true (by kernel_rfl)) k0 bel lt0) trodAll_mk0), rfl, bel.frame _, fun h => by cases h⟩

theorem over : Rows.fnLanesPartitionRow.holds Try.pinned (OpenSpec.ofChange Rows.fnLanesPartitionSpec) :=
  OpenClaim.holds_of_wide 8 Try.f8 rfl rfl rfl rfl rfl rfl rfl ⟨rfl, rfl, rfl, rfl, rfl⟩ rfl rfl rfl rfl rfl (by kernel_rfl) Try.func8 (by kernel_rfl)
    (of_decide_eq_true (by kernel_rfl)) (by unfold Func.isWrapper; first | (rw [if_pos (by decide +kernel)]; kernel_rfl) | (rw [if_neg (by decide +kernel)]; exact ⟨rfl, rfl⟩))
    (fun os started H enc _ => lifted os started H enc)

/-- The given statement. -/
theorem proved : Rows.FnLanesPartitionSaid := over
#print axioms proved
end Go.Proofs.Ytdleibkkjnodlaa.lawLanesPartition
