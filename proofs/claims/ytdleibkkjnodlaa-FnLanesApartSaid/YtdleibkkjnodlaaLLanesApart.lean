/- The law FnLanesApart holds for every input: no two transactions of two lanes conflict. -/
import Derived.Test.YtdleibkkjnodlaaLaneR
import Derived.Test.YtdleibkkjnodlaaTxn
import Derived.Test.YtdleibkkjnodlaaArgs
namespace Go.Proofs.Ytdleibkkjnodlaa.lawLanesApart
open Go.ChangeShapes Go.WideShapes Go.ChangeAt Go.RowKit
set_option linter.unusedVariables false

set_option maxHeartbeats 16000000 in
theorem walk (a0 : Option Addr) (c0 : Nat) (z0 : List Int) (w : World) (h0 : Bytes w w.heap.size a0 z0 ∧ z0.length ≤ c0) :
    Calls Try.prog 6 #[.slice a0 z0.length c0] w fun e w' => e = .returned (.bool true) ∧ Below w.heap.size w w' := by
  by_cases hbig0 : (1048576 : Int) < z0.length
  · go_enter Try.func6, Try.ntmps6
    go_wp2_with fail
    go_ret
    exact ⟨rfl, Below.refl _ _⟩
  have hn0 : z0.length ≤ 1048576 := by omega
  have H0 := Lib.hid h0
  clear h0
  go_enter Try.func6, Try.ntmps6
  go_wp2_with fail
  refine (s_DrawLanesOf _ _ _ _ H0.out.1 H0.out.2 hn0).mono ?_
  rintro e w1 ⟨g, c, bs, rfl, hl, hu, b1⟩
  have BB := Lib.hid b1
  have LU := Lib.hid hu.lst
  obtain ⟨ls, hls⟩ : ∃ ls, ls = lanesZ bs := ⟨_, rfl⟩
  have OK := Lib.hid (show LaneOK bs ls by rw [hls]; exact laneOK bs hl)
  have HZ := Lib.hid hls.symm
  have hlen := OK.out.len
  clear b1 hu hls H0 hbig0
  go_wp2_with fail
  refine (i_LanesOf _ _ bs _ LU.out (by omega)).mono ?_
  intro e w2 hm
  rw [HZ.out] at hm
  obtain ⟨gl, cap, rfl, hll, b2⟩ := hm.lls
  have HL := Lib.hid hll
  replace BB := Lib.hid (next BB.out b2)
  replace LU := Lib.hid (LU.out.carry b2)
  clear hll b2 hm
  go_wp2_with fail
  refine (s_LanesOf _ _ bs _ LU.out (by omega)).mono ?_
  intro e w3 hm
  rw [HZ.out] at hm
  obtain ⟨gs, caps, rfl, hll, b3⟩ := hm.lls
  have HS := Lib.hid hll
  replace BB := Lib.hid (next BB.out b3)
  replace LU := Lib.hid (LU.out.carry b3)
  replace HL := Lib.hid (HL.out.carry b3)
  clear hll b3 hm HZ
  go_wp2_with fail
  refine (sameLanes_eq _ _ _ _ ls _ HL.out HS.out (by omega) (fun i hi => by have := OK.out.one i hi; omega)).mono ?_
  rintro e w4 ⟨rfl, q4⟩
  replace BB := Lib.hid (BB.out.trans ((q4.below _).mono BB.out.size))
  replace LU := Lib.hid (LU.out.carry (q4.below _))
  replace HL := Lib.hid (HL.out.carry (q4.below _))
  clear q4 HS
  go_wp2_with fail
  go_loopw [6] (fun i wr => ∃ k : Nat, k ≤ ls.length ∧ i = .int .i64 k ∧ Below w4.heap.size w4 wr) (fun i _ => ls.length - (intOf i).toNat)
  case atStart => exact ⟨0, Nat.zero_le _, rfl, Below.refl _ _⟩
  case round =>
    obtain ⟨i, hi, rfl, hb⟩ := hrel
    have HB := Lib.hid hb
    clear hb
    by_cases hlt : i < ls.length
    · go_wp2_with fail
      go_loopw [7] (fun q wr => ∃ k : Nat, k ≤ i ∧ q = .int .i64 k ∧ Below w4.heap.size w4 wr) (fun q _ => i - (intOf q).toNat)
      case atStart => exact ⟨0, Nat.zero_le _, rfl, HB.out⟩
      case round =>
        clear HB
        obtain ⟨j, hj, rfl, hb⟩ := hrel
        have HB := Lib.hid hb
        clear hb
        by_cases hlt2 : j < i
        · go_wp2_with fail
          go_loopw [8] (fun q wr => ∃ k : Nat, k ≤ (nthL ls i).length ∧ q = .int .i64 k ∧ Below w4.heap.size w4 wr) (fun q _ => (nthL ls i).length - (intOf q).toNat)
          case atStart => exact ⟨0, Nat.zero_le _, rfl, HB.out⟩
          case round =>
            clear HB
            obtain ⟨a, ha, rfl, hb⟩ := hrel
            have HB := Lib.hid hb
            obtain ⟨A1, c1, x0, _⟩ := (HL.out.carry hb).row hlt
            have hl1 := OK.out.one i hlt
            clear hb
            by_cases hlt3 : a < (nthL ls i).length
            · go_wp2_with fail
              go_loopw [9] (fun q wr => ∃ k : Nat, k ≤ (nthL ls j).length ∧ q = .int .i64 k ∧ Below w4.heap.size w4 wr) (fun q _ => (nthL ls j).length - (intOf q).toNat)
              case atStart => exact ⟨0, Nat.zero_le _, rfl, HB.out⟩
              case round =>
                clear HB x0
                obtain ⟨b, hbl, rfl, hb⟩ := hrel
                have HB := Lib.hid hb
                have hltj : j < ls.length := by omega
                have hl2 := OK.out.one j hltj
                by_cases hlt4 : b < (nthL ls j).length
                · obtain ⟨b1, o1, d1, p0, p1⟩ := (HL.out.carry hb).elem hlt hlt3
                  obtain ⟨b2, o2, d2, q0, q1⟩ := (HL.out.carry hb).elem hltj hlt4
                  obtain ⟨x, hx, ex⟩ := OK.out.at_ i a hlt hlt3
                  obtain ⟨y, hy, ey⟩ := OK.out.at_ j b hltj hlt4
                  have r0 := p1 a hlt3
                  have s0 := q1 b hlt4
                  rw [ex] at r0
                  rw [ey] at s0
                  obtain ⟨x0, x1, x2, x3⟩ := (LU.out.carry hb).cells hx
                  obtain ⟨y0, y1, y2, y3⟩ := (LU.out.carry hb).cells hy
                  have hcf := OK.out.apart i j a b x y hlt hlt2 hlt3 hlt4 ex ey hx hy
                  unfold confT at hcf
                  generalize nthTxn bs x = X at x0 x1 x2 x3 hcf
                  generalize nthTxn bs y = Y at y0 y1 y2 y3 hcf
                  have hsz := hb.size
                  have HC2 := Lib.hid hcf
                  clear hcf p1 q1 ex ey hb
                  generalize hn1 : (nthL ls i).length = n1 at p0 hlt3 hl1 ⊢
                  generalize hn2 : (nthL ls j).length = n2 at q0 hlt4 hl2 hbl ⊢
                  have gp0 := fun p : GrowOf wr => GrowOf.cell p0 p
                  have gq0 := fun p : GrowOf wr => GrowOf.cell q0 p
                  have gr0 := fun p : GrowOf wr => GrowOf.cell r0 p
                  have gs0 := fun p : GrowOf wr => GrowOf.cell s0 p
                  have gx0 := fun p : GrowOf wr => GrowOf.cell x0 p
                  have gx1 := fun p : GrowOf wr => GrowOf.cell x1 p
                  have gx2 := fun p : GrowOf wr => GrowOf.cell x2 p
                  have gx3 := fun p : GrowOf wr => GrowOf.cell x3 p
                  have gy0 := fun p : GrowOf wr => GrowOf.cell y0 p
                  have gy1 := fun p : GrowOf wr => GrowOf.cell y1 p
                  have gy2 := fun p : GrowOf wr => GrowOf.cell y2 p
                  have gy3 := fun p : GrowOf wr => GrowOf.cell y3 p
                  have hi0 : (0 : Int) ≤ (i : Int) := by omega
                  have hi1 : (i : Int) < (ls.length : Int) := by omega
                  have hj0 : (0 : Int) ≤ (j : Int) := by omega
                  have hj1 : (j : Int) < (ls.length : Int) := by omega
                  have ha0 : (0 : Int) ≤ (a : Int) := by omega
                  have ha1 : (a : Int) < (n1 : Int) := by omega
                  have hb0 : (0 : Int) ≤ (b : Int) := by omega
                  have hb1 : (b : Int) < (n2 : Int) := by omega
                  have hx0 : (0 : Int) ≤ (x : Int) := by omega
                  have hx1 : (x : Int) < (bs.length : Int) := by omega
                  have hy0 : (0 : Int) ≤ (y : Int) := by omega
                  have hy1 : (y : Int) < (bs.length : Int) := by omega
                  have T1 : Hid (∀ p : GrowOf wr, Calls Try.prog 27 #[.agg #[.int .i64 X.f, .int .i64 X.t, .int .i64 X.s, .int .i64 X.e], .agg #[.int .i64 Y.f, .int .i64 Y.t, .int .i64 Y.s, .int .i64 Y.e]] p.W fun e w' => e = .returned (.bool false) ∧ Below p.W.heap.size p.W w') := Lib.hid (fun p => by
                    have h := i_TxnsConflict X.f X.t X.s X.e Y.f Y.t Y.s Y.e p.W
                    rw [HC2.out] at h; exact h)
                  go_wp2_with fail
                  refine wp_region_grow (by kernel_rfl) (by kernel_rfl) ?_
                  repeat (go_big_quiet_step (first | (go_at_call 27; with_reducible exact grow_below (T1.out _))))
                  refine wpQuiet_nil ?_
                  rintro _ ⟨pq, rfl⟩
                  have HB3 := Lib.hid (HB.out.trans (pq.h.mono hsz))
                  clear gp0 gq0 gr0 gs0 gx0 gx1 gx2 gx3 gy0 gy1 gy2 gy3 x0 x1 x2 x3 y0 y1 y2 y3 p0 q0 r0 s0 T1
                  go_wp2_with fail
                  go_roundw
                  case rel => exact ⟨b + 1, by omega, by go_num, HB3.out⟩
                  case measure => simp [intOf]; omega
                · obtain ⟨A2, c2, y0, _⟩ := (HL.out.carry hb).row hltj
                  clear hb
                  go_wp2_with fail
                  go_roundw
                  case rel => exact ⟨a + 1, by omega, by go_num, HB.out⟩
                  case measure => simp [intOf]; omega
            · go_wp2_with fail
              go_roundw
              case rel => exact ⟨j + 1, by omega, by go_num, HB.out⟩
              case measure => simp [intOf]; omega
        · go_wp2_with fail
          go_roundw
          case rel => exact ⟨i + 1, by omega, by go_num, HB.out⟩
          case measure => simp [intOf]; omega
    · have e : i = ls.length := by omega
      subst e
      have BF := Lib.hid (BB.out.trans (HB.out.mono BB.out.size))
      go_wp2_with fail
      go_ret
      exact ⟨rfl, BF.out⟩

set_option maxRecDepth 100000 in
theorem lifted (os : Os) (started : os.Started) (H : Type) (enc : TypeId × Value → H) :
    ReturnsInHanded {} Try.checked os 6 .any (Rows.fnLanesApartSpec.pre6 enc Try.prog Try.f6 Rows.fnLanesApartRow.domain false) (Rows.fnLanesApartSpec.post enc Try.prog Try.f6 false true false false) := by
  refine returnsInHanded_of_change (C := Try.checked) own started (by kernel_rfl) Try.func6
    (ChangeSpec.witness6 (enc := enc) (C := Try.checked) false ⟨#[], #[.slice none 0 0], []⟩ 8 (by kernel_rfl) (by kernel_rfl) (by kernel_rfl) (by kernel_rfl)) ?_
  intro W base args ds gs before hval0 hW hcnd _
  have hval : ∀ (j : Nat) t v, Try.f6.params[j]? = some t → args[j]? = some v → Value.okWide Try.prog W .any base t v := hval0
  have hW' := hW
  obtain ⟨p, q, hA0, hV, rfl, hfz, hnd⟩ := hW
  have hA : DataW.TrodAll enc Try.prog W 0 (fun _ => true) true Try.f6.params.toList args.toList ds p := hA0
  rw [Try.params6] at hA hval
  obtain ⟨v0, vs0, d0, ds0, p0, q0, hargs, rfl, rfl, h0, r0⟩ := trodAll_cons hA
  obtain ⟨rfl, rfl, rfl⟩ := trodAll_nil r0
  obtain rfl : args = #[v0] := by cases args; simp_all
  obtain ⟨rfl, rfl⟩ := trodVars_none hV
  obtain ⟨a0, len0, c0, rfl⟩ := okWide_slice Try.underlying38 (hval 0 38 v0 rfl rfl)
  have k0 := h0
  have lt0 : ∀ x ∈ p0, x.block < W.heap.size := by obtain ⟨m, hm⟩ := k0; exact DataW.trod_lt m _ _ _ hm
  obtain ⟨z0, rfl, w0⟩ := bytes_of_trod h0
  clear hA0 hval0
  refine (walk a0 c0 z0 W w0).mono fun e W' ⟨he, bel⟩ => ?_
  subst he
  exact ⟨_, rfl, _, _, _, [], _, [], hW', trodAll_mk1 (shut_bool Try.underlying4 _), (trodAll_cons_mk (Below.trod laidOut (by kernel_rfl) (of_decide_eq_true (by kernel_rfl)) k0 bel lt0) trodAll_mk0), rfl, bel.frame _, fun h => by cases h⟩

theorem over : Rows.fnLanesApartRow.holds Try.pinned (OpenSpec.ofChange Rows.fnLanesApartSpec) :=
  OpenClaim.holds_of_wide 6 Try.f6 rfl rfl rfl rfl rfl rfl rfl ⟨rfl, rfl, rfl, rfl, rfl⟩ rfl rfl rfl rfl rfl (by kernel_rfl) Try.func6 (by kernel_rfl)
    (of_decide_eq_true (by kernel_rfl)) (by unfold Func.isWrapper; first | (rw [if_pos (by decide +kernel)]; kernel_rfl) | (rw [if_neg (by decide +kernel)]; exact ⟨rfl, rfl⟩))
    (fun os started H enc _ => lifted os started H enc)

/-- The given statement. -/
theorem proved : Rows.FnLanesApartSaid := over
#print axioms proved
end Go.Proofs.Ytdleibkkjnodlaa.lawLanesApart
