/- The law FnLanesDepth holds for every input: both depths agree, the longest lane is the depth, and the depth is 0 exactly for no transactions. -/
import Derived.Test.YtdleibkkjnodlaaLaneW
import Derived.Test.YtdleibkkjnodlaaArgs
namespace Go.Proofs.Ytdleibkkjnodlaa.lawLanesDepth
open Go.ChangeShapes Go.WideShapes Go.ChangeAt Go.RowKit
set_option linter.unusedVariables false

set_option maxHeartbeats 8000000 in
theorem walk (a0 : Option Addr) (c0 : Nat) (z0 : List Int) (w : World) (h0 : Bytes w w.heap.size a0 z0 ∧ z0.length ≤ c0) :
    Calls Try.prog 5 #[.slice a0 z0.length c0] w fun e w' => e = .returned (.bool true) ∧ Below w.heap.size w w' := by
  by_cases hbig0 : (1048576 : Int) < z0.length
  · go_enter Try.func5, Try.ntmps5
    go_wp2_with fail
    go_ret
    exact ⟨rfl, Below.refl _ _⟩
  have hn0 : z0.length ≤ 1048576 := by omega
  have H0 := Lib.hid h0
  clear h0
  go_enter Try.func5, Try.ntmps5
  go_wp2_with fail
  refine (s_DrawLanesDepth _ _ _ _ H0.out.1 H0.out.2 hn0).mono ?_
  rintro e w1 ⟨g, c, bs, rfl, hl, hu, b1⟩
  have BB := Lib.hid b1
  have LU := Lib.hid hu.lst
  have hv : (depthZ bs != depthZ bs) = false := by simp
  have hs : (depthZ bs == depthZ bs) = true := by simp
  clear b1 hu
  go_wp2_with fail
  refine (i_LanesDepth _ _ bs _ LU.out (by omega)).mono ?_
  rintro e w2 ⟨rfl, b2⟩
  replace BB := Lib.hid (next BB.out b2)
  replace LU := Lib.hid (LU.out.carry b2)
  clear b2
  go_wp2_with fail
  refine (s_LanesDepth _ _ bs _ LU.out (by omega)).mono ?_
  rintro e w3 ⟨rfl, b3⟩
  replace BB := Lib.hid (next BB.out b3)
  replace LU := Lib.hid (LU.out.carry b3)
  clear b3
  rcases hr : txnsB bs with _ | _
  · have hneg : depthZ bs < 0 := by simp [depthZ, hr]
    clear hr
    go_wp2_with fail
    go_ret
    exact ⟨rfl, BB.out⟩
  obtain ⟨L, hL, hLe⟩ := lanesT_lab bs
  obtain ⟨ls, hls⟩ : ∃ ls, ls = lanesT bs := ⟨_, rfl⟩
  have HZ := Lib.hid (show lanesZ bs = ls by rw [hls]; simp [lanesZ, hr])
  have hD : depthZ bs = (depthTo ls ls.length : Int) := by rw [hls]; simp [depthZ, hr]
  have hlen : ls.length ≤ 17 := by rw [hls]; exact Nat.le_trans lanesT_len hl
  have HD := Lib.hid (show ∀ i, i < ls.length → (nthL ls i).length ≤ 17 from fun i hi => by rw [hls] at hi ⊢; exact Nat.le_trans (lanesT_one hi) hl)
  have hz : (depthTo ls ls.length = 0) ↔ bs.length = 0 := by rw [hls, hLe]; exact depth_zero hL
  have hpos : (0 : Int) ≤ depthZ bs := by rw [hD]; omega
  have hdp : decide (depthZ bs < 0) = false := decide_eq_false (by omega)
  have HE := Lib.hid (show (((depthTo ls ls.length : Int) == 0) == ((bs.length : Int) == 0)) = true by
    by_cases e0 : bs.length = 0
    · simp [hz.2 e0, e0]
    · have e1 : ¬ (depthTo ls ls.length : Int) = 0 := fun e => e0 (hz.1 (by omega))
      have e2 : ¬ (bs.length : Int) = 0 := by omega
      rw [beq_false_of_ne e1, beq_false_of_ne e2]; rfl)
  clear hr hLe hL hls hz
  go_wp2_with fail
  refine (i_LanesOf _ _ bs _ LU.out (by omega)).mono ?_
  intro e w4 hm
  rw [HZ.out] at hm
  obtain ⟨gl, cap, rfl, hll, b4⟩ := hm.lls
  have HL := Lib.hid hll
  replace BB := Lib.hid (next BB.out b4)
  clear hll b4 hm LU HZ
  go_wp2_with fail
  go_loop [7, 8] (fun v q => ∃ k : Nat, k ≤ ls.length ∧ q = .int .i64 k ∧ v = .int .i64 (depthTo ls k : Int)) (fun _ q => ls.length - (intOf q).toNat)
  case atStart => exact ⟨0, Nat.zero_le _, rfl, rfl⟩
  case round =>
    obtain ⟨k, hk, rfl, rfl⟩ := hrel
    by_cases hlt : k < ls.length
    · obtain ⟨b, off, hgb, hbb, hc⟩ := HL.out.at_ hlt
      injection hgb with hgb
      injection hgb with e1 e2
      subst e1; subst e2
      obtain ⟨A', c', c1, _, hcc⟩ := hc k hlt
      rw [Nat.zero_add] at c1
      have hd16 := HD.out k hlt
      have HN := Lib.hid (show depthTo ls (k + 1) = max (depthTo ls k) (nthL ls k).length from rfl)
      have hdq : depthTo ls k ≤ 17 := depthTo_le (fun i hi => HD.out i (by omega))
      clear hc
      generalize (nthL ls k).length = l at c1 hd16 HN hcc
      generalize depthTo ls k = d at hdq HN ⊢
      by_cases hm : d < l
      · have hm2 : ¬ l < d := by omega
        have hm3 : ¬ l ≤ d := by omega
        go_wp2_with fail
        go_round
        case rel => exact ⟨k + 1, by omega, by go_num, by rw [HN.out, Nat.max_eq_right (by omega)]⟩
        case measure => simp [intOf]; omega
      · have hm2 : l ≤ d := by omega
        go_wp2_with fail
        go_round
        case rel => exact ⟨k + 1, by omega, by go_num, by rw [HN.out, Nat.max_eq_left (by omega)]⟩
        case measure => simp [intOf]; omega
    · have e : k = ls.length := by omega
      subst e
      have hq : ((depthTo ls ls.length : Int) == depthZ bs) = true := by rw [hD]; simp
      go_wp2_with fail
      go_ret
      exact ⟨ret_bool HE.out, BB.out⟩

set_option maxRecDepth 100000 in
theorem lifted (os : Os) (started : os.Started) (H : Type) (enc : TypeId × Value → H) :
    ReturnsInHanded {} Try.checked os 5 .any (Rows.fnLanesDepthSpec.pre6 enc Try.prog Try.f5 Rows.fnLanesDepthRow.domain false) (Rows.fnLanesDepthSpec.post enc Try.prog Try.f5 false true false false) := by
  refine returnsInHanded_of_change (C := Try.checked) own started (by kernel_rfl) Try.func5
    (ChangeSpec.witness6 (enc := enc) (C := Try.checked) false ⟨#[], #[.slice none 0 0], []⟩ 8 (by kernel_rfl) (by kernel_rfl) (by kernel_rfl) (by kernel_rfl)) ?_
  intro W base args ds gs before hval0 hW hcnd _
  have hval : ∀ (j : Nat) t v, Try.f5.params[j]? = some t → args[j]? = some v → Value.okWide Try.prog W .any base t v := hval0
  have hW' := hW
  obtain ⟨p, q, hA0, hV, rfl, hfz, hnd⟩ := hW
  have hA : DataW.TrodAll enc Try.prog W 0 (fun _ => true) true Try.f5.params.toList args.toList ds p := hA0
  rw [Try.params5] at hA hval
  obtain ⟨v0, vs0, d0, ds0, p0, q0, hargs, rfl, rfl, h0, r0⟩ := trodAll_cons hA
  obtain ⟨rfl, rfl, rfl⟩ := trodAll_nil r0
  obtain rfl : args = #[v0] := by cases args; simp_all
  obtain ⟨rfl, rfl⟩ := trodVars_none hV
  obtain ⟨a0, len0, c0, rfl⟩ := okWide_slice Try.underlying38 (hval 0 38 v0 rfl rfl)
  have k0 := h0
  have lt0 : ∀ x ∈ p0, x.block < W.heap.size := by obtain ⟨m, hm⟩ := k0; exact DataW.trod_lt m _ _ _ hm
  obtain ⟨z0, rfl, w0⟩ := bytes_of_trod h0
  clear hA0 hval0
  refine (walk a0 c0 z0 W w0).mono fun e W' ⟨he, bel⟩ => ?_
  subst he
  exact ⟨_, rfl, _, _, _, [], _, [], hW', trodAll_mk1 (shut_bool Try.underlying4 _), (trodAll_cons_mk (Below.trod laidOut (by kernel_rfl) (of_decide_eq_true (by kernel_rfl)) k0 bel lt0) trodAll_mk0), rfl, bel.frame _, fun h => by cases h⟩

theorem over : Rows.fnLanesDepthRow.holds Try.pinned (OpenSpec.ofChange Rows.fnLanesDepthSpec) :=
  OpenClaim.holds_of_wide 5 Try.f5 rfl rfl rfl rfl rfl rfl rfl ⟨rfl, rfl, rfl, rfl, rfl⟩ rfl rfl rfl rfl rfl (by kernel_rfl) Try.func5 (by kernel_rfl)
    (of_decide_eq_true (by kernel_rfl)) (by unfold Func.isWrapper; first | (rw [if_pos (by decide +kernel)]; kernel_rfl) | (rw [if_neg (by decide +kernel)]; exact ⟨rfl, rfl⟩))
    (fun os started H enc _ => lifted os started H enc)

/-- The given statement. -/
theorem proved : Rows.FnLanesDepthSaid := over
#print axioms proved
end Go.Proofs.Ytdleibkkjnodlaa.lawLanesDepth
