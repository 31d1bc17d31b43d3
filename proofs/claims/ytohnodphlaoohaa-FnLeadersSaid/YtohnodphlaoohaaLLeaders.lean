/- The law FnLeaders holds for every input: leaders are members. -/
import Derived.Test.YtohnodphlaoohaaCmt3
import Derived.Test.YtohnodphlaoohaaDraw4
import Derived.Test.YtohnodphlaoohaaArgs
namespace Go.Proofs.Ytohnodphlaoohaa.lawLeaders
open Go.ChangeShapes Go.WideShapes Go.ChangeAt Go.RowKit
set_option linter.unusedVariables false

def okTo (zs ms : List Int) (k : Nat) : Bool := validB zs && decide (ms.length ≤ 15) && allTo (leadOk zs.length ms) k
theorem okTo_all (zs ms : List Int) : leadersB zs ms = okTo zs ms ms.length := by
  unfold leadersB leadB okTo
  cases validB zs <;> cases allTo (leadOk zs.length ms) ms.length <;> cases decide (ms.length ≤ 15) <;> rfl
theorem okTo_zero (zs ms : List Int) : okTo zs ms 0 = (validB zs && decide (ms.length ≤ 15)) := by simp [okTo, allTo]
theorem okTo_no {zs ms : List Int} {k : Nat} (h : okTo zs ms k = false) : okTo zs ms (k + 1) = false := by
  unfold okTo at h ⊢; simp only [allTo]; revert h
  cases validB zs <;> cases decide (ms.length ≤ 15) <;> cases allTo (leadOk zs.length ms) k <;> simp
theorem okTo_step {zs ms : List Int} {k : Nat} (h : okTo zs ms k = true) : okTo zs ms (k + 1) = leadOk zs.length ms k := by
  unfold okTo at h ⊢; simp only [allTo]; simp at h; simp [h]

set_option maxHeartbeats 8000000 in
theorem walk (a0 : Option Addr) (c0 : Nat) (z0 : List Int) (w : World) (h0 : Bytes w w.heap.size a0 z0 ∧ z0.length ≤ c0) :
    Calls Try.prog 12 #[.slice a0 z0.length c0] w fun e w' => e = .returned (.bool true) ∧ Below w.heap.size w w' := by
  by_cases hbig0 : (1048576 : Int) < z0.length
  · go_enter Try.func12, Try.ntmps12
    go_wp2_with fail
    go_ret
    exact ⟨rfl, Below.refl _ _⟩
  have hn0 : z0.length ≤ 1048576 := by omega
  have H0 := Lib.hid h0
  clear h0
  go_enter Try.func12, Try.ntmps12
  go_wp2_with fail
  refine (s_DrawLeadersValid _ _ _ _ H0.out.1 H0.out.2 hn0).mono ?_
  rintro e w1 ⟨g, c, g', c', zs, ms, rfl, i1, i2, l1, l2, b1⟩
  have I1 := Lib.hid i1
  have I2 := Lib.hid i2
  have B1 := Lib.hid b1
  clear i1 i2 b1
  have hne : (leadersB zs ms != leadersB zs ms) = false := by simp
  have hfin : (leadersB zs ms == okTo zs ms ms.length) = true := by rw [okTo_all]; simp
  have HF := Lib.hid hfin
  clear hfin
  go_wp2_with fail
  refine (i_LeadersValid _ _ _ _ zs ms _ _ I1.out I2.out (by omega) (by omega)).mono ?_
  rintro e w' ⟨rfl, rfl⟩
  go_wp2_with fail
  refine (s_LeadersValid _ _ _ _ zs ms _ _ I1.out I2.out (by omega) (by omega)).mono ?_
  rintro e w' ⟨rfl, rfl⟩
  go_wp2_with fail
  refine (i_CommitteeValid _ _ _ _ _ I1.out (by omega)).mono ?_
  rintro e w' ⟨rfl, rfl⟩
  have h0 : okTo zs ms 0 = (validB zs && decide (ms.length ≤ 15)) := okTo_zero zs ms
  have HO := Lib.hid h0
  clear h0
  rcases hv : validB zs with _ | _
  all_goals
    have HV := Lib.hid hv
    clear hv
    by_cases hl : ms.length ≤ 15
    all_goals
      go_wp2_with fail
      go_loop [7, 8] (fun b i => ∃ k : Nat, k ≤ ms.length ∧ i = .int .i64 k ∧ b = .bool (okTo zs ms k)) (fun _ i => ms.length - (intOf i).toNat)
      case atStart => exact ⟨0, Nat.zero_le _, rfl, by rw [HO.out, HV.out]; simp [hl]; try omega⟩
      case round =>
        obtain ⟨k, hk, rfl, rfl⟩ := hrel
        by_cases hlt : k < ms.length
        · obtain ⟨b, off, hA, hbb, hc⟩ := I2.out.at_ hlt
          injection hA with hA
          injection hA with hA1 hA2
          subst hA1 hA2
          have hck := hc k hlt
          rw [Nat.zero_add] at hck
          clear hc
          rcases ho : okTo zs ms k with _ | _
          · have hs := okTo_no ho
            have HS := Lib.hid hs
            clear hs ho
            go_wp2_with fail
            go_round
            case rel => exact ⟨k + 1, by omega, by go_num, by rw [HS.out]⟩
            case measure => simp [intOf]; omega
          · have hs := okTo_step ho
            have HS := Lib.hid hs
            clear hs ho
            by_cases hx0 : 0 ≤ nth ms k
            · by_cases hx1 : nth ms k < (zs.length : Int)
              · go_wp2_with fail
                go_round
                case rel => exact ⟨k + 1, by omega, by go_num, by rw [HS.out, leadOk, inB_iff.2 (by omega)]⟩
                case measure => simp [intOf]; omega
              · go_wp2_with fail
                go_round
                case rel => exact ⟨k + 1, by omega, by go_num, by rw [HS.out, leadOk, inB_no.2 (by omega)]⟩
                case measure => simp [intOf]; omega
            · go_wp2_with fail
              go_round
              case rel => exact ⟨k + 1, by omega, by go_num, by rw [HS.out, leadOk, inB_no.2 (by omega)]⟩
              case measure => simp [intOf]; omega
        · have e : k = ms.length := by omega
          subst e
          have hq := HF.out
          go_wp2_with fail
          go_ret
          exact ⟨rfl, B1.out⟩

set_option maxRecDepth 100000 in
theorem lifted (os : Os) (started : os.Started) (H : Type) (enc : TypeId × Value → H) :
    ReturnsInHanded {} Try.checked os 12 .any (Rows.fnLeadersSpec.pre6 enc Try.prog Try.f12 Rows.fnLeadersRow.domain false) (Rows.fnLeadersSpec.post enc Try.prog Try.f12 false true false false) := by
  refine returnsInHanded_of_change (C := Try.checked) own started (by kernel_rfl) Try.func12
    (ChangeSpec.witness6 (enc := enc) (C := Try.checked) false ⟨#[], #[.slice none 0 0], []⟩ 8 (by kernel_rfl) (by kernel_rfl) (by kernel_rfl) (by kernel_rfl)) ?_
  intro W base args ds gs before hval0 hW hcnd _
  have hval : ∀ (j : Nat) t v, Try.f12.params[j]? = some t → args[j]? = some v → Value.okWide Try.prog W .any base t v := hval0
  have hW' := hW
  obtain ⟨p, q, hA0, hV, rfl, hfz, hnd⟩ := hW
  have hA : DataW.TrodAll enc Try.prog W 0 (fun _ => true) true Try.f12.params.toList args.toList ds p := hA0
  rw [Try.params12] at hA hval
  obtain ⟨v0, vs0, d0, ds0, p0, q0, hargs, rfl, rfl, h0, r0⟩ := trodAll_cons hA
  obtain ⟨rfl, rfl, rfl⟩ := trodAll_nil r0
  obtain rfl : args = #[v0] := by cases args; simp_all
  obtain ⟨rfl, rfl⟩ := trodVars_none hV
  obtain ⟨a0, len0, c0, rfl⟩ := okWide_slice Try.underlying33 (hval 0 33 v0 rfl rfl)
  have k0 := h0
  have lt0 : ∀ x ∈ p0, x.block < W.heap.size := by obtain ⟨m, hm⟩ := k0; exact DataW.trod_lt m _ _ _ hm
  obtain ⟨z0, rfl, w0⟩ := bytes_of_trod h0
  clear hA0 hval0
  refine (walk a0 c0 z0 W w0).mono fun e W' ⟨he, bel⟩ => ?_
  subst he
  exact ⟨_, rfl, _, _, _, [], _, [], hW', trodAll_mk1 (shut_bool Try.underlying4 _), (trodAll_cons_mk (Below.trod laidOut (by kernel_rfl) (of_decide_eq_true (by kernel_rfl)) k0 bel lt0) trodAll_mk0), rfl, bel.frame _, fun h => by cases h⟩

theorem over : Rows.fnLeadersRow.holds Try.pinned (OpenSpec.ofChange Rows.fnLeadersSpec) :=
  OpenClaim.holds_of_wide 12 Try.f12 rfl rfl rfl rfl rfl rfl rfl ⟨rfl, rfl, rfl, rfl, rfl⟩ rfl rfl rfl rfl rfl (by kernel_rfl) Try.func12 (by kernel_rfl)
    (of_decide_eq_true (by kernel_rfl)) (by unfold Func.isWrapper; first | (rw [if_pos (by decide +kernel)]; kernel_rfl) | (rw [if_neg (by decide +kernel)]; exact ⟨rfl, rfl⟩))
    (fun os started H enc _ => lifted os started H enc)

/-- The given statement. -/
theorem proved : Rows.FnLeadersSaid := over
#print axioms proved
end Go.Proofs.Ytohnodphlaoohaa.lawLeaders
