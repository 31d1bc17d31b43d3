/- The law FnTotal holds for every input: the total is the weight of all members. -/
import Derived.Test.YtcaephelagjodaaCmt3
import Derived.Test.YtcaephelagjodaaSets
import Derived.Test.YtcaephelagjodaaDraw2
import Derived.Test.YtcaephelagjodaaArgs
namespace Go.Proofs.Ytcaephelagjodaa.lawTotal
open Go.ChangeShapes Go.WideShapes Go.ChangeAt Go.RowKit
set_option linter.unusedVariables false

set_option maxHeartbeats 4000000 in
theorem walk (a0 : Option Addr) (c0 : Nat) (z0 : List Int) (w : World) (h0 : Bytes w w.heap.size a0 z0 ∧ z0.length ≤ c0) :
    Calls Try.prog 11 #[.slice a0 z0.length c0] w fun e w' => e = .returned (.bool true) ∧ Below w.heap.size w w' := by
  by_cases hbig0 : (1048576 : Int) < z0.length
  · go_enter Try.func11, Try.ntmps11
    go_wp2_with fail
    go_ret
    exact ⟨rfl, Below.refl _ _⟩
  have hn0 : z0.length ≤ 1048576 := by omega
  have H0 := Lib.hid h0
  clear h0
  go_enter Try.func11, Try.ntmps11
  go_wp2_with fail
  refine (s_DrawCommitteeTotal _ _ _ _ H0.out.1 H0.out.2 hn0).mono ?_
  rintro e w1 ⟨g1, c1', zs, rfl, u1, l1, lc1, b1⟩
  have U1 := Lib.hid u1
  have B1 := Lib.hid b1
  clear u1 b1
  go_wp2_with fail
  refine (i_CommitteeTotal _ _ _ _ _ U1.out.ints (by omega)).mono ?_
  rintro e w' ⟨rfl, rfl⟩
  go_wp2_with fail
  refine (s_CommitteeTotal _ _ _ _ _ U1.out.ints (by omega)).mono ?_
  rintro e w' ⟨rfl, rfl⟩
  have hne : (cTotal zs != cTotal zs) = false := by simp
  have hw : cWeight zs (selTo (bitB (127 : Int).toNat) zs.length) = cTotal zs := by
    rcases hv : validB zs with _ | _
    · have h := nums_no hv
      rw [h.2.2.2.2, h.1]
    · rw [cWeight_sel hv, cTotal_eq hv]
      have hl := validB_len hv
      refine weight_all _ (fun i hi => ?_)
      have h7 : i < 7 := by omega
      rcases (show i = 0 ∨ i = 1 ∨ i = 2 ∨ i = 3 ∨ i = 4 ∨ i = 5 ∨ i = 6 by omega) with h | h | h | h | h | h | h <;> subst h <;> decide
  have HW := Lib.hid hw
  clear hw
  have hsg : (decide (0 ≤ cTotal zs) == validB zs) = true := by
    rcases hv : validB zs with _ | _
    · have h := nums_no hv
      rw [h.1]; decide
    · have h := (nums hv).1
      rw [decide_eq_true (by omega)]; rfl
  have HSG := Lib.hid hsg
  clear hsg
  go_wp2_with fail
  refine (l_subsetZ _ _ _ (by omega) (by omega) (by omega)).mono ?_
  rintro e w2 ⟨g2, c2, rfl, u2, lc2, b2⟩
  have U2 := Lib.hid u2
  have B2 := Lib.hid b2
  have hl2 := selTo_len (bitB (127 : Int).toNat) zs.length
  clear u2 b2
  go_wp2_with fail
  refine (i_MembersWeight _ _ _ _ _ _ _ _ (U1.out.carry B2.out).ints U2.out.ints (by omega) (by omega)).mono ?_
  rw [HW.out]
  rintro e w' ⟨rfl, rfl⟩
  have heq : (cTotal zs == cTotal zs) = true := by simp
  go_wp2_with fail
  refine (i_CommitteeValid _ _ _ _ _ (U1.out.carry B2.out).ints (by omega)).mono ?_
  rintro e w' ⟨rfl, rfl⟩
  have hsg := HSG.out
  go_wp2_with fail
  go_ret
  exact ⟨rfl, next B1.out B2.out⟩

set_option maxRecDepth 100000 in
theorem lifted (os : Os) (started : os.Started) (H : Type) (enc : TypeId × Value → H) :
    ReturnsInHanded {} Try.checked os 11 .any (Rows.fnTotalSpec.pre6 enc Try.prog Try.f11 Rows.fnTotalRow.domain false) (Rows.fnTotalSpec.post enc Try.prog Try.f11 false true false false) := by
  refine returnsInHanded_of_change (C := Try.checked) own started (by kernel_rfl) Try.func11
    (ChangeSpec.witness6 (enc := enc) (C := Try.checked) false ⟨#[], #[.slice none 0 0], []⟩ 8 (by kernel_rfl) (by kernel_rfl) (by kernel_rfl) (by kernel_rfl)) ?_
  intro W base args ds gs before hval0 hW hcnd _
  have hval : ∀ (j : Nat) t v, Try.f11.params[j]? = some t → args[j]? = some v → Value.okWide Try.prog W .any base t v := hval0
  have hW' := hW
  obtain ⟨p, q, hA0, hV, rfl, hfz, hnd⟩ := hW
  have hA : DataW.TrodAll enc Try.prog W 0 (fun _ => true) true Try.f11.params.toList args.toList ds p := hA0
  rw [Try.params11] at hA hval
  obtain ⟨v0, vs0, d0, ds0, p0, q0, hargs, rfl, rfl, h0, r0⟩ := trodAll_cons hA
  obtain ⟨rfl, rfl, rfl⟩ := trodAll_nil r0
  obtain rfl : args = #[v0] := by cases args; simp_all
  obtain ⟨rfl, rfl⟩ := trodVars_none hV
  obtain ⟨a0, len0, c0, rfl⟩ := okWide_slice Try.underlying22 (hval 0 22 v0 rfl rfl)
  have k0 := h0
  have lt0 : ∀ x ∈ p0, x.block < W.heap.size := by obtain ⟨m, hm⟩ := k0; exact DataW.trod_lt m _ _ _ hm
  obtain ⟨z0, rfl, w0⟩ := bytes_of_trod h0
  clear hA0 hval0
  refine (walk a0 c0 z0 W w0).mono fun e W' ⟨he, bel⟩ => ?_
  subst he
  exact ⟨_, rfl, _, _, _, [], _, [], hW', trodAll_mk1 (shut_bool Try.underlying4 _), (trodAll_cons_mk (Below.trod laidOut (by kernel_rfl) (of_decide_eq_true (by kernel_rfl)) k0 bel lt0) trodAll_mk0), rfl, bel.frame _, fun h => by cases h⟩

theorem over : Rows.fnTotalRow.holds Try.pinned (OpenSpec.ofChange Rows.fnTotalSpec) :=
  OpenClaim.holds_of_wide 11 Try.f11 rfl rfl rfl rfl rfl rfl rfl ⟨rfl, rfl, rfl, rfl, rfl⟩ rfl rfl rfl rfl rfl (by kernel_rfl) Try.func11 (by kernel_rfl)
    (of_decide_eq_true (by kernel_rfl)) (by unfold Func.isWrapper; first | (rw [if_pos (by decide +kernel)]; kernel_rfl) | (rw [if_neg (by decide +kernel)]; exact ⟨rfl, rfl⟩))
    (fun os started H enc _ => lifted os started H enc)

/-- The given statement. -/
theorem proved : Rows.FnTotalSaid := over
#print axioms proved
end Go.Proofs.Ytcaephelagjodaa.lawTotal
