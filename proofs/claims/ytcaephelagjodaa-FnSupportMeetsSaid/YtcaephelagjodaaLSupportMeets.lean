/- The law FnSupportMeets holds for every input: a quorum and a supporting set meet. -/
import Derived.Test.YtcaephelagjodaaCmt3
import Derived.Test.YtcaephelagjodaaSets
import Derived.Test.YtcaephelagjodaaDraw2
import Derived.Test.YtcaephelagjodaaArgs
namespace Go.Proofs.Ytcaephelagjodaa.lawSupportMeets
open Go.ChangeShapes Go.WideShapes Go.ChangeAt Go.RowKit
set_option linter.unusedVariables false

set_option maxHeartbeats 4000000 in
theorem walk (a0 : Option Addr) (c0 : Nat) (z0 : List Int) (a1 : Option Addr) (c1 : Nat) (z1 : List Int) (w : World) (h0 : Bytes w w.heap.size a0 z0 ∧ z0.length ≤ c0) (h1 : Bytes w w.heap.size a1 z1 ∧ z1.length ≤ c1) :
    Calls Try.prog 13 #[.slice a0 z0.length c0, .slice a1 z1.length c1] w fun e w' => e = .returned (.bool true) ∧ Below w.heap.size w w' := by
  by_cases hbig0 : (1048576 : Int) < z0.length
  · go_enter Try.func13, Try.ntmps13
    go_wp2_with fail
    go_ret
    exact ⟨rfl, Below.refl _ _⟩
  by_cases hbig1 : (1048576 : Int) < z1.length
  · go_enter Try.func13, Try.ntmps13
    go_wp2_with fail
    go_ret
    exact ⟨rfl, Below.refl _ _⟩
  have hn0 : z0.length ≤ 1048576 := by omega
  have H0 := Lib.hid h0
  have hn1 : z1.length ≤ 1048576 := by omega
  have H1 := Lib.hid h1
  clear h0 h1
  go_enter Try.func13, Try.ntmps13
  go_wp2_with fail
  refine (s_DrawCommitteeSupport _ _ _ _ H0.out.1 H0.out.2 hn0).mono ?_
  rintro e w1 ⟨g1, c1', zs, rfl, u1, l1, lc1, b1⟩
  have U1 := Lib.hid u1
  have B1 := Lib.hid b1
  clear u1 b1
  go_wp2_with fail
  refine (i_CommitteeSupport _ _ _ _ _ U1.out.ints (by omega)).mono ?_
  rintro e w' ⟨rfl, rfl⟩
  go_wp2_with fail
  refine (s_CommitteeSupport _ _ _ _ _ U1.out.ints (by omega)).mono ?_
  rintro e w' ⟨rfl, rfl⟩
  rcases hv : validB zs with _ | _
  · have hneg : cSupport zs < 0 := by have := nums_no hv; omega
    have hne : (cSupport zs != cSupport zs) = false := by simp
    have heq : (cSupport zs == cSupport zs) = true := by simp
    clear hv
    go_wp2_with fail
    go_ret
    exact ⟨rfl, B1.out⟩
  obtain ⟨hT, hF, hQ, hS⟩ := nums hv
  have hne : (cSupport zs != cSupport zs) = false := by simp
  have HV := Lib.hid hv
  clear hv
  obtain ⟨p, hp⟩ : ∃ p, p = bitB ((z0.length : Int) * 29 + (z1.length : Int) * 13).toNat := ⟨_, rfl⟩
  obtain ⟨q, hq⟩ : ∃ q, q = bitB ((z1.length : Int) * 71 + 3 * (z0.length : Int)).toNat := ⟨_, rfl⟩
  have HP := Lib.hid hp
  have HQ2 := Lib.hid hq
  clear hp hq
  have hlp := selTo_len p zs.length
  have hlq := selTo_len q zs.length
  have hlc : (commonL (selTo p zs.length) (selTo q zs.length)).length ≤ zs.length := by rw [commonL_sel]; exact selTo_len _ _
  have hbp := cWeight_bd (zs := zs) (ms := selTo p zs.length) (by omega)
  have hbq := cWeight_bd (zs := zs) (ms := selTo q zs.length) (by omega)
  have hbc := cWeight_bd (zs := zs) (ms := commonL (selTo p zs.length) (selTo q zs.length)) (by omega)
  go_wp2_with fail
  refine (l_subsetZ _ _ _ (by omega) (by omega) (by omega)).mono ?_
  rw [← HP.out]
  rintro e w2 ⟨g2, c2', rfl, u2, lc2, b2⟩
  have U2 := Lib.hid u2
  have B2 := Lib.hid b2
  clear u2 b2
  go_wp2_with fail
  refine (l_subsetZ _ _ _ (by omega) (by omega) (by omega)).mono ?_
  rw [← HQ2.out]
  rintro e w3 ⟨g3, c3', rfl, u3, lc3, b3⟩
  have U3 := Lib.hid u3
  have B3 := Lib.hid b3
  clear u3 b3
  go_wp2_with fail
  refine (i_MembersWeight _ _ _ _ _ _ _ _ ((U1.out.carry B2.out).carry B3.out).ints (U2.out.carry B3.out).ints (by omega) (by omega)).mono ?_
  rintro e w' ⟨rfl, rfl⟩
  go_wp2_with fail
  refine (i_CommitteeQuorum _ _ _ _ _ ((U1.out.carry B2.out).carry B3.out).ints (by omega)).mono ?_
  rintro e w' ⟨rfl, rfl⟩
  by_cases hA : cWeight zs (selTo p zs.length) < cQuorum zs
  · go_wp2_with fail
    go_ret
    exact ⟨rfl, next (next B1.out B2.out) B3.out⟩
  go_wp2_with fail
  refine (i_MembersWeight _ _ _ _ _ _ _ _ ((U1.out.carry B2.out).carry B3.out).ints U3.out.ints (by omega) (by omega)).mono ?_
  rintro e w' ⟨rfl, rfl⟩
  by_cases hB : cWeight zs (selTo q zs.length) < cSupport zs
  · go_wp2_with fail
    go_ret
    exact ⟨rfl, next (next B1.out B2.out) B3.out⟩
  go_wp2_with fail
  refine (l_common _ _ _ _ _ _ _ (U2.out.carry B3.out).ints U3.out.ints (by omega) (by omega)).mono ?_
  rintro e w4 ⟨g4, c4', rfl, u4, lc4, b4⟩
  have U4 := Lib.hid u4
  have B4 := Lib.hid b4
  clear u4 b4
  have hpos : 0 < (commonL (selTo p zs.length) (selTo q zs.length)).length := by
    have hv := HV.out
    rw [cWeight_sel hv, cQuorum_eq hv] at hA
    rw [cWeight_sel hv, cSupport_eq hv] at hB
    rw [commonL_sel]
    exact meet_support hv p q (by omega) (by omega)
  go_wp2_with fail
  go_ret
  exact ⟨rfl, next (next (next B1.out B2.out) B3.out) B4.out⟩

set_option maxRecDepth 100000 in
theorem lifted (os : Os) (started : os.Started) (H : Type) (enc : TypeId × Value → H) :
    ReturnsInHanded {} Try.checked os 13 .any (Rows.fnSupportMeetsSpec.pre6 enc Try.prog Try.f13 Rows.fnSupportMeetsRow.domain false) (Rows.fnSupportMeetsSpec.post enc Try.prog Try.f13 false true false false) := by
  refine returnsInHanded_of_change (C := Try.checked) own started (by kernel_rfl) Try.func13
    (ChangeSpec.witness6 (enc := enc) (C := Try.checked) false ⟨#[], #[.slice none 0 0, .slice none 0 0], []⟩ 8 (by kernel_rfl) (by kernel_rfl) (by kernel_rfl) (by kernel_rfl)) ?_
  intro W base args ds gs before hval0 hW hcnd _
  have hval : ∀ (j : Nat) t v, Try.f13.params[j]? = some t → args[j]? = some v → Value.okWide Try.prog W .any base t v := hval0
  have hW' := hW
  obtain ⟨p, q, hA0, hV, rfl, hfz, hnd⟩ := hW
  have hA : DataW.TrodAll enc Try.prog W 0 (fun _ => true) true Try.f13.params.toList args.toList ds p := hA0
  rw [Try.params13] at hA hval
  obtain ⟨v0, vs0, d0, ds0, p0, q0, hargs, rfl, rfl, h0, r0⟩ := trodAll_cons hA
  obtain ⟨v1, vs1, d1, ds1, p1, q1, rfl, rfl, rfl, h1, r1⟩ := trodAll_cons r0
  obtain ⟨rfl, rfl, rfl⟩ := trodAll_nil r1
  obtain rfl : args = #[v0, v1] := by cases args; simp_all
  obtain ⟨rfl, rfl⟩ := trodVars_none hV
  obtain ⟨a0, len0, c0, rfl⟩ := okWide_slice Try.underlying22 (hval 0 22 v0 rfl rfl)
  have k0 := h0
  have lt0 : ∀ x ∈ p0, x.block < W.heap.size := by obtain ⟨m, hm⟩ := k0; exact DataW.trod_lt m _ _ _ hm
  obtain ⟨z0, rfl, w0⟩ := bytes_of_trod h0
  obtain ⟨a1, len1, c1, rfl⟩ := okWide_slice Try.underlying22 (hval 1 22 v1 rfl rfl)
  have k1 := h1
  have lt1 : ∀ x ∈ p1, x.block < W.heap.size := by obtain ⟨m, hm⟩ := k1; exact DataW.trod_lt m _ _ _ hm
  obtain ⟨z1, rfl, w1⟩ := bytes_of_trod h1
  clear hA0 hval0
  refine (walk a0 c0 z0 a1 c1 z1 W w0 w1).mono fun e W' ⟨he, bel⟩ => ?_
  subst he
  exact ⟨_, rfl, _, _, _, [], _, [], hW', trodAll_mk1 (shut_bool Try.underlying4 _), (trodAll_cons_mk (Below.trod laidOut (by kernel_rfl) (of_decide_eq_true (by kernel_rfl)) k0 bel lt0) (trodAll_cons_mk (Below.trod laidOut (by kernel_rfl) (of_decide_eq_true (by kernel_rfl)) k1 bel lt1) trodAll_mk0)), rfl, bel.frame _, fun h => by cases h⟩

theorem over : Rows.fnSupportMeetsRow.holds Try.pinned (OpenSpec.ofChange Rows.fnSupportMeetsSpec) :=
  OpenClaim.holds_of_wide 13 Try.f13 rfl rfl rfl rfl rfl rfl rfl ⟨rfl, rfl, rfl, rfl, rfl⟩ rfl rfl rfl rfl rfl (by kernel_rfl) Try.func13 (by kernel_rfl)
    (of_decide_eq_true (by kernel_rfl)) (by unfold Func.isWrapper; first | (rw [if_pos (by decide +kernel)]; kernel_rfl) | (rw [if_neg (by decide +kernel)]; exact ⟨rfl, rfl⟩))
    (fun os started H enc _ => lifted os started H enc)

/-- The given statement. -/
theorem proved : Rows.FnSupportMeetsSaid := over
#print axioms proved
end Go.Proofs.Ytcaephelagjodaa.lawSupportMeets
