/- The law FnExactLeadersValid holds for every input: the program's LeadersValid returns what the reference's returns. -/
import Derived.Test.YtejkcollhgekiaaCmt3
import Derived.Test.YtejkcollhgekiaaArgs
namespace Go.Proofs.Ytejkcollhgekiaa.exLeadersValid
open Go.ChangeShapes Go.WideShapes Go.ChangeAt Go.RowKit
set_option linter.unusedVariables false

set_option maxHeartbeats 2000000 in
theorem walk (a0 : Option Addr) (c0 : Nat) (z0 : List Int) (a1 : Option Addr) (c1 : Nat) (z1 : List Int) (w : World) (h0 : Ints w w.heap.size a0 z0) (h1 : Ints w w.heap.size a1 z1) :
    Calls Try.prog 9 #[.slice a0 z0.length c0, .slice a1 z1.length c1] w fun e w' => e = .returned (.bool true) ∧ Below w.heap.size w w' := by
  by_cases hbig0 : (1048576 : Int) < z0.length
  · go_enter Try.func9, Try.ntmps9
    go_wp2_with fail
    go_ret
    exact ⟨rfl, Below.refl _ _⟩
  by_cases hbig1 : (1048576 : Int) < z1.length
  · go_enter Try.func9, Try.ntmps9
    go_wp2_with fail
    go_ret
    exact ⟨rfl, Below.refl _ _⟩
  have hn0 : z0.length ≤ 1048576 := by omega
  have hn1 : z1.length ≤ 1048576 := by omega
  have H0 := Lib.hid h0
  have H1 := Lib.hid h1
  clear h0 h1
  go_enter Try.func9, Try.ntmps9
  go_wp2_with fail
  refine (toIntS_I _ _ _ _ H0.out hn0).mono ?_
  rintro e w1 ⟨rfl, i1, b1⟩
  have I1 := Lib.hid i1
  have B1 := Lib.hid b1
  clear i1 b1
  go_wp2_with fail
  refine (toIntS_I _ _ _ _ (H1.out.carry B1.out) hn1).mono ?_
  rintro e w2 ⟨rfl, i2, b2⟩
  have I2 := Lib.hid i2
  have B2 := Lib.hid b2
  clear i2 b2
  go_wp2_with fail
  refine (s_LeadersValid _ _ _ _ _ _ _ _ (I1.out.carry B2.out) I2.out hn0 hn1).mono ?_
  rintro e w' ⟨rfl, rfl⟩
  go_wp2_with fail
  refine (toIntS_I _ _ _ _ ((H0.out.carry B1.out).carry B2.out) hn0).mono ?_
  rintro e w4 ⟨rfl, i4, b4⟩
  have I4 := Lib.hid i4
  have B4 := Lib.hid b4
  clear i4 b4
  go_wp2_with fail
  refine (toIntS_I _ _ _ _ (((H1.out.carry B1.out).carry B2.out).carry B4.out) hn1).mono ?_
  rintro e w5 ⟨rfl, i5, b5⟩
  have I5 := Lib.hid i5
  have B5 := Lib.hid b5
  clear i5 b5
  go_wp2_with fail
  refine (i_LeadersValid _ _ _ _ _ _ _ _ (I4.out.carry B5.out) I5.out hn0 hn1).mono ?_
  rintro e w' ⟨rfl, rfl⟩
  have hv : (leadersB z0 z1 != leadersB z0 z1) = false := by simp
  go_wp2_with fail
  refine (toIntS_I _ _ _ _ ((((H0.out.carry B1.out).carry B2.out).carry B4.out).carry B5.out) hn0).mono ?_
  rintro e w7 ⟨rfl, i7, b7⟩
  have I7 := Lib.hid i7
  have B7 := Lib.hid b7
  clear i7 b7
  go_wp2_with fail
  refine (eqIntS_any _ _ _ _ _ _ _ _ ((I4.out.carry B5.out).carry B7.out) I7.out hn0 hn0).mono ?_
  rintro e w8 ⟨rfl, q8⟩
  have Q8 := Lib.hid q8
  clear q8
  have ht0 : decide (z0 = z0) = true := by simp
  go_wp2_with fail
  refine (toIntS_I _ _ _ _ ((((((H1.out.carry B1.out).carry B2.out).carry B4.out).carry B5.out).carry B7.out).carry (Q8.out.below _)) hn1).mono ?_
  rintro e w9 ⟨rfl, i9, b9⟩
  have I9 := Lib.hid i9
  have B9 := Lib.hid b9
  clear i9 b9
  go_wp2_with fail
  refine (eqIntS_any _ _ _ _ _ _ _ _ (((I5.out.carry B7.out).carry (Q8.out.below _)).carry B9.out) I9.out hn1 hn1).mono ?_
  rintro e w10 ⟨rfl, q10⟩
  have Q10 := Lib.hid q10
  clear q10
  have ht1 : decide (z1 = z1) = true := by simp
  go_wp2_with fail
  go_ret
  exact ⟨rfl, (next (next (next (next (next (next (next B1.out B2.out) B4.out) B5.out) B7.out) (Q8.out.below _)) B9.out) (Q10.out.below _))⟩

set_option maxRecDepth 100000 in
theorem lifted (os : Os) (started : os.Started) (H : Type) (enc : TypeId × Value → H) :
    ReturnsInHanded {} Try.checked os 9 .any (Rows.fnExactLeadersValidSpec.pre6 enc Try.prog Try.f9 Rows.fnExactLeadersValidRow.domain false) (Rows.fnExactLeadersValidSpec.post enc Try.prog Try.f9 false true false false) := by
  refine returnsInHanded_of_change (C := Try.checked) own started (by kernel_rfl) Try.func9
    (ChangeSpec.witness6 (enc := enc) (C := Try.checked) false ⟨#[], #[.slice none 0 0, .slice none 0 0], []⟩ 8 (by kernel_rfl) (by kernel_rfl) (by kernel_rfl) (by kernel_rfl)) ?_
  intro W base args ds gs before hval0 hW hcnd _
  have hval : ∀ (j : Nat) t v, Try.f9.params[j]? = some t → args[j]? = some v → Value.okWide Try.prog W .any base t v := hval0
  have hW' := hW
  obtain ⟨p, q, hA0, hV, rfl, hfz, hnd⟩ := hW
  have hA : DataW.TrodAll enc Try.prog W 0 (fun _ => true) true Try.f9.params.toList args.toList ds p := hA0
  rw [Try.params9] at hA hval
  obtain ⟨v0, vs0, d0, ds0, p0, q0, hargs, rfl, rfl, h0, r0⟩ := trodAll_cons hA
  obtain ⟨v1, vs1, d1, ds1, p1, q1, rfl, rfl, rfl, h1, r1⟩ := trodAll_cons r0
  obtain ⟨rfl, rfl, rfl⟩ := trodAll_nil r1
  obtain rfl : args = #[v0, v1] := by cases args; simp_all
  obtain ⟨rfl, rfl⟩ := trodVars_none hV
  obtain ⟨a0, len0, c0, rfl⟩ := okWide_slice Try.underlying28 (hval 0 28 v0 rfl rfl)
  have k0 := h0
  have lt0 : ∀ x ∈ p0, x.block < W.heap.size := by obtain ⟨m, hm⟩ := k0; exact DataW.trod_lt m _ _ _ hm
  obtain ⟨z0, rfl, w0⟩ := ints_of_trod h0
  obtain ⟨a1, len1, c1, rfl⟩ := okWide_slice Try.underlying28 (hval 1 28 v1 rfl rfl)
  have k1 := h1
  have lt1 : ∀ x ∈ p1, x.block < W.heap.size := by obtain ⟨m, hm⟩ := k1; exact DataW.trod_lt m _ _ _ hm
  obtain ⟨z1, rfl, w1⟩ := ints_of_trod h1
  clear hA0 hval0
  refine (walk a0 c0 z0 a1 c1 z1 W w0 w1).mono fun e W' ⟨he, bel⟩ => ?_
  subst he
  exact ⟨_, rfl, _, _, _, [], _, [], hW', trodAll_mk1 (shut_bool Try.underlying4 _), (trodAll_cons_mk (Below.trod laidOut (by kernel_rfl) (of_decide_eq_true (by kernel_rfl)) k0 bel lt0) (trodAll_cons_mk (Below.trod laidOut (by kernel_rfl) (of_decide_eq_true (by kernel_rfl)) k1 bel lt1) trodAll_mk0)), rfl, bel.frame _, fun h => by cases h⟩

theorem over : Rows.fnExactLeadersValidRow.holds Try.pinned (OpenSpec.ofChange Rows.fnExactLeadersValidSpec) :=
  OpenClaim.holds_of_wide 9 Try.f9 rfl rfl rfl rfl rfl rfl rfl ⟨rfl, rfl, rfl, rfl, rfl⟩ rfl rfl rfl rfl rfl (by kernel_rfl) Try.func9 (by kernel_rfl)
    (of_decide_eq_true (by kernel_rfl)) (by unfold Func.isWrapper; first | (rw [if_pos (by decide +kernel)]; kernel_rfl) | (rw [if_neg (by decide +kernel)]; exact ⟨rfl, rfl⟩))
    (fun os started H enc _ => lifted os started H enc)

/-- The given statement. -/
theorem proved : Rows.FnExactLeadersValidSaid := over
#print axioms proved
end Go.Proofs.Ytejkcollhgekiaa.exLeadersValid
