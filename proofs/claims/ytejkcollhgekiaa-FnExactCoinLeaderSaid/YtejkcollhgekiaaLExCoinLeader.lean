/- The law FnExactCoinLeader holds for every input: the program's CoinLeader returns what the reference's returns. -/
import Derived.Test.YtejkcollhgekiaaCoin
import Derived.Test.YtejkcollhgekiaaArgs
namespace Go.Proofs.Ytejkcollhgekiaa.exCoinLeader
open Go.ChangeShapes Go.WideShapes Go.ChangeAt Go.RowKit
set_option linter.unusedVariables false

set_option maxHeartbeats 2000000 in
theorem walk (a0 : Option Addr) (c0 : Nat) (z0 : List Int) (a1 : Int) (w : World) (h0 : Ints w w.heap.size a0 z0) (h1 : (Lit.int .i64 a1).wf = true) :
    Calls Try.prog 14 #[.slice a0 z0.length c0, .int .i64 a1] w fun e w' => e = .returned (.bool true) ∧ Below w.heap.size w w' := by
  by_cases hbig0 : (1048576 : Int) < z0.length
  · go_enter Try.func14, Try.ntmps14
    go_wp2_with fail
    go_ret
    exact ⟨rfl, Below.refl _ _⟩
  have hn0 : z0.length ≤ 1048576 := by omega
  have H0 := Lib.hid h0
  have H1 := Lib.hid h1
  clear h0 h1
  go_enter Try.func14, Try.ntmps14
  go_wp2_with fail
  refine (toIntS_I _ _ _ _ H0.out hn0).mono ?_
  rintro e w1 ⟨rfl, i1, b1⟩
  have I1 := Lib.hid i1
  have B1 := Lib.hid b1
  clear i1 b1
  go_wp2_with fail
  refine (s_CoinLeader _ _ _ _ _ _ I1.out hn0).mono ?_
  rintro e w' ⟨rfl, rfl⟩
  go_wp2_with fail
  refine (toIntS_I _ _ _ _ (H0.out.carry B1.out) hn0).mono ?_
  rintro e w3 ⟨rfl, i3, b3⟩
  have I3 := Lib.hid i3
  have B3 := Lib.hid b3
  clear i3 b3
  go_wp2_with fail
  refine (i_CoinLeader _ _ _ _ _ _ I3.out hn0).mono ?_
  rintro e w' ⟨rfl, rfl⟩
  have hv : (coin z0 a1 != coin z0 a1) = false := by simp
  go_wp2_with fail
  refine (toIntS_I _ _ _ _ ((H0.out.carry B1.out).carry B3.out) hn0).mono ?_
  rintro e w5 ⟨rfl, i5, b5⟩
  have I5 := Lib.hid i5
  have B5 := Lib.hid b5
  clear i5 b5
  go_wp2_with fail
  refine (eqIntS_any _ _ _ _ _ _ _ _ (I3.out.carry B5.out) I5.out hn0 hn0).mono ?_
  rintro e w6 ⟨rfl, q6⟩
  have Q6 := Lib.hid q6
  clear q6
  have ht0 : decide (z0 = z0) = true := by simp
  go_wp2_with fail
  go_ret
  exact ⟨rfl, (next (next (next B1.out B3.out) B5.out) (Q6.out.below _))⟩

set_option maxRecDepth 100000 in
theorem lifted (os : Os) (started : os.Started) (H : Type) (enc : TypeId × Value → H) :
    ReturnsInHanded {} Try.checked os 14 .any (Rows.fnExactCoinLeaderSpec.pre6 enc Try.prog Try.f14 Rows.fnExactCoinLeaderRow.domain false) (Rows.fnExactCoinLeaderSpec.post enc Try.prog Try.f14 false true false false) := by
  refine returnsInHanded_of_change (C := Try.checked) own started (by kernel_rfl) Try.func14
    (ChangeSpec.witness6 (enc := enc) (C := Try.checked) false ⟨#[], #[.slice none 0 0, .int .i64 0], []⟩ 8 (by kernel_rfl) (by kernel_rfl) (by kernel_rfl) (by kernel_rfl)) ?_
  intro W base args ds gs before hval0 hW hcnd _
  have hval : ∀ (j : Nat) t v, Try.f14.params[j]? = some t → args[j]? = some v → Value.okWide Try.prog W .any base t v := hval0
  have hW' := hW
  obtain ⟨p, q, hA0, hV, rfl, hfz, hnd⟩ := hW
  have hA : DataW.TrodAll enc Try.prog W 0 (fun _ => true) true Try.f14.params.toList args.toList ds p := hA0
  rw [Try.params14] at hA hval
  obtain ⟨v0, vs0, d0, ds0, p0, q0, hargs, rfl, rfl, h0, r0⟩ := trodAll_cons hA
  obtain ⟨v1, vs1, d1, ds1, p1, q1, rfl, rfl, rfl, h1, r1⟩ := trodAll_cons r0
  obtain ⟨rfl, rfl, rfl⟩ := trodAll_nil r1
  obtain rfl : args = #[v0, v1] := by cases args; simp_all
  obtain ⟨rfl, rfl⟩ := trodVars_none hV
  obtain ⟨a0, len0, c0, rfl⟩ := okWide_slice Try.underlying28 (hval 0 28 v0 rfl rfl)
  have k0 := h0
  have lt0 : ∀ x ∈ p0, x.block < W.heap.size := by obtain ⟨m, hm⟩ := k0; exact DataW.trod_lt m _ _ _ hm
  obtain ⟨z0, rfl, w0⟩ := ints_of_trod h0
  obtain ⟨a1, rfl, rfl, rfl, w1⟩ := open_int Try.underlying3 (hval 1 3 v1 rfl rfl) h1
  clear hA0 hval0
  refine (walk a0 c0 z0 a1 W w0 w1).mono fun e W' ⟨he, bel⟩ => ?_
  subst he
  exact ⟨_, rfl, _, _, _, [], _, [], hW', trodAll_mk1 (shut_bool Try.underlying4 _), (trodAll_cons_mk (Below.trod laidOut (by kernel_rfl) (of_decide_eq_true (by kernel_rfl)) k0 bel lt0) (trodAll_cons_mk (shut_int Try.underlying3 w1) trodAll_mk0)), rfl, bel.frame _, fun h => by cases h⟩

theorem over : Rows.fnExactCoinLeaderRow.holds Try.pinned (OpenSpec.ofChange Rows.fnExactCoinLeaderSpec) :=
  OpenClaim.holds_of_wide 14 Try.f14 rfl rfl rfl rfl rfl rfl rfl ⟨rfl, rfl, rfl, rfl, rfl⟩ rfl rfl rfl rfl rfl (by kernel_rfl) Try.func14 (by kernel_rfl)
    (of_decide_eq_true (by kernel_rfl)) (by unfold Func.isWrapper; first | (rw [if_pos (by decide +kernel)]; kernel_rfl) | (rw [if_neg (by decide +kernel)]; exact ⟨rfl, rfl⟩))
    (fun os started H enc _ => lifted os started H enc)

/-- The given statement. -/
theorem proved : Rows.FnExactCoinLeaderSaid := over
#print axioms proved
end Go.Proofs.Ytejkcollhgekiaa.exCoinLeader
