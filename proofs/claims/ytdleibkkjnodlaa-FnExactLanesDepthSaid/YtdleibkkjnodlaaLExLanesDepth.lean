/- The law FnExactLanesDepth holds for every input: the program's LanesDepth returns what the reference's returns. -/
import Derived.Test.YtdleibkkjnodlaaLaneL
import Derived.Test.YtdleibkkjnodlaaArgL
namespace Go.Proofs.Ytdleibkkjnodlaa.exLanesDepth
open Go.ChangeShapes Go.WideShapes Go.ChangeAt Go.RowKit
set_option linter.unusedVariables false

set_option maxHeartbeats 4000000 in
theorem walk1 (A : Option Addr) (c : Nat) (bs : List VTxn) (w : World) (h : LstTxn w w.heap.size A bs) (hl : bs.length ≤ 9223372036854775807) :
    Calls Try.prog 4 #[.slice A bs.length c] w fun e w' => e = .returned (.bool true) ∧ Below w.heap.size w w' := by
  have HP := Lib.hid h
  clear h
  by_cases hs : (1048576 : Int) < bs.length
  · go_enter Try.func4, Try.ntmps4
    go_wp2_with fail
    refine (szTxnS_any _ _ _ _ _ (by omega) (by omega) hl).mono ?_
    rw [szL_neg (by omega)]
    rintro e w' ⟨rfl, rfl⟩
    go_wp2_with fail
    go_ret
    exact ⟨rfl, Below.refl _ _⟩
  have hn : bs.length ≤ 1048576 := by omega
  have hd : ¬ (1048576 : Int) - bs.length < 0 := by omega
  have hv : (depthZ bs != depthZ bs) = false := by simp
  go_enter Try.func4, Try.ntmps4
  go_wp2_with fail
  refine (szTxnS_any _ _ _ _ _ (by omega) (by omega) hl).mono ?_
  rw [szL_pos (by omega)]
  rintro e w' ⟨rfl, rfl⟩
  go_wp2_with fail
  refine (toTxnS_any _ _ bs _ HP.out hn).mono ?_
  rintro e w1 ⟨arr1, rfl, k1, a1, b1⟩
  have BB := Lib.hid b1
  replace HP := Lib.hid (HP.out.carry b1)
  have L1 := Lib.hid (LstTxn.of_blk k1 a1 (lt_blk k1))
  clear b1 k1 a1
  go_wp2_with fail
  refine (s_LanesDepth _ _ bs _ L1.out hn).mono ?_
  rintro e w2 ⟨rfl, b2⟩
  replace BB := Lib.hid (next BB.out b2)
  replace HP := Lib.hid (HP.out.carry b2)
  clear b2 L1
  go_wp2_with fail
  refine (toTxnS_any _ _ bs _ HP.out hn).mono ?_
  rintro e w3 ⟨arr3, rfl, k3, a3, b3⟩
  replace BB := Lib.hid (next BB.out b3)
  replace HP := Lib.hid (HP.out.carry b3)
  have L3 := Lib.hid (LstTxn.of_blk k3 a3 (lt_blk k3))
  clear b3 k3 a3
  go_wp2_with fail
  refine (i_LanesDepth _ _ bs _ L3.out hn).mono ?_
  rintro e w4 ⟨rfl, b4⟩
  replace BB := Lib.hid (next BB.out b4)
  replace HP := Lib.hid (HP.out.carry b4)
  replace L3 := Lib.hid (L3.out.carry b4)
  clear b4
  go_wp2_with fail
  refine (toTxnS_any _ _ bs _ HP.out hn).mono ?_
  rintro e w5 ⟨arr5, rfl, k5, a5, b5⟩
  replace BB := Lib.hid (next BB.out b5)
  replace L3 := Lib.hid (L3.out.carry b5)
  have L5 := Lib.hid (LstTxn.of_blk k5 a5 (lt_blk k5))
  clear b5 k5 a5
  go_wp2_with fail
  refine (eqTxnS_same _ _ _ _ bs _ L3.out L5.out hn).mono ?_
  rintro e w6 ⟨rfl, b6⟩
  replace BB := Lib.hid (next BB.out b6)
  clear b6
  go_wp2_with fail
  go_ret
  exact ⟨rfl, BB.out⟩
theorem walk (x : XLTxn) (w : World) (hx : x.Good w) :
    Calls Try.prog 4 #[x.val] w fun e w' => e = .returned (.bool true) ∧ Below w.heap.size w w' :=
  walk1 x.A x.c x.bs w hx.1 hx.2

set_option maxRecDepth 100000 in
theorem lifted (os : Os) (started : os.Started) (H : Type) (enc : TypeId × Value → H) :
    ReturnsInHanded {} Try.checked os 4 .any (Rows.fnExactLanesDepthSpec.pre6 enc Try.prog Try.f4 Rows.fnExactLanesDepthRow.domain false) (Rows.fnExactLanesDepthSpec.post enc Try.prog Try.f4 false true false false) := by
  refine returnsInHanded_of_change (C := Try.checked) own started (by kernel_rfl) Try.func4
    (ChangeSpec.witness6 (enc := enc) (C := Try.checked) false ⟨#[], #[.slice none 0 0], []⟩ 8 (by kernel_rfl) (by kernel_rfl) (by kernel_rfl) (by kernel_rfl)) ?_
  intro W base args ds gs before hval0 hW hcnd _
  have hval : ∀ (j : Nat) t v, Try.f4.params[j]? = some t → args[j]? = some v → Value.okWide Try.prog W .any base t v := hval0
  have hW' := hW
  obtain ⟨p, q, hA0, hV, rfl, hfz, hnd⟩ := hW
  have hA : DataW.TrodAll enc Try.prog W 0 (fun _ => true) true Try.f4.params.toList args.toList ds p := hA0
  rw [Try.params4] at hA hval
  obtain ⟨v0, vs0, d0, ds0, p0, q0, hargs, rfl, rfl, h0, r0⟩ := trodAll_cons hA
  obtain ⟨rfl, rfl, rfl⟩ := trodAll_nil r0
  obtain rfl : args = #[v0] := by cases args; simp_all
  obtain ⟨rfl, rfl⟩ := trodVars_none hV
  have k0 := h0
  have lt0 : ∀ x ∈ p0, x.block < W.heap.size := by obtain ⟨m, hm⟩ := k0; exact DataW.trod_lt m _ _ _ hm
  obtain ⟨x0, rfl, w0⟩ := open_txns (hval 0 _ v0 rfl rfl) h0
  clear hA0 hval0
  refine (walk x0 W w0).mono fun e W' ⟨he, bel⟩ => ?_
  subst he
  exact ⟨_, rfl, _, _, _, [], _, [], hW', trodAll_mk1 (shut_bool Try.underlying4 _), (trodAll_cons_mk (Below.trod laidOut (by kernel_rfl) (of_decide_eq_true (by kernel_rfl)) k0 bel lt0) trodAll_mk0), rfl, bel.frame _, fun h => by cases h⟩

theorem over : Rows.fnExactLanesDepthRow.holds Try.pinned (OpenSpec.ofChange Rows.fnExactLanesDepthSpec) :=
  OpenClaim.holds_of_wide 4 Try.f4 rfl rfl rfl rfl rfl rfl rfl ⟨rfl, rfl, rfl, rfl, rfl⟩ rfl rfl rfl rfl rfl (by kernel_rfl) Try.func4 (by kernel_rfl)
    (of_decide_eq_true (by kernel_rfl)) (by unfold Func.isWrapper; first | (rw [if_pos (by decide +kernel)]; kernel_rfl) | (rw [if_neg (by decide +kernel)]; exact ⟨rfl, rfl⟩))
    (fun os started H enc _ => lifted os started H enc)

/-- The given statement. -/
theorem proved : Rows.FnExactLanesDepthSaid := over
#print axioms proved
end Go.Proofs.Ytdleibkkjnodlaa.exLanesDepth
