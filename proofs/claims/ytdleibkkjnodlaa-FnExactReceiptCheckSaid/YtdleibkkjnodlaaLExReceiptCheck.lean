/- The law FnExactReceiptCheck holds for every input: the program's ReceiptCheck returns what the reference's returns. -/
import Derived.Test.YtdleibkkjnodlaaRcptC
import Derived.Test.YtdleibkkjnodlaaArgS
namespace Go.Proofs.Ytdleibkkjnodlaa.exReceiptCheck
open Go.ChangeShapes Go.WideShapes Go.ChangeAt Go.RowKit
set_option linter.unusedVariables false

set_option maxHeartbeats 4000000 in
theorem walk1 (root size : Int) (i : Int) (b : Bool) (d : Int) (A : Option Addr) (c : Nat) (ps : List Int) (w : World) (h : Ints w w.heap.size A ps) :
    Calls Try.prog 3 #[.int .i64 root, .int .i64 size, .agg #[.int .i64 i, .bool b, .int .i64 d], .slice A ps.length c] w fun e w' => e = .returned (.bool true) ∧ Below w.heap.size w w' := by
  have BX := Lib.hid (Box.new w #[.int .i64 i, .bool b, .int .i64 d] 23)
  have BB := Lib.hid (allocB w (.cells #[.int .i64 i, .bool b, .int .i64 d] 23))
  have HP := Lib.hid (h.carry BB.out)
  clear h
  by_cases hbig : (1048576 : Int) < ps.length
  · go_enter Try.func3, Try.ntmps3
    go_wp2_with fail
    go_ret
    exact ⟨rfl, BB.out⟩
  have hn : ps.length ≤ 1048576 := by omega
  have hv : (rcheckB root size i b d ps != rcheckB root size i b d ps) = false := by simp
  have ht : decide (ps = ps) = true := by simp
  go_enter Try.func3, Try.ntmps3
  go_wp2_with fail
  refine (toReceipt_any _ _ _ _).mono ?_
  rintro e w1 ⟨rfl, b1⟩
  replace BX := Lib.hid (BX.out.carry b1)
  replace BB := Lib.hid (next BB.out b1)
  replace HP := Lib.hid (HP.out.carry b1)
  clear b1
  go_wp2_with fail
  refine (toIntS_I _ _ ps _ HP.out hn).mono ?_
  rintro e w2 ⟨rfl, i2, b2⟩
  replace BX := Lib.hid (BX.out.carry b2)
  replace BB := Lib.hid (next BB.out b2)
  replace HP := Lib.hid (HP.out.carry b2)
  have I2 := Lib.hid i2
  clear b2 i2
  go_wp2_with fail
  refine (s_ReceiptCheck _ _ _ _ _ _ _ ps _ I2.out hn (Nat.le_refl _) (by omega)).mono ?_
  rintro e w3 ⟨rfl, b3⟩
  replace BX := Lib.hid (BX.out.carry b3)
  replace BB := Lib.hid (next BB.out b3)
  replace HP := Lib.hid (HP.out.carry b3)
  clear b3 I2
  go_wp2_with fail
  refine (toIntS_I _ _ ps _ HP.out hn).mono ?_
  rintro e w4 ⟨rfl, i4, b4⟩
  replace BX := Lib.hid (BX.out.carry b4)
  replace BB := Lib.hid (next BB.out b4)
  replace HP := Lib.hid (HP.out.carry b4)
  have I4 := Lib.hid i4
  clear b4 i4
  have x0 := BX.out.cell (j := 0) (u := .int .i64 i) rfl
  have x1 := BX.out.cell (j := 1) (u := .bool b) rfl
  have x2 := BX.out.cell (j := 2) (u := .int .i64 d) rfl
  go_wp2_with fail
  refine (toReceipt_any _ _ _ _).mono ?_
  rintro e w5 ⟨rfl, b5⟩
  clear x0 x1 x2 BX
  replace BB := Lib.hid (next BB.out b5)
  replace HP := Lib.hid (HP.out.carry b5)
  replace I4 := Lib.hid (I4.out.carry b5)
  clear b5
  go_wp2_with fail
  refine (i_ReceiptCheck _ _ _ _ _ _ _ ps _ I4.out hn (Nat.le_refl _) (by omega)).mono ?_
  rintro e w6 ⟨rfl, b6⟩
  replace BB := Lib.hid (next BB.out b6)
  replace HP := Lib.hid (HP.out.carry b6)
  replace I4 := Lib.hid (I4.out.carry b6)
  clear b6
  go_wp2_with fail
  refine (toIntS_I _ _ ps _ HP.out hn).mono ?_
  rintro e w7 ⟨rfl, i7, b7⟩
  replace BB := Lib.hid (next BB.out b7)
  replace I4 := Lib.hid (I4.out.carry b7)
  have I7 := Lib.hid i7
  clear b7 i7
  go_wp2_with fail
  refine (eqIntS_any _ _ _ _ ps ps _ _ I4.out I7.out hn hn).mono ?_
  rintro e w8 ⟨rfl, q8⟩
  replace BB := Lib.hid (next BB.out (q8.below _))
  clear q8
  go_wp2_with fail
  go_ret
  exact ⟨rfl, BB.out⟩
theorem walk (a0 a1 : Int) (x2 : Int × Bool × Int) (A : Option Addr) (c : Nat) (zs : List Int) (w : World) (h0 : (Lit.int .i64 a0).wf = true) (h1 : (Lit.int .i64 a1).wf = true) (h2 : True) (h : Ints w w.heap.size A zs) :
    Calls Try.prog 3 #[.int .i64 a0, .int .i64 a1, .agg #[.int .i64 x2.1, .bool x2.2.1, .int .i64 x2.2.2], .slice A zs.length c] w fun e w' => e = .returned (.bool true) ∧ Below w.heap.size w w' :=
  walk1 a0 a1 x2.1 x2.2.1 x2.2.2 A c zs w h

set_option maxRecDepth 100000 in
theorem lifted (os : Os) (started : os.Started) (H : Type) (enc : TypeId × Value → H) :
    ReturnsInHanded {} Try.checked os 3 .any (Rows.fnExactReceiptCheckSpec.pre6 enc Try.prog Try.f3 Rows.fnExactReceiptCheckRow.domain false) (Rows.fnExactReceiptCheckSpec.post enc Try.prog Try.f3 false true false false) := by
  refine returnsInHanded_of_change (C := Try.checked) own started (by kernel_rfl) Try.func3
    (ChangeSpec.witness6 (enc := enc) (C := Try.checked) false ⟨#[], #[.int .i64 0, .int .i64 0, .agg #[.int .i64 0, .bool false, .int .i64 0], .slice none 0 0], []⟩ 8 (by kernel_rfl) (by kernel_rfl) (by kernel_rfl) (by kernel_rfl)) ?_
  intro W base args ds gs before hval0 hW hcnd _
  have hval : ∀ (j : Nat) t v, Try.f3.params[j]? = some t → args[j]? = some v → Value.okWide Try.prog W .any base t v := hval0
  have hW' := hW
  obtain ⟨p, q, hA0, hV, rfl, hfz, hnd⟩ := hW
  have hA : DataW.TrodAll enc Try.prog W 0 (fun _ => true) true Try.f3.params.toList args.toList ds p := hA0
  rw [Try.params3] at hA hval
  obtain ⟨v0, vs0, d0, ds0, p0, q0, hargs, rfl, rfl, h0, r0⟩ := trodAll_cons hA
  obtain ⟨v1, vs1, d1, ds1, p1, q1, rfl, rfl, rfl, h1, r1⟩ := trodAll_cons r0
  obtain ⟨v2, vs2, d2, ds2, p2, q2, rfl, rfl, rfl, h2, r2⟩ := trodAll_cons r1
  obtain ⟨v3, vs3, d3, ds3, p3, q3, rfl, rfl, rfl, h3, r3⟩ := trodAll_cons r2
  obtain ⟨rfl, rfl, rfl⟩ := trodAll_nil r3
  obtain rfl : args = #[v0, v1, v2, v3] := by cases args; simp_all
  obtain ⟨rfl, rfl⟩ := trodVars_none hV
  obtain ⟨a0, rfl, rfl, rfl, w0⟩ := open_int Try.underlying3 (hval 0 3 v0 rfl rfl) h0
  obtain ⟨a1, rfl, rfl, rfl, w1⟩ := open_int Try.underlying3 (hval 1 3 v1 rfl rfl) h1
  have k2 := h2
  have lt2 : ∀ x ∈ p2, x.block < W.heap.size := by obtain ⟨m, hm⟩ := k2; exact DataW.trod_lt m _ _ _ hm
  obtain ⟨x2, rfl, w2⟩ := open_rcpt (hval 2 _ v2 rfl rfl) h2
  obtain ⟨a3, len3, c3, rfl⟩ := okWide_slice Try.underlying24 (hval 3 24 v3 rfl rfl)
  have k3 := h3
  have lt3 : ∀ x ∈ p3, x.block < W.heap.size := by obtain ⟨m, hm⟩ := k3; exact DataW.trod_lt m _ _ _ hm
  obtain ⟨z3, rfl, w3⟩ := ints_of_trod h3
  clear hA0 hval0
  refine (walk a0 a1 x2 a3 c3 z3 W w0 w1 w2 w3).mono fun e W' ⟨he, bel⟩ => ?_
  subst he
  exact ⟨_, rfl, _, _, _, [], _, [], hW', trodAll_mk1 (shut_bool Try.underlying4 _), (trodAll_cons_mk (shut_int Try.underlying3 w0) (trodAll_cons_mk (shut_int Try.underlying3 w1) (trodAll_cons_mk (Below.trod laidOut (by kernel_rfl) (of_decide_eq_true (by kernel_rfl)) k2 bel lt2) (trodAll_cons_mk (Below.trod laidOut (by kernel_rfl) (of_decide_eq_true (by kernel_rfl)) k3 bel lt3) trodAll_mk0)))), rfl, bel.frame _, fun h => by cases h⟩

theorem over : Rows.fnExactReceiptCheckRow.holds Try.pinned (OpenSpec.ofChange Rows.fnExactReceiptCheckSpec) :=
  OpenClaim.holds_of_wide 3 Try.f3 rfl rfl rfl rfl rfl rfl rfl ⟨rfl, rfl, rfl, rfl, rfl⟩ rfl rfl rfl rfl rfl (by kernel_rfl) Try.func3 (by kernel_rfl)
    (of_decide_eq_true (by kernel_rfl)) (by unfold Func.isWrapper; first | (rw [if_pos (by decide +kernel)]; kernel_rfl) | (rw [if_neg (by decide +kernel)]; exact ⟨rfl, rfl⟩))
    (fun os started H enc _ => lifted os started H enc)

/-- The given statement. -/
theorem proved : Rows.FnExactReceiptCheckSaid := over
#print axioms proved
end Go.Proofs.Ytdleibkkjnodlaa.exReceiptCheck
