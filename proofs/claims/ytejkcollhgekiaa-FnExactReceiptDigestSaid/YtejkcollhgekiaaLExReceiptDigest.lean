/- The law FnExactReceiptDigest holds for every input: the program's ReceiptDigest returns what the reference's returns. -/
import Derived.Test.YtejkcollhgekiaaRcpt
import Derived.Test.YtejkcollhgekiaaArgS
namespace Go.Proofs.Ytejkcollhgekiaa.exReceiptDigest
open Go.ChangeShapes Go.WideShapes Go.ChangeAt Go.RowKit
set_option linter.unusedVariables false

set_option maxHeartbeats 2000000 in
theorem walk1 (i : Int) (b : Bool) (d : Int) (w : World) :
    Calls Try.prog 5 #[.agg #[.int .i64 i, .bool b, .int .i64 d]] w fun e w' => e = .returned (.bool true) ∧ Below w.heap.size w w' := by
  have hb0 : Below w.heap.size w (w.alloc (.cells #[.int .i64 i, .bool b, .int .i64 d] 33)) := (Below.refl _ _).alloc (Nat.le_refl _) _
  have HB0 := Lib.hid hb0
  clear hb0
  have hv : (rcptD i b d != rcptD i b d) = false := by simp
  go_enter Try.func5, Try.ntmps5
  go_wp2_with fail
  refine (toReceipt_any _ _ _ _).mono ?_
  rintro e w1 ⟨rfl, b1⟩
  have B1 := Lib.hid b1
  clear b1
  go_wp2_with fail
  refine (s_ReceiptDigest _ _ _ _).mono ?_
  rintro e w2 ⟨rfl, b2⟩
  have hb2 := next B1.out b2
  have c0 := hb2.cell (p := ⟨w.heap.size, 0, none⟩) (by simp)
  have c1 := hb2.cell (p := ⟨w.heap.size, 1, none⟩) (by simp)
  have c2 := hb2.cell (p := ⟨w.heap.size, 2, none⟩) (by simp)
  simp at c0 c1 c2
  have B2 := Lib.hid hb2
  clear b2 hb2
  go_wp2_with fail
  refine (toReceipt_any _ _ _ _).mono ?_
  rintro e w3 ⟨rfl, b3⟩
  have B3 := Lib.hid b3
  clear b3 c0 c1 c2
  go_wp2_with fail
  refine (i_ReceiptDigest _ _ _ _).mono ?_
  rintro e w4 ⟨rfl, b4⟩
  have B4 := Lib.hid b4
  clear b4
  go_wp2_with fail
  go_ret
  exact ⟨rfl, next HB0.out (next B2.out (next B3.out B4.out))⟩
theorem walk (x0 : Int × Bool × Int) (w : World) (h : True) :
    Calls Try.prog 5 #[.agg #[.int .i64 x0.1, .bool x0.2.1, .int .i64 x0.2.2]] w fun e w' => e = .returned (.bool true) ∧ Below w.heap.size w w' := walk1 x0.1 x0.2.1 x0.2.2 w

set_option maxRecDepth 100000 in
theorem lifted (os : Os) (started : os.Started) (H : Type) (enc : TypeId × Value → H) :
    ReturnsInHanded {} Try.checked os 5 .any (Rows.fnExactReceiptDigestSpec.pre6 enc Try.prog Try.f5 Rows.fnExactReceiptDigestRow.domain false) (Rows.fnExactReceiptDigestSpec.post enc Try.prog Try.f5 false true false false) := by
  refine returnsInHanded_of_change (C := Try.checked) own started (by kernel_rfl) Try.func5
    (ChangeSpec.witness6 (enc := enc) (C := Try.checked) false ⟨#[], #[.agg #[.int .i64 0, .bool false, .int .i64 0]], []⟩ 8 (by kernel_rfl) (by kernel_rfl) (by kernel_rfl) (by kernel_rfl)) ?_
  intro W base args ds gs before hval0 hW hcnd _
  have hval : ∀ (j : Nat) t v, Try.f5.params[j]? = some t → args[j]? = some v → Value.okWide Try.prog W .any base t v := hval0
  have hW' := hW
  obtain ⟨p, q, hA0, hV, rfl, hfz, hnd⟩ := hW
  have hA : DataW.TrodAll enc Try.prog W 0 (fun _ => true) true Try.f5.params.toList args.toList ds p := hA0
  rw [Try.params5] at hA hval
  obtain ⟨v0, vs0, d0, ds0, p0, q0, hargs, rfl, rfl, h0, r0⟩ := trodAll_cons hA
  obtain ⟨rfl, rfl, rfl⟩ := trodAll_nil r0
  obtain rfl : args = #[v0] := by cases args; simp_all
  obtain ⟨rfl, rfl⟩ := trodVars_none hV
  have k0 := h0
  have lt0 : ∀ x ∈ p0, x.block < W.heap.size := by obtain ⟨m, hm⟩ := k0; exact DataW.trod_lt m _ _ _ hm
  obtain ⟨x0, rfl, w0⟩ := open_rcpt (hval 0 _ v0 rfl rfl) h0
  clear hA0 hval0
  refine (walk x0 W w0).mono fun e W' ⟨he, bel⟩ => ?_
  subst he
  exact ⟨_, rfl, _, _, _, [], _, [], hW', trodAll_mk1 (shut_bool Try.underlying4 _), (trodAll_cons_mk (Below.trod laidOut (by kernel_rfl) (of_decide_eq_true (by kernel_rfl)) k0 bel lt0) trodAll_mk0), rfl, bel.frame _, fun h => by cases h⟩

theorem over : Rows.fnExactReceiptDigestRow.holds Try.pinned (OpenSpec.ofChange Rows.fnExactReceiptDigestSpec) :=
  OpenClaim.holds_of_wide 5 Try.f5 rfl rfl rfl rfl rfl rfl rfl ⟨rfl, rfl, rfl, rfl, rfl⟩ rfl rfl rfl rfl rfl (by kernel_rfl) Try.func5 (by kernel_rfl)
    (of_decide_eq_true (by kernel_rfl)) (by unfold Func.isWrapper; first | (rw [if_pos (by decide +kernel)]; kernel_rfl) | (rw [if_neg (by decide +kernel)]; exact ⟨rfl, rfl⟩))
    (fun os started H enc _ => lifted os started H enc)

/-- The given statement. -/
theorem proved : Rows.FnExactReceiptDigestSaid := over
#print axioms proved
end Go.Proofs.Ytejkcollhgekiaa.exReceiptDigest
