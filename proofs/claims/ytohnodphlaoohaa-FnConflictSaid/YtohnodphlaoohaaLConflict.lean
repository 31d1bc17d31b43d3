/- The law FnConflict holds for every input: conflict is symmetric. -/
import Derived.Test.YtohnodphlaoohaaDraw7
import Derived.Test.YtohnodphlaoohaaTxn
import Derived.Test.YtohnodphlaoohaaArgs
namespace Go.Proofs.Ytohnodphlaoohaa.lawConflict
open Go.ChangeShapes Go.WideShapes Go.ChangeAt Go.RowKit
set_option linter.unusedVariables false

theorem conf_symm (f t f' t' : Int) : conflictB f' t' f t = conflictB f t f' t' := by
  unfold conflictB; rw [Bool.eq_iff_iff]; simp; omega
theorem conf_self (f t : Int) : conflictB f t f t = true := by simp [conflictB]
set_option maxHeartbeats 8000000 in
theorem walk (a0 : Option Addr) (c0 : Nat) (z0 : List Int) (w : World) (h0 : Bytes w w.heap.size a0 z0 ∧ z0.length ≤ c0) :
    Calls Try.prog 10 #[.slice a0 z0.length c0] w fun e w' => e = .returned (.bool true) ∧ Below w.heap.size w w' := by
  by_cases hbig0 : (1048576 : Int) < z0.length
  · go_enter Try.func10, Try.ntmps10
    go_wp2_with fail
    go_ret
    exact ⟨rfl, Below.refl _ _⟩
  have hn0 : z0.length ≤ 1048576 := by omega
  have H0 := Lib.hid h0
  clear h0
  go_enter Try.func10, Try.ntmps10
  go_wp2_with fail
  refine (s_DrawTxnsConflict _ _ _ _ H0.out.1 H0.out.2 hn0).mono ?_
  rintro e w1 ⟨f, t, s, x, f', t', s', x', rfl, b1⟩
  have BB := Lib.hid (b1.trans ((allocB2 w1 (.cells #[.int .i64 f, .int .i64 t, .int .i64 s, .int .i64 x] 75) (.cells #[.int .i64 f', .int .i64 t', .int .i64 s', .int .i64 x'] 75)).mono b1.size))
  clear b1
  have hv : (conflictB f t f' t' != conflictB f t f' t') = false := by simp
  have hs : (conflictB f t f' t' == conflictB f t f' t') = true := by simp
  go_wp2_with fail
  refine (i_TxnsConflict _ _ _ _ _ _ _ _ _).mono ?_
  rintro e w2 ⟨rfl, b2⟩
  replace BB := Lib.hid (next BB.out b2)
  have p0 := keepc (b := w1.heap.size) (off := 0) (v := .int .i64 f) b2 (by simp)
  have p1 := keepc (b := w1.heap.size) (off := 1) (v := .int .i64 t) b2 (by simp)
  have p2 := keepc (b := w1.heap.size) (off := 2) (v := .int .i64 s) b2 (by simp)
  have p3 := keepc (b := w1.heap.size) (off := 3) (v := .int .i64 x) b2 (by simp)
  have q0 := keepc (b := w1.heap.size + 1) (off := 0) (v := .int .i64 f') b2 (by simp)
  have q1 := keepc (b := w1.heap.size + 1) (off := 1) (v := .int .i64 t') b2 (by simp)
  have q2 := keepc (b := w1.heap.size + 1) (off := 2) (v := .int .i64 s') b2 (by simp)
  have q3 := keepc (b := w1.heap.size + 1) (off := 3) (v := .int .i64 x') b2 (by simp)
  clear b2
  go_wp2_with fail
  refine (s_TxnsConflict _ _ _ _ _ _ _ _ _).mono ?_
  rintro e w3 ⟨rfl, b3⟩
  replace BB := Lib.hid (next BB.out b3)
  replace p0 := keepc b3 p0
  replace p1 := keepc b3 p1
  replace p2 := keepc b3 p2
  replace p3 := keepc b3 p3
  replace q0 := keepc b3 q0
  replace q1 := keepc b3 q1
  replace q2 := keepc b3 q2
  replace q3 := keepc b3 q3
  clear b3
  go_wp2_with fail
  refine (i_TxnsConflict _ _ _ _ _ _ _ _ _).mono ?_
  rw [conf_symm f t f' t']
  rintro e w4 ⟨rfl, b4⟩
  replace BB := Lib.hid (next BB.out b4)
  replace p0 := keepc b4 p0
  replace p1 := keepc b4 p1
  replace p2 := keepc b4 p2
  replace p3 := keepc b4 p3
  replace q0 := keepc b4 q0
  replace q1 := keepc b4 q1
  replace q2 := keepc b4 q2
  replace q3 := keepc b4 q3
  clear b4
  go_wp2_with fail
  refine (i_TxnsConflict _ _ _ _ _ _ _ _ _).mono ?_
  rw [conf_self f t]
  rintro e w5 ⟨rfl, b5⟩
  replace BB := Lib.hid (next BB.out b5)
  replace p0 := keepc b5 p0
  replace p1 := keepc b5 p1
  replace p2 := keepc b5 p2
  replace p3 := keepc b5 p3
  replace q0 := keepc b5 q0
  replace q1 := keepc b5 q1
  replace q2 := keepc b5 q2
  replace q3 := keepc b5 q3
  clear b5
  go_wp2_with fail
  go_ret
  exact ⟨rfl, BB.out⟩

set_option maxRecDepth 100000 in
theorem lifted (os : Os) (started : os.Started) (H : Type) (enc : TypeId × Value → H) :
    ReturnsInHanded {} Try.checked os 10 .any (Rows.fnConflictSpec.pre6 enc Try.prog Try.f10 Rows.fnConflictRow.domain false) (Rows.fnConflictSpec.post enc Try.prog Try.f10 false true false false) := by
  refine returnsInHanded_of_change (C := Try.checked) own started (by kernel_rfl) Try.func10
    (ChangeSpec.witness6 (enc := enc) (C := Try.checked) false ⟨#[], #[.slice none 0 0], []⟩ 8 (by kernel_rfl) (by kernel_rfl) (by kernel_rfl) (by kernel_rfl)) ?_
  intro W base args ds gs before hval0 hW hcnd _
  have hval : ∀ (j : Nat) t v, Try.f10.params[j]? = some t → args[j]? = some v → Value.okWide Try.prog W .any base t v := hval0
  have hW' := hW
  obtain ⟨p, q, hA0, hV, rfl, hfz, hnd⟩ := hW
  have hA : DataW.TrodAll enc Try.prog W 0 (fun _ => true) true Try.f10.params.toList args.toList ds p := hA0
  rw [Try.params10] at hA hval
  obtain ⟨v0, vs0, d0, ds0, p0, q0, hargs, rfl, rfl, h0, r0⟩ := trodAll_cons hA
  obtain ⟨rfl, rfl, rfl⟩ := trodAll_nil r0
  obtain rfl : args = #[v0] := by cases args; simp_all
  obtain ⟨rfl, rfl⟩ := trodVars_none hV
  obtain ⟨a0, len0, c0, rfl⟩ := okWide_slice Try.underlying33 (hval 0 33 v0 rfl rfl)
  have k0 := h0
  have lt0 : ∀ x ∈ p0, x.block < W.heap.size := by obtain ⟨m, hm⟩ := k0; exact DataW.trod_lt m _ _ _ hm
  obtain ⟨z0, rfl, w0⟩ := bytes_of_trod h0
  clear hA0 hval0
  refine (walk a0 c0 z0 W w0).mono fun e W' ⟨he, bel⟩ => ?_
  subst he
  exact ⟨_, rfl, _, _, _, [], _, [], hW', trodAll_mk1 (shut_bool Try.underlying4 _), (trodAll_cons_mk (Below.trod laidOut (by kernel_rfl) (of_decide_eq_true (by kernel_rfl)) k0 bel lt0) trodAll_mk0), rfl, bel.frame _, fun h => by cases h⟩

theorem over : Rows.fnConflictRow.holds Try.pinned (OpenSpec.ofChange Rows.fnConflictSpec) :=
  OpenClaim.holds_of_wide 10 Try.f10 rfl rfl rfl rfl rfl rfl rfl ⟨rfl, rfl, rfl, rfl, rfl⟩ rfl rfl rfl rfl rfl (by kernel_rfl) Try.func10 (by kernel_rfl)
    (of_decide_eq_true (by kernel_rfl)) (by unfold Func.isWrapper; first | (rw [if_pos (by decide +kernel)]; kernel_rfl) | (rw [if_neg (by decide +kernel)]; exact ⟨rfl, rfl⟩))
    (fun os started H enc _ => lifted os started H enc)

/-- The given statement. -/
theorem proved : Rows.FnConflictSaid := over
#print axioms proved
end Go.Proofs.Ytohnodphlaoohaa.lawConflict
