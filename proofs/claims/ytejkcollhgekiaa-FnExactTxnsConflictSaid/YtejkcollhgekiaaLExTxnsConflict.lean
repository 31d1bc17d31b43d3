/- The law FnExactTxnsConflict holds for every input: the program's TxnsConflict returns what the reference's returns. -/
import Derived.Test.YtejkcollhgekiaaTxn
import Derived.Test.YtejkcollhgekiaaArgS
import Derived.Deep.RegionHeld3
namespace Go.Proofs.Ytejkcollhgekiaa.exTxnsConflict
open Go.ChangeShapes Go.WideShapes Go.ChangeAt Go.RowKit
set_option linter.unusedVariables false

/-- The two boxes of the arguments. -/
def Two (w0 : World) (f t s x f' t' s' x' : Int) (w : World) : Prop :=
  w.cell? ⟨w0.heap.size, 0, none⟩ = some (.int .i64 f) ∧ w.cell? ⟨w0.heap.size, 1, none⟩ = some (.int .i64 t) ∧ w.cell? ⟨w0.heap.size, 2, none⟩ = some (.int .i64 s) ∧ w.cell? ⟨w0.heap.size, 3, none⟩ = some (.int .i64 x) ∧
  w.cell? ⟨w0.heap.size + 1, 0, none⟩ = some (.int .i64 f') ∧ w.cell? ⟨w0.heap.size + 1, 1, none⟩ = some (.int .i64 t') ∧ w.cell? ⟨w0.heap.size + 1, 2, none⟩ = some (.int .i64 s') ∧ w.cell? ⟨w0.heap.size + 1, 3, none⟩ = some (.int .i64 x') ∧
  w0.heap.size + 2 ≤ w.heap.size

theorem Two.keep {w0 W w1 : World} {f t s x f' t' s' x' : Int} (h : Two w0 f t s x f' t' s' x' W) (hb : Below W.heap.size W w1) : Two w0 f t s x f' t' s' x' w1 := by
  obtain ⟨h1, h2, h3, h4, h5, h6, h7, h8, h9⟩ := h
  have hz := hb.size
  exact ⟨(hb.cell (by show w0.heap.size < _; omega)).trans h1, (hb.cell (by show w0.heap.size < _; omega)).trans h2, (hb.cell (by show w0.heap.size < _; omega)).trans h3, (hb.cell (by show w0.heap.size < _; omega)).trans h4,
    (hb.cell (by show w0.heap.size + 1 < _; omega)).trans h5, (hb.cell (by show w0.heap.size + 1 < _; omega)).trans h6, (hb.cell (by show w0.heap.size + 1 < _; omega)).trans h7, (hb.cell (by show w0.heap.size + 1 < _; omega)).trans h8, by omega⟩
theorem Two.drew {w0 W : World} {f t s x f' t' s' x' : Int} (h : Two w0 f t s x f' t' s' x' W) : Two w0 f t s x f' t' s' x' W.drew := h
/-- Since the call began only new memory has been made. -/
def Since (w W : World) : Prop := Below w.heap.size w W
theorem Since.step {w W w1 : World} (h : Since w W) (hb : Below W.heap.size W w1) : Since w w1 := next h hb
theorem Since.drew {w W : World} (h : Since w W) : Since w W.drew := Below.drew h

set_option maxHeartbeats 4000000 in
theorem walk1 (f t s x f' t' s' x' : Int) (w : World) :
    Calls Try.prog 3 #[.agg #[.int .i64 f, .int .i64 t, .int .i64 s, .int .i64 x], .agg #[.int .i64 f', .int .i64 t', .int .i64 s', .int .i64 x']] w fun e w' => e = .returned (.bool true) ∧ Below w.heap.size w w' := by
  have hv : (conflictB f t f' t' != conflictB f t f' t') = false := by simp
  have hS0 : Since w ((w.alloc (.cells #[.int .i64 f, .int .i64 t, .int .i64 s, .int .i64 x] 23)).alloc (.cells #[.int .i64 f', .int .i64 t', .int .i64 s', .int .i64 x'] 23)) :=
    ((Below.refl _ _).alloc (Nat.le_refl _) _).alloc (by simp) _
  have hT0 : Two w f t s x f' t' s' x' ((w.alloc (.cells #[.int .i64 f, .int .i64 t, .int .i64 s, .int .i64 x] 23)).alloc (.cells #[.int .i64 f', .int .i64 t', .int .i64 s', .int .i64 x'] 23)) := by
    simp [Two]
  go_enter Try.func3, Try.ntmps3
  go_wp2_with fail
  have hT1 := hT0.drew
  have hS1 := hS0.drew
  go_region_held3 (fun W => W.cell? ⟨w.heap.size, 0, none⟩ = some (.int .i64 f) ∧ W.cell? ⟨w.heap.size, 1, none⟩ = some (.int .i64 t) ∧ W.cell? ⟨w.heap.size, 2, none⟩ = some (.int .i64 s) ∧ W.cell? ⟨w.heap.size, 3, none⟩ = some (.int .i64 x) ∧ W.cell? ⟨w.heap.size + 1, 0, none⟩ = some (.int .i64 f') ∧ W.cell? ⟨w.heap.size + 1, 1, none⟩ = some (.int .i64 t') ∧ W.cell? ⟨w.heap.size + 1, 2, none⟩ = some (.int .i64 s') ∧ W.cell? ⟨w.heap.size + 1, 3, none⟩ = some (.int .i64 x') ∧ w.heap.size + 2 ≤ W.heap.size) (first | exact (show Two w f t s x f' t' s' x' _ from by assumption) | go_keep)
    (first | (go_at_call 16; refine (toTxn_any _ _ _ _ _).mono ?_; rintro e w1 ⟨rfl, hb1⟩; have hT := Two.keep (by assumption) hb1; have hS := Since.step (by assumption) hb1; clear hb1) | (go_at_call 15; refine (s_TxnsConflict _ _ _ _ _ _ _ _ _).mono ?_; rintro e w1 ⟨rfl, hb1⟩; have hT := Two.keep (by assumption) hb1; have hS := Since.step (by assumption) hb1; clear hb1))
  go_wp2_with fail
  have hT2 := Two.drew (show Two w f t s x f' t' s' x' w1 from by assumption)
  have hS2 := Since.drew (show Since w w1 from by assumption)
  go_region_held3 (fun W => W.cell? ⟨w.heap.size, 0, none⟩ = some (.int .i64 f) ∧ W.cell? ⟨w.heap.size, 1, none⟩ = some (.int .i64 t) ∧ W.cell? ⟨w.heap.size, 2, none⟩ = some (.int .i64 s) ∧ W.cell? ⟨w.heap.size, 3, none⟩ = some (.int .i64 x) ∧ W.cell? ⟨w.heap.size + 1, 0, none⟩ = some (.int .i64 f') ∧ W.cell? ⟨w.heap.size + 1, 1, none⟩ = some (.int .i64 t') ∧ W.cell? ⟨w.heap.size + 1, 2, none⟩ = some (.int .i64 s') ∧ W.cell? ⟨w.heap.size + 1, 3, none⟩ = some (.int .i64 x') ∧ w.heap.size + 2 ≤ W.heap.size) (first | exact (show Two w f t s x f' t' s' x' _ from by assumption) | go_keep)
    (first | (go_at_call 16; refine (toTxn_any _ _ _ _ _).mono ?_; rintro e w1 ⟨rfl, hb1⟩; have hT := Two.keep (by assumption) hb1; have hS := Since.step (by assumption) hb1; clear hb1) | (go_at_call 17; refine (i_TxnsConflict _ _ _ _ _ _ _ _ _).mono ?_; rintro e w1 ⟨rfl, hb1⟩; have hT := Two.keep (by assumption) hb1; have hS := Since.step (by assumption) hb1; clear hb1))
  go_wp2_with fail
  go_ret
  exact ⟨rfl, by assumption⟩
theorem walk (x0 x1 : Int × Int × Int × Int) (w : World) (h h' : True) :
    Calls Try.prog 3 #[.agg #[.int .i64 x0.1, .int .i64 x0.2.1, .int .i64 x0.2.2.1, .int .i64 x0.2.2.2], .agg #[.int .i64 x1.1, .int .i64 x1.2.1, .int .i64 x1.2.2.1, .int .i64 x1.2.2.2]] w fun e w' => e = .returned (.bool true) ∧ Below w.heap.size w w' := walk1 _ _ _ _ _ _ _ _ w

set_option maxRecDepth 100000 in
theorem lifted (os : Os) (started : os.Started) (H : Type) (enc : TypeId × Value → H) :
    ReturnsInHanded {} Try.checked os 3 .any (Rows.fnExactTxnsConflictSpec.pre6 enc Try.prog Try.f3 Rows.fnExactTxnsConflictRow.domain false) (Rows.fnExactTxnsConflictSpec.post enc Try.prog Try.f3 false true false false) := by
  refine returnsInHanded_of_change (C := Try.checked) own started (by kernel_rfl) Try.func3
    (ChangeSpec.witness6 (enc := enc) (C := Try.checked) false ⟨#[], #[.agg #[.int .i64 0, .int .i64 0, .int .i64 0, .int .i64 0], .agg #[.int .i64 0, .int .i64 0, .int .i64 0, .int .i64 0]], []⟩ 8 (by kernel_rfl) (by kernel_rfl) (by kernel_rfl) (by kernel_rfl)) ?_
  intro W base args ds gs before hval0 hW hcnd _
  have hval : ∀ (j : Nat) t v, Try.f3.params[j]? = some t → args[j]? = some v → Value.okWide Try.prog W .any base t v := hval0
  have hW' := hW
  obtain ⟨p, q, hA0, hV, rfl, hfz, hnd⟩ := hW
  have hA : DataW.TrodAll enc Try.prog W 0 (fun _ => true) true Try.f3.params.toList args.toList ds p := hA0
  rw [Try.params3] at hA hval
  obtain ⟨v0, vs0, d0, ds0, p0, q0, hargs, rfl, rfl, h0, r0⟩ := trodAll_cons hA
  obtain ⟨v1, vs1, d1, ds1, p1, q1, rfl, rfl, rfl, h1, r1⟩ := trodAll_cons r0
  obtain ⟨rfl, rfl, rfl⟩ := trodAll_nil r1
  obtain rfl : args = #[v0, v1] := by cases args; simp_all
  obtain ⟨rfl, rfl⟩ := trodVars_none hV
  have k0 := h0
  have lt0 : ∀ x ∈ p0, x.block < W.heap.size := by obtain ⟨m, hm⟩ := k0; exact DataW.trod_lt m _ _ _ hm
  obtain ⟨x0, rfl, w0⟩ := open_txn (hval 0 _ v0 rfl rfl) h0
  have k1 := h1
  have lt1 : ∀ x ∈ p1, x.block < W.heap.size := by obtain ⟨m, hm⟩ := k1; exact DataW.trod_lt m _ _ _ hm
  obtain ⟨x1, rfl, w1⟩ := open_txn (hval 1 _ v1 rfl rfl) h1
  clear hA0 hval0
  refine (walk x0 x1 W w0 w1).mono fun e W' ⟨he, bel⟩ => ?_
  subst he
  exact ⟨_, rfl, _, _, _, [], _, [], hW', trodAll_mk1 (shut_bool Try.underlying4 _), (trodAll_cons_mk (Below.trod laidOut (by kernel_rfl) (of_decide_eq_true (by kernel_rfl)) k0 bel lt0) (trodAll_cons_mk (Below.trod laidOut (by kernel_rfl) (of_decide_eq_true (by kernel_rfl)) k1 bel lt1) trodAll_mk0)), rfl, bel.frame _, fun h => by cases h⟩

theorem over : Rows.fnExactTxnsConflictRow.holds Try.pinned (OpenSpec.ofChange Rows.fnExactTxnsConflictSpec) :=
  OpenClaim.holds_of_wide 3 Try.f3 rfl rfl rfl rfl rfl rfl rfl ⟨rfl, rfl, rfl, rfl, rfl⟩ rfl rfl rfl rfl rfl (by kernel_rfl) Try.func3 (by kernel_rfl)
    (of_decide_eq_true (by kernel_rfl)) (by unfold Func.isWrapper; first | (rw [if_pos (by decide +kernel)]; kernel_rfl) | (rw [if_neg (by decide +kernel)]; exact ⟨rfl, rfl⟩))
    (fun os started H enc _ => lifted os started H enc)

/-- The given statement. -/
theorem proved : Rows.FnExactTxnsConflictSaid := over
#print axioms proved
end Go.Proofs.Ytejkcollhgekiaa.exTxnsConflict
