/- Transactions: the copy, and whether two have a common account: each function by its contract. -/
import Derived.Test.YtdleibkkjnodlaaBase
import Derived.Laws.ResultCell
namespace Go.Proofs.Ytdleibkkjnodlaa
open Go.RowKit
set_option linter.unusedVariables false

/-- A transaction as a value. -/
def txnV (f t s e : Int) : Value := .agg #[.int .i64 f, .int .i64 t, .int .i64 s, .int .i64 e]
def conflictB (f t f' t' : Int) : Bool := decide (f = f' ∨ f = t' ∨ t = f' ∨ t = t')

set_option maxHeartbeats 1000000 in
theorem toTxn_any (f t s x : Int) (w : World) :
    Calls Try.prog 47 #[.agg #[.int .i64 f, .int .i64 t, .int .i64 s, .int .i64 x]] w fun e w' => e = .returned (.agg #[.int .i64 f, .int .i64 t, .int .i64 s, .int .i64 x]) ∧ Below w.heap.size w w' := by
  go_enter Try.func47, Try.ntmps47
  go_wp2
  exact bodyPost_ret (v := .agg #[.int .i64 f, .int .i64 t, .int .i64 s, .int .i64 x]) (by simp [results, Try.results47, go_sem]) rfl ⟨rfl, (((Below.refl _ _).alloc (Nat.le_refl _) _).alloc (by simp) _).alloc (by simp; omega) _⟩
set_option maxHeartbeats 2000000 in
theorem s_TxnsConflict (f t s x f' t' s' x' : Int) (w : World) :
    Calls Try.prog 72 #[.agg #[.int .i64 f, .int .i64 t, .int .i64 s, .int .i64 x], .agg #[.int .i64 f', .int .i64 t', .int .i64 s', .int .i64 x']] w fun e w' => e = .returned (.bool (conflictB f t f' t')) ∧ Below w.heap.size w w' := by
  have hb : ∀ o1 o2, Below w.heap.size w ((w.alloc o1).alloc o2) := fun o1 o2 => ((Below.refl _ _).alloc (Nat.le_refl _) _).alloc (by simp) _
  have HB := Lib.hid hb
  clear hb
  by_cases h1 : f = f'
  · have g1 : (f == f') = true := by simpa using h1
    have hr : conflictB f t f' t' = true := by simp [conflictB, h1]
    have HR := Lib.hid hr
    clear h1 hr
    go_enter Try.func72, Try.ntmps72
    go_wp2
    go_ret
    exact ⟨ret_bool HR.out.symm, HB.out _ _⟩
  have g1 : (f == f') = false := by simpa using h1
  by_cases h2 : f = t'
  · have g2 : (f == t') = true := by simpa using h2
    have hr : conflictB f t f' t' = true := by simp [conflictB, h2]
    have HR := Lib.hid hr
    clear h1 h2 hr
    go_enter Try.func72, Try.ntmps72
    go_wp2
    go_ret
    exact ⟨ret_bool HR.out.symm, HB.out _ _⟩
  have g2 : (f == t') = false := by simpa using h2
  by_cases h3 : t = f'
  · have g3 : (t == f') = true := by simpa using h3
    have hr : conflictB f t f' t' = true := by simp [conflictB, h3]
    have HR := Lib.hid hr
    clear h1 h2 h3 hr
    go_enter Try.func72, Try.ntmps72
    go_wp2
    go_ret
    exact ⟨ret_bool HR.out.symm, HB.out _ _⟩
  have g3 : (t == f') = false := by simpa using h3
  have hr : (t == t') = conflictB f t f' t' := by simp [conflictB, h1, h2, h3]; exact Bool.beq_eq_decide_eq t t'
  have HR := Lib.hid hr
  clear h1 h2 h3 hr
  go_enter Try.func72, Try.ntmps72
  go_wp2
  go_ret
  exact ⟨ret_bool HR.out, HB.out _ _⟩
set_option maxHeartbeats 2000000 in
theorem i_TxnsConflict (f t s x f' t' s' x' : Int) (w : World) :
    Calls Try.prog 27 #[.agg #[.int .i64 f, .int .i64 t, .int .i64 s, .int .i64 x], .agg #[.int .i64 f', .int .i64 t', .int .i64 s', .int .i64 x']] w fun e w' => e = .returned (.bool (conflictB f t f' t')) ∧ Below w.heap.size w w' := by
  have hb : ∀ o1 o2, Below w.heap.size w ((w.alloc o1).alloc o2) := fun o1 o2 => ((Below.refl _ _).alloc (Nat.le_refl _) _).alloc (by simp) _
  have HB := Lib.hid hb
  clear hb
  by_cases h1 : f = f'
  · have g1 : (f == f') = true := by simpa using h1
    have hr : conflictB f t f' t' = true := by simp [conflictB, h1]
    have HR := Lib.hid hr
    clear h1 hr
    go_enter Try.func27, Try.ntmps27
    go_wp2
    go_ret
    exact ⟨ret_bool HR.out.symm, HB.out _ _⟩
  have g1 : (f == f') = false := by simpa using h1
  by_cases h2 : f = t'
  · have g2 : (f == t') = true := by simpa using h2
    have hr : conflictB f t f' t' = true := by simp [conflictB, h2]
    have HR := Lib.hid hr
    clear h1 h2 hr
    go_enter Try.func27, Try.ntmps27
    go_wp2
    go_ret
    exact ⟨ret_bool HR.out.symm, HB.out _ _⟩
  have g2 : (f == t') = false := by simpa using h2
  by_cases h3 : t = f'
  · have g3 : (t == f') = true := by simpa using h3
    have hr : conflictB f t f' t' = true := by simp [conflictB, h3]
    have HR := Lib.hid hr
    clear h1 h2 h3 hr
    go_enter Try.func27, Try.ntmps27
    go_wp2
    go_ret
    exact ⟨ret_bool HR.out.symm, HB.out _ _⟩
  have g3 : (t == f') = false := by simpa using h3
  have hr : (t == t') = conflictB f t f' t' := by simp [conflictB, h1, h2, h3]; exact Bool.beq_eq_decide_eq t t'
  have HR := Lib.hid hr
  clear h1 h2 h3 hr
  go_enter Try.func27, Try.ntmps27
  go_wp2
  go_ret
  exact ⟨ret_bool HR.out, HB.out _ _⟩
end Go.Proofs.Ytdleibkkjnodlaa
