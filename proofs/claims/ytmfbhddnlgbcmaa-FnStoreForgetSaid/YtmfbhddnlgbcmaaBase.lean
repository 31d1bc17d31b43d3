/- What every law calls: copying a list of numbers into new memory, comparing two such lists, the reference's range test. -/
import Derived.Test.YtmfbhddnlgbcmaaRows
import Derived.Test.YtmfbhddnlgbcmaaMem
import Derived.Test.YtmfbhddnlgbcmaaPlain
import Derived.Deep.QuietTactic
import Derived.BigQuiet
namespace Go.Proofs.Ytmfbhddnlgbcmaa
open Go.RowKit
set_option linter.unusedVariables false

theorem info_int : (Try.prog.info? 3).map (fun i => (i.zero, i.size, i.bytes)) = some (some (.int .i64 0), 1, 8) := by kernel_rfl

set_option maxHeartbeats 400000 in
theorem l6In_any (n lo hi : Int) (w : World) :
    Calls Try.prog 48 #[.int .i64 n, .int .i64 lo, .int .i64 hi] w fun e w' => e = .returned (.bool (inB n lo hi)) ∧ w = w' := by
  by_cases h1 : lo ≤ n <;> by_cases h2 : n ≤ hi
  all_goals
    go_enter Try.func48, Try.ntmps48
    go_wp2
    go_ret
    exact ⟨ret_bool (by simp [inB, h1, h2]), rfl⟩

/-- A row that is being filled with zs: the first k places are done. -/
def fillTo (zs : List Int) (k : Nat) (j : Nat) : Value := if j < k then .int .i64 (nth zs j) else .int .i64 0
theorem fillTo_zero (zs : List Int) (j : Nat) : fillTo zs 0 j = .int .i64 0 := by simp [fillTo]
theorem fillTo_step (zs : List Int) (k j : Nat) : (if j = k then Value.int .i64 (nth zs k) else fillTo zs k j) = fillTo zs (k + 1) j := by
  unfold fillTo
  by_cases h : j = k
  · subst h; simp
  · rw [if_neg h]; by_cases h2 : j < k
    · rw [if_pos h2, if_pos (by omega)]
    · rw [if_neg h2, if_neg (by omega)]


theorem Ints.of_row {w : World} {b n B : Nat} {zs : List Int} (h : w.rowIs b 3 n (fun i => .int .i64 (nth zs i))) (hn : zs.length ≤ n) (hB : b < B) : Ints w B (some ⟨b, 0, none⟩) zs :=
  Ints.mk hB fun j hj => by have := h.cell (i := j) (by omega); simpa using this


/-- The first k numbers of two lists agree. -/
def SameTo (xs ys : List Int) (k : Nat) : Prop := ∀ j, j < k → nth xs j = nth ys j
theorem SameTo.all {xs ys : List Int} (hl : xs.length = ys.length) (h : SameTo xs ys xs.length) : xs = ys :=
  List.ext_getElem hl fun i h1 h2 => by have := h i h1; rwa [nth_eq h1, nth_eq h2] at this
theorem SameTo.step {xs ys : List Int} {k : Nat} (h : SameTo xs ys k) (e : nth xs k = nth ys k) : SameTo xs ys (k + 1) := fun j hj => by
  by_cases hjk : j = k
  · subst hjk; exact e
  · exact h j (by omega)

end Go.Proofs.Ytmfbhddnlgbcmaa
