/- The laws' own small functions on lists: membership, selections, what two lists share, equality. -/
import Derived.Test.YtmfbhddnlgbcmaaOwn
import Derived.Test.YtmfbhddnlgbcmaaSel
namespace Go.Proofs.Ytmfbhddnlgbcmaa
open Go.RowKit
set_option linter.unusedVariables false

/-- The values f j of those j below k that p selects. -/
def pickTo (p : Nat → Bool) (f : Nat → Int) : Nat → List Int
  | 0 => []
  | k + 1 => if p k = true then pickTo p f k ++ [f k] else pickTo p f k
theorem pickTo_len (p : Nat → Bool) (f : Nat → Int) (k : Nat) : (pickTo p f k).length ≤ k := by
  induction k with
  | zero => simp [pickTo]
  | succ k ih =>
    unfold pickTo
    split
    · rw [List.length_append]; simp; omega
    · omega
theorem pickTo_yes {p : Nat → Bool} {f : Nat → Int} {k : Nat} (h : p k = true) : pickTo p f (k + 1) = pickTo p f k ++ [f k] := by rw [pickTo, if_pos h]
theorem pickTo_no {p : Nat → Bool} {f : Nat → Int} {k : Nat} (h : p k = false) : pickTo p f (k + 1) = pickTo p f k := by rw [pickTo, if_neg (by simp [h])]
theorem pickTo_filter (q : Int → Bool) (zs : List Int) : pickTo (fun j => q (nth zs j)) (nth zs) zs.length = zs.filter q := by
  have h : ∀ k, k ≤ zs.length → pickTo (fun j => q (nth zs j)) (nth zs) k = (zs.take k).filter q := by
    intro k
    induction k with
    | zero => intro _; simp [pickTo]
    | succ k ih =>
      intro hk
      rw [pickTo, ih (by omega), List.take_succ_eq_append_getElem (by omega), List.filter_append, ← nth_eq (show k < zs.length by omega)]
      by_cases hq : q (nth zs k) = true
      · rw [if_pos hq]; simp [hq]
      · rw [if_neg hq]; simp [hq]
  rw [h _ (Nat.le_refl _), List.take_length]
theorem selTo_pick (p : Nat → Bool) (k : Nat) : selTo p k = pickTo p (fun j => (j : Int)) k := by
  induction k with
  | zero => rfl
  | succ k ih => simp only [selTo, pickTo]; rw [ih]

/-- A list of numbers was made in new memory; nothing else has turned. -/
def MadeI (w : World) (zs : List Int) (e : Ending) (w' : World) : Prop :=
  ∃ g cap : Nat, e = .returned (.slice (some ⟨g, 0, none⟩) zs.length cap) ∧ IntsUp w' w.heap.size (some ⟨g, 0, none⟩) zs ∧ zs.length ≤ cap ∧ Below w.heap.size w w'
theorem below_own {w wr w' : World} {v : Value} {base n : Nat} {e : TypeId} {size : Nat} {xs : List Value} (h : Below w.heap.size w wr) (ho : Own wr base e size v n xs) (hb : w.heap.size ≤ base) (hg : wr.grownBy w' v.ownBlock) : Below w.heap.size w w' :=
  h.grown hg h.size (fun k hk => by have := ho.base_le k hk; omega)
end Go.Proofs.Ytmfbhddnlgbcmaa
