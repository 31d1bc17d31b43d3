/- Putting a batch into a store, on plain lists. No program. -/
import Derived.Test.YtmfbhddnlgbcmaaStoreU
namespace Go.Proofs.Ytmfbhddnlgbcmaa
set_option linter.unusedVariables false

/-- Place k is where a digest belongs: all before it are smaller, the one there is not. -/
def PlaceAt (bs : List VBatch) (dg : Int) (k : Nat) : Prop := k ≤ bs.length ∧ (∀ j, j < k → (nthBatch bs j).d < dg) ∧ (k < bs.length → ¬ (nthBatch bs k).d < dg)
def placeFrom (bs : List VBatch) (dg : Int) : Nat → Nat → Nat
  | 0, k => k
  | m + 1, k => if (nthBatch bs k).d < dg then placeFrom bs dg m (k + 1) else k
def placeOf (bs : List VBatch) (dg : Int) : Nat := placeFrom bs dg bs.length 0
theorem placeFrom_eq {bs : List VBatch} {dg : Int} {r : Nat} (h : PlaceAt bs dg r) : ∀ m k, k ≤ r → k + m = bs.length → placeFrom bs dg m k = r := by
  intro m
  induction m with
  | zero => intro k h1 h2; have := h.1; unfold placeFrom; omega
  | succ m ih =>
    intro k h1 h2
    unfold placeFrom
    by_cases e : k = r
    · subst e; rw [if_neg (h.2.2 (by omega))]
    · rw [if_pos (h.2.1 k (by omega))]; exact ih (k + 1) (by omega) (by omega)
theorem placeOf_eq {bs : List VBatch} {dg : Int} {r : Nat} (h : PlaceAt bs dg r) : placeOf bs dg = r := placeFrom_eq h _ _ (Nat.zero_le _) (by omega)
theorem placeOf_spec (bs : List VBatch) (dg : Int) : PlaceAt bs dg (placeOf bs dg) := by
  have hex : ∀ m k, k + m = bs.length → (∀ j, j < k → (nthBatch bs j).d < dg) → ∃ r, PlaceAt bs dg r := by
    intro m
    induction m with
    | zero => intro k h1 h2; exact ⟨k, by omega, h2, fun h => absurd h (by omega)⟩
    | succ m ih =>
      intro k h1 h2
      by_cases h : (nthBatch bs k).d < dg
      · exact ih (k + 1) (by omega) (fun j hj => by
          by_cases e : j = k
          · subst e; exact h
          · exact h2 j (by omega))
      · exact ⟨k, by omega, h2, fun _ => h⟩
  obtain ⟨r, hr⟩ := hex bs.length 0 (by omega) (fun j hj => absurd hj (by omega))
  rw [placeOf_eq hr]; exact hr
/-- Whether the batch's digest is there. -/
def knownB (bs : List VBatch) (dg : Int) : Bool := decide (placeOf bs dg < bs.length ∧ (nthBatch bs (placeOf bs dg)).d = dg)
def fullB (bs : List VBatch) (b : VBatch) : Bool := decide (12 ≤ bs.length ∨ 30 < usedW bs b.a bs.length + b.s)
def putCode (f : Int) (bs : List VBatch) (b : VBatch) : Int :=
  if storeB f bs = true ∧ batchB b = true then (if knownB bs b.d = true then 1 else if b.r < f then 2 else if fullB bs b = true then 3 else 0) else 4
def putFloor (f : Int) (bs : List VBatch) (b : VBatch) : Int := if putCode f bs b = 4 then 0 else f
def inserted (bs : List VBatch) (b : VBatch) : List VBatch := bs.take (placeOf bs b.d) ++ b :: bs.drop (placeOf bs b.d)
def putList (f : Int) (bs : List VBatch) (b : VBatch) : List VBatch := if putCode f bs b = 4 then [] else if putCode f bs b = 0 then inserted bs b else bs
section
variable {f : Int} {bs : List VBatch} {b : VBatch}
theorem put4 (h : storeB f bs = false ∨ batchB b = false) : putCode f bs b = 4 := by
  unfold putCode; rw [if_neg (by rcases h with h | h <;> simp [h])]
theorem put1 (h1 : storeB f bs = true) (h2 : batchB b = true) (h3 : knownB bs b.d = true) : putCode f bs b = 1 := by simp [putCode, h1, h2, h3]
theorem put2 (h1 : storeB f bs = true) (h2 : batchB b = true) (h3 : knownB bs b.d = false) (h4 : b.r < f) : putCode f bs b = 2 := by simp [putCode, h1, h2, h3, h4]
theorem put3 (h1 : storeB f bs = true) (h2 : batchB b = true) (h3 : knownB bs b.d = false) (h4 : ¬ b.r < f) (h5 : fullB bs b = true) : putCode f bs b = 3 := by simp [putCode, h1, h2, h3, h4, h5]
theorem put0 (h1 : storeB f bs = true) (h2 : batchB b = true) (h3 : knownB bs b.d = false) (h4 : ¬ b.r < f) (h5 : fullB bs b = false) : putCode f bs b = 0 := by simp [putCode, h1, h2, h3, h4, h5]
theorem inserted_len : (inserted bs b).length = bs.length + 1 := by
  have := (placeOf_spec bs b.d).1
  simp [inserted, List.length_take]; omega
theorem putList_len : (putList f bs b).length ≤ bs.length + 1 := by
  unfold putList
  split
  · simp
  · split
    · rw [inserted_len]; omega
    · omega
theorem store_len (h : storeB f bs = true) : bs.length ≤ 12 := by simp only [storeB, Bool.and_eq_true, decide_eq_true_eq] at h; exact h.2.2
theorem store_batch (h : storeB f bs = true) (hn : bs.length ≤ 1048576) {j : Nat} (hj : j < bs.length) : batchB (nthBatch bs j) = true := by
  rw [storeB_i hn] at h
  simp only [Bool.and_eq_true] at h
  have := allTo_iff.1 h.2.2 j hj
  simp only [ipOk, Bool.and_eq_true] at this
  exact ordOk_batch this.1
theorem store_used (h : storeB f bs = true) (hn : bs.length ≤ 1048576) (a : Int) : usedW bs a bs.length = usedTo bs a bs.length ∧ 0 ≤ usedTo bs a bs.length ∧ usedTo bs a bs.length ≤ 30 := by
  have hb : ∀ j, j < bs.length → batchB (nthBatch bs j) = true := fun j hj => store_batch h hn hj
  refine ⟨usedW_eq hn hb, (usedTo_bd hb).1, ?_⟩
  rw [storeB_i hn] at h
  simp only [Bool.and_eq_true] at h
  exact used_le (f := f) (fun j hj => allTo_iff.1 h.2.2 j hj)
end
end Go.Proofs.Ytmfbhddnlgbcmaa
