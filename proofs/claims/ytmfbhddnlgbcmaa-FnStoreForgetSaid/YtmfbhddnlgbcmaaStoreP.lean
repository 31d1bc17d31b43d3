/- Stores of batches: what the program and the reference both compute on plain lists. No program. -/
import Derived.Test.YtmfbhddnlgbcmaaLstBatch
namespace Go.Proofs.Ytmfbhddnlgbcmaa
set_option linter.unusedVariables false

def batchB (x : VBatch) : Bool := inB x.d 0 990 && (inB x.a 0 6 && (inB x.r 0 30 && inB x.s 1 12))
/-- What the batch at place j adds to an author's total. -/
def sizeAt (bs : List VBatch) (a : Int) (j : Nat) : Int := if (nthBatch bs j).a = a then (nthBatch bs j).s else 0
def usedTo (bs : List VBatch) (a : Int) (k : Nat) : Int := sumTo (sizeAt bs a) k
def used (bs : List VBatch) (a : Int) : Int := usedTo bs a bs.length
/-- The total as the loop adds it up, in words of 64 bits. -/
def usedW (bs : List VBatch) (a : Int) : Nat → Int
  | 0 => 0
  | k + 1 => if (nthBatch bs k).a = a then Go.RowKit.wrap64 (usedW bs a k + (nthBatch bs k).s) else usedW bs a k
theorem usedW_hit {bs : List VBatch} {a : Int} {k : Nat} (h : (nthBatch bs k).a = a) : usedW bs a (k + 1) = Go.RowKit.wrap64 (usedW bs a k + (nthBatch bs k).s) := by rw [usedW, if_pos h]
theorem usedW_miss {bs : List VBatch} {a : Int} {k : Nat} (h : ¬ (nthBatch bs k).a = a) : usedW bs a (k + 1) = usedW bs a k := by rw [usedW, if_neg h]
theorem usedTo_hit {bs : List VBatch} {a : Int} {k : Nat} (h : (nthBatch bs k).a = a) : usedTo bs a (k + 1) = usedTo bs a k + (nthBatch bs k).s := by simp [usedTo, sumTo, sizeAt, h]
theorem usedTo_miss {bs : List VBatch} {a : Int} {k : Nat} (h : ¬ (nthBatch bs k).a = a) : usedTo bs a (k + 1) = usedTo bs a k := by simp [usedTo, sumTo, sizeAt, h]

def ordOk (f : Int) (bs : List VBatch) (j : Nat) : Bool := batchB (nthBatch bs j) && (decide (f ≤ (nthBatch bs j).r) && !(decide (0 < j) && decide ((nthBatch bs j).d ≤ (nthBatch bs (j - 1)).d)))
def stOk (f : Int) (bs : List VBatch) (j : Nat) : Bool := ordOk f bs j && decide (usedW bs (nthBatch bs j).a bs.length ≤ 30)
def ipOk (f : Int) (bs : List VBatch) (j : Nat) : Bool := ordOk f bs j && decide (usedTo bs (nthBatch bs j).a (j + 1) ≤ 30)
def storeB (f : Int) (bs : List VBatch) : Bool := allTo (stOk f bs) bs.length && (inB f 0 31 && decide (bs.length ≤ 12))

theorem batchB_bd {x : VBatch} (h : batchB x = true) : (0 ≤ x.d ∧ x.d ≤ 990) ∧ (0 ≤ x.a ∧ x.a ≤ 6) ∧ (0 ≤ x.r ∧ x.r ≤ 30) ∧ 1 ≤ x.s ∧ x.s ≤ 12 := by
  simp only [batchB, Bool.and_eq_true, inB_iff] at h; exact ⟨h.1, h.2.1, h.2.2.1, h.2.2.2⟩
theorem ordOk_batch {f : Int} {bs : List VBatch} {j : Nat} (h : ordOk f bs j = true) : batchB (nthBatch bs j) = true := by
  simp only [ordOk, Bool.and_eq_true] at h; exact h.1
theorem usedTo_bd {bs : List VBatch} {a : Int} {k : Nat} (h : ∀ j, j < k → batchB (nthBatch bs j) = true) : 0 ≤ usedTo bs a k ∧ usedTo bs a k ≤ 12 * k := by
  have := sumTo_bd (f := sizeAt bs a) (lo := 0) (hi := 12) (n := k) (fun j hj => by
    have := (batchB_bd (h j hj)).2.2.2
    unfold sizeAt; split <;> omega)
  unfold usedTo; omega
theorem usedW_eq {bs : List VBatch} {a : Int} {k : Nat} (hk : k ≤ 1048576) (h : ∀ j, j < k → batchB (nthBatch bs j) = true) : usedW bs a k = usedTo bs a k := by
  induction k with
  | zero => rfl
  | succ k ih =>
    have e := ih (by omega) (fun j hj => h j (by omega))
    by_cases hh : (nthBatch bs k).a = a
    · rw [usedW_hit hh, usedTo_hit hh, e]
      have h1 := usedTo_bd (bs := bs) (a := a) (k := k) (fun j hj => h j (by omega))
      have h2 := (batchB_bd (h k (by omega))).2.2.2
      exact IntWalk.wrap64_in _ (by omega)
    · rw [usedW_miss hh, usedTo_miss hh, e]
theorem usedTo_mono {bs : List VBatch} {a : Int} {k n : Nat} (hk : k ≤ n) (h : ∀ j, j < n → batchB (nthBatch bs j) = true) : usedTo bs a k ≤ usedTo bs a n := by
  induction n with
  | zero => have : k = 0 := by omega
            subst this; exact Int.le_refl _
  | succ n ih =>
    by_cases e : k = n + 1
    · subst e; exact Int.le_refl _
    · have := ih (by omega) (fun j hj => h j (by omega))
      have h2 := (batchB_bd (h n (by omega))).2.2.2
      by_cases hh : (nthBatch bs n).a = a
      · rw [usedTo_hit hh]; omega
      · rw [usedTo_miss hh]; exact this
theorem used_le {f : Int} {bs : List VBatch} {a : Int} {n : Nat} (h : ∀ j, j < n → ipOk f bs j = true) : usedTo bs a n ≤ 30 := by
  induction n with
  | zero => simp [usedTo, sumTo]
  | succ n ih =>
    by_cases hh : (nthBatch bs n).a = a
    · have := h n (by omega)
      simp only [ipOk, Bool.and_eq_true, decide_eq_true_eq, hh] at this
      exact this.2
    · rw [usedTo_miss hh]; exact ih (fun j hj => h j (by omega))
theorem storeB_ip {f : Int} {bs : List VBatch} (hn : bs.length ≤ 1048576) : allTo (stOk f bs) bs.length = allTo (ipOk f bs) bs.length := by
  rw [Bool.eq_iff_iff, allTo_iff, allTo_iff]
  constructor
  · intro h j hj
    have hb : ∀ i, i < bs.length → batchB (nthBatch bs i) = true := fun i hi => ordOk_batch (by have := h i hi; simp only [stOk, Bool.and_eq_true] at this; exact this.1)
    have h1 := h j hj
    simp only [stOk, Bool.and_eq_true, decide_eq_true_eq] at h1
    simp only [ipOk, Bool.and_eq_true, decide_eq_true_eq]
    rw [usedW_eq hn hb] at h1
    have := usedTo_mono (bs := bs) (a := (nthBatch bs j).a) (k := j + 1) (n := bs.length) (by omega) hb
    exact ⟨h1.1, by omega⟩
  · intro h j hj
    have hb : ∀ i, i < bs.length → batchB (nthBatch bs i) = true := fun i hi => ordOk_batch (by have := h i hi; simp only [ipOk, Bool.and_eq_true] at this; exact this.1)
    have h1 := h j hj
    simp only [ipOk, Bool.and_eq_true, decide_eq_true_eq] at h1
    simp only [stOk, Bool.and_eq_true, decide_eq_true_eq]
    rw [usedW_eq hn hb]
    exact ⟨h1.1, used_le h⟩
theorem storeB_i {f : Int} {bs : List VBatch} (hn : bs.length ≤ 1048576) : storeB f bs = (inB f 0 31 && (decide (bs.length ≤ 12) && allTo (ipOk f bs) bs.length)) := by
  unfold storeB; rw [storeB_ip hn]
  cases allTo (ipOk f bs) bs.length <;> cases inB f 0 31 <;> cases decide (bs.length ≤ 12) <;> rfl
end Go.Proofs.Ytmfbhddnlgbcmaa
