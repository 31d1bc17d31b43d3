/- Sets of members as selections: the plain laws on weights. No program. -/
import Derived.Test.YtohnodphlaoohaaPlain
namespace Go.Proofs.Ytohnodphlaoohaa
set_option linter.unusedVariables false

/-- The numbers below k that p selects, ascending. -/
def selTo (p : Nat → Bool) : Nat → List Int
  | 0 => []
  | k + 1 => if p k = true then selTo p k ++ [(k : Int)] else selTo p k
/-- Does the list hold z? -/
def hasB (zs : List Int) (z : Int) : Bool := zs.any (fun y => y == z)
theorem hasB_iff {zs : List Int} {z : Int} : hasB zs z = true ↔ z ∈ zs := by simp [hasB]
theorem hasB_no {zs : List Int} {z : Int} : hasB zs z = false ↔ ¬ z ∈ zs := by
  rw [← hasB_iff]; simp

theorem selTo_len (p : Nat → Bool) (k : Nat) : (selTo p k).length ≤ k := by
  induction k with
  | zero => simp [selTo]
  | succ k ih =>
    unfold selTo
    split
    · rw [List.length_append]; simp; omega
    · omega
theorem mem_selTo {p : Nat → Bool} {k : Nat} {z : Int} : z ∈ selTo p k ↔ ∃ i, i < k ∧ p i = true ∧ z = (i : Int) := by
  induction k with
  | zero => simp [selTo]
  | succ k ih =>
    unfold selTo
    constructor
    · intro h
      split at h
      · rename_i hp
        rcases List.mem_append.1 h with h | h
        · obtain ⟨i, a, b, c⟩ := ih.1 h
          exact ⟨i, by omega, b, c⟩
        · exact ⟨k, by omega, hp, by simpa using h⟩
      · obtain ⟨i, a, b, c⟩ := ih.1 h
        exact ⟨i, by omega, b, c⟩
    · rintro ⟨i, a, b, c⟩
      by_cases e : i = k
      · subst e
        rw [if_pos b]
        exact List.mem_append.2 (.inr (by simp [c]))
      · have hm := ih.2 ⟨i, by omega, b, c⟩
        split
        · exact List.mem_append.2 (.inl hm)
        · exact hm

/-- Ascending: each number is below the next. -/
def Asc (zs : List Int) : Prop := zs.Pairwise (· < ·)
theorem asc_selTo (p : Nat → Bool) (k : Nat) : Asc (selTo p k) := by
  induction k with
  | zero => simp [selTo, Asc]
  | succ k ih =>
    unfold selTo
    split
    · refine List.pairwise_append.2 ⟨ih, by simp, fun a ha b hb => ?_⟩
      obtain ⟨i, h1, _, h3⟩ := mem_selTo.1 ha
      have : b = (k : Int) := by simpa using hb
      omega
    · exact ih

theorem asc_of {ms : List Int} (h : ∀ j, j + 1 < ms.length → nth ms j < nth ms (j + 1)) : Asc ms := by
  have hlt : ∀ d i, i + d + 1 < ms.length → nth ms i < nth ms (i + d + 1) := by
    intro d
    induction d with
    | zero => intro i hi; exact h i hi
    | succ d ih =>
      intro i hi
      have h1 := ih i (by omega)
      have h2 := h (i + d + 1) (by omega)
      rw [show i + (d + 1) + 1 = i + d + 1 + 1 by omega]
      omega
  unfold Asc
  rw [List.pairwise_iff_getElem]
  intro i j hi hj hij
  have := hlt (j - i - 1) i (by omega)
  rw [show i + (j - i - 1) + 1 = j by omega, nth_eq hi, nth_eq hj] at this
  exact this
theorem of_asc {ms : List Int} (h : Asc ms) {i j : Nat} (hij : i < j) (hj : j < ms.length) : nth ms i < nth ms j := by
  rw [nth_eq (by omega), nth_eq hj]
  exact (List.pairwise_iff_getElem.1 h) i j (by omega) hj hij

/-- Members: in range and ascending. -/
theorem memB_iff {n : Nat} {ms : List Int} : memB n ms = true ↔ (∀ z ∈ ms, 0 ≤ z ∧ z < n) ∧ Asc ms := by
  unfold memB
  rw [allTo_iff]
  constructor
  · intro h
    refine ⟨fun z hz => ?_, asc_of fun j hj => ?_⟩
    · obtain ⟨i, hi, rfl⟩ := List.getElem_of_mem hz
      rw [← nth_eq hi]
      exact memOk_in (h i hi)
    · have := h (j + 1) hj
      simp only [memOk, Bool.and_eq_true, Bool.not_eq_true', Bool.and_eq_false_iff, decide_eq_false_iff_not] at this
      have h2 := this.2
      rw [show j + 1 - 1 = j by omega] at h2
      omega
  · rintro ⟨h1, h2⟩ j hj
    have h3 := h1 (nth ms j) (by rw [nth_eq hj]; exact List.getElem_mem hj)
    simp only [memOk, Bool.and_eq_true, inB_iff, Bool.not_eq_true', Bool.and_eq_false_iff, decide_eq_false_iff_not]
    refine ⟨by omega, ?_⟩
    by_cases h0 : 0 < j
    · right
      have := of_asc h2 (show j - 1 < j by omega) hj
      omega
    · left; exact h0
theorem memB_selTo (p : Nat → Bool) (n : Nat) : memB n (selTo p n) = true :=
  memB_iff.2 ⟨fun z hz => by obtain ⟨i, h1, _, h3⟩ := mem_selTo.1 hz; omega, asc_selTo p n⟩

theorem asc_ext {xs ys : List Int} (hx : Asc xs) (hy : Asc ys) (h : ∀ z, z ∈ xs ↔ z ∈ ys) : xs = ys := by
  induction xs generalizing ys with
  | nil =>
    cases ys with
    | nil => rfl
    | cons y ys => have := (h y).2 (by simp); simp at this
  | cons x xs ih =>
    cases ys with
    | nil => have := (h x).1 (by simp); simp at this
    | cons y ys =>
      obtain ⟨hx1, hx2⟩ := List.pairwise_cons.1 hx
      obtain ⟨hy1, hy2⟩ := List.pairwise_cons.1 hy
      have e : x = y := by
        rcases List.mem_cons.1 ((h x).1 (by simp)) with h1 | h1
        · exact h1
        · rcases List.mem_cons.1 ((h y).2 (by simp)) with h2 | h2
          · exact h2.symm
          · have := hx1 y h2; have := hy1 x h1; omega
      subst e
      rw [ih hx2 hy2 (fun z => ?_)]
      constructor
      · intro hz
        rcases List.mem_cons.1 ((h z).1 (by simp [hz])) with h1 | h1
        · have := hx1 z hz; omega
        · exact h1
      · intro hz
        rcases List.mem_cons.1 ((h z).2 (by simp [hz])) with h1 | h1
        · have := hy1 z hz; omega
        · exact h1
/-- A set of members is the selection of what it holds. -/
theorem members_sel {n : Nat} {ms : List Int} (h : memB n ms = true) : ms = selTo (fun i => hasB ms i) n := by
  obtain ⟨h1, h2⟩ := memB_iff.1 h
  refine asc_ext h2 (asc_selTo _ _) (fun z => ?_)
  rw [mem_selTo]
  constructor
  · intro hz
    have := h1 z hz
    exact ⟨z.toNat, by omega, hasB_iff.2 (by rw [show ((z.toNat : Nat) : Int) = z by omega]; exact hz), by omega⟩
  · rintro ⟨i, _, h4, h5⟩
    rw [h5]; exact hasB_iff.1 h4

/-- What both hold. -/
def commonL (xs ys : List Int) : List Int := xs.filter (fun z => hasB ys z)
theorem commonL_sel (p q : Nat → Bool) (n : Nat) : commonL (selTo p n) (selTo q n) = selTo (fun i => p i && q i) n := by
  refine asc_ext ((asc_selTo p n).filter _) (asc_selTo _ _) (fun z => ?_)
  unfold commonL
  rw [List.mem_filter, hasB_iff, mem_selTo, mem_selTo, mem_selTo]
  constructor
  · rintro ⟨⟨i, a, b, rfl⟩, j, c, d, e⟩
    have : i = j := by omega
    subst this
    exact ⟨i, a, by simp [b, d], rfl⟩
  · rintro ⟨i, a, b, rfl⟩
    simp only [Bool.and_eq_true] at b
    exact ⟨⟨i, a, b.1, rfl⟩, i, a, b.2, rfl⟩

theorem sumTo_list (zs : List Int) (xs : List Int) : ∀ k, k ≤ xs.length → sumTo (weightAt zs xs) k = ((xs.take k).map (fun m => nth zs m.toNat)).sum := by
  intro k
  induction k with
  | zero => intro _; simp [sumTo]
  | succ k ih =>
    intro hk
    rw [sumTo, ih (by omega), List.take_succ_eq_append_getElem (by omega), List.map_append, List.sum_append]
    simp [weightAt, nth_eq (show k < xs.length by omega)]
theorem weight_list (zs xs : List Int) : weight zs xs = (xs.map (fun m => nth zs m.toNat)).sum := by
  unfold weight; rw [sumTo_list zs xs _ (Nat.le_refl _), List.take_length]
theorem weight_sel (zs : List Int) (p : Nat → Bool) (n : Nat) : weight zs (selTo p n) = sumTo (fun i => if p i = true then nth zs i else 0) n := by
  rw [weight_list]
  induction n with
  | zero => simp [selTo, sumTo]
  | succ n ih =>
    rw [sumTo, ← ih]
    by_cases hp : p n = true
    · rw [selTo, if_pos hp, List.map_append, List.sum_append]; simp [hp]
    · rw [selTo, if_neg hp]; simp [hp]
theorem sumTo_add (f g : Nat → Int) (n : Nat) : sumTo (fun i => f i + g i) n = sumTo f n + sumTo g n := by
  induction n with
  | zero => simp [sumTo]
  | succ n ih => simp only [sumTo]; rw [ih]; omega
theorem sumTo_le {f g : Nat → Int} {n : Nat} (h : ∀ j, j < n → f j ≤ g j) : sumTo f n ≤ sumTo g n := by
  induction n with
  | zero => simp [sumTo]
  | succ n ih => simp only [sumTo]; have := ih (fun j hj => h j (by omega)); have := h n (by omega); omega
/-- Two selections together weigh at most the total and what they share. -/
theorem weight_two {zs : List Int} (hv : validB zs = true) (p q : Nat → Bool) :
    weight zs (selTo p zs.length) + weight zs (selTo q zs.length) ≤ total zs + weight zs (selTo (fun i => p i && q i) zs.length) := by
  rw [weight_sel, weight_sel, weight_sel, total, ← sumTo_add, ← sumTo_add]
  refine sumTo_le fun j hj => ?_
  have := validB_at hv hj
  cases p j <;> cases q j <;> simp <;> omega
theorem weight_adds {zs : List Int} (p q : Nat → Bool) (n : Nat) :
    weight zs (selTo p n) + weight zs (selTo q n) = weight zs (selTo (fun i => p i || q i) n) + weight zs (selTo (fun i => p i && q i) n) := by
  rw [weight_sel, weight_sel, weight_sel, weight_sel, ← sumTo_add, ← sumTo_add]
  refine sumTo_congr fun j hj => ?_
  cases p j <;> cases q j <;> simp
theorem cWeight_sel {zs : List Int} (hv : validB zs = true) (p : Nat → Bool) : cWeight zs (selTo p zs.length) = weight zs (selTo p zs.length) := by
  unfold cWeight membersB
  rw [hv, memB_selTo]; rfl
theorem weight_all {zs : List Int} (p : Nat → Bool) (hp : ∀ i, i < zs.length → p i = true) : weight zs (selTo p zs.length) = total zs := by
  rw [weight_sel, total]
  refine sumTo_congr fun j hj => ?_
  rw [if_pos (hp j hj)]

/-- Bit i of a number. -/
def bitB (n : Nat) (i : Nat) : Bool := decide (n / 2 ^ i % 2 = 1)
theorem meet_quorums {zs : List Int} (hv : validB zs = true) (p q : Nat → Bool) (h1 : quorum zs ≤ weight zs (selTo p zs.length)) (h2 : quorum zs ≤ weight zs (selTo q zs.length)) :
    (total zs - 1) / 3 < weight zs (selTo (fun i => p i && q i) zs.length) := by
  have h := weight_two hv p q
  have ht := total_bd hv
  unfold quorum at h1 h2
  omega
theorem selTo_nil {p : Nat → Bool} {n : Nat} (h : (selTo p n).length = 0) : ∀ i, i < n → p i = false := by
  intro i hi
  rcases hp : p i with _ | _
  · rfl
  · have : (i : Int) ∈ selTo p n := mem_selTo.2 ⟨i, hi, hp, rfl⟩
    rw [List.eq_nil_of_length_eq_zero h] at this
    simp at this
theorem meet_support {zs : List Int} (hv : validB zs = true) (p q : Nat → Bool) (h1 : quorum zs ≤ weight zs (selTo p zs.length)) (h2 : support zs ≤ weight zs (selTo q zs.length)) :
    0 < (selTo (fun i => p i && q i) zs.length).length := by
  rcases Nat.eq_zero_or_pos (selTo (fun i => p i && q i) zs.length).length with h0 | h0
  · exfalso
    have h := weight_two hv p q
    have ht := total_bd hv
    have hz : weight zs (selTo (fun i => p i && q i) zs.length) = 0 := by
      rw [List.eq_nil_of_length_eq_zero h0]; simp [weight, sumTo]
    rw [hz] at h
    unfold quorum at h1
    unfold support at h2
    omega
  · exact h0

/-- The numbers of a committee that is valid. -/
theorem nums {zs : List Int} (hv : validB zs = true) : (1 ≤ cTotal zs ∧ cTotal zs ≤ 63) ∧ (0 ≤ cFaults zs ∧ cFaults zs ≤ 63 ∧ 3 * cFaults zs < cTotal zs ∧ cTotal zs ≤ 3 * (cFaults zs + 1)) ∧
    (1 ≤ cQuorum zs ∧ cQuorum zs ≤ 63 ∧ 2 * cTotal zs < 3 * cQuorum zs ∧ 3 * (cQuorum zs - 1) ≤ 2 * cTotal zs) ∧ (1 ≤ cSupport zs ∧ cSupport zs ≤ 63 ∧ cTotal zs < 3 * cSupport zs ∧ 3 * (cSupport zs - 1) ≤ cTotal zs ∧ cFaults zs < cSupport zs) := by
  have h := total_bd hv
  simp only [cTotal, cFaults, cQuorum, cSupport, hv, if_true, quorum, support]
  omega
theorem quorum_eq {zs : List Int} (hv : validB zs = true) : (cQuorum zs == cTotal zs - cFaults zs) = true := by
  have h := total_bd hv
  simp only [cTotal, cFaults, cQuorum, hv, if_true, quorum, beq_iff_eq]
  omega
theorem nums_no {zs : List Int} (hv : validB zs = false) : cTotal zs = -1 ∧ cFaults zs = -1 ∧ cQuorum zs = -1 ∧ cSupport zs = -1 ∧ ∀ ms, cWeight zs ms = -1 := by
  simp [cTotal, cFaults, cQuorum, cSupport, cWeight, membersB, hv]
theorem cQuorum_eq {zs : List Int} (hv : validB zs = true) : cQuorum zs = quorum zs := by simp [cQuorum, hv]
theorem cSupport_eq {zs : List Int} (hv : validB zs = true) : cSupport zs = support zs := by simp [cSupport, hv]
theorem cFaults_eq {zs : List Int} (hv : validB zs = true) : cFaults zs = (total zs - 1) / 3 := by simp [cFaults, hv]
theorem cTotal_eq {zs : List Int} (hv : validB zs = true) : cTotal zs = total zs := by simp [cTotal, hv]
theorem cWeight_bd {zs ms : List Int} (hm : ms.length ≤ 1000) : -1 ≤ cWeight zs ms ∧ cWeight zs ms ≤ 9000 := by
  unfold cWeight
  split
  · rename_i h
    simp only [membersB, Bool.and_eq_true] at h
    have := weight_to h.1 h.2 (Nat.le_refl _)
    unfold weight
    omega
  · omega
end Go.Proofs.Ytohnodphlaoohaa
