/- What putting a batch does, on plain lists: the store that comes out is valid; putting twice; the order of two; what forgetting keeps. No program. -/
import Derived.Test.YtmfbhddnlgbcmaaPutP
import Derived.Test.YtmfbhddnlgbcmaaForgetStore
namespace Go.Proofs.Ytmfbhddnlgbcmaa
set_option linter.unusedVariables false

def addOf (a : Int) (x : VBatch) : Int := if x.a = a then x.s else 0
def usedL (a : Int) : List VBatch → Int
  | [] => 0
  | x :: xs => addOf a x + usedL a xs
theorem usedL_append (a : Int) (xs ys : List VBatch) : usedL a (xs ++ ys) = usedL a xs + usedL a ys := by
  induction xs with
  | nil => simp [usedL]
  | cons x xs ih => simp only [List.cons_append, usedL, ih]; omega
theorem usedTo_take {bs : List VBatch} {a : Int} {k : Nat} (hk : k ≤ bs.length) : usedTo bs a k = usedL a (bs.take k) := by
  induction k with
  | zero => simp [usedTo, sumTo, usedL]
  | succ k ih =>
    have hlt : k < bs.length := hk
    rw [List.take_succ_eq_append_getElem hlt, usedL_append, ← ih (by omega)]
    simp [usedTo, sumTo, sizeAt, usedL, addOf, nthBatch_eq hlt]
theorem usedTo_all {bs : List VBatch} {a : Int} : usedTo bs a bs.length = usedL a bs := by rw [usedTo_take (Nat.le_refl _), List.take_length]

def ins (b : VBatch) : List VBatch → List VBatch
  | [] => [b]
  | x :: xs => if x.d < b.d then x :: ins b xs else b :: x :: xs
section
variable {f : Int} {bs : List VBatch} {x b u : VBatch} {dg : Int}
theorem place_cons_lt (h : x.d < dg) : placeOf (x :: bs) dg = placeOf bs dg + 1 := by
  have p := placeOf_spec bs dg
  refine placeOf_eq ⟨by have := p.1; simp; omega, fun j hj => ?_, fun h' => ?_⟩
  · cases j with
    | zero => simpa [nthBatch] using h
    | succ j => have := p.2.1 j (by omega); simpa [nthBatch] using this
  · have := p.2.2 (by simpa using h'); simpa [nthBatch] using this
theorem place_cons_ge (h : ¬ x.d < dg) : placeOf (x :: bs) dg = 0 := placeOf_eq ⟨Nat.zero_le _, fun j hj => absurd hj (by omega), fun _ => by simpa [nthBatch] using h⟩
theorem inserted_eq : inserted bs b = ins b bs := by
  induction bs with
  | nil => simp [inserted, ins]
  | cons x xs ih =>
    unfold ins
    by_cases h : x.d < b.d
    · rw [if_pos h]; unfold inserted at ih ⊢; rw [place_cons_lt h]; simp [ih]
    · rw [if_neg h]; unfold inserted; rw [place_cons_ge h]; simp
theorem mem_ins {y : VBatch} : y ∈ ins b bs ↔ y = b ∨ y ∈ bs := by
  induction bs with
  | nil => simp [ins]
  | cons x xs ih =>
    unfold ins
    split
    · rw [List.mem_cons, ih, List.mem_cons]
      constructor
      · rintro (h | h | h) <;> simp [h]
      · rintro (h | h | h) <;> simp [h]
    · simp
theorem ins_len : (ins b bs).length = bs.length + 1 := by rw [← inserted_eq]; exact inserted_len
theorem usedL_ins (a : Int) : usedL a (ins b bs) = usedL a bs + addOf a b := by
  induction bs with
  | nil => simp [ins, usedL]
  | cons x xs ih =>
    unfold ins
    split
    · simp only [usedL, ih]; omega
    · simp only [usedL]; omega
def AscD (bs : List VBatch) : Prop := bs.Pairwise (fun x y => x.d < y.d)
theorem ascD_of (h : ∀ j, 0 < j → j < bs.length → (nthBatch bs (j - 1)).d < (nthBatch bs j).d) : AscD bs := by
  unfold AscD
  rw [List.pairwise_iff_getElem]
  intro i j hi hj hij
  induction j with
  | zero => omega
  | succ j ih =>
    have h1 := h (j + 1) (by omega) hj
    rw [Nat.add_sub_cancel, nthBatch_eq (show j < bs.length by omega), nthBatch_eq hj] at h1
    by_cases e : i = j
    · subst e; exact h1
    · have := ih (by omega) (by omega); omega
theorem AscD.at_ (h : AscD bs) {j : Nat} (h0 : 0 < j) (hj : j < bs.length) : (nthBatch bs (j - 1)).d < (nthBatch bs j).d := by
  rw [nthBatch_eq (show j - 1 < bs.length by omega), nthBatch_eq hj]
  exact (List.pairwise_iff_getElem.1 h) (j - 1) j (by omega) hj (by omega)
theorem AscD.ins (h : AscD bs) (hn : ∀ x ∈ bs, x.d ≠ b.d) : AscD (ins b bs) := by
  induction bs with
  | nil => unfold Go.Proofs.Ytmfbhddnlgbcmaa.ins; exact List.pairwise_singleton _ _
  | cons x xs ih =>
    obtain ⟨h1, h2⟩ := List.pairwise_cons.1 h
    unfold Go.Proofs.Ytmfbhddnlgbcmaa.ins
    by_cases hx : x.d < b.d
    · rw [if_pos hx]
      refine List.pairwise_cons.2 ⟨fun y hy => ?_, ih h2 (fun y hy => hn y (List.mem_cons_of_mem _ hy))⟩
      rcases mem_ins.1 hy with rfl | hy
      · exact hx
      · exact h1 y hy
    · rw [if_neg hx]
      have hne := hn x List.mem_cons_self
      refine List.pairwise_cons.2 ⟨fun y hy => ?_, h⟩
      rcases List.mem_cons.1 hy with rfl | hy
      · omega
      · have := h1 y hy; omega
theorem known_cons : knownB (x :: bs) dg = if x.d < dg then knownB bs dg else decide (x.d = dg) := by
  unfold knownB
  by_cases h : x.d < dg
  · rw [if_pos h, place_cons_lt h]; simp [nthBatch]
  · rw [if_neg h, place_cons_ge h]; simp [nthBatch]
theorem known_no (h : AscD bs) : knownB bs dg = false ↔ ∀ x ∈ bs, x.d ≠ dg := by
  induction bs with
  | nil => simp [knownB]
  | cons x xs ih =>
    obtain ⟨h1, h2⟩ := List.pairwise_cons.1 h
    rw [known_cons]
    by_cases hx : x.d < dg
    · rw [if_pos hx, ih h2]
      constructor
      · intro a y hy
        rcases List.mem_cons.1 hy with rfl | hy
        · omega
        · exact a y hy
      · intro a y hy; exact a y (List.mem_cons_of_mem _ hy)
    · rw [if_neg hx]
      constructor
      · intro a y hy
        have : x.d ≠ dg := by simpa using a
        rcases List.mem_cons.1 hy with rfl | hy
        · exact this
        · have := h1 y hy; omega
      · intro a; have := a x List.mem_cons_self; simpa using this
theorem ins_comm (h : b.d ≠ u.d) : ins u (ins b bs) = ins b (ins u bs) := by
  induction bs with
  | nil =>
    simp only [ins]
    by_cases h1 : b.d < u.d
    · rw [if_pos h1, if_neg (by omega)]
    · rw [if_neg h1, if_pos (by omega)]
  | cons x xs ih =>
    by_cases h1 : x.d < b.d
    · by_cases h2 : x.d < u.d
      · simp only [ins, if_pos h1, if_pos h2, ih]
      · simp only [ins, if_pos h1, if_neg h2, if_pos (show u.d < b.d by omega)]
    · by_cases h2 : x.d < u.d
      · simp only [ins, if_neg h1, if_pos h2, if_pos (show b.d < u.d by omega)]
      · by_cases h3 : b.d < u.d
        · simp only [ins, if_neg h1, if_neg h2, if_pos h3, if_neg (show ¬ u.d < b.d by omega)]
        · simp only [ins, if_neg h1, if_neg h2, if_neg h3, if_pos (show u.d < b.d by omega)]

/-- A valid store, in words of lists. -/
def Good (f : Int) (bs : List VBatch) : Prop := (0 ≤ f ∧ f ≤ 31) ∧ bs.length ≤ 12 ∧ AscD bs ∧ (∀ x ∈ bs, batchB x = true ∧ f ≤ x.r) ∧ ∀ a, usedL a bs ≤ 30
theorem store_good (h : storeB f bs = true) : Good f bs := by
  have hl := store_len h
  have hu := store_used h (by omega)
  have h' := h
  rw [storeB_i (by omega)] at h'
  simp only [Bool.and_eq_true, inB_iff, decide_eq_true_eq] at h'
  obtain ⟨hf, _, ha⟩ := h'
  have hj := allTo_iff.1 ha
  refine ⟨hf, hl, ascD_of fun j h0 hlt => ?_, fun x hx => ?_, fun a => ?_⟩
  · have := hj j hlt
    simp only [ipOk, ordOk, Bool.and_eq_true, Bool.not_eq_true', decide_eq_true_eq, Bool.and_eq_false_iff, decide_eq_false_iff_not] at this
    have := this.1.2.2
    omega
  · obtain ⟨j, hlt, rfl⟩ := List.getElem_of_mem hx
    have := hj j hlt
    simp only [ipOk, ordOk, Bool.and_eq_true, decide_eq_true_eq] at this
    rw [nthBatch_eq hlt] at this
    exact ⟨this.1.1, this.1.2.1⟩
  · have := (hu a).2.2; rwa [usedTo_all] at this
theorem good_store (h : Good f bs) : storeB f bs = true := by
  obtain ⟨hf, hl, ha, hx, hu⟩ := h
  have hb : ∀ j, j < bs.length → batchB (nthBatch bs j) = true := fun j hj => by rw [nthBatch_eq hj]; exact (hx _ (List.getElem_mem hj)).1
  rw [storeB, allTo_iff.2 (fun j hj => ?_), inB_iff.2 hf]
  · simpa using hl
  · have h1 := hx _ (List.getElem_mem hj)
    have h2 := hu (nthBatch bs j).a
    rw [← usedTo_all, ← usedW_eq (by omega) hb] at h2
    simp only [stOk, ordOk, Bool.and_eq_true, decide_eq_true_eq]
    refine ⟨⟨hb j hj, by rw [nthBatch_eq hj]; exact h1.2, ?_⟩, h2⟩
    by_cases h0 : 0 < j
    · have := ha.at_ h0 hj
      simp [h0]; omega
    · simp [h0]
theorem usedW_L (h : storeB f bs = true) (a : Int) : usedW bs a bs.length = usedL a bs := by
  have hl := store_len h
  rw [(store_used h (by omega) a).1, usedTo_all]
theorem put0_iff : putCode f bs b = 0 ↔ storeB f bs = true ∧ batchB b = true ∧ knownB bs b.d = false ∧ f ≤ b.r ∧ fullB bs b = false := by
  unfold putCode
  constructor
  · intro h
    split at h
    · rename_i hv
      split at h
      · cases h
      · split at h
        · cases h
        · split at h
          · cases h
          · exact ⟨hv.1, hv.2, by simpa using ‹¬ knownB bs b.d = true›, by omega, by simpa using ‹¬ fullB bs b = true›⟩
    · cases h
  · rintro ⟨h1, h2, h3, h4, h5⟩
    rw [if_pos ⟨h1, h2⟩, h3, h5, if_neg (by simp), if_neg (by omega), if_neg (by simp)]
/-- A batch can be put, in words of lists. -/
def Can (f : Int) (bs : List VBatch) (b : VBatch) : Prop := Good f bs ∧ batchB b = true ∧ (∀ x ∈ bs, x.d ≠ b.d) ∧ f ≤ b.r ∧ bs.length < 12 ∧ usedL b.a bs + b.s ≤ 30
theorem put0_can : putCode f bs b = 0 ↔ Can f bs b := by
  rw [put0_iff]
  constructor
  · rintro ⟨h1, h2, h3, h4, h5⟩
    have hg := store_good h1
    simp only [fullB, decide_eq_false_iff_not, usedW_L h1] at h5
    exact ⟨hg, h2, (known_no hg.2.2.1).1 h3, h4, by omega, by omega⟩
  · rintro ⟨hg, h2, h3, h4, h5, h6⟩
    have h1 := good_store hg
    refine ⟨h1, h2, (known_no hg.2.2.1).2 h3, h4, ?_⟩
    simp only [fullB, decide_eq_false_iff_not, usedW_L h1]
    omega
theorem Can.good (h : Can f bs b) : Good f (ins b bs) := by
  obtain ⟨⟨hf, hl, ha, hx, hu⟩, h2, h3, h4, h5, h6⟩ := h
  refine ⟨hf, by rw [ins_len]; omega, ha.ins h3, fun y hy => ?_, fun a => ?_⟩
  · rcases mem_ins.1 hy with rfl | hy
    · exact ⟨h2, h4⟩
    · exact hx y hy
  · rw [usedL_ins]
    by_cases e : b.a = a
    · subst e; simp only [addOf, if_pos]; omega
    · have := hu a; simp only [addOf, if_neg e]; omega
theorem put_list (h : putCode f bs b = 0) : putList f bs b = ins b bs ∧ putFloor f bs b = f := by
  unfold putList putFloor; rw [h]; simp [inserted_eq]
/-- A batch that was put is known. -/
theorem put_twice (h : putCode f bs b = 0) : putCode f (ins b bs) b = 1 := by
  have hc := put0_can.1 h
  refine put1 (good_store hc.good) hc.2.1 ?_
  have hex : ¬ ∀ x ∈ ins b bs, x.d ≠ b.d := fun hh => hh b (mem_ins.2 (.inl rfl)) rfl
  rcases hk : knownB (ins b bs) b.d with _ | _
  · exact absurd ((known_no hc.good.2.2.1).1 hk) hex
  · rfl
/-- The order of two batches does not matter. -/
theorem put_order (h : putCode f bs b = 0) (h' : putCode f (ins b bs) u = 0) : putCode f bs u = 0 ∧ putCode f (ins u bs) b = 0 ∧ ins b (ins u bs) = ins u (ins b bs) := by
  obtain ⟨hg, h2, h3, h4, h5, h6⟩ := put0_can.1 h
  obtain ⟨hg', k2, k3, k4, k5, k6⟩ := put0_can.1 h'
  have hne : b.d ≠ u.d := k3 b (mem_ins.2 (.inl rfl))
  rw [ins_len] at k5
  rw [usedL_ins] at k6
  have hbs : 0 ≤ b.s := by have := (batchB_bd h2).2.2.2; omega
  have hus : 0 ≤ u.s := by have := (batchB_bd k2).2.2.2; omega
  have hadd : 0 ≤ addOf u.a b := by unfold addOf; split <;> omega
  have hc : Can f bs u := ⟨hg, k2, fun x hx => k3 x (mem_ins.2 (.inr hx)), k4, by omega, by omega⟩
  refine ⟨put0_can.2 hc, put0_can.2 ⟨hc.good, h2, fun x hx => ?_, h4, by rw [ins_len]; omega, ?_⟩, (ins_comm hne).symm⟩
  · rcases mem_ins.1 hx with rfl | hx
    · exact Ne.symm hne
    · exact h3 x hx
  · rw [usedL_ins]
    unfold addOf at k6 ⊢
    by_cases e : u.a = b.a
    · rw [if_pos e]; rw [if_pos e.symm, e] at k6; omega
    · rw [if_neg e]; omega
/-- Another author's total stays. -/
theorem put_others (h : putCode f bs b = 0) {a : Int} (ha : b.a ≠ a) : usedOf f (ins b bs) a = usedOf f bs a := by
  have hc := put0_can.1 h
  have h1 := good_store hc.1
  have h2 := good_store hc.good
  unfold usedOf
  rw [h1, h2, usedW_L h1, usedW_L h2, usedL_ins, addOf, if_neg ha]
  simp
theorem used_max (n : Int) : usedOf f bs n ≤ 30 := by
  unfold usedOf
  split
  · rename_i h
    rw [usedW_L h.1]
    exact (store_good h.1).2.2.2.2 n
  · omega
theorem used_one (h : storeB f bs = false) (n : Int) : usedOf f bs n = -1 := by simp [usedOf, h]

/-- What forgetting keeps, as a filter. -/
theorem kept_filter {n : Int} : kept n bs = bs.filter (fun x => decide (n ≤ x.r)) := by
  have h : ∀ k, k ≤ bs.length → keptTo n bs k = (bs.take k).filter (fun x => decide (n ≤ x.r)) := by
    intro k
    induction k with
    | zero => intro _; simp [keptTo]
    | succ k ih =>
      intro hk
      have hlt : k < bs.length := hk
      rw [List.take_succ_eq_append_getElem hlt, List.filter_append, ← ih (by omega)]
      by_cases e : n ≤ (nthBatch bs k).r
      · rw [keptTo_yes e]; rw [nthBatch_eq hlt] at e ⊢; simp [e]
      · rw [keptTo_no e]; rw [nthBatch_eq hlt] at e; simp [e]
  unfold kept; rw [h _ (Nat.le_refl _), List.take_length]
theorem kept_kept {n m : Int} (h : n ≤ m) : kept m (kept n bs) = kept m bs := by
  rw [kept_filter, kept_filter, kept_filter, List.filter_filter]
  congr 1
  funext x
  by_cases e : m ≤ x.r
  · simp [e]; omega
  · simp [e]
theorem usedL_filter {p : VBatch → Bool} (h : ∀ x ∈ bs, batchB x = true) (a : Int) : usedL a (bs.filter p) ≤ usedL a bs := by
  induction bs with
  | nil => simp
  | cons x xs ih =>
    have hi := ih (fun y hy => h y (List.mem_cons_of_mem _ hy))
    have hx : 0 ≤ addOf a x := by
      have := (batchB_bd (h x List.mem_cons_self)).2.2.2
      unfold addOf; split <;> omega
    rw [List.filter_cons]
    split
    · simp only [usedL]; omega
    · simp only [usedL]; omega
theorem Good.kept {n : Int} (h : Good f bs) (h0 : f ≤ n) (h1 : n ≤ 31) : Good n (kept n bs) := by
  obtain ⟨hf, hl, ha, hx, hu⟩ := h
  rw [kept_filter]
  refine ⟨by omega, Nat.le_trans (List.length_filter_le _ _) hl, ha.filter _, fun x hm => ?_, fun a => ?_⟩
  · obtain ⟨h2, h3⟩ := List.mem_filter.1 hm
    exact ⟨(hx x h2).1, by simpa using h3⟩
  · exact Int.le_trans (usedL_filter (fun x h => (hx x h).1) a) (hu a)
theorem kept_same (h : ∀ x ∈ bs, f ≤ x.r) : kept f bs = bs := by
  rw [kept_filter, List.filter_eq_self]
  intro x hx; simpa using h x hx
theorem first_ex (bs : List VBatch) (dg : Int) : ∃ k, FirstAt bs dg k := by
  have : ∀ m k, k + m = bs.length → (∀ j, j < k → (nthBatch bs j).d ≠ dg) → ∃ r, FirstAt bs dg r := by
    intro m
    induction m with
    | zero => intro k h1 h2; exact ⟨k, by omega, h2, fun h => absurd h (by omega)⟩
    | succ m ih =>
      intro k h1 h2
      by_cases h : (nthBatch bs k).d = dg
      · exact ⟨k, by omega, h2, fun _ => h⟩
      · exact ih (k + 1) (by omega) (fun j hj => by
          by_cases e : j = k
          · subst e; exact h
          · exact h2 j (by omega))
  exact this bs.length 0 (by omega) (fun j hj => absurd hj (by omega))
/-- Whether a digest is found. -/
theorem get_iff (hv : storeB f bs = true) : (getOf f bs dg).2 = true ↔ ∃ x ∈ bs, x.d = dg := by
  obtain ⟨k, hk⟩ := first_ex bs dg
  by_cases hlt : k < bs.length
  · rw [getOf_hit hv hk hlt]
    refine ⟨fun _ => ⟨bs[k], List.getElem_mem hlt, ?_⟩, fun _ => rfl⟩
    have := hk.2.2 hlt; rwa [nthBatch_eq hlt] at this
  · rw [getOf_miss hv hk hlt]
    refine ⟨(fun h => by cases h), (fun ⟨x, hx, e⟩ => ?_)⟩
    obtain ⟨j, hj, rfl⟩ := List.getElem_of_mem hx
    have := hk.2.1 j (by omega)
    rw [nthBatch_eq hj] at this
    exact absurd e this
/-- What is found has the digest, and is not below the floor. -/
theorem get_spec (h : (getOf f bs dg).2 = true) : (getOf f bs dg).1.d = dg ∧ f ≤ (getOf f bs dg).1.r := by
  rcases hv : storeB f bs with _ | _
  · rw [getOf_no hv] at h; cases h
  · obtain ⟨k, hk⟩ := first_ex bs dg
    by_cases hlt : k < bs.length
    · rw [getOf_hit hv hk hlt]
      refine ⟨hk.2.2 hlt, ?_⟩
      rw [nthBatch_eq hlt]
      exact ((store_good hv).2.2.2.1 _ (List.getElem_mem hlt)).2
    · rw [getOf_miss hv hk hlt] at h; cases h
/-- Behind forgetting, a batch is found if its round is not below the floor. -/
theorem get_kept {n : Int} {j : Nat} (hv : storeB f bs = true) (h0 : f ≤ n) (h1 : n ≤ 31) (hj : j < bs.length) :
    (getOf n (kept n bs) (nthBatch bs j).d).2 = decide (n ≤ (nthBatch bs j).r) := by
  have hg := store_good hv
  have hk := good_store (hg.kept h0 h1)
  rw [Bool.eq_iff_iff, get_iff hk, decide_eq_true_eq, kept_filter, nthBatch_eq hj]
  constructor
  · rintro ⟨x, hx, e⟩
    obtain ⟨h2, h3⟩ := List.mem_filter.1 hx
    obtain ⟨i, hi, rfl⟩ := List.getElem_of_mem h2
    have hp := List.pairwise_iff_getElem.1 hg.2.2.1
    have : i = j := by
      rcases Nat.lt_trichotomy i j with h | h | h
      · have := hp i j hi hj h; omega
      · exact h
      · have := hp j i hj hi h; omega
    subst this
    simpa using h3
  · intro h
    exact ⟨bs[j], List.mem_filter.2 ⟨List.getElem_mem hj, by simpa using h⟩, rfl⟩
theorem forget_ok {n : Int} (h : forgetBatch f bs n = true) : storeB f bs = true ∧ f ≤ n ∧ n ≤ 31 := by
  simp only [forgetBatch, Bool.and_eq_true, inB_iff] at h; exact ⟨h.1, h.2.1, h.2.2⟩
end
end Go.Proofs.Ytmfbhddnlgbcmaa
