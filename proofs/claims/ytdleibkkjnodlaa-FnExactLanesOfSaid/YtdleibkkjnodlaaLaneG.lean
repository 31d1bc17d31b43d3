/- Lanes: the groups of equal labels and what the laws ask of them. No program. -/
import Derived.Test.YtdleibkkjnodlaaLaneP
import Derived.Test.YtdleibkkjnodlaaSel
namespace Go.Proofs.Ytdleibkkjnodlaa
set_option linter.unusedVariables false

theorem selTo_congr {p q : Nat → Bool} {k : Nat} (h : ∀ i, i < k → p i = q i) : selTo p k = selTo q k := by
  induction k with
  | zero => rfl
  | succ k ih => simp only [selTo]; rw [ih (fun i hi => h i (by omega)), h k (by omega)]
theorem selTo_or {p q r : Nat → Bool} {k : Nat} (h : ∀ i, i < k → r i = (p i || q i)) (hd : ∀ i, i < k → ¬ (p i = true ∧ q i = true)) : (selTo r k).length = (selTo p k).length + (selTo q k).length := by
  induction k with
  | zero => rfl
  | succ k ih =>
    have ih := ih (fun i hi => h i (by omega)) (fun i hi => hd i (by omega))
    have hk := h k (by omega)
    have hdk := hd k (by omega)
    simp only [selTo]
    rcases hp : p k with _ | _ <;> rcases hq : q k with _ | _
    · rw [hp, hq] at hk; simp at hk; simp [hk, ih]
    · rw [hp, hq] at hk; simp at hk; simp [hk, ih]; omega
    · rw [hp, hq] at hk; simp at hk; simp [hk, ih]; omega
    · exact absurd ⟨hp, hq⟩ hdk
theorem selTo_none {p : Nat → Bool} {k : Nat} (h : ∀ i, i < k → p i = false) : selTo p k = [] := by
  induction k with
  | zero => rfl
  | succ k ih => simp only [selTo]; rw [ih (fun i hi => h i (by omega)), h k (by omega)]; rfl
theorem selTo_all {p : Nat → Bool} {k : Nat} (h : ∀ i, i < k → p i = true) : (selTo p k).length = k := by
  induction k with
  | zero => rfl
  | succ k ih => simp only [selTo]; rw [h k (by omega)]; simp [ih (fun i hi => h i (by omega))]
/-- The first number selected. -/
theorem selTo_first {p : Nat → Bool} {k v : Nat} (hv : v < k) (hp : p v = true) (hl : ∀ i, i < v → p i = false) : nth (selTo p k) 0 = (v : Int) := by
  induction k with
  | zero => omega
  | succ k ih =>
    by_cases e : v = k
    · subst e
      simp only [selTo]
      rw [hp, selTo_none hl]
      rfl
    · have hk := ih (by omega)
      have hne : selTo p k ≠ [] := by
        intro e2
        have : (v : Int) ∈ selTo p k := mem_selTo.2 ⟨v, by omega, hp, rfl⟩
        rw [e2] at this; cases this
      simp only [selTo]
      split
      · rw [← hk]; unfold nth
        rcases hs : selTo p k with _ | ⟨x, xs⟩
        · exact absurd hs hne
        · rfl
      · exact hk

/-- The numbers below n with label v; the lanes of the first k labels. -/
def grp (L : Nat → Nat) (n v : Nat) : List Int := selTo (fun i => decide (L i = v)) n
def groupsTo (L : Nat → Nat) (n : Nat) : Nat → List (List Int)
  | 0 => []
  | k + 1 => if grp L n k = [] then groupsTo L n k else groupsTo L n k ++ [grp L n k]
def nthL (ls : List (List Int)) (k : Nat) : List Int := ls.getD k []
theorem nthL_eq {ls : List (List Int)} {k : Nat} (h : k < ls.length) : nthL ls k = ls[k] := by simp [nthL, List.getElem?_eq_getElem h]
theorem nthL_mem {ls : List (List Int)} {k : Nat} (h : k < ls.length) : nthL ls k ∈ ls := by rw [nthL_eq h]; exact List.getElem_mem h
theorem groupsTo_no {L : Nat → Nat} {n k : Nat} (h : grp L n k = []) : groupsTo L n (k + 1) = groupsTo L n k := by rw [groupsTo, if_pos h]
theorem groupsTo_yes {L : Nat → Nat} {n k : Nat} (h : grp L n k ≠ []) : groupsTo L n (k + 1) = groupsTo L n k ++ [grp L n k] := by rw [groupsTo, if_neg h]
theorem grp_congr {L M : Nat → Nat} {n : Nat} (h : ∀ a, a < n → L a = M a) (v : Nat) : grp L n v = grp M n v := selTo_congr fun i hi => by rw [h i hi]
theorem groups_congr {L M : Nat → Nat} {n : Nat} (h : ∀ a, a < n → L a = M a) (k : Nat) : groupsTo L n k = groupsTo M n k := by
  induction k with
  | zero => rfl
  | succ k ih => simp only [groupsTo]; rw [ih, grp_congr h]
theorem groupsTo_len (L : Nat → Nat) (n k : Nat) : (groupsTo L n k).length ≤ k := by
  induction k with
  | zero => simp [groupsTo]
  | succ k ih =>
    unfold groupsTo
    split
    · omega
    · rw [List.length_append]; simp; omega
theorem grp_len (L : Nat → Nat) (n v : Nat) : (grp L n v).length ≤ n := selTo_len _ _
theorem mem_grp {L : Nat → Nat} {n v : Nat} {z : Int} : z ∈ grp L n v ↔ ∃ i, i < n ∧ L i = v ∧ z = (i : Int) := by
  unfold grp; rw [mem_selTo]; simp
theorem mem_groups {L : Nat → Nat} {n k : Nat} {l : List Int} : l ∈ groupsTo L n k ↔ ∃ v, v < k ∧ grp L n v ≠ [] ∧ l = grp L n v := by
  induction k with
  | zero => simp [groupsTo]
  | succ k ih =>
    unfold groupsTo
    constructor
    · intro h
      split at h
      · obtain ⟨v, a, b⟩ := ih.1 h; exact ⟨v, by omega, b⟩
      · rename_i hne
        rcases List.mem_append.1 h with h | h
        · obtain ⟨v, a, b⟩ := ih.1 h; exact ⟨v, by omega, b⟩
        · exact ⟨k, by omega, hne, by simpa using h⟩
    · rintro ⟨v, a, b, c⟩
      by_cases e : v = k
      · subst e; rw [if_neg b]; exact List.mem_append.2 (.inr (by simp [c]))
      · have := ih.2 ⟨v, by omega, b, c⟩
        split
        · exact this
        · exact List.mem_append.2 (.inl this)
/-- How many numbers the lanes hold. -/
def sumLen : List (List Int) → Nat → Nat
  | ls, 0 => 0
  | ls, k + 1 => sumLen ls k + (nthL ls k).length
theorem sumLen_append {ls ms : List (List Int)} {k : Nat} (h : k ≤ ls.length) : sumLen (ls ++ ms) k = sumLen ls k := by
  induction k with
  | zero => rfl
  | succ k ih =>
    simp only [sumLen]
    rw [ih (by omega)]
    have : nthL (ls ++ ms) k = nthL ls k := by simp [nthL, List.getElem?_append_left (show k < ls.length by omega)]
    rw [this]
theorem sumLen_groups (L : Nat → Nat) (n k : Nat) : sumLen (groupsTo L n k) (groupsTo L n k).length = (selTo (fun i => decide (L i < k)) n).length := by
  induction k with
  | zero => rw [selTo_none (fun i _ => by simp)]; rfl
  | succ k ih =>
    have h := selTo_or (p := fun i => decide (L i < k)) (q := fun i => decide (L i = k)) (r := fun i => decide (L i < k + 1)) (k := n) (fun i _ => by rw [Bool.eq_iff_iff]; simp; omega) (fun i _ => by simp; omega)
    rw [h]
    by_cases hg : grp L n k = []
    · rw [groupsTo_no hg, ih]
      unfold grp at hg; rw [hg]; rfl
    · rw [groupsTo_yes hg, List.length_append]
      show sumLen _ ((groupsTo L n k).length + 1) = _
      simp only [sumLen]
      rw [sumLen_append (Nat.le_refl _), ih]
      have : nthL (groupsTo L n k ++ [grp L n k]) (groupsTo L n k).length = grp L n k := by simp [nthL]
      rw [this]
      rfl
section
variable {E : Nat → Nat → Prop} {n : Nat} {L : Nat → Nat}
/-- The first number of a lane is its label. -/
theorem grp_first (h : IsLab E n L) {v : Nat} (hne : grp L n v ≠ []) : v < n ∧ L v = v ∧ nth (grp L n v) 0 = (v : Int) := by
  obtain ⟨z, hz⟩ : ∃ z, z ∈ grp L n v := by
    rcases hg : grp L n v with _ | ⟨x, xs⟩
    · exact absurd hg hne
    · exact ⟨x, by simp⟩
  obtain ⟨i, hi, e, _⟩ := mem_grp.1 hz
  have hle := h.le i hi
  have hid := h.idem hi
  rw [e] at hle hid
  refine ⟨by omega, hid, selTo_first (by omega) (by simp [hid]) (fun j hj => ?_)⟩
  have := h.le j (by omega)
  simp; omega
theorem heads_groups (h : IsLab E n L) (k : Nat) : (groupsTo L n k).map (fun l => nth l 0) = selTo (fun v => decide (grp L n v ≠ [])) k := by
  induction k with
  | zero => rfl
  | succ k ih =>
    by_cases hg : grp L n k = []
    · rw [groupsTo_no hg, ih]; simp only [selTo]; rw [if_neg (by simp [hg])]
    · rw [groupsTo_yes hg, List.map_append, ih]; simp only [selTo]; rw [if_pos (by simp [hg])]
      simp [(grp_first h hg).2.2]
theorem heads_lt (h : IsLab E n L) {k i j : Nat} (hij : i < j) (hj : j < (groupsTo L n k).length) : nth (nthL (groupsTo L n k) i) 0 < nth (nthL (groupsTo L n k) j) 0 := by
  have ha := asc_selTo (fun v => decide (grp L n v ≠ [])) k
  rw [← heads_groups h] at ha
  have := of_asc ha hij (by simpa using hj)
  rw [nth_eq (by simp; omega), nth_eq (by simp; omega)] at this
  simp only [List.getElem_map] at this
  rw [nthL_eq (by omega), nthL_eq hj]
  exact this
/-- A lane is the group of its first number. -/
theorem lane_grp (h : IsLab E n L) {k i : Nat} (hi : i < (groupsTo L n k).length) : ∃ v, v < n ∧ L v = v ∧ grp L n v ≠ [] ∧ nthL (groupsTo L n k) i = grp L n v ∧ nth (nthL (groupsTo L n k) i) 0 = (v : Int) := by
  obtain ⟨v, _, hne, e⟩ := mem_groups.1 (nthL_mem hi)
  obtain ⟨a, b, c⟩ := grp_first h hne
  exact ⟨v, a, b, hne, e, by rw [e]; exact c⟩
theorem lane_at (h : IsLab E n L) {k i a : Nat} (hi : i < (groupsTo L n k).length) (ha : a < (nthL (groupsTo L n k) i).length) :
    ∃ x : Nat, x < n ∧ nth (nthL (groupsTo L n k) i) a = (x : Int) ∧ (L x : Int) = nth (nthL (groupsTo L n k) i) 0 := by
  obtain ⟨v, hv, hL, hne, e, e0⟩ := lane_grp h hi
  have hm : nth (nthL (groupsTo L n k) i) a ∈ grp L n v := by rw [← e, nth_eq ha]; exact List.getElem_mem ha
  obtain ⟨x, hx, hl, ex⟩ := mem_grp.1 hm
  exact ⟨x, hx, ex, by rw [e0, hl]⟩
theorem lane_asc (h : IsLab E n L) {k i a b : Nat} (hi : i < (groupsTo L n k).length) (hab : a < b) (hb : b < (nthL (groupsTo L n k) i).length) : nth (nthL (groupsTo L n k) i) a < nth (nthL (groupsTo L n k) i) b := by
  obtain ⟨v, hv, hL, hne, e, e0⟩ := lane_grp h hi
  rw [e] at hb ⊢
  exact of_asc (asc_selTo _ _) hab hb
theorem lane_pos (h : IsLab E n L) {k i : Nat} (hi : i < (groupsTo L n k).length) : 0 < (nthL (groupsTo L n k) i).length := by
  obtain ⟨v, hv, hL, hne, e, e0⟩ := lane_grp h hi
  rw [e]
  exact List.length_pos_iff.2 hne
/-- Lanes do not conflict. -/
theorem lane_apart (h : IsLab E n L) {k i j a b x y : Nat} (hi : i < (groupsTo L n k).length) (hj : j < (groupsTo L n k).length) (hij : j < i) (ha : a < (nthL (groupsTo L n k) i).length) (hb : b < (nthL (groupsTo L n k) j).length)
    (ex : nth (nthL (groupsTo L n k) i) a = (x : Int)) (ey : nth (nthL (groupsTo L n k) j) b = (y : Int)) : ¬ E x y := by
  intro he
  obtain ⟨x', hx, e1, l1⟩ := lane_at h hi ha
  obtain ⟨y', hy, e2, l2⟩ := lane_at h hj hb
  have := heads_lt h hij hi
  have hl := h.edge x y he
  have : x' = x := by rw [e1] at ex; omega
  subst this
  have : y' = y := by rw [e2] at ey; omega
  subst this
  omega
/-- A number that is not the first of its lane has a neighbour in it. -/
theorem lane_conn (hG : Graph E n) (h : IsLab E n L) {k i a x : Nat} (hi : i < (groupsTo L n k).length) (ha : a < (nthL (groupsTo L n k) i).length) (h0 : 0 < a) (ex : nth (nthL (groupsTo L n k) i) a = (x : Int)) :
    ∃ b y : Nat, b < (nthL (groupsTo L n k) i).length ∧ a ≠ b ∧ nth (nthL (groupsTo L n k) i) b = (y : Int) ∧ E x y := by
  obtain ⟨v, hv, hL, hne, e, e0⟩ := lane_grp h hi
  obtain ⟨x', hx, e1, l1⟩ := lane_at h hi ha
  have : x' = x := by rw [e1] at ex; omega
  subst this
  have hlt := lane_asc h hi h0 ha
  have hxv : L x' = v := by omega
  have hc := h.conn x' hx
  rw [hxv] at hc
  obtain ⟨y, he, hxy⟩ := hc.first (by omega)
  have hy := (hG.lt _ _ he).2
  have hyv : L y = v := by rw [← h.edge _ _ he, hxv]
  have hm : (y : Int) ∈ grp L n v := mem_grp.2 ⟨y, hy, hyv, rfl⟩
  obtain ⟨b, hb, eb⟩ := List.getElem_of_mem hm
  refine ⟨b, y, by rw [e]; exact hb, ?_, by rw [e, nth_eq hb]; exact eb, he⟩
  intro eab
  subst eab
  have : nth (nthL (groupsTo L n k) i) a = (y : Int) := by rw [e, nth_eq hb]; exact eb
  omega
theorem sum_groups (h : IsLab E n L) : sumLen (groupsTo L n n) (groupsTo L n n).length = n := by
  rw [sumLen_groups, selTo_all]
  intro i hi
  have := h.le i hi
  simp; omega
end
/-- The longest of the first k lanes. -/
def depthTo (ls : List (List Int)) : Nat → Nat
  | 0 => 0
  | k + 1 => max (depthTo ls k) (nthL ls k).length
theorem depthTo_le {ls : List (List Int)} {n k : Nat} (h : ∀ i, i < k → (nthL ls i).length ≤ n) : depthTo ls k ≤ n := by
  induction k with
  | zero => simp [depthTo]
  | succ k ih =>
    have := ih (fun i hi => h i (by omega))
    have := h k (by omega)
    simp only [depthTo]; omega
theorem depthTo_ge {ls : List (List Int)} {i k : Nat} (h : i < k) : (nthL ls i).length ≤ depthTo ls k := by
  induction k with
  | zero => omega
  | succ k ih =>
    simp only [depthTo]
    by_cases e : i = k
    · subst e; omega
    · have := ih (by omega); omega
theorem depth_zero {E : Nat → Nat → Prop} {n : Nat} {L : Nat → Nat} (h : IsLab E n L) : depthTo (groupsTo L n n) (groupsTo L n n).length = 0 ↔ n = 0 := by
  constructor
  · intro h0
    have hs := sum_groups h
    have hall : ∀ k, k ≤ (groupsTo L n n).length → sumLen (groupsTo L n n) k = 0 := by
      intro k
      induction k with
      | zero => intro _; rfl
      | succ k ih =>
        intro hk
        have := depthTo_ge (ls := groupsTo L n n) (i := k) (k := (groupsTo L n n).length) (by omega)
        simp only [sumLen]; rw [ih (by omega)]; omega
    rw [hall _ (Nat.le_refl _)] at hs
    exact hs.symm
  · intro h0; subst h0; rfl

/-- The one labelling there is. -/
noncomputable def labOf (E : Nat → Nat → Prop) (n : Nat) : Nat → Nat := Classical.epsilon (fun L => IsLab E n L)
theorem labOf_is {E : Nat → Nat → Prop} {n : Nat} {L : Nat → Nat} (h : IsLab E n L) : IsLab E n (labOf E n) := Classical.epsilon_spec (p := fun L => IsLab E n L) ⟨L, h⟩
noncomputable def lanesOfE (E : Nat → Nat → Prop) (n : Nat) : List (List Int) := groupsTo (labOf E n) n n
theorem lanes_is {E : Nat → Nat → Prop} {n : Nat} {L : Nat → Nat} (h : IsLab E n L) : groupsTo L n n = lanesOfE E n := groups_congr (fun a ha => h.unique (labOf_is h) ha) n
end Go.Proofs.Ytdleibkkjnodlaa
