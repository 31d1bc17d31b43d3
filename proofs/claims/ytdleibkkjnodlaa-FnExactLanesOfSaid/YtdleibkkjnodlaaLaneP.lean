/- Lanes: the labels of connected numbers, and the groups of equal labels. No program. -/
import Derived.Test.YtdleibkkjnodlaaPlain
namespace Go.Proofs.Ytdleibkkjnodlaa
set_option linter.unusedVariables false

/-- b can be reached from a by edges. -/
def Conn (E : Nat → Nat → Prop) (a b : Nat) : Prop := ∀ P : Nat → Prop, (∀ x y, E x y → P x → P y) → P a → P b
section
variable {E : Nat → Nat → Prop} {a b c : Nat}
theorem Conn.refl (E : Nat → Nat → Prop) (a : Nat) : Conn E a a := fun _ _ h => h
theorem Conn.trans (h : Conn E a b) (k : Conn E b c) : Conn E a c := fun P hs ha => k P hs (h P hs ha)
theorem Conn.edge (h : E a b) : Conn E a b := fun P hs ha => hs _ _ h ha
theorem Conn.symm (hE : ∀ x y, E x y → E y x) (h : Conn E a b) : Conn E b a := fun P hs hb =>
  h (fun x => P x → P a) (fun x y e hx hy => hx (hs y x (hE x y e) hy)) (fun ha => ha) hb
theorem Conn.same {f : Nat → Nat} (hf : ∀ x y, E x y → f x = f y) (h : Conn E a b) : f a = f b :=
  h (fun x => f a = f x) (fun x y e hx => hx.trans (hf x y e)) rfl
/-- Between a place where P holds and one where it does not there is an edge over its border. -/
theorem Conn.cross {P : Nat → Prop} (h : Conn E a b) (ha : P a) (hb : ¬ P b) : ∃ x y, E x y ∧ P x ∧ ¬ P y := by
  refine Classical.byContradiction fun hn => hb (h P (fun x y e hx => Classical.byContradiction fun hy => hn ⟨x, y, e, hx, hy⟩) ha)
theorem Conn.first (h : Conn E a b) (hne : a ≠ b) : ∃ y, E a y ∧ a ≠ y := by
  obtain ⟨x, y, e, hx, hy⟩ := h.cross (P := fun x => x = a) rfl (fun e => hne e.symm)
  subst hx
  exact ⟨y, e, fun e2 => hy e2.symm⟩
end

/-- L labels the numbers below n by the least number of their component. -/
structure IsLab (E : Nat → Nat → Prop) (n : Nat) (L : Nat → Nat) : Prop where
  le : ∀ a, a < n → L a ≤ a
  conn : ∀ a, a < n → Conn E a (L a)
  edge : ∀ a b, E a b → L a = L b
/-- Edges lie below n, in both directions. -/
structure Graph (E : Nat → Nat → Prop) (n : Nat) : Prop where
  lt : ∀ a b, E a b → a < n ∧ b < n
  symm : ∀ a b, E a b → E b a
theorem IsLab.unique {E : Nat → Nat → Prop} {n : Nat} {L M : Nat → Nat} (h : IsLab E n L) (k : IsLab E n M) {a : Nat} (ha : a < n) : L a = M a := by
  have h1 : ∀ {L M : Nat → Nat}, IsLab E n L → IsLab E n M → L a ≤ M a := fun {L M} h k => by
    have e := (k.conn a ha).same h.edge
    have l := k.le a ha
    rw [e]; exact h.le _ (by omega)
  have := h1 h k
  have := h1 k h
  omega
theorem IsLab.idem {E : Nat → Nat → Prop} {n : Nat} {L : Nat → Nat} (h : IsLab E n L) {a : Nat} (ha : a < n) : L (L a) = L a := ((h.conn a ha).same h.edge).symm

/-- How many of the first k numbers p holds of. -/
def cntP (p : Nat → Bool) : Nat → Nat
  | 0 => 0
  | k + 1 => (if p k = true then 1 else 0) + cntP p k
theorem cntP_le (p : Nat → Bool) (k : Nat) : cntP p k ≤ k := by
  induction k with
  | zero => simp [cntP]
  | succ k ih => unfold cntP; split <;> omega
theorem cntP_mono {p q : Nat → Bool} {k : Nat} (h : ∀ v, v < k → p v = true → q v = true) : cntP p k ≤ cntP q k := by
  induction k with
  | zero => simp [cntP]
  | succ k ih =>
    have := ih (fun v hv => h v (by omega))
    unfold cntP
    by_cases hp : p k = true
    · rw [if_pos hp, if_pos (h k (by omega) hp)]; omega
    · rw [if_neg hp]; split <;> omega
theorem cntP_lt {p q : Nat → Bool} {k v : Nat} (h : ∀ v, v < k → p v = true → q v = true) (hv : v < k) (h1 : p v = false) (h2 : q v = true) : cntP p k < cntP q k := by
  induction k with
  | zero => omega
  | succ k ih =>
    unfold cntP
    by_cases e : v = k
    · subst e
      have := cntP_mono (p := p) (q := q) (k := v) (fun u hu => h u (by omega))
      rw [if_neg (by simp [h1]), if_pos h2]; omega
    · have := ih (fun u hu => h u (by omega)) (by omega)
      by_cases hp : p k = true
      · rw [if_pos hp, if_pos (h k (by omega) hp)]; omega
      · rw [if_neg hp]; split <;> omega
theorem cntP_all {p : Nat → Bool} {k : Nat} (h : k ≤ cntP p k) : ∀ v, v < k → p v = true := by
  induction k with
  | zero => intro v hv; omega
  | succ k ih =>
    have hl := cntP_le p k
    unfold cntP at h
    by_cases hp : p k = true
    · rw [if_pos hp] at h
      intro v hv
      by_cases e : v = k
      · subst e; exact hp
      · exact ih (by omega) v (by omega)
    · rw [if_neg hp] at h; omega

/-- The reference's labels: below their places, connected. -/
structure Pre (E : Nat → Nat → Prop) (n : Nat) (L : Nat → Nat) : Prop where
  le : ∀ a, a < n → L a ≤ a
  conn : ∀ a, a < n → Conn E a (L a)
theorem Pre.start (E : Nat → Nat → Prop) (n : Nat) : Pre E n (fun a => a) := ⟨fun a _ => Nat.le_refl _, fun a _ => Conn.refl E a⟩
/-- L v is the least number of its component. -/
def Fin_ (E : Nat → Nat → Prop) (L : Nat → Nat) (v : Nat) : Prop := ∀ b, Conn E v b → L v ≤ b
/-- One round over all edges: labels went down, each to at most its neighbours' at the start. -/
structure Round (E : Nat → Nat → Prop) (n : Nat) (L M : Nat → Nat) : Prop where
  le : ∀ a, a < n → M a ≤ L a
  edge : ∀ a b, E a b → M a ≤ L b
/-- Far enough: r places are final, or all are. -/
def Far (E : Nat → Nat → Prop) (n r : Nat) (L : Nat → Nat) : Prop := (∀ v, v < n → Fin_ E L v) ∨ ∃ p : Nat → Bool, (∀ v, v < n → p v = true → Fin_ E L v) ∧ r ≤ cntP p n
theorem Far.start (E : Nat → Nat → Prop) (n : Nat) (L : Nat → Nat) : Far E n 0 L := .inr ⟨fun _ => false, (fun _ _ h => by cases h), Nat.zero_le _⟩
theorem Far.round {E : Nat → Nat → Prop} {n r : Nat} {L M : Nat → Nat} (hG : Graph E n) (hL : Pre E n L) (hR : Round E n L M) (h : Far E n r L) : Far E n (r + 1) M := by
  have keep : ∀ v, v < n → Fin_ E L v → Fin_ E M v := fun v hv hf b hb => Nat.le_trans (hR.le v hv) (hf b hb)
  by_cases hall : ∀ v, v < n → Fin_ E L v
  · exact .inl fun v hv => keep v hv (hall v hv)
  · rcases h with h | ⟨p, hp, h⟩
    · exact absurd h hall
    · right
      obtain ⟨v, hv, hnf⟩ : ∃ v, v < n ∧ ¬ Fin_ E L v := Classical.byContradiction fun hn => hall fun v hv => Classical.byContradiction fun hf => hn ⟨v, hv, hf⟩
      -- the least of v's component is final
      have hex : ∃ m, Conn E v m ∧ ∀ b, Conn E v b → m ≤ b := by
        have : ∀ k b, b ≤ k → Conn E v b → ∃ m, Conn E v m ∧ ∀ b, Conn E v b → m ≤ b := by
          intro k
          induction k with
          | zero => intro b hb hc; exact ⟨b, hc, fun _ _ => by omega⟩
          | succ k ih =>
            intro b hb hc
            by_cases hs : ∃ b', b' ≤ k ∧ Conn E v b'
            · obtain ⟨b', h1, h2⟩ := hs; exact ih b' h1 h2
            · exact ⟨b, hc, fun b' hb' => Classical.byContradiction fun hlt => hs ⟨b', by omega, hb'⟩⟩
        exact this v v (Nat.le_refl _) (Conn.refl E v)
      obtain ⟨m, hvm, hmin⟩ := hex
      have hmv := hvm.symm hG.symm
      have hmn : m < n := by have := hmin v (Conn.refl E v); omega
      have hfm : Fin_ E L m := fun b hb => Nat.le_trans (hL.le m hmn) (hmin b (hvm.trans hb))
      obtain ⟨x, y, e, hx, hy⟩ := hmv.cross (P := Fin_ E L) hfm hnf
      obtain ⟨hxn, hyn⟩ := hG.lt x y e
      have hfy : Fin_ E M y := fun b hb => Nat.le_trans (hR.edge y x (hG.symm _ _ e)) (hx b ((Conn.edge e).trans hb))
      have hpy : p y = false := by
        rcases hb : p y with _ | _
        · rfl
        · exact absurd (hp y hyn hb) hy
      have := cntP_lt (p := p) (q := fun v => p v || decide (v = y)) (k := n) (v := y) (fun u hu h => by simp [h]) hyn hpy (by simp)
      refine ⟨_, fun u hu hq => ?_, Nat.lt_of_le_of_lt h this⟩
      by_cases e : u = y
      · subst e; exact hfy
      · simp [e] at hq; exact keep u hu (hp u hu hq)
theorem Far.lab {E : Nat → Nat → Prop} {n : Nat} {L : Nat → Nat} (hG : Graph E n) (hL : Pre E n L) (h : Far E n n L) : IsLab E n L := by
  have hall : ∀ v, v < n → Fin_ E L v := by
    rcases h with h | h
    · exact h
    · obtain ⟨p, hp, h⟩ := h
      exact fun v hv => hp v hv (cntP_all h v hv)
  refine ⟨hL.le, hL.conn, fun a b e => ?_⟩
  obtain ⟨ha, hb⟩ := hG.lt a b e
  have h1 := hall a ha _ ((Conn.edge e).trans (hL.conn b hb))
  have h2 := hall b hb _ ((Conn.edge (hG.symm _ _ e)).trans (hL.conn a ha))
  omega

/-- A function with one value turned. -/
def upd (L : Nat → Nat) (i v : Nat) (a : Nat) : Nat := if a = i then v else L a
theorem upd_same (L : Nat → Nat) (i v : Nat) : upd L i v i = v := by simp [upd]
theorem upd_other {L : Nat → Nat} {i v a : Nat} (h : a ≠ i) : upd L i v a = L a := by simp [upd, h]
/-- Inside a round: labels went down; of the pairs done each label is at most the other's at the start. -/
structure Mid (E : Nat → Nat → Prop) (n : Nat) (L M : Nat → Nat) (i k : Nat) : Prop where
  pre : Pre E n M
  le : ∀ a, a < n → M a ≤ L a
  done : ∀ a b, E a b → b < a → (a < i ∨ (a = i ∧ b < k)) → M a ≤ L b ∧ M b ≤ L a
theorem Mid.start {E : Nat → Nat → Prop} {n : Nat} {L : Nat → Nat} (h : Pre E n L) : Mid E n L L 0 0 := ⟨h, fun _ _ => Nat.le_refl _, fun a b _ _ hd => by omega⟩
theorem Mid.next {E : Nat → Nat → Prop} {n i : Nat} {L M : Nat → Nat} (h : Mid E n L M i i) : Mid E n L M (i + 1) 0 :=
  ⟨h.pre, h.le, fun a b e hlt hd => h.done a b e hlt (by omega)⟩
theorem Mid.skip {E : Nat → Nat → Prop} {n i k : Nat} {L M : Nat → Nat} (h : Mid E n L M i k) (hno : ¬ E i k) : Mid E n L M i (k + 1) :=
  ⟨h.pre, h.le, fun a b e hlt hd => h.done a b e hlt (by
    by_cases hk : a = i ∧ b = k
    · obtain ⟨rfl, rfl⟩ := hk; exact absurd e hno
    · omega)⟩
theorem Mid.meet {E : Nat → Nat → Prop} {n i k m : Nat} {L M : Nat → Nat} (hG : Graph E n) (h : Mid E n L M i k) (e : E i k) (hki : k < i) (hm : m = min (M i) (M k)) :
    Mid E n L (upd (upd M i m) k m) i (k + 1) := by
  obtain ⟨hi, hk⟩ := hG.lt i k e
  have hmi : m ≤ M i := by omega
  have hmk : m ≤ M k := by omega
  have hle : ∀ a, a < n → upd (upd M i m) k m a ≤ M a := fun a ha => by
    unfold upd
    by_cases h1 : a = k
    · subst h1; simp; omega
    · by_cases h2 : a = i
      · subst h2; simp [h1]; omega
      · simp [h1, h2]
  have hci : Conn E i m ∧ Conn E k m := by
    by_cases hh : M i ≤ M k
    · have : m = M i := by omega
      subst this
      exact ⟨h.pre.conn i hi, (Conn.edge (hG.symm _ _ e)).trans (h.pre.conn i hi)⟩
    · have : m = M k := by omega
      subst this
      exact ⟨(Conn.edge e).trans (h.pre.conn k hk), h.pre.conn k hk⟩
  refine ⟨⟨fun a ha => Nat.le_trans (hle a ha) (h.pre.le a ha), fun a ha => ?_⟩, fun a ha => Nat.le_trans (hle a ha) (h.le a ha), fun a b e' hlt hd => ?_⟩
  · unfold upd
    by_cases h1 : a = k
    · subst h1; simp; exact hci.2
    · by_cases h2 : a = i
      · subst h2; simp [h1]; exact hci.1
      · simp [h1, h2]; exact h.pre.conn a ha
  · obtain ⟨ha, hb⟩ := hG.lt a b e'
    by_cases hk' : a = i ∧ b = k
    · obtain ⟨rfl, rfl⟩ := hk'
      have h1 := h.le a ha
      have h2 := h.le b hb
      rw [upd_same, upd_other (show a ≠ b by omega), upd_same]
      omega
    · have hd' := h.done a b e' hlt (by omega)
      have h1 := hle a ha
      have h2 := hle b hb
      omega
theorem Mid.fin {E : Nat → Nat → Prop} {n : Nat} {L M : Nat → Nat} (hG : Graph E n) (h : Mid E n L M n 0) : Round E n L M :=
  ⟨h.le, fun a b e => by
    obtain ⟨ha, hb⟩ := hG.lt a b e
    rcases Nat.lt_trichotomy b a with hlt | heq | hgt
    · exact (h.done a b e hlt (.inl ha)).1
    · subst heq; exact h.le b hb
    · exact (h.done b a (hG.symm _ _ e) hgt (.inl hb)).2⟩

/-- The program's labels: of the pairs done both have one label. -/
structure Inc (E : Nat → Nat → Prop) (i j m : Nat) (L : Nat → Nat) : Prop where
  le : ∀ a, a < m → L a ≤ a
  conn : ∀ a, a < m → Conn E a (L a)
  done : ∀ a b, E a b → b < a → (a < i ∨ (a = i ∧ b < j)) → L a = L b
theorem Inc.start (E : Nat → Nat → Prop) (L : Nat → Nat) : Inc E 0 0 0 L := ⟨fun a h => by omega, fun a h => by omega, fun a b _ _ h => by omega⟩
theorem Inc.add {E : Nat → Nat → Prop} {i : Nat} {L : Nat → Nat} (h : Inc E i 0 i L) : Inc E i 0 (i + 1) (upd L i i) := by
  refine ⟨fun a ha => ?_, fun a ha => ?_, fun a b e hlt hd => ?_⟩
  · by_cases e : a = i
    · subst e; rw [upd_same]; omega
    · rw [upd_other e]; exact h.le a (by omega)
  · by_cases e : a = i
    · subst e; rw [upd_same]; exact Conn.refl E a
    · rw [upd_other e]; exact h.conn a (by omega)
  · rw [upd_other (show a ≠ i by omega), upd_other (show b ≠ i by omega)]; exact h.done a b e hlt (by omega)
theorem Inc.next {E : Nat → Nat → Prop} {i : Nat} {L : Nat → Nat} (h : Inc E i i (i + 1) L) : Inc E (i + 1) 0 (i + 1) L :=
  ⟨h.le, h.conn, fun a b e hlt hd => h.done a b e hlt (by omega)⟩
theorem Inc.skip {E : Nat → Nat → Prop} {i j : Nat} {L : Nat → Nat} (h : Inc E i j (i + 1) L) (hs : ¬ E i j ∨ L i = L j) : Inc E i (j + 1) (i + 1) L :=
  ⟨h.le, h.conn, fun a b e hlt hd => by
    by_cases hk : a = i ∧ b = j
    · obtain ⟨rfl, rfl⟩ := hk
      rcases hs with hs | hs
      · exact absurd e hs
      · exact hs
    · exact h.done a b e hlt (by omega)⟩
/-- The first m places relabelled. -/
def rel (L : Nat → Nat) (high low m a : Nat) : Nat := if a < m ∧ L a = high then low else L a
theorem rel_zero (L : Nat → Nat) (high low a : Nat) : rel L high low 0 a = L a := by simp [rel]
theorem Inc.meet {E : Nat → Nat → Prop} {i j high low : Nat} {L : Nat → Nat} (hE : ∀ a b, E a b → E b a) (h : Inc E i j (i + 1) L) (e : E i j) (hji : j < i) (hne : L i ≠ L j) (hl : low = min (L i) (L j)) (hh : high = max (L i) (L j)) :
    Inc E i (j + 1) (i + 1) (rel L high low (i + 1)) := by
  have hlh : low < high := by omega
  have hc : Conn E high low := by
    have h1 := h.conn i (by omega)
    have h2 := h.conn j (by omega)
    have h3 : Conn E (L i) (L j) := (h1.symm hE).trans ((Conn.edge e).trans h2)
    by_cases hh2 : L i < L j
    · have e1 : low = L i := by omega
      have e2 : high = L j := by omega
      rw [e1, e2]; exact h3.symm hE
    · have e1 : low = L j := by omega
      have e2 : high = L i := by omega
      rw [e1, e2]; exact h3
  refine ⟨fun a ha => ?_, fun a ha => ?_, fun a b e' hlt hd => ?_⟩
  · have := h.le a ha
    unfold rel; split <;> omega
  · have := h.conn a ha
    unfold rel
    split
    · rename_i hx; rw [hx.2] at this; exact this.trans hc
    · exact this
  · have ha : a < i + 1 := by omega
    by_cases hk : a = i ∧ b = j
    · obtain ⟨rfl, rfl⟩ := hk
      have h1 : rel L high low (a + 1) a = low := by unfold rel; split <;> omega
      have h2 : rel L high low (a + 1) b = low := by unfold rel; split <;> omega
      rw [h1, h2]
    · have hd' := h.done a b e' hlt (by omega)
      unfold rel
      rw [hd']
      by_cases hx : L b = high
      · rw [if_pos ⟨by omega, hx⟩, if_pos ⟨by omega, hx⟩]
      · rw [if_neg (fun hh => hx hh.2), if_neg (fun hh => hx hh.2)]
theorem Inc.lab {E : Nat → Nat → Prop} {n : Nat} {L : Nat → Nat} (hG : Graph E n) (h : Inc E n 0 n L) : IsLab E n L :=
  ⟨h.le, h.conn, fun a b e => by
    obtain ⟨ha, hb⟩ := hG.lt a b e
    rcases Nat.lt_trichotomy b a with hlt | heq | hgt
    · exact h.done a b e hlt (.inl ha)
    · subst heq; rfl
    · exact (h.done b a (hG.symm _ _ e) hgt (.inl hb)).symm⟩
end Go.Proofs.Ytdleibkkjnodlaa
