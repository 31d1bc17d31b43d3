/- Trees of digests: levels, roots, proofs: what the program and the reference both compute. No program. -/
import Derived.Test.YtdleibkkjnodlaaRcpt
namespace Go.Proofs.Ytdleibkkjnodlaa
set_option linter.unusedVariables false

theorem pair_bd (a b : Int) : 0 ≤ pairZ a b ∧ pairZ a b ≤ 990 := by unfold pairZ; omega
theorem pair_dig (a b : Int) : digB (pairZ a b) = true := inB_iff.2 (pair_bd a b)
theorem pair_inj_l {a a' b : Int} (h : 0 ≤ a) (h9 : a ≤ 990) (k : 0 ≤ a') (k9 : a' ≤ 990) (e : pairZ a b = pairZ a' b) : a = a' := by
  unfold pairZ at e; omega
theorem pair_inj_r {a b b' : Int} (h : 0 ≤ b) (h9 : b ≤ 990) (k : 0 ≤ b') (k9 : b' ≤ 990) (e : pairZ a b = pairZ a b') : b = b' := by
  unfold pairZ at e; omega

/-- All numbers are digests. -/
def digsB (xs : List Int) : Bool := allTo (fun j => digB (nth xs j)) xs.length
theorem digsB_at {xs : List Int} (h : digsB xs = true) {j : Nat} (hj : j < xs.length) : digB (nth xs j) = true := allTo_iff.1 h j hj
theorem digsB_bd {xs : List Int} (h : digsB xs = true) {j : Nat} (hj : j < xs.length) : 0 ≤ nth xs j ∧ nth xs j ≤ 990 := inB_iff.1 (digsB_at h hj)

/-- A node of the next level; the next level. -/
def upAt (xs : List Int) (j : Nat) : Int := if 2 * j + 1 < xs.length then pairZ (nth xs (2 * j)) (nth xs (2 * j + 1)) else nth xs (2 * j)
def upTo (xs : List Int) (k : Nat) : List Int := (List.range k).map (upAt xs)
def up (xs : List Int) : List Int := upTo xs ((xs.length + 1) / 2)
theorem upTo_len (xs : List Int) (k : Nat) : (upTo xs k).length = k := by simp [upTo]
theorem upTo_nth {xs : List Int} {k j : Nat} (h : j < k) : nth (upTo xs k) j = upAt xs j := by simp [nth, upTo, h]
theorem upTo_succ (xs : List Int) (k : Nat) : upTo xs (k + 1) = upTo xs k ++ [upAt xs k] := by simp [upTo, List.range_succ]
theorem upAt_pair {xs : List Int} {j : Nat} (h : 2 * j + 1 < xs.length) : upAt xs j = pairZ (nth xs (2 * j)) (nth xs (2 * j + 1)) := by rw [upAt, if_pos h]
theorem upAt_one {xs : List Int} {j : Nat} (h : ¬ 2 * j + 1 < xs.length) : upAt xs j = nth xs (2 * j) := by rw [upAt, if_neg h]
theorem up_len (xs : List Int) : (up xs).length = (xs.length + 1) / 2 := upTo_len _ _
theorem up_nth {xs : List Int} {j : Nat} (h : j < (xs.length + 1) / 2) : nth (up xs) j = upAt xs j := upTo_nth h
theorem upAt_dig {xs : List Int} (h : digsB xs = true) {j : Nat} (hj : j < (xs.length + 1) / 2) : digB (upAt xs j) = true := by
  unfold upAt
  split
  · exact pair_dig _ _
  · exact digsB_at h (by omega)
theorem up_digs {xs : List Int} (h : digsB xs = true) : digsB (up xs) = true := by
  unfold digsB
  rw [allTo_iff]
  intro j hj
  rw [up_len] at hj
  rw [up_nth hj]
  exact upAt_dig h hj

/-- The root: levels are taken until one node is left. -/
def rootF : Nat → List Int → Int
  | 0, xs => nth xs 0
  | f + 1, xs => if xs.length ≤ 1 then nth xs 0 else rootF f (up xs)
def rootOf (xs : List Int) : Int := rootF xs.length xs
theorem rootF_one {xs : List Int} (h : xs.length ≤ 1) (f : Nat) : rootF f xs = nth xs 0 := by
  cases f with
  | zero => rfl
  | succ f => rw [rootF, if_pos h]
theorem rootF_up {xs : List Int} (h : ¬ xs.length ≤ 1) (f : Nat) : rootF (f + 1) xs = rootF f (up xs) := by rw [rootF, if_neg h]
/-- The root of the level that has been reached is the root. -/
def Reach (r : Int) (xs : List Int) : Prop := 1 ≤ xs.length ∧ digsB xs = true ∧ ∃ f, xs.length ≤ f + 1 ∧ rootF f xs = r
theorem Reach.start {xs : List Int} (h : 1 ≤ xs.length) (hd : digsB xs = true) : Reach (rootOf xs) xs := ⟨h, hd, xs.length, by omega, rfl⟩
theorem Reach.up {r : Int} {xs : List Int} (h : Reach r xs) (hl : 1 < xs.length) : Reach r (up xs) := by
  obtain ⟨h1, hd, f, hf, e⟩ := h
  refine ⟨by rw [up_len]; omega, up_digs hd, f - 1, by rw [up_len]; omega, ?_⟩
  obtain ⟨f, rfl⟩ : ∃ g, f = g + 1 := ⟨f - 1, by omega⟩
  rw [rootF_up (by omega)] at e
  exact e
theorem Reach.fin {r : Int} {xs : List Int} (h : Reach r xs) (hl : ¬ 1 < xs.length) : nth xs 0 = r := by
  obtain ⟨h1, hd, f, hf, e⟩ := h
  rw [← e, rootF_one (by omega)]
def leavesB (xs : List Int) : Bool := digsB xs && inB xs.length 1 16
def rootZ (xs : List Int) : Int := if leavesB xs = true then rootOf xs else -1

/-- Lists that differ at one place. -/
structure Diff1 (xs ys : List Int) : Prop where
  len : xs.length = ys.length
  dx : digsB xs = true
  dy : digsB ys = true
  ex : ∃ p, p < xs.length ∧ nth xs p ≠ nth ys p ∧ ∀ j, j ≠ p → nth xs j = nth ys j
theorem Diff1.up {xs ys : List Int} (h : Diff1 xs ys) : Diff1 (up xs) (up ys) := by
  obtain ⟨hl, hx, hy, p, hp, hne, heq⟩ := h
  refine ⟨by rw [up_len, up_len, hl], up_digs hx, up_digs hy, p / 2, by rw [up_len]; omega, ?_, fun j hj => ?_⟩
  · rw [up_nth (by omega), up_nth (by omega)]
    intro e
    by_cases h2 : 2 * (p / 2) + 1 < xs.length
    · rw [upAt_pair h2, upAt_pair (by omega)] at e
      have a1 := digsB_bd hx (j := 2 * (p / 2)) (by omega)
      have a2 := digsB_bd hx (j := 2 * (p / 2) + 1) (by omega)
      have b1 := digsB_bd hy (j := 2 * (p / 2)) (by omega)
      have b2 := digsB_bd hy (j := 2 * (p / 2) + 1) (by omega)
      by_cases hpp : p = 2 * (p / 2)
      · rw [heq (2 * (p / 2) + 1) (by omega)] at e
        have := pair_inj_l a1.1 a1.2 b1.1 b1.2 e
        rw [← hpp] at this
        exact hne this
      · have hpp : 2 * (p / 2) + 1 = p := by omega
        rw [heq (2 * (p / 2)) (by omega)] at e
        have := pair_inj_r a2.1 a2.2 b2.1 b2.2 e
        rw [hpp] at this
        exact hne this
    · rw [upAt_one h2, upAt_one (by omega)] at e
      have hpp : 2 * (p / 2) = p := by omega
      rw [hpp] at e
      exact hne e
  · by_cases hj2 : j < (xs.length + 1) / 2
    · rw [up_nth hj2, up_nth (by omega)]
      unfold upAt
      rw [hl, heq (2 * j) (by omega), heq (2 * j + 1) (by omega)]
    · have e1 : nth (Go.Proofs.Ytdleibkkjnodlaa.up xs) j = 0 := by
        simp only [nth, List.getD_eq_getElem?_getD]; rw [List.getElem?_eq_none (by rw [up_len]; omega)]; rfl
      have e2 : nth (Go.Proofs.Ytdleibkkjnodlaa.up ys) j = 0 := by
        simp only [nth, List.getD_eq_getElem?_getD]; rw [List.getElem?_eq_none (by rw [up_len]; omega)]; rfl
      rw [e1, e2]
theorem Diff1.root {xs ys : List Int} (h : Diff1 xs ys) (f : Nat) (hf : xs.length ≤ f + 1) : rootF f xs ≠ rootF f ys := by
  induction f generalizing xs ys with
  | zero =>
    obtain ⟨hl, hx, hy, p, hp, hne, heq⟩ := h
    have : p = 0 := by omega
    subst this
    exact hne
  | succ f ih =>
    by_cases h1 : xs.length ≤ 1
    · have hy1 : ys.length ≤ 1 := by have := h.len; omega
      rw [rootF_one h1, rootF_one hy1]
      obtain ⟨hl, hx, hy, p, hp, hne, heq⟩ := h
      have : p = 0 := by omega
      subst this
      exact hne
    · have hy1 : ¬ ys.length ≤ 1 := by have := h.len; omega
      rw [rootF_up h1, rootF_up hy1]
      exact ih h.up (by rw [up_len]; omega)

/-- The sibling's place. -/
def sib (i : Nat) : Nat := if i % 2 = 0 then i + 1 else i - 1
def follow (ps : List Int) (yes : Int → List Int → Option (Int × List Int)) : Option (Int × List Int) :=
  match ps with
  | [] => none
  | p :: qs => if digB p = true then yes p qs else none
/-- A proof is followed: none where it falls short or is no proof; else the node, and what is left of the proof. -/
def mck : Nat → Nat → Nat → Int → List Int → Option (Int × List Int)
  | 0, _, _, n, ps => some (n, ps)
  | f + 1, size, i, n, ps => if size ≤ 1 then some (n, ps) else
      if sib i < size then
        follow ps (fun p qs => mck f ((size + 1) / 2) (i / 2) (if i % 2 = 0 then pairZ n p else pairZ p n) qs)
      else mck f ((size + 1) / 2) (i / 2) n ps
theorem mck_succ (f size i : Nat) (n : Int) (ps : List Int) : mck (f + 1) size i n ps = if size ≤ 1 then some (n, ps) else
      if sib i < size then follow ps (fun p qs => mck f ((size + 1) / 2) (i / 2) (if i % 2 = 0 then pairZ n p else pairZ p n) qs)
      else mck f ((size + 1) / 2) (i / 2) n ps := rfl
def mfin (root : Int) : Option (Int × List Int) → Bool
  | none => false
  | some (n, ps) => ps.isEmpty && decide (n = root)
def checkB (root size i leaf : Int) (ps : List Int) : Bool :=
  inB size 1 16 && (inB i 0 (size - 1) && (digB leaf && mfin root (mck size.toNat size.toNat i.toNat leaf ps)))
/-- Where the walk of a proof stands. -/
def Walk (r : Option (Int × List Int)) (size i : Nat) (n : Int) (ps : List Int) : Prop :=
  1 ≤ size ∧ size ≤ 16 ∧ i < size ∧ digB n = true ∧ ∃ f, size ≤ f + 1 ∧ mck f size i n ps = r
theorem Walk.start {size i : Nat} {n : Int} {ps : List Int} (h1 : 1 ≤ size) (h16 : size ≤ 16) (hi : i < size) (hd : digB n = true) : Walk (mck size size i n ps) size i n ps := ⟨h1, h16, hi, hd, size, by omega, rfl⟩
theorem Walk.fin {r : Option (Int × List Int)} {size i : Nat} {n : Int} {ps : List Int} (h : Walk r size i n ps) (hs : ¬ 1 < size) : r = some (n, ps) := by
  obtain ⟨h1, h16, hi, hd, f, hf, e⟩ := h
  cases f with
  | zero => exact e.symm
  | succ f => rw [mck_succ, if_pos (by omega)] at e; exact e.symm
section
variable {r : Option (Int × List Int)} {size i : Nat} {n : Int} {ps : List Int}
theorem Walk.succ (h : Walk r size i n ps) (hs : 1 < size) : ∃ f, (size + 1) / 2 ≤ f + 1 ∧ (if sib i < size then
        follow ps (fun p qs => mck f ((size + 1) / 2) (i / 2) (if i % 2 = 0 then pairZ n p else pairZ p n) qs)
      else mck f ((size + 1) / 2) (i / 2) n ps) = r := by
  obtain ⟨h1, h16, hi, hd, f, hf, e⟩ := h
  obtain ⟨f, rfl⟩ : ∃ g, f = g + 1 := ⟨f - 1, by omega⟩
  rw [mck_succ, if_neg (by omega)] at e
  exact ⟨f, by omega, e⟩
theorem Walk.skip (h : Walk r size i n ps) (hs : 1 < size) (hb : ¬ sib i < size) : Walk r ((size + 1) / 2) (i / 2) n ps := by
  obtain ⟨f, hf, e⟩ := h.succ hs
  obtain ⟨h1, h16, hi, hd, _⟩ := h
  rw [if_neg hb] at e
  exact ⟨by omega, by omega, by omega, hd, f, hf, e⟩
theorem Walk.none (h : Walk r size i n []) (hs : 1 < size) (hb : sib i < size) : r = Option.none := by
  obtain ⟨f, hf, e⟩ := h.succ hs
  rw [if_pos hb] at e
  exact e.symm
theorem Walk.bad {p : Int} {qs : List Int} (h : Walk r size i n (p :: qs)) (hs : 1 < size) (hb : sib i < size) (hp : digB p = false) : r = Option.none := by
  obtain ⟨f, hf, e⟩ := h.succ hs
  rw [if_pos hb] at e
  simp only [follow, hp] at e
  simpa using e.symm
theorem Walk.even {p : Int} {qs : List Int} (h : Walk r size i n (p :: qs)) (hs : 1 < size) (hb : sib i < size) (hp : digB p = true) (hi : i % 2 = 0) : Walk r ((size + 1) / 2) (i / 2) (pairZ n p) qs := by
  obtain ⟨f, hf, e⟩ := h.succ hs
  obtain ⟨h1, h16, hil, hd, _⟩ := h
  rw [if_pos hb] at e
  simp only [follow, hp, if_true, hi] at e
  exact ⟨by omega, by omega, by omega, pair_dig _ _, f, hf, e⟩
theorem Walk.odd {p : Int} {qs : List Int} (h : Walk r size i n (p :: qs)) (hs : 1 < size) (hb : sib i < size) (hp : digB p = true) (hi : ¬ i % 2 = 0) : Walk r ((size + 1) / 2) (i / 2) (pairZ p n) qs := by
  obtain ⟨f, hf, e⟩ := h.succ hs
  obtain ⟨h1, h16, hil, hd, _⟩ := h
  rw [if_pos hb] at e
  simp only [follow, hp, if_true, if_neg hi] at e
  exact ⟨by omega, by omega, by omega, pair_dig _ _, f, hf, e⟩
end
/-- What is left of a proof is a part of it: a number that is no digest is met, or left over. -/
theorem mck_bad {root : Int} : ∀ (f size i : Nat) (n : Int) (ps : List Int) (p : Int), p ∈ ps → digB p = false → mfin root (mck f size i n ps) = false := by
  intro f
  induction f with
  | zero =>
    intro size i n ps p hp hb
    rcases ps with _ | ⟨q, qs⟩
    · cases hp
    · rfl
  | succ f ih =>
    intro size i n ps p hp hb
    rcases ps with _ | ⟨q, qs⟩
    · cases hp
    · rw [mck_succ]
      by_cases h1 : size ≤ 1
      · rw [if_pos h1]; rfl
      · rw [if_neg h1]
        by_cases h2 : sib i < size
        · rw [if_pos h2]
          rcases hq : digB q with _ | _
          · simp [follow, hq, mfin]
          · simp only [follow, hq, if_true]
            refine ih _ _ _ _ p ?_ hb
            rcases List.mem_cons.1 hp with e | e
            · subst e; rw [hb] at hq; cases hq
            · exact e
        · rw [if_neg h2]; exact ih _ _ _ _ p hp hb
end Go.Proofs.Ytdleibkkjnodlaa
