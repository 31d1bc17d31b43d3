/- The committee's plain functions on lists of numbers: what the program and the reference both compute. No program. -/
import Derived.Test.YtohnodphlaoohaaMem
namespace Go.Proofs.Ytohnodphlaoohaa
set_option linter.unusedVariables false

def inB (n lo hi : Int) : Bool := decide (lo ≤ n ∧ n ≤ hi)
theorem inB_iff {n lo hi : Int} : inB n lo hi = true ↔ lo ≤ n ∧ n ≤ hi := by simp [inB]
theorem inB_no {n lo hi : Int} : inB n lo hi = false ↔ ¬ (lo ≤ n ∧ n ≤ hi) := by simp [inB]

/-- p holds of the first k numbers. -/
def allTo (p : Nat → Bool) : Nat → Bool
  | 0 => true
  | k + 1 => allTo p k && p k
theorem allTo_iff {p : Nat → Bool} {n : Nat} : allTo p n = true ↔ ∀ j, j < n → p j = true := by
  induction n with
  | zero => simp [allTo]
  | succ n ih =>
    simp only [allTo, Bool.and_eq_true, ih]
    constructor
    · rintro ⟨h, hn⟩ j hj
      by_cases e : j = n
      · subst e; exact hn
      · exact h j (by omega)
    · intro h
      exact ⟨fun j hj => h j (by omega), h n (by omega)⟩
theorem allTo_bad {p : Nat → Bool} {k n : Nat} (h : k < n) (hb : p k = false) : allTo p n = false := by
  rcases e : allTo p n with _ | _
  · rfl
  · have := (allTo_iff.1 e) k h; rw [hb] at this; cases this
theorem allTo_step {p : Nat → Bool} {k : Nat} (h : allTo p k = true) (hb : p k = true) : allTo p (k + 1) = true := by simp [allTo, h, hb]
theorem allTo_congr {p q : Nat → Bool} {n : Nat} (h : ∀ j, j < n → p j = q j) : allTo p n = allTo q n := by
  induction n with
  | zero => rfl
  | succ n ih => simp only [allTo]; rw [ih (fun j hj => h j (by omega)), h n (by omega)]

/-- The sum of the first k values. -/
def sumTo (f : Nat → Int) : Nat → Int
  | 0 => 0
  | k + 1 => sumTo f k + f k
theorem sumTo_bd {f : Nat → Int} {lo hi : Int} {n : Nat} (h : ∀ j, j < n → lo ≤ f j ∧ f j ≤ hi) : lo * n ≤ sumTo f n ∧ sumTo f n ≤ hi * n := by
  induction n with
  | zero => simp [sumTo]
  | succ n ih =>
    obtain ⟨a, b⟩ := ih (fun j hj => h j (by omega))
    obtain ⟨c, d⟩ := h n (by omega)
    simp only [sumTo]
    rw [Int.natCast_add, Int.mul_add, Int.mul_add]
    simp only [Int.natCast_one, Int.mul_one]
    omega
theorem sumTo_congr {f g : Nat → Int} {n : Nat} (h : ∀ j, j < n → f j = g j) : sumTo f n = sumTo g n := by
  induction n with
  | zero => rfl
  | succ n ih => simp only [sumTo]; rw [ih (fun j hj => h j (by omega)), h n (by omega)]

def okW (zs : List Int) (j : Nat) : Bool := inB (nth zs j) 1 9
def validB (zs : List Int) : Bool := allTo (okW zs) zs.length && inB zs.length 1 7
def total (zs : List Int) : Int := sumTo (nth zs) zs.length
def memOk (n : Nat) (ms : List Int) (j : Nat) : Bool := inB (nth ms j) 0 (n - 1) && !(decide (0 < j) && decide (nth ms j ≤ nth ms (j - 1)))
def memB (n : Nat) (ms : List Int) : Bool := allTo (memOk n ms) ms.length
def membersB (zs ms : List Int) : Bool := validB zs && memB zs.length ms
def weightAt (zs ms : List Int) (j : Nat) : Int := nth zs (nth ms j).toNat
def weight (zs ms : List Int) : Int := sumTo (weightAt zs ms) ms.length
def leadOk (n : Nat) (ms : List Int) (j : Nat) : Bool := inB (nth ms j) 0 (n - 1)
def leadB (n : Nat) (ms : List Int) : Bool := allTo (leadOk n ms) ms.length && decide (ms.length ≤ 15)

theorem validB_len {zs : List Int} (h : validB zs = true) : 1 ≤ zs.length ∧ zs.length ≤ 7 := by
  simp only [validB, Bool.and_eq_true, inB_iff] at h; omega
theorem validB_at {zs : List Int} (h : validB zs = true) {j : Nat} (hj : j < zs.length) : 1 ≤ nth zs j ∧ nth zs j ≤ 9 := by
  simp only [validB, Bool.and_eq_true] at h; exact inB_iff.1 (allTo_iff.1 h.1 j hj)
theorem total_to {zs : List Int} (h : validB zs = true) {k : Nat} (hk : k ≤ zs.length) : (k : Int) ≤ sumTo (nth zs) k ∧ sumTo (nth zs) k ≤ 63 := by
  have := sumTo_bd (f := nth zs) (lo := 1) (hi := 9) (n := k) (fun j hj => validB_at h (by omega))
  have := validB_len h; omega
theorem total_bd {zs : List Int} (h : validB zs = true) : 1 ≤ total zs ∧ total zs ≤ 63 := by
  have := total_to h (Nat.le_refl _); have := validB_len h; unfold total; omega
theorem memOk_in {n : Nat} {ms : List Int} {j : Nat} (h : memOk n ms j = true) : 0 ≤ nth ms j ∧ nth ms j < n := by
  simp only [memOk, Bool.and_eq_true, inB_iff] at h; omega
theorem memB_in {n : Nat} {ms : List Int} (h : memB n ms = true) {j : Nat} (hj : j < ms.length) : 0 ≤ nth ms j ∧ nth ms j < n := memOk_in (allTo_iff.1 h j hj)
theorem weight_to {zs ms : List Int} (h : validB zs = true) (hm : memB zs.length ms = true) {k : Nat} (hk : k ≤ ms.length) : (k : Int) ≤ sumTo (weightAt zs ms) k ∧ sumTo (weightAt zs ms) k ≤ 9 * k := by
  have := sumTo_bd (f := weightAt zs ms) (lo := 1) (hi := 9) (n := k) (fun j hj => validB_at h (by have := memB_in hm (j := j) (by omega); omega))
  omega

def cTotal (zs : List Int) : Int := if validB zs = true then total zs else -1
def cFaults (zs : List Int) : Int := if validB zs = true then (total zs - 1) / 3 else -1
def quorum (zs : List Int) : Int := 2 * total zs / 3 + 1
def support (zs : List Int) : Int := total zs / 3 + 1
def cQuorum (zs : List Int) : Int := if validB zs = true then quorum zs else -1
def cSupport (zs : List Int) : Int := if validB zs = true then support zs else -1
def cWeight (zs ms : List Int) : Int := if membersB zs ms = true then weight zs ms else -1
def leadersB (zs ms : List Int) : Bool := validB zs && leadB zs.length ms

/-- The first place at which the running sum passes n. -/
def leadFrom (zs : List Int) (n : Int) : Nat → Nat → Nat
  | 0, k => k
  | f + 1, k => if n < sumTo (nth zs) (k + 1) then k else leadFrom zs n f (k + 1)
def leadOf (zs : List Int) (n : Int) : Nat := leadFrom zs n zs.length 0
theorem leadFrom_eq {zs : List Int} {n : Int} {r : Nat} (h1 : ∀ j, j < r → sumTo (nth zs) (j + 1) ≤ n) (h2 : n < sumTo (nth zs) (r + 1)) :
    ∀ (f k : Nat), k ≤ r → r < k + f → leadFrom zs n f k = r := by
  intro f
  induction f with
  | zero => intro k a b; omega
  | succ f ih =>
    intro k a b
    unfold leadFrom
    by_cases e : k = r
    · subst e; rw [if_pos h2]
    · rw [if_neg (by have := h1 k (by omega); omega)]
      exact ih (k + 1) (by omega) (by omega)
theorem leadOf_eq {zs : List Int} {n : Int} {r : Nat} (h1 : ∀ j, j < r → sumTo (nth zs) (j + 1) ≤ n) (h2 : n < sumTo (nth zs) (r + 1)) (hr : r < zs.length) : leadOf zs n = r :=
  leadFrom_eq h1 h2 _ _ (Nat.zero_le _) (by omega)
def coin (zs : List Int) (v : Int) : Int := if validB zs = true ∧ inB v 0 250 = true then (leadOf zs (v % total zs) : Int) else -1
end Go.Proofs.Ytohnodphlaoohaa
