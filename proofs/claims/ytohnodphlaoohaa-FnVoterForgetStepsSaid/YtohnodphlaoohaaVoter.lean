/- Voters: whether they are valid: each function by its contract. -/
import Derived.Test.YtohnodphlaoohaaLstVote
import Derived.Test.YtohnodphlaoohaaVote
import Derived.Test.YtohnodphlaoohaaReg
import Derived.Test.YtohnodphlaoohaaDraw5
import Derived.Deep.RegionHeld3
namespace Go.Proofs.Ytohnodphlaoohaa
open Go.RowKit
set_option linter.unusedVariables false

/-- Compared by round, then by author. -/
def cmp3 (x y : Int) : Int := if x < y then -1 else if y < x then 1 else 0
def orZ (x y : Int) : Int := if x ≠ 0 then x else y
def cmpV (x y : VVote) : Int := orZ (cmp3 x.r y.r) (cmp3 x.a y.a)
def befB (x y : VVote) : Bool := decide (x.r < y.r ∨ (x.r = y.r ∧ x.a < y.a))
theorem cmpV_neg {x y : VVote} : cmpV x y < 0 ↔ befB x y = true := by
  simp only [cmpV, orZ, cmp3, befB, decide_eq_true_eq]
  by_cases h1 : x.r < y.r
  · simp [h1]
  · by_cases h2 : y.r < x.r
    · simp [h1, h2]; omega
    · by_cases h3 : x.a < y.a
      · simp [h1, h2, h3]; omega
      · by_cases h4 : y.a < x.a <;> simp [h1, h2, h3, h4]
def vB (x : VVote) : Bool := voteB x.r x.a x.d
def vtOk (f : Int) (vs : List VVote) (j : Nat) : Bool := vB (nthVote vs j) && (decide (f ≤ (nthVote vs j).r) && !(decide (0 < j) && !befB (nthVote vs (j - 1)) (nthVote vs j)))
def voterB (f : Int) (vs : List VVote) : Bool := allTo (vtOk f vs) vs.length && (inB f 0 31 && decide (vs.length ≤ 40))
theorem vt_bad {f : Int} {vs : List VVote} {k : Nat} (hlt : k < vs.length) (h : vtOk f vs k = false) : voterB f vs = false := by
  unfold voterB; rw [allTo_bad hlt h]; simp
theorem vt_no1 {f : Int} {vs : List VVote} {k : Nat} (h : vB (nthVote vs k) = false) : vtOk f vs k = false := by simp [vtOk, h]
theorem vt_no2 {f : Int} {vs : List VVote} {k : Nat} (h : (nthVote vs k).r < f) : vtOk f vs k = false := by
  have : ¬ f ≤ (nthVote vs k).r := by omega
  simp [vtOk, this]
theorem vt_no3 {f : Int} {vs : List VVote} {k : Nat} (h0 : 0 < k) (h : befB (nthVote vs (k - 1)) (nthVote vs k) = false) : vtOk f vs k = false := by
  simp [vtOk, h0, h]
theorem vt_yes {f : Int} {vs : List VVote} {k : Nat} (h1 : vB (nthVote vs k) = true) (h2 : f ≤ (nthVote vs k).r) (h3 : 0 < k → befB (nthVote vs (k - 1)) (nthVote vs k) = true) : vtOk f vs k = true := by
  by_cases h0 : 0 < k
  · simp [vtOk, h1, h2, h3 h0]
  · simp [vtOk, h1, h2, h0]

set_option maxHeartbeats 1000000 in
theorem isNaN_any (x : Int) (w : World) : Calls Try.prog 124 #[.int .i64 x] w fun e w' => e = .returned (.bool false) ∧ w = w' := by
  have h : (x != x) = false := by simp
  go_enter Try.func124, Try.ntmps124
  go_wp2
  go_ret
  exact ⟨rfl, rfl⟩
set_option maxHeartbeats 1000000 in
theorem compare_any (x y : Int) (w : World) : Calls Try.prog 119 #[.int .i64 x, .int .i64 y] w fun e w' => e = .returned (.int .i64 (cmp3 x y)) ∧ w = w' := by
  by_cases h1 : x < y
  · go_enter Try.func119, Try.ntmps119
    go_wp2_with (go_at_call 124; refine (isNaN_any _ _).mono ?_; rintro e w' ⟨rfl, rfl⟩)
    go_ret
    exact ⟨ret_int (by unfold cmp3; rw [if_pos (by omega)]), rfl⟩
  · by_cases h2 : y < x
    · go_enter Try.func119, Try.ntmps119
      go_wp2_with (go_at_call 124; refine (isNaN_any _ _).mono ?_; rintro e w' ⟨rfl, rfl⟩)
      go_ret
      exact ⟨ret_int (by unfold cmp3; rw [if_neg (by omega)]; first | rw [if_pos (by omega)] | rw [if_neg (by omega)]), rfl⟩
    · go_enter Try.func119, Try.ntmps119
      go_wp2_with (go_at_call 124; refine (isNaN_any _ _).mono ?_; rintro e w' ⟨rfl, rfl⟩)
      go_ret
      exact ⟨ret_int (by unfold cmp3; rw [if_neg (by omega)]; first | rw [if_pos (by omega)] | rw [if_neg (by omega)]), rfl⟩
set_option maxHeartbeats 1000000 in
theorem or_any (A : Option Addr) (c : Nat) (x y : Int) (w : World) (B : Nat) (h : Ints w B A [x, y]) : Calls Try.prog 118 #[.slice A 2 c] w fun e w' => e = .returned (.int .i64 (orZ x y)) ∧ w = w' := by
  obtain ⟨b, off, rfl, hbb, hc⟩ := h.at_ (k := 0) (by simp)
  have h0 := hc 0 (by simp)
  have h1 := hc 1 (by simp)
  rw [show nth [x, y] 0 = x from rfl, Nat.add_zero] at h0
  rw [show nth [x, y] 1 = y from rfl] at h1
  clear hc h
  go_enter Try.func118, Try.ntmps118
  go_wp2
  go_loop [8] (fun i => ∃ k : Nat, k ≤ 2 ∧ i = .int .i64 k ∧ (1 ≤ k → x = 0) ∧ (2 ≤ k → y = 0)) (fun i => 2 - (intOf i).toNat)
  case atStart => exact ⟨0, by omega, rfl, fun h => absurd h (by omega), fun h => absurd h (by omega)⟩
  case round =>
    obtain ⟨k, hk, rfl, hx, hy⟩ := hrel
    have HX := Lib.hid hx
    have HY := Lib.hid hy
    clear hx hy
    rcases (show k = 0 ∨ k = 1 ∨ k = 2 by omega) with rfl | rfl | rfl
    · by_cases hz : x = 0
      · have hb : (x != 0) = false := by simp [hz]
        have HZ := Lib.hid hz
        clear hz
        go_wp2
        go_round
        case rel => exact ⟨1, by omega, by go_num, fun _ => HZ.out, fun h => absurd h (by omega)⟩
        case measure => simp [intOf]
      · have hb : (x != 0) = true := by simp [hz]
        have HZ := Lib.hid hz
        clear hz
        go_wp2
        go_ret
        exact ⟨ret_int (by rw [orZ, if_pos HZ.out]), rfl⟩
    · have hx := HX.out (by omega)
      have HZ := Lib.hid hx
      clear hx
      by_cases hz : y = 0
      · have hb : (y != 0) = false := by simp [hz]
        have HQ := Lib.hid hz
        clear hz
        go_wp2
        go_round
        case rel => exact ⟨2, by omega, by go_num, fun _ => HZ.out, fun _ => HQ.out⟩
        case measure => simp [intOf]
      · have hb : (y != 0) = true := by simp [hz]
        clear hz
        go_wp2
        go_ret
        exact ⟨ret_int (by rw [orZ, if_neg (by simp [HZ.out])]), rfl⟩
    · go_wp2
      go_ret
      exact ⟨ret_int (by rw [orZ, if_neg (by simp [HX.out (by omega)]), HY.out (by omega)]), rfl⟩
theorem two_ints {W : World} {g : Nat} {t : TypeId} {x y : Int} (h : W.heap[g]? = some (.cells #[.int .i64 x, .int .i64 y] t (0, 0))) : Ints W (g + 1) (some ⟨g, 0, none⟩) [x, y] :=
  Ints.mk (by omega) (fun j hj => by
    rw [cell_of_row W g _ _ _ _ h]
    rcases (show j = 0 ∨ j = 1 by simp at hj; omega) with rfl | rfl <;> simp [nth])
set_option maxHeartbeats 4000000 in
theorem i_compareVotes (r a d r' a' d' : Int) (w : World) : Calls Try.prog 83 #[.agg #[.int .i64 r, .int .i64 a, .int .i64 d], .agg #[.int .i64 r', .int .i64 a', .int .i64 d']] w fun e w' => e = .returned (.int .i64 (cmpV ⟨r, a, d⟩ ⟨r', a', d'⟩)) ∧ Below w.heap.size w w' := by
  have BB := Lib.hid (allocB2 w (.cells #[.int .i64 r, .int .i64 a, .int .i64 d] 35) (.cells #[.int .i64 r', .int .i64 a', .int .i64 d'] 35))
  go_enter Try.func83, Try.ntmps83
  go_wp2_with fail
  have hor : Ints (((w.alloc (.cells #[.int .i64 r, .int .i64 a, .int .i64 d] 35)).alloc (.cells #[.int .i64 r', .int .i64 a', .int .i64 d'] 35)).alloc (.cells #[.int .i64 (cmp3 r r'), .int .i64 (cmp3 a a')] 3)).drew (w.heap.size + 1 + 1 + 1) (some ⟨w.heap.size + 1 + 1, 0, none⟩) [cmp3 r r', cmp3 a a'] :=
    two_ints (t := 3) (by rw [show w.heap.size + 1 + 1 = ((w.alloc (.cells #[.int .i64 r, .int .i64 a, .int .i64 d] 35)).alloc (.cells #[.int .i64 r', .int .i64 a', .int .i64 d'] 35)).heap.size from by simp]; exact heap_alloc_new ((w.alloc (.cells #[.int .i64 r, .int .i64 a, .int .i64 d] 35)).alloc (.cells #[.int .i64 r', .int .i64 a', .int .i64 d'] 35)) _)
  have HOR := Lib.hid hor
  clear hor
  go_region_held3 (fun W => W.cell? ⟨w.heap.size, 0, none⟩ = some (.int .i64 r) ∧ W.cell? ⟨w.heap.size, 1, none⟩ = some (.int .i64 a) ∧ W.cell? ⟨w.heap.size + 1, 0, none⟩ = some (.int .i64 r') ∧ W.cell? ⟨w.heap.size + 1, 1, none⟩ = some (.int .i64 a')) (go_keep)
    (first | (go_at_call 119; refine (compare_any _ _ _).mono ?_; rintro e w' ⟨rfl, rfl⟩) | (go_at_call 118; refine (or_any _ _ _ _ _ _ HOR.out).mono ?_; rintro e w' ⟨rfl, rfl⟩))
  all_goals
    go_wp2_with fail
    go_ret
    exact ⟨rfl, (BB.out.alloc (by simp; omega) _).drew⟩
set_option maxHeartbeats 2000000 in
theorem s_l12Before (r a d r' a' d' : Int) (w : World) : Calls Try.prog 78 #[.agg #[.int .i64 r, .int .i64 a, .int .i64 d], .agg #[.int .i64 r', .int .i64 a', .int .i64 d']] w fun e w' => e = .returned (.bool (befB ⟨r, a, d⟩ ⟨r', a', d'⟩)) ∧ Below w.heap.size w w' := by
  by_cases h1 : r < r'
  · go_enter Try.func78, Try.ntmps78
    go_wp2
    go_ret
    exact ⟨ret_bool (by simp [befB, h1]), allocB2 w _ _⟩
  · by_cases h2 : r = r'
    · have hb : (r == r') = true := by simp [h2]
      have H2 := Lib.hid h2
      clear h2
      by_cases h3 : a < a'
      · go_enter Try.func78, Try.ntmps78
        go_wp2
        go_ret
        exact ⟨ret_bool (by simp [befB, H2.out, h3]), allocB2 w _ _⟩
      · go_enter Try.func78, Try.ntmps78
        go_wp2
        go_ret
        exact ⟨ret_bool (by simp [befB, H2.out, h3]), allocB2 w _ _⟩
    · have hb : (r == r') = false := by simp [h2]
      have H2 := Lib.hid h2
      clear h2
      go_enter Try.func78, Try.ntmps78
      go_wp2
      go_ret
      exact ⟨ret_bool (by simp [befB, H2.out, h1]), allocB2 w _ _⟩
end Go.Proofs.Ytohnodphlaoohaa
