/- Receipts and digests: each function by its contract. -/
import Derived.Test.YtohnodphlaoohaaBase
import Derived.Laws.ResultCell
namespace Go.Proofs.Ytohnodphlaoohaa
open Go.RowKit
set_option linter.unusedVariables false

def digB (d : Int) : Bool := inB d 0 990
def pairZ (a b : Int) : Int := (31 * a + 17 * b + 5) % 991
def rcptB (i d : Int) : Bool := inB i 0 15 && digB d
def outcome (i : Int) (b : Bool) : Int := if b = true then 2 * i + 1 else 2 * i
def rcptD (i : Int) (b : Bool) (d : Int) : Int := if rcptB i d = true then pairZ (outcome i b) d else -1
theorem rcptB_iff {i d : Int} : rcptB i d = true ↔ (0 ≤ i ∧ i ≤ 15) ∧ 0 ≤ d ∧ d ≤ 990 := by simp [rcptB, digB, inB_iff]

set_option maxHeartbeats 1000000 in
theorem s_l2Digest (d : Int) (w : World) : Calls Try.prog 57 #[.int .i64 d] w fun e w' => e = .returned (.bool (digB d)) ∧ w = w' := by
  go_enter Try.func57, Try.ntmps57
  go_wp2_with (go_at_call 79; refine (l6In_any _ _ _ _).mono ?_; rintro e w' ⟨rfl, rfl⟩)
  go_ret
  exact ⟨rfl, rfl⟩
set_option maxHeartbeats 1000000 in
theorem i_isDigest (d : Int) (w : World) : Calls Try.prog 62 #[.int .i64 d] w fun e w' => e = .returned (.bool (digB d)) ∧ w = w' := by
  by_cases h0 : 0 ≤ d
  · by_cases h1 : d < 991
    · go_enter Try.func62, Try.ntmps62
      go_wp2
      go_ret
      exact ⟨ret_bool (by unfold digB; rw [inB_iff.2 (by omega)]), rfl⟩
    · go_enter Try.func62, Try.ntmps62
      go_wp2
      go_ret
      exact ⟨ret_bool (by unfold digB; rw [inB_no.2 (by omega)]), rfl⟩
  · go_enter Try.func62, Try.ntmps62
    go_wp2
    go_ret
    exact ⟨ret_bool (by unfold digB; rw [inB_no.2 (by omega)]), rfl⟩
set_option maxHeartbeats 1000000 in
theorem s_l2Pair (a b : Int) (w : World) (ha : 0 ≤ a) (ha' : a ≤ 1000) (hb : 0 ≤ b) (hb' : b ≤ 1000) :
    Calls Try.prog 99 #[.int .i64 a, .int .i64 b] w fun e w' => e = .returned (.int .i64 (pairZ a b)) ∧ w = w' := by
  go_enter Try.func99, Try.ntmps99
  go_wp2
  go_ret
  exact ⟨rfl, rfl⟩
set_option maxHeartbeats 1000000 in
theorem i_HashPair (a b : Int) (w : World) (ha : digB a = true) (hb : digB b = true) :
    Calls Try.prog 97 #[.int .i64 a, .int .i64 b] w fun e w' => e = .returned (.int .i64 (pairZ a b)) ∧ w = w' := by
  have h1 := inB_iff.1 ha
  have h2 := inB_iff.1 hb
  go_enter Try.func97, Try.ntmps97
  go_wp2_with (go_at_call 62; refine (i_isDigest _ _).mono ?_; rintro e w' ⟨rfl, rfl⟩)
  go_ret
  exact ⟨rfl, rfl⟩
set_option maxHeartbeats 1000000 in
theorem s_l33Receipt (i : Int) (b : Bool) (d : Int) (w : World) :
    Calls Try.prog 98 #[.agg #[.int .i64 i, .bool b, .int .i64 d]] w fun e w' => e = .returned (.bool (rcptB i d)) ∧ Below w.heap.size w w' := by
  rcases h : inB i 0 15 with _ | _
  · go_enter Try.func98, Try.ntmps98
    go_wp2_with (go_at_call 79; refine (l6In_any _ _ _ _).mono ?_; rintro e w' ⟨rfl, rfl⟩)
    go_ret
    exact ⟨ret_bool (by simp [rcptB, h]), (Below.refl _ _).alloc (Nat.le_refl _) _⟩
  · go_enter Try.func98, Try.ntmps98
    go_wp2_with (first | (go_at_call 79; refine (l6In_any _ _ _ _).mono ?_; rintro e w' ⟨rfl, rfl⟩) | (go_at_call 57; refine (s_l2Digest _ _).mono ?_; rintro e w' ⟨rfl, rfl⟩))
    go_ret
    exact ⟨ret_bool (by simp [rcptB, h]), (Below.refl _ _).alloc (Nat.le_refl _) _⟩
set_option maxHeartbeats 1000000 in
theorem i_rcptValid (i : Int) (b : Bool) (d : Int) (w : World) :
    Calls Try.prog 96 #[.agg #[.int .i64 i, .bool b, .int .i64 d]] w fun e w' => e = .returned (.bool (rcptB i d)) ∧ Below w.heap.size w w' := by
  by_cases h0 : 0 ≤ i
  · by_cases h1 : i < 16
    · go_enter Try.func96, Try.ntmps96
      go_wp2_with (go_at_call 62; refine (i_isDigest _ _).mono ?_; rintro e w' ⟨rfl, rfl⟩)
      go_ret
      exact ⟨ret_bool (by unfold rcptB; rw [inB_iff.2 (by omega)]; simp), (Below.refl _ _).alloc (Nat.le_refl _) _⟩
    · go_enter Try.func96, Try.ntmps96
      go_wp2_with fail
      go_ret
      exact ⟨ret_bool (by unfold rcptB; rw [inB_no.2 (by omega)]; rfl), (Below.refl _ _).alloc (Nat.le_refl _) _⟩
  · go_enter Try.func96, Try.ntmps96
    go_wp2_with fail
    go_ret
    exact ⟨ret_bool (by unfold rcptB; rw [inB_no.2 (by omega)]; rfl), (Below.refl _ _).alloc (Nat.le_refl _) _⟩
set_option maxHeartbeats 1000000 in
theorem s_ReceiptDigest (i : Int) (b : Bool) (d : Int) (w : World) :
    Calls Try.prog 51 #[.agg #[.int .i64 i, .bool b, .int .i64 d]] w fun e w' => e = .returned (.int .i64 (rcptD i b d)) ∧ Below w.heap.size w w' := by
  have hb1 : Below w.heap.size w (w.alloc (.cells #[.int .i64 i, .bool b, .int .i64 d] 80)) := (Below.refl _ _).alloc (Nat.le_refl _) _
  have HB1 := Lib.hid hb1
  clear hb1
  rcases h : rcptB i d with _ | _
  · go_enter Try.func51, Try.ntmps51
    go_wp2_with fail
    refine (s_l33Receipt _ _ _ _).mono ?_
    rintro e w1 ⟨rfl, b1⟩
    have B1 := Lib.hid b1
    clear b1
    go_wp2_with fail
    go_ret
    exact ⟨ret_int (by simp [rcptD, h]), next HB1.out B1.out⟩
  · have hbd := rcptB_iff.1 h
    have hfin : rcptD i b d = pairZ (outcome i b) d := by simp [rcptD, h]
    have HF := Lib.hid hfin
    clear hfin
    rcases b with _ | _
    all_goals
      go_enter Try.func51, Try.ntmps51
      go_wp2_with fail
      refine (s_l33Receipt _ _ _ _).mono ?_
      rintro e w1 ⟨rfl, b1⟩
      have c0 := b1.cell (p := ⟨w.heap.size, 0, none⟩) (by simp)
      have c1 := b1.cell (p := ⟨w.heap.size, 1, none⟩) (by simp)
      have c2 := b1.cell (p := ⟨w.heap.size, 2, none⟩) (by simp)
      simp at c0 c1 c2
      have B1 := Lib.hid b1
      clear b1
      go_wp2_with fail
      refine (s_l2Pair _ _ _ (by omega) (by omega) (by omega) (by omega)).mono ?_
      rintro e w' ⟨rfl, rfl⟩
      go_wp2_with fail
      go_ret
      exact ⟨ret_int (by rw [HF.out]; simp [outcome]), next HB1.out B1.out⟩
set_option maxHeartbeats 1000000 in
theorem i_ReceiptDigest (i : Int) (b : Bool) (d : Int) (w : World) :
    Calls Try.prog 50 #[.agg #[.int .i64 i, .bool b, .int .i64 d]] w fun e w' => e = .returned (.int .i64 (rcptD i b d)) ∧ Below w.heap.size w w' := by
  have hb1 : Below w.heap.size w (w.alloc (.cells #[.int .i64 i, .bool b, .int .i64 d] 80)) := (Below.refl _ _).alloc (Nat.le_refl _) _
  have HB1 := Lib.hid hb1
  clear hb1
  rcases h : rcptB i d with _ | _
  · go_enter Try.func50, Try.ntmps50
    go_wp2_with fail
    refine (i_rcptValid _ _ _ _).mono ?_
    rintro e w1 ⟨rfl, b1⟩
    have B1 := Lib.hid b1
    clear b1
    go_wp2_with fail
    go_ret
    exact ⟨ret_int (by simp [rcptD, h]), next HB1.out B1.out⟩
  · have hbd := rcptB_iff.1 h
    have hfin : rcptD i b d = pairZ (outcome i b) d := by simp [rcptD, h]
    have HF := Lib.hid hfin
    clear hfin
    have hd : digB d = true := inB_iff.2 (by omega)
    have HD := Lib.hid hd
    clear hd
    rcases b with _ | _
    all_goals
      go_enter Try.func50, Try.ntmps50
      go_wp2_with fail
      refine (i_rcptValid _ _ _ _).mono ?_
      rintro e w1 ⟨rfl, b1⟩
      have c0 := b1.cell (p := ⟨w.heap.size, 0, none⟩) (by simp)
      have c1 := b1.cell (p := ⟨w.heap.size, 1, none⟩) (by simp)
      have c2 := b1.cell (p := ⟨w.heap.size, 2, none⟩) (by simp)
      simp at c0 c1 c2
      have B1 := Lib.hid b1
      clear b1
      go_wp2_with fail
      refine (i_HashPair _ _ _ (inB_iff.2 (by omega)) HD.out).mono ?_
      rintro e w' ⟨rfl, rfl⟩
      go_wp2_with fail
      go_ret
      exact ⟨ret_int (by rw [HF.out]; simp [outcome]), next HB1.out B1.out⟩
end Go.Proofs.Ytohnodphlaoohaa
