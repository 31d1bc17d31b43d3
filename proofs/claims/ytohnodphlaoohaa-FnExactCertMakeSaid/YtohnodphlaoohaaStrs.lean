/- Tallies, vertices, certificates: copies and comparisons, each function by its contract. -/
import Derived.Test.YtohnodphlaoohaaVote
namespace Go.Proofs.Ytohnodphlaoohaa
open Go.RowKit
set_option linter.unusedVariables false

set_option maxHeartbeats 4000000 in
theorem toTally_any (r a d : Int) (A : Option Addr) (c : Nat) (zs : List Int) (w : World) (h : Ints w w.heap.size A zs) (hn : zs.length ≤ 1048576) :
    Calls Try.prog 36 #[.agg #[.int .i64 r, .int .i64 a, .int .i64 d, .slice A zs.length c]] w fun e w' => ∃ g : Nat, e = .returned (.agg #[.int .i64 r, .int .i64 a, .int .i64 d, .slice (some ⟨g, 0, none⟩) zs.length zs.length]) ∧ w'.rowIs g 3 zs.length (fun i => .int .i64 (nth zs i)) ∧ w.heap.size ≤ g ∧ Below w.heap.size w w' := by
  have H := Lib.hid h
  clear h
  go_enter Try.func36, Try.ntmps36
  go_wp2_with (first | (go_at_call 87; refine (toVote_exact _ _ _ _).mono ?_; rintro e w' ⟨rfl, rfl⟩))
  refine (toIntS_exact _ _ _ _ (H.out.carry ?_) hn).mono ?_
  · exact ((((((Below.refl _ _).alloc (by simp) _).alloc (by simp) _).alloc (by simp; omega) _).alloc (by simp; omega) _).alloc (by simp; omega) _).alloc (by simp; omega) _
  rintro e w' ⟨rfl, rfl⟩
  go_wp2_with fail
  exact bodyPost_ret (v := .agg #[.int .i64 r, .int .i64 a, .int .i64 d, .slice (some ⟨w.heap.size + 6, 0, none⟩) zs.length zs.length]) (by simp [results, Try.results36, go_sem]) rfl ⟨_, rfl, rowIs_at _ zs (by simp), by omega, (((((((Below.refl _ _).alloc (by simp) _).alloc (by simp) _).alloc (by simp; omega) _).alloc (by simp; omega) _).alloc (by simp; omega) _).alloc (by simp; omega) _).alloc (by simp; omega) _⟩
set_option maxHeartbeats 4000000 in
theorem toCert_any (d s : Int) (A : Option Addr) (c : Nat) (zs : List Int) (w : World) (h : Ints w w.heap.size A zs) (hn : zs.length ≤ 1048576) :
    Calls Try.prog 42 #[.agg #[.int .i64 d, .slice A zs.length c, .int .i64 s]] w fun e w' => ∃ g : Nat, e = .returned (.agg #[.int .i64 d, .slice (some ⟨g, 0, none⟩) zs.length zs.length, .int .i64 s]) ∧ w'.rowIs g 3 zs.length (fun i => .int .i64 (nth zs i)) ∧ w.heap.size ≤ g ∧ Below w.heap.size w w' := by
  have H := Lib.hid h
  clear h
  go_enter Try.func42, Try.ntmps42
  go_wp2_with (first | fail)
  refine (toIntS_exact _ _ _ _ (H.out.carry ?_) hn).mono ?_
  · exact (((Below.refl _ _).alloc (by simp) _).alloc (by simp) _).alloc (by simp; omega) _
  rintro e w' ⟨rfl, rfl⟩
  go_wp2_with fail
  exact bodyPost_ret (v := .agg #[.int .i64 d, .slice (some ⟨w.heap.size + 3, 0, none⟩) zs.length zs.length, .int .i64 s]) (by simp [results, Try.results42, go_sem]) rfl ⟨_, rfl, rowIs_at _ zs (by simp), by omega, ((((Below.refl _ _).alloc (by simp) _).alloc (by simp) _).alloc (by simp; omega) _).alloc (by simp; omega) _⟩
end Go.Proofs.Ytohnodphlaoohaa
