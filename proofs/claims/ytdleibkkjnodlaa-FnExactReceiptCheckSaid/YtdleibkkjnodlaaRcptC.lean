/- ReceiptCheck of the program and of the reference. -/
import Derived.Test.YtdleibkkjnodlaaMerkD
import Derived.Test.YtdleibkkjnodlaaMerkS
import Derived.Test.YtdleibkkjnodlaaReg
namespace Go.Proofs.Ytdleibkkjnodlaa
open Go.RowKit
set_option linter.unusedVariables false

theorem i_MerkleCheck (root size i leaf : Int) (A : Option Addr) (c : Nat) (ps : List Int) (w : World) (h : Ints w w.heap.size A ps) (hn : ps.length ≤ 1048576) :
    Calls Try.prog 44 #[.int .i64 root, .int .i64 size, .int .i64 i, .int .i64 leaf, .slice A ps.length c] w fun e w' => e = .returned (.bool (checkB root size i leaf ps)) ∧ Below w.heap.size w w' := by
  rcases hb : (inB size 1 16 && (inB i 0 (size - 1) && digB leaf)) with _ | _
  · rw [show checkB root size i leaf ps = false by
      unfold checkB
      rcases h1 : inB size 1 16 with _ | _
      · rfl
      · rcases h2 : inB i 0 (size - 1) with _ | _
        · rfl
        · rw [h1, h2] at hb; simp at hb; simp [hb]]
    exact i_MerkleCheck_no root size i leaf A c ps w hb
  · simp only [Bool.and_eq_true] at hb
    obtain ⟨h1, h2, h3⟩ := hb
    rcases hd : digsB ps with _ | _
    · rw [show checkB root size i leaf ps = false by
        have hex : ∃ j, j < ps.length ∧ digB (nth ps j) = false := Classical.byContradiction fun hn => by
          have : digsB ps = true := allTo_iff.2 fun j hj => by
            rcases hj2 : digB (nth ps j) with _ | _
            · exact absurd ⟨j, hj, hj2⟩ hn
            · rfl
          rw [hd] at this; cases this
        obtain ⟨j, hj, hj2⟩ := hex
        have := mck_bad (root := root) size.toNat size.toNat i.toNat leaf ps (nth ps j) (by rw [nth_eq hj]; exact List.getElem_mem hj) hj2
        simp [checkB, this]]
      exact i_MerkleCheck_bad root size i leaf A c ps w h hn h1 h2 h3 hd
    · exact i_MerkleCheck_ok root size i leaf A c ps w h hn h1 h2 h3 hd
def rcheckB (root size i : Int) (b : Bool) (d : Int) (ps : List Int) : Bool := rcptB i d && checkB root size i (rcptD i b d) ps
set_option maxHeartbeats 4000000 in
theorem s_ReceiptCheck (root size i : Int) (b : Bool) (d : Int) (A : Option Addr) (c : Nat) (ps : List Int) (w : World) (h : Ints w w.heap.size A ps) (hn : ps.length ≤ 1048576) (hc : ps.length ≤ c) (hc9 : c ≤ 9223372036854775807) :
    Calls Try.prog 12 #[.int .i64 root, .int .i64 size, .agg #[.int .i64 i, .bool b, .int .i64 d], .slice A ps.length c] w fun e w' => e = .returned (.bool (rcheckB root size i b d ps)) ∧ Below w.heap.size w w' := by
  have BX := Lib.hid (Box.new w #[.int .i64 i, .bool b, .int .i64 d] 26)
  have BB := Lib.hid (allocB w (.cells #[.int .i64 i, .bool b, .int .i64 d] 26))
  have HP := Lib.hid (h.carry BB.out)
  clear h
  rcases h1 : rcptB i d with _ | _
  all_goals
    have H1 := Lib.hid h1
    clear h1
    go_enter Try.func12, Try.ntmps12
    go_wp2_with fail
    generalize w.alloc (.cells #[.int .i64 i, .bool b, .int .i64 d] 26) = W0 at *
    have g0 := fun p : GrowOf W0 => GrowOf.cell (BX.out.cell (j := 0) (u := .int .i64 i) rfl) p
    have g1 := fun p : GrowOf W0 => GrowOf.cell (BX.out.cell (j := 1) (u := .bool b) rfl) p
    have g2 := fun p : GrowOf W0 => GrowOf.cell (BX.out.cell (j := 2) (u := .int .i64 d) rfl) p
  · have V1 : Hid (∀ p : GrowOf W0, Calls Try.prog 40 #[.agg #[.int .i64 i, .bool b, .int .i64 d]] p.W fun e w' => e = .returned (.bool false) ∧ Below p.W.heap.size p.W w') := Lib.hid (fun p => by
      have h := s_l33Receipt i b d p.W
      rw [H1.out] at h; exact h)
    refine wp_region_grow (by kernel_rfl) (by kernel_rfl) ?_
    repeat (go_big_quiet_step (first | (go_at_call 40; with_reducible exact grow_below (V1.out _))))
    refine wpQuiet_nil ?_
    rintro _ ⟨pq, rfl⟩
    have HQ := Lib.hid pq.h
    clear g0 g1 g2
    go_wp2_with fail
    go_ret
    exact ⟨ret_bool (by simp [rcheckB, H1.out]), next BB.out HQ.out⟩
  · have V1 : Hid (∀ p : GrowOf W0, Calls Try.prog 40 #[.agg #[.int .i64 i, .bool b, .int .i64 d]] p.W fun e w' => e = .returned (.bool true) ∧ Below p.W.heap.size p.W w') := Lib.hid (fun p => by
      have h := s_l33Receipt i b d p.W
      rw [H1.out] at h; exact h)
    have D1 : Hid (∀ p : GrowOf W0, Calls Try.prog 42 #[.agg #[.int .i64 i, .bool b, .int .i64 d]] p.W fun e w' => e = .returned (.int .i64 (rcptD i b d)) ∧ Below p.W.heap.size p.W w') := Lib.hid (fun p => s_ReceiptDigest i b d p.W)
    have M1 : Hid (∀ p : GrowOf W0, Calls Try.prog 41 #[.int .i64 root, .int .i64 size, .int .i64 i, .int .i64 (rcptD i b d), .slice A ps.length c] p.W fun e w' => e = .returned (.bool (checkB root size i (rcptD i b d) ps)) ∧ p.W = w') := Lib.hid (fun p => s_MerkleCheck root size i (rcptD i b d) A c ps p.W (GrowOf.ints HP.out p) hn hc hc9)
    refine wp_region_grow (by kernel_rfl) (by kernel_rfl) ?_
    repeat (go_big_quiet_step (first | (go_at_call 40; with_reducible exact grow_below (V1.out _)) | (go_at_call 42; with_reducible exact grow_below (D1.out _)) | (go_at_call 41; with_reducible exact grow_same (M1.out _))))
    refine wpQuiet_nil ?_
    rintro _ ⟨pq, rfl⟩
    have HQ := Lib.hid pq.h
    clear g0 g1 g2
    go_wp2_with fail
    go_ret
    exact ⟨ret_bool (by simp [rcheckB, H1.out]), next BB.out HQ.out⟩
set_option maxHeartbeats 4000000 in
theorem i_ReceiptCheck (root size i : Int) (b : Bool) (d : Int) (A : Option Addr) (c : Nat) (ps : List Int) (w : World) (h : Ints w w.heap.size A ps) (hn : ps.length ≤ 1048576) (hc : ps.length ≤ c) (hc9 : c ≤ 9223372036854775807) :
    Calls Try.prog 15 #[.int .i64 root, .int .i64 size, .agg #[.int .i64 i, .bool b, .int .i64 d], .slice A ps.length c] w fun e w' => e = .returned (.bool (rcheckB root size i b d ps)) ∧ Below w.heap.size w w' := by
  have BX := Lib.hid (Box.new w #[.int .i64 i, .bool b, .int .i64 d] 26)
  have BB := Lib.hid (allocB w (.cells #[.int .i64 i, .bool b, .int .i64 d] 26))
  have HP := Lib.hid (h.carry BB.out)
  clear h
  rcases h1 : rcptB i d with _ | _
  all_goals
    have H1 := Lib.hid h1
    clear h1
    go_enter Try.func15, Try.ntmps15
    go_wp2_with fail
    generalize w.alloc (.cells #[.int .i64 i, .bool b, .int .i64 d] 26) = W0 at *
    have g0 := fun p : GrowOf W0 => GrowOf.cell (BX.out.cell (j := 0) (u := .int .i64 i) rfl) p
    have g1 := fun p : GrowOf W0 => GrowOf.cell (BX.out.cell (j := 1) (u := .bool b) rfl) p
    have g2 := fun p : GrowOf W0 => GrowOf.cell (BX.out.cell (j := 2) (u := .int .i64 d) rfl) p
  · have V1 : Hid (∀ p : GrowOf W0, Calls Try.prog 43 #[.agg #[.int .i64 i, .bool b, .int .i64 d]] p.W fun e w' => e = .returned (.bool false) ∧ Below p.W.heap.size p.W w') := Lib.hid (fun p => by
      have h := i_rcptValid i b d p.W
      rw [H1.out] at h; exact h)
    refine wp_region_grow (by kernel_rfl) (by kernel_rfl) ?_
    repeat (go_big_quiet_step (first | (go_at_call 43; with_reducible exact grow_below (V1.out _))))
    refine wpQuiet_nil ?_
    rintro _ ⟨pq, rfl⟩
    have HQ := Lib.hid pq.h
    clear g0 g1 g2
    go_wp2_with fail
    go_ret
    exact ⟨ret_bool (by simp [rcheckB, H1.out]), next BB.out HQ.out⟩
  · have V1 : Hid (∀ p : GrowOf W0, Calls Try.prog 43 #[.agg #[.int .i64 i, .bool b, .int .i64 d]] p.W fun e w' => e = .returned (.bool true) ∧ Below p.W.heap.size p.W w') := Lib.hid (fun p => by
      have h := i_rcptValid i b d p.W
      rw [H1.out] at h; exact h)
    have D1 : Hid (∀ p : GrowOf W0, Calls Try.prog 34 #[.agg #[.int .i64 i, .bool b, .int .i64 d]] p.W fun e w' => e = .returned (.int .i64 (rcptD i b d)) ∧ Below p.W.heap.size p.W w') := Lib.hid (fun p => i_ReceiptDigest i b d p.W)
    have M1 : Hid (∀ p : GrowOf W0, Calls Try.prog 44 #[.int .i64 root, .int .i64 size, .int .i64 i, .int .i64 (rcptD i b d), .slice A ps.length c] p.W fun e w' => e = .returned (.bool (checkB root size i (rcptD i b d) ps)) ∧ Below p.W.heap.size p.W w') := Lib.hid (fun p => i_MerkleCheck root size i (rcptD i b d) A c ps p.W (GrowOf.ints HP.out p) hn)
    refine wp_region_grow (by kernel_rfl) (by kernel_rfl) ?_
    repeat (go_big_quiet_step (first | (go_at_call 43; with_reducible exact grow_below (V1.out _)) | (go_at_call 34; with_reducible exact grow_below (D1.out _)) | (go_at_call 44; with_reducible exact grow_below (M1.out _))))
    refine wpQuiet_nil ?_
    rintro _ ⟨pq, rfl⟩
    have HQ := Lib.hid pq.h
    clear g0 g1 g2
    go_wp2_with fail
    go_ret
    exact ⟨ret_bool (by simp [rcheckB, H1.out]), next BB.out HQ.out⟩
end Go.Proofs.Ytdleibkkjnodlaa
