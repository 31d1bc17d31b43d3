/- Proofs in trees of digests: the program's MerkleCheck by its contract. -/
import Derived.Test.YtdleibkkjnodlaaMerkI
import Derived.Test.YtdleibkkjnodlaaReg
namespace Go.Proofs.Ytdleibkkjnodlaa
open Go.RowKit Go.Shelf
set_option linter.unusedVariables false
attribute [local go_sem] Oper.semAt_some

theorem xor_one {k : Nat} (h : k < 16) : bits .xor .i64 (k : Int) 1 = ((sib k : Nat) : Int) := by
  have : ∀ j : Fin 16, bits .xor .i64 ((j.val : Nat) : Int) 1 = ((sib j.val : Nat) : Int) := by decide +kernel
  exact this ⟨k, h⟩
set_option maxHeartbeats 1000000 in
theorem i_widths (s : Int) (w : World) :
    Calls Try.prog 70 #[.int .i64 s] w fun e w' => e = .returned (.func (.func 82) #[] #[.pointer (some ⟨w.heap.size, 0, none⟩)]) ∧ w.alloc (.cells #[.int .i64 s] 3) = w' := by
  go_enter Try.func70, Try.ntmps70
  go_wp2
  go_ret
  exact ⟨rfl, rfl⟩
set_option maxHeartbeats 4000000 in
theorem i_MerkleCheck_no (root size i leaf : Int) (A : Option Addr) (c : Nat) (ps : List Int) (w : World) (hb : (inB size 1 16 && (inB i 0 (size - 1) && digB leaf)) = false) :
    Calls Try.prog 44 #[.int .i64 root, .int .i64 size, .int .i64 i, .int .i64 leaf, .slice A ps.length c] w fun e w' => e = .returned (.bool false) ∧ Below w.heap.size w w' := by
  have B1 := Lib.hid (allocB3 w (.cells #[.int .i64 i] 3) (.cells #[.slice A ps.length c] 24) (.cells #[.bool false] 4))
  by_cases h1 : 1 ≤ size
  · by_cases h16 : size ≤ 16
    · by_cases h0 : 0 ≤ i
      · by_cases hi : i < size
        · have hd : digB leaf = false := by
            rw [inB_iff.2 ⟨h1, h16⟩, inB_iff.2 (show 0 ≤ i ∧ i ≤ size - 1 by omega)] at hb
            simpa using hb
          clear hb
          go_enter Try.func44, Try.ntmps44
          go_wp2_with fail
          refine (i_isDigest _ _).mono ?_
          rw [hd]
          rintro e w' ⟨rfl, rfl⟩
          go_wp2_with fail
          exact bodyPost_ret (v := .bool false) (by simp [results, Try.results44, go_sem]) rfl ⟨rfl, B1.out⟩
        · clear hb
          go_enter Try.func44, Try.ntmps44
          go_wp2_with fail
          exact bodyPost_ret (v := .bool false) (by simp [results, Try.results44, go_sem]) rfl ⟨rfl, B1.out⟩
      · clear hb
        go_enter Try.func44, Try.ntmps44
        go_wp2_with fail
        exact bodyPost_ret (v := .bool false) (by simp [results, Try.results44, go_sem]) rfl ⟨rfl, B1.out⟩
    · clear hb
      go_enter Try.func44, Try.ntmps44
      go_wp2_with fail
      exact bodyPost_ret (v := .bool false) (by simp [results, Try.results44, go_sem]) rfl ⟨rfl, B1.out⟩
  · clear hb
    go_enter Try.func44, Try.ntmps44
    go_wp2_with fail
    exact bodyPost_ret (v := .bool false) (by simp [results, Try.results44, go_sem]) rfl ⟨rfl, B1.out⟩
set_option maxHeartbeats 4000000 in
theorem i_MerkleCheck_bad (root size i leaf : Int) (A : Option Addr) (c : Nat) (ps : List Int) (w : World) (h : Ints w w.heap.size A ps) (hn : ps.length ≤ 1048576) (h1 : inB size 1 16 = true) (h2 : inB i 0 (size - 1) = true) (h3 : digB leaf = true) (hb : digsB ps = false) :
    Calls Try.prog 44 #[.int .i64 root, .int .i64 size, .int .i64 i, .int .i64 leaf, .slice A ps.length c] w fun e w' => e = .returned (.bool false) ∧ Below w.heap.size w w' := by
  have B1 := Lib.hid (allocB3 w (.cells #[.int .i64 i] 3) (.cells #[.slice A ps.length c] 24) (.cells #[.bool false] 4))
  have H := Lib.hid (h.below (B1.out))
  have g1 := inB_iff.1 h1
  have g2 := inB_iff.1 h2
  have HB := Lib.hid hb
  clear h hb h1 h2
  go_enter Try.func44, Try.ntmps44
  go_wp2_with fail
  refine (i_isDigest _ _).mono ?_
  rw [h3]
  rintro e w' ⟨rfl, rfl⟩
  clear h3
  go_wp2_with fail
  go_loop [38] (fun j => ∃ k : Nat, k ≤ ps.length ∧ j = .int .i64 k ∧ ∀ i, i < k → digB (nth ps i) = true) (fun j => ps.length - (intOf j).toNat)
  case atStart => exact ⟨0, Nat.zero_le _, rfl, fun i hi => absurd hi (by omega)⟩
  case round =>
    obtain ⟨k, hk, rfl, hs⟩ := hrel
    have HS := Lib.hid hs
    clear hs
    by_cases hlt : k < ps.length
    · obtain ⟨b, off, rfl, hbb, hc⟩ := H.out.at_ hlt
      have hck := hc k hlt
      clear hc
      rcases hd : digB (nth ps k) with _ | _
      · go_wp2_with fail
        refine (i_isDigest _ _).mono ?_
        rw [hd]
        rintro e w' ⟨rfl, rfl⟩
        go_wp2_with fail
        exact bodyPost_ret (v := .bool false) (by simp [results, Try.results44, go_sem]) rfl ⟨rfl, B1.out⟩
      · go_wp2_with fail
        refine (i_isDigest _ _).mono ?_
        rw [hd]
        rintro e w' ⟨rfl, rfl⟩
        have HD := Lib.hid hd
        clear hd
        go_wp2_with fail
        go_round
        case rel => exact ⟨k + 1, by omega, by go_num, fun i hi => by
          by_cases e : i = k
          · subst e; exact HD.out
          · exact HS.out i (by omega)⟩
        case measure => simp [intOf]; omega
    · exfalso
      have e : k = ps.length := by omega
      subst e
      have := allTo_iff.2 HS.out
      exact absurd (HB.out.symm.trans this) (by simp)
end Go.Proofs.Ytdleibkkjnodlaa
