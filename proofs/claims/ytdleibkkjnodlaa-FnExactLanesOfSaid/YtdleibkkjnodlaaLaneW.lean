/- What the laws on lanes want: labels exist; the comparison of lists of lists. -/
import Derived.Test.YtdleibkkjnodlaaLaneL
import Derived.Test.YtdleibkkjnodlaaDrawT
import Derived.Test.YtdleibkkjnodlaaArgs
namespace Go.Proofs.Ytdleibkkjnodlaa
open Go.RowKit
set_option linter.unusedVariables false

theorem least_conn (E : Nat → Nat → Prop) (v : Nat) : ∃ m, Conn E v m ∧ ∀ b, Conn E v b → m ≤ b := by
  have : ∀ k b, b ≤ k → Conn E v b → ∃ m, Conn E v m ∧ ∀ b, Conn E v b → m ≤ b := by
    intro k
    induction k with
    | zero => intro b hb hc; exact ⟨b, hc, fun _ _ => by omega⟩
    | succ k ih =>
      intro b hb hc
      by_cases hs : ∃ b', b' ≤ k ∧ Conn E v b'
      · obtain ⟨b', h1, h2⟩ := hs; exact ih b' h1 h2
      · exact ⟨b, hc, fun b' hb' => Classical.byContradiction fun hlt => hs ⟨b', by omega, hb'⟩⟩
  exact this v v (Nat.le_refl _) (Conn.refl E v)
theorem lab_exists {E : Nat → Nat → Prop} {n : Nat} (hG : Graph E n) : ∃ L, IsLab E n L := by
  obtain ⟨L, hL⟩ := Classical.axiomOfChoice (fun v => least_conn E v)
  refine ⟨L, fun a _ => (hL a).2 a (Conn.refl E a), fun a _ => (hL a).1, fun a b e => ?_⟩
  have h1 := (hL a).2 (L b) ((Conn.edge e).trans (hL b).1)
  have h2 := (hL b).2 (L a) ((Conn.edge (hG.symm _ _ e)).trans (hL a).1)
  omega
theorem lanesT_lab (bs : List VTxn) : ∃ L, IsLab (edgeT bs) bs.length L ∧ lanesT bs = groupsTo L bs.length bs.length := by
  obtain ⟨L, h⟩ := lab_exists (edge_graph bs)
  exact ⟨L, h, (lanesT_is h).symm⟩
theorem lanesZ_lab {bs : List VTxn} (h : 0 < (lanesZ bs).length) : ∃ L, IsLab (edgeT bs) bs.length L ∧ lanesZ bs = groupsTo L bs.length bs.length := by
  unfold lanesZ at h ⊢
  split at h
  · rename_i hv; rw [if_pos hv]; exact lanesT_lab bs
  · simp at h
theorem lanesZ_len {bs : List VTxn} (hn : bs.length ≤ 1048576) : (lanesZ bs).length ≤ 1048576 := by
  unfold lanesZ
  split
  · exact Nat.le_trans lanesT_len hn
  · simp
theorem lanesZ_one {bs : List VTxn} {i : Nat} (h : i < (lanesZ bs).length) : (nthL (lanesZ bs) i).length ≤ bs.length := by
  unfold lanesZ at h ⊢
  split at h
  · rename_i hv; rw [if_pos hv]; exact lanesT_one h
  · simp at h
set_option maxHeartbeats 2000000 in
theorem sameInts_eq (A A' : Option Addr) (c c' : Nat) (zs : List Int) (w : World) (B : Nat) (h : Ints w B A zs) (h' : Ints w B A' zs) (hn : zs.length ≤ 1048576) :
    Calls Try.prog 53 #[.slice A zs.length c, .slice A' zs.length c'] w fun e w' => e = .returned (.bool true) ∧ Quiet w w' := by
  have hl' : ((zs.length : Int) != (zs.length : Int)) = false := by simp
  go_enter Try.func53, Try.ntmps53
  go_wp2
  go_loopw [5] (fun i wr => ∃ k : Nat, k ≤ zs.length ∧ i = .int .i64 k ∧ Quiet w wr) (fun i _ => zs.length - (intOf i).toNat)
  case atStart => exact ⟨0, Nat.zero_le _, rfl, Quiet.refl _⟩
  case round =>
    obtain ⟨k, hk, rfl, hq⟩ := hrel
    by_cases hlt : k < zs.length
    · obtain ⟨b, off, rfl, hbb, hc⟩ := (h.quiet hq).at_ hlt
      obtain ⟨b', off', rfl, hbb', hc'⟩ := (h'.quiet hq).at_ hlt
      have hck := hc k hlt
      have hck' := hc' k hlt
      have hi0 : (0 : Int) ≤ (k : Int) := by omega
      have hi1 : (k : Int) < (zs.length : Int) := by omega
      have hv : (nth zs k != nth zs k) = false := by simp
      have HQ := Lib.hid hq
      clear hc hc' h h' hq
      go_wp2
      go_quiet (fail)
      go_wp2
      go_roundw
      case rel => exact ⟨k + 1, by omega, by go_num, HQ.out.trans ⟨_, rfl⟩⟩
      case measure => simp [intOf]; omega
    · have HQ := Lib.hid hq
      clear h h' hq
      go_wp2
      go_ret
      exact ⟨rfl, HQ.out⟩
set_option maxHeartbeats 4000000 in
theorem sameLanes_eq (A A' : Option Addr) (c c' : Nat) (ls : List (List Int)) (w : World) (h : LLs w w.heap.size A ls) (h' : LLs w w.heap.size A' ls) (hn : ls.length ≤ 1048576) (hm : ∀ i, i < ls.length → (nthL ls i).length ≤ 1048576) :
    Calls Try.prog 26 #[.slice A ls.length c, .slice A' ls.length c'] w fun e w' => e = .returned (.bool true) ∧ Quiet w w' := by
  have hl' : ((ls.length : Int) != (ls.length : Int)) = false := by simp
  have H := Lib.hid h
  have H' := Lib.hid h'
  have HM := Lib.hid hm
  clear h h' hm
  go_enter Try.func26, Try.ntmps26
  go_wp2_with fail
  go_loopw [5] (fun i wr => ∃ k : Nat, k ≤ ls.length ∧ i = .int .i64 k ∧ Quiet w wr) (fun i _ => ls.length - (intOf i).toNat)
  case atStart => exact ⟨0, Nat.zero_le _, rfl, Quiet.refl _⟩
  case round =>
    obtain ⟨k, hk, rfl, hq⟩ := hrel
    have HQ := Lib.hid hq
    by_cases hlt : k < ls.length
    · obtain ⟨b, off, rfl, hbb, hc⟩ := (H.out.quiet hq).at_ hlt
      obtain ⟨b', off', rfl, hbb', hc'⟩ := (H'.out.quiet hq).at_ hlt
      obtain ⟨A1, c1, k1, i1, hc1⟩ := hc k hlt
      obtain ⟨A2, c2, k2, i2, hc2⟩ := hc' k hlt
      have hi0 : (0 : Int) ≤ (k : Int) := by omega
      have hi1 : (k : Int) < (ls.length : Int) := by omega
      have CQ : Hid (∀ m : Nat, Calls Try.prog 53 #[.slice A1 (nthL ls k).length c1, .slice A2 (nthL ls k).length c2] (wr.drewN m) fun e w'' => e = .returned (.bool true) ∧ ∃ j, w'' = wr.drewN j) := Lib.hid (fun m => quiet_more (sameInts_eq A1 A2 c1 c2 (nthL ls k) (wr.drewN m) w.heap.size i1 i2 (HM.out k hlt)))
      clear hc hc' hq
      go_wp2_with fail
      go_quiet ((go_at_call 53; exact CQ.out _))
      go_wp2_with fail
      go_roundw
      case rel => exact ⟨k + 1, by omega, by go_num, HQ.out.trans ⟨_, rfl⟩⟩
      case measure => simp [intOf]; omega
    · clear hq
      go_wp2_with fail
      go_ret
      exact ⟨rfl, HQ.out⟩
end Go.Proofs.Ytdleibkkjnodlaa
