/- Voters: the votes kept from a round on; comparing two voters that are one. -/
import Derived.Test.YtohnodphlaoohaaForgetVoter
import Derived.Test.YtohnodphlaoohaaVoterV
namespace Go.Proofs.Ytohnodphlaoohaa
open Go.RowKit
set_option linter.unusedVariables false

section
variable {f n m : Int} {bs : List VVote}
theorem keptVote_filter : keptVote n bs = bs.filter (fun x => decide (n ≤ x.r)) := by
  have h : ∀ k, k ≤ bs.length → keptVoteTo n bs k = (bs.take k).filter (fun x => decide (n ≤ x.r)) := by
    intro k
    induction k with
    | zero => intro _; simp [keptVoteTo]
    | succ k ih =>
      intro hk
      have hlt : k < bs.length := hk
      rw [List.take_succ_eq_append_getElem hlt, List.filter_append, ← ih (by omega)]
      by_cases e : n ≤ (nthVote bs k).r
      · rw [keptVoteTo_yes e]; rw [nthVote_eq hlt] at e ⊢; simp [e]
      · rw [keptVoteTo_no e]; rw [nthVote_eq hlt] at e; simp [e]
  unfold keptVote; rw [h _ (Nat.le_refl _), List.take_length]
theorem keptVote_kept (h : n ≤ m) : keptVote m (keptVote n bs) = keptVote m bs := by
  rw [keptVote_filter, keptVote_filter, keptVote_filter, List.filter_filter]
  congr 1
  funext x
  by_cases e : m ≤ x.r
  · simp [e]; omega
  · simp [e]
theorem befB_trans {x y z : VVote} (h : befB x y = true) (k : befB y z = true) : befB x z = true := by
  simp only [befB, decide_eq_true_eq] at *; omega
/-- A valid voter. -/
def GoodV (f : Int) (bs : List VVote) : Prop := (0 ≤ f ∧ f ≤ 31) ∧ bs.length ≤ 40 ∧ bs.Pairwise (fun x y => befB x y = true) ∧ ∀ x ∈ bs, vB x = true ∧ f ≤ x.r
theorem vtOk_iff {j : Nat} : vtOk f bs j = true ↔ vB (nthVote bs j) = true ∧ f ≤ (nthVote bs j).r ∧ (0 < j → befB (nthVote bs (j - 1)) (nthVote bs j) = true) := by
  simp only [vtOk, Bool.and_eq_true, decide_eq_true_eq, Bool.not_eq_true', Bool.and_eq_false_iff, decide_eq_false_iff_not, Bool.not_eq_false']
  constructor
  · rintro ⟨a, b, c⟩
    exact ⟨a, b, fun h => by rcases c with c | c; exact absurd h c; exact c⟩
  · rintro ⟨a, b, c⟩
    exact ⟨a, b, by by_cases h : 0 < j; exact .inr (c h); exact .inl h⟩
theorem voter_good (h : voterB f bs = true) : GoodV f bs := by
  simp only [voterB, Bool.and_eq_true, allTo_iff, inB_iff, decide_eq_true_eq] at h
  obtain ⟨hj, hf, hl⟩ := h
  refine ⟨hf, hl, ?_, fun x hx => ?_⟩
  · rw [List.pairwise_iff_getElem]
    intro i j hi hjl hij
    have : ∀ d i, (h : i + d + 1 < bs.length) → befB (bs[i]) (bs[i + d + 1]) = true := by
      intro d
      induction d with
      | zero =>
        intro i h
        have := (vtOk_iff.1 (hj (i + 1) h)).2.2 (by omega)
        rw [show i + 1 - 1 = i by omega, nthVote_eq (by omega), nthVote_eq h] at this
        exact this
      | succ d ih =>
        intro i h
        have h1 := ih i (by omega)
        have h2 := (vtOk_iff.1 (hj (i + d + 1 + 1) h)).2.2 (by omega)
        have e1 : i + d + 1 + 1 - 1 = i + d + 1 := by omega
        have e2 : nthVote bs (i + d + 1) = bs[i + d + 1] := nthVote_eq (by omega)
        have e3 : nthVote bs (i + d + 1 + 1) = bs[i + d + 1 + 1] := nthVote_eq h
        rw [e1, e2, e3] at h2
        exact befB_trans h1 h2
    have := this (j - i - 1) i (by omega)
    simpa [show i + (j - i - 1) + 1 = j by omega] using this
  · obtain ⟨j, hlt, rfl⟩ := List.getElem_of_mem hx
    have := vtOk_iff.1 (hj j hlt)
    rw [nthVote_eq hlt] at this
    exact ⟨this.1, this.2.1⟩
theorem good_voter (h : GoodV f bs) : voterB f bs = true := by
  obtain ⟨hf, hl, hp, hx⟩ := h
  simp only [voterB, Bool.and_eq_true, allTo_iff, inB_iff, decide_eq_true_eq]
  refine ⟨fun j hj => vtOk_iff.2 ?_, hf, hl⟩
  have := hx _ (List.getElem_mem hj)
  rw [nthVote_eq hj]
  refine ⟨this.1, this.2, fun h0 => ?_⟩
  rw [nthVote_eq (by omega)]
  exact List.pairwise_iff_getElem.1 hp (j - 1) j (by omega) hj (by omega)
theorem GoodV.kept (h : GoodV f bs) (h0 : f ≤ n) (h1 : n ≤ 31) : GoodV n (keptVote n bs) := by
  obtain ⟨hf, hl, hp, hx⟩ := h
  rw [keptVote_filter]
  refine ⟨by omega, Nat.le_trans (List.length_filter_le _ _) hl, hp.filter _, fun x hm => ?_⟩
  obtain ⟨h2, h3⟩ := List.mem_filter.1 hm
  exact ⟨(hx x h2).1, by simpa using h3⟩
theorem forgetVote_ok (h : forgetVote f bs n = true) : voterB f bs = true ∧ f ≤ n ∧ n ≤ 31 := by
  simp only [forgetVote, Bool.and_eq_true, inB_iff] at h; exact ⟨h.1, h.2.1, h.2.2⟩
end
set_option maxHeartbeats 4000000 in
theorem sameVoter_same (f : Int) (A A' : Option Addr) (c c' : Nat) (bs : List VVote) (w : World) (h : LstVote w w.heap.size A bs) (h' : LstVote w w.heap.size A' bs) (hn : bs.length ≤ 1048576) :
    Calls Try.prog 34 #[.agg #[.int .i64 f, .slice A bs.length c], .agg #[.int .i64 f, .slice A' bs.length c']] w fun e w' => e = .returned (.bool true) ∧ Below w.heap.size w w' := by
  have hff : (f != f) = false := by simp
  have hl' : ((bs.length : Int) != (bs.length : Int)) = false := by simp
  have XB := Lib.hid ((Box.new w #[.int .i64 f, .slice A bs.length c] 50).carry (allocB _ (.cells #[.int .i64 f, .slice A' bs.length c'] 50)))
  have YB := Lib.hid (show Box ((w.alloc (.cells #[.int .i64 f, .slice A bs.length c] 50)).alloc (.cells #[.int .i64 f, .slice A' bs.length c'] 50)) (w.heap.size + 1) 50 #[.int .i64 f, .slice A' bs.length c'] from by
    have := Box.new (w.alloc (.cells #[.int .i64 f, .slice A bs.length c] 50)) #[.int .i64 f, .slice A' bs.length c'] 50
    simpa using this)
  have H := Lib.hid h
  have H' := Lib.hid h'
  clear h h'
  go_enter Try.func34, Try.ntmps34
  go_wp2_with fail
  go_loopw [5] (fun i wr => ∃ k : Nat, k ≤ bs.length ∧ i = .int .i64 k ∧ Box wr w.heap.size 50 #[.int .i64 f, .slice A bs.length c] ∧ Box wr (w.heap.size + 1) 50 #[.int .i64 f, .slice A' bs.length c'] ∧ Below w.heap.size w wr) (fun i _ => bs.length - (intOf i).toNat)
  case atStart => exact ⟨0, Nat.zero_le _, rfl, XB.out, YB.out, allocB2 w _ _⟩
  case round =>
    obtain ⟨k, hk, rfl, hx, hy, hbel⟩ := hrel
    have p1 := hx.cell (j := 1) (u := .slice A bs.length c) rfl
    have q1 := hy.cell (j := 1) (u := .slice A' bs.length c') rfl
    have HX := Lib.hid hx
    have HY := Lib.hid hy
    have HB := Lib.hid hbel
    clear XB YB
    by_cases hlt : k < bs.length
    · have hd : decide (k < bs.length) = true := by simpa using hlt
      obtain ⟨b, off, rfl, hbb, hc⟩ := (H.out.below hbel).at_ hlt
      obtain ⟨b', off', rfl, hbb', hc'⟩ := (H'.out.below hbel).at_ hlt
      obtain ⟨x, hx⟩ : ∃ x, x = nthVote bs k := ⟨_, rfl⟩
      obtain ⟨x0, x1, x2⟩ := hc k hlt
      obtain ⟨y0, y1, y2⟩ := hc' k hlt
      rw [← hx] at x0 x1 x2 y0 y1 y2
      have hi0 : (0 : Int) ≤ (k : Int) := by omega
      have hi1 : (k : Int) < (bs.length : Int) := by omega
      clear hx hbel hc hc' hy
      go_wp2_with fail
      go_quiet (fail)
      go_wp2_with fail
      go_roundw
      case rel => exact ⟨k + 1, by omega, by go_num, HX.out, HY.out, below_drewN HB.out _⟩
      case measure => simp [intOf]; omega
    · have hd : decide (k < bs.length) = false := by simpa using hlt
      clear hx hy hbel
      go_wp2_with fail
      go_ret
      exact ⟨rfl, HB.out⟩
end Go.Proofs.Ytohnodphlaoohaa
