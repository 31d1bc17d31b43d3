/- Marking the lanes of a list of lists, and asking whether they still hold the marks. -/
import Derived.Test.YtdleibkkjnodlaaMark
import Derived.Test.YtdleibkkjnodlaaLanesM
import Derived.Test.YtdleibkkjnodlaaArgS
namespace Go.Proofs.Ytdleibkkjnodlaa
open Go.RowKit
set_option linter.unusedVariables false

/-- From i on the lanes may be written; before i they hold the marks. -/
structure MarkAt (w0 w : World) (base h : Nat) (xs : List LaneV) (k : Int) (i : Nat) : Prop where
  cells : ∀ j (hj : j < xs.length), w.cell? ⟨h, j, none⟩ = some (xs[j]).val
  wr : ∀ j (hj : j < xs.length), i ≤ j → Wr w (xs[j]).g (xs[j]).zs.length
  held : ∀ j (hj : j < xs.length), j < i → Marks w (xs[j]).g (xs[j]).zs.length (k + sumLen (xs.map LaneV.zs) j)
  below : Below base w0 w
  ne : ∀ j (hj : j < xs.length), h ≠ (xs[j]).g
  nd : ∀ i j (hi : i < xs.length) (hj : j < xs.length), i ≠ j → (xs[i]).g ≠ (xs[j]).g
  ge : ∀ j (hj : j < xs.length), base ≤ (xs[j]).g
  bs : base ≤ w.heap.size
section
variable {w0 w w' : World} {base h i : Nat} {xs : List LaneV} {k : Int} {e : Ending}
theorem Lanes.mark {cap : Nat} (m : Lanes w base h cap xs) (hb : base ≤ w.heap.size) : MarkAt w w base h xs k 0 :=
  ⟨fun j hj => m.cell hj, fun j hj _ => by have := Wr.of_own (m.row _ (List.getElem_mem hj)); rwa [Nat.mul_one] at this, fun j hj h0 => absurd h0 (Nat.not_lt_zero _), Below.refl _ _, fun j hj => m.ne _ (List.getElem_mem hj),
   fun i j hi hj hij e => hij ((List.getElem_inj (h₀ := by simpa using hi) (h₁ := by simpa using hj) m.nd).1 (by simpa using e)), fun j hj => (m.lt _ (List.getElem_mem hj)).1, hb⟩
theorem MarkAt.step (M : MarkAt w0 w base h xs k i) (hi : i < xs.length) (hm : Marked w (some ⟨(xs[i]).g, 0, none⟩) (xs[i]).zs.length (k + sumLen (xs.map LaneV.zs) i) e w') : MarkAt w0 w' base h xs k (i + 1) := by
  have hg : w.grownBy w' (some (xs[i]).g) := by
    rcases Nat.eq_zero_or_pos (xs[i]).zs.length with h0 | h0
    · rw [← hm.2.2.1 h0]; exact gr_refl w _
    · exact (hm.2.2.2 h0 _ rfl).1
  refine ⟨fun j hj => ?_, fun j hj hij => (M.wr j hj (by omega)).grown hg (M.nd i j hi hj (by omega)), fun j hj hji => ?_, ?_, M.ne, M.nd, M.ge, by have := M.bs; have := hm.2.1; omega⟩
  · have hc := M.cells j hj
    exact (hg.cell_far ⟨h, j, none⟩ (lt_of_cell hc) (fun e => M.ne i hi (by simpa using e))).trans hc
  · by_cases e : j = i
    · subst e
      rcases Nat.eq_zero_or_pos (xs[j]).zs.length with h0 | h0
      · intro q hq; omega
      · exact (hm.2.2.2 h0 _ rfl).2
    · exact (M.held j hj (by omega)).grown hg (M.nd i j hi hj (fun e2 => e e2.symm))
  · exact M.below.trans (gr_to_below hg (M.ge i hi) M.bs)
theorem MarkAt.carry (M : MarkAt w0 w base h xs k i) (hb : Below w.heap.size w w') : MarkAt w0 w' base h xs k i :=
  ⟨fun j hj => keepc hb (M.cells j hj), fun j hj hij => (M.wr j hj hij).carry hb, fun j hj hji => (M.held j hj hji).carry hb, M.below.trans (hb.mono M.bs), M.ne, M.nd, M.ge, Nat.le_trans M.bs hb.size⟩
end
theorem sumLen_map {xs : List LaneV} {i : Nat} (hi : i < xs.length) : sumLen (xs.map LaneV.zs) (i + 1) = sumLen (xs.map LaneV.zs) i + (xs[i]).zs.length := by
  simp only [sumLen]; rw [nthL_map hi]
set_option maxHeartbeats 4000000 in
theorem l_markIntSS (h c : Nat) (xs : List LaneV) (k : Int) (w0 : World) (base : Nat) (M : MarkAt w0 w0 base h xs k 0) (hn : xs.length ≤ 1048576) (hl : ∀ i (hi : i < xs.length), (xs[i]).zs.length ≤ 1048576) (hs : ∀ i, i ≤ xs.length → sumLen (xs.map LaneV.zs) i ≤ 1048576) (h0 : 0 ≤ k) (h1 : k ≤ 1000000000) :
    Calls Try.prog 38 #[.slice (some ⟨h, 0, none⟩) xs.length c, .int .i64 k] w0 fun e w' => e = .returned (.int .i64 (k + (sumLen (xs.map LaneV.zs) xs.length : Nat))) ∧ MarkAt w0 w' base h xs k xs.length ∧ w'.heap.size = w0.heap.size := by
  have HM := Lib.hid M
  have HLn := Lib.hid hl
  have HSn := Lib.hid hs
  clear M hl hs
  go_enter Try.func38, Try.ntmps38
  go_wp2_with fail
  go_loopw [1, 5] (fun kk ii wr => ∃ i : Nat, i ≤ xs.length ∧ ii = .int .i64 i ∧ kk = .int .i64 (k + (sumLen (xs.map LaneV.zs) i : Nat)) ∧ MarkAt w0 wr base h xs k i ∧ wr.heap.size = w0.heap.size) (fun _ ii _ => xs.length - (intOf ii).toNat)
  case atStart => exact ⟨0, Nat.zero_le _, rfl, by simp [sumLen], HM.out, rfl⟩
  case round =>
    clear HM
    obtain ⟨i, hi, rfl, rfl, hm, hz⟩ := hrel
    have HM := Lib.hid hm
    have HZ := Lib.hid hz
    clear hm hz
    by_cases hlt : i < xs.length
    · have c0 := HM.out.cells i hlt
      unfold LaneV.val at c0
      have W := Lib.hid (HM.out.wr i hlt (Nat.le_refl _))
      have hli := HLn.out i hlt
      have hsi := HSn.out i hi
      have HS1 := Lib.hid (sumLen_map hlt)
      have HST := Lib.hid (fun (e : Ending) (w' : World) hm => HM.out.step (e := e) (w' := w') hlt hm)
      generalize xs[i] = X at c0 W hli HS1 HST
      generalize hsg : sumLen (xs.map LaneV.zs) i = s at hsi HS1 HST ⊢
      clear hsg
      go_wp2_with fail
      refine (l_markIntS (some ⟨X.g, 0, none⟩) X.cap X.zs.length (k + (s : Nat)) _ (fun _ => ⟨X.g, rfl, W.out⟩) hli (by omega) (by omega)).mono ?_
      intro e w1 hm
      have M1 := Lib.hid (HST.out e w1 hm)
      have Z1 := Lib.hid (hm.2.1.trans HZ.out)
      obtain ⟨rfl, -⟩ := hm
      clear c0 W HM HST
      go_wp2_with fail
      go_roundw
      case rel => exact ⟨i + 1, by omega, by go_num, by rw [HS1.out]; push_cast; rw [Int.add_assoc], M1.out, Z1.out⟩
      case measure => simp [intOf]; omega
    · have e : i = xs.length := by omega
      subst e
      go_wp2_with fail
      go_ret
      exact ⟨rfl, HM.out, HZ.out⟩
set_option maxHeartbeats 4000000 in
theorem l_heldIntSS (h c : Nat) (xs : List LaneV) (k : Int) (w0 w : World) (base : Nat) (M : MarkAt w0 w base h xs k xs.length) (hn : xs.length ≤ 1048576) (hl : ∀ i (hi : i < xs.length), (xs[i]).zs.length ≤ 1048576) (hs : ∀ i, i ≤ xs.length → sumLen (xs.map LaneV.zs) i ≤ 1048576) (h0 : 0 ≤ k) (h1 : k ≤ 1000000000) :
    Calls Try.prog 39 #[.slice (some ⟨h, 0, none⟩) xs.length c, .int .i64 k] w fun e w' => e = .returned (.int .i64 (k + (sumLen (xs.map LaneV.zs) xs.length : Nat))) ∧ w = w' := by
  have HM := Lib.hid M
  have HLn := Lib.hid hl
  have HSn := Lib.hid hs
  clear M hl hs
  go_enter Try.func39, Try.ntmps39
  go_wp2_with fail
  go_loop [1, 5] (fun kk ii => ∃ i : Nat, i ≤ xs.length ∧ ii = .int .i64 i ∧ kk = .int .i64 (k + (sumLen (xs.map LaneV.zs) i : Nat))) (fun _ ii => xs.length - (intOf ii).toNat)
  case atStart => exact ⟨0, Nat.zero_le _, rfl, by simp [sumLen]⟩
  case round =>
    obtain ⟨i, hi, rfl, rfl⟩ := hrel
    by_cases hlt : i < xs.length
    · have c0 := HM.out.cells i hlt
      unfold LaneV.val at c0
      have K := Lib.hid (HM.out.held i hlt hlt)
      have hli := HLn.out i hlt
      have hsi := HSn.out i hi
      have HS1 := Lib.hid (sumLen_map hlt)
      generalize xs[i] = X at c0 K hli HS1
      generalize hsg : sumLen (xs.map LaneV.zs) i = s at hsi HS1 K ⊢
      clear hsg
      go_wp2_with fail
      refine (l_heldIntS (some ⟨X.g, 0, none⟩) X.cap X.zs.length (k + (s : Nat)) _ (fun _ => ⟨X.g, rfl, K.out⟩) hli (by omega) (by omega)).mono ?_
      rintro e w1 ⟨rfl, rfl⟩
      clear c0 K
      go_wp2_with fail
      go_round
      case rel => exact ⟨i + 1, by omega, by go_num, by rw [HS1.out]; push_cast; rw [Int.add_assoc]⟩
      case measure => simp [intOf]; omega
    · have e : i = xs.length := by omega
      subst e
      go_wp2_with fail
      go_ret
      exact ⟨rfl, rfl⟩
set_option maxHeartbeats 4000000 in
theorem eqIntSS_same (A A' : Option Addr) (c c' : Nat) (ls : List (List Int)) (w : World) (h : LLs w w.heap.size A ls) (h' : LLs w w.heap.size A' ls) (hn : ls.length ≤ 1048576) (hm : ∀ i, i < ls.length → (nthL ls i).length ≤ 1048576) :
    Calls Try.prog 36 #[.slice A ls.length c, .slice A' ls.length c'] w fun e w' => e = .returned (.bool true) ∧ Quiet w w' := by
  have hl' : ((ls.length : Int) != (ls.length : Int)) = false := by simp
  have H := Lib.hid h
  have H' := Lib.hid h'
  have HM := Lib.hid hm
  clear h h' hm
  go_enter Try.func36, Try.ntmps36
  go_wp2_with fail
  go_loopw [5] (fun i wr => ∃ k : Nat, k ≤ ls.length ∧ i = .int .i64 k ∧ Quiet w wr) (fun i _ => ls.length - (intOf i).toNat)
  case atStart => exact ⟨0, Nat.zero_le _, rfl, Quiet.refl _⟩
  case round =>
    obtain ⟨k, hk, rfl, hq⟩ := hrel
    have HQ := Lib.hid hq
    by_cases hlt : k < ls.length
    · obtain ⟨b, off, rfl, hbb, hc⟩ := (H.out.quiet hq).at_ hlt
      obtain ⟨b', off', rfl, hbb', hc'⟩ := (H'.out.quiet hq).at_ hlt
      obtain ⟨A1, c1, k1, i1, hc1⟩ := hc k hlt
      obtain ⟨A2, c2, k2, i2, hc2⟩ := hc' k hlt
      have hi0 : (0 : Int) ≤ (k : Int) := by omega
      have hi1 : (k : Int) < (ls.length : Int) := by omega
      have CQ : Hid (∀ m : Nat, Calls Try.prog 16 #[.slice A1 (nthL ls k).length c1, .slice A2 (nthL ls k).length c2] (wr.drewN m) fun e w'' => e = .returned (.bool true) ∧ ∃ j, w'' = wr.drewN j) := Lib.hid (fun m => quiet_more ((eqIntS_any A1 A2 c1 c2 (nthL ls k) (nthL ls k) (wr.drewN m) w.heap.size i1 i2 (HM.out k hlt) (HM.out k hlt)).mono fun _ _ ⟨he, hq⟩ => ⟨by rw [he]; simp, hq⟩))
      clear hc hc' hq
      go_wp2_with fail
      go_quiet ((go_at_call 16; exact CQ.out _))
      go_wp2_with fail
      go_roundw
      case rel => exact ⟨k + 1, by omega, by go_num, HQ.out.trans ⟨_, rfl⟩⟩
      case measure => simp [intOf]; omega
    · clear hq
      go_wp2_with fail
      go_ret
      exact ⟨rfl, HQ.out⟩
end Go.Proofs.Ytdleibkkjnodlaa
