/- Trees of digests: valid leaves, the next level: each function by its contract; the reference's root. -/
import Derived.Test.YtdleibkkjnodlaaMerkP
import Derived.Test.YtdleibkkjnodlaaSets
import Derived.Deep.RegionHeld3
namespace Go.Proofs.Ytdleibkkjnodlaa
open Go.RowKit
set_option linter.unusedVariables false

/-- append(v, z) for a number z, at a step of a region that draws its order. -/
theorem stepInt {ops : Array Oper} {o : Oper} {a : Act} {K : Act → World → Prop} {Q : Exit → Act → World → Prop} {E : Prop} (hgd : o.guard = none) (s x : Operand)
    (ho : o.op = .call { callee := .builtin .append, args := #[s, x], argTypes := #[24, 24] }) (wr : World)
    (base : Nat) (v : Value) (zs : List Int) (z : Int) (hs : a.eval s = v) (hown : OwnI wr base v zs)
    (hx : a.eval x = .slice (some ⟨wr.heap.size, 0, none⟩) 1 1) (hn : zs.length ≤ 10000000) (hbase : base ≤ wr.heap.size)
    (h : ∀ g cap w', OwnI w' base (.slice (some ⟨g, 0, none⟩) (zs.length + 1) cap) (zs ++ [z]) → wr.grownBy w' v.ownBlock → K (a.put o.dst (.slice (some ⟨g, 0, none⟩) (zs.length + 1) cap)) w') :
    if Region.wanted o (yielded ops a.tmps) = true then Oper.wp Try.prog o a (wr.alloc (.cells #[.int .i64 z] 3)) K Q else E := by
  have hw : Region.wanted o (yielded ops a.tmps) = true := by simp [Region.wanted, hgd]
  rw [if_pos hw]
  exact wpOne elem_int (by omega) (by omega) s x ho wr base v zs.length _ hs hown #[.int .i64 z] hx rfl (by simp [Value.oneCell']) hn hbase
    (fun g cap w' h2 h3 => h g cap w' (by unfold OwnI; simpa using h2) h3)
theorem run_make0 (n : Nat) (hn : n ≤ 1048576) (w : World) : (Instr.makeSlice 24 (.int .i64 (0 : Int)) (.int .i64 (n : Int))).run Try.prog w = .ok (.slice (some ⟨w.heap.size, 0, none⟩) 0 n) (w.alloc (.cells (madeCells #[.int .i64 0] n) 3)) := by
  obtain ⟨i, hi, hz, hs, hb⟩ := info_parts info_int
  have hr := run_make (P := Try.prog) w 24 3 i _ Try.underlying24 hi hz .i64 .i64 0 n (Int.le_refl _) (by omega) (by rw [hb]; omega) (by omega)
  simp only [Int.toNat_natCast, hs, Int.toNat_zero, Nat.mul_one] at hr
  exact hr
theorem OwnI.made {w : World} {base n : Nat} (hb : base ≤ w.heap.size) (hn : n ≤ 1048576) : OwnI (w.alloc (.cells (madeCells #[.int .i64 0] n) 3)) base (.slice (some ⟨w.heap.size, 0, none⟩) 0 n) [] :=
  ⟨World.ownsRow_made w _ n hb (by unfold maxLen; omega) (by rw [size_madeCells]; omega), _, _, rfl⟩
theorem leavesB_iff {xs : List Int} : leavesB xs = true ↔ digsB xs = true ∧ 1 ≤ xs.length ∧ xs.length ≤ 16 := by
  simp only [leavesB, Bool.and_eq_true, inB_iff]
  constructor
  · rintro ⟨a, b, c⟩; exact ⟨a, by omega, by omega⟩
  · rintro ⟨a, b, c⟩; exact ⟨a, by omega, by omega⟩
set_option maxHeartbeats 4000000 in
theorem s_leaves (A : Option Addr) (c : Nat) (xs : List Int) (w : World) (h : Ints w w.heap.size A xs) (hn : xs.length ≤ 1048576) :
    Calls Try.prog 76 #[.slice A xs.length c] w fun e w' => e = .returned (.bool (leavesB xs)) ∧ w = w' := by
  have H := Lib.hid h
  clear h
  go_enter Try.func76, Try.ntmps76
  go_wp2_with fail
  go_loop [3] (fun j => ∃ k : Nat, k ≤ xs.length ∧ j = .int .i64 k ∧ ∀ i, i < k → digB (nth xs i) = true) (fun j => xs.length - (intOf j).toNat)
  case atStart => exact ⟨0, Nat.zero_le _, rfl, fun i hi => absurd hi (by omega)⟩
  case round =>
    obtain ⟨k, hk, rfl, hs⟩ := hrel
    have HS := Lib.hid hs
    clear hs
    by_cases hlt : k < xs.length
    · obtain ⟨b, off, rfl, hbb, hc⟩ := H.out.at_ hlt
      have hck := hc k hlt
      clear hc
      rcases hd : digB (nth xs k) with _ | _
      · have hf : leavesB xs = false := by simp [leavesB, digsB, allTo_bad (p := fun j => digB (nth xs j)) hlt hd]
        have HF := Lib.hid hf
        clear hf
        go_wp2_with fail
        refine (s_l2Digest _ _).mono ?_
        rw [hd]
        rintro e w' ⟨rfl, rfl⟩
        go_wp2_with fail
        go_ret
        exact ⟨ret_bool HF.out.symm, rfl⟩
      · go_wp2_with fail
        refine (s_l2Digest _ _).mono ?_
        rw [hd]
        rintro e w' ⟨rfl, rfl⟩
        have HD := Lib.hid hd
        clear hd
        go_wp2_with fail
        go_round
        case rel => exact ⟨k + 1, by omega, by go_num, fun i hi => by
          by_cases e : i = k
          · subst e; exact HD.out
          · exact HS.out i (by omega)⟩
        case measure => simp [intOf]; omega
    · have e : k = xs.length := by omega
      subst e
      go_wp2_with fail
      refine (l6In_any _ _ _ _).mono ?_
      rintro e w' ⟨rfl, rfl⟩
      go_wp2_with fail
      go_ret
      exact ⟨ret_bool (by have := allTo_iff.2 HS.out; simp [leavesB, digsB, this]), rfl⟩
set_option maxHeartbeats 8000000 in
theorem s_up (A : Option Addr) (c : Nat) (xs : List Int) (w : World) (h : Ints w w.heap.size A xs) (hn : xs.length ≤ 1048576) (hd : digsB xs = true) :
    Calls Try.prog 77 #[.slice A xs.length c] w (MadeI w (up xs)) := by
  have own0 : OwnI (w.alloc (.cells #[] 3)) w.heap.size (.slice (some ⟨w.heap.size, 0, none⟩) 0 0) [] := OwnI.start (Nat.le_refl _)
  have O1 := Lib.hid own0
  have B1 := Lib.hid (allocB w (.cells #[] 3))
  have H := Lib.hid h
  have HD := Lib.hid hd
  clear own0 h hd
  go_enter Try.func77, Try.ntmps77
  go_wp2_with fail
  go_loopw [3, 4] (fun v i wr => ∃ (k q g cap : Nat), q ≤ xs.length + 1 ∧ q = 2 * k ∧ i = .int .i64 q ∧ v = .slice (some ⟨g, 0, none⟩) k cap ∧ OwnI wr w.heap.size v (upTo xs k) ∧ Below w.heap.size w wr) (fun _ i _ => xs.length - (intOf i).toNat)
  case atStart => exact ⟨0, 0, w.heap.size, 0, Nat.zero_le _, rfl, rfl, rfl, O1.out, B1.out⟩
  case round =>
    obtain ⟨k, q, g, cap, hq, hqk, rfl, rfl, hown, hbel⟩ := hrel
    have HO := Lib.hid hown
    have HB := Lib.hid hbel
    have HQ := Lib.hid hqk
    have hkk : k ≤ xs.length := by omega
    have hsz := hbel.size
    clear hown hbel hqk O1 B1
    by_cases hlt : q < xs.length
    · by_cases hlt2 : q + 1 < xs.length
      · obtain ⟨b, off, rfl, hbb, hc⟩ := (H.out.below HB.out).at_ hlt
        have hc0 := hc q hlt
        have hc1 := hc (q + 1) hlt2
        have D0 := Lib.hid (digsB_at HD.out hlt)
        have D1 := Lib.hid (digsB_at HD.out hlt2)
        have hb0 := inB_iff.1 D0.out
        have hb1 := inB_iff.1 D1.out
        have hw : IntKind.i64.wrap ((q : Int) + 1) = (q : Int) + 1 := IntWalk.i64_in _ (by omega)
        have hi0 : (0 : Int) ≤ (q : Int) := by omega
        have hi1 : (q : Int) < (xs.length : Int) := by omega
        have hi2 : (0 : Int) ≤ (q : Int) + 1 := by omega
        have hi3 : (q : Int) + 1 < (xs.length : Int) := by omega
        have hi4 : ((q : Int) + 1).toNat = q + 1 := by omega
        have hl : (upTo xs k).length ≤ 10000000 := by rw [upTo_len]; omega
        have hl2 := upTo_len xs k
        have HL := Lib.hid hl2
        clear hc hl2
        go_wp2_with fail
        have hS0 : wr.drew.cell? ⟨b, off + q, none⟩ = some (.int .i64 (nth xs q)) ∧ wr.drew.cell? ⟨b, off + (q + 1), none⟩ = some (.int .i64 (nth xs (q + 1))) := ⟨hc0, hc1⟩
        have HOD : Hid (OwnI wr.drew w.heap.size (.slice (some ⟨g, 0, none⟩) k cap) (upTo xs k)) := Lib.hid HO.out
        have hszd : w.heap.size ≤ wr.drew.heap.size := hsz
        go_region_held3 (fun W => W.cell? ⟨b, off + q, none⟩ = some (.int .i64 (nth xs q)) ∧ W.cell? ⟨b, off + (q + 1), none⟩ = some (.int .i64 (nth xs (q + 1)))) (first | assumption | go_keep)
          (first | (go_at_call 68; refine (s_l2Pair _ _ _ (by omega) (by omega) (by omega) (by omega)).mono ?_; rintro e w' ⟨rfl, rfl⟩) | ((refine stepInt (by rfl) _ _ (by rfl) wr.drew w.heap.size _ (upTo xs k) _ (by rfl) HOD.out (by rfl) hl hszd ?_; intro g1 cap1 w4 own4 hg4; rw [HL.out] at own4 ⊢; have hS1 : w4.cell? ⟨b, off + q, none⟩ = some (.int .i64 (nth xs q)) ∧ w4.cell? ⟨b, off + (q + 1), none⟩ = some (.int .i64 (nth xs (q + 1))) := ⟨((below_own HB.out.drew HOD.out (Nat.le_refl _) hg4).cell (p := ⟨b, off + q, none⟩) hbb).trans ((HB.out.cell (p := ⟨b, off + q, none⟩) hbb).symm.trans hc0), ((below_own HB.out.drew HOD.out (Nat.le_refl _) hg4).cell (p := ⟨b, off + (q + 1), none⟩) hbb).trans ((HB.out.cell (p := ⟨b, off + (q + 1), none⟩) hbb).symm.trans hc1)⟩)))
        have O4 := Lib.hid own4
        have B4 := Lib.hid (below_own HB.out.drew HOD.out (Nat.le_refl _) hg4)
        clear own4 hg4 hS0 hS1 hw
        go_wp2_with fail
        go_roundw
        case rel =>
          refine ⟨k + 1, q + 2, g1, cap1, by omega, by have := HQ.out; omega, by go_num, rfl, ?_, B4.out⟩
          rw [upTo_succ, upAt_pair (by have := HQ.out; omega), ← HQ.out]
          exact O4.out
        case measure => simp [intOf]; omega
      · obtain ⟨b, off, rfl, hbb, hc⟩ := (H.out.below HB.out).at_ hlt
        have hc0 := hc q hlt
        have hl2 := upTo_len xs k
        have HL := Lib.hid hl2
        have hl : (upTo xs k).length ≤ 10000000 := by omega
        clear hc hl2
        go_wp2_with (at_builtin; refine appendInt (by rfl) _ _ (by rfl) wr w.heap.size _ (upTo xs k) _ (by rfl) HO.out (by rfl) hl hsz ?_; intro g1 cap1 w4 own4 hg4; rw [HL.out] at own4 ⊢)
        have O4 := Lib.hid own4
        have B4 := Lib.hid (below_own HB.out HO.out (Nat.le_refl _) hg4)
        clear own4 hg4
        go_wp2_with fail
        go_roundw
        case rel =>
          refine ⟨k + 1, q + 2, g1, cap1, by omega, by have := HQ.out; omega, by go_num, rfl, ?_, B4.out⟩
          rw [upTo_succ, upAt_one (by have := HQ.out; omega), ← HQ.out]
          exact O4.out
        case measure => simp [intOf]; omega
    · have e : k = (xs.length + 1) / 2 := by have := HQ.out; omega
      have HE := Lib.hid e
      clear e
      go_wp2_with fail
      go_ret
      have hu := HO.out.up
      have hk2 : upTo xs k = up xs := by rw [HE.out]; rfl
      rw [hk2] at hu
      exact ⟨g, cap, ret_slice hu.1, hu.2.1, hu.2.2, HB.out⟩
set_option maxHeartbeats 4000000 in
theorem i_leaves (A : Option Addr) (c : Nat) (xs : List Int) (w : World) (h : Ints w w.heap.size A xs) (hn : xs.length ≤ 1048576) :
    Calls Try.prog 62 #[.slice A xs.length c] w fun e w' => e = .returned (.bool (leavesB xs)) ∧ w = w' := by
  by_cases h1 : xs.length < 1
  · rw [show leavesB xs = false by unfold leavesB; rw [(inB_no (n := (xs.length : Int)) (lo := 1) (hi := 16)).2 (by omega)]; simp]
    have h0 : xs.length = 0 := by omega
    rcases xs with _ | ⟨x, xs⟩
    · go_enter Try.func62, Try.ntmps62
      go_wp2_with fail
      go_ret
      exact ⟨rfl, rfl⟩
    · simp at h0
  have h1' : 1 ≤ xs.length := by omega
  by_cases h16 : 16 < xs.length
  · rw [show leavesB xs = false by unfold leavesB; rw [(inB_no (n := (xs.length : Int)) (lo := 1) (hi := 16)).2 (by omega)]; simp]
    have d1 : decide (xs.length < 1) = false := decide_eq_false (by omega)
    have d2 : decide ((16 : Int) < xs.length) = true := decide_eq_true (by omega)
    go_enter Try.func62, Try.ntmps62
    go_wp2_with fail
    go_ret
    exact ⟨rfl, rfl⟩
  have d2 : decide ((16 : Int) < xs.length) = false := decide_eq_false (by omega)
  have d1 : decide (xs.length < 1) = false := decide_eq_false (by omega)
  have H := Lib.hid h
  clear h
  go_enter Try.func62, Try.ntmps62
  go_wp2_with fail
  go_loop [15] (fun j => ∃ k : Nat, k ≤ xs.length ∧ j = .int .i64 k ∧ ∀ i, i < k → digB (nth xs i) = true) (fun j => xs.length - (intOf j).toNat)
  case atStart => exact ⟨0, Nat.zero_le _, rfl, fun i hi => absurd hi (by omega)⟩
  case round =>
    obtain ⟨k, hk, rfl, hs⟩ := hrel
    have HS := Lib.hid hs
    clear hs
    by_cases hlt : k < xs.length
    · obtain ⟨b, off, rfl, hbb, hc⟩ := H.out.at_ hlt
      have hck := hc k hlt
      clear hc
      rcases hd : digB (nth xs k) with _ | _
      · have hf : leavesB xs = false := by simp [leavesB, digsB, allTo_bad (p := fun j => digB (nth xs j)) hlt hd]
        have HF := Lib.hid hf
        clear hf
        go_wp2_with fail
        refine (i_isDigest _ _).mono ?_
        rw [hd]
        rintro e w' ⟨rfl, rfl⟩
        go_wp2_with fail
        go_ret
        exact ⟨ret_bool HF.out.symm, rfl⟩
      · go_wp2_with fail
        refine (i_isDigest _ _).mono ?_
        rw [hd]
        rintro e w' ⟨rfl, rfl⟩
        have HD := Lib.hid hd
        clear hd
        go_wp2_with fail
        go_round
        case rel => exact ⟨k + 1, by omega, by go_num, fun i hi => by
          by_cases e : i = k
          · subst e; exact HD.out
          · exact HS.out i (by omega)⟩
        case measure => simp [intOf]; omega
    · have e : k = xs.length := by omega
      subst e
      go_wp2_with fail
      go_ret
      have hle : xs.length ≤ 16 := by omega
      exact ⟨ret_bool (leavesB_iff.2 ⟨allTo_iff.2 HS.out, h1', hle⟩).symm, rfl⟩
set_option maxHeartbeats 8000000 in
theorem i_up (A : Option Addr) (c : Nat) (xs : List Int) (w : World) (h : Ints w w.heap.size A xs) (hn : xs.length ≤ 1048576) (hd : digsB xs = true) :
    Calls Try.prog 81 #[.slice A xs.length c] w (MadeI w (up xs)) := by
  obtain ⟨hf, hhf⟩ : ∃ hf : Nat, hf = (xs.length + 1) / 2 := ⟨_, rfl⟩
  have hhl : hf ≤ xs.length + 1 := by omega
  have own0 : OwnI (w.alloc (.cells (madeCells #[.int .i64 0] hf) 3)) w.heap.size (.slice (some ⟨w.heap.size, 0, none⟩) 0 hf) [] := OwnI.made (Nat.le_refl _) (by omega)
  have O1 := Lib.hid own0
  have B1 := Lib.hid (allocB w (.cells (madeCells #[.int .i64 0] hf) 3))
  have H := Lib.hid h
  have HD := Lib.hid hd
  clear own0 h hd
  have hmk := fun W : World => run_make0 hf (by omega) W
  have ehalf : (((xs.length : Int) + 1) / 2) = (hf : Int) := by omega
  have HHF := Lib.hid hhf
  clear hhf
  go_enter Try.func81, Try.ntmps81
  go_wp2_with fail
  clear hmk ehalf
  go_loopw [3, 4] (fun v i wr => ∃ (k q g cap : Nat), q ≤ xs.length + 1 ∧ q = 2 * k ∧ i = .int .i64 q ∧ v = .slice (some ⟨g, 0, none⟩) k cap ∧ OwnI wr w.heap.size v (upTo xs k) ∧ Below w.heap.size w wr) (fun _ i _ => xs.length - (intOf i).toNat)
  case atStart => exact ⟨0, 0, w.heap.size, hf, Nat.zero_le _, rfl, rfl, rfl, O1.out, B1.out⟩
  case round =>
    obtain ⟨k, q, g, cap, hq, hqk, rfl, rfl, hown, hbel⟩ := hrel
    have HO := Lib.hid hown
    have HB := Lib.hid hbel
    have HQ := Lib.hid hqk
    have hkk : k ≤ xs.length := by omega
    have hsz := hbel.size
    clear hown hbel hqk O1 B1
    by_cases hlt : q < xs.length
    · by_cases hlt2 : q + 1 < xs.length
      · obtain ⟨b, off, rfl, hbb, hc⟩ := (H.out.below HB.out).at_ hlt
        have hc0 := hc q hlt
        have hc1 := hc (q + 1) hlt2
        have D0 := Lib.hid (digsB_at HD.out hlt)
        have D1 := Lib.hid (digsB_at HD.out hlt2)
        have hb0 := inB_iff.1 D0.out
        have hb1 := inB_iff.1 D1.out
        have hw : IntKind.i64.wrap ((q : Int) + 1) = (q : Int) + 1 := IntWalk.i64_in _ (by omega)
        have hi0 : (0 : Int) ≤ (q : Int) := by omega
        have hi1 : (q : Int) < (xs.length : Int) := by omega
        have hi2 : (0 : Int) ≤ (q : Int) + 1 := by omega
        have hi3 : (q : Int) + 1 < (xs.length : Int) := by omega
        have hi4 : ((q : Int) + 1).toNat = q + 1 := by omega
        have hl : (upTo xs k).length ≤ 10000000 := by rw [upTo_len]; omega
        have hl2 := upTo_len xs k
        have HL := Lib.hid hl2
        clear hc hl2
        go_wp2_with fail
        have hS0 : wr.drew.cell? ⟨b, off + q, none⟩ = some (.int .i64 (nth xs q)) ∧ wr.drew.cell? ⟨b, off + (q + 1), none⟩ = some (.int .i64 (nth xs (q + 1))) := ⟨hc0, hc1⟩
        have HOD : Hid (OwnI wr.drew w.heap.size (.slice (some ⟨g, 0, none⟩) k cap) (upTo xs k)) := Lib.hid HO.out
        have hszd : w.heap.size ≤ wr.drew.heap.size := hsz
        go_region_held3 (fun W => W.cell? ⟨b, off + q, none⟩ = some (.int .i64 (nth xs q)) ∧ W.cell? ⟨b, off + (q + 1), none⟩ = some (.int .i64 (nth xs (q + 1)))) (first | assumption | go_keep)
          (first | (go_at_call 61; refine (i_HashPair _ _ _ D0.out D1.out).mono ?_; rintro e w' ⟨rfl, rfl⟩) | ((refine stepInt (by rfl) _ _ (by rfl) wr.drew w.heap.size _ (upTo xs k) _ (by rfl) HOD.out (by rfl) hl hszd ?_; intro g1 cap1 w4 own4 hg4; rw [HL.out] at own4 ⊢; have hS1 : w4.cell? ⟨b, off + q, none⟩ = some (.int .i64 (nth xs q)) ∧ w4.cell? ⟨b, off + (q + 1), none⟩ = some (.int .i64 (nth xs (q + 1))) := ⟨((below_own HB.out.drew HOD.out (Nat.le_refl _) hg4).cell (p := ⟨b, off + q, none⟩) hbb).trans ((HB.out.cell (p := ⟨b, off + q, none⟩) hbb).symm.trans hc0), ((below_own HB.out.drew HOD.out (Nat.le_refl _) hg4).cell (p := ⟨b, off + (q + 1), none⟩) hbb).trans ((HB.out.cell (p := ⟨b, off + (q + 1), none⟩) hbb).symm.trans hc1)⟩)))
        have O4 := Lib.hid own4
        have B4 := Lib.hid (below_own HB.out.drew HOD.out (Nat.le_refl _) hg4)
        clear own4 hg4 hS0 hS1 hw
        go_wp2_with fail
        go_roundw
        case rel =>
          refine ⟨k + 1, q + 2, g1, cap1, by omega, by have := HQ.out; omega, by go_num, rfl, ?_, B4.out⟩
          rw [upTo_succ, upAt_pair (by have := HQ.out; omega), ← HQ.out]
          exact O4.out
        case measure => simp [intOf]; omega
      · obtain ⟨b, off, rfl, hbb, hc⟩ := (H.out.below HB.out).at_ hlt
        have hc0 := hc q hlt
        have hl2 := upTo_len xs k
        have HL := Lib.hid hl2
        have hl : (upTo xs k).length ≤ 10000000 := by omega
        clear hc hl2
        go_wp2_with (at_builtin; refine appendInt (by rfl) _ _ (by rfl) wr w.heap.size _ (upTo xs k) _ (by rfl) HO.out (by rfl) hl hsz ?_; intro g1 cap1 w4 own4 hg4; rw [HL.out] at own4 ⊢)
        have O4 := Lib.hid own4
        have B4 := Lib.hid (below_own HB.out HO.out (Nat.le_refl _) hg4)
        clear own4 hg4
        go_wp2_with fail
        go_roundw
        case rel =>
          refine ⟨k + 1, q + 2, g1, cap1, by omega, by have := HQ.out; omega, by go_num, rfl, ?_, B4.out⟩
          rw [upTo_succ, upAt_one (by have := HQ.out; omega), ← HQ.out]
          exact O4.out
        case measure => simp [intOf]; omega
    · have e : k = (xs.length + 1) / 2 := by have := HQ.out; omega
      have HE := Lib.hid e
      clear e
      go_wp2_with fail
      go_ret
      have hu := HO.out.up
      have hk2 : upTo xs k = up xs := by rw [HE.out]; rfl
      rw [hk2] at hu
      exact ⟨g, cap, ret_slice hu.1, hu.2.1, hu.2.2, HB.out⟩
set_option maxHeartbeats 4000000 in
theorem s_MerkleRoot (A : Option Addr) (c : Nat) (xs : List Int) (w : World) (h : Ints w w.heap.size A xs) (hn : xs.length ≤ 1048576) :
    Calls Try.prog 55 #[.slice A xs.length c] w fun e w' => e = .returned (.int .i64 (rootZ xs)) ∧ Below w.heap.size w w' := by
  rcases hl : leavesB xs with _ | _
  · rw [show rootZ xs = -1 by simp [rootZ, hl]]
    go_enter Try.func55, Try.ntmps55
    go_wp2_with fail
    refine (s_leaves _ _ xs _ h hn).mono ?_
    rw [hl]
    rintro e w' ⟨rfl, rfl⟩
    go_wp2_with fail
    go_ret
    exact ⟨rfl, Below.refl _ _⟩
  obtain ⟨hd, h1, h16⟩ := leavesB_iff.1 hl
  obtain ⟨R, hR⟩ : ∃ R, rootOf xs = R := ⟨_, rfl⟩
  have hz : rootZ xs = R := by rw [rootZ, if_pos hl, hR]
  have HZ := Lib.hid hz
  have HR := Lib.hid (hR ▸ Reach.start h1 hd)
  have H := Lib.hid h
  clear hz hR hd
  go_enter Try.func55, Try.ntmps55
  go_wp2_with fail
  refine (s_leaves _ _ xs _ h hn).mono ?_
  rw [hl]
  rintro e w' ⟨rfl, rfl⟩
  clear hl h
  go_wp2_with fail
  go_loopw [3] (fun v wr => ∃ (A' : Option Addr) (c' : Nat) (ys : List Int), v = .slice A' ys.length c' ∧ ys.length ≤ 1048576 ∧ Ints wr wr.heap.size A' ys ∧ Reach R ys ∧ Below w.heap.size w wr) (fun v _ => match v with | .slice _ n _ => n | _ => 0)
  case atStart => exact ⟨A, c, xs, rfl, hn, H.out, HR.out, Below.refl _ _⟩
  case round =>
    clear H HR
    obtain ⟨A', c', ys, rfl, hn', hi, hr, hb⟩ := hrel
    have HI := Lib.hid hi
    have HR := Lib.hid hr
    have HB := Lib.hid hb
    have hy1 := hr.1
    have hlu := up_len ys
    have HLU := Lib.hid hlu
    clear hi hr hb hlu
    by_cases hlt : 1 < ys.length
    · go_wp2_with fail
      refine (s_up _ _ ys _ HI.out hn' HR.out.2.1).mono ?_
      rintro e w1 ⟨g1, cap1, rfl, iu1, hc1, b1⟩
      have I1 := Lib.hid iu1.ints
      have B1 := Lib.hid (next HB.out b1)
      clear iu1 b1
      go_wp2_with fail
      go_roundw
      case rel => exact ⟨_, cap1, up ys, rfl, by have := HLU.out; omega, I1.out, HR.out.up hlt, B1.out⟩
      case measure => have := HLU.out; simp; omega
    · obtain ⟨b, off, rfl, hbb, hc⟩ := HI.out.at_ (k := 0) (by omega)
      have hc0 := hc 0 (by omega)
      rw [Nat.add_zero] at hc0
      have hy : ys.length = 1 := by omega
      have HY := Lib.hid hy
      clear hc hy
      have hi1 : (0 : Int) < (ys.length : Int) := by omega
      have hi2 : 0 < ys.length := by omega
      go_wp2_with fail
      go_ret
      exact ⟨ret_int (by rw [HZ.out]; exact HR.out.fin hlt), HB.out⟩
end Go.Proofs.Ytdleibkkjnodlaa
