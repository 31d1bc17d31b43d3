/- Lists of receipts: valid lists, their leaves, their root: both sides by contract. -/
import Derived.Test.YtdleibkkjnodlaaMerkT
import Derived.Test.YtdleibkkjnodlaaLstReceipt
namespace Go.Proofs.Ytdleibkkjnodlaa
open Go.RowKit
set_option linter.unusedVariables false

def rcptOk (bs : List VReceipt) (j : Nat) : Bool := rcptB (nthReceipt bs j).i (nthReceipt bs j).d && decide ((nthReceipt bs j).i = (j : Int))
def rlistB (bs : List VReceipt) : Bool := allTo (rcptOk bs) bs.length && inB bs.length 1 16
def leafAt (bs : List VReceipt) (j : Nat) : Int := rcptD (nthReceipt bs j).i (nthReceipt bs j).b (nthReceipt bs j).d
def leavesTo (bs : List VReceipt) (k : Nat) : List Int := (List.range k).map (leafAt bs)
def rootR (bs : List VReceipt) : Int := if rlistB bs = true then rootZ (leavesTo bs bs.length) else -1
theorem leavesTo_len (bs : List VReceipt) (k : Nat) : (leavesTo bs k).length = k := by simp [leavesTo]
theorem leavesTo_succ (bs : List VReceipt) (k : Nat) : leavesTo bs (k + 1) = leavesTo bs k ++ [leafAt bs k] := by simp [leavesTo, List.range_succ]
theorem leavesTo_nth {bs : List VReceipt} {k j : Nat} (h : j < k) : nth (leavesTo bs k) j = leafAt bs j := by simp [nth, leavesTo, h]
theorem rowIs_carry {w w' : World} {b n : Nat} {t : TypeId} {f : Nat → Value} (h : w.rowIs b t n f) (hb : Below w.heap.size w w') : w'.rowIs b t n f := by
  obtain ⟨c, h1, h2, h3⟩ := h
  exact ⟨c, (hb.block b (lt_blk h1)).trans h1, h2, h3⟩
set_option maxHeartbeats 4000000 in
theorem s_l33List (A : Option Addr) (c : Nat) (bs : List VReceipt) (w : World) (h : LstReceipt w w.heap.size A bs) (hn : bs.length ≤ 1048576) :
    Calls Try.prog 54 #[.slice A bs.length c] w fun e w' => e = .returned (.bool (rlistB bs)) ∧ Below w.heap.size w w' := by
  have H := Lib.hid h
  clear h
  go_enter Try.func54, Try.ntmps54
  go_wp2_with fail
  go_loopw [3] (fun j wr => ∃ k : Nat, k ≤ bs.length ∧ j = .int .i64 k ∧ (∀ i, i < k → rcptOk bs i = true) ∧ Below w.heap.size w wr) (fun j _ => bs.length - (intOf j).toNat)
  case atStart => exact ⟨0, Nat.zero_le _, rfl, (fun i hi => absurd hi (by omega)), Below.refl _ _⟩
  case round =>
    obtain ⟨k, hk, rfl, hs, hb⟩ := hrel
    have HS := Lib.hid hs
    have HB := Lib.hid hb
    clear hs hb
    by_cases hlt : k < bs.length
    · obtain ⟨b, off, rfl, hbb, hc⟩ := (H.out.below HB.out).at_ hlt
      obtain ⟨x0, x1, x2⟩ := hc k hlt
      obtain ⟨x, hx⟩ : ∃ x, x = nthReceipt bs k := ⟨_, rfl⟩
      rw [← hx] at x0 x1 x2
      have HX := Lib.hid hx
      clear hc hx
      rcases hv : rcptB x.i x.d with _ | _
      · have hf : rlistB bs = false := by
          have : rcptOk bs k = false := by unfold rcptOk; rw [← HX.out, hv]; rfl
          simp [rlistB, allTo_bad hlt this]
        have HF := Lib.hid hf
        clear hf
        go_wp2_with fail
        refine (s_l33Receipt _ _ _ _).mono ?_
        rw [hv]
        rintro e w2 ⟨rfl, b2⟩
        replace HB := Lib.hid (HB.out.trans (b2.mono HB.out.size))
        clear b2
        go_wp2_with fail
        go_ret
        exact ⟨ret_bool HF.out.symm, HB.out⟩
      · by_cases he : x.i = (k : Int)
        · have hne : (x.i != (k : Int)) = false := by simp [he]
          have HOK := Lib.hid (show rcptOk bs k = true by unfold rcptOk; rw [← HX.out, hv]; simp [he])
          clear he
          go_wp2_with fail
          refine (s_l33Receipt _ _ _ _).mono ?_
          rw [hv]
          rintro e w2 ⟨rfl, b2⟩
          replace HB := Lib.hid (HB.out.trans (b2.mono HB.out.size))
          have x0' := keepc b2 x0
          clear b2 hv x0 x1 x2
          go_wp2_with fail
          go_roundw
          case rel => exact ⟨k + 1, by omega, by go_num, fun i hi => by
            by_cases e : i = k
            · subst e; exact HOK.out
            · exact HS.out i (by omega), HB.out⟩
          case measure => simp [intOf]; omega
        · have hne : (x.i != (k : Int)) = true := by simp [he]
          have hf : rlistB bs = false := by
            have : rcptOk bs k = false := by unfold rcptOk; rw [← HX.out]; simp [he]
            simp [rlistB, allTo_bad hlt this]
          have HF := Lib.hid hf
          clear hf he
          go_wp2_with fail
          refine (s_l33Receipt _ _ _ _).mono ?_
          rw [hv]
          rintro e w2 ⟨rfl, b2⟩
          replace HB := Lib.hid (HB.out.trans (b2.mono HB.out.size))
          have x0' := keepc b2 x0
          clear b2 hv x0 x1 x2
          go_wp2_with fail
          go_ret
          exact ⟨ret_bool HF.out.symm, HB.out⟩
    · have e : k = bs.length := by omega
      subst e
      go_wp2_with fail
      refine (l6In_any _ _ _ _).mono ?_
      rintro e w' ⟨rfl, rfl⟩
      go_wp2_with fail
      go_ret
      exact ⟨ret_bool (by have := allTo_iff.2 HS.out; simp [rlistB, this]), HB.out⟩
set_option maxHeartbeats 4000000 in
theorem s_l33Leaves (A : Option Addr) (c : Nat) (bs : List VReceipt) (w : World) (h : LstReceipt w w.heap.size A bs) (hn : bs.length ≤ 1048576) :
    Calls Try.prog 56 #[.slice A bs.length c] w (MadeI w (leavesTo bs bs.length)) := by
  have O1 := Lib.hid (OwnI.start (w := w) (base := w.heap.size) (Nat.le_refl _))
  have B1 := Lib.hid (allocB w (.cells #[] 3))
  have H := Lib.hid h
  clear h
  go_enter Try.func56, Try.ntmps56
  go_wp2_with fail
  go_loopw [3, 4] (fun v i wr => ∃ (k g cap : Nat), k ≤ bs.length ∧ i = .int .i64 k ∧ v = .slice (some ⟨g, 0, none⟩) k cap ∧ OwnI wr w.heap.size v (leavesTo bs k) ∧ Below w.heap.size w wr) (fun _ i _ => bs.length - (intOf i).toNat)
  case atStart => exact ⟨0, w.heap.size, 0, Nat.zero_le _, rfl, rfl, O1.out, B1.out⟩
  case round =>
    clear O1 B1
    obtain ⟨k, g, cap, hk, rfl, rfl, hown, hbel⟩ := hrel
    have HO := Lib.hid hown
    have HB := Lib.hid hbel
    have hsz := hbel.size
    have HL := Lib.hid (leavesTo_len bs k)
    have hl : (leavesTo bs k).length ≤ 10000000 := by rw [leavesTo_len]; omega
    clear hown hbel
    by_cases hlt : k < bs.length
    · obtain ⟨b, off, rfl, hbb, hc⟩ := (H.out.below HB.out).at_ hlt
      obtain ⟨x0, x1, x2⟩ := hc k hlt
      obtain ⟨x, hx⟩ : ∃ x, x = nthReceipt bs k := ⟨_, rfl⟩
      rw [← hx] at x0 x1 x2
      have HX := Lib.hid (show leafAt bs k = rcptD x.i x.b x.d by unfold leafAt; rw [← hx])
      clear hc hx
      go_wp2_with fail
      refine (s_ReceiptDigest _ _ _ _).mono ?_
      rintro e w2 ⟨rfl, b2⟩
      replace HO := Lib.hid (HO.out.below b2)
      replace HB := Lib.hid (HB.out.trans (b2.mono hsz))
      replace hsz := Nat.le_trans hsz b2.size
      clear b2 x0 x1 x2
      go_wp2_with (at_builtin; refine appendInt (by rfl) _ _ (by rfl) w2 w.heap.size _ (leavesTo bs k) _ (by rfl) HO.out (by rfl) hl hsz ?_; intro g1 cap1 w4 own4 hg4; rw [HL.out] at own4 ⊢)
      have O4 := Lib.hid own4
      have B4 := Lib.hid (below_own HB.out HO.out (Nat.le_refl _) hg4)
      clear own4 hg4
      go_wp2_with fail
      go_roundw
      case rel =>
        refine ⟨k + 1, g1, cap1, by omega, by go_num, rfl, ?_, B4.out⟩
        rw [leavesTo_succ, HX.out]
        exact O4.out
      case measure => simp [intOf]; omega
    · have e : k = bs.length := by omega
      subst e
      go_wp2_with fail
      go_ret
      have hu := HO.out.up
      exact ⟨g, cap, ret_slice hu.1, hu.2.1, hu.2.2, HB.out⟩
set_option maxHeartbeats 4000000 in
theorem s_ReceiptsRoot (A : Option Addr) (c : Nat) (bs : List VReceipt) (w : World) (h : LstReceipt w w.heap.size A bs) (hn : bs.length ≤ 1048576) :
    Calls Try.prog 29 #[.slice A bs.length c] w fun e w' => e = .returned (.int .i64 (rootR bs)) ∧ Below w.heap.size w w' := by
  have H := Lib.hid h
  rcases hl : rlistB bs with _ | _
  · rw [show rootR bs = -1 by simp [rootR, hl]]
    go_enter Try.func29, Try.ntmps29
    go_wp2_with fail
    refine (s_l33List _ _ bs _ h hn).mono ?_
    rw [hl]
    rintro e w1 ⟨rfl, b1⟩
    have B1 := Lib.hid b1
    clear b1
    go_wp2_with fail
    go_ret
    exact ⟨rfl, B1.out⟩
  · rw [show rootR bs = rootZ (leavesTo bs bs.length) by simp [rootR, hl]]
    have HL := Lib.hid (leavesTo_len bs bs.length)
    go_enter Try.func29, Try.ntmps29
    go_wp2_with fail
    refine (s_l33List _ _ bs _ h hn).mono ?_
    rw [hl]
    rintro e w1 ⟨rfl, b1⟩
    have B1 := Lib.hid b1
    have H1 := Lib.hid (H.out.carry b1)
    clear b1 hl h
    go_wp2_with fail
    refine (s_l33Leaves _ _ bs _ H1.out hn).mono ?_
    rintro e w2 ⟨g2, c2, rfl, iu2, hc2, b2⟩
    have I2 := Lib.hid iu2.ints
    replace B1 := Lib.hid (next B1.out b2)
    clear b2 iu2
    go_wp2_with fail
    refine (s_MerkleRoot _ _ (leavesTo bs bs.length) _ I2.out (by rw [HL.out]; exact hn)).mono ?_
    rintro e w3 ⟨rfl, b3⟩
    replace B1 := Lib.hid (next B1.out b3)
    clear b3
    go_wp2_with fail
    go_ret
    exact ⟨rfl, B1.out⟩
set_option maxHeartbeats 4000000 in
theorem i_receiptsValid (A : Option Addr) (c : Nat) (bs : List VReceipt) (w : World) (h : LstReceipt w w.heap.size A bs) (hn : bs.length ≤ 1048576) :
    Calls Try.prog 57 #[.slice A bs.length c] w fun e w' => e = .returned (.bool (rlistB bs)) ∧ Below w.heap.size w w' := by
  by_cases h1 : bs.length < 1
  · rw [show rlistB bs = false by unfold rlistB; rw [(inB_no (n := (bs.length : Int)) (lo := 1) (hi := 16)).2 (by omega)]; simp]
    have h0 : bs.length = 0 := by omega
    rcases bs with _ | ⟨x, bs⟩
    · go_enter Try.func57, Try.ntmps57
      go_wp2_with fail
      go_ret
      exact ⟨rfl, Below.refl _ _⟩
    · simp at h0
  have h1' : 1 ≤ bs.length := by omega
  by_cases h16 : 16 < bs.length
  · rw [show rlistB bs = false by unfold rlistB; rw [(inB_no (n := (bs.length : Int)) (lo := 1) (hi := 16)).2 (by omega)]; simp]
    have d1 : decide (bs.length < 1) = false := decide_eq_false (by omega)
    have d2 : decide ((16 : Int) < bs.length) = true := decide_eq_true (by omega)
    go_enter Try.func57, Try.ntmps57
    go_wp2_with fail
    go_ret
    exact ⟨rfl, Below.refl _ _⟩
  have d2 : decide ((16 : Int) < bs.length) = false := decide_eq_false (by omega)
  have d1 : decide (bs.length < 1) = false := decide_eq_false (by omega)
  have H := Lib.hid h
  clear h
  go_enter Try.func57, Try.ntmps57
  go_wp2_with fail
  go_loopw [15] (fun j wr => ∃ k : Nat, k ≤ bs.length ∧ j = .int .i64 k ∧ (∀ i, i < k → rcptOk bs i = true) ∧ Below w.heap.size w wr) (fun j _ => bs.length - (intOf j).toNat)
  case atStart => exact ⟨0, Nat.zero_le _, rfl, (fun i hi => absurd hi (by omega)), Below.refl _ _⟩
  case round =>
    obtain ⟨k, hk, rfl, hs, hb⟩ := hrel
    have HS := Lib.hid hs
    have HB := Lib.hid hb
    clear hs hb
    by_cases hlt : k < bs.length
    · obtain ⟨b, off, rfl, hbb, hc⟩ := (H.out.below HB.out).at_ hlt
      obtain ⟨x0, x1, x2⟩ := hc k hlt
      obtain ⟨x, hx⟩ : ∃ x, x = nthReceipt bs k := ⟨_, rfl⟩
      rw [← hx] at x0 x1 x2
      have HX := Lib.hid hx
      have ba := allocB wr (.cells #[.int .i64 x.i, .bool x.b, .int .i64 x.d] 26)
      have HB2 := Lib.hid (HB.out.trans (ba.mono HB.out.size))
      clear hc hx ba
      by_cases he : x.i = (k : Int)
      · have hne : (x.i != (k : Int)) = false := by simp [he]
        rcases hv : rcptB x.i x.d with _ | _
        · have hf : rlistB bs = false := by
            have : rcptOk bs k = false := by unfold rcptOk; rw [← HX.out, hv]; rfl
            simp [rlistB, allTo_bad hlt this]
          have HF := Lib.hid hf
          clear hf he
          go_wp2_with fail
          refine (i_rcptValid _ _ _ _).mono ?_
          rw [hv]
          rintro e w2 ⟨rfl, b2⟩
          replace HB := Lib.hid (HB2.out.trans (b2.mono HB2.out.size))
          clear b2
          go_wp2_with fail
          go_ret
          exact ⟨ret_bool HF.out.symm, HB.out⟩
        · have HOK := Lib.hid (show rcptOk bs k = true by unfold rcptOk; rw [← HX.out, hv]; simp [he])
          clear he
          go_wp2_with fail
          refine (i_rcptValid _ _ _ _).mono ?_
          rw [hv]
          rintro e w2 ⟨rfl, b2⟩
          replace HB := Lib.hid (HB2.out.trans (b2.mono HB2.out.size))
          clear b2 hv x0 x1 x2
          go_wp2_with fail
          go_roundw
          case rel => exact ⟨k + 1, by omega, by go_num, fun i hi => by
            by_cases e : i = k
            · subst e; exact HOK.out
            · exact HS.out i (by omega), HB.out⟩
          case measure => simp [intOf]; omega
      · have hne : (x.i != (k : Int)) = true := by simp [he]
        have hf : rlistB bs = false := by
          have : rcptOk bs k = false := by unfold rcptOk; rw [← HX.out]; simp [he]
          simp [rlistB, allTo_bad hlt this]
        have HF := Lib.hid hf
        clear hf he
        go_wp2_with fail
        go_ret
        exact ⟨ret_bool HF.out.symm, HB2.out⟩
    · have e : k = bs.length := by omega
      subst e
      go_wp2_with fail
      go_ret
      have hle : bs.length ≤ 16 := by omega
      exact ⟨ret_bool (by have := allTo_iff.2 HS.out; unfold rlistB; rw [this, (inB_iff (n := (bs.length : Int)) (lo := 1) (hi := 16)).2 (by omega)]; rfl), HB.out⟩
set_option maxHeartbeats 4000000 in
theorem i_leavesOf (A : Option Addr) (c : Nat) (bs : List VReceipt) (w : World) (h : LstReceipt w w.heap.size A bs) (hn : bs.length ≤ 1048576) :
    Calls Try.prog 58 #[.slice A bs.length c] w (MadeI w (leavesTo bs bs.length)) := by
  have hmk := fun W : World => run_make_row' (P := Try.prog) 24 3 (.int .i64 0) 8 Try.underlying24 info_int rfl .i64 .i64 bs.length (by omega) (by omega) W
  have H := Lib.hid h
  clear h
  go_enter Try.func58, Try.ntmps58
  go_wp2_with fail
  clear hmk
  go_loopw [11] (fun j wr => ∃ k : Nat, k ≤ bs.length ∧ j = .int .i64 k ∧ wr.rowIs w.heap.size 3 bs.length (fillTo (leavesTo bs bs.length) k) ∧ Below w.heap.size w wr) (fun j _ => bs.length - (intOf j).toNat)
  case atStart => exact ⟨0, Nat.zero_le _, rfl, (World.rowIs_made w _ _ _).congr (fun j _ => (fillTo_zero _ j).symm), (Below.refl _ _).alloc (Nat.le_refl _) _⟩
  case round =>
    obtain ⟨k, hk, rfl, hrow, hb⟩ := hrel
    have HR := Lib.hid hrow
    have HB := Lib.hid hb
    have hsz := hb.size
    clear hb hrow
    by_cases hlt : k < bs.length
    · obtain ⟨b, off, rfl, hbb, hc⟩ := (H.out.below HB.out).at_ hlt
      obtain ⟨x0, x1, x2⟩ := hc k hlt
      obtain ⟨x, hx⟩ : ∃ x, x = nthReceipt bs k := ⟨_, rfl⟩
      rw [← hx] at x0 x1 x2
      have HX := Lib.hid (show nth (leavesTo bs bs.length) k = rcptD x.i x.b x.d by rw [leavesTo_nth hlt]; unfold leafAt; rw [← hx])
      have ba := allocB wr (.cells #[.int .i64 x.i, .bool x.b, .int .i64 x.d] 26)
      replace HR := Lib.hid (rowIs_carry HR.out ba)
      replace HB := Lib.hid (HB.out.trans (ba.mono hsz))
      replace hsz := Nat.le_trans hsz ba.size
      clear hc hx ba
      go_wp2_with fail
      refine (i_ReceiptDigest _ _ _ _).mono ?_
      rintro e w2 ⟨rfl, b2⟩
      replace HR := Lib.hid (rowIs_carry HR.out b2)
      replace HB := Lib.hid (HB.out.trans (b2.mono hsz))
      have hst := HR.out.cell hlt
      have hfr := HR.out.frozen k
      clear b2 x0 x1 x2
      go_wp2_with fail
      go_roundw
      case rel => exact ⟨k + 1, by omega, by go_num, by
        have := (HR.out.set k (.int .i64 (rcptD x.i x.b x.d))).congr (g := fillTo (leavesTo bs bs.length) (k + 1)) (fun j _ => by rw [← HX.out]; exact fillTo_step _ k j)
        exact this, HB.out.setCell (Nat.le_refl _) _⟩
      case measure => simp [intOf]; omega
    · have e : k = bs.length := by omega
      subst e
      go_wp2_with fail
      go_ret
      have hl := leavesTo_len bs bs.length
      refine ⟨w.heap.size, bs.length, ret_slice hl.symm, ?_, by omega, HB.out⟩
      intro _
      exact ⟨w.heap.size, 0, rfl, Nat.le_refl _, HR.out.lt, fun j hj => by
        rw [Nat.zero_add, HR.out.cell (by omega)]
        unfold fillTo; rw [if_pos (by omega)]⟩
set_option maxHeartbeats 4000000 in
theorem i_ReceiptsRoot (A : Option Addr) (c : Nat) (bs : List VReceipt) (w : World) (h : LstReceipt w w.heap.size A bs) (hn : bs.length ≤ 1048576) :
    Calls Try.prog 31 #[.slice A bs.length c] w fun e w' => e = .returned (.int .i64 (rootR bs)) ∧ Below w.heap.size w w' := by
  have H := Lib.hid h
  rcases hl : rlistB bs with _ | _
  · rw [show rootR bs = -1 by simp [rootR, hl]]
    go_enter Try.func31, Try.ntmps31
    go_wp2_with fail
    refine (i_receiptsValid _ _ bs _ h hn).mono ?_
    rw [hl]
    rintro e w1 ⟨rfl, b1⟩
    have B1 := Lib.hid b1
    clear b1
    go_wp2_with fail
    go_ret
    exact ⟨rfl, B1.out⟩
  · rw [show rootR bs = rootZ (leavesTo bs bs.length) by simp [rootR, hl]]
    have HL := Lib.hid (leavesTo_len bs bs.length)
    go_enter Try.func31, Try.ntmps31
    go_wp2_with fail
    refine (i_receiptsValid _ _ bs _ h hn).mono ?_
    rw [hl]
    rintro e w1 ⟨rfl, b1⟩
    have B1 := Lib.hid b1
    have H1 := Lib.hid (H.out.carry b1)
    clear b1 hl h
    go_wp2_with fail
    refine (i_leavesOf _ _ bs _ H1.out hn).mono ?_
    rintro e w2 ⟨g2, c2, rfl, iu2, hc2, b2⟩
    have I2 := Lib.hid iu2.ints
    replace B1 := Lib.hid (next B1.out b2)
    clear b2 iu2
    go_wp2_with fail
    refine (i_MerkleRoot _ _ (leavesTo bs bs.length) _ I2.out (by rw [HL.out]; exact hn)).mono ?_
    rintro e w3 ⟨rfl, b3⟩
    replace B1 := Lib.hid (next B1.out b3)
    clear b3
    go_wp2_with fail
    go_ret
    exact ⟨rfl, B1.out⟩
end Go.Proofs.Ytdleibkkjnodlaa
