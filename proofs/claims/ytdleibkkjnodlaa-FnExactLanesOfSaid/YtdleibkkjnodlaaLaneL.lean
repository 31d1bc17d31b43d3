/- LanesOf and LanesDepth of both sides. -/
import Derived.Test.YtdleibkkjnodlaaLaneS
import Derived.Test.YtdleibkkjnodlaaLaneI
namespace Go.Proofs.Ytdleibkkjnodlaa
open Go.RowKit
set_option linter.unusedVariables false

noncomputable def lanesZ (bs : List VTxn) : List (List Int) := if txnsB bs = true then lanesT bs else []
noncomputable def depthZ (bs : List VTxn) : Int := if txnsB bs = true then (depthTo (lanesT bs) (lanesT bs).length : Int) else -1
theorem txnsB_len {bs : List VTxn} (h : txnsB bs = true) : bs.length ≤ 16 := by simp only [txnsB, Bool.and_eq_true, decide_eq_true_eq] at h; exact h.2
theorem lanesT_len {bs : List VTxn} : (lanesT bs).length ≤ bs.length := groupsTo_len _ _ _
theorem lanesT_one {bs : List VTxn} {i : Nat} (h : i < (lanesT bs).length) : (nthL (lanesT bs) i).length ≤ bs.length := by
  obtain ⟨v, _, _, e⟩ := mem_groups.1 (nthL_mem (show i < (groupsTo (labOf (edgeT bs) bs.length) bs.length bs.length).length from h))
  show (nthL (groupsTo (labOf (edgeT bs) bs.length) bs.length bs.length) i).length ≤ _
  rw [e]; exact grp_len _ _ _
theorem MadeL.none {w : World} : MadeL w [] (.returned (.slice (some ⟨w.heap.size, 0, none⟩) 0 0)) (w.alloc (.cells #[] 24)) :=
  ⟨w.heap.size, 0, [], rfl, rfl, Lanes.start w (Nat.le_refl _), allocB w _⟩
set_option maxHeartbeats 2000000 in
theorem s_LanesOf (A : Option Addr) (c : Nat) (bs : List VTxn) (w : World) (h : LstTxn w w.heap.size A bs) (hn : bs.length ≤ 1048576) :
    Calls Try.prog 25 #[.slice A bs.length c] w (MadeL w (lanesZ bs)) := by
  have H := Lib.hid h
  rcases hv : txnsB bs with _ | _
  · rw [show lanesZ bs = [] by simp [lanesZ, hv]]
    go_enter Try.func25, Try.ntmps25
    go_wp2_with fail
    refine (s_txns _ _ bs _ h hn).mono ?_
    rw [hv]
    rintro e w1 ⟨rfl, b1⟩
    have B1 := Lib.hid b1
    clear b1
    go_wp2_with fail
    go_ret
    exact ⟨w1.heap.size, 0, [], rfl, rfl, (Lanes.start w1 (Nat.le_refl _)).less B1.out.size, next B1.out (allocB w1 _)⟩
  · rw [show lanesZ bs = lanesT bs by simp [lanesZ, hv]]
    have hl := txnsB_len hv
    go_enter Try.func25, Try.ntmps25
    go_wp2_with fail
    refine (s_txns _ _ bs _ h hn).mono ?_
    rw [hv]
    rintro e w1 ⟨rfl, b1⟩
    have B1 := Lib.hid b1
    have H1 := Lib.hid (H.out.carry b1)
    clear b1 hv h
    go_wp2_with fail
    refine (s_l32Lanes _ _ bs _ H1.out hl).mono ?_
    rintro e w2 ⟨g, cap, xs, rfl, hx, hla, b2⟩
    have HX := Lib.hid hx
    have HL := Lib.hid (hla.less B1.out.size)
    have B2 := Lib.hid (next B1.out b2)
    clear hx hla b2
    go_wp2_with fail
    go_ret
    exact ⟨g, cap, xs, rfl, HX.out, HL.out, B2.out⟩
set_option maxHeartbeats 4000000 in
theorem s_LanesDepth (A : Option Addr) (c : Nat) (bs : List VTxn) (w : World) (h : LstTxn w w.heap.size A bs) (hn : bs.length ≤ 1048576) :
    Calls Try.prog 18 #[.slice A bs.length c] w fun e w' => e = .returned (.int .i64 (depthZ bs)) ∧ Below w.heap.size w w' := by
  have H := Lib.hid h
  rcases hv : txnsB bs with _ | _
  · rw [show depthZ bs = -1 by simp [depthZ, hv]]
    go_enter Try.func18, Try.ntmps18
    go_wp2_with fail
    refine (s_txns _ _ bs _ h hn).mono ?_
    rw [hv]
    rintro e w1 ⟨rfl, b1⟩
    have B1 := Lib.hid b1
    clear b1
    go_wp2_with fail
    go_ret
    exact ⟨rfl, B1.out⟩
  · rw [show depthZ bs = (depthTo (lanesT bs) (lanesT bs).length : Int) by simp [depthZ, hv]]
    have hl := txnsB_len hv
    have hlen := Nat.le_trans (lanesT_len (bs := bs)) hl
    have hd := fun i (hi : i < (lanesT bs).length) => Nat.le_trans (lanesT_one hi) hl
    obtain ⟨ls, hls⟩ : ∃ ls, lanesT bs = ls := ⟨_, rfl⟩
    rw [hls] at hlen hd ⊢
    have HLS := Lib.hid hls
    have HD := Lib.hid hd
    clear hls hd
    go_enter Try.func18, Try.ntmps18
    go_wp2_with fail
    refine (s_txns _ _ bs _ h hn).mono ?_
    rw [hv]
    rintro e w1 ⟨rfl, b1⟩
    have B1 := Lib.hid b1
    have H1 := Lib.hid (H.out.carry b1)
    clear b1 hv h
    go_wp2_with fail
    refine (s_l32Lanes _ _ bs _ H1.out hl).mono ?_
    intro e w2 hm
    rw [HLS.out] at hm
    obtain ⟨g, cap, rfl, hll, b2⟩ := hm.lls
    have HL := Lib.hid hll
    have B2 := Lib.hid (next B1.out b2)
    clear hll b2 hm B1 H1 H HLS
    go_wp2_with fail
    go_loop [3, 5] (fun v q => ∃ k : Nat, k ≤ ls.length ∧ q = .int .i64 k ∧ v = .int .i64 (depthTo ls k : Int)) (fun _ q => ls.length - (intOf q).toNat)
    case atStart => exact ⟨0, Nat.zero_le _, rfl, rfl⟩
    case round =>
      obtain ⟨k, hk, rfl, rfl⟩ := hrel
      by_cases hlt : k < ls.length
      · obtain ⟨b, off, hgb, hbb, hc⟩ := HL.out.at_ hlt
        injection hgb with hgb
        injection hgb with e1 e2
        subst e1; subst e2
        obtain ⟨A', c', c0, _, hcc⟩ := hc k hlt
        rw [Nat.zero_add] at c0
        have hd16 := HD.out k hlt
        have HN := Lib.hid (show depthTo ls (k + 1) = max (depthTo ls k) (nthL ls k).length from rfl)
        have hdp : depthTo ls k ≤ 16 := depthTo_le (fun i hi => HD.out i (by omega))
        clear hc
        generalize (nthL ls k).length = l at c0 hd16 HN hcc
        generalize depthTo ls k = d at hdp HN ⊢
        by_cases hm : d < l
        · have hm2 : ¬ l < d := by omega
          have hm3 : ¬ l ≤ d := by omega
          go_wp2_with fail
          go_round
          case rel => exact ⟨k + 1, by omega, by go_num, by rw [HN.out, Nat.max_eq_right (by omega)]⟩
          case measure => simp [intOf]; omega
        · have hm2 : l ≤ d := by omega
          go_wp2_with fail
          go_round
          case rel => exact ⟨k + 1, by omega, by go_num, by rw [HN.out, Nat.max_eq_left (by omega)]⟩
          case measure => simp [intOf]; omega
      · have e : k = ls.length := by omega
        subst e
        go_wp2_with fail
        go_ret
        exact ⟨rfl, B2.out⟩
set_option maxHeartbeats 2000000 in
theorem i_LanesOf (A : Option Addr) (c : Nat) (bs : List VTxn) (w : World) (h : LstTxn w w.heap.size A bs) (hn : bs.length ≤ 1048576) :
    Calls Try.prog 23 #[.slice A bs.length c] w (MadeL w (lanesZ bs)) := by
  have H := Lib.hid h
  rcases hv : txnsB bs with _ | _
  · rw [show lanesZ bs = [] by simp [lanesZ, hv]]
    go_enter Try.func23, Try.ntmps23
    go_wp2_with fail
    refine (i_txns _ _ bs _ h hn).mono ?_
    rw [hv]
    rintro e w1 ⟨rfl, b1⟩
    have B1 := Lib.hid b1
    clear b1
    go_wp2_with fail
    go_ret
    exact ⟨w1.heap.size, 0, [], rfl, rfl, (Lanes.start w1 (Nat.le_refl _)).less B1.out.size, next B1.out (allocB w1 _)⟩
  · rw [show lanesZ bs = lanesT bs by simp [lanesZ, hv]]
    have hl := txnsB_len hv
    go_enter Try.func23, Try.ntmps23
    go_wp2_with fail
    refine (i_txns _ _ bs _ h hn).mono ?_
    rw [hv]
    rintro e w1 ⟨rfl, b1⟩
    have B1 := Lib.hid b1
    have H1 := Lib.hid (H.out.carry b1)
    clear b1 hv h
    go_wp2_with fail
    refine (i_lanesOf _ _ bs _ H1.out hl).mono ?_
    rintro e w2 ⟨g, cap, xs, rfl, hx, hla, b2⟩
    have HX := Lib.hid hx
    have HL := Lib.hid (hla.less B1.out.size)
    have B2 := Lib.hid (next B1.out b2)
    clear hx hla b2
    go_wp2_with fail
    go_ret
    exact ⟨g, cap, xs, rfl, HX.out, HL.out, B2.out⟩
set_option maxHeartbeats 4000000 in
theorem i_LanesDepth (A : Option Addr) (c : Nat) (bs : List VTxn) (w : World) (h : LstTxn w w.heap.size A bs) (hn : bs.length ≤ 1048576) :
    Calls Try.prog 20 #[.slice A bs.length c] w fun e w' => e = .returned (.int .i64 (depthZ bs)) ∧ Below w.heap.size w w' := by
  have H := Lib.hid h
  rcases hv : txnsB bs with _ | _
  · rw [show depthZ bs = -1 by simp [depthZ, hv]]
    go_enter Try.func20, Try.ntmps20
    go_wp2_with fail
    refine (i_txns _ _ bs _ h hn).mono ?_
    rw [hv]
    rintro e w1 ⟨rfl, b1⟩
    have B1 := Lib.hid b1
    clear b1
    go_wp2_with fail
    go_ret
    exact ⟨rfl, B1.out⟩
  · rw [show depthZ bs = (depthTo (lanesT bs) (lanesT bs).length : Int) by simp [depthZ, hv]]
    have hl := txnsB_len hv
    have hlen := Nat.le_trans (lanesT_len (bs := bs)) hl
    have hd := fun i (hi : i < (lanesT bs).length) => Nat.le_trans (lanesT_one hi) hl
    obtain ⟨ls, hls⟩ : ∃ ls, lanesT bs = ls := ⟨_, rfl⟩
    rw [hls] at hlen hd ⊢
    have HLS := Lib.hid hls
    have HD := Lib.hid hd
    clear hls hd
    go_enter Try.func20, Try.ntmps20
    go_wp2_with fail
    refine (i_txns _ _ bs _ h hn).mono ?_
    rw [hv]
    rintro e w1 ⟨rfl, b1⟩
    have B1 := Lib.hid b1
    have H1 := Lib.hid (H.out.carry b1)
    clear b1 hv h
    go_wp2_with fail
    refine (i_lanesOf _ _ bs _ H1.out hl).mono ?_
    intro e w2 hm
    rw [HLS.out] at hm
    obtain ⟨g, cap, rfl, hll, b2⟩ := hm.lls
    have HL := Lib.hid hll
    have B2 := Lib.hid (next B1.out b2)
    clear hll b2 hm B1 H1 H HLS
    go_wp2_with fail
    go_loop [3, 12] (fun v q => ∃ k : Nat, k ≤ ls.length ∧ q = .int .i64 k ∧ v = .int .i64 (depthTo ls k : Int)) (fun _ q => ls.length - (intOf q).toNat)
    case atStart => exact ⟨0, Nat.zero_le _, rfl, rfl⟩
    case round =>
      obtain ⟨k, hk, rfl, rfl⟩ := hrel
      by_cases hlt : k < ls.length
      · obtain ⟨b, off, hgb, hbb, hc⟩ := HL.out.at_ hlt
        injection hgb with hgb
        injection hgb with e1 e2
        subst e1; subst e2
        obtain ⟨A', c', c0, _, hcc⟩ := hc k hlt
        rw [Nat.zero_add] at c0
        have hd16 := HD.out k hlt
        have HN := Lib.hid (show depthTo ls (k + 1) = max (depthTo ls k) (nthL ls k).length from rfl)
        have hdp : depthTo ls k ≤ 16 := depthTo_le (fun i hi => HD.out i (by omega))
        clear hc
        generalize (nthL ls k).length = l at c0 hd16 HN hcc
        generalize depthTo ls k = d at hdp HN ⊢
        by_cases hm : d < l
        · have hm2 : ¬ l < d := by omega
          have hm3 : ¬ l ≤ d := by omega
          go_wp2_with fail
          go_round
          case rel => exact ⟨k + 1, by omega, by go_num, by rw [HN.out, Nat.max_eq_right (by omega)]⟩
          case measure => simp [intOf]; omega
        · have hm2 : l ≤ d := by omega
          go_wp2_with fail
          go_round
          case rel => exact ⟨k + 1, by omega, by go_num, by rw [HN.out, Nat.max_eq_left (by omega)]⟩
          case measure => simp [intOf]; omega
      · have e : k = ls.length := by omega
        subst e
        go_wp2_with fail
        go_ret
        exact ⟨rfl, B2.out⟩
end Go.Proofs.Ytdleibkkjnodlaa
