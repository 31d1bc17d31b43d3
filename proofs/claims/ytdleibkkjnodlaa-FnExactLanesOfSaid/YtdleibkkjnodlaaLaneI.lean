/- Lanes: the program's walk. -/
import Derived.Test.YtdleibkkjnodlaaLaneE
import Derived.RegionTactic
import Derived.Test.YtdleibkkjnodlaaReg
namespace Go.Proofs.Ytdleibkkjnodlaa
open Go.RowKit
set_option linter.unusedVariables false

theorem rel_here (M : Nat → Nat) (high low m : Nat) : rel M high low m m = M m := by unfold rel; rw [if_neg (by omega)]
theorem rel_yes {M : Nat → Nat} {high low m : Nat} (h : M m = high) : ∀ a, upd (rel M high low m) m low a = rel M high low (m + 1) a := by
  intro a; unfold upd rel
  by_cases e : a = m
  · subst e; rw [if_pos rfl, if_pos ⟨by omega, h⟩]
  · rw [if_neg e]
    by_cases h2 : a < m ∧ M a = high
    · rw [if_pos h2, if_pos ⟨by omega, h2.2⟩]
    · rw [if_neg h2, if_neg (fun h3 => h2 ⟨by omega, h3.2⟩)]
theorem rel_no {M : Nat → Nat} {high low m : Nat} (h : ¬ M m = high) : ∀ a, rel M high low m a = rel M high low (m + 1) a := by
  intro a; unfold rel
  by_cases h2 : a < m ∧ M a = high
  · rw [if_pos h2, if_pos ⟨by omega, h2.2⟩]
  · rw [if_neg h2, if_neg (fun h3 => h2 ⟨by
      by_cases e : a = m
      · subst e; exact absurd h3.2 h
      · omega, h3.2⟩)]
set_option maxRecDepth 100000 in
set_option maxHeartbeats 16000000 in
theorem i_lanesOf (A : Option Addr) (c : Nat) (bs : List VTxn) (w : World) (h : LstTxn w w.heap.size A bs) (hn : bs.length ≤ 16) :
    Calls Try.prog 49 #[.slice A bs.length c] w (MadeL w (lanesT bs)) := by
  have hmk := fun W : World => run_make_row' (P := Try.prog) 24 3 (.int .i64 0) 8 Try.underlying24 info_int rfl .i64 .i64 bs.length (by omega) (by omega) W
  have H := Lib.hid h
  have R0 := Lib.hid (LabRow.made w bs.length)
  have B0 := Lib.hid (allocB w (.cells (madeCells #[.int .i64 0] bs.length) 3))
  clear h
  go_enter Try.func49, Try.ntmps49
  go_wp2_with fail
  clear hmk
  go_loopw [20] (fun q wr => ∃ (i : Nat) (L : Nat → Nat), i ≤ bs.length ∧ q = .int .i64 i ∧ LabRow wr w.heap.size bs.length L ∧ Inc (edgeT bs) i 0 i L ∧ Below w.heap.size w wr) (fun q _ => bs.length - (intOf q).toNat)
  case atStart => exact ⟨0, _, Nat.zero_le _, rfl, R0.out, Inc.start _ _, B0.out⟩
  case round =>
    clear R0 B0
    obtain ⟨i, L, hin, rfl, hr, hm, hb⟩ := hrel
    have HR := Lib.hid hr
    have HM := Lib.hid hm
    have HB := Lib.hid hb
    clear hm hb
    by_cases hlt : i < bs.length
    · have c0 := hr.cell hlt
      have f0 := hr.free i
      have HR1 := Lib.hid (HR.out.set i i)
      have HB1 := Lib.hid (HB.out.setCell (p := ⟨w.heap.size, i, none⟩) (Nat.le_refl _) (.int .i64 (i : Int)))
      have HM1 := Lib.hid HM.out.add
      clear hr HR HB HM
      go_wp2_with fail
      clear c0 f0
      go_loopw [28] (fun q wr => ∃ (j : Nat) (M : Nat → Nat), j ≤ i ∧ q = .int .i64 j ∧ LabRow wr w.heap.size bs.length M ∧ Inc (edgeT bs) i j (i + 1) M ∧ Below w.heap.size w wr) (fun q _ => i - (intOf q).toNat)
      case atStart => exact ⟨0, _, Nat.zero_le _, rfl, HR1.out, HM1.out, HB1.out⟩
      case round =>
        clear HR1 HB1 HM1
        obtain ⟨j, M, hji, rfl, hr, hm, hb⟩ := hrel
        have HR := Lib.hid hr
        have HM := Lib.hid hm
        have HB := Lib.hid hb
        have hsz := hb.size
        clear hm hb
        by_cases hlt2 : j < i
        · have hjn : j < bs.length := by omega
          have m0 := hr.cell hlt
          have m1 := hr.cell hjn
          have hi0 : (0 : Int) ≤ (i : Int) := by omega
          have hi1 : (i : Int) < (bs.length : Int) := by omega
          have hj0 : (0 : Int) ≤ (j : Int) := by omega
          have hj1 : (j : Int) < (bs.length : Int) := by omega
          clear hr
          go_wp2_with fail
          go_quiet (fail)
          replace HR : Hid (LabRow (wr.drewN nq) w.heap.size bs.length M) := Lib.hid HR.out
          replace HB := Lib.hid (below_drewN HB.out nq)
          replace hsz : w.heap.size ≤ (wr.drewN nq).heap.size := hsz
          clear m0 m1
          generalize wr.drewN nq = w1 at HR HB hsz ⊢
          by_cases hne : M i = M j
          · have hb0 : ((M i : Int) != (M j : Int)) = false := by simp [hne]
            have HNE := Lib.hid hne
            clear hne
            go_wp2_with fail
            refine wp_region_grow (by kernel_rfl) (by kernel_rfl) ?_
            repeat (go_big_quiet_step (fail))
            refine wpQuiet_nil ?_
            rintro _ ⟨pq, rfl⟩
            have HR3 := Lib.hid (HR.out.carry pq.h)
            have HB3 := Lib.hid (HB.out.trans (pq.h.mono hsz))
            go_wp2_with fail
            go_roundw
            case rel => exact ⟨j + 1, M, by omega, by go_num, HR3.out, HM.out.skip (.inr HNE.out), HB3.out⟩
            case measure => simp [intOf]; omega
          · have hb0 : ((M i : Int) != (M j : Int)) = true := by simp; omega
            obtain ⟨b, off, rfl, hbb, hc⟩ := (H.out.below HB.out).at_ hlt
            obtain ⟨x0, x1, x2, x3⟩ := hc i hlt
            obtain ⟨y0, y1, y2, y3⟩ := hc j hjn
            obtain ⟨x, hx⟩ : ∃ x, x = nthTxn bs i := ⟨_, rfl⟩
            obtain ⟨y, hy⟩ : ∃ y, y = nthTxn bs j := ⟨_, rfl⟩
            rw [← hx] at x0 x1 x2 x3
            rw [← hy] at y0 y1 y2 y3
            have HC := Lib.hid (show confT bs i j = conflictB x.f x.t y.f y.t by unfold confT; rw [← hx, ← hy])
            clear hc hx hy
            have gx0 := fun p : GrowOf w1 => GrowOf.cell x0 p
            have gx1 := fun p : GrowOf w1 => GrowOf.cell x1 p
            have gx2 := fun p : GrowOf w1 => GrowOf.cell x2 p
            have gx3 := fun p : GrowOf w1 => GrowOf.cell x3 p
            have gy0 := fun p : GrowOf w1 => GrowOf.cell y0 p
            have gy1 := fun p : GrowOf w1 => GrowOf.cell y1 p
            have gy2 := fun p : GrowOf w1 => GrowOf.cell y2 p
            have gy3 := fun p : GrowOf w1 => GrowOf.cell y3 p
            have HNE := Lib.hid hne
            clear hne
            rcases hcf : conflictB x.f x.t y.f y.t with _ | _
            · have HC2 := Lib.hid hcf
              have HCC := Lib.hid (HC.out.trans hcf)
              clear hcf
              have T1 : Hid (∀ p : GrowOf w1, Calls Try.prog 27 #[.agg #[.int .i64 x.f, .int .i64 x.t, .int .i64 x.s, .int .i64 x.e], .agg #[.int .i64 y.f, .int .i64 y.t, .int .i64 y.s, .int .i64 y.e]] p.W fun e w' => e = .returned (.bool false) ∧ Below p.W.heap.size p.W w') := Lib.hid (fun p => by
                have h := i_TxnsConflict x.f x.t x.s x.e y.f y.t y.s y.e p.W
                rw [HC2.out] at h; exact h)
              go_wp2_with fail
              refine wp_region_grow (by kernel_rfl) (by kernel_rfl) ?_
              repeat (go_big_quiet_step (first | (go_at_call 27; with_reducible exact grow_below (T1.out _))))
              refine wpQuiet_nil ?_
              rintro _ ⟨pq, rfl⟩
              have HR3 := Lib.hid (HR.out.carry pq.h)
              have HB3 := Lib.hid (HB.out.trans (pq.h.mono hsz))
              clear gx0 gx1 gx2 gx3 gy0 gy1 gy2 gy3 x0 x1 x2 x3 y0 y1 y2 y3 T1
              go_wp2_with fail
              go_roundw
              case rel => exact ⟨j + 1, M, by omega, by go_num, HR3.out, HM.out.skip (.inl (fun he => by have := he.2.2; rw [HCC.out] at this; cases this)), HB3.out⟩
              case measure => simp [intOf]; omega
            · have HC2 := Lib.hid hcf
              have HCC := Lib.hid (HC.out.trans hcf)
              clear hcf
              have T1 : Hid (∀ p : GrowOf w1, Calls Try.prog 27 #[.agg #[.int .i64 x.f, .int .i64 x.t, .int .i64 x.s, .int .i64 x.e], .agg #[.int .i64 y.f, .int .i64 y.t, .int .i64 y.s, .int .i64 y.e]] p.W fun e w' => e = .returned (.bool true) ∧ Below p.W.heap.size p.W w') := Lib.hid (fun p => by
                have h := i_TxnsConflict x.f x.t x.s x.e y.f y.t y.s y.e p.W
                rw [HC2.out] at h; exact h)
              go_wp2_with fail
              refine wp_region_grow (by kernel_rfl) (by kernel_rfl) ?_
              repeat (go_big_quiet_step (first | (go_at_call 27; with_reducible exact grow_below (T1.out _))))
              refine wpQuiet_nil ?_
              rintro _ ⟨pq, rfl⟩
              have HR3 := Lib.hid (HR.out.carry pq.h)
              have HB3 := Lib.hid (HB.out.trans (pq.h.mono hsz))
              clear gx0 gx1 gx2 gx3 gy0 gy1 gy2 gy3 x0 x1 x2 x3 y0 y1 y2 y3 T1
              generalize pq.W = w4 at HR3 HB3 ⊢
              rcases Nat.lt_or_ge (M i) (M j) with hmm | hmm
              · have hmm2 : ¬ M j < M i := by omega
                go_wp2_with fail
                go_loopw [61] (fun q wr => ∃ m : Nat, m ≤ i + 1 ∧ q = .int .i64 m ∧ LabRow wr w.heap.size bs.length (rel M (M j) (M i) m) ∧ Below w.heap.size w wr) (fun q _ => i + 1 - (intOf q).toNat)
                case atStart => exact ⟨0, Nat.zero_le _, rfl, HR3.out.congr (fun a _ => (rel_zero _ _ _ a).symm), HB3.out⟩
                case round =>
                  clear HR3 HB3
                  obtain ⟨m, hmi, rfl, hr, hb⟩ := hrel
                  have HR4 := Lib.hid hr
                  have HB4 := Lib.hid hb
                  clear hb
                  by_cases hlt3 : m < i + 1
                  · have hmn : m < bs.length := by omega
                    have r0 := hr.cell hmn
                    rw [rel_here] at r0
                    have f0 := hr.free m
                    have hm2 : (m : Int) < (i : Int) + 1 := by omega
                    clear hr
                    by_cases he : M m = M j
                    · have hb1 : ((M m : Int) == (M j : Int)) = true := by simp [he]
                      have HS := Lib.hid (rel_yes (low := M i) he)
                      clear he
                      go_wp2_with fail
                      go_roundw
                      case rel => exact ⟨m + 1, by omega, by go_num, (HR4.out.set m (M i)).congr (fun a _ => HS.out a), HB4.out.setCell (Nat.le_refl _) _⟩
                      case measure => simp [intOf]; omega
                    · have hb1 : ((M m : Int) == (M j : Int)) = false := by simp; omega
                      have HS := Lib.hid (rel_no (low := M i) he)
                      clear he
                      go_wp2_with fail
                      go_roundw
                      case rel => exact ⟨m + 1, by omega, by go_num, HR4.out.congr (fun a _ => HS.out a), HB4.out⟩
                      case measure => simp [intOf]; omega
                  · have e : m = i + 1 := by omega
                    subst e
                    clear hr
                    have hmeet := HM.out.meet (high := M j) (low := M i) (edge_graph bs).symm ⟨hlt, hjn, HCC.out⟩ hlt2 HNE.out (by omega) (by omega)
                    have HME := Lib.hid hmeet
                    clear hmeet
                    go_wp2_with fail
                    go_roundw
                    case rel => exact ⟨j + 1, _, by omega, by go_num, HR4.out, HME.out, HB4.out⟩
                    case measure => simp [intOf]; omega
              · have hmm2 : M j < M i := by have := HNE.out; omega
                have hmm3 : ¬ M i < M j := by omega
                go_wp2_with fail
                go_loopw [61] (fun q wr => ∃ m : Nat, m ≤ i + 1 ∧ q = .int .i64 m ∧ LabRow wr w.heap.size bs.length (rel M (M i) (M j) m) ∧ Below w.heap.size w wr) (fun q _ => i + 1 - (intOf q).toNat)
                case atStart => exact ⟨0, Nat.zero_le _, rfl, HR3.out.congr (fun a _ => (rel_zero _ _ _ a).symm), HB3.out⟩
                case round =>
                  clear HR3 HB3
                  obtain ⟨m, hmi, rfl, hr, hb⟩ := hrel
                  have HR4 := Lib.hid hr
                  have HB4 := Lib.hid hb
                  clear hb
                  by_cases hlt3 : m < i + 1
                  · have hmn : m < bs.length := by omega
                    have r0 := hr.cell hmn
                    rw [rel_here] at r0
                    have f0 := hr.free m
                    have hm2 : (m : Int) < (i : Int) + 1 := by omega
                    clear hr
                    by_cases he : M m = M i
                    · have hb1 : ((M m : Int) == (M i : Int)) = true := by simp [he]
                      have HS := Lib.hid (rel_yes (low := M j) he)
                      clear he
                      go_wp2_with fail
                      go_roundw
                      case rel => exact ⟨m + 1, by omega, by go_num, (HR4.out.set m (M j)).congr (fun a _ => HS.out a), HB4.out.setCell (Nat.le_refl _) _⟩
                      case measure => simp [intOf]; omega
                    · have hb1 : ((M m : Int) == (M i : Int)) = false := by simp; omega
                      have HS := Lib.hid (rel_no (low := M j) he)
                      clear he
                      go_wp2_with fail
                      go_roundw
                      case rel => exact ⟨m + 1, by omega, by go_num, HR4.out.congr (fun a _ => HS.out a), HB4.out⟩
                      case measure => simp [intOf]; omega
                  · have e : m = i + 1 := by omega
                    subst e
                    clear hr
                    have hmeet := HM.out.meet (high := M i) (low := M j) (edge_graph bs).symm ⟨hlt, hjn, HCC.out⟩ hlt2 HNE.out (by omega) (by omega)
                    have HME := Lib.hid hmeet
                    clear hmeet
                    go_wp2_with fail
                    go_roundw
                    case rel => exact ⟨j + 1, _, by omega, by go_num, HR4.out, HME.out, HB4.out⟩
                    case measure => simp [intOf]; omega
        · have e : j = i := by omega
          subst e
          clear hr
          go_wp2_with fail
          go_roundw
          case rel => exact ⟨j + 1, M, by omega, by go_num, HR.out, HM.out.next, HB.out⟩
          case measure => simp [intOf]; omega
    · have e : i = bs.length := by omega
      subst e
      have HLab := Lib.hid (HM.out.lab (edge_graph bs))
      have hsz := HB.out.size
      clear HM hr
      go_wp2_with fail
      have O1 := Lib.hid (Lanes.start (base := w.heap.size + 1) wr (by have := HR.out.lt; omega))
      have ba := allocB wr (.cells #[] 24)
      have HR1 := Lib.hid (HR.out.carry ba)
      have HB1 := Lib.hid (HB.out.trans (ba.mono hsz))
      clear ba
      go_loopw [11, 80] (fun v i w3 => ∃ (k h cap : Nat) (xs : List LaneV), k ≤ bs.length ∧ i = .int .i64 k ∧ v = .slice (some ⟨h, 0, none⟩) xs.length cap ∧ Lanes w3 (w.heap.size + 1) h cap xs ∧ xs.map LaneV.zs = groupsTo L bs.length k ∧ LabRow w3 w.heap.size bs.length L ∧ Below w.heap.size w w3) (fun _ i _ => bs.length - (intOf i).toNat)
      case atStart => exact ⟨0, wr.heap.size, 0, [], Nat.zero_le _, rfl, rfl, O1.out, rfl, HR1.out, HB1.out⟩
      case round =>
        clear O1 HR1 HB1 HR HB
        obtain ⟨w3, rfl⟩ : ∃ w3 : World, w3 = wr := ⟨_, rfl⟩
        obtain ⟨k, h, cap, xs, hkn, rfl, rfl, hla, hgr, hr, hb⟩ := hrel
        have HLA := Lib.hid hla
        have HGR := Lib.hid hgr
        have HR := Lib.hid hr
        have HB := Lib.hid hb
        have hrl := hr.lt
        have hxl : xs.length ≤ 10000000 := by have := congrArg List.length hgr; rw [List.length_map] at this; have := groupsTo_len L bs.length k; omega
        have HXG := Lib.hid (fun x hx => (hla.lt x hx).2)
        clear hla hgr hr hb
        by_cases hlt5 : k < bs.length
        · have O2 := Lib.hid (OwnI.start (w := w3) (base := w3.heap.size) (Nat.le_refl _))
          have ba := allocB w3 (.cells #[] 3)
          have HLA1 := Lib.hid (HLA.out.below ba)
          have HR1 := Lib.hid (HR.out.carry ba)
          have HB1 := Lib.hid (HB.out.trans (ba.mono HB.out.size))
          have hs1 := ba.size
          clear ba
          go_wp2_with fail
          go_loopw [13, 86] (fun v i w4 => ∃ (q g c : Nat), q ≤ bs.length ∧ i = .int .i64 q ∧ v = .slice (some ⟨g, 0, none⟩) (selTo (fun j => decide (L j = k)) q).length c ∧ OwnI w4 w3.heap.size v (selTo (fun j => decide (L j = k)) q) ∧ Lanes w4 (w.heap.size + 1) h cap xs ∧ LabRow w4 w.heap.size bs.length L ∧ Below w.heap.size w w4 ∧ w3.heap.size ≤ w4.heap.size) (fun _ i _ => bs.length - (intOf i).toNat)
          case atStart => exact ⟨0, w3.heap.size, 0, Nat.zero_le _, rfl, rfl, O2.out, HLA1.out, HR1.out, HB1.out, hs1⟩
          case round =>
            clear O2 HLA1 HR1 HB1 hs1
            obtain ⟨w4, rfl⟩ : ∃ w4 : World, w4 = wr := ⟨_, rfl⟩
            obtain ⟨q, g, c, hqn, rfl, rfl, ho, hla, hr, hb, hz⟩ := hrel
            have HO := Lib.hid ho
            have HLA4 := Lib.hid hla
            have HR4 := Lib.hid hr
            have HB4 := Lib.hid hb
            have hll := selTo_len (fun j => decide (L j = k)) q
            have hg1 := (Own.blk ho).1
            have hll7 : (selTo (fun j => decide (L j = k)) q).length ≤ 10000000 := by omega
            clear ho hla hb
            by_cases hlt6 : q < bs.length
            · have c0 := hr.cell hlt6
              clear hr
              by_cases he : L q = k
              · have hbq : ((L q : Int) == (k : Int)) = true := by simp [he]
                have HS := Lib.hid (show selTo (fun j => decide (L j = k)) (q + 1) = selTo (fun j => decide (L j = k)) q ++ [(q : Int)] by rw [selTo, if_pos (by simp [he])])
                clear he
                go_wp2_with (at_builtin; refine appendInt (by rfl) _ _ (by rfl) w4 w3.heap.size _ (selTo (fun j => decide (L j = k)) q) _ (by rfl) HO.out (by rfl) hll7 hz ?_; intro g5 cap5 w5 own5 hg5)
                have O5 := Lib.hid own5
                have L5 := Lib.hid (HLA4.out.grown hg5 (fun e => Own.apart HLA4.out.own HO.out (by decide) (by simpa [Value.ownBlock] using e.symm)) (fun x hx e => by have := HXG.out x hx; have e2 : g = x.g := (by simpa [Value.ownBlock] using e); omega))
                have R5 := Lib.hid (HR4.out.grown hg5 (fun e => by have e2 : g = w.heap.size := (by simpa [Value.ownBlock] using e); omega))
                have B5 := Lib.hid (HB4.out.grown hg5 HB4.out.size (fun q hq => by have e2 : g = q := (by simpa [Value.ownBlock] using hq); omega))
                have z5 := Nat.le_trans hz hg5.size
                clear own5 hg5
                go_wp2_with fail
                go_roundw
                case rel => exact ⟨q + 1, g5, cap5, by omega, by go_num, by rw [HS.out, List.length_append]; rfl, by rw [HS.out]; exact O5.out, L5.out, R5.out, B5.out, z5⟩
                case measure => simp [intOf]; omega
              · have hbq : ((L q : Int) == (k : Int)) = false := by simp; omega
                have HS := Lib.hid (show selTo (fun j => decide (L j = k)) (q + 1) = selTo (fun j => decide (L j = k)) q by rw [selTo, if_neg (by simp [he])])
                clear he
                go_wp2_with fail
                go_roundw
                case rel => exact ⟨q + 1, g, c, by omega, by go_num, by rw [HS.out], by rw [HS.out]; exact HO.out, HLA4.out, HR4.out, HB4.out, hz⟩
                case measure => simp [intOf]; omega
            · have e : q = bs.length := by omega
              subst e
              clear hr
              have hgrp : selTo (fun j => decide (L j = k)) bs.length = grp L bs.length k := rfl
              simp only [hgrp] at HO hll hll7 ⊢
              clear hgrp
              by_cases hne : grp L bs.length k = []
              · have HNE := Lib.hid hne
                rw [hne] at HO
                rw [hne]
                simp only [List.length_nil] at HO ⊢
                clear hne hll hll7
                go_wp2_with fail
                go_roundw
                case rel => exact ⟨k + 1, h, cap, xs, by omega, by go_num, rfl, HLA4.out, by rw [groupsTo_no HNE.out]; exact HGR.out, HR4.out, HB4.out⟩
                case measure => simp [intOf]; omega
              · have HNE := Lib.hid hne
                have hlp2 : 0 < (grp L bs.length k).length := List.length_pos_iff.2 hne
                have hlp : (0 : Int) < ((grp L bs.length k).length : Int) := by omega
                clear hne
                have hb7 : w.heap.size + 1 ≤ w4.heap.size := by omega
                go_wp2_with (at_builtin; refine appendLane (by rfl) _ _ (by rfl) w4 (w.heap.size + 1) h cap xs g (grp L bs.length k).length c (by rfl) HLA4.out.own (by rfl) hxl hb7 ?_; intro g7 cap7 w7 own7 hg7)
                have L7 := Lib.hid (HLA4.out.snoc HO.out (by omega) HXG.out hg7 own7)
                have hhl := (Own.blk HLA4.out.own).1
                have R7 := Lib.hid (HR4.out.grown hg7 (fun e => by have e2 : h = w.heap.size := (by simpa using e); omega))
                have B7 := Lib.hid (HB4.out.grown hg7 HB4.out.size (fun q hq => by have e2 : h = q := (by simpa using hq); omega))
                clear own7 hg7
                go_wp2_with fail
                go_roundw
                case rel => exact ⟨k + 1, g7, cap7, xs ++ [⟨g, c, grp L bs.length k⟩], by omega, by go_num, by simp, L7.out, groups_next HGR.out HNE.out, R7.out, B7.out⟩
                case measure => simp [intOf]; omega
        · have e : k = bs.length := by omega
          subst e
          have hfin : xs.map LaneV.zs = lanesT bs := HGR.out.trans (lanesT_is HLab.out)
          have HFin := Lib.hid hfin
          clear hfin
          go_wp2_with fail
          go_ret
          exact ⟨h, cap, xs, ret_slice (by rw [← HFin.out, List.length_map]), HFin.out, HLA.out.less (by omega), HB.out⟩
end Go.Proofs.Ytdleibkkjnodlaa
