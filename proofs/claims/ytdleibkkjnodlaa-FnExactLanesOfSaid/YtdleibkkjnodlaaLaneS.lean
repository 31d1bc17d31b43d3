/- Lanes: the reference's walk. -/
import Derived.Test.YtdleibkkjnodlaaLaneE
import Derived.RegionTactic
import Derived.Test.YtdleibkkjnodlaaReg
import Derived.Outline
namespace Go.Proofs.Ytdleibkkjnodlaa
open Go.RowKit
set_option linter.unusedVariables false

set_option maxRecDepth 100000 in
set_option maxHeartbeats 16000000 in
theorem s_l32Lanes (A : Option Addr) (c : Nat) (bs : List VTxn) (w : World) (h : LstTxn w w.heap.size A bs) (hn : bs.length ≤ 16) :
    Calls Try.prog 46 #[.slice A bs.length c] w (MadeL w (lanesT bs)) := by
  have hmk := fun W : World => run_make_row' (P := Try.prog) 24 3 (.int .i64 0) 8 Try.underlying24 info_int rfl .i64 .i64 bs.length (by omega) (by omega) W
  have H := Lib.hid h
  have R0 := Lib.hid (LabRow.made w bs.length)
  have B0 := Lib.hid (allocB w (.cells (madeCells #[.int .i64 0] bs.length) 3))
  clear h
  go_enter Try.func46, Try.ntmps46
  go_wp2_with fail
  clear hmk
  go_loopw [4] (fun i wr => ∃ k : Nat, k ≤ bs.length ∧ i = .int .i64 k ∧ LabRow wr w.heap.size bs.length (initL k) ∧ Below w.heap.size w wr) (fun i _ => bs.length - (intOf i).toNat)
  case atStart => exact ⟨0, Nat.zero_le _, rfl, R0.out, B0.out⟩
  case round =>
    clear R0 B0
    obtain ⟨k, hk, rfl, hr, hb⟩ := hrel
    have HB := Lib.hid hb
    have HR := Lib.hid hr
    clear hb
    by_cases hlt : k < bs.length
    · have c0 := hr.cell hlt
      have f0 := hr.free k
      clear hr
      go_wp2_with fail
      go_roundw
      case rel => exact ⟨k + 1, by omega, by go_num, (HR.out.set k k).congr (fun i _ => initL_step k i), HB.out.setCell (Nat.le_refl _) _⟩
      case measure => simp [intOf]; omega
    · have e : k = bs.length := by omega
      subst e
      clear hr
      have HR2 := Lib.hid (HR.out.congr initL_all)
      clear HR
      go_wp2_with fail
      go_loopw [5] (fun i wr => ∃ (r : Nat) (L : Nat → Nat), r ≤ bs.length ∧ i = .int .i64 r ∧ LabRow wr w.heap.size bs.length L ∧ Pre (edgeT bs) bs.length L ∧ Far (edgeT bs) bs.length r L ∧ Below w.heap.size w wr) (fun i _ => bs.length - (intOf i).toNat)
      case atStart => exact ⟨0, _, Nat.zero_le _, rfl, HR2.out, Pre.start _ _, Far.start _ _ _, HB.out⟩
      case round =>
        clear HR2 HB
        obtain ⟨r, L, hrn, rfl, hr, hp, hf, hb⟩ := hrel
        have HR := Lib.hid hr
        have HP := Lib.hid hp
        have HF := Lib.hid hf
        have HB := Lib.hid hb
        clear hr hp hf hb
        by_cases hlt2 : r < bs.length
        · go_wp2_with fail
          go_loopw [6] (fun q wr => ∃ (i : Nat) (M : Nat → Nat), i ≤ bs.length ∧ q = .int .i64 i ∧ LabRow wr w.heap.size bs.length M ∧ Mid (edgeT bs) bs.length L M i 0 ∧ Below w.heap.size w wr) (fun q _ => bs.length - (intOf q).toNat)
          case atStart => exact ⟨0, L, Nat.zero_le _, rfl, HR.out, Mid.start HP.out, HB.out⟩
          case round =>
            clear HR HB
            obtain ⟨i, M, hin, rfl, hr, hm, hb⟩ := hrel
            have HR := Lib.hid hr
            have HM := Lib.hid hm
            have HB := Lib.hid hb
            clear hr hm hb
            by_cases hlt3 : i < bs.length
            · go_wp2_with fail
              go_loopw [7] (fun q wr => ∃ (k : Nat) (M : Nat → Nat), k ≤ i ∧ q = .int .i64 k ∧ LabRow wr w.heap.size bs.length M ∧ Mid (edgeT bs) bs.length L M i k ∧ Below w.heap.size w wr) (fun q _ => i - (intOf q).toNat)
              case atStart => exact ⟨0, M, Nat.zero_le _, rfl, HR.out, HM.out, HB.out⟩
              case round =>
                clear HR HB HM
                obtain ⟨k, M, hki, rfl, hr, hm, hb⟩ := hrel
                have HR := Lib.hid hr
                have HM := Lib.hid hm
                have HB := Lib.hid hb
                have hsz := hb.size
                clear hm hb
                by_cases hlt4 : k < i
                · have hkn : k < bs.length := by omega
                  obtain ⟨b, off, rfl, hbb, hc⟩ := (H.out.below HB.out).at_ hlt3
                  obtain ⟨x0, x1, x2, x3⟩ := hc i hlt3
                  obtain ⟨y0, y1, y2, y3⟩ := hc k hkn
                  have m0 := hr.cell hlt3
                  have m1 := hr.cell hkn
                  obtain ⟨x, hx⟩ : ∃ x, x = nthTxn bs i := ⟨_, rfl⟩
                  obtain ⟨y, hy⟩ : ∃ y, y = nthTxn bs k := ⟨_, rfl⟩
                  rw [← hx] at x0 x1 x2 x3
                  rw [← hy] at y0 y1 y2 y3
                  have HC := Lib.hid (show confT bs i k = conflictB x.f x.t y.f y.t by unfold confT; rw [← hx, ← hy])
                  clear hc hx hy hr
                  have gx0 := fun p : GrowOf wr => GrowOf.cell x0 p
                  have gx1 := fun p : GrowOf wr => GrowOf.cell x1 p
                  have gx2 := fun p : GrowOf wr => GrowOf.cell x2 p
                  have gx3 := fun p : GrowOf wr => GrowOf.cell x3 p
                  have gy0 := fun p : GrowOf wr => GrowOf.cell y0 p
                  have gy1 := fun p : GrowOf wr => GrowOf.cell y1 p
                  have gy2 := fun p : GrowOf wr => GrowOf.cell y2 p
                  have gy3 := fun p : GrowOf wr => GrowOf.cell y3 p
                  have hi0 : (0 : Int) ≤ (i : Int) := by omega
                  have hi1 : (i : Int) < (bs.length : Int) := by omega
                  have hk0 : (0 : Int) ≤ (k : Int) := by omega
                  have hk1 : (k : Int) < (bs.length : Int) := by omega
                  rcases hcf : conflictB x.f x.t y.f y.t with _ | _
                  · have HC2 := Lib.hid hcf
                    have HCC := Lib.hid (HC.out.trans hcf)
                    clear hcf
                    have T1 : Hid (∀ p : GrowOf wr, Calls Try.prog 72 #[.agg #[.int .i64 x.f, .int .i64 x.t, .int .i64 x.s, .int .i64 x.e], .agg #[.int .i64 y.f, .int .i64 y.t, .int .i64 y.s, .int .i64 y.e]] p.W fun e w' => e = .returned (.bool false) ∧ Below p.W.heap.size p.W w') := Lib.hid (fun p => by
                      have h := s_TxnsConflict x.f x.t x.s x.e y.f y.t y.s y.e p.W
                      rw [HC2.out] at h; exact h)
                    go_wp2_with fail
                    refine wp_region_grow (by kernel_rfl) (by kernel_rfl) ?_
                    repeat (go_big_quiet_step (first | (go_at_call 72; with_reducible exact grow_below (T1.out _))))
                    refine wpQuiet_nil ?_
                    rintro _ ⟨pq, rfl⟩
                    have HR3 := Lib.hid (HR.out.carry pq.h)
                    have HB3 := Lib.hid (HB.out.trans (pq.h.mono hsz))
                    clear gx0 gx1 gx2 gx3 gy0 gy1 gy2 gy3 x0 x1 x2 x3 y0 y1 y2 y3 T1
                    go_wp2_with fail
                    go_roundw
                    case rel => exact ⟨k + 1, M, by omega, by go_num, HR3.out, HM.out.skip (fun he => by have := he.2.2; rw [HCC.out] at this; cases this), HB3.out⟩
                    case measure => simp [intOf]; omega
                  · have HC2 := Lib.hid hcf
                    have HCC := Lib.hid (HC.out.trans hcf)
                    clear hcf
                    have T1 : Hid (∀ p : GrowOf wr, Calls Try.prog 72 #[.agg #[.int .i64 x.f, .int .i64 x.t, .int .i64 x.s, .int .i64 x.e], .agg #[.int .i64 y.f, .int .i64 y.t, .int .i64 y.s, .int .i64 y.e]] p.W fun e w' => e = .returned (.bool true) ∧ Below p.W.heap.size p.W w') := Lib.hid (fun p => by
                      have h := s_TxnsConflict x.f x.t x.s x.e y.f y.t y.s y.e p.W
                      rw [HC2.out] at h; exact h)
                    go_wp2_with fail
                    refine wp_region_grow (by kernel_rfl) (by kernel_rfl) ?_
                    repeat (go_big_quiet_step (first | (go_at_call 72; with_reducible exact grow_below (T1.out _))))
                    refine wpQuiet_nil ?_
                    rintro _ ⟨pq, rfl⟩
                    have HR3 := Lib.hid (HR.out.carry pq.h)
                    have HB3 := Lib.hid (HB.out.trans (pq.h.mono hsz))
                    clear gx0 gx1 gx2 gx3 gy0 gy1 gy2 gy3 x0 x1 x2 x3 y0 y1 y2 y3 T1
                    have m0 := HR3.out.cell hlt3
                    have m1 := HR3.out.cell hkn
                    generalize pq.W = w4 at HR3 HB3 m0 m1 ⊢
                    go_wp2_with fail
                    go_quiet (fail)
                    obtain ⟨m, hm1, hm2⟩ : ∃ m : Nat, (if M k < M i then (M k : Int) else (M i : Int)) = (m : Int) ∧ m = min (M i) (M k) := ⟨min (M i) (M k), by split <;> omega, rfl⟩
                    rw [hm1]
                    have HM2 := Lib.hid hm2
                    clear hm1 hm2 m0 m1
                    have HR4 : Hid (LabRow (w4.drewN nq) w.heap.size bs.length M) := Lib.hid HR3.out
                    have HB4 := Lib.hid (below_drewN HB3.out nq)
                    generalize w4.drewN nq = w5 at HR4 HB4 ⊢
                    clear HR3 HB3
                    have m0 := HR4.out.cell hlt3
                    have m1 := HR4.out.cell hkn
                    have f0 := HR4.out.free i
                    have f1 := HR4.out.free k
                    have hik : ¬ i = k := by omega
                    have hik2 : ¬ k = i := by omega
                    go_wp2_with fail
                    go_roundw
                    case rel => exact ⟨k + 1, upd (upd M i m) k m, by omega, by go_num, (HR4.out.set i m).set k m, HM.out.meet (edge_graph bs) ⟨hlt3, hkn, HCC.out⟩ hlt4 HM2.out, (HB4.out.setCell (Nat.le_refl _) _).setCell (Nat.le_refl _) _⟩
                    case measure => simp [intOf]; omega
                · have e : k = i := by omega
                  subst e
                  clear hr
                  go_wp2_with fail
                  go_roundw
                  case rel => exact ⟨k + 1, M, by omega, by go_num, HR.out, HM.out.next, HB.out⟩
                  case measure => simp [intOf]; omega
            · have e : i = bs.length := by omega
              subst e
              go_wp2_with fail
              go_roundw
              case rel => exact ⟨r + 1, M, by omega, by go_num, HR.out, HM.out.pre, HF.out.round (edge_graph bs) HP.out (HM.out.fin (edge_graph bs)), HB.out⟩
              case measure => simp [intOf]; omega
        · have e : r = bs.length := by omega
          subst e
          have HLab := Lib.hid (HF.out.lab (edge_graph bs) HP.out)
          clear HP HF
          have hsz := HB.out.size
          go_wp2_with fail
          have O1 := Lib.hid (Lanes.start (base := w.heap.size + 1) wr (by have := HR.out.lt; omega))
          have ba := allocB wr (.cells #[] 24)
          have HR1 := Lib.hid (HR.out.carry ba)
          have HB1 := Lib.hid (HB.out.trans (ba.mono hsz))
          clear ba
          go_loopw [9, 10] (fun v i w3 => ∃ (k h cap : Nat) (xs : List LaneV), k ≤ bs.length ∧ i = .int .i64 k ∧ v = .slice (some ⟨h, 0, none⟩) xs.length cap ∧ Lanes w3 (w.heap.size + 1) h cap xs ∧ xs.map LaneV.zs = groupsTo L bs.length k ∧ LabRow w3 w.heap.size bs.length L ∧ Below w.heap.size w w3) (fun _ i _ => bs.length - (intOf i).toNat)
          case atStart => exact ⟨0, wr.heap.size, 0, [], Nat.zero_le _, rfl, rfl, O1.out, rfl, HR1.out, HB1.out⟩
          case round =>
            clear O1 HR1 HB1 HR HB
            obtain ⟨w3, rfl⟩ : ∃ w3 : World, w3 = wr := ⟨_, rfl⟩
            obtain ⟨k, h, cap, xs, hkn, rfl, rfl, hla, hgr, hr, hb⟩ := hrel
            have HLA := Lib.hid hla
            have HGR := Lib.hid hgr
            have HR := Lib.hid hr
            have HB := Lib.hid hb
            have hrl := hr.lt
            have hxl : xs.length ≤ 10000000 := by have := congrArg List.length hgr; rw [List.length_map] at this; have := groupsTo_len L bs.length k; omega
            have HXG := Lib.hid (fun x hx => (hla.lt x hx).2)
            clear hla hgr hr hb
            by_cases hlt5 : k < bs.length
            · have O2 := Lib.hid (OwnI.start (w := w3) (base := w3.heap.size) (Nat.le_refl _))
              have ba := allocB w3 (.cells #[] 3)
              have HLA1 := Lib.hid (HLA.out.below ba)
              have HR1 := Lib.hid (HR.out.carry ba)
              have HB1 := Lib.hid (HB.out.trans (ba.mono HB.out.size))
              have hs1 := ba.size
              clear ba
              go_wp2_with fail
              go_loopw [11, 12] (fun v i w4 => ∃ (q g c : Nat), q ≤ bs.length ∧ i = .int .i64 q ∧ v = .slice (some ⟨g, 0, none⟩) (selTo (fun j => decide (L j = k)) q).length c ∧ OwnI w4 w3.heap.size v (selTo (fun j => decide (L j = k)) q) ∧ Lanes w4 (w.heap.size + 1) h cap xs ∧ LabRow w4 w.heap.size bs.length L ∧ Below w.heap.size w w4 ∧ w3.heap.size ≤ w4.heap.size) (fun _ i _ => bs.length - (intOf i).toNat)
              case atStart => exact ⟨0, w3.heap.size, 0, Nat.zero_le _, rfl, rfl, O2.out, HLA1.out, HR1.out, HB1.out, hs1⟩
              case round =>
                clear O2 HLA1 HR1 HB1 hs1
                obtain ⟨w4, rfl⟩ : ∃ w4 : World, w4 = wr := ⟨_, rfl⟩
                obtain ⟨q, g, c, hqn, rfl, rfl, ho, hla, hr, hb, hz⟩ := hrel
                have HO := Lib.hid ho
                have HLA4 := Lib.hid hla
                have HR4 := Lib.hid hr
                have HB4 := Lib.hid hb
                have hll := selTo_len (fun j => decide (L j = k)) q
                have hg1 := (Own.blk ho).1
                have hll7 : (selTo (fun j => decide (L j = k)) q).length ≤ 10000000 := by omega
                clear ho hla hb
                by_cases hlt6 : q < bs.length
                · have c0 := hr.cell hlt6
                  clear hr
                  by_cases he : L q = k
                  · have hbq : ((L q : Int) == (k : Int)) = true := by simp [he]
                    have HS := Lib.hid (show selTo (fun j => decide (L j = k)) (q + 1) = selTo (fun j => decide (L j = k)) q ++ [(q : Int)] by rw [selTo, if_pos (by simp [he])])
                    clear he
                    go_wp2_with (at_builtin; refine appendInt (by rfl) _ _ (by rfl) w4 w3.heap.size _ (selTo (fun j => decide (L j = k)) q) _ (by rfl) HO.out (by rfl) hll7 hz ?_; intro g5 cap5 w5 own5 hg5)
                    have O5 := Lib.hid own5
                    have L5 := Lib.hid (HLA4.out.grown hg5 (fun e => Own.apart HLA4.out.own HO.out (by decide) (by simpa [Value.ownBlock] using e.symm)) (fun x hx e => by have := HXG.out x hx; have e2 : g = x.g := (by simpa [Value.ownBlock] using e); omega))
                    have R5 := Lib.hid (HR4.out.grown hg5 (fun e => by have e2 : g = w.heap.size := (by simpa [Value.ownBlock] using e); omega))
                    have B5 := Lib.hid (HB4.out.grown hg5 HB4.out.size (fun q hq => by have e2 : g = q := (by simpa [Value.ownBlock] using hq); omega))
                    have z5 := Nat.le_trans hz hg5.size
                    clear own5 hg5
                    go_wp2_with fail
                    go_roundw
                    case rel => exact ⟨q + 1, g5, cap5, by omega, by go_num, by rw [HS.out, List.length_append]; rfl, by rw [HS.out]; exact O5.out, L5.out, R5.out, B5.out, z5⟩
                    case measure => simp [intOf]; omega
                  · have hbq : ((L q : Int) == (k : Int)) = false := by simp; omega
                    have HS := Lib.hid (show selTo (fun j => decide (L j = k)) (q + 1) = selTo (fun j => decide (L j = k)) q by rw [selTo, if_neg (by simp [he])])
                    clear he
                    go_wp2_with fail
                    go_roundw
                    case rel => exact ⟨q + 1, g, c, by omega, by go_num, by rw [HS.out], by rw [HS.out]; exact HO.out, HLA4.out, HR4.out, HB4.out, hz⟩
                    case measure => simp [intOf]; omega
                · have e : q = bs.length := by omega
                  subst e
                  clear hr
                  have hgrp : selTo (fun j => decide (L j = k)) bs.length = grp L bs.length k := rfl
                  simp only [hgrp] at HO hll hll7 ⊢
                  clear hgrp
                  by_cases hne : grp L bs.length k = []
                  · have HNE := Lib.hid hne
                    rw [hne] at HO
                    rw [hne]
                    simp only [List.length_nil] at HO ⊢
                    clear hne hll hll7
                    go_wp2_with fail
                    go_roundw
                    case rel => exact ⟨k + 1, h, cap, xs, by omega, by go_num, rfl, HLA4.out, by rw [groupsTo_no HNE.out]; exact HGR.out, HR4.out, HB4.out⟩
                    case measure => simp [intOf]; omega
                  · have HNE := Lib.hid hne
                    have hlp2 : 0 < (grp L bs.length k).length := List.length_pos_iff.2 hne
                    have hlp : (0 : Int) < ((grp L bs.length k).length : Int) := by omega
                    clear hne
                    have hb7 : w.heap.size + 1 ≤ w4.heap.size := by omega
                    go_wp2_with (at_builtin; refine appendLane (by rfl) _ _ (by rfl) w4 (w.heap.size + 1) h cap xs g (grp L bs.length k).length c (by rfl) HLA4.out.own (by rfl) hxl hb7 ?_; intro g7 cap7 w7 own7 hg7)
                    have L7 := Lib.hid (HLA4.out.snoc HO.out (by omega) HXG.out hg7 own7)
                    have hhl := (Own.blk HLA4.out.own).1
                    have R7 := Lib.hid (HR4.out.grown hg7 (fun e => by have e2 : h = w.heap.size := (by simpa using e); omega))
                    have B7 := Lib.hid (HB4.out.grown hg7 HB4.out.size (fun q hq => by have e2 : h = q := (by simpa using hq); omega))
                    clear own7 hg7
                    go_wp2_with fail
                    go_roundw
                    case rel => exact ⟨k + 1, g7, cap7, xs ++ [⟨g, c, grp L bs.length k⟩], by omega, by go_num, by simp, L7.out, groups_next HGR.out HNE.out, R7.out, B7.out⟩
                    case measure => simp [intOf]; omega
            · have e : k = bs.length := by omega
              subst e
              have hfin : xs.map LaneV.zs = lanesT bs := HGR.out.trans (lanesT_is HLab.out)
              have HFin := Lib.hid hfin
              clear hfin
              go_wp2_with fail
              go_ret
              exact ⟨h, cap, xs, ret_slice (by rw [← HFin.out, List.length_map]), HFin.out, HLA.out.less (by omega), HB.out⟩
end Go.Proofs.Ytdleibkkjnodlaa
