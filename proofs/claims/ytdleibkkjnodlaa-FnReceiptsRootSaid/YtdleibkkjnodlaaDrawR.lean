/- What the laws draw, further: lists of receipts. -/
import Derived.Test.YtdleibkkjnodlaaDraw6
import Derived.Test.YtdleibkkjnodlaaOwnReceipt
namespace Go.Proofs.Ytdleibkkjnodlaa
open Go.RowKit
set_option linter.unusedVariables false

theorem nthReceipt_set {bs : List VReceipt} {j i : Nat} {x : VReceipt} (hj : j < bs.length) : nthReceipt (bs.set j x) i = if i = j then x else nthReceipt bs i := by
  unfold nthReceipt
  by_cases e : i = j
  · subst e; rw [if_pos rfl]; simp [hj]
  · rw [if_neg e]; simp only [List.getD_eq_getElem?_getD]; rw [List.getElem?_set_ne (fun h => e h.symm)]
section
variable {w : World} {L g j : Nat} {bs : List VReceipt}
theorem LstUpReceipt.setI (h : LstUpReceipt w L (some ⟨g, 0, none⟩) bs) (hj : j < bs.length) (z : Int) : LstUpReceipt (w.setCell ⟨g, j * 3, none⟩ (.int .i64 z)) L (some ⟨g, 0, none⟩) (bs.set j ⟨z, (nthReceipt bs j).b, (nthReceipt bs j).d⟩) := fun hn => by
  obtain ⟨b, off, e, h1, h2, h3⟩ := h (by intro e; subst e; simp at hj)
  injection e with e
  injection e with e1 e2
  subst e1; subst e2
  refine ⟨g, 0, rfl, h1, by simpa [World.setCell] using h2, fun i hi => ?_⟩
  rw [List.length_set] at hi
  obtain ⟨c0, c1, c2⟩ := h3 i hi
  rw [nthReceipt_set hj]
  simp only [Nat.zero_add] at c0 c1 c2 ⊢
  by_cases e : i = j
  · subst e
    rw [if_pos rfl]
    exact ⟨World.cell?_setCell_same w _ _ c0, (World.cell?_setCell_other w _ _ _ (fun e2 => by injection e2; omega)).trans c1, (World.cell?_setCell_other w _ _ _ (fun e2 => by injection e2; omega)).trans c2⟩
  · rw [if_neg e]
    exact ⟨(World.cell?_setCell_other w _ _ _ (fun e2 => by injection e2; omega)).trans c0, (World.cell?_setCell_other w _ _ _ (fun e2 => by injection e2; omega)).trans c1, (World.cell?_setCell_other w _ _ _ (fun e2 => by injection e2; omega)).trans c2⟩
theorem LstUpReceipt.setB (h : LstUpReceipt w L (some ⟨g, 0, none⟩) bs) (hj : j < bs.length) (z : Bool) : LstUpReceipt (w.setCell ⟨g, j * 3 + 1, none⟩ (.bool z)) L (some ⟨g, 0, none⟩) (bs.set j ⟨(nthReceipt bs j).i, z, (nthReceipt bs j).d⟩) := fun hn => by
  obtain ⟨b, off, e, h1, h2, h3⟩ := h (by intro e; subst e; simp at hj)
  injection e with e
  injection e with e1 e2
  subst e1; subst e2
  refine ⟨g, 0, rfl, h1, by simpa [World.setCell] using h2, fun i hi => ?_⟩
  rw [List.length_set] at hi
  obtain ⟨c0, c1, c2⟩ := h3 i hi
  rw [nthReceipt_set hj]
  simp only [Nat.zero_add] at c0 c1 c2 ⊢
  by_cases e : i = j
  · subst e
    rw [if_pos rfl]
    exact ⟨(World.cell?_setCell_other w _ _ _ (fun e2 => by injection e2; omega)).trans c0, World.cell?_setCell_same w _ _ c1, (World.cell?_setCell_other w _ _ _ (fun e2 => by injection e2; omega)).trans c2⟩
  · rw [if_neg e]
    exact ⟨(World.cell?_setCell_other w _ _ _ (fun e2 => by injection e2; omega)).trans c0, (World.cell?_setCell_other w _ _ _ (fun e2 => by injection e2; omega)).trans c1, (World.cell?_setCell_other w _ _ _ (fun e2 => by injection e2; omega)).trans c2⟩
end
/-- Receipts were drawn into new memory. -/
def DrawnRcpts (w : World) (B r P : Nat) (e : Ending) (w' : World) : Prop :=
  ∃ (g c : Nat) (bs : List VReceipt), e = .returned (.slice (some ⟨g, 0, none⟩) bs.length c) ∧ bs.length ≤ 11 ∧ LstUpReceipt w' w.heap.size (some ⟨g, 0, none⟩) bs ∧ RdAt w' B r P ∧ w.grownBy w' (some r)
set_option maxHeartbeats 8000000 in
theorem s_l92Receipts (w : World) (B r P : Nat) (h : RdAt w B r P) (hP : P ≤ 800000) :
    Calls Try.prog 60 #[.pointer (some ⟨r, 0, none⟩)] w (DrawnRcpts w B r (P + 200)) := by
  have hrl := h.lt
  have H := Lib.hid (h.carry (allocB w (.cells #[] 26)))
  have O0 := Lib.hid (OwnReceipt.start (w := w) (base := w.heap.size) (Nat.le_refl _))
  have G0 := Lib.hid (gr_alloc (gr_refl w r) (.cells #[] 26))
  clear h
  go_enter Try.func60, Try.ntmps60
  go_wp2_with fail
  go_loopw [3, 4] (fun v i wr => ∃ (k g c : Nat) (bs : List VReceipt), i = .int .i64 k ∧ k ≤ 10 ∧ bs.length = k ∧ v = .slice (some ⟨g, 0, none⟩) k c ∧ OwnReceipt wr w.heap.size v bs ∧ RdAt wr B r (P + 9 * k) ∧ w.grownBy wr (some r)) (fun _ i _ => 11 - (intOf i).toNat)
  case atStart => exact ⟨0, w.heap.size, 0, [], rfl, by omega, rfl, rfl, O0.out, H.out, G0.out⟩
  case round =>
    clear O0 H G0
    obtain ⟨k, g, c, bs, rfl, hk, hl, rfl, ho, hr, hg⟩ := hrel
    have HL := Lib.hid hl
    have HO := Lib.hid ho
    have HG := Lib.hid hg
    have HR := Lib.hid hr
    clear hl ho hg hr
    go_wp2_with fail
    refine (pick_any _ B r _ 10 HR.out (by omega)).mono ?_
    rintro e w2 ⟨x2, rfl, hx2, _, hn2, hr2, hg2, hs2⟩
    have hl2 := hn2 (by omega)
    replace HO := Lib.hid (HO.out.kept hg2 (fun q hq => by injection hq; omega))
    replace HG := Lib.hid (HG.out.trans hg2)
    replace HR := Lib.hid hr2
    clear hn2 hs2 hg2 hr2
    by_cases hlt : (k : Int) < 1 + x2
    · have hd : decide ((k : Int) < 1 + x2) = true := by simpa using hlt
      go_wp2_with fail
      refine (s_l92Receipt _ B r _ HR.out (by omega)).mono ?_
      rintro e w3 ⟨i3, b3, d3, rfl, hr3, hg3⟩
      replace HO := Lib.hid (HO.out.kept hg3 (fun q hq => by injection hq; omega))
      replace HG := Lib.hid (HG.out.trans hg3)
      replace HR := Lib.hid hr3
      have hz3 := HG.out.size
      clear hg3 hr3
      have HO2 := Lib.hid (HO.out.alloc (.cells #[.int .i64 (k : Int), .bool b3, .int .i64 d3] 26))
      have HG2 := Lib.hid (gr_alloc HG.out (.cells #[.int .i64 (k : Int), .bool b3, .int .i64 d3] 26))
      have HR2 := Lib.hid (HR.out.carry (allocB w3 (.cells #[.int .i64 (k : Int), .bool b3, .int .i64 d3] 26)))
      have hle : bs.length ≤ 10000000 := by have := HL.out; omega
      go_wp2_with (at_builtin; refine appendReceipt (by rfl) _ _ (by rfl) (w3.alloc (.cells #[.int .i64 (k : Int), .bool b3, .int .i64 d3] 26)) w.heap.size _ bs ⟨k, b3, d3⟩ (by rfl) HO2.out (by simp [Act.eval]) hle (by simp; omega) ?_; intro g4 c4 w4 own4 hg4; rw [HL.out] at own4 ⊢)
      have O4 := Lib.hid own4
      have hge := HO2.out.base_le
      have G4 := Lib.hid (gr_own HG2.out hg4 hge)
      have hR4 : RdAt w4 B r (P + 9 * k + 1 + 8) := HR2.out.grown hg4 (fun q hq => by have := hge q hq; omega)
      have R4 := Lib.hid hR4
      clear own4 hg4 hge hR4
      go_wp2_with fail
      go_roundw
      case rel => exact ⟨k + 1, g4, c4, bs ++ [⟨k, b3, d3⟩], by go_num, by omega, by have := HL.out; simp; omega, rfl, O4.out, R4.out.mono (by omega), G4.out⟩
      case measure => simp [intOf]; omega
    · have hd : decide ((k : Int) < 1 + x2) = false := by simpa using hlt
      have hk1 : 1 ≤ k := by omega
      go_wp2_with fail
      refine (pick_any _ B r _ 16 HR.out (by omega)).mono ?_
      rintro e w3 ⟨x3, rfl, hx3, _, hn3, hr3, hg3, hs3⟩
      have hl3 := hn3 (by omega)
      replace HO := Lib.hid (HO.out.kept hg3 (fun q hq => by injection hq; omega))
      replace HG := Lib.hid (HG.out.trans hg3)
      replace HR := Lib.hid hr3
      clear hn3 hs3 hg3 hr3 hd
      by_cases h0 : x3 = 0
      · have hb0 : (x3 == 0) = true := by simp [h0]
        clear h0
        go_wp2_with fail
        refine (pick_any _ B r _ (k : Int) HR.out (by omega)).mono ?_
        rintro e w4 ⟨x4, rfl, hx4, _, hn4, hr4, hg4, hs4⟩
        have hl4 := hn4 (by omega)
        replace HO := Lib.hid (HO.out.kept hg4 (fun q hq => by injection hq; omega))
        replace HG := Lib.hid (HG.out.trans hg4)
        replace HR := Lib.hid hr4
        clear hn4 hs4 hg4 hr4
        go_wp2_with fail
        refine (pick_any _ B r _ 12 HR.out (by omega)).mono ?_
        rintro e w5 ⟨x5, rfl, hx5, _, hn5, hr5, hg5, hs5⟩
        have hl5 := hn5 (by omega)
        replace HO := Lib.hid (HO.out.kept hg5 (fun q hq => by injection hq; omega))
        replace HG := Lib.hid (HG.out.trans hg5)
        replace HR := Lib.hid hr5
        clear hn5 hs5 hg5 hr5
        obtain ⟨j, rfl⟩ : ∃ j : Nat, x4 = (j : Int) := ⟨x4.toNat, by omega⟩
        have hj : j < bs.length := by have := HL.out; omega
        have hjk : j < k := by omega
        have hu := HO.out.up.2.1
        obtain ⟨b', off', e', h1', h2', hc'⟩ := hu (by intro e; subst e; simp at hj)
        injection e' with e'
        injection e' with e1 e2
        subst e1; subst e2
        have c0 := (hc' j hj).1
        rw [Nat.zero_add] at c0
        have HO5 : OwnReceipt w5 w.heap.size (.slice (some ⟨g, 0, none⟩) bs.length c) bs := by rw [HL.out]; exact HO.out
        have f0 : w5.frozen? ⟨g, j * 3, none⟩ = false := HO5.1.frozenAt (j * 3)
        clear HO5
        have HU := Lib.hid hu
        clear hc' hu
        have hge := h1'
        go_wp2_with fail
        go_ret
        exact ⟨g, c, _, ret_slice (by rw [List.length_set]; exact HL.out.symm), by have := HL.out; rw [List.length_set]; omega, HU.out.setI hj x5, (HR.out.set (by omega) _ _).mono (by omega), gr_set HG.out hge _ _⟩
      · have hb0 : (x3 == 0) = false := by simp [h0]
        clear h0
        by_cases h1 : x3 = 1
        · have hb1 : (x3 == 1) = true := by simp [h1]
          clear h1
          go_wp2_with fail
          go_ret
          exact ⟨g, c, [], rfl, by simp, LstUpReceipt.nil _ _ _, HR.out.mono (by omega), HG.out⟩
        · have hb1 : (x3 == 1) = false := by simp [h1]
          clear h1
          go_wp2_with fail
          go_ret
          exact ⟨g, c, bs, ret_slice HL.out.symm, by have := HL.out; omega, HO.out.up.2.1, HR.out.mono (by omega), HG.out⟩
set_option maxHeartbeats 2000000 in
theorem s_DrawReceiptsRoot (A : Option Addr) (c : Nat) (zs : List Int) (w : World) (h : Bytes w w.heap.size A zs) (hc : zs.length ≤ c) (hn : zs.length ≤ 1048576) :
    Calls Try.prog 33 #[.slice A zs.length c] w fun e w' => ∃ (g c : Nat) (bs : List VReceipt), e = .returned (.slice (some ⟨g, 0, none⟩) bs.length c) ∧ bs.length ≤ 11 ∧ LstUpReceipt w' w.heap.size (some ⟨g, 0, none⟩) bs ∧ Below w.heap.size w w' := by
  go_enter Try.func33, Try.ntmps33
  go_wp2_with fail
  refine (l6Open_any A c zs w h hc hn).mono ?_
  rintro e w1 ⟨rfl, hr, hb, hs⟩
  have HR := Lib.hid hr
  have HB := Lib.hid hb
  have hz := hb.size
  clear hr hb h hs
  go_wp2_with fail
  refine (s_l92Receipts _ _ _ _ HR.out (by omega)).mono ?_
  rintro e w2 ⟨g, c2, bs, rfl, hl, hu, hr2, hg2⟩
  have HU := Lib.hid (hu.less hz)
  have HB2 := Lib.hid (HB.out.trans (gr_to_below hg2 (Nat.le_refl _) hz))
  clear hu hr2 hg2
  go_wp2_with fail
  go_ret
  exact ⟨g, c2, bs, rfl, hl, HU.out, HB2.out⟩
end Go.Proofs.Ytdleibkkjnodlaa
