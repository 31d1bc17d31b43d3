/- What the laws draw, further: leaders. -/
import Derived.Test.YtohnodphlaoohaaDraw
import Derived.Test.YtohnodphlaoohaaAppMake
namespace Go.Proofs.Ytohnodphlaoohaa
open Go.RowKit
set_option linter.unusedVariables false

set_option maxHeartbeats 4000000 in
theorem s_l92Leaders (w : World) (B r P m n : Nat) (A : Option Addr) (cm : Nat) (h : RdAt w B r P) (hP : P ≤ 900000) (hn : n ≤ 1000) (hm : m ≤ 1000) :
    Calls Try.prog 100 #[.pointer (some ⟨r, 0, none⟩), .slice A m cm, .int .i64 (n : Int)] w (DrawnI w B r (P + n + 2) (n + 15)) := by
  have hrl := h.lt
  have hrd0 := h.carry ((Below.refl _ _).alloc (Nat.le_refl _) (.cells #[] 3))
  have own0 : OwnI (w.alloc (.cells #[] 3)) w.heap.size (.slice (some ⟨w.heap.size, 0, none⟩) 0 0) [] := OwnI.start (Nat.le_refl _)
  have gr0 : w.grownBy (w.alloc (.cells #[] 3)) (some r) := gr_alloc (gr_refl w r) _
  have O1 := Lib.hid own0
  have G1 := Lib.hid gr0
  have R1 := Lib.hid hrd0
  clear h hrd0 own0 gr0
  go_enter Try.func100, Try.ntmps100
  go_wp2_with fail
  go_loopw [7, 8] (fun v i wr => ∃ (k g cap : Nat) (zs : List Int), k ≤ n ∧ zs.length ≤ k ∧ i = .int .i64 k ∧ v = .slice (some ⟨g, 0, none⟩) zs.length cap ∧ OwnI wr w.heap.size v zs ∧ RdAt wr B r (P + k) ∧ w.grownBy wr (some r)) (fun _ i _ => n - (intOf i).toNat)
  case atStart => exact ⟨0, w.heap.size, 0, [], Nat.zero_le _, Nat.le_refl _, rfl, rfl, O1.out, R1.out, G1.out⟩
  case round =>
    obtain ⟨k, g, cap, zs, hk, hzk, rfl, rfl, hown, hrd, hgr⟩ := hrel
    have HO := Lib.hid hown
    have HR := Lib.hid hrd
    have HG := Lib.hid hgr
    clear hown hrd hgr
    by_cases hlt : k < n
    · by_cases hmm : (1 : Int) ≤ (m : Int)
      all_goals
        go_wp2_with fail
        refine (pick_any _ B r _ _ HR.out (by omega)).mono ?_
        rintro e w2 ⟨y, rfl, hy0, _, hy4, hrd2, hg2, hs2⟩
        have O2 := Lib.hid (HO.out.kept hg2 (fun g hg => by injection hg; omega))
        have G2 := Lib.hid (HG.out.trans hg2)
        have R2 := Lib.hid hrd2
        have hbs : w.heap.size ≤ w2.heap.size := G2.out.size
        have hzl : zs.length ≤ 10000000 := by omega
        clear hrd2 hg2 hs2 hy4
        go_wp2_with (at_builtin; refine appendInt (by rfl) _ _ (by rfl) w2 w.heap.size _ zs _ (by rfl) O2.out (by rfl) hzl hbs ?_; intro g1 cap1 w4 own4 hg4)
        have O4 := Lib.hid own4
        have G4 := Lib.hid (gr_own G2.out hg4 (fun g hg => O2.out.base_le g hg))
        have R4 := Lib.hid (R2.out.grown hg4 (fun g hg => by have := O2.out.base_le g hg; omega))
        clear own4 hg4
        go_wp2_with fail
        go_roundw
        case rel => exact ⟨k + 1, g1, cap1, zs ++ [y], by omega, by rw [List.length_append]; simp; omega, by go_num, by rw [List.length_append]; rfl, O4.out, (R4.out).mono (by omega), G4.out⟩
        case measure => simp [intOf]; omega
    · go_wp2_with fail
      refine (pick_any _ B r _ 24 HR.out (by omega)).mono ?_
      rintro e w2 ⟨y, rfl, hy0, _, hy24, hrd2, hg2, hs2⟩
      have O2 := Lib.hid (HO.out.kept hg2 (fun g hg => by injection hg; omega))
      have G2 := Lib.hid (HG.out.trans hg2)
      have R2 := Lib.hid hrd2
      have hbs : w.heap.size ≤ w2.heap.size := G2.out.size
      have hzl : zs.length ≤ 10000000 := by omega
      have hcap : zs.length ≤ cap := (O2.out.up).2.2
      clear hrd2 hg2 hs2 hy24
      by_cases y0 : y = 0
      · have b0 := pos_of_beq y0
        clear y0
        go_wp2_with (at_builtin; refine appendInt (by rfl) _ _ (by rfl) w2 w.heap.size _ zs _ (by rfl) O2.out (by rfl) hzl hbs ?_; intro g1 cap1 w4 own4 hg4)
        have O4 := Lib.hid own4
        have G4 := Lib.hid (gr_own G2.out hg4 (fun g hg => O2.out.base_le g hg))
        have R4 := Lib.hid (R2.out.grown hg4 (fun g hg => by have := O2.out.base_le g hg; omega))
        clear own4 hg4
        go_wp2_with fail
        go_ret
        have hu := O4.out.up
        exact ⟨g1, cap1, _, ret_slice hu.1, hu.2.1, by rw [List.length_append]; simp; omega, hu.2.2, R4.out.mono (by omega), G4.out⟩
      have b0 := neg_of_beq y0
      by_cases y1 : y = 1
      · have b1 := pos_of_beq y1
        clear y0 y1
        have hz6 : zs.length ≤ 1000000 := by omega
        go_wp2_with (at_builtin; refine appendMake (by rfl) _ (by rfl) w2 w.heap.size _ zs (by rfl) O2.out hz6 hbs ?_; intro g1 cap1 w4 own4 hg4)
        have O4 := Lib.hid own4
        have G4 := Lib.hid (gr_own G2.out hg4 (fun g hg => O2.out.base_le g hg))
        have R4 := Lib.hid (R2.out.grown hg4 (fun g hg => by have := O2.out.base_le g hg; omega))
        clear own4 hg4
        go_wp2_with fail
        go_ret
        have hu := O4.out.up
        exact ⟨g1, cap1, _, ret_slice hu.1, hu.2.1, by rw [List.length_append]; show zs.length + 15 ≤ _; omega, hu.2.2, R4.out.mono (by omega), G4.out⟩
      have b1 := neg_of_beq y1
      clear y0 y1
      go_wp2_with fail
      go_ret
      exact ⟨g, cap, zs, rfl, (O2.out.up).2.1, by omega, hcap, R2.out.mono (by omega), G2.out⟩
/-- Two lists of numbers. -/
def DrawnLL (w : World) (M M' : Nat) (e : Ending) (w' : World) : Prop :=
  ∃ (g c g' c' : Nat) (zs ys : List Int), e = .returned (.tuple #[.slice (some ⟨g, 0, none⟩) zs.length c, .slice (some ⟨g', 0, none⟩) ys.length c']) ∧ Ints w' w'.heap.size (some ⟨g, 0, none⟩) zs ∧ Ints w' w'.heap.size (some ⟨g', 0, none⟩) ys ∧ zs.length ≤ M ∧ ys.length ≤ M' ∧ Below w.heap.size w w'
set_option maxHeartbeats 1000000 in
theorem s_DrawLeadersValid (A : Option Addr) (c : Nat) (zs : List Int) (w : World) (h : Bytes w w.heap.size A zs) (hc : zs.length ≤ c) (hn : zs.length ≤ 1048576) :
    Calls Try.prog 52 #[.slice A zs.length c] w (DrawnLL w 11 31) := by
  have H := Lib.hid h
  clear h
  go_enter Try.func52, Try.ntmps52
  go_wp2_with fail
  refine (l6Open_any _ _ _ _ H.out hc hn).mono ?_
  rintro e w1 ⟨rfl, r1, b1, s1⟩
  have hs1 : w.heap.size + 1 ≤ w1.heap.size := by omega
  have R1 := Lib.hid r1
  have B1 := Lib.hid b1
  clear r1 b1 s1
  go_wp2_with fail
  refine (s_l91Committee _ _ _ _ R1.out (by omega)).mono ?_
  rintro e w2 ⟨g, c2, ys, rfl, u2, l2, lc2, r2, g2⟩
  have U2 := Lib.hid u2
  have G2 := Lib.hid g2
  have R2 := Lib.hid r2
  clear u2 g2 r2
  go_wp2_with fail
  refine (pick_any _ _ _ _ 16 R2.out (by omega)).mono ?_
  rintro e w3 ⟨x, rfl, hx0, _, hxn, hrd3, hg3, hs3⟩
  have hx := hxn (by omega)
  obtain ⟨m, rfl⟩ := Int.eq_ofNat_of_zero_le hx0
  have hm : m ≤ 15 := by omega
  have U3 := Lib.hid (U2.out.grown hg3 (by omega))
  have G3 := Lib.hid (G2.out.trans hg3)
  have R3 := Lib.hid hrd3
  clear hrd3 hg3 hxn hs3 hx0 hx
  go_wp2_with fail
  refine (s_l92Leaders _ _ _ _ ys.length m _ _ R3.out (by omega) (by omega) (by omega)).mono ?_
  rintro e w4 ⟨g4, c4, ls, rfl, u4, l4, lc4, r4, hg4⟩
  have U4 := Lib.hid (U3.out.grown hg4 (by omega))
  have G4 := Lib.hid (G3.out.trans hg4)
  have V4 := Lib.hid u4
  clear u4 r4 hg4
  go_wp2_with fail
  go_ret2
  have hz := G4.out.size
  exact ⟨g, c2, g4, c4, ys, ls, rfl, U4.out.ints, V4.out.ints, l2, by omega, B1.out.trans (gr_to_below G4.out (Nat.le_refl _) (by omega))⟩
end Go.Proofs.Ytohnodphlaoohaa
