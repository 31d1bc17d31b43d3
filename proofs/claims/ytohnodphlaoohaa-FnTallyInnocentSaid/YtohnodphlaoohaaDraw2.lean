/- What the laws draw, further: sets of members; the draws that begin with opening a code. -/
import Derived.Test.YtohnodphlaoohaaDraw
namespace Go.Proofs.Ytohnodphlaoohaa
open Go.RowKit
set_option linter.unusedVariables false

set_option maxHeartbeats 4000000 in
theorem s_l91Members (w : World) (B r P n : Nat) (h : RdAt w B r P) (hP : P ≤ 900000) (hn : n ≤ 1000) :
    Calls Try.prog 112 #[.pointer (some ⟨r, 0, none⟩), .int .i64 (n : Int)] w (DrawnI w B r (P + n + 2) (n + 1)) := by
  have hrl := h.lt
  have hrd0 := h.carry ((Below.refl _ _).alloc (Nat.le_refl _) (.cells #[] 3))
  have own0 : OwnI (w.alloc (.cells #[] 3)) w.heap.size (.slice (some ⟨w.heap.size, 0, none⟩) 0 0) [] := OwnI.start (Nat.le_refl _)
  have gr0 : w.grownBy (w.alloc (.cells #[] 3)) (some r) := gr_alloc (gr_refl w r) _
  have O1 := Lib.hid own0
  have G1 := Lib.hid gr0
  have R1 := Lib.hid hrd0
  clear h hrd0 own0 gr0
  go_enter Try.func112, Try.ntmps112
  go_wp2_with fail
  go_loopw [5, 6] (fun v i wr => ∃ (k g cap : Nat) (zs : List Int), k ≤ n ∧ zs.length ≤ k ∧ i = .int .i64 k ∧ v = .slice (some ⟨g, 0, none⟩) zs.length cap ∧ OwnI wr w.heap.size v zs ∧ RdAt wr B r (P + k) ∧ w.grownBy wr (some r)) (fun _ i _ => n - (intOf i).toNat)
  case atStart => exact ⟨0, w.heap.size, 0, [], Nat.zero_le _, Nat.le_refl _, rfl, rfl, O1.out, R1.out, G1.out⟩
  case round =>
    obtain ⟨k, g, cap, zs, hk, hzk, rfl, rfl, hown, hrd, hgr⟩ := hrel
    have HO := Lib.hid hown
    have HR := Lib.hid hrd
    have HG := Lib.hid hgr
    clear hown hrd hgr
    by_cases hlt : k < n
    · go_wp2_with fail
      refine (pick_any _ B r _ 4 HR.out (by omega)).mono ?_
      rintro e w2 ⟨y, rfl, hy0, _, hy4, hrd2, hg2, hs2⟩
      have O2 := Lib.hid (HO.out.kept hg2 (fun g hg => by injection hg; omega))
      have G2 := Lib.hid (HG.out.trans hg2)
      have R2 := Lib.hid hrd2
      have hbs : w.heap.size ≤ w2.heap.size := G2.out.size
      have hzl : zs.length ≤ 10000000 := by omega
      clear hrd2 hg2 hs2 hy4
      by_cases hpos : 0 < y
      · go_wp2_with (at_builtin; refine appendInt (by rfl) _ _ (by rfl) w2 w.heap.size _ zs _ (by rfl) O2.out (by rfl) hzl hbs ?_; intro g1 cap1 w4 own4 hg4)
        have O4 := Lib.hid own4
        have G4 := Lib.hid (gr_own G2.out hg4 (fun g hg => O2.out.base_le g hg))
        have R4 := Lib.hid (R2.out.grown hg4 (fun g hg => by have := O2.out.base_le g hg; omega))
        clear own4 hg4
        go_wp2_with fail
        go_roundw
        case rel => exact ⟨k + 1, g1, cap1, zs ++ [(k : Int)], by omega, by rw [List.length_append]; simp; omega, by go_num, by rw [List.length_append]; rfl, O4.out, (R4.out).mono (by omega), G4.out⟩
        case measure => simp [intOf]; omega
      · go_wp2_with fail
        go_roundw
        case rel => exact ⟨k + 1, g, cap, zs, by omega, by omega, by go_num, rfl, O2.out, (R2.out).mono (by omega), G2.out⟩
        case measure => simp [intOf]; omega
    · go_wp2_with fail
      refine (pick_any _ B r _ 16 HR.out (by omega)).mono ?_
      rintro e w2 ⟨y, rfl, hy0, _, hy24, hrd2, hg2, hs2⟩
      have O2 := Lib.hid (HO.out.kept hg2 (fun g hg => by injection hg; omega))
      have G2 := Lib.hid (HG.out.trans hg2)
      have R2 := Lib.hid hrd2
      have hbs : w.heap.size ≤ w2.heap.size := G2.out.size
      have hzl : zs.length ≤ 10000000 := by omega
      have hcap : zs.length ≤ cap := (O2.out.up).2.2
      clear hrd2 hg2 hs2 hy24
      by_cases y0 : y = 0
      · have b0 := pos_of_beq y0
        clear y0
        go_wp2_with (at_builtin; refine appendInt (by rfl) _ _ (by rfl) w2 w.heap.size _ zs _ (by rfl) O2.out (by rfl) hzl hbs ?_; intro g1 cap1 w4 own4 hg4)
        have O4 := Lib.hid own4
        have G4 := Lib.hid (gr_own G2.out hg4 (fun g hg => O2.out.base_le g hg))
        have R4 := Lib.hid (R2.out.grown hg4 (fun g hg => by have := O2.out.base_le g hg; omega))
        clear own4 hg4
        go_wp2_with fail
        go_ret
        have hu := O4.out.up
        exact ⟨g1, cap1, _, ret_slice hu.1, hu.2.1, by rw [List.length_append]; simp; omega, hu.2.2, R4.out.mono (by omega), G4.out⟩
      have b0 := neg_of_beq y0
      by_cases y1 : y = 1
      · have b1 := pos_of_beq y1
        clear y0 y1
        go_wp2_with fail
        refine (pick_any _ B r _ 8 R2.out (by omega)).mono ?_
        rintro e w3 ⟨x3, rfl, hx30, _, hx3n, hrd3, hg3, hs3⟩
        have hx3 := hx3n (by omega)
        have O3 := Lib.hid (O2.out.kept hg3 (fun g hg => by injection hg; omega))
        have G3 := Lib.hid (G2.out.trans hg3)
        have R3 := Lib.hid hrd3
        have hs3' : w.heap.size ≤ w3.heap.size := G3.out.size
        clear hrd3 hg3 hs3 hx3n
        go_wp2_with (at_builtin; refine appendInt (by rfl) _ _ (by rfl) w3 w.heap.size _ zs _ (by rfl) O3.out (by rfl) hzl hs3' ?_; intro g1 cap1 w4 own4 hg4)
        have O4 := Lib.hid own4
        have G4 := Lib.hid (gr_own G3.out hg4 (fun g hg => O3.out.base_le g hg))
        have R4 := Lib.hid (R3.out.grown hg4 (fun g hg => by have := O3.out.base_le g hg; omega))
        clear own4 hg4
        go_wp2_with fail
        go_ret
        have hu := O4.out.up
        exact ⟨g1, cap1, _, ret_slice hu.1, hu.2.1, by rw [List.length_append]; simp; omega, hu.2.2, R4.out.mono (by omega), G4.out⟩
      have b1 := neg_of_beq y1
      clear y0 y1
      go_wp2_with fail
      go_ret
      exact ⟨g, cap, zs, rfl, (O2.out.up).2.1, by omega, hcap, R2.out.mono (by omega), G2.out⟩
/-- One list of at most M numbers was drawn. -/
def Drawn1 (w : World) (M : Nat) (e : Ending) (w' : World) : Prop :=
  ∃ (g c : Nat) (zs : List Int), e = .returned (.slice (some ⟨g, 0, none⟩) zs.length c) ∧ IntsUp w' w.heap.size (some ⟨g, 0, none⟩) zs ∧ zs.length ≤ M ∧ zs.length ≤ c ∧ Below w.heap.size w w'
/-- Two lists were drawn. -/
def Drawn2 (w : World) (M M' : Nat) (e : Ending) (w' : World) : Prop :=
  ∃ (g c : Nat) (zs : List Int) (g' c' : Nat) (ys : List Int), e = .returned (.tuple #[.slice (some ⟨g, 0, none⟩) zs.length c, .slice (some ⟨g', 0, none⟩) ys.length c']) ∧
    IntsUp w' w.heap.size (some ⟨g, 0, none⟩) zs ∧ zs.length ≤ M ∧ zs.length ≤ c ∧ IntsUp w' w.heap.size (some ⟨g', 0, none⟩) ys ∧ ys.length ≤ M' ∧ ys.length ≤ c' ∧ Below w.heap.size w w'
end Go.Proofs.Ytohnodphlaoohaa
