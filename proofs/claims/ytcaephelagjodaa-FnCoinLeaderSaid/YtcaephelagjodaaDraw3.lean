/- What the laws draw, further: a committee and a value; leaders. -/
import Derived.Test.YtcaephelagjodaaDraw2
namespace Go.Proofs.Ytcaephelagjodaa
open Go.RowKit
set_option linter.unusedVariables false

/-- A list of at most M numbers and a number. -/
def DrawnIZ (w : World) (M : Nat) (lo hi : Int) (e : Ending) (w' : World) : Prop :=
  ∃ (g c : Nat) (zs : List Int) (x : Int), e = .returned (.tuple #[.slice (some ⟨g, 0, none⟩) zs.length c, .int .i64 x]) ∧ IntsUp w' w.heap.size (some ⟨g, 0, none⟩) zs ∧ zs.length ≤ M ∧ zs.length ≤ c ∧ lo ≤ x ∧ x ≤ hi ∧ Below w.heap.size w w'
set_option maxHeartbeats 1000000 in
theorem s_DrawCoinLeader (A : Option Addr) (c : Nat) (zs : List Int) (w : World) (h : Bytes w w.heap.size A zs) (hc : zs.length ≤ c) (hn : zs.length ≤ 1048576) :
    Calls Try.prog 38 #[.slice A zs.length c] w (DrawnIZ w 11 (-1) 251) := by
  have H := Lib.hid h
  clear h
  go_enter Try.func38, Try.ntmps38
  go_wp2_with fail
  refine (l6Open_any _ _ _ _ H.out hc hn).mono ?_
  rintro e w1 ⟨rfl, r1, b1, s1⟩
  have R1 := Lib.hid r1
  have B1 := Lib.hid b1
  clear r1 b1
  go_wp2_with fail
  refine (s_l91Committee _ _ _ _ R1.out (by omega)).mono ?_
  rintro e w2 ⟨g, c2, ys, rfl, u2, l2, lc2, r2, g2⟩
  have U2 := Lib.hid u2
  have G2 := Lib.hid g2
  have R2 := Lib.hid r2
  clear u2 g2 r2
  go_wp2_with fail
  refine (pick_any _ _ _ _ 253 R2.out (by omega)).mono ?_
  rintro e w3 ⟨x, rfl, hx0, _, hxn, hrd3, hg3, hs3⟩
  have hx := hxn (by omega)
  have G3 := Lib.hid hg3
  clear hrd3 hg3 hxn
  go_wp2_with fail
  go_ret2
  have hz := G2.out.size
  exact ⟨g, c2, ys, x - 1, rfl, (U2.out.grown G3.out (by omega)).less (by omega), l2, lc2, by omega, by omega, B1.out.trans (gr_to_below (G2.out.trans G3.out) (Nat.le_refl _) (by omega))⟩
end Go.Proofs.Ytcaephelagjodaa
