/- What the laws draw, further: sets of members; the draws that begin with opening a code. -/
import Derived.Test.YtejkcollhgekiaaDraw
namespace Go.Proofs.Ytejkcollhgekiaa
open Go.RowKit
set_option linter.unusedVariables false

/-- One list of at most M numbers was drawn. -/
def Drawn1 (w : World) (M : Nat) (e : Ending) (w' : World) : Prop :=
  ∃ (g c : Nat) (zs : List Int), e = .returned (.slice (some ⟨g, 0, none⟩) zs.length c) ∧ IntsUp w' w.heap.size (some ⟨g, 0, none⟩) zs ∧ zs.length ≤ M ∧ zs.length ≤ c ∧ Below w.heap.size w w'
/-- Two lists were drawn. -/
def Drawn2 (w : World) (M M' : Nat) (e : Ending) (w' : World) : Prop :=
  ∃ (g c : Nat) (zs : List Int) (g' c' : Nat) (ys : List Int), e = .returned (.tuple #[.slice (some ⟨g, 0, none⟩) zs.length c, .slice (some ⟨g', 0, none⟩) ys.length c']) ∧
    IntsUp w' w.heap.size (some ⟨g, 0, none⟩) zs ∧ zs.length ≤ M ∧ zs.length ≤ c ∧ IntsUp w' w.heap.size (some ⟨g', 0, none⟩) ys ∧ ys.length ≤ M' ∧ ys.length ≤ c' ∧ Below w.heap.size w w'
set_option maxHeartbeats 1000000 in
theorem s_DrawCommitteeValid (A : Option Addr) (c : Nat) (zs : List Int) (w : World) (h : Bytes w w.heap.size A zs) (hc : zs.length ≤ c) (hn : zs.length ≤ 1048576) :
    Calls Try.prog 25 #[.slice A zs.length c] w (Drawn1 w 11) := by
  have H := Lib.hid h
  clear h
  go_enter Try.func25, Try.ntmps25
  go_wp2_with fail
  refine (l6Open_any _ _ _ _ H.out hc hn).mono ?_
  rintro e w1 ⟨rfl, r1, b1, s1⟩
  have R1 := Lib.hid r1
  have B1 := Lib.hid b1
  clear r1 b1
  go_wp2_with fail
  refine (s_l91Committee _ _ _ _ R1.out (by omega)).mono ?_
  rintro e w2 ⟨g, c2, ys, rfl, u2, l2, lc2, r2, g2⟩
  have U2 := Lib.hid u2
  have G2 := Lib.hid g2
  clear u2 g2 r2
  go_wp2_with fail
  go_ret
  exact ⟨g, c2, ys, rfl, U2.out.less (by omega), l2, lc2, B1.out.trans (gr_to_below G2.out (Nat.le_refl _) (by omega))⟩
end Go.Proofs.Ytejkcollhgekiaa
