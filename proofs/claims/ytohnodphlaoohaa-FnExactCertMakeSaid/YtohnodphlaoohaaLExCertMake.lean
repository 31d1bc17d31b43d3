/- The law FnExactCertMake holds for every input: the program's CertMake returns what the reference's returns, in memory of its own. -/
import Derived.Test.YtohnodphlaoohaaCertMk
import Derived.Test.YtohnodphlaoohaaMark
import Derived.Test.YtohnodphlaoohaaArgS
namespace Go.Proofs.Ytohnodphlaoohaa.exCertMake
open Go.ChangeShapes Go.WideShapes Go.ChangeAt Go.RowKit
set_option linter.unusedVariables false

/-- The certificate's digest and sum, whether there is one, and its signers. -/
def certR (zs ks ss : List Int) (d : Int) : Int × Int × Bool × List Int := if makeB zs ks ss d = true then (d, ssumTo ss zs.length, true, signTo ss zs.length) else (0, 0, false, [])
/-- A certificate whose signers lie in new memory. -/
def MadeK (w : World) (D S : Int) (B : Bool) (gl : List Int) (e : Ending) (w' : World) : Prop :=
  ∃ (Ag : Option Addr) (cap : Nat), e = .returned (.tuple #[.agg #[.int .i64 D, .slice Ag gl.length cap, .int .i64 S], .bool B]) ∧ IntsUp w' w.heap.size Ag gl ∧ WrS w' Ag gl.length ∧ (0 < gl.length → ∃ g, Ag = some ⟨g, 0, none⟩ ∧ w.heap.size ≤ g ∧ g < w'.heap.size) ∧ Below w.heap.size w w'
theorem MadeK.of {w w' : World} {zs ks ss : List Int} {d D S : Int} {B : Bool} {gl : List Int} {e : Ending} (h : MadeC w zs ks ss d e w') (hr : certR zs ks ss d = (D, S, B, gl)) : MadeK w D S B gl e w' := by
  obtain ⟨h1, h2, h3⟩ := h
  unfold certR at hr
  rcases hm : makeB zs ks ss d with _ | _
  · rw [hm] at hr
    simp only [Bool.false_eq_true, if_false, Prod.mk.injEq] at hr
    obtain ⟨rfl, rfl, rfl, rfl⟩ := hr
    exact ⟨none, 0, h1 hm, IntsUp.nil _ _ _, fun h0 => absurd h0 (by simp), fun h0 => absurd h0 (by simp), h3⟩
  · rw [hm] at hr
    simp only [if_true, Prod.mk.injEq] at hr
    obtain ⟨rfl, rfl, rfl, rfl⟩ := hr
    obtain ⟨g, cap, he, ho⟩ := h2 hm
    exact ⟨_, cap, he, ho.up.2.1, fun _ => ⟨g, rfl, by have := Wr.of_own ho; rwa [Nat.mul_one] at this⟩, fun _ => ⟨g, rfl, Own.base_le ho g rfl, Own.lt ho g rfl⟩, h3⟩
theorem certR_len {zs ks ss : List Int} {d D S : Int} {B : Bool} {gl : List Int} (hr : certR zs ks ss d = (D, S, B, gl)) : gl.length ≤ zs.length := by
  unfold certR at hr
  split at hr
  · simp only [Prod.mk.injEq] at hr
    obtain ⟨_, _, _, rfl⟩ := hr
    exact signTo_len _ _
  · simp only [Prod.mk.injEq] at hr
    obtain ⟨_, _, _, rfl⟩ := hr
    simp
theorem eqIntS_one (A A' : Option Addr) (c c' : Nat) (xs : List Int) (w : World) (B : Nat) (hx : Ints w B A xs) (hy : Ints w B A' xs) (hn : xs.length ≤ 1048576) :
    Calls Try.prog 17 #[.slice A xs.length c, .slice A' xs.length c'] w fun e w' => e = .returned (.bool true) ∧ Quiet w w' :=
  (eqIntS_any A A' c c' xs xs w B hx hy hn hn).mono fun _ _ ⟨he, hq⟩ => ⟨by rw [he]; simp, hq⟩
/-- After marking: one block from L on, not U, was written, and holds the marks. -/
theorem marked_from {w w' : World} {A : Option Addr} {m L U : Nat} {k : Int} {e : Ending} (h : Marked w A m k e w') (hA : 0 < m → ∃ g, A = some ⟨g, 0, none⟩ ∧ L ≤ g ∧ g < U) (hL : L ≤ w.heap.size) (hU : U < w.heap.size) : e = .returned (.int .i64 (k + m)) ∧ HeldS w' A m k ∧ ∃ g, L ≤ g ∧ g ≠ U ∧ w.grownBy w' (some g) := by
  refine ⟨h.1, ?_⟩
  rcases Nat.eq_zero_or_pos m with h0 | h0
  · exact ⟨fun hh => absurd hh (by omega), w.heap.size, hL, by omega, by rw [← h.2.2.1 h0]; exact gr_refl w _⟩
  · obtain ⟨g, rfl, hL, hU⟩ := hA h0
    obtain ⟨h1, h2⟩ := h.2.2.2 h0 g rfl
    exact ⟨fun _ => ⟨g, rfl, h2⟩, g, hL, by omega, h1⟩
theorem marked_grown {w w' : World} {g m : Nat} {k : Int} {e : Ending} (h : Marked w (some ⟨g, 0, none⟩) m k e w') : w.grownBy w' (some g) := by
  rcases Nat.eq_zero_or_pos m with h0 | h0
  · rw [← h.2.2.1 h0]; exact gr_refl w g
  · exact (h.2.2.2 h0 g rfl).1
theorem row_wr {w : World} {g n : Nat} {f : Nat → Value} (h : w.rowIs g 3 n f) : WrS w (some ⟨g, 0, none⟩) n := fun _ => ⟨g, rfl, fun j hj => ⟨⟨_, h.cell hj⟩, h.frozen j⟩⟩
theorem up_of {w : World} {g n L : Nat} {zs : List Int} (h : w.rowIs g 3 n (fun i => .int .i64 (nth zs i))) (hL : L ≤ g) (hn : zs.length ≤ n := by exact Nat.le_refl _) : IntsUp w L (some ⟨g, 0, none⟩) zs := fun _ =>
  ⟨g, 0, rfl, hL, h.lt, fun j hj => by rw [Nat.zero_add]; exact h.cell (by omega)⟩
theorem wr_grown {w w' : World} {g r n : Nat} (h : WrS w (some ⟨g, 0, none⟩) n) (hg : w.grownBy w' (some r)) (hne : r ≠ g) : WrS w' (some ⟨g, 0, none⟩) n := fun h0 => by
  obtain ⟨g', e, hw⟩ := h h0
  injection e with e; injection e with e1
  subst e1
  exact ⟨g, rfl, hw.grown hg hne⟩
/-- What the call handed back is not written where a block before it is. -/
theorem wrs_grown {w w' : World} {A : Option Addr} {r n L : Nat} (h : WrS w A n) (hg : w.grownBy w' (some r)) {U : Nat} (hA : 0 < n → ∃ g, A = some ⟨g, 0, none⟩ ∧ L ≤ g ∧ g < U) (hr : r < L) : WrS w' A n := fun h0 => by
  obtain ⟨g', e, hw⟩ := h h0
  obtain ⟨g, e2, hl, _⟩ := hA h0
  rw [e] at e2
  injection e2 with e2; injection e2 with e1
  subst e1
  exact ⟨g', e, hw.grown hg (by omega)⟩
set_option maxHeartbeats 2000000 in
theorem mark_cert (D S : Int) (A : Option Addr) (c n : Nat) (k : Int) (w : World) (h : WrS w A n) (hn : n ≤ 1048576) (h0 : 0 ≤ k) (h1 : k ≤ 1000000000000) :
    Calls Try.prog 19 #[.agg #[.int .i64 D, .slice A n c, .int .i64 S], .int .i64 k] w (fun e w' => ∃ wa, Below w.heap.size w wa ∧ Marked wa A n k e w') := by
  have H := Lib.hid (h.carry (allocB w (.cells #[.int .i64 D, .slice A n c, .int .i64 S] 24)))
  clear h
  go_enter Try.func19, Try.ntmps19
  go_wp2_with fail
  refine (l_markIntS _ _ _ _ _ H.out hn h0 h1).mono ?_
  rintro e w1 ⟨rfl, hm⟩
  have HM := Lib.hid hm
  clear hm
  go_wp2_with fail
  go_ret
  exact ⟨_, allocB w _, rfl, HM.out⟩
set_option maxHeartbeats 2000000 in
theorem held_cert (D S : Int) (A : Option Addr) (c n : Nat) (k : Int) (w : World) (h : HeldS w A n k) (hn : n ≤ 1048576) (h0 : 0 ≤ k) (h1 : k ≤ 1000000000000) :
    Calls Try.prog 20 #[.agg #[.int .i64 D, .slice A n c, .int .i64 S], .int .i64 k] w (fun e w' => e = .returned (.int .i64 (k + (n : Nat))) ∧ Below w.heap.size w w') := by
  have H := Lib.hid (h.carry (allocB w (.cells #[.int .i64 D, .slice A n c, .int .i64 S] 24)))
  have hk : ¬ k + (n : Nat) < 0 := by omega
  clear h
  go_enter Try.func20, Try.ntmps20
  go_wp2_with fail
  refine (l_heldIntS _ _ _ _ _ H.out hn h0 h1).mono ?_
  rintro e w' ⟨rfl, rfl⟩
  go_wp2_with fail
  go_ret
  exact ⟨rfl, allocB w _⟩
set_option maxHeartbeats 16000000 in
set_option maxRecDepth 100000 in
theorem walk (a0 : Option Addr) (c0 : Nat) (z0 : List Int) (a1 : Option Addr) (c1 : Nat) (z1 : List Int) (d : Int) (a3 : Option Addr) (c3 : Nat) (z3 : List Int) (w : World) (h0 : Ints w w.heap.size a0 z0) (h1 : Ints w w.heap.size a1 z1) (hd : (Lit.int .i64 d).wf = true) (h3 : Ints w w.heap.size a3 z3) :
    Calls Try.prog 3 #[.slice a0 z0.length c0, .slice a1 z1.length c1, .int .i64 d, .slice a3 z3.length c3] w fun e w' => e = .returned (.bool true) ∧ Below w.heap.size w w' := by
  by_cases hb0 : (1048576 : Int) < z0.length
  · go_enter Try.func3, Try.ntmps3
    go_wp2_with fail
    go_ret
    exact ⟨rfl, Below.refl _ _⟩
  have hn0 : z0.length ≤ 1048576 := by omega
  by_cases hb1 : (1048576 : Int) < z1.length
  · go_enter Try.func3, Try.ntmps3
    go_wp2_with fail
    go_ret
    exact ⟨rfl, Below.refl _ _⟩
  have hn1 : z1.length ≤ 1048576 := by omega
  by_cases hb3 : (1048576 : Int) < z3.length
  · go_enter Try.func3, Try.ntmps3
    go_wp2_with fail
    go_ret
    exact ⟨rfl, Below.refl _ _⟩
  have hn3 : z3.length ≤ 1048576 := by omega
  obtain ⟨⟨D, S, B, gl⟩, hq⟩ : ∃ q, certR z0 z1 z3 d = q := ⟨_, rfl⟩
  have hgl : gl.length ≤ 1048576 := by have := certR_len hq; omega
  have HQ := Lib.hid hq
  have Z0 := Lib.hid h0
  have Z1 := Lib.hid h1
  have Z3 := Lib.hid h3
  have BB := Lib.hid (Below.refl w.heap.size w)
  have hW : w.heap.size ≤ w.heap.size := Nat.le_refl _
  have hBv : (B != B) = false := by simp
  clear hq h0 h1 h3 hd
  go_enter Try.func3, Try.ntmps3
  go_wp2_with fail
  refine (toIntS_any _ _ z0 _ (Z0.out.more hW) hn0).mono ?_
  rintro e w1 ⟨rfl, r1, b1⟩
  replace BB := Lib.hid (next BB.out b1)
  replace Z0 := Lib.hid (Z0.out.below (b1.mono hW))
  replace Z1 := Lib.hid (Z1.out.below (b1.mono hW))
  replace Z3 := Lib.hid (Z3.out.below (b1.mono hW))
  replace hW := Nat.le_trans hW b1.size
  have Ia0 := Lib.hid (up_of (L := w.heap.size) r1 (Nat.le_refl _))
  clear r1 b1
  go_wp2_with fail
  refine (toIntS_any _ _ z1 _ (Z1.out.more hW) hn1).mono ?_
  rintro e w2 ⟨rfl, r2, b2⟩
  replace BB := Lib.hid (next BB.out b2)
  replace Ia0 := Lib.hid (Ia0.out.carry b2)
  replace Z0 := Lib.hid (Z0.out.below (b2.mono hW))
  replace Z1 := Lib.hid (Z1.out.below (b2.mono hW))
  replace Z3 := Lib.hid (Z3.out.below (b2.mono hW))
  replace hW := Nat.le_trans hW b2.size
  have Ia1 := Lib.hid (up_of (L := w1.heap.size) r2 (Nat.le_refl _))
  clear r2 b2
  go_wp2_with fail
  refine (toIntS_any _ _ z3 _ (Z3.out.more hW) hn3).mono ?_
  rintro e w3 ⟨rfl, r3, b3⟩
  replace BB := Lib.hid (next BB.out b3)
  replace Ia0 := Lib.hid (Ia0.out.carry b3)
  replace Ia1 := Lib.hid (Ia1.out.carry b3)
  replace Z0 := Lib.hid (Z0.out.below (b3.mono hW))
  replace Z1 := Lib.hid (Z1.out.below (b3.mono hW))
  replace Z3 := Lib.hid (Z3.out.below (b3.mono hW))
  replace hW := Nat.le_trans hW b3.size
  have Ia2 := Lib.hid (up_of (L := w2.heap.size) r3 (Nat.le_refl _))
  clear r3 b3
  go_wp2_with fail
  refine (s_CertMake _ _ _ _ _ _ z0 z1 z3 d _ Ia0.out.ints Ia1.out.ints Ia2.out.ints hn0 hn1 hn3).mono ?_
  rintro e w4 hm4
  obtain ⟨Aw, kw, rfl, u4, v4, x4, b4⟩ := MadeK.of hm4 HQ.out
  replace BB := Lib.hid (next BB.out b4)
  replace Ia0 := Lib.hid (Ia0.out.carry b4)
  replace Ia1 := Lib.hid (Ia1.out.carry b4)
  replace Ia2 := Lib.hid (Ia2.out.carry b4)
  replace Z0 := Lib.hid (Z0.out.below (b4.mono hW))
  replace Z1 := Lib.hid (Z1.out.below (b4.mono hW))
  replace Z3 := Lib.hid (Z3.out.below (b4.mono hW))
  replace hW := Nat.le_trans hW b4.size
  have Uw := Lib.hid u4
  have Vw := Lib.hid v4
  have Xw := Lib.hid x4
  have zw := b4.size
  clear u4 v4 x4 hm4 b4
  have ba := allocB w4 (.cells #[.int .i64 D, .slice Aw gl.length kw, .int .i64 S] 24)
  replace BB := Lib.hid (next BB.out ba)
  replace Vw := Lib.hid (Vw.out.carry ba)
  replace Ia0 := Lib.hid (Ia0.out.carry ba)
  replace Ia1 := Lib.hid (Ia1.out.carry ba)
  replace Ia2 := Lib.hid (Ia2.out.carry ba)
  replace Uw := Lib.hid (Uw.out.carry ba)
  replace Z0 := Lib.hid (Z0.out.below (ba.mono hW))
  replace Z1 := Lib.hid (Z1.out.below (ba.mono hW))
  replace Z3 := Lib.hid (Z3.out.below (ba.mono hW))
  replace hW := Nat.le_trans hW ba.size
  have Qw := Lib.hid (Box.new w4 #[.int .i64 D, .slice Aw gl.length kw, .int .i64 S] 24)
  clear ba
  clear Ia0 Ia1 Ia2 Vw Xw zw
  obtain ⟨L0, eL0⟩ : ∃ L0, L0 = w4.heap.size + 1 := ⟨_, rfl⟩
  have LW : Hid (Ints (w4.alloc (.cells #[.int .i64 D, .slice Aw gl.length kw, .int .i64 S] 24)) L0 Aw gl) := Lib.hid (Uw.out.ints.more (by rw [eL0]; simp))
  have hL0 : L0 ≤ (w4.alloc (.cells #[.int .i64 D, .slice Aw gl.length kw, .int .i64 S] 24)).heap.size := by rw [eL0]; simp
  have lQw : w4.heap.size < L0 := by omega
  have hLb : L0 ≤ w4.heap.size + 1 := by omega
  clear Uw
  have hLw : w.heap.size ≤ L0 := by rw [eL0]; have := hW; simp at this; omega
  clear eL0
  go_wp2_with fail
  refine (toIntS_any _ _ z0 _ (Z0.out.more hW) hn0).mono ?_
  rintro e w5 ⟨rfl, r5, b5⟩
  replace BB := Lib.hid (next BB.out b5)
  replace Z0 := Lib.hid (Z0.out.below (b5.mono hW))
  replace Z1 := Lib.hid (Z1.out.below (b5.mono hW))
  replace Z3 := Lib.hid (Z3.out.below (b5.mono hW))
  replace LW := Lib.hid (LW.out.below (b5.mono hL0))
  replace hW := Nat.le_trans hW b5.size
  replace hL0 := Nat.le_trans hL0 b5.size
  replace Qw := Lib.hid (Qw.out.carry b5)
  have e5 : (w4.alloc (.cells #[.int .i64 D, .slice Aw gl.length kw, .int .i64 S] 24)).heap.size = w4.heap.size + 1 := by simp
  rw [e5] at r5
  clear e5
  have Ix0 := Lib.hid (up_of (L := w4.heap.size + 1) r5 (Nat.le_refl _))
  have Wx0 := Lib.hid (row_wr r5)
  have lx0 := r5.lt
  clear r5 b5
  go_wp2_with fail
  refine (toIntS_any _ _ z1 _ (Z1.out.more hW) hn1).mono ?_
  rintro e w6 ⟨rfl, r6, b6⟩
  replace BB := Lib.hid (next BB.out b6)
  replace Ix0 := Lib.hid (Ix0.out.carry b6)
  replace Wx0 := Lib.hid (Wx0.out.carry b6)
  replace Z0 := Lib.hid (Z0.out.below (b6.mono hW))
  replace Z1 := Lib.hid (Z1.out.below (b6.mono hW))
  replace Z3 := Lib.hid (Z3.out.below (b6.mono hW))
  replace LW := Lib.hid (LW.out.below (b6.mono hL0))
  replace hW := Nat.le_trans hW b6.size
  replace hL0 := Nat.le_trans hL0 b6.size
  replace Qw := Lib.hid (Qw.out.carry b6)
  have Ix1 := Lib.hid (up_of (L := w5.heap.size) r6 (Nat.le_refl _))
  have Wx1 := Lib.hid (row_wr r6)
  have lx1 := r6.lt
  clear r6 b6
  go_wp2_with fail
  refine (toIntS_any _ _ z3 _ (Z3.out.more hW) hn3).mono ?_
  rintro e w7 ⟨rfl, r7, b7⟩
  replace BB := Lib.hid (next BB.out b7)
  replace Ix0 := Lib.hid (Ix0.out.carry b7)
  replace Ix1 := Lib.hid (Ix1.out.carry b7)
  replace Wx0 := Lib.hid (Wx0.out.carry b7)
  replace Wx1 := Lib.hid (Wx1.out.carry b7)
  replace Z0 := Lib.hid (Z0.out.below (b7.mono hW))
  replace Z1 := Lib.hid (Z1.out.below (b7.mono hW))
  replace Z3 := Lib.hid (Z3.out.below (b7.mono hW))
  replace LW := Lib.hid (LW.out.below (b7.mono hL0))
  replace hW := Nat.le_trans hW b7.size
  replace hL0 := Nat.le_trans hL0 b7.size
  replace Qw := Lib.hid (Qw.out.carry b7)
  have Ix2 := Lib.hid (up_of (L := w6.heap.size) r7 (Nat.le_refl _))
  have Wx2 := Lib.hid (row_wr r7)
  have lx2 := r7.lt
  clear r7 b7
  go_wp2_with fail
  refine (i_CertMake _ _ _ _ _ _ z0 z1 z3 d _ Ix0.out.ints Ix1.out.ints Ix2.out.ints hn0 hn1 hn3).mono ?_
  rintro e w8 hm8
  obtain ⟨Ag, kg, rfl, u8, v8, x8, b8⟩ := MadeK.of hm8 HQ.out
  replace BB := Lib.hid (next BB.out b8)
  replace Ix0 := Lib.hid (Ix0.out.carry b8)
  replace Ix1 := Lib.hid (Ix1.out.carry b8)
  replace Ix2 := Lib.hid (Ix2.out.carry b8)
  replace Wx0 := Lib.hid (Wx0.out.carry b8)
  replace Wx1 := Lib.hid (Wx1.out.carry b8)
  replace Wx2 := Lib.hid (Wx2.out.carry b8)
  replace Z0 := Lib.hid (Z0.out.below (b8.mono hW))
  replace Z1 := Lib.hid (Z1.out.below (b8.mono hW))
  replace Z3 := Lib.hid (Z3.out.below (b8.mono hW))
  replace LW := Lib.hid (LW.out.below (b8.mono hL0))
  replace hW := Nat.le_trans hW b8.size
  replace hL0 := Nat.le_trans hL0 b8.size
  replace Qw := Lib.hid (Qw.out.carry b8)
  have Ug := Lib.hid u8
  have Vg := Lib.hid v8
  have Xg := Lib.hid x8
  have zg := b8.size
  clear u8 v8 x8 hm8 b8
  have ba := allocB w8 (.cells #[.int .i64 D, .slice Ag gl.length kg, .int .i64 S] 24)
  replace BB := Lib.hid (next BB.out ba)
  replace Vg := Lib.hid (Vg.out.carry ba)
  replace Ix0 := Lib.hid (Ix0.out.carry ba)
  replace Ix1 := Lib.hid (Ix1.out.carry ba)
  replace Ix2 := Lib.hid (Ix2.out.carry ba)
  replace Ug := Lib.hid (Ug.out.carry ba)
  replace Wx0 := Lib.hid (Wx0.out.carry ba)
  replace Wx1 := Lib.hid (Wx1.out.carry ba)
  replace Wx2 := Lib.hid (Wx2.out.carry ba)
  replace Z0 := Lib.hid (Z0.out.below (ba.mono hW))
  replace Z1 := Lib.hid (Z1.out.below (ba.mono hW))
  replace Z3 := Lib.hid (Z3.out.below (ba.mono hW))
  replace LW := Lib.hid (LW.out.below (ba.mono hL0))
  replace hW := Nat.le_trans hW ba.size
  replace hL0 := Nat.le_trans hL0 ba.size
  replace Qw := Lib.hid (Qw.out.carry ba)
  have Qg := Lib.hid (Box.new w8 #[.int .i64 D, .slice Ag gl.length kg, .int .i64 S] 24)
  clear ba
  have sQg : w8.heap.size < (w8.alloc (.cells #[.int .i64 D, .slice Ag gl.length kg, .int .i64 S] 24)).heap.size := by simp
  have hQg : w8.heap.size + 1 ≤ (w8.alloc (.cells #[.int .i64 D, .slice Ag gl.length kg, .int .i64 S] 24)).heap.size := by simp
  have qg0 := Qg.out.cell (j := 0) (u := .int .i64 D) rfl
  have qg1 := Qg.out.cell (j := 1) (u := .slice Ag gl.length kg) rfl
  have qg2 := Qg.out.cell (j := 2) (u := .int .i64 S) rfl
  have qw0 := Qw.out.cell (j := 0) (u := .int .i64 D) rfl
  have qw1 := Qw.out.cell (j := 1) (u := .slice Aw gl.length kw) rfl
  have qw2 := Qw.out.cell (j := 2) (u := .int .i64 S) rfl
  go_wp2_with fail
  refine (eqCert_same _ _ _ _ _ _ gl _ Ug.out.ints (LW.out.more hL0) hgl).mono ?_
  rintro e w9 ⟨rfl, b9⟩
  clear qg0 qg1 qg2 qw0 qw1 qw2
  replace BB := Lib.hid (next BB.out b9)
  replace Ix0 := Lib.hid (Ix0.out.carry b9)
  replace Ix1 := Lib.hid (Ix1.out.carry b9)
  replace Ix2 := Lib.hid (Ix2.out.carry b9)
  replace Ug := Lib.hid (Ug.out.carry b9)
  replace Wx0 := Lib.hid (Wx0.out.carry b9)
  replace Wx1 := Lib.hid (Wx1.out.carry b9)
  replace Wx2 := Lib.hid (Wx2.out.carry b9)
  replace Vg := Lib.hid (Vg.out.carry b9)
  replace Z0 := Lib.hid (Z0.out.below (b9.mono hW))
  replace Z1 := Lib.hid (Z1.out.below (b9.mono hW))
  replace Z3 := Lib.hid (Z3.out.below (b9.mono hW))
  replace LW := Lib.hid (LW.out.below (b9.mono hL0))
  replace hW := Nat.le_trans hW b9.size
  replace hL0 := Nat.le_trans hL0 b9.size
  replace hQg := Nat.le_trans hQg b9.size
  replace Qw := Lib.hid (Qw.out.carry b9)
  replace Qg := Lib.hid (Qg.out.carry b9)
  clear b9
  go_wp2_with fail
  refine (toIntS_any _ _ z0 _ (Z0.out.more hW) hn0).mono ?_
  rintro e w10 ⟨rfl, r10, b10⟩
  replace BB := Lib.hid (next BB.out b10)
  replace Ix0 := Lib.hid (Ix0.out.carry b10)
  replace Ix1 := Lib.hid (Ix1.out.carry b10)
  replace Ix2 := Lib.hid (Ix2.out.carry b10)
  replace Ug := Lib.hid (Ug.out.carry b10)
  replace Wx0 := Lib.hid (Wx0.out.carry b10)
  replace Wx1 := Lib.hid (Wx1.out.carry b10)
  replace Wx2 := Lib.hid (Wx2.out.carry b10)
  replace Vg := Lib.hid (Vg.out.carry b10)
  replace Z0 := Lib.hid (Z0.out.below (b10.mono hW))
  replace Z1 := Lib.hid (Z1.out.below (b10.mono hW))
  replace Z3 := Lib.hid (Z3.out.below (b10.mono hW))
  replace LW := Lib.hid (LW.out.below (b10.mono hL0))
  replace hW := Nat.le_trans hW b10.size
  replace hL0 := Nat.le_trans hL0 b10.size
  replace hQg := Nat.le_trans hQg b10.size
  replace Qw := Lib.hid (Qw.out.carry b10)
  replace Qg := Lib.hid (Qg.out.carry b10)
  have IY := Lib.hid (up_of (L := w9.heap.size) r10 (Nat.le_refl _))
  clear r10 b10
  go_wp2_with fail
  refine (eqIntS_one _ _ _ _ z0 _ _ Ix0.out.ints IY.out.ints hn0).mono ?_
  rintro e w11 ⟨rfl, q11⟩
  have b11 := q11.below w10.heap.size
  replace BB := Lib.hid (next BB.out b11)
  replace Ix0 := Lib.hid (Ix0.out.carry b11)
  replace Ix1 := Lib.hid (Ix1.out.carry b11)
  replace Ix2 := Lib.hid (Ix2.out.carry b11)
  replace Ug := Lib.hid (Ug.out.carry b11)
  replace IY := Lib.hid (IY.out.carry b11)
  replace Wx0 := Lib.hid (Wx0.out.carry b11)
  replace Wx1 := Lib.hid (Wx1.out.carry b11)
  replace Wx2 := Lib.hid (Wx2.out.carry b11)
  replace Vg := Lib.hid (Vg.out.carry b11)
  replace Z0 := Lib.hid (Z0.out.below (b11.mono hW))
  replace Z1 := Lib.hid (Z1.out.below (b11.mono hW))
  replace Z3 := Lib.hid (Z3.out.below (b11.mono hW))
  replace LW := Lib.hid (LW.out.below (b11.mono hL0))
  replace hW := Nat.le_trans hW b11.size
  replace hL0 := Nat.le_trans hL0 b11.size
  replace hQg := Nat.le_trans hQg b11.size
  replace Qw := Lib.hid (Qw.out.carry b11)
  replace Qg := Lib.hid (Qg.out.carry b11)
  clear q11 b11
  clear IY
  go_wp2_with fail
  refine (toIntS_any _ _ z1 _ (Z1.out.more hW) hn1).mono ?_
  rintro e w12 ⟨rfl, r12, b12⟩
  replace BB := Lib.hid (next BB.out b12)
  replace Ix0 := Lib.hid (Ix0.out.carry b12)
  replace Ix1 := Lib.hid (Ix1.out.carry b12)
  replace Ix2 := Lib.hid (Ix2.out.carry b12)
  replace Ug := Lib.hid (Ug.out.carry b12)
  replace Wx0 := Lib.hid (Wx0.out.carry b12)
  replace Wx1 := Lib.hid (Wx1.out.carry b12)
  replace Wx2 := Lib.hid (Wx2.out.carry b12)
  replace Vg := Lib.hid (Vg.out.carry b12)
  replace Z0 := Lib.hid (Z0.out.below (b12.mono hW))
  replace Z1 := Lib.hid (Z1.out.below (b12.mono hW))
  replace Z3 := Lib.hid (Z3.out.below (b12.mono hW))
  replace LW := Lib.hid (LW.out.below (b12.mono hL0))
  replace hW := Nat.le_trans hW b12.size
  replace hL0 := Nat.le_trans hL0 b12.size
  replace hQg := Nat.le_trans hQg b12.size
  replace Qw := Lib.hid (Qw.out.carry b12)
  replace Qg := Lib.hid (Qg.out.carry b12)
  have IY := Lib.hid (up_of (L := w11.heap.size) r12 (Nat.le_refl _))
  clear r12 b12
  go_wp2_with fail
  refine (eqIntS_one _ _ _ _ z1 _ _ Ix1.out.ints IY.out.ints hn1).mono ?_
  rintro e w13 ⟨rfl, q13⟩
  have b13 := q13.below w12.heap.size
  replace BB := Lib.hid (next BB.out b13)
  replace Ix0 := Lib.hid (Ix0.out.carry b13)
  replace Ix1 := Lib.hid (Ix1.out.carry b13)
  replace Ix2 := Lib.hid (Ix2.out.carry b13)
  replace Ug := Lib.hid (Ug.out.carry b13)
  replace IY := Lib.hid (IY.out.carry b13)
  replace Wx0 := Lib.hid (Wx0.out.carry b13)
  replace Wx1 := Lib.hid (Wx1.out.carry b13)
  replace Wx2 := Lib.hid (Wx2.out.carry b13)
  replace Vg := Lib.hid (Vg.out.carry b13)
  replace Z0 := Lib.hid (Z0.out.below (b13.mono hW))
  replace Z1 := Lib.hid (Z1.out.below (b13.mono hW))
  replace Z3 := Lib.hid (Z3.out.below (b13.mono hW))
  replace LW := Lib.hid (LW.out.below (b13.mono hL0))
  replace hW := Nat.le_trans hW b13.size
  replace hL0 := Nat.le_trans hL0 b13.size
  replace hQg := Nat.le_trans hQg b13.size
  replace Qw := Lib.hid (Qw.out.carry b13)
  replace Qg := Lib.hid (Qg.out.carry b13)
  clear q13 b13
  clear IY
  go_wp2_with fail
  refine (toIntS_any _ _ z3 _ (Z3.out.more hW) hn3).mono ?_
  rintro e w14 ⟨rfl, r14, b14⟩
  replace BB := Lib.hid (next BB.out b14)
  replace Ix0 := Lib.hid (Ix0.out.carry b14)
  replace Ix1 := Lib.hid (Ix1.out.carry b14)
  replace Ix2 := Lib.hid (Ix2.out.carry b14)
  replace Ug := Lib.hid (Ug.out.carry b14)
  replace Wx0 := Lib.hid (Wx0.out.carry b14)
  replace Wx1 := Lib.hid (Wx1.out.carry b14)
  replace Wx2 := Lib.hid (Wx2.out.carry b14)
  replace Vg := Lib.hid (Vg.out.carry b14)
  replace Z0 := Lib.hid (Z0.out.below (b14.mono hW))
  replace Z1 := Lib.hid (Z1.out.below (b14.mono hW))
  replace Z3 := Lib.hid (Z3.out.below (b14.mono hW))
  replace LW := Lib.hid (LW.out.below (b14.mono hL0))
  replace hW := Nat.le_trans hW b14.size
  replace hL0 := Nat.le_trans hL0 b14.size
  replace hQg := Nat.le_trans hQg b14.size
  replace Qw := Lib.hid (Qw.out.carry b14)
  replace Qg := Lib.hid (Qg.out.carry b14)
  have IY := Lib.hid (up_of (L := w13.heap.size) r14 (Nat.le_refl _))
  clear r14 b14
  go_wp2_with fail
  refine (eqIntS_one _ _ _ _ z3 _ _ Ix2.out.ints IY.out.ints hn3).mono ?_
  rintro e w15 ⟨rfl, q15⟩
  have b15 := q15.below w14.heap.size
  replace BB := Lib.hid (next BB.out b15)
  replace Ix0 := Lib.hid (Ix0.out.carry b15)
  replace Ix1 := Lib.hid (Ix1.out.carry b15)
  replace Ix2 := Lib.hid (Ix2.out.carry b15)
  replace Ug := Lib.hid (Ug.out.carry b15)
  replace IY := Lib.hid (IY.out.carry b15)
  replace Wx0 := Lib.hid (Wx0.out.carry b15)
  replace Wx1 := Lib.hid (Wx1.out.carry b15)
  replace Wx2 := Lib.hid (Wx2.out.carry b15)
  replace Vg := Lib.hid (Vg.out.carry b15)
  replace Z0 := Lib.hid (Z0.out.below (b15.mono hW))
  replace Z1 := Lib.hid (Z1.out.below (b15.mono hW))
  replace Z3 := Lib.hid (Z3.out.below (b15.mono hW))
  replace LW := Lib.hid (LW.out.below (b15.mono hL0))
  replace hW := Nat.le_trans hW b15.size
  replace hL0 := Nat.le_trans hL0 b15.size
  replace hQg := Nat.le_trans hQg b15.size
  replace Qw := Lib.hid (Qw.out.carry b15)
  replace Qg := Lib.hid (Qg.out.carry b15)
  clear q15 b15
  clear IY
  go_wp2_with fail
  refine (l_markIntS _ _ z0.length _ _ Wx0.out hn0 (by omega) (by omega)).mono ?_
  rintro e w16 hm16
  have g16 := marked_grown hm16
  obtain ⟨rfl, -⟩ := hm16
  replace BB := Lib.hid (BB.out.trans (gr_to_below g16 (by omega) hW))
  replace Z0 := Lib.hid (Z0.out.below (gr_to_below g16 (by omega) hW))
  replace Z1 := Lib.hid (Z1.out.below (gr_to_below g16 (by omega) hW))
  replace Z3 := Lib.hid (Z3.out.below (gr_to_below g16 (by omega) hW))
  replace LW := Lib.hid (LW.out.below (gr_to_below g16 (by omega) hL0))
  replace hW := Nat.le_trans hW g16.size
  replace hL0 := Nat.le_trans hL0 g16.size
  replace hQg := Nat.le_trans hQg g16.size
  replace Qw := Lib.hid (Qw.out.grown g16 (fun k hk => by injection hk; omega))
  replace Qg := Lib.hid (Qg.out.grown g16 (fun k hk => by injection hk; omega))
  replace Ix1 := Lib.hid (Ix1.out.grown g16 (by omega))
  replace Ix2 := Lib.hid (Ix2.out.grown g16 (by omega))
  replace Ug := Lib.hid (Ug.out.grown g16 (by omega))
  replace Wx1 := Lib.hid (wr_grown Wx1.out g16 (by omega))
  replace Wx2 := Lib.hid (wr_grown Wx2.out g16 (by omega))
  replace Vg := Lib.hid (wrs_grown Vg.out g16 Xg.out (by omega))
  clear Ix0 Wx0 g16
  go_wp2_with fail
  refine (l_markIntS _ _ z1.length _ _ Wx1.out hn1 (by omega) (by omega)).mono ?_
  rintro e w17 hm17
  have g17 := marked_grown hm17
  obtain ⟨rfl, -⟩ := hm17
  replace BB := Lib.hid (BB.out.trans (gr_to_below g17 (by omega) hW))
  replace Z0 := Lib.hid (Z0.out.below (gr_to_below g17 (by omega) hW))
  replace Z1 := Lib.hid (Z1.out.below (gr_to_below g17 (by omega) hW))
  replace Z3 := Lib.hid (Z3.out.below (gr_to_below g17 (by omega) hW))
  replace LW := Lib.hid (LW.out.below (gr_to_below g17 (by omega) hL0))
  replace hW := Nat.le_trans hW g17.size
  replace hL0 := Nat.le_trans hL0 g17.size
  replace hQg := Nat.le_trans hQg g17.size
  replace Qw := Lib.hid (Qw.out.grown g17 (fun k hk => by injection hk; omega))
  replace Qg := Lib.hid (Qg.out.grown g17 (fun k hk => by injection hk; omega))
  replace Ix2 := Lib.hid (Ix2.out.grown g17 (by omega))
  replace Ug := Lib.hid (Ug.out.grown g17 (by omega))
  replace Wx2 := Lib.hid (wr_grown Wx2.out g17 (by omega))
  replace Vg := Lib.hid (wrs_grown Vg.out g17 Xg.out (by omega))
  clear Ix1 Wx1 g17
  go_wp2_with fail
  refine (l_markIntS _ _ z3.length _ _ Wx2.out hn3 (by omega) (by omega)).mono ?_
  rintro e w18 hm18
  have g18 := marked_grown hm18
  obtain ⟨rfl, -⟩ := hm18
  replace BB := Lib.hid (BB.out.trans (gr_to_below g18 (by omega) hW))
  replace Z0 := Lib.hid (Z0.out.below (gr_to_below g18 (by omega) hW))
  replace Z1 := Lib.hid (Z1.out.below (gr_to_below g18 (by omega) hW))
  replace Z3 := Lib.hid (Z3.out.below (gr_to_below g18 (by omega) hW))
  replace LW := Lib.hid (LW.out.below (gr_to_below g18 (by omega) hL0))
  replace hW := Nat.le_trans hW g18.size
  replace hL0 := Nat.le_trans hL0 g18.size
  replace hQg := Nat.le_trans hQg g18.size
  replace Qw := Lib.hid (Qw.out.grown g18 (fun k hk => by injection hk; omega))
  replace Qg := Lib.hid (Qg.out.grown g18 (fun k hk => by injection hk; omega))
  replace Ug := Lib.hid (Ug.out.grown g18 (by omega))
  replace Vg := Lib.hid (wrs_grown Vg.out g18 Xg.out (by omega))
  clear Ix2 Wx2 g18
  have hk2 : decide ((1 : Int) + (z0.length : Nat) + (z1.length : Nat) + (z3.length : Nat) < 0) = false := by simp; omega
  have hk1 : ¬ (1 : Int) + (z0.length : Nat) + (z1.length : Nat) + (z3.length : Nat) < 0 := by omega
  have qg0 := Qg.out.cell (j := 0) (u := .int .i64 D) rfl
  have qg1 := Qg.out.cell (j := 1) (u := .slice Ag gl.length kg) rfl
  have qg2 := Qg.out.cell (j := 2) (u := .int .i64 S) rfl
  have qw0 := Qw.out.cell (j := 0) (u := .int .i64 D) rfl
  have qw1 := Qw.out.cell (j := 1) (u := .slice Aw gl.length kw) rfl
  have qw2 := Qw.out.cell (j := 2) (u := .int .i64 S) rfl
  go_wp2_with fail
  refine (eqCert_same _ _ _ _ _ _ gl _ Ug.out.ints (LW.out.more hL0) hgl).mono ?_
  rintro e w19 ⟨rfl, b19⟩
  clear qg0 qg1 qg2 qw0 qw1 qw2
  replace BB := Lib.hid (next BB.out b19)
  replace Ug := Lib.hid (Ug.out.carry b19)
  replace Vg := Lib.hid (Vg.out.carry b19)
  replace Z0 := Lib.hid (Z0.out.below (b19.mono hW))
  replace Z1 := Lib.hid (Z1.out.below (b19.mono hW))
  replace Z3 := Lib.hid (Z3.out.below (b19.mono hW))
  replace LW := Lib.hid (LW.out.below (b19.mono hL0))
  replace hW := Nat.le_trans hW b19.size
  replace hL0 := Nat.le_trans hL0 b19.size
  replace hQg := Nat.le_trans hQg b19.size
  replace Qw := Lib.hid (Qw.out.carry b19)
  replace Qg := Lib.hid (Qg.out.carry b19)
  clear b19
  clear hk1 hk2
  have qg0 := Qg.out.cell (j := 0) (u := .int .i64 D) rfl
  have qg1 := Qg.out.cell (j := 1) (u := .slice Ag gl.length kg) rfl
  have qg2 := Qg.out.cell (j := 2) (u := .int .i64 S) rfl
  go_wp2_with fail
  refine (mark_cert _ _ _ _ gl.length _ _ Vg.out hgl (by omega) (by omega)).mono ?_
  rintro e w20 ⟨wa, ba, hm20⟩
  clear qg0 qg1 qg2
  replace BB := Lib.hid (next BB.out ba)
  replace Ug := Lib.hid (Ug.out.carry ba)
  replace Vg := Lib.hid (Vg.out.carry ba)
  replace Z0 := Lib.hid (Z0.out.below (ba.mono hW))
  replace Z1 := Lib.hid (Z1.out.below (ba.mono hW))
  replace Z3 := Lib.hid (Z3.out.below (ba.mono hW))
  replace LW := Lib.hid (LW.out.below (ba.mono hL0))
  replace hW := Nat.le_trans hW ba.size
  replace hL0 := Nat.le_trans hL0 ba.size
  replace hQg := Nat.le_trans hQg ba.size
  replace Qw := Lib.hid (Qw.out.carry ba)
  replace Qg := Lib.hid (Qg.out.carry ba)
  obtain ⟨rfl, hd, g20, hgl20, hgu20, hg20⟩ := marked_from (L := w7.heap.size) (U := w8.heap.size) hm20 Xg.out (by omega) (by omega)
  have HD := Lib.hid hd
  replace BB := Lib.hid (BB.out.trans (gr_to_below hg20 (by omega) hW))
  replace Z0 := Lib.hid (Z0.out.below (gr_to_below hg20 (by omega) hW))
  replace Z1 := Lib.hid (Z1.out.below (gr_to_below hg20 (by omega) hW))
  replace Z3 := Lib.hid (Z3.out.below (gr_to_below hg20 (by omega) hW))
  replace LW := Lib.hid (LW.out.below (gr_to_below hg20 (by omega) hL0))
  replace hW := Nat.le_trans hW hg20.size
  replace hL0 := Nat.le_trans hL0 hg20.size
  replace hQg := Nat.le_trans hQg hg20.size
  replace Qw := Lib.hid (Qw.out.grown hg20 (fun k hk => by injection hk; omega))
  replace Qg := Lib.hid (Qg.out.grown hg20 (fun k hk => by injection hk; omega))
  clear Ug Vg hd hm20 hg20 ba
  have hj1 : ¬ (1 : Int) + (gl.length : Nat) < 0 := by omega
  have hj3 : decide ((1 : Int) + (gl.length : Nat) < 0) = false := by simp; omega
  have hj2 : ((1 : Int) + (gl.length : Nat) != (1 : Int) + (gl.length : Nat)) = false := by simp
  have qg0 := Qg.out.cell (j := 0) (u := .int .i64 D) rfl
  have qg1 := Qg.out.cell (j := 1) (u := .slice Ag gl.length kg) rfl
  have qg2 := Qg.out.cell (j := 2) (u := .int .i64 S) rfl
  go_wp2_with fail
  refine (held_cert _ _ _ _ gl.length _ _ HD.out hgl (by omega) (by omega)).mono ?_
  rintro e w21 ⟨rfl, b21⟩
  clear qg0 qg1 qg2
  replace BB := Lib.hid (next BB.out b21)
  replace HD := Lib.hid (HD.out.carry b21)
  replace Z0 := Lib.hid (Z0.out.below (b21.mono hW))
  replace Z1 := Lib.hid (Z1.out.below (b21.mono hW))
  replace Z3 := Lib.hid (Z3.out.below (b21.mono hW))
  replace LW := Lib.hid (LW.out.below (b21.mono hL0))
  replace hW := Nat.le_trans hW b21.size
  replace hL0 := Nat.le_trans hL0 b21.size
  replace hQg := Nat.le_trans hQg b21.size
  replace Qw := Lib.hid (Qw.out.carry b21)
  replace Qg := Lib.hid (Qg.out.carry b21)
  clear b21
  go_wp2_with fail
  refine (toIntS_any _ _ z0 _ (Z0.out.more hW) hn0).mono ?_
  rintro e w22 ⟨rfl, r22, b22⟩
  replace BB := Lib.hid (next BB.out b22)
  replace HD := Lib.hid (HD.out.carry b22)
  replace Z0 := Lib.hid (Z0.out.below (b22.mono hW))
  replace Z1 := Lib.hid (Z1.out.below (b22.mono hW))
  replace Z3 := Lib.hid (Z3.out.below (b22.mono hW))
  replace LW := Lib.hid (LW.out.below (b22.mono hL0))
  replace hW := Nat.le_trans hW b22.size
  replace hL0 := Nat.le_trans hL0 b22.size
  replace hQg := Nat.le_trans hQg b22.size
  replace Qw := Lib.hid (Qw.out.carry b22)
  replace Qg := Lib.hid (Qg.out.carry b22)
  have Iy0 := Lib.hid (up_of (L := w21.heap.size) r22 (Nat.le_refl _))
  clear r22 b22
  go_wp2_with fail
  refine (toIntS_any _ _ z1 _ (Z1.out.more hW) hn1).mono ?_
  rintro e w23 ⟨rfl, r23, b23⟩
  replace BB := Lib.hid (next BB.out b23)
  replace HD := Lib.hid (HD.out.carry b23)
  replace Iy0 := Lib.hid (Iy0.out.carry b23)
  replace Z0 := Lib.hid (Z0.out.below (b23.mono hW))
  replace Z1 := Lib.hid (Z1.out.below (b23.mono hW))
  replace Z3 := Lib.hid (Z3.out.below (b23.mono hW))
  replace LW := Lib.hid (LW.out.below (b23.mono hL0))
  replace hW := Nat.le_trans hW b23.size
  replace hL0 := Nat.le_trans hL0 b23.size
  replace hQg := Nat.le_trans hQg b23.size
  replace Qw := Lib.hid (Qw.out.carry b23)
  replace Qg := Lib.hid (Qg.out.carry b23)
  have Iy1 := Lib.hid (up_of (L := w22.heap.size) r23 (Nat.le_refl _))
  clear r23 b23
  go_wp2_with fail
  refine (toIntS_any _ _ z3 _ (Z3.out.more hW) hn3).mono ?_
  rintro e w24 ⟨rfl, r24, b24⟩
  replace BB := Lib.hid (next BB.out b24)
  replace HD := Lib.hid (HD.out.carry b24)
  replace Iy0 := Lib.hid (Iy0.out.carry b24)
  replace Iy1 := Lib.hid (Iy1.out.carry b24)
  replace Z0 := Lib.hid (Z0.out.below (b24.mono hW))
  replace Z1 := Lib.hid (Z1.out.below (b24.mono hW))
  replace Z3 := Lib.hid (Z3.out.below (b24.mono hW))
  replace LW := Lib.hid (LW.out.below (b24.mono hL0))
  replace hW := Nat.le_trans hW b24.size
  replace hL0 := Nat.le_trans hL0 b24.size
  replace hQg := Nat.le_trans hQg b24.size
  replace Qw := Lib.hid (Qw.out.carry b24)
  replace Qg := Lib.hid (Qg.out.carry b24)
  have Iy2 := Lib.hid (up_of (L := w23.heap.size) r24 (Nat.le_refl _))
  clear r24 b24
  go_wp2_with fail
  refine (i_CertMake _ _ _ _ _ _ z0 z1 z3 d _ Iy0.out.ints Iy1.out.ints Iy2.out.ints hn0 hn1 hn3).mono ?_
  rintro e w25 hm25
  obtain ⟨Ah, kh, rfl, u25, v25, x25, b25⟩ := MadeK.of hm25 HQ.out
  replace BB := Lib.hid (next BB.out b25)
  replace HD := Lib.hid (HD.out.carry b25)
  replace Iy0 := Lib.hid (Iy0.out.carry b25)
  replace Iy1 := Lib.hid (Iy1.out.carry b25)
  replace Iy2 := Lib.hid (Iy2.out.carry b25)
  replace Z0 := Lib.hid (Z0.out.below (b25.mono hW))
  replace Z1 := Lib.hid (Z1.out.below (b25.mono hW))
  replace Z3 := Lib.hid (Z3.out.below (b25.mono hW))
  replace LW := Lib.hid (LW.out.below (b25.mono hL0))
  replace hW := Nat.le_trans hW b25.size
  replace hL0 := Nat.le_trans hL0 b25.size
  replace hQg := Nat.le_trans hQg b25.size
  replace Qw := Lib.hid (Qw.out.carry b25)
  replace Qg := Lib.hid (Qg.out.carry b25)
  have Uh := Lib.hid u25
  have Vh := Lib.hid v25
  have Xh := Lib.hid x25
  have zh := b25.size
  clear u25 v25 x25 hm25 b25
  have ba := allocB w25 (.cells #[.int .i64 D, .slice Ah gl.length kh, .int .i64 S] 24)
  replace BB := Lib.hid (next BB.out ba)
  replace HD := Lib.hid (HD.out.carry ba)
  replace Vh := Lib.hid (Vh.out.carry ba)
  replace Iy0 := Lib.hid (Iy0.out.carry ba)
  replace Iy1 := Lib.hid (Iy1.out.carry ba)
  replace Iy2 := Lib.hid (Iy2.out.carry ba)
  replace Uh := Lib.hid (Uh.out.carry ba)
  replace Z0 := Lib.hid (Z0.out.below (ba.mono hW))
  replace Z1 := Lib.hid (Z1.out.below (ba.mono hW))
  replace Z3 := Lib.hid (Z3.out.below (ba.mono hW))
  replace LW := Lib.hid (LW.out.below (ba.mono hL0))
  replace hW := Nat.le_trans hW ba.size
  replace hL0 := Nat.le_trans hL0 ba.size
  replace hQg := Nat.le_trans hQg ba.size
  replace Qw := Lib.hid (Qw.out.carry ba)
  replace Qg := Lib.hid (Qg.out.carry ba)
  have Qh := Lib.hid (Box.new w25 #[.int .i64 D, .slice Ah gl.length kh, .int .i64 S] 24)
  clear ba
  clear Iy0 Iy1 Iy2 Vh Xh zh
  have qh0 := Qh.out.cell (j := 0) (u := .int .i64 D) rfl
  have qh1 := Qh.out.cell (j := 1) (u := .slice Ah gl.length kh) rfl
  have qh2 := Qh.out.cell (j := 2) (u := .int .i64 S) rfl
  have qw0 := Qw.out.cell (j := 0) (u := .int .i64 D) rfl
  have qw1 := Qw.out.cell (j := 1) (u := .slice Aw gl.length kw) rfl
  have qw2 := Qw.out.cell (j := 2) (u := .int .i64 S) rfl
  go_wp2_with fail
  refine (eqCert_same _ _ _ _ _ _ gl _ Uh.out.ints (LW.out.more hL0) hgl).mono ?_
  rintro e w26 ⟨rfl, b26⟩
  clear qh0 qh1 qh2 qw0 qw1 qw2
  replace BB := Lib.hid (next BB.out b26)
  replace HD := Lib.hid (HD.out.carry b26)
  replace Uh := Lib.hid (Uh.out.carry b26)
  replace Z0 := Lib.hid (Z0.out.below (b26.mono hW))
  replace Z1 := Lib.hid (Z1.out.below (b26.mono hW))
  replace Z3 := Lib.hid (Z3.out.below (b26.mono hW))
  replace LW := Lib.hid (LW.out.below (b26.mono hL0))
  replace hW := Nat.le_trans hW b26.size
  replace hL0 := Nat.le_trans hL0 b26.size
  replace hQg := Nat.le_trans hQg b26.size
  replace Qw := Lib.hid (Qw.out.carry b26)
  replace Qg := Lib.hid (Qg.out.carry b26)
  replace Qh := Lib.hid (Qh.out.carry b26)
  clear b26
  clear Uh
  have qg0 := Qg.out.cell (j := 0) (u := .int .i64 D) rfl
  have qg1 := Qg.out.cell (j := 1) (u := .slice Ag gl.length kg) rfl
  have qg2 := Qg.out.cell (j := 2) (u := .int .i64 S) rfl
  go_wp2_with fail
  refine (held_cert _ _ _ _ gl.length _ _ HD.out hgl (by omega) (by omega)).mono ?_
  rintro e w27 ⟨rfl, b27⟩
  clear qg0 qg1 qg2
  replace BB := Lib.hid (next BB.out b27)
  replace HD := Lib.hid (HD.out.carry b27)
  replace Z0 := Lib.hid (Z0.out.below (b27.mono hW))
  replace Z1 := Lib.hid (Z1.out.below (b27.mono hW))
  replace Z3 := Lib.hid (Z3.out.below (b27.mono hW))
  replace LW := Lib.hid (LW.out.below (b27.mono hL0))
  replace hW := Nat.le_trans hW b27.size
  replace hL0 := Nat.le_trans hL0 b27.size
  replace hQg := Nat.le_trans hQg b27.size
  replace Qw := Lib.hid (Qw.out.carry b27)
  replace Qg := Lib.hid (Qg.out.carry b27)
  replace Qh := Lib.hid (Qh.out.carry b27)
  clear b27
  go_wp2_with fail
  go_ret
  exact ⟨rfl, BB.out⟩

set_option maxRecDepth 100000 in
theorem lifted (os : Os) (started : os.Started) (H : Type) (enc : TypeId × Value → H) :
    ReturnsInHanded {} Try.checked os 3 .any (Rows.fnExactCertMakeSpec.pre6 enc Try.prog Try.f3 Rows.fnExactCertMakeRow.domain false) (Rows.fnExactCertMakeSpec.post enc Try.prog Try.f3 false true false false) := by
  refine returnsInHanded_of_change (C := Try.checked) own started (by kernel_rfl) Try.func3
    (ChangeSpec.witness6 (enc := enc) (C := Try.checked) false ⟨#[], #[.slice none 0 0, .slice none 0 0, .int .i64 0, .slice none 0 0], []⟩ 8 (by kernel_rfl) (by kernel_rfl) (by kernel_rfl) (by kernel_rfl)) ?_
  intro W base args ds gs before hval0 hW hcnd _
  have hval : ∀ (j : Nat) t v, Try.f3.params[j]? = some t → args[j]? = some v → Value.okWide Try.prog W .any base t v := hval0
  have hW' := hW
  obtain ⟨p, q, hA0, hV, rfl, hfz, hnd⟩ := hW
  have hA : DataW.TrodAll enc Try.prog W 0 (fun _ => true) true Try.f3.params.toList args.toList ds p := hA0
  rw [Try.params3] at hA hval
  obtain ⟨v0, vs0, d0, ds0, p0, q0, hargs, rfl, rfl, h0, r0⟩ := trodAll_cons hA
  obtain ⟨v1, vs1, d1, ds1, p1, q1, rfl, rfl, rfl, h1, r1⟩ := trodAll_cons r0
  obtain ⟨v2, vs2, d2, ds2, p2, q2, rfl, rfl, rfl, h2, r2⟩ := trodAll_cons r1
  obtain ⟨v3, vs3, d3, ds3, p3, q3, rfl, rfl, rfl, h3, r3⟩ := trodAll_cons r2
  obtain ⟨rfl, rfl, rfl⟩ := trodAll_nil r3
  obtain rfl : args = #[v0, v1, v2, v3] := by cases args; simp_all
  obtain ⟨rfl, rfl⟩ := trodVars_none hV
  obtain ⟨a0, len0, c0, rfl⟩ := okWide_slice Try.underlying22 (hval 0 22 v0 rfl rfl)
  have k0 := h0
  have lt0 : ∀ x ∈ p0, x.block < W.heap.size := by obtain ⟨m, hm⟩ := k0; exact DataW.trod_lt m _ _ _ hm
  obtain ⟨z0, rfl, w0⟩ := ints_of_trod h0
  obtain ⟨a1, len1, c1, rfl⟩ := okWide_slice Try.underlying22 (hval 1 22 v1 rfl rfl)
  have k1 := h1
  have lt1 : ∀ x ∈ p1, x.block < W.heap.size := by obtain ⟨m, hm⟩ := k1; exact DataW.trod_lt m _ _ _ hm
  obtain ⟨z1, rfl, w1⟩ := ints_of_trod h1
  obtain ⟨a2, rfl, rfl, rfl, w2⟩ := open_int Try.underlying3 (hval 2 3 v2 rfl rfl) h2
  obtain ⟨a3, len3, c3, rfl⟩ := okWide_slice Try.underlying22 (hval 3 22 v3 rfl rfl)
  have k3 := h3
  have lt3 : ∀ x ∈ p3, x.block < W.heap.size := by obtain ⟨m, hm⟩ := k3; exact DataW.trod_lt m _ _ _ hm
  obtain ⟨z3, rfl, w3⟩ := ints_of_trod h3
  clear hA0 hval0
  refine (walk a0 c0 z0 a1 c1 z1 a2 a3 c3 z3 W w0 w1 w2 w3).mono fun e W' ⟨he, bel⟩ => ?_
  subst he
  exact ⟨_, rfl, _, _, _, [], _, [], hW', trodAll_mk1 (shut_bool Try.underlying4 _), (trodAll_cons_mk (Below.trod laidOut (by kernel_rfl) (of_decide_eq_true (by kernel_rfl)) k0 bel lt0) (trodAll_cons_mk (Below.trod laidOut (by kernel_rfl) (of_decide_eq_true (by kernel_rfl)) k1 bel lt1) (trodAll_cons_mk (shut_int Try.underlying3 w2) (trodAll_cons_mk (Below.trod laidOut (by kernel_rfl) (of_decide_eq_true (by kernel_rfl)) k3 bel lt3) trodAll_mk0)))), rfl, bel.frame _, fun h => by cases h⟩

theorem over : Rows.fnExactCertMakeRow.holds Try.pinned (OpenSpec.ofChange Rows.fnExactCertMakeSpec) :=
  OpenClaim.holds_of_wide 3 Try.f3 rfl rfl rfl rfl rfl rfl rfl ⟨rfl, rfl, rfl, rfl, rfl⟩ rfl rfl rfl rfl rfl (by kernel_rfl) Try.func3 (by kernel_rfl)
    (of_decide_eq_true (by kernel_rfl)) (by unfold Func.isWrapper; first | (rw [if_pos (by decide +kernel)]; kernel_rfl) | (rw [if_neg (by decide +kernel)]; exact ⟨rfl, rfl⟩))
    (fun os started H enc _ => lifted os started H enc)

/-- The given statement. -/
theorem proved : Rows.FnExactCertMakeSaid := over
#print axioms proved
end Go.Proofs.Ytohnodphlaoohaa.exCertMake
