/- What the laws draw, further: two transactions; a receipt. -/
import Derived.Test.YtohnodphlaoohaaDraw6
import Derived.Deep.RegionHeld3
namespace Go.Proofs.Ytohnodphlaoohaa
open Go.RowKit
set_option linter.unusedVariables false

def DrawnR (w : World) (e : Ending) (w' : World) : Prop :=
  ∃ (i : Int) (b : Bool) (d : Int), e = .returned (.agg #[.int .i64 i, .bool b, .int .i64 d]) ∧ Below w.heap.size w w'
set_option maxHeartbeats 4000000 in
theorem s_DrawReceiptDigest (A : Option Addr) (c : Nat) (zs : List Int) (w : World) (h : Bytes w w.heap.size A zs) (hc : zs.length ≤ c) (hn : zs.length ≤ 1048576) :
    Calls Try.prog 49 #[.slice A zs.length c] w (DrawnR w) := by
  have H := Lib.hid h
  clear h
  go_enter Try.func49, Try.ntmps49
  go_wp2_with fail
  refine (l6Open_any _ _ _ _ ((H.out.below (allocB w _)).more (by simp)) hc hn).mono ?_
  rintro e w1 ⟨rfl, r1, b1, s1⟩
  have o1 := (Box.new w _ _).carry b1
  have bw := (allocB w _).trans (b1.mono (by simp))
  have hs1 : w.heap.size + 2 ≤ w1.heap.size := by simp at s1; omega
  simp at r1
  have R1 := Lib.hid r1
  have O1 := Lib.hid o1
  have BW := Lib.hid bw
  clear r1 b1 s1 o1 bw
  go_wp2_with fail
  refine (s_l92Receipt _ _ _ _ R1.out (by omega)).mono ?_
  rintro e w2 ⟨i, b, d, rfl, r2, g2⟩
  have o2 := O1.out.grown g2 (fun k hk => by injection hk; omega)
  have B2 := Lib.hid (BW.out.trans ((gr_to_below g2 (B := w.heap.size) (by omega) (by omega))))
  have c0 := o2.cell (j := 0) (u := .int .i64 0) rfl
  have c1 := o2.cell (j := 1) (u := .bool false) rfl
  have c2 := o2.cell (j := 2) (u := .int .i64 0) rfl
  have f0 := o2.free 0
  have f1 := o2.free 1
  have f2 := o2.free 2
  clear r2 g2 o2
  go_wp2_with fail
  exact bodyPost_ret (v := .agg #[.int .i64 i, .bool b, .int .i64 d]) (by simp [results, Try.results49, go_sem, *]) rfl ⟨i, b, d, rfl, ((B2.out.setCell (by simp) _).setCell (by simp) _).setCell (by simp) _⟩
def CtxTT (w : World) (B r P g : Nat) (f t s x : Int) (W : World) : Prop :=
  (W.cell? ⟨g, 0, none⟩ = some (.int .i64 f) ∧ W.cell? ⟨g, 1, none⟩ = some (.int .i64 t) ∧ W.cell? ⟨g, 2, none⟩ = some (.int .i64 s) ∧ W.cell? ⟨g, 3, none⟩ = some (.int .i64 x)) ∧ RdAt W B r P ∧ Below w.heap.size w W ∧ Box W w.heap.size 75 #[.int .i64 0, .int .i64 0, .int .i64 0, .int .i64 0] ∧ Box W (w.heap.size + 1) 75 #[.int .i64 0, .int .i64 0, .int .i64 0, .int .i64 0] ∧ Box W g 75 #[.int .i64 f, .int .i64 t, .int .i64 s, .int .i64 x] ∧ w.heap.size + 1 < r ∧ r < g
theorem CtxTT.keep {w W w3 : World} {B r P P' g : Nat} {f t s x : Int} (h : CtxTT w B r P g f t s x W) (r3 : RdAt w3 B r P') (g3 : W.grownBy w3 (some r)) : CtxTT w B r P' g f t s x w3 := by
  obtain ⟨_, _, b, o, p, q, h1, h2⟩ := h
  have q3 := q.grown g3 (fun k hk => by injection hk; omega)
  have hz := b.size
  exact ⟨⟨q3.cell rfl, q3.cell rfl, q3.cell rfl, q3.cell rfl⟩, r3, b.trans (gr_to_below g3 (by omega) hz), o.grown g3 (fun k hk => by injection hk; omega), p.grown g3 (fun k hk => by injection hk; omega), q3, h1, h2⟩
theorem cell_set {W : World} {g g' j i : Nat} {u v : Value} (hne : g' < g) (h : W.cell? ⟨g, i, none⟩ = some v) : (W.setCell ⟨g', j, none⟩ u).cell? ⟨g, i, none⟩ = some v :=
  (World.cell?_setCell_other W _ _ _ (fun e => by injection e with e1; omega)).trans h
theorem set4 {W : World} {g g' j : Nat} {f t s x : Int} {u : Value} (hne : g' < g) (h : W.cell? ⟨g, 0, none⟩ = some (.int .i64 f) ∧ W.cell? ⟨g, 1, none⟩ = some (.int .i64 t) ∧ W.cell? ⟨g, 2, none⟩ = some (.int .i64 s) ∧ W.cell? ⟨g, 3, none⟩ = some (.int .i64 x)) : (W.setCell ⟨g', j, none⟩ u).cell? ⟨g, 0, none⟩ = some (.int .i64 f) ∧ (W.setCell ⟨g', j, none⟩ u).cell? ⟨g, 1, none⟩ = some (.int .i64 t) ∧ (W.setCell ⟨g', j, none⟩ u).cell? ⟨g, 2, none⟩ = some (.int .i64 s) ∧ (W.setCell ⟨g', j, none⟩ u).cell? ⟨g, 3, none⟩ = some (.int .i64 x) :=
  ⟨cell_set hne h.1, cell_set hne h.2.1, cell_set hne h.2.2.1, cell_set hne h.2.2.2⟩
def Free4 (W : World) (g : Nat) : Prop := (W.cell? ⟨g, 0, none⟩ = some (.int .i64 0) ∧ W.cell? ⟨g, 1, none⟩ = some (.int .i64 0) ∧ W.cell? ⟨g, 2, none⟩ = some (.int .i64 0) ∧ W.cell? ⟨g, 3, none⟩ = some (.int .i64 0)) ∧ (W.frozen? ⟨g, 0, none⟩ = false ∧ W.frozen? ⟨g, 1, none⟩ = false ∧ W.frozen? ⟨g, 2, none⟩ = false ∧ W.frozen? ⟨g, 3, none⟩ = false)
theorem Box.free4 {W : World} {g : Nat} {t : TypeId} (h : Box W g t #[.int .i64 0, .int .i64 0, .int .i64 0, .int .i64 0]) : Free4 W g := ⟨⟨h.cell rfl, h.cell rfl, h.cell rfl, h.cell rfl⟩, h.free 0, h.free 1, h.free 2, h.free 3⟩
def DrawnTT (w : World) (e : Ending) (w' : World) : Prop :=
  ∃ f t s x f' t' s' x' : Int, e = .returned (.tuple #[.agg #[.int .i64 f, .int .i64 t, .int .i64 s, .int .i64 x], .agg #[.int .i64 f', .int .i64 t', .int .i64 s', .int .i64 x']]) ∧ Below w.heap.size w w'
set_option maxHeartbeats 4000000 in
theorem s_DrawTxnsConflict (A : Option Addr) (c : Nat) (zs : List Int) (w : World) (h : Bytes w w.heap.size A zs) (hc : zs.length ≤ c) (hn : zs.length ≤ 1048576) :
    Calls Try.prog 46 #[.slice A zs.length c] w (DrawnTT w) := by
  have H := Lib.hid h
  clear h
  go_enter Try.func46, Try.ntmps46
  go_wp2_with fail
  refine (l6Open_any _ _ _ _ ((H.out.below (allocB2 w _ _)).more (by simp; omega)) hc hn).mono ?_
  rintro e w1 ⟨rfl, r1, b1, s1⟩
  have o1 := ((Box.new w _ _).carry (allocB _ _)).carry b1
  have p1 := (Box.new (w.alloc _) _ _).carry b1
  have bw := (allocB2 w _ _).trans (b1.mono (by simp; omega))
  have hs1 : w.heap.size + 3 ≤ w1.heap.size := by simp at s1; omega
  simp at r1 p1
  have R1 := Lib.hid r1
  have O1 := Lib.hid o1
  have P1 := Lib.hid p1
  have BW := Lib.hid bw
  clear r1 b1 s1 o1 p1 bw
  go_wp2_with fail
  refine (s_l92Txn _ _ _ _ R1.out (by omega)).mono ?_
  rintro e w2 ⟨f, t, s, x, rfl, r2, g2⟩
  have o2 := O1.out.grown g2 (fun k hk => by injection hk; omega)
  have p2 := P1.out.grown g2 (fun k hk => by injection hk; omega)
  have bw2 := BW.out.trans ((gr_to_below g2 (B := w.heap.size) (by omega) (by omega)))
  have hs2 : w.heap.size + 3 ≤ w2.heap.size := by have := g2.size; omega
  have O2 := Lib.hid (o2.carry (allocB w2 (.cells #[.int .i64 f, .int .i64 t, .int .i64 s, .int .i64 x] 75)))
  have P2 := Lib.hid (p2.carry (allocB w2 (.cells #[.int .i64 f, .int .i64 t, .int .i64 s, .int .i64 x] 75)))
  have B2 := Lib.hid (bw2.trans ((allocB w2 (.cells #[.int .i64 f, .int .i64 t, .int .i64 s, .int .i64 x] 75)).mono (by omega)))
  have R2 := Lib.hid (r2.carry (allocB w2 (.cells #[.int .i64 f, .int .i64 t, .int .i64 s, .int .i64 x] 75)))
  clear r2 g2 o2 p2 bw2
  go_wp2_with fail
  have hC0 : CtxTT w (w.heap.size + 2) (w.heap.size + 2) 6 w2.heap.size f t s x (w2.alloc (.cells #[.int .i64 f, .int .i64 t, .int .i64 s, .int .i64 x] 75)).drew := ⟨by simp, R2.out, B2.out.drew, O2.out, P2.out, Box.new w2 _ _, by omega, by omega⟩
  go_region_with (go_at_call 94; refine (s_l92Txn _ _ _ _ hC0.2.1 (by omega)).mono ?_; rintro e w3 ⟨f', t', s', x', rfl, r3, g3⟩; have hC3 := CtxTT.keep hC0 r3 g3; obtain ⟨⟨c0, c1, c2, c3⟩, e0, e1, e2, e3⟩ := Box.free4 hC3.2.2.2.1; obtain ⟨⟨d0, d1, d2, d3⟩, f0, f1, f2, f3⟩ := Box.free4 hC3.2.2.2.2.1; obtain ⟨q0, q1, q2, q3⟩ := hC3.1; clear r3 g3)
  all_goals
    have B3 := Lib.hid hC3.2.2.1
    clear hC3 hC0
    go_wp2_with fail
    exact bodyPost_ret (v := .tuple #[.agg #[.int .i64 f, .int .i64 t, .int .i64 s, .int .i64 x], .agg #[.int .i64 f', .int .i64 t', .int .i64 s', .int .i64 x']]) (by simp [results, Try.results46, go_sem, *]) rfl ⟨f, t, s, x, f', t', s', x', rfl, by
      exact ((((((((B3.out.setCell (by simp) _).setCell (by simp) _).setCell (by simp) _).setCell (by simp) _).setCell (by simp) _).setCell (by simp) _).setCell (by simp) _).setCell (by simp) _)⟩
end Go.Proofs.Ytohnodphlaoohaa
