/- What the laws draw, further: digests, transactions, receipts. -/
import Derived.Test.YtohnodphlaoohaaRd
import Derived.Test.YtohnodphlaoohaaOwn
namespace Go.Proofs.Ytohnodphlaoohaa
open Go.RowKit
set_option linter.unusedVariables false

/-- Block g holds just these cells, free to be written. -/
def Box (w : World) (g : Nat) (t : TypeId) (vs : Array Value) : Prop := w.heap[g]? = some (.cells vs t (0, 0))
section
variable {w w' : World} {g : Nat} {t : TypeId} {vs : Array Value}
theorem Box.lt (h : Box w g t vs) : g < w.heap.size := lt_blk h
theorem Box.below {B : Nat} (h : Box w g t vs) (hb : Below B w w') (hg : g < B) : Box w' g t vs := (hb.block g hg).trans h
theorem Box.carry (h : Box w g t vs) (hb : Below w.heap.size w w') : Box w' g t vs := h.below hb h.lt
theorem Box.grown {row : Option Nat} (h : Box w g t vs) (hg : w.grownBy w' row) (hr : ∀ k, row = some k → k ≠ g) : Box w' g t vs :=
  (hg.block g h.lt (fun e => hr g e.symm rfl)).trans h
theorem Box.new (w : World) (vs : Array Value) (t : TypeId) : Box (w.alloc (.cells vs t)) w.heap.size t vs := heap_alloc_new w _
theorem Box.set (h : Box w g t vs) (j : Nat) (u : Value) : Box (w.setCell ⟨g, j, none⟩ u) g t (vs.setIfInBounds j u) := blk_set h j u
theorem Box.other {g' : Nat} (h : Box w g t vs) (hg : g' ≠ g) (j : Nat) (u : Value) : Box (w.setCell ⟨g', j, none⟩ u) g t vs :=
  (Below.heap_setCell w _ u g (by show g ≠ g'; omega)).trans h
theorem Box.cell (h : Box w g t vs) {j : Nat} {u : Value} (hj : vs[j]? = some u) : w.cell? ⟨g, j, none⟩ = some u := by rw [cell_of_row w g j vs t _ h]; exact hj
theorem Box.free (h : Box w g t vs) (j : Nat) : w.frozen? ⟨g, j, none⟩ = false := by simp [World.frozen?, show w.heap[g]? = _ from h]
end
theorem gr_set {w w1 : World} {r g : Nat} (h : w.grownBy w1 (some r)) (hg : w.heap.size ≤ g) (j : Nat) (u : Value) : w.grownBy (w1.setCell ⟨g, j, none⟩ u) (some r) :=
  ⟨h.os, h.tape, h.output, by simpa [World.setCell] using h.size, fun i hi hne => (Below.heap_setCell w1 _ u i (by show i ≠ g; omega)).trans (h.block i hi hne)⟩
theorem RdAt.set {w : World} {B r P g : Nat} (h : RdAt w B r P) (hg : r < g) (j : Nat) (u : Value) : RdAt (w.setCell ⟨g, j, none⟩ u) B r P :=
  h.keep (Nat.le_refl _) (Below.heap_setCell w _ u r (by show r ≠ g; omega)) (fun k hk => Below.heap_setCell w _ u k (by have := h.le; show k ≠ g; omega))

/-- A number was drawn; nothing has turned but the reader. -/
def DrawnZ (w : World) (B r P : Nat) (lo hi : Int) (e : Ending) (w' : World) : Prop :=
  ∃ x : Int, e = .returned (.int .i64 x) ∧ lo ≤ x ∧ x ≤ hi ∧ RdAt w' B r P ∧ w.grownBy w' (some r)
theorem tab_bd {zs : List Int} {lo hi : Int} (h : ∀ z ∈ zs, lo ≤ z ∧ z ≤ hi) {k : Nat} (hk : k < zs.length) : lo ≤ nth zs k ∧ nth zs k ≤ hi := by
  rw [nth_eq hk]; exact h _ (List.getElem_mem hk)
theorem tabCell {w : World} {b : Nat} {t : TypeId} {x : Int} (zs : List Int) (h0 : 0 ≤ x) (h9 : x < zs.length) (hb : w.heap[b]? = some (.cells (zs.map (Value.int .i64)).toArray t (0, 0))) :
    w.cell? ⟨b, x.toNat, none⟩ = some (.int .i64 (nth zs x.toNat)) := by
  have hx : x.toNat < zs.length := by omega
  rw [cell_of_row w b _ _ _ _ hb]
  simp [List.getElem?_eq_getElem hx, nth_eq hx]
set_option maxHeartbeats 2000000 in
theorem s_l91Digest (w : World) (B r P : Nat) (h : RdAt w B r P) (hP : P ≤ 990000) :
    Calls Try.prog 121 #[.pointer (some ⟨r, 0, none⟩)] w (DrawnZ w B r (P + 3) (-1) 991) := by
  have hrl := h.lt
  have H := Lib.hid h
  clear h
  go_enter Try.func121, Try.ntmps121
  go_wp2_with fail
  refine (pick_any _ B r P 16 H.out (by omega)).mono ?_
  rintro e w1 ⟨x, rfl, hx0, _, hxn, hrd1, hg1, hs1⟩
  have hx := hxn (by omega)
  have G1 := Lib.hid hg1
  have R1 := Lib.hid hrd1
  have hz1 : w.heap.size ≤ w1.heap.size := by omega
  clear hrd1 hg1 hxn hs1
  by_cases x0 : x = 0
  · have b0 := (beq_iff_eq (a := x) (b := 0)).2 x0
    clear x0
    go_wp2_with fail
    refine (pick_any _ B r _ 4 (R1.out.carry (allocB _ _)) (by omega)).mono ?_
    rintro e w2 ⟨y, rfl, hy0, _, hyn, hrd2, hg2, hs2⟩
    have hy := hyn (by omega)
    have hyl : y.toNat < [-1, 0, 990, 991].length := by simp; omega
    have ct := tabCell (w := w2) (b := w1.heap.size) (t := 3) (x := y) [-1, 0, 990, 991] hy0 (by simpa using hy) (by
      rw [hg2.block w1.heap.size (by simp) (by simp; omega)]; exact heap_alloc_new w1 _)
    have hbd := tab_bd (zs := [-1, 0, 990, 991]) (lo := -1) (hi := 991) (by simp) hyl
    have G2 := Lib.hid ((gr_alloc G1.out _).trans hg2)
    have R2 := Lib.hid hrd2
    have HBD := Lib.hid hbd
    clear hrd2 hg2 hyn hyl hbd hs2
    go_wp2_with fail
    go_ret
    exact ⟨_, rfl, HBD.out.1, HBD.out.2, R2.out.mono (by omega), G2.out⟩
  · have b0 := beq_eq_false_iff_ne.2 x0
    clear x0
    go_wp2_with fail
    refine (pick_any _ B r _ 99 R1.out (by omega)).mono ?_
    rintro e w2 ⟨y, rfl, hy0, _, hyn, hrd2, hg2, hs2⟩
    have hy := hyn (by omega)
    have G2 := Lib.hid (G1.out.trans hg2)
    have R2 := Lib.hid hrd2
    clear hrd2 hg2 hyn hs2
    go_wp2_with fail
    refine (pick_any _ B r _ 10 R2.out (by omega)).mono ?_
    rintro e w3 ⟨z, rfl, hz0, _, hzn, hrd3, hg3, hs3⟩
    have hz := hzn (by omega)
    have G3 := Lib.hid (G2.out.trans hg3)
    have R3 := Lib.hid hrd3
    clear hrd3 hg3 hzn hs3
    go_wp2_with fail
    go_ret
    exact ⟨_, rfl, by omega, by omega, R3.out.mono (by omega), G3.out⟩
end Go.Proofs.Ytohnodphlaoohaa
