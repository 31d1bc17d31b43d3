/- Marking the cells of a list, and asking whether they still hold the marks: each function by its contract. -/
import Derived.Test.YtohnodphlaoohaaDraw5
import Derived.Test.YtohnodphlaoohaaOwn
namespace Go.Proofs.Ytohnodphlaoohaa
open Go.RowKit
set_option linter.unusedVariables false

/-- The first m cells of block g are there and may be written. -/
def Wr (w : World) (g m : Nat) : Prop := ∀ j, j < m → (∃ u, w.cell? ⟨g, j, none⟩ = some u) ∧ w.frozen? ⟨g, j, none⟩ = false
/-- A slice of m cells that may be written. -/
def WrS (w : World) (A : Option Addr) (m : Nat) : Prop := 0 < m → ∃ g, A = some ⟨g, 0, none⟩ ∧ Wr w g m
/-- The first m cells of block g hold k, k + 1, .. -/
def Marks (w : World) (g m : Nat) (k : Int) : Prop := ∀ j, j < m → w.cell? ⟨g, j, none⟩ = some (.int .i64 (k + j))
/-- A slice of m cells was marked from k on; nothing else has turned. -/
def Marked (w : World) (A : Option Addr) (m : Nat) (k : Int) (e : Ending) (w' : World) : Prop :=
  e = .returned (.int .i64 (k + m)) ∧ w'.heap.size = w.heap.size ∧ (m = 0 → w = w') ∧ (0 < m → ∀ g, A = some ⟨g, 0, none⟩ → w.grownBy w' (some g) ∧ Marks w' g m k)
def HeldS (w : World) (A : Option Addr) (m : Nat) (k : Int) : Prop := 0 < m → ∃ g, A = some ⟨g, 0, none⟩ ∧ Marks w g m k
section
variable {w w' : World} {g m : Nat} {k : Int} {A : Option Addr}
theorem Wr.grown {r : Nat} (h : Wr w g m) (hg : w.grownBy w' (some r)) (hne : r ≠ g) : Wr w' g m := fun j hj => by
  obtain ⟨⟨u, hu⟩, hf⟩ := h j hj
  have hlt := lt_of_cell hu
  exact ⟨⟨u, (hg.cell_far ⟨g, j, none⟩ hlt (fun e => hne (by simpa using e.symm))).trans hu⟩, (hg.frozen_far ⟨g, j, none⟩ hlt (fun e => hne (by simpa using e.symm))).trans hf⟩
theorem Wr.carry (h : Wr w g m) (hb : Below w.heap.size w w') : Wr w' g m := fun j hj => by
  obtain ⟨⟨u, hu⟩, hf⟩ := h j hj
  exact ⟨⟨u, keepc hb hu⟩, keepf hb hu hf⟩
theorem Wr.of_box {t : TypeId} {vs : Array Value} (h : Box w g t vs) (hm : m ≤ vs.size) : Wr w g m := fun j hj => by
  obtain ⟨u, a, b⟩ := blk_at (j := j) (show w.heap[g]? = _ from h) (by omega)
  exact ⟨⟨u, a⟩, b⟩
theorem Wr.of_own {base : Nat} {t : TypeId} {size n cap : Nat} {xs : List Value} (h : Own w base t size (.slice (some ⟨g, 0, none⟩) n cap) n xs) : Wr w g (n * size) := fun j hj => by
  rcases h.1.2 with ⟨h', _⟩ | ⟨g', cap', cur, h', _, hgg, hnc, _, hcs, _⟩
  · cases h'
  · simp only [Value.slice.injEq, Option.some.injEq, Addr.mk.injEq, and_true, true_and] at h'
    obtain ⟨rfl, rfl⟩ := h'
    have : n * size ≤ cap * size := Nat.mul_le_mul_right _ hnc
    obtain ⟨u, a, b⟩ := blk_at (j := j) hgg (by omega)
    exact ⟨⟨u, a⟩, b⟩
theorem Marks.grown {r : Nat} (h : Marks w g m k) (hg : w.grownBy w' (some r)) (hne : r ≠ g) : Marks w' g m k := fun j hj =>
  (hg.cell_far ⟨g, j, none⟩ (lt_of_cell (h j hj)) (fun e => hne (by simpa using e.symm))).trans (h j hj)
theorem Marks.carry (h : Marks w g m k) (hb : Below w.heap.size w w') : Marks w' g m k := fun j hj => keepc hb (h j hj)
theorem HeldS.carry (h : HeldS w A m k) (hb : Below w.heap.size w w') : HeldS w' A m k := fun hm => by
  obtain ⟨g, e, hk⟩ := h hm
  exact ⟨g, e, hk.carry hb⟩
theorem WrS.carry (h : WrS w A m) (hb : Below w.heap.size w w') : WrS w' A m := fun hm => by
  obtain ⟨g, e, hk⟩ := h hm
  exact ⟨g, e, hk.carry hb⟩
end
theorem gr_one {w w1 : World} {g : Nat} (h : w.grownBy w1 (some g)) (j : Nat) (u : Value) : w.grownBy (w1.setCell ⟨g, j, none⟩ u) (some g) :=
  ⟨h.os, h.tape, h.output, by simpa [World.setCell] using h.size, fun i hi hne => (Below.heap_setCell w1 _ u i (by intro e; exact hne (by rw [e]))).trans (h.block i hi hne)⟩
theorem Wr.set {w : World} {g m : Nat} (h : Wr w g m) (j : Nat) (u : Value) (hj : j < m) : Wr (w.setCell ⟨g, j, none⟩ u) g m := fun i hi => by
  obtain ⟨⟨v, hv⟩, hf⟩ := h i hi
  obtain ⟨⟨v', hv'⟩, hf'⟩ := h j hj
  refine ⟨?_, by rw [World.frozen?_setCell]; exact hf⟩
  by_cases e : i = j
  · subst e; exact ⟨u, World.cell?_setCell_same w _ _ hv⟩
  · exact ⟨v, (World.cell?_setCell_other w _ _ _ (fun e2 => by injection e2; omega)).trans hv⟩
theorem Marks.set {w : World} {g m : Nat} {k : Int} (h : Marks w g m k) (hw : ∃ u, w.cell? ⟨g, m, none⟩ = some u) : Marks (w.setCell ⟨g, m, none⟩ (.int .i64 (k + m))) g (m + 1) k := fun i hi => by
  obtain ⟨u, hu⟩ := hw
  by_cases e : i = m
  · subst e; exact World.cell?_setCell_same w _ _ hu
  · exact (World.cell?_setCell_other w _ _ _ (fun e2 => by injection e2; omega)).trans (h i (by omega))
set_option maxHeartbeats 4000000 in
theorem l_markIntS (A : Option Addr) (c n : Nat) (k : Int) (w : World) (h : WrS w A (n)) (hn : n ≤ 1048576) (h0 : 0 ≤ k) (h1 : k ≤ 1000000000000) :
    Calls Try.prog 18 #[.slice A n c, .int .i64 k] w (Marked w A (n) k) := by
  go_enter Try.func18, Try.ntmps18
  go_wp2
  go_loopw [1, 5] (fun kk ii wr => ∃ i : Nat, i ≤ n ∧ ii = .int .i64 i ∧ kk = .int .i64 (k + (i : Nat)) ∧ wr.heap.size = w.heap.size ∧ (i = 0 → w = wr) ∧ (∀ g, A = some ⟨g, 0, none⟩ → 0 < n → w.grownBy wr (some g) ∧ Wr wr g (n) ∧ Marks wr g (i) k)) (fun _ ii _ => n - (intOf ii).toNat)
  case atStart => exact ⟨0, Nat.zero_le _, rfl, by simp, rfl, fun _ => rfl, fun g hg hm => by
    obtain ⟨g', e, hw⟩ := h (by omega)
    rw [hg] at e
    injection e with e
    injection e with e
    subst e
    exact ⟨gr_refl w g, hw, fun j hj => absurd hj (by omega)⟩⟩
  case round =>
    obtain ⟨i, hi, rfl, rfl, hsz, hz, hrest⟩ := hrel
    have HZ := Lib.hid hsz
    have HR := Lib.hid hrest
    have HZ0 := Lib.hid hz
    clear hsz hrest hz
    by_cases hlt : i < n
    · obtain ⟨g, rfl, _⟩ := h (by omega)
      obtain ⟨hg, hw, hm⟩ := HR.out g rfl (by omega)
      obtain ⟨⟨u0, s0⟩, f0⟩ := hw (i) (by omega)
      have HG := Lib.hid hg
      have HW := Lib.hid hw
      have HM := Lib.hid hm
      clear hg hw hm h
      go_wp2_with fail
      go_roundw
      case rel =>
        refine ⟨i + 1, by omega, by go_num, by rw [show i + 1 = i + 1 from by omega]; go_num, by simpa [World.setCell] using HZ.out, fun e => absurd e (by omega), fun g' hg' _ => ?_⟩
        injection hg' with hg'
        injection hg' with hg'
        subst hg'
        have g0 := gr_one HG.out (i) (.int .i64 (k + (i : Nat)))
        have w0 := HW.out.set (i) (.int .i64 (k + (i : Nat))) (by omega)
        have m0 := HM.out.set (HW.out (i) (by omega)).1
        have em : i + 1 = i + 1 := by omega
        rw [em]
        refine ⟨?_, ?_, ?_⟩
        · (have t := g0; simpa [Int.natCast_add, Int.natCast_mul, Int.add_assoc] using t)
        · (have t := w0; simpa [Int.natCast_add, Int.natCast_mul, Int.add_assoc] using t)
        · (have t := m0; simpa [Int.natCast_add, Int.natCast_mul, Int.add_assoc] using t)
      case measure => simp [intOf]; omega
    · clear h
      have e : i = n := by omega
      subst e
      go_wp2_with fail
      go_ret
      refine ⟨ret_int (by first | rfl | simp), HZ.out, fun e => HZ0.out (by omega), fun hm g hg => ?_⟩
      obtain ⟨a, _, b⟩ := HR.out g hg (by omega)
      exact ⟨a, b⟩
set_option maxHeartbeats 4000000 in
theorem l_heldIntS (A : Option Addr) (c n : Nat) (k : Int) (w : World) (h : HeldS w A (n) k) (hn : n ≤ 1048576) (h0 : 0 ≤ k) (h1 : k ≤ 1000000000000) :
    Calls Try.prog 39 #[.slice A n c, .int .i64 k] w fun e w' => e = .returned (.int .i64 (k + (n : Nat))) ∧ w = w' := by
  go_enter Try.func39, Try.ntmps39
  go_wp2
  go_loop [1, 5] (fun kk ii => ∃ i : Nat, i ≤ n ∧ ii = .int .i64 i ∧ kk = .int .i64 (k + (i : Nat))) (fun _ ii => n - (intOf ii).toNat)
  case atStart => exact ⟨0, Nat.zero_le _, rfl, by simp⟩
  case round =>
    obtain ⟨i, hi, rfl, rfl⟩ := hrel
    by_cases hlt : i < n
    · obtain ⟨g, rfl, hm⟩ := h (by omega)
      have s0 := hm (i) (by omega)
      clear hm h
      go_wp2_with fail
      go_round
      case rel => exact ⟨i + 1, by omega, by go_num, by rw [show i + 1 = i + 1 from by omega]; go_num⟩
      case measure => simp [intOf]; omega
    · clear h
      have e : i = n := by omega
      subst e
      go_wp2_with fail
      go_ret
      exact ⟨ret_int (by first | rfl | simp), rfl⟩
set_option maxHeartbeats 4000000 in
theorem l_markVoteS (A : Option Addr) (c n : Nat) (k : Int) (w : World) (h : WrS w A (n * 3)) (hn : n ≤ 1048576) (h0 : 0 ≤ k) (h1 : k ≤ 1000000000000) :
    Calls Try.prog 92 #[.slice A n c, .int .i64 k] w (Marked w A (n * 3) k) := by
  go_enter Try.func92, Try.ntmps92
  go_wp2
  go_loopw [1, 5] (fun kk ii wr => ∃ i : Nat, i ≤ n ∧ ii = .int .i64 i ∧ kk = .int .i64 (k + (i * 3 : Nat)) ∧ wr.heap.size = w.heap.size ∧ (i = 0 → w = wr) ∧ (∀ g, A = some ⟨g, 0, none⟩ → 0 < n → w.grownBy wr (some g) ∧ Wr wr g (n * 3) ∧ Marks wr g (i * 3) k)) (fun _ ii _ => n - (intOf ii).toNat)
  case atStart => exact ⟨0, Nat.zero_le _, rfl, by simp, rfl, fun _ => rfl, fun g hg hm => by
    obtain ⟨g', e, hw⟩ := h (by omega)
    rw [hg] at e
    injection e with e
    injection e with e
    subst e
    exact ⟨gr_refl w g, hw, fun j hj => absurd hj (by omega)⟩⟩
  case round =>
    obtain ⟨i, hi, rfl, rfl, hsz, hz, hrest⟩ := hrel
    have HZ := Lib.hid hsz
    have HR := Lib.hid hrest
    have HZ0 := Lib.hid hz
    clear hsz hrest hz
    by_cases hlt : i < n
    · obtain ⟨g, rfl, _⟩ := h (by omega)
      obtain ⟨hg, hw, hm⟩ := HR.out g rfl (by omega)
      obtain ⟨⟨u0, s0⟩, f0⟩ := hw (i * 3) (by omega)
      obtain ⟨⟨u1, s1⟩, f1⟩ := hw (i * 3 + 1) (by omega)
      obtain ⟨⟨u2, s2⟩, f2⟩ := hw (i * 3 + 2) (by omega)
      have HG := Lib.hid hg
      have HW := Lib.hid hw
      have HM := Lib.hid hm
      clear hg hw hm h
      go_wp2_with fail
      go_roundw
      case rel =>
        refine ⟨i + 1, by omega, by go_num, by rw [show (i + 1) * 3 = i * 3 + 3 from by omega]; go_num, by simpa [World.setCell] using HZ.out, fun e => absurd e (by omega), fun g' hg' _ => ?_⟩
        injection hg' with hg'
        injection hg' with hg'
        subst hg'
        have g0 := gr_one HG.out (i * 3) (.int .i64 (k + (i * 3 : Nat)))
        have w0 := HW.out.set (i * 3) (.int .i64 (k + (i * 3 : Nat))) (by omega)
        have m0 := HM.out.set (HW.out (i * 3) (by omega)).1
        have g1 := gr_one g0 (i * 3 + 1) (.int .i64 (k + (i * 3 + 1 : Nat)))
        have w1 := w0.set (i * 3 + 1) (.int .i64 (k + (i * 3 + 1 : Nat))) (by omega)
        have m1 := m0.set (w0 (i * 3 + 1) (by omega)).1
        have g2 := gr_one g1 (i * 3 + 2) (.int .i64 (k + (i * 3 + 2 : Nat)))
        have w2 := w1.set (i * 3 + 2) (.int .i64 (k + (i * 3 + 2 : Nat))) (by omega)
        have m2 := m1.set (w1 (i * 3 + 2) (by omega)).1
        have em : (i + 1) * 3 = i * 3 + 2 + 1 := by omega
        rw [em]
        refine ⟨?_, ?_, ?_⟩
        · (have t := g2; simpa [Int.natCast_add, Int.natCast_mul, Int.add_assoc] using t)
        · (have t := w2; simpa [Int.natCast_add, Int.natCast_mul, Int.add_assoc] using t)
        · (have t := m2; simpa [Int.natCast_add, Int.natCast_mul, Int.add_assoc] using t)
      case measure => simp [intOf]; omega
    · clear h
      have e : i = n := by omega
      subst e
      go_wp2_with fail
      go_ret
      refine ⟨ret_int (by first | rfl | simp), HZ.out, fun e => HZ0.out (by omega), fun hm g hg => ?_⟩
      obtain ⟨a, _, b⟩ := HR.out g hg (by omega)
      exact ⟨a, b⟩
set_option maxHeartbeats 4000000 in
theorem l_heldVoteS (A : Option Addr) (c n : Nat) (k : Int) (w : World) (h : HeldS w A (n * 3) k) (hn : n ≤ 1048576) (h0 : 0 ≤ k) (h1 : k ≤ 1000000000000) :
    Calls Try.prog 93 #[.slice A n c, .int .i64 k] w fun e w' => e = .returned (.int .i64 (k + (n * 3 : Nat))) ∧ w = w' := by
  go_enter Try.func93, Try.ntmps93
  go_wp2
  go_loop [1, 5] (fun kk ii => ∃ i : Nat, i ≤ n ∧ ii = .int .i64 i ∧ kk = .int .i64 (k + (i * 3 : Nat))) (fun _ ii => n - (intOf ii).toNat)
  case atStart => exact ⟨0, Nat.zero_le _, rfl, by simp⟩
  case round =>
    obtain ⟨i, hi, rfl, rfl⟩ := hrel
    by_cases hlt : i < n
    · obtain ⟨g, rfl, hm⟩ := h (by omega)
      have s0 := hm (i * 3) (by omega)
      have s1 := hm (i * 3 + 1) (by omega)
      have s2 := hm (i * 3 + 2) (by omega)
      clear hm h
      go_wp2_with fail
      go_round
      case rel => exact ⟨i + 1, by omega, by go_num, by rw [show (i + 1) * 3 = i * 3 + 3 from by omega]; go_num⟩
      case measure => simp [intOf]; omega
    · clear h
      have e : i = n := by omega
      subst e
      go_wp2_with fail
      go_ret
      exact ⟨ret_int (by first | rfl | simp), rfl⟩
end Go.Proofs.Ytohnodphlaoohaa
