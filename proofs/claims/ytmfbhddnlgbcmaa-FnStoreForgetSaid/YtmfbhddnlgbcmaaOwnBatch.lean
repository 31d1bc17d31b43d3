/- Lists of Batch in memory of the call's own: appending, stores. -/
import Derived.Test.YtmfbhddnlgbcmaaLstBatch
import Derived.Test.YtmfbhddnlgbcmaaOwn
namespace Go.Proofs.Ytmfbhddnlgbcmaa
open Go.RowKit
set_option linter.unusedVariables false

def cellsBatch (bs : List VBatch) : List Value := bs.flatMap VBatch.cells
theorem cellsBatch_len (bs : List VBatch) : (cellsBatch bs).length = bs.length * 4 := by
  induction bs with
  | nil => rfl
  | cons b bs ih => simp only [cellsBatch, List.flatMap_cons, List.length_append, List.length_cons] at ih ⊢; rw [ih]; simp [VBatch.cells]; omega
theorem cellsBatch_get (bs : List VBatch) {i : Nat} (h : i < bs.length) : (cellsBatch bs)[i * 4]? = some (.int .i64 (nthBatch bs i).d) ∧ (cellsBatch bs)[i * 4 + 1]? = some (.int .i64 (nthBatch bs i).a) ∧ (cellsBatch bs)[i * 4 + 2]? = some (.int .i64 (nthBatch bs i).r) ∧ (cellsBatch bs)[i * 4 + 3]? = some (.int .i64 (nthBatch bs i).s) := by
  induction bs generalizing i with
  | nil => simp at h
  | cons b bs ih =>
    have e : cellsBatch (b :: bs) = b.cells ++ cellsBatch bs := by simp [cellsBatch]
    rw [e]
    rcases i with _ | i
    · simp [VBatch.cells, nthBatch]
    · have hi := ih (i := i) (by simpa using h)
      have e2 : nthBatch (b :: bs) (i + 1) = nthBatch bs i := by simp [nthBatch]
      have e3 : b.cells.length = 4 := rfl
      rw [e2]
      refine ⟨?_, ?_, ?_, ?_⟩
      · rw [show (i + 1) * 4 = b.cells.length + (i * 4) from by rw [e3]; omega, List.getElem?_append_right (by omega), Nat.add_sub_cancel_left]; exact hi.1
      · rw [show (i + 1) * 4 + 1 = b.cells.length + (i * 4 + 1) from by rw [e3]; omega, List.getElem?_append_right (by omega), Nat.add_sub_cancel_left]; exact hi.2.1
      · rw [show (i + 1) * 4 + 2 = b.cells.length + (i * 4 + 2) from by rw [e3]; omega, List.getElem?_append_right (by omega), Nat.add_sub_cancel_left]; exact hi.2.2.1
      · rw [show (i + 1) * 4 + 3 = b.cells.length + (i * 4 + 3) from by rw [e3]; omega, List.getElem?_append_right (by omega), Nat.add_sub_cancel_left]; exact hi.2.2.2
theorem cellsBatch_one (bs : List VBatch) : ∀ u ∈ cellsBatch bs, u.oneCell' = true := by
  intro u hu
  obtain ⟨b, _, hb⟩ := List.mem_flatMap.1 hu
  simp [VBatch.cells] at hb
  rcases hb with rfl | rfl | rfl | rfl <;> rfl
theorem cellsBatch_snoc (bs : List VBatch) (x : VBatch) : cellsBatch (bs ++ [x]) = cellsBatch bs ++ x.cells := by simp [cellsBatch]
theorem LstBatch.row {w : World} {B : Nat} {A : Option Addr} {ys : List VBatch} (hr : LstBatch w B A ys) : Row w B A (cellsBatch ys) := by
  intro hne
  have hy : ys ≠ [] := by intro e; subst e; simp [cellsBatch] at hne
  obtain ⟨b, off, e, hb, hc⟩ := hr hy
  refine ⟨b, off, e, hb, fun j u hu => ?_⟩
  have hj : j < ys.length * 4 := by
    have := (List.getElem?_eq_some_iff.1 hu).1
    rwa [cellsBatch_len] at this
  have hq : j / 4 < ys.length := by omega
  have hg := cellsBatch_get ys hq
  have hcc := hc (j / 4) hq
  have hmod : j = j / 4 * 4 + j % 4 := by omega
  have hr4 : j % 4 < 4 := by omega
  generalize j / 4 = q at *
  generalize j % 4 = r at *
  subst hmod
  rcases (show r = 0 ∨ r = 1 ∨ r = 2 ∨ r = 3 by omega) with rfl | rfl | rfl | rfl
  · rw [Nat.add_zero] at hu ⊢; rw [hg.1] at hu; injection hu with hu; subst hu; exact hcc.1
  · rw [hg.2.1] at hu; injection hu with hu; subst hu; rw [← Nat.add_assoc]; exact hcc.2.1
  · rw [hg.2.2.1] at hu; injection hu with hu; subst hu; rw [← Nat.add_assoc]; exact hcc.2.2.1
  · rw [hg.2.2.2] at hu; injection hu with hu; subst hu; rw [← Nat.add_assoc]; exact hcc.2.2.2
theorem infoE_Batch : (Try.prog.info? 27).map (fun i => (i.zero, i.size, i.bytes)) = some (some (.agg #[.int .i64 0, .int .i64 0, .int .i64 0, .int .i64 0]), 4, 32) := by kernel_rfl
theorem elem_Batch : Elem 23 27 4 32 := by
  obtain ⟨i, hi, h0, h1, h2⟩ := info_parts infoE_Batch
  exact ⟨Try.underlying23, i, _, hi, h0, h1, h2, rfl⟩
/-- A list of Batch in memory from block L on. -/
def LstUpBatch (w : World) (L : Nat) (A : Option Addr) (bs : List VBatch) : Prop := bs ≠ [] → ∃ b off, A = some ⟨b, off, none⟩ ∧ L ≤ b ∧ b < w.heap.size ∧ ∀ i, i < bs.length → w.cell? ⟨b, off + i * 4, none⟩ = some (.int .i64 (nthBatch bs i).d) ∧ w.cell? ⟨b, off + i * 4 + 1, none⟩ = some (.int .i64 (nthBatch bs i).a) ∧ w.cell? ⟨b, off + i * 4 + 2, none⟩ = some (.int .i64 (nthBatch bs i).r) ∧ w.cell? ⟨b, off + i * 4 + 3, none⟩ = some (.int .i64 (nthBatch bs i).s)
section
variable {w w' : World} {L L' : Nat} {A : Option Addr} {bs : List VBatch}
theorem LstUpBatch.lst (h : LstUpBatch w L A bs) : LstBatch w w.heap.size A bs := fun hn => by
  obtain ⟨b, off, e, _, hb, hc⟩ := h hn
  exact ⟨b, off, e, hb, hc⟩
theorem LstUpBatch.less (h : LstUpBatch w L A bs) (hL : L' ≤ L) : LstUpBatch w L' A bs := fun hn => by
  obtain ⟨b, off, e, h1, h2, h3⟩ := h hn
  exact ⟨b, off, e, by omega, h2, h3⟩
theorem LstUpBatch.keep (h : LstUpBatch w L A bs) (hs : w.heap.size ≤ w'.heap.size) (hk : ∀ b off, L ≤ b → b < w.heap.size → w'.cell? ⟨b, off, none⟩ = w.cell? ⟨b, off, none⟩) : LstUpBatch w' L A bs := fun hn => by
  obtain ⟨b, off, e, h1, h2, h3⟩ := h hn
  refine ⟨b, off, e, h1, by omega, fun i hi => ?_⟩
  obtain ⟨c0, c1, c2, c3⟩ := h3 i hi
  exact ⟨(hk _ _ h1 h2).trans c0, (hk _ _ h1 h2).trans c1, (hk _ _ h1 h2).trans c2, (hk _ _ h1 h2).trans c3⟩
theorem LstUpBatch.carry (h : LstUpBatch w L A bs) (hb : Below w.heap.size w w') : LstUpBatch w' L A bs := h.keep hb.size (fun b off _ h2 => hb.cell (p := ⟨b, off, none⟩) h2)
theorem LstUpBatch.grown {r : Nat} (h : LstUpBatch w L A bs) (hg : w.grownBy w' (some r)) (hr : r < L) : LstUpBatch w' L A bs :=
  h.keep hg.size (fun b off h1 h2 => hg.cell_far ⟨b, off, none⟩ h2 (fun e => by have : b = r := by simpa using e
                                                                                omega))
theorem LstUpBatch.nil (w : World) (L : Nat) (A : Option Addr) : LstUpBatch w L A [] := fun h => absurd rfl h
end
/-- An owned row of Batch. -/
def OwnBatch (w : World) (base : Nat) (v : Value) (bs : List VBatch) : Prop := Own w base 27 4 v bs.length (cellsBatch bs)
section
variable {w w' : World} {base : Nat} {v : Value} {bs : List VBatch}
theorem OwnBatch.kept {row : Option Nat} (h : OwnBatch w base v bs) (hg : w.grownBy w' row) (hne : ∀ g, row = some g → g < base) : OwnBatch w' base v bs := Own.kept h hg hne
theorem OwnBatch.alloc (h : OwnBatch w base v bs) (o : Obj) : OwnBatch (w.alloc o) base v bs := Own.alloc h o
theorem OwnBatch.below (h : OwnBatch w base v bs) (hb : Below w.heap.size w w') : OwnBatch w' base v bs := Own.below h hb
theorem OwnBatch.carry (h : OwnBatch w base v bs) (hb : Below w.heap.size w w') : OwnBatch w' base v bs := Own.below h hb
theorem OwnBatch.base_le (h : OwnBatch w base v bs) : ∀ g, v.ownBlock = some g → base ≤ g := Own.base_le h
theorem OwnBatch.up {g cap n : Nat} (h : OwnBatch w base (.slice (some ⟨g, 0, none⟩) n cap) bs) : n = bs.length ∧ LstUpBatch w base (some ⟨g, 0, none⟩) bs ∧ bs.length ≤ cap := by
  obtain ⟨h1, g', cap', e⟩ := h
  simp only [Value.slice.injEq, Option.some.injEq, Addr.mk.injEq, and_true] at e
  obtain ⟨rfl, rfl, rfl⟩ := e
  refine ⟨rfl, fun hz => ?_, ?_⟩
  · obtain ⟨h2, h3⟩ := h1.lt g rfl
    refine ⟨g, 0, rfl, h2, h3, fun i hi => ?_⟩
    have hc := cellsBatch_get bs hi
    have hl := cellsBatch_len bs
    have hat : ∀ j, j < bs.length * 4 → w.cell? ⟨g, j, none⟩ = (cellsBatch bs)[j]? := fun j hj => by
      rcases h1.2 with ⟨h', _⟩ | ⟨g', cap', cur, h', _, hg, _, _, _, htake⟩
      · cases h'
      · simp only [Value.slice.injEq, Option.some.injEq, Addr.mk.injEq, and_true, true_and] at h'
        obtain ⟨rfl, rfl⟩ := h'
        rw [cell_of_row w _ _ _ _ _ hg, ← htake, List.getElem?_take, if_pos hj]
        simp
    simp only [Nat.zero_add]
    exact ⟨(hat _ (by omega)).trans hc.1, (hat _ (by omega)).trans hc.2.1, (hat _ (by omega)).trans hc.2.2.1, (hat _ (by omega)).trans hc.2.2.2⟩
  · rcases h1.2 with ⟨h', _⟩ | ⟨g', cap', cur, h', _, _, hnc, _⟩
    · cases h'
    · simp only [Value.slice.injEq, Option.some.injEq, Addr.mk.injEq, and_true, true_and] at h'
      omega
theorem OwnBatch.start (hb : base ≤ w.heap.size) : OwnBatch (w.alloc (.cells #[] 27)) base (.slice (some ⟨w.heap.size, 0, none⟩) 0 0) [] :=
  Own.lit w #[] 0 hb (by omega) (by simp)
end
/-- append(v, x) for a Batch x. -/
theorem appendBatch {ops : Array Oper} {rest : List Oper} {o : Oper} {a : Act} {Q : Exit → Act → World → Prop} (hgd : o.guard = none) (s x : Operand)
    (ho : o.op = .call { callee := .builtin .append, args := #[s, x], argTypes := #[23, 23] }) (wr : World)
    (base : Nat) (v : Value) (bs : List VBatch) (z : VBatch) (hs : a.eval s = v) (hown : OwnBatch wr base v bs)
    (hx : a.eval x = .slice (some ⟨wr.heap.size, 0, none⟩) 1 1) (hn : bs.length ≤ 10000000) (hbase : base ≤ wr.heap.size)
    (h : ∀ g cap w', OwnBatch w' base (.slice (some ⟨g, 0, none⟩) (bs.length + 1) cap) (bs ++ [z]) → wr.grownBy w' v.ownBlock → wpList Try.prog ops Q rest (a.put o.dst (.slice (some ⟨g, 0, none⟩) (bs.length + 1) cap)) w') :
    wpList Try.prog ops Q (o :: rest) a (wr.alloc (.cells #[.int .i64 z.d, .int .i64 z.a, .int .i64 z.r, .int .i64 z.s] 27)) :=
  appendOne elem_Batch (by omega) (by omega) hgd s x ho wr base v bs.length _ hs hown #[.int .i64 z.d, .int .i64 z.a, .int .i64 z.r, .int .i64 z.s] hx rfl (by simp [Value.oneCell']) hn hbase
    (fun g cap w' h2 h3 => h g cap w' (by unfold OwnBatch; rw [cellsBatch_snoc, List.length_append]; exact h2) h3)
/-- append(v, y...) for lists of Batch. -/
theorem appendBatchs {ops : Array Oper} {rest : List Oper} {o : Oper} {a : Act} {Q : Exit → Act → World → Prop} (hgd : o.guard = none) (s x : Operand)
    (ho : o.op = .call { callee := .builtin .append, args := #[s, x], argTypes := #[23, 23] }) (w : World)
    (base : Nat) (v : Value) (bs : List VBatch) (hs : a.eval s = v) (hown : OwnBatch w base v bs)
    (B : Nat) (A : Option Addr) (m c : Nat) (ys : List VBatch) (hx : a.eval x = .slice A m c) (hm : m = ys.length) (hr : LstBatch w B A ys) (hn : bs.length + m ≤ 10000000) (hbase : base ≤ w.heap.size)
    (h : ∀ g cap w', OwnBatch w' base (.slice (some ⟨g, 0, none⟩) (bs.length + m) cap) (bs ++ ys) → w.grownBy w' v.ownBlock → wpList Try.prog ops Q rest (a.put o.dst (.slice (some ⟨g, 0, none⟩) (bs.length + m) cap)) w') :
    wpList Try.prog ops Q (o :: rest) a w := by
  subst hm
  refine appendAll elem_Batch (by omega) (by omega) hgd s x ho w base v bs.length _ hs hown B A ys.length c (cellsBatch ys) hx (cellsBatch_len ys) ?_ (cellsBatch_one ys) hn hbase
    (fun g cap w' h2 h3 => h g cap w' (by unfold OwnBatch; rw [List.length_append, show cellsBatch (bs ++ ys) = cellsBatch bs ++ cellsBatch ys from by simp [cellsBatch]]; exact h2) h3)
  exact hr.row
end Go.Proofs.Ytmfbhddnlgbcmaa
