/- Lists of Receipt in memory of the call's own: appending, stores. -/
import Derived.Test.YtdleibkkjnodlaaLstReceipt
import Derived.Test.YtdleibkkjnodlaaOwn
namespace Go.Proofs.Ytdleibkkjnodlaa
open Go.RowKit
set_option linter.unusedVariables false

def cellsReceipt (bs : List VReceipt) : List Value := bs.flatMap VReceipt.cells
theorem cellsReceipt_len (bs : List VReceipt) : (cellsReceipt bs).length = bs.length * 3 := by
  induction bs with
  | nil => rfl
  | cons b bs ih => simp only [cellsReceipt, List.flatMap_cons, List.length_append, List.length_cons] at ih ⊢; rw [ih]; simp [VReceipt.cells]; omega
theorem cellsReceipt_get (bs : List VReceipt) {i : Nat} (h : i < bs.length) : (cellsReceipt bs)[i * 3]? = some (.int .i64 (nthReceipt bs i).i) ∧ (cellsReceipt bs)[i * 3 + 1]? = some (.bool (nthReceipt bs i).b) ∧ (cellsReceipt bs)[i * 3 + 2]? = some (.int .i64 (nthReceipt bs i).d) := by
  induction bs generalizing i with
  | nil => simp at h
  | cons b bs ih =>
    have e : cellsReceipt (b :: bs) = b.cells ++ cellsReceipt bs := by simp [cellsReceipt]
    rw [e]
    rcases i with _ | i
    · simp [VReceipt.cells, nthReceipt]
    · have hi := ih (i := i) (by simpa using h)
      have e2 : nthReceipt (b :: bs) (i + 1) = nthReceipt bs i := by simp [nthReceipt]
      have e3 : b.cells.length = 3 := rfl
      rw [e2]
      refine ⟨?_, ?_, ?_⟩
      · rw [show (i + 1) * 3 = b.cells.length + (i * 3) from by rw [e3]; omega, List.getElem?_append_right (by omega), Nat.add_sub_cancel_left]; exact hi.1
      · rw [show (i + 1) * 3 + 1 = b.cells.length + (i * 3 + 1) from by rw [e3]; omega, List.getElem?_append_right (by omega), Nat.add_sub_cancel_left]; exact hi.2.1
      · rw [show (i + 1) * 3 + 2 = b.cells.length + (i * 3 + 2) from by rw [e3]; omega, List.getElem?_append_right (by omega), Nat.add_sub_cancel_left]; exact hi.2.2
theorem cellsReceipt_one (bs : List VReceipt) : ∀ u ∈ cellsReceipt bs, u.oneCell' = true := by
  intro u hu
  obtain ⟨b, _, hb⟩ := List.mem_flatMap.1 hu
  simp [VReceipt.cells] at hb
  rcases hb with rfl | rfl | rfl <;> rfl
theorem cellsReceipt_snoc (bs : List VReceipt) (x : VReceipt) : cellsReceipt (bs ++ [x]) = cellsReceipt bs ++ x.cells := by simp [cellsReceipt]
theorem LstReceipt.row {w : World} {B : Nat} {A : Option Addr} {ys : List VReceipt} (hr : LstReceipt w B A ys) : Row w B A (cellsReceipt ys) := by
  intro hne
  have hy : ys ≠ [] := by intro e; subst e; simp [cellsReceipt] at hne
  obtain ⟨b, off, e, hb, hc⟩ := hr hy
  refine ⟨b, off, e, hb, fun j u hu => ?_⟩
  have hj : j < ys.length * 3 := by
    have := (List.getElem?_eq_some_iff.1 hu).1
    rwa [cellsReceipt_len] at this
  have hq : j / 3 < ys.length := by omega
  have hg := cellsReceipt_get ys hq
  have hcc := hc (j / 3) hq
  have hmod : j = j / 3 * 3 + j % 3 := by omega
  have hr4 : j % 3 < 3 := by omega
  generalize j / 3 = q at *
  generalize j % 3 = r at *
  subst hmod
  rcases (show r = 0 ∨ r = 1 ∨ r = 2 by omega) with rfl | rfl | rfl
  · rw [Nat.add_zero] at hu ⊢; rw [hg.1] at hu; injection hu with hu; subst hu; exact hcc.1
  · rw [hg.2.1] at hu; injection hu with hu; subst hu; rw [← Nat.add_assoc]; exact hcc.2.1
  · rw [hg.2.2] at hu; injection hu with hu; subst hu; rw [← Nat.add_assoc]; exact hcc.2.2
theorem infoE_Receipt : (Try.prog.info? 26).map (fun i => (i.zero, i.size, i.bytes)) = some (some (.agg #[.int .i64 0, .bool false, .int .i64 0]), 3, 24) := by kernel_rfl
theorem elem_Receipt : Elem 50 26 3 24 := by
  obtain ⟨i, hi, h0, h1, h2⟩ := info_parts infoE_Receipt
  exact ⟨Try.underlying50, i, _, hi, h0, h1, h2, rfl⟩
/-- A list of Receipt in memory from block L on. -/
def LstUpReceipt (w : World) (L : Nat) (A : Option Addr) (bs : List VReceipt) : Prop := bs ≠ [] → ∃ b off, A = some ⟨b, off, none⟩ ∧ L ≤ b ∧ b < w.heap.size ∧ ∀ i, i < bs.length → w.cell? ⟨b, off + i * 3, none⟩ = some (.int .i64 (nthReceipt bs i).i) ∧ w.cell? ⟨b, off + i * 3 + 1, none⟩ = some (.bool (nthReceipt bs i).b) ∧ w.cell? ⟨b, off + i * 3 + 2, none⟩ = some (.int .i64 (nthReceipt bs i).d)
section
variable {w w' : World} {L L' : Nat} {A : Option Addr} {bs : List VReceipt}
theorem LstUpReceipt.lst (h : LstUpReceipt w L A bs) : LstReceipt w w.heap.size A bs := fun hn => by
  obtain ⟨b, off, e, _, hb, hc⟩ := h hn
  exact ⟨b, off, e, hb, hc⟩
theorem LstUpReceipt.less (h : LstUpReceipt w L A bs) (hL : L' ≤ L) : LstUpReceipt w L' A bs := fun hn => by
  obtain ⟨b, off, e, h1, h2, h3⟩ := h hn
  exact ⟨b, off, e, by omega, h2, h3⟩
theorem LstUpReceipt.keep (h : LstUpReceipt w L A bs) (hs : w.heap.size ≤ w'.heap.size) (hk : ∀ b off, L ≤ b → b < w.heap.size → w'.cell? ⟨b, off, none⟩ = w.cell? ⟨b, off, none⟩) : LstUpReceipt w' L A bs := fun hn => by
  obtain ⟨b, off, e, h1, h2, h3⟩ := h hn
  refine ⟨b, off, e, h1, by omega, fun i hi => ?_⟩
  obtain ⟨c0, c1, c2⟩ := h3 i hi
  exact ⟨(hk _ _ h1 h2).trans c0, (hk _ _ h1 h2).trans c1, (hk _ _ h1 h2).trans c2⟩
theorem LstUpReceipt.carry (h : LstUpReceipt w L A bs) (hb : Below w.heap.size w w') : LstUpReceipt w' L A bs := h.keep hb.size (fun b off _ h2 => hb.cell (p := ⟨b, off, none⟩) h2)
theorem LstUpReceipt.grown {r : Nat} (h : LstUpReceipt w L A bs) (hg : w.grownBy w' (some r)) (hr : r < L) : LstUpReceipt w' L A bs :=
  h.keep hg.size (fun b off h1 h2 => hg.cell_far ⟨b, off, none⟩ h2 (fun e => by have : b = r := by simpa using e
                                                                                omega))
theorem LstUpReceipt.nil (w : World) (L : Nat) (A : Option Addr) : LstUpReceipt w L A [] := fun h => absurd rfl h
end
/-- An owned row of Receipt. -/
def OwnReceipt (w : World) (base : Nat) (v : Value) (bs : List VReceipt) : Prop := Own w base 26 3 v bs.length (cellsReceipt bs)
section
variable {w w' : World} {base : Nat} {v : Value} {bs : List VReceipt}
theorem OwnReceipt.kept {row : Option Nat} (h : OwnReceipt w base v bs) (hg : w.grownBy w' row) (hne : ∀ g, row = some g → g < base) : OwnReceipt w' base v bs := Own.kept h hg hne
theorem OwnReceipt.alloc (h : OwnReceipt w base v bs) (o : Obj) : OwnReceipt (w.alloc o) base v bs := Own.alloc h o
theorem OwnReceipt.below (h : OwnReceipt w base v bs) (hb : Below w.heap.size w w') : OwnReceipt w' base v bs := Own.below h hb
theorem OwnReceipt.carry (h : OwnReceipt w base v bs) (hb : Below w.heap.size w w') : OwnReceipt w' base v bs := Own.below h hb
theorem OwnReceipt.base_le (h : OwnReceipt w base v bs) : ∀ g, v.ownBlock = some g → base ≤ g := Own.base_le h
theorem OwnReceipt.up {g cap n : Nat} (h : OwnReceipt w base (.slice (some ⟨g, 0, none⟩) n cap) bs) : n = bs.length ∧ LstUpReceipt w base (some ⟨g, 0, none⟩) bs ∧ bs.length ≤ cap := by
  obtain ⟨h1, g', cap', e⟩ := h
  simp only [Value.slice.injEq, Option.some.injEq, Addr.mk.injEq, and_true] at e
  obtain ⟨rfl, rfl, rfl⟩ := e
  refine ⟨rfl, fun hz => ?_, ?_⟩
  · obtain ⟨h2, h3⟩ := h1.lt g rfl
    refine ⟨g, 0, rfl, h2, h3, fun i hi => ?_⟩
    have hc := cellsReceipt_get bs hi
    have hl := cellsReceipt_len bs
    have hat : ∀ j, j < bs.length * 3 → w.cell? ⟨g, j, none⟩ = (cellsReceipt bs)[j]? := fun j hj => by
      rcases h1.2 with ⟨h', _⟩ | ⟨g', cap', cur, h', _, hg, _, _, _, htake⟩
      · cases h'
      · simp only [Value.slice.injEq, Option.some.injEq, Addr.mk.injEq, and_true, true_and] at h'
        obtain ⟨rfl, rfl⟩ := h'
        rw [cell_of_row w _ _ _ _ _ hg, ← htake, List.getElem?_take, if_pos hj]
        simp
    simp only [Nat.zero_add]
    exact ⟨(hat _ (by omega)).trans hc.1, (hat _ (by omega)).trans hc.2.1, (hat _ (by omega)).trans hc.2.2⟩
  · rcases h1.2 with ⟨h', _⟩ | ⟨g', cap', cur, h', _, _, hnc, _⟩
    · cases h'
    · simp only [Value.slice.injEq, Option.some.injEq, Addr.mk.injEq, and_true, true_and] at h'
      omega
theorem OwnReceipt.start (hb : base ≤ w.heap.size) : OwnReceipt (w.alloc (.cells #[] 26)) base (.slice (some ⟨w.heap.size, 0, none⟩) 0 0) [] :=
  Own.lit w #[] 0 hb (by omega) (by simp)
end
/-- append(v, x) for a Receipt x. -/
theorem appendReceipt {ops : Array Oper} {rest : List Oper} {o : Oper} {a : Act} {Q : Exit → Act → World → Prop} (hgd : o.guard = none) (s x : Operand)
    (ho : o.op = .call { callee := .builtin .append, args := #[s, x], argTypes := #[50, 50] }) (wr : World)
    (base : Nat) (v : Value) (bs : List VReceipt) (z : VReceipt) (hs : a.eval s = v) (hown : OwnReceipt wr base v bs)
    (hx : a.eval x = .slice (some ⟨wr.heap.size, 0, none⟩) 1 1) (hn : bs.length ≤ 10000000) (hbase : base ≤ wr.heap.size)
    (h : ∀ g cap w', OwnReceipt w' base (.slice (some ⟨g, 0, none⟩) (bs.length + 1) cap) (bs ++ [z]) → wr.grownBy w' v.ownBlock → wpList Try.prog ops Q rest (a.put o.dst (.slice (some ⟨g, 0, none⟩) (bs.length + 1) cap)) w') :
    wpList Try.prog ops Q (o :: rest) a (wr.alloc (.cells #[.int .i64 z.i, .bool z.b, .int .i64 z.d] 26)) :=
  appendOne elem_Receipt (by omega) (by omega) hgd s x ho wr base v bs.length _ hs hown #[.int .i64 z.i, .bool z.b, .int .i64 z.d] hx rfl (by simp [Value.oneCell']) hn hbase
    (fun g cap w' h2 h3 => h g cap w' (by unfold OwnReceipt; rw [cellsReceipt_snoc, List.length_append]; exact h2) h3)
/-- append(v, y...) for lists of Receipt. -/
theorem appendReceipts {ops : Array Oper} {rest : List Oper} {o : Oper} {a : Act} {Q : Exit → Act → World → Prop} (hgd : o.guard = none) (s x : Operand)
    (ho : o.op = .call { callee := .builtin .append, args := #[s, x], argTypes := #[50, 50] }) (w : World)
    (base : Nat) (v : Value) (bs : List VReceipt) (hs : a.eval s = v) (hown : OwnReceipt w base v bs)
    (B : Nat) (A : Option Addr) (m c : Nat) (ys : List VReceipt) (hx : a.eval x = .slice A m c) (hm : m = ys.length) (hr : LstReceipt w B A ys) (hn : bs.length + m ≤ 10000000) (hbase : base ≤ w.heap.size)
    (h : ∀ g cap w', OwnReceipt w' base (.slice (some ⟨g, 0, none⟩) (bs.length + m) cap) (bs ++ ys) → w.grownBy w' v.ownBlock → wpList Try.prog ops Q rest (a.put o.dst (.slice (some ⟨g, 0, none⟩) (bs.length + m) cap)) w') :
    wpList Try.prog ops Q (o :: rest) a w := by
  subst hm
  refine appendAll elem_Receipt (by omega) (by omega) hgd s x ho w base v bs.length _ hs hown B A ys.length c (cellsReceipt ys) hx (cellsReceipt_len ys) ?_ (cellsReceipt_one ys) hn hbase
    (fun g cap w' h2 h3 => h g cap w' (by unfold OwnReceipt; rw [List.length_append, show cellsReceipt (bs ++ ys) = cellsReceipt bs ++ cellsReceipt ys from by simp [cellsReceipt]]; exact h2) h3)
  exact hr.row
end Go.Proofs.Ytdleibkkjnodlaa
