/- Lists of Txn in memory of the call's own: appending, stores. -/
import Derived.Test.YtdleibkkjnodlaaLstTxn
import Derived.Test.YtdleibkkjnodlaaOwn
namespace Go.Proofs.Ytdleibkkjnodlaa
open Go.RowKit
set_option linter.unusedVariables false

def cellsTxn (bs : List VTxn) : List Value := bs.flatMap VTxn.cells
theorem cellsTxn_len (bs : List VTxn) : (cellsTxn bs).length = bs.length * 4 := by
  induction bs with
  | nil => rfl
  | cons b bs ih => simp only [cellsTxn, List.flatMap_cons, List.length_append, List.length_cons] at ih ⊢; rw [ih]; simp [VTxn.cells]; omega
theorem cellsTxn_get (bs : List VTxn) {i : Nat} (h : i < bs.length) : (cellsTxn bs)[i * 4]? = some (.int .i64 (nthTxn bs i).f) ∧ (cellsTxn bs)[i * 4 + 1]? = some (.int .i64 (nthTxn bs i).t) ∧ (cellsTxn bs)[i * 4 + 2]? = some (.int .i64 (nthTxn bs i).s) ∧ (cellsTxn bs)[i * 4 + 3]? = some (.int .i64 (nthTxn bs i).e) := by
  induction bs generalizing i with
  | nil => simp at h
  | cons b bs ih =>
    have e : cellsTxn (b :: bs) = b.cells ++ cellsTxn bs := by simp [cellsTxn]
    rw [e]
    rcases i with _ | i
    · simp [VTxn.cells, nthTxn]
    · have hi := ih (i := i) (by simpa using h)
      have e2 : nthTxn (b :: bs) (i + 1) = nthTxn bs i := by simp [nthTxn]
      have e3 : b.cells.length = 4 := rfl
      rw [e2]
      refine ⟨?_, ?_, ?_, ?_⟩
      · rw [show (i + 1) * 4 = b.cells.length + (i * 4) from by rw [e3]; omega, List.getElem?_append_right (by omega), Nat.add_sub_cancel_left]; exact hi.1
      · rw [show (i + 1) * 4 + 1 = b.cells.length + (i * 4 + 1) from by rw [e3]; omega, List.getElem?_append_right (by omega), Nat.add_sub_cancel_left]; exact hi.2.1
      · rw [show (i + 1) * 4 + 2 = b.cells.length + (i * 4 + 2) from by rw [e3]; omega, List.getElem?_append_right (by omega), Nat.add_sub_cancel_left]; exact hi.2.2.1
      · rw [show (i + 1) * 4 + 3 = b.cells.length + (i * 4 + 3) from by rw [e3]; omega, List.getElem?_append_right (by omega), Nat.add_sub_cancel_left]; exact hi.2.2.2
theorem cellsTxn_one (bs : List VTxn) : ∀ u ∈ cellsTxn bs, u.oneCell' = true := by
  intro u hu
  obtain ⟨b, _, hb⟩ := List.mem_flatMap.1 hu
  simp [VTxn.cells] at hb
  rcases hb with rfl | rfl | rfl | rfl <;> rfl
theorem cellsTxn_snoc (bs : List VTxn) (x : VTxn) : cellsTxn (bs ++ [x]) = cellsTxn bs ++ x.cells := by simp [cellsTxn]
theorem LstTxn.row {w : World} {B : Nat} {A : Option Addr} {ys : List VTxn} (hr : LstTxn w B A ys) : Row w B A (cellsTxn ys) := by
  intro hne
  have hy : ys ≠ [] := by intro e; subst e; simp [cellsTxn] at hne
  obtain ⟨b, off, e, hb, hc⟩ := hr hy
  refine ⟨b, off, e, hb, fun j u hu => ?_⟩
  have hj : j < ys.length * 4 := by
    have := (List.getElem?_eq_some_iff.1 hu).1
    rwa [cellsTxn_len] at this
  have hq : j / 4 < ys.length := by omega
  have hg := cellsTxn_get ys hq
  have hcc := hc (j / 4) hq
  have hmod : j = j / 4 * 4 + j % 4 := by omega
  have hr4 : j % 4 < 4 := by omega
  generalize j / 4 = q at *
  generalize j % 4 = r at *
  subst hmod
  rcases (show r = 0 ∨ r = 1 ∨ r = 2 ∨ r = 3 by omega) with rfl | rfl | rfl | rfl
  · rw [Nat.add_zero] at hu ⊢; rw [hg.1] at hu; injection hu with hu; subst hu; exact hcc.1
  · rw [hg.2.1] at hu; injection hu with hu; subst hu; rw [← Nat.add_assoc]; exact hcc.2.1
  · rw [hg.2.2.1] at hu; injection hu with hu; subst hu; rw [← Nat.add_assoc]; exact hcc.2.2.1
  · rw [hg.2.2.2] at hu; injection hu with hu; subst hu; rw [← Nat.add_assoc]; exact hcc.2.2.2
theorem infoE_Txn : (Try.prog.info? 46).map (fun i => (i.zero, i.size, i.bytes)) = some (some (.agg #[.int .i64 0, .int .i64 0, .int .i64 0, .int .i64 0]), 4, 32) := by kernel_rfl
theorem elem_Txn : Elem 34 46 4 32 := by
  obtain ⟨i, hi, h0, h1, h2⟩ := info_parts infoE_Txn
  exact ⟨Try.underlying34, i, _, hi, h0, h1, h2, rfl⟩
/-- A list of Txn in memory from block L on. -/
def LstUpTxn (w : World) (L : Nat) (A : Option Addr) (bs : List VTxn) : Prop := bs ≠ [] → ∃ b off, A = some ⟨b, off, none⟩ ∧ L ≤ b ∧ b < w.heap.size ∧ ∀ i, i < bs.length → w.cell? ⟨b, off + i * 4, none⟩ = some (.int .i64 (nthTxn bs i).f) ∧ w.cell? ⟨b, off + i * 4 + 1, none⟩ = some (.int .i64 (nthTxn bs i).t) ∧ w.cell? ⟨b, off + i * 4 + 2, none⟩ = some (.int .i64 (nthTxn bs i).s) ∧ w.cell? ⟨b, off + i * 4 + 3, none⟩ = some (.int .i64 (nthTxn bs i).e)
section
variable {w w' : World} {L L' : Nat} {A : Option Addr} {bs : List VTxn}
theorem LstUpTxn.lst (h : LstUpTxn w L A bs) : LstTxn w w.heap.size A bs := fun hn => by
  obtain ⟨b, off, e, _, hb, hc⟩ := h hn
  exact ⟨b, off, e, hb, hc⟩
theorem LstUpTxn.less (h : LstUpTxn w L A bs) (hL : L' ≤ L) : LstUpTxn w L' A bs := fun hn => by
  obtain ⟨b, off, e, h1, h2, h3⟩ := h hn
  exact ⟨b, off, e, by omega, h2, h3⟩
theorem LstUpTxn.keep (h : LstUpTxn w L A bs) (hs : w.heap.size ≤ w'.heap.size) (hk : ∀ b off, L ≤ b → b < w.heap.size → w'.cell? ⟨b, off, none⟩ = w.cell? ⟨b, off, none⟩) : LstUpTxn w' L A bs := fun hn => by
  obtain ⟨b, off, e, h1, h2, h3⟩ := h hn
  refine ⟨b, off, e, h1, by omega, fun i hi => ?_⟩
  obtain ⟨c0, c1, c2, c3⟩ := h3 i hi
  exact ⟨(hk _ _ h1 h2).trans c0, (hk _ _ h1 h2).trans c1, (hk _ _ h1 h2).trans c2, (hk _ _ h1 h2).trans c3⟩
theorem LstUpTxn.carry (h : LstUpTxn w L A bs) (hb : Below w.heap.size w w') : LstUpTxn w' L A bs := h.keep hb.size (fun b off _ h2 => hb.cell (p := ⟨b, off, none⟩) h2)
theorem LstUpTxn.grown {r : Nat} (h : LstUpTxn w L A bs) (hg : w.grownBy w' (some r)) (hr : r < L) : LstUpTxn w' L A bs :=
  h.keep hg.size (fun b off h1 h2 => hg.cell_far ⟨b, off, none⟩ h2 (fun e => by have : b = r := by simpa using e
                                                                                omega))
theorem LstUpTxn.nil (w : World) (L : Nat) (A : Option Addr) : LstUpTxn w L A [] := fun h => absurd rfl h
end
/-- An owned row of Txn. -/
def OwnTxn (w : World) (base : Nat) (v : Value) (bs : List VTxn) : Prop := Own w base 46 4 v bs.length (cellsTxn bs)
section
variable {w w' : World} {base : Nat} {v : Value} {bs : List VTxn}
theorem OwnTxn.kept {row : Option Nat} (h : OwnTxn w base v bs) (hg : w.grownBy w' row) (hne : ∀ g, row = some g → g < base) : OwnTxn w' base v bs := Own.kept h hg hne
theorem OwnTxn.alloc (h : OwnTxn w base v bs) (o : Obj) : OwnTxn (w.alloc o) base v bs := Own.alloc h o
theorem OwnTxn.below (h : OwnTxn w base v bs) (hb : Below w.heap.size w w') : OwnTxn w' base v bs := Own.below h hb
theorem OwnTxn.carry (h : OwnTxn w base v bs) (hb : Below w.heap.size w w') : OwnTxn w' base v bs := Own.below h hb
theorem OwnTxn.base_le (h : OwnTxn w base v bs) : ∀ g, v.ownBlock = some g → base ≤ g := Own.base_le h
theorem OwnTxn.up {g cap n : Nat} (h : OwnTxn w base (.slice (some ⟨g, 0, none⟩) n cap) bs) : n = bs.length ∧ LstUpTxn w base (some ⟨g, 0, none⟩) bs ∧ bs.length ≤ cap := by
  obtain ⟨h1, g', cap', e⟩ := h
  simp only [Value.slice.injEq, Option.some.injEq, Addr.mk.injEq, and_true] at e
  obtain ⟨rfl, rfl, rfl⟩ := e
  refine ⟨rfl, fun hz => ?_, ?_⟩
  · obtain ⟨h2, h3⟩ := h1.lt g rfl
    refine ⟨g, 0, rfl, h2, h3, fun i hi => ?_⟩
    have hc := cellsTxn_get bs hi
    have hl := cellsTxn_len bs
    have hat : ∀ j, j < bs.length * 4 → w.cell? ⟨g, j, none⟩ = (cellsTxn bs)[j]? := fun j hj => by
      rcases h1.2 with ⟨h', _⟩ | ⟨g', cap', cur, h', _, hg, _, _, _, htake⟩
      · cases h'
      · simp only [Value.slice.injEq, Option.some.injEq, Addr.mk.injEq, and_true, true_and] at h'
        obtain ⟨rfl, rfl⟩ := h'
        rw [cell_of_row w _ _ _ _ _ hg, ← htake, List.getElem?_take, if_pos hj]
        simp
    simp only [Nat.zero_add]
    exact ⟨(hat _ (by omega)).trans hc.1, (hat _ (by omega)).trans hc.2.1, (hat _ (by omega)).trans hc.2.2.1, (hat _ (by omega)).trans hc.2.2.2⟩
  · rcases h1.2 with ⟨h', _⟩ | ⟨g', cap', cur, h', _, _, hnc, _⟩
    · cases h'
    · simp only [Value.slice.injEq, Option.some.injEq, Addr.mk.injEq, and_true, true_and] at h'
      omega
theorem OwnTxn.start (hb : base ≤ w.heap.size) : OwnTxn (w.alloc (.cells #[] 46)) base (.slice (some ⟨w.heap.size, 0, none⟩) 0 0) [] :=
  Own.lit w #[] 0 hb (by omega) (by simp)
end
/-- append(v, x) for a Txn x. -/
theorem appendTxn {ops : Array Oper} {rest : List Oper} {o : Oper} {a : Act} {Q : Exit → Act → World → Prop} (hgd : o.guard = none) (s x : Operand)
    (ho : o.op = .call { callee := .builtin .append, args := #[s, x], argTypes := #[34, 34] }) (wr : World)
    (base : Nat) (v : Value) (bs : List VTxn) (z : VTxn) (hs : a.eval s = v) (hown : OwnTxn wr base v bs)
    (hx : a.eval x = .slice (some ⟨wr.heap.size, 0, none⟩) 1 1) (hn : bs.length ≤ 10000000) (hbase : base ≤ wr.heap.size)
    (h : ∀ g cap w', OwnTxn w' base (.slice (some ⟨g, 0, none⟩) (bs.length + 1) cap) (bs ++ [z]) → wr.grownBy w' v.ownBlock → wpList Try.prog ops Q rest (a.put o.dst (.slice (some ⟨g, 0, none⟩) (bs.length + 1) cap)) w') :
    wpList Try.prog ops Q (o :: rest) a (wr.alloc (.cells #[.int .i64 z.f, .int .i64 z.t, .int .i64 z.s, .int .i64 z.e] 46)) :=
  appendOne elem_Txn (by omega) (by omega) hgd s x ho wr base v bs.length _ hs hown #[.int .i64 z.f, .int .i64 z.t, .int .i64 z.s, .int .i64 z.e] hx rfl (by simp [Value.oneCell']) hn hbase
    (fun g cap w' h2 h3 => h g cap w' (by unfold OwnTxn; rw [cellsTxn_snoc, List.length_append]; exact h2) h3)
/-- append(v, y...) for lists of Txn. -/
theorem appendTxns {ops : Array Oper} {rest : List Oper} {o : Oper} {a : Act} {Q : Exit → Act → World → Prop} (hgd : o.guard = none) (s x : Operand)
    (ho : o.op = .call { callee := .builtin .append, args := #[s, x], argTypes := #[34, 34] }) (w : World)
    (base : Nat) (v : Value) (bs : List VTxn) (hs : a.eval s = v) (hown : OwnTxn w base v bs)
    (B : Nat) (A : Option Addr) (m c : Nat) (ys : List VTxn) (hx : a.eval x = .slice A m c) (hm : m = ys.length) (hr : LstTxn w B A ys) (hn : bs.length + m ≤ 10000000) (hbase : base ≤ w.heap.size)
    (h : ∀ g cap w', OwnTxn w' base (.slice (some ⟨g, 0, none⟩) (bs.length + m) cap) (bs ++ ys) → w.grownBy w' v.ownBlock → wpList Try.prog ops Q rest (a.put o.dst (.slice (some ⟨g, 0, none⟩) (bs.length + m) cap)) w') :
    wpList Try.prog ops Q (o :: rest) a w := by
  subst hm
  refine appendAll elem_Txn (by omega) (by omega) hgd s x ho w base v bs.length _ hs hown B A ys.length c (cellsTxn ys) hx (cellsTxn_len ys) ?_ (cellsTxn_one ys) hn hbase
    (fun g cap w' h2 h3 => h g cap w' (by unfold OwnTxn; rw [List.length_append, show cellsTxn (bs ++ ys) = cellsTxn bs ++ cellsTxn ys from by simp [cellsTxn]]; exact h2) h3)
  exact hr.row
end Go.Proofs.Ytdleibkkjnodlaa
