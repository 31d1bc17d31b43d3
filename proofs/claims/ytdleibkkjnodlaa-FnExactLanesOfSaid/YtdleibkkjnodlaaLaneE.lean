/- Transactions as a graph; rows of labels in memory. -/
import Derived.Test.YtdleibkkjnodlaaLanesM
import Derived.Test.YtdleibkkjnodlaaLaneV
namespace Go.Proofs.Ytdleibkkjnodlaa
open Go.RowKit
set_option linter.unusedVariables false

/-- Two transactions share an account. -/
def confT (bs : List VTxn) (a b : Nat) : Bool := conflictB (nthTxn bs a).f (nthTxn bs a).t (nthTxn bs b).f (nthTxn bs b).t
def edgeT (bs : List VTxn) (a b : Nat) : Prop := a < bs.length ∧ b < bs.length ∧ confT bs a b = true
theorem edge_graph (bs : List VTxn) : Graph (edgeT bs) bs.length :=
  ⟨fun a b h => ⟨h.1, h.2.1⟩, fun a b h => ⟨h.2.1, h.1, by
    have := h.2.2
    simp only [confT, conflictB, decide_eq_true_eq] at this ⊢
    omega⟩⟩
noncomputable def lanesT (bs : List VTxn) : List (List Int) := lanesOfE (edgeT bs) bs.length
theorem lanesT_is {bs : List VTxn} {L : Nat → Nat} (h : IsLab (edgeT bs) bs.length L) : groupsTo L bs.length bs.length = lanesT bs := lanes_is h

/-- The row at block g holds the labels L. -/
def LabRow (w : World) (g n : Nat) (L : Nat → Nat) : Prop := w.rowIs g 3 n (fun i => .int .i64 (L i : Int))
section
variable {w w' : World} {g n : Nat} {L M : Nat → Nat}
theorem LabRow.cell (h : LabRow w g n L) {i : Nat} (hi : i < n) : w.cell? ⟨g, i, none⟩ = some (.int .i64 (L i : Int)) := World.rowIs.cell h hi
theorem LabRow.free (h : LabRow w g n L) (i : Nat) : w.frozen? ⟨g, i, none⟩ = false := World.rowIs.frozen h i
theorem LabRow.congr (h : LabRow w g n L) (e : ∀ i, i < n → L i = M i) : LabRow w g n M := World.rowIs.congr h (fun i hi => by rw [e i hi])
theorem LabRow.set (h : LabRow w g n L) (i v : Nat) : LabRow (w.setCell ⟨g, i, none⟩ (.int .i64 (v : Int))) g n (upd L i v) :=
  (World.rowIs.set h i (.int .i64 (v : Int))).congr (fun j hj => by unfold upd; by_cases e : j = i <;> simp [e])
theorem LabRow.lt (h : LabRow w g n L) : g < w.heap.size := World.rowIs.lt h
theorem LabRow.carry (h : LabRow w g n L) (hb : Below w.heap.size w w') : LabRow w' g n L := by
  obtain ⟨c, h1, h2, h3⟩ := h
  exact ⟨c, (hb.block g (lt_blk h1)).trans h1, h2, h3⟩
theorem LabRow.grown {row : Option Nat} (h : LabRow w g n L) (hg : w.grownBy w' row) (hne : row ≠ some g) : LabRow w' g n L := by
  obtain ⟨c, h1, h2, h3⟩ := h
  exact ⟨c, (hg.block g (lt_blk h1) (fun e => hne e.symm)).trans h1, h2, h3⟩
theorem LabRow.drew (h : LabRow w g n L) : LabRow w.drew g n L := h
end
theorem Lanes.less {w : World} {base base' h cap : Nat} {xs : List LaneV} (k : Lanes w base h cap xs) (hb : base' ≤ base) : Lanes w base' h cap xs :=
  ⟨Own.lowr k.own hb, fun x hx => Own.lowr (k.row x hx) hb, k.nd⟩
/-- append(v, l) for a lane l. -/
theorem appendLane {ops : Array Oper} {rest : List Oper} {o : Oper} {a : Act} {Q : Exit → Act → World → Prop} (hgd : o.guard = none) (s x : Operand)
    (ho : o.op = .call { callee := .builtin .append, args := #[s, x], argTypes := #[40, 40] }) (wr : World)
    (base h cap : Nat) (xs : List LaneV) (g n c : Nat) (hs : a.eval s = .slice (some ⟨h, 0, none⟩) xs.length cap) (hown : Own wr base 24 1 (.slice (some ⟨h, 0, none⟩) xs.length cap) xs.length (xs.map LaneV.val))
    (hx : a.eval x = .slice (some ⟨wr.heap.size, 0, none⟩) 1 1) (hn : xs.length ≤ 10000000) (hbase : base ≤ wr.heap.size)
    (hk : ∀ g' cap' w', Own w' base 24 1 (.slice (some ⟨g', 0, none⟩) (xs.length + 1) cap') (xs.length + 1) (xs.map LaneV.val ++ [.slice (some ⟨g, 0, none⟩) n c]) → wr.grownBy w' (some h) → wpList Try.prog ops Q rest (a.put o.dst (.slice (some ⟨g', 0, none⟩) (xs.length + 1) cap')) w') :
    wpList Try.prog ops Q (o :: rest) a (wr.alloc (.cells #[.slice (some ⟨g, 0, none⟩) n c] 24)) :=
  appendOne elem_ints (by omega) (by omega) hgd s x ho wr base _ xs.length _ hs hown #[.slice (some ⟨g, 0, none⟩) n c] hx rfl (by simp [Value.oneCell']) hn hbase
    (fun g' cap' w' h2 h3 => hk g' cap' w' h2 h3)
/-- One lane more, in the labels' words. -/
theorem groups_next {L : Nat → Nat} {n k : Nat} {xs : List LaneV} {g c : Nat} (h : xs.map LaneV.zs = groupsTo L n k) (hne : grp L n k ≠ []) : (xs ++ [(⟨g, c, grp L n k⟩ : LaneV)]).map LaneV.zs = groupsTo L n (k + 1) := by
  rw [groupsTo_yes hne, List.map_append, h]; rfl
/-- The labels at the start: the first k are their places. -/
def initL (k j : Nat) : Nat := if j < k then j else 0
theorem initL_step (k : Nat) : ∀ j, upd (initL k) k k j = initL (k + 1) j := by
  intro j; unfold upd initL
  by_cases e : j = k
  · subst e; simp
  · rw [if_neg e]; by_cases h : j < k
    · rw [if_pos h, if_pos (by omega)]
    · rw [if_neg h, if_neg (by omega)]
theorem LabRow.made (w : World) (n : Nat) : LabRow (w.alloc (.cells (madeCells #[.int .i64 0] n) 3)) w.heap.size n (initL 0) :=
  (World.rowIs_made w (.int .i64 0) n 3).congr (fun j _ => by simp [initL])
theorem initL_all {n : Nat} : ∀ i, i < n → initL n i = i := fun i hi => by simp [initL, hi]
end Go.Proofs.Ytdleibkkjnodlaa
