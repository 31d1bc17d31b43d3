/- Lists of Vote in memory of the call's own: appending, stores. -/
import Derived.Test.YtohnodphlaoohaaLstVote
import Derived.Test.YtohnodphlaoohaaOwn
namespace Go.Proofs.Ytohnodphlaoohaa
open Go.RowKit
set_option linter.unusedVariables false

def cellsVote (bs : List VVote) : List Value := bs.flatMap VVote.cells
theorem cellsVote_len (bs : List VVote) : (cellsVote bs).length = bs.length * 3 := by
  induction bs with
  | nil => rfl
  | cons b bs ih => simp only [cellsVote, List.flatMap_cons, List.length_append, List.length_cons] at ih ⊢; rw [ih]; simp [VVote.cells]; omega
theorem cellsVote_get (bs : List VVote) {i : Nat} (h : i < bs.length) : (cellsVote bs)[i * 3]? = some (.int .i64 (nthVote bs i).r) ∧ (cellsVote bs)[i * 3 + 1]? = some (.int .i64 (nthVote bs i).a) ∧ (cellsVote bs)[i * 3 + 2]? = some (.int .i64 (nthVote bs i).d) := by
  induction bs generalizing i with
  | nil => simp at h
  | cons b bs ih =>
    have e : cellsVote (b :: bs) = b.cells ++ cellsVote bs := by simp [cellsVote]
    rw [e]
    rcases i with _ | i
    · simp [VVote.cells, nthVote]
    · have hi := ih (i := i) (by simpa using h)
      have e2 : nthVote (b :: bs) (i + 1) = nthVote bs i := by simp [nthVote]
      have e3 : b.cells.length = 3 := rfl
      rw [e2]
      refine ⟨?_, ?_, ?_⟩
      · rw [show (i + 1) * 3 = b.cells.length + (i * 3) from by rw [e3]; omega, List.getElem?_append_right (by omega), Nat.add_sub_cancel_left]; exact hi.1
      · rw [show (i + 1) * 3 + 1 = b.cells.length + (i * 3 + 1) from by rw [e3]; omega, List.getElem?_append_right (by omega), Nat.add_sub_cancel_left]; exact hi.2.1
      · rw [show (i + 1) * 3 + 2 = b.cells.length + (i * 3 + 2) from by rw [e3]; omega, List.getElem?_append_right (by omega), Nat.add_sub_cancel_left]; exact hi.2.2
theorem cellsVote_one (bs : List VVote) : ∀ u ∈ cellsVote bs, u.oneCell' = true := by
  intro u hu
  obtain ⟨b, _, hb⟩ := List.mem_flatMap.1 hu
  simp [VVote.cells] at hb
  rcases hb with rfl | rfl | rfl <;> rfl
theorem cellsVote_snoc (bs : List VVote) (x : VVote) : cellsVote (bs ++ [x]) = cellsVote bs ++ x.cells := by simp [cellsVote]
theorem LstVote.row {w : World} {B : Nat} {A : Option Addr} {ys : List VVote} (hr : LstVote w B A ys) : Row w B A (cellsVote ys) := by
  intro hne
  have hy : ys ≠ [] := by intro e; subst e; simp [cellsVote] at hne
  obtain ⟨b, off, e, hb, hc⟩ := hr hy
  refine ⟨b, off, e, hb, fun j u hu => ?_⟩
  have hj : j < ys.length * 3 := by
    have := (List.getElem?_eq_some_iff.1 hu).1
    rwa [cellsVote_len] at this
  have hq : j / 3 < ys.length := by omega
  have hg := cellsVote_get ys hq
  have hcc := hc (j / 3) hq
  have hmod : j = j / 3 * 3 + j % 3 := by omega
  have hr4 : j % 3 < 3 := by omega
  generalize j / 3 = q at *
  generalize j % 3 = r at *
  subst hmod
  rcases (show r = 0 ∨ r = 1 ∨ r = 2 by omega) with rfl | rfl | rfl
  · rw [Nat.add_zero] at hu ⊢; rw [hg.1] at hu; injection hu with hu; subst hu; exact hcc.1
  · rw [hg.2.1] at hu; injection hu with hu; subst hu; rw [← Nat.add_assoc]; exact hcc.2.1
  · rw [hg.2.2] at hu; injection hu with hu; subst hu; rw [← Nat.add_assoc]; exact hcc.2.2
theorem infoE_Vote : (Try.prog.info? 35).map (fun i => (i.zero, i.size, i.bytes)) = some (some (.agg #[.int .i64 0, .int .i64 0, .int .i64 0]), 3, 24) := by kernel_rfl
theorem elem_Vote : Elem 48 35 3 24 := by
  obtain ⟨i, hi, h0, h1, h2⟩ := info_parts infoE_Vote
  exact ⟨Try.underlying48, i, _, hi, h0, h1, h2, rfl⟩
/-- A list of Vote in memory from block L on. -/
def LstUpVote (w : World) (L : Nat) (A : Option Addr) (bs : List VVote) : Prop := bs ≠ [] → ∃ b off, A = some ⟨b, off, none⟩ ∧ L ≤ b ∧ b < w.heap.size ∧ ∀ i, i < bs.length → w.cell? ⟨b, off + i * 3, none⟩ = some (.int .i64 (nthVote bs i).r) ∧ w.cell? ⟨b, off + i * 3 + 1, none⟩ = some (.int .i64 (nthVote bs i).a) ∧ w.cell? ⟨b, off + i * 3 + 2, none⟩ = some (.int .i64 (nthVote bs i).d)
section
variable {w w' : World} {L L' : Nat} {A : Option Addr} {bs : List VVote}
theorem LstUpVote.lst (h : LstUpVote w L A bs) : LstVote w w.heap.size A bs := fun hn => by
  obtain ⟨b, off, e, _, hb, hc⟩ := h hn
  exact ⟨b, off, e, hb, hc⟩
theorem LstUpVote.less (h : LstUpVote w L A bs) (hL : L' ≤ L) : LstUpVote w L' A bs := fun hn => by
  obtain ⟨b, off, e, h1, h2, h3⟩ := h hn
  exact ⟨b, off, e, by omega, h2, h3⟩
theorem LstUpVote.keep (h : LstUpVote w L A bs) (hs : w.heap.size ≤ w'.heap.size) (hk : ∀ b off, L ≤ b → b < w.heap.size → w'.cell? ⟨b, off, none⟩ = w.cell? ⟨b, off, none⟩) : LstUpVote w' L A bs := fun hn => by
  obtain ⟨b, off, e, h1, h2, h3⟩ := h hn
  refine ⟨b, off, e, h1, by omega, fun i hi => ?_⟩
  obtain ⟨c0, c1, c2⟩ := h3 i hi
  exact ⟨(hk _ _ h1 h2).trans c0, (hk _ _ h1 h2).trans c1, (hk _ _ h1 h2).trans c2⟩
theorem LstUpVote.carry (h : LstUpVote w L A bs) (hb : Below w.heap.size w w') : LstUpVote w' L A bs := h.keep hb.size (fun b off _ h2 => hb.cell (p := ⟨b, off, none⟩) h2)
theorem LstUpVote.grown {r : Nat} (h : LstUpVote w L A bs) (hg : w.grownBy w' (some r)) (hr : r < L) : LstUpVote w' L A bs :=
  h.keep hg.size (fun b off h1 h2 => hg.cell_far ⟨b, off, none⟩ h2 (fun e => by have : b = r := by simpa using e
                                                                                omega))
theorem LstUpVote.nil (w : World) (L : Nat) (A : Option Addr) : LstUpVote w L A [] := fun h => absurd rfl h
end
/-- An owned row of Vote. -/
def OwnVote (w : World) (base : Nat) (v : Value) (bs : List VVote) : Prop := Own w base 35 3 v bs.length (cellsVote bs)
section
variable {w w' : World} {base : Nat} {v : Value} {bs : List VVote}
theorem OwnVote.kept {row : Option Nat} (h : OwnVote w base v bs) (hg : w.grownBy w' row) (hne : ∀ g, row = some g → g < base) : OwnVote w' base v bs := Own.kept h hg hne
theorem OwnVote.alloc (h : OwnVote w base v bs) (o : Obj) : OwnVote (w.alloc o) base v bs := Own.alloc h o
theorem OwnVote.below (h : OwnVote w base v bs) (hb : Below w.heap.size w w') : OwnVote w' base v bs := Own.below h hb
theorem OwnVote.carry (h : OwnVote w base v bs) (hb : Below w.heap.size w w') : OwnVote w' base v bs := Own.below h hb
theorem OwnVote.base_le (h : OwnVote w base v bs) : ∀ g, v.ownBlock = some g → base ≤ g := Own.base_le h
theorem OwnVote.up {g cap n : Nat} (h : OwnVote w base (.slice (some ⟨g, 0, none⟩) n cap) bs) : n = bs.length ∧ LstUpVote w base (some ⟨g, 0, none⟩) bs ∧ bs.length ≤ cap := by
  obtain ⟨h1, g', cap', e⟩ := h
  simp only [Value.slice.injEq, Option.some.injEq, Addr.mk.injEq, and_true] at e
  obtain ⟨rfl, rfl, rfl⟩ := e
  refine ⟨rfl, fun hz => ?_, ?_⟩
  · obtain ⟨h2, h3⟩ := h1.lt g rfl
    refine ⟨g, 0, rfl, h2, h3, fun i hi => ?_⟩
    have hc := cellsVote_get bs hi
    have hl := cellsVote_len bs
    have hat : ∀ j, j < bs.length * 3 → w.cell? ⟨g, j, none⟩ = (cellsVote bs)[j]? := fun j hj => by
      rcases h1.2 with ⟨h', _⟩ | ⟨g', cap', cur, h', _, hg, _, _, _, htake⟩
      · cases h'
      · simp only [Value.slice.injEq, Option.some.injEq, Addr.mk.injEq, and_true, true_and] at h'
        obtain ⟨rfl, rfl⟩ := h'
        rw [cell_of_row w _ _ _ _ _ hg, ← htake, List.getElem?_take, if_pos hj]
        simp
    simp only [Nat.zero_add]
    exact ⟨(hat _ (by omega)).trans hc.1, (hat _ (by omega)).trans hc.2.1, (hat _ (by omega)).trans hc.2.2⟩
  · rcases h1.2 with ⟨h', _⟩ | ⟨g', cap', cur, h', _, _, hnc, _⟩
    · cases h'
    · simp only [Value.slice.injEq, Option.some.injEq, Addr.mk.injEq, and_true, true_and] at h'
      omega
theorem OwnVote.start (hb : base ≤ w.heap.size) : OwnVote (w.alloc (.cells #[] 35)) base (.slice (some ⟨w.heap.size, 0, none⟩) 0 0) [] :=
  Own.lit w #[] 0 hb (by omega) (by simp)
end
/-- append(v, x) for a Vote x. -/
theorem appendVote {ops : Array Oper} {rest : List Oper} {o : Oper} {a : Act} {Q : Exit → Act → World → Prop} (hgd : o.guard = none) (s x : Operand)
    (ho : o.op = .call { callee := .builtin .append, args := #[s, x], argTypes := #[48, 48] }) (wr : World)
    (base : Nat) (v : Value) (bs : List VVote) (z : VVote) (hs : a.eval s = v) (hown : OwnVote wr base v bs)
    (hx : a.eval x = .slice (some ⟨wr.heap.size, 0, none⟩) 1 1) (hn : bs.length ≤ 10000000) (hbase : base ≤ wr.heap.size)
    (h : ∀ g cap w', OwnVote w' base (.slice (some ⟨g, 0, none⟩) (bs.length + 1) cap) (bs ++ [z]) → wr.grownBy w' v.ownBlock → wpList Try.prog ops Q rest (a.put o.dst (.slice (some ⟨g, 0, none⟩) (bs.length + 1) cap)) w') :
    wpList Try.prog ops Q (o :: rest) a (wr.alloc (.cells #[.int .i64 z.r, .int .i64 z.a, .int .i64 z.d] 35)) :=
  appendOne elem_Vote (by omega) (by omega) hgd s x ho wr base v bs.length _ hs hown #[.int .i64 z.r, .int .i64 z.a, .int .i64 z.d] hx rfl (by simp [Value.oneCell']) hn hbase
    (fun g cap w' h2 h3 => h g cap w' (by unfold OwnVote; rw [cellsVote_snoc, List.length_append]; exact h2) h3)
/-- append(v, y...) for lists of Vote. -/
theorem appendVotes {ops : Array Oper} {rest : List Oper} {o : Oper} {a : Act} {Q : Exit → Act → World → Prop} (hgd : o.guard = none) (s x : Operand)
    (ho : o.op = .call { callee := .builtin .append, args := #[s, x], argTypes := #[48, 48] }) (w : World)
    (base : Nat) (v : Value) (bs : List VVote) (hs : a.eval s = v) (hown : OwnVote w base v bs)
    (B : Nat) (A : Option Addr) (m c : Nat) (ys : List VVote) (hx : a.eval x = .slice A m c) (hm : m = ys.length) (hr : LstVote w B A ys) (hn : bs.length + m ≤ 10000000) (hbase : base ≤ w.heap.size)
    (h : ∀ g cap w', OwnVote w' base (.slice (some ⟨g, 0, none⟩) (bs.length + m) cap) (bs ++ ys) → w.grownBy w' v.ownBlock → wpList Try.prog ops Q rest (a.put o.dst (.slice (some ⟨g, 0, none⟩) (bs.length + m) cap)) w') :
    wpList Try.prog ops Q (o :: rest) a w := by
  subst hm
  refine appendAll elem_Vote (by omega) (by omega) hgd s x ho w base v bs.length _ hs hown B A ys.length c (cellsVote ys) hx (cellsVote_len ys) ?_ (cellsVote_one ys) hn hbase
    (fun g cap w' h2 h3 => h g cap w' (by unfold OwnVote; rw [List.length_append, show cellsVote (bs ++ ys) = cellsVote bs ++ cellsVote ys from by simp [cellsVote]]; exact h2) h3)
  exact hr.row
end Go.Proofs.Ytohnodphlaoohaa
