/- Rows of the call's own: append of one element, append of a whole slice, stores; and lists of numbers in new memory. -/
import Derived.Test.YtohnodphlaoohaaBase
namespace Go.Proofs.Ytohnodphlaoohaa
open Go.RowKit
set_option linter.unusedVariables false

/-- What the append laws ask of a slice type t with elements of type e. -/
def Elem (t e : TypeId) (size bytes : Nat) : Prop :=
  Try.prog.underlying t = some (.slice e) ∧ ∃ i z, Try.prog.info? e = some i ∧ i.zero = some z ∧ i.size = size ∧ i.bytes = bytes ∧ z.cells.size = size
theorem elem_int : Elem 22 3 1 8 := by
  obtain ⟨i, hi, h0, h1, h2⟩ := info_parts info_int
  exact ⟨Try.underlying22, i, _, hi, h0, h1, h2, rfl⟩

/-- The slice v (never nil) owns the n elements whose cells are xs, in a block from base on. -/
def Own (w : World) (base : Nat) (e : TypeId) (size : Nat) (v : Value) (n : Nat) (xs : List Value) : Prop :=
  w.ownsRow base e size v n xs ∧ ∃ g cap, v = .slice (some ⟨g, 0, none⟩) n cap

section
variable {w w' : World} {base n : Nat} {e : TypeId} {size : Nat} {v : Value} {xs : List Value}
theorem Own.alloc (h : Own w base e size v n xs) (o : Obj) : Own (w.alloc o) base e size v n xs := ⟨h.1.alloc o, h.2⟩
theorem Own.base_le (h : Own w base e size v n xs) : ∀ g, v.ownBlock = some g → base ≤ g := fun g hg => (h.1.lt g hg).1
theorem Own.lt (h : Own w base e size v n xs) : ∀ g, v.ownBlock = some g → g < w.heap.size := fun g hg => (h.1.lt g hg).2
theorem Own.kept {row : Option Nat} (h : Own w base e size v n xs) (hg : w.grownBy w' row) (hne : ∀ g, row = some g → g < base) : Own w' base e size v n xs :=
  ⟨h.1.kept hg (by
    rcases hv : v.ownBlock with _ | g
    · exact .inl rfl
    · right; intro e2; have := h.base_le g hv; have := hne g e2.symm; omega), h.2⟩
theorem Own.below (h : Own w base e size v n xs) (hb : Below w.heap.size w w') : Own w' base e size v n xs :=
  h.kept (row := none) ⟨hb.os, hb.tape, hb.output, hb.size, fun k hk _ => hb.block k hk⟩ (fun _ h => by cases h)
theorem Own.drewN (h : Own w base e size v n xs) (k : Nat) : Own (w.drewN k) base e size v n xs := h
/-- A row that lies as a literal in a new block. -/
theorem Own.lit (w : World) (cs : Array Value) (n : Nat) (hb : base ≤ w.heap.size) (hm : n ≤ 1000000) (hs : cs.size = n * size) :
    Own (w.alloc (.cells cs e)) base e size (.slice (some ⟨w.heap.size, 0, none⟩) n n) n cs.toList :=
  ⟨World.ownsRow_lit w cs n hb (by unfold maxLen; omega) hs, _, _, rfl⟩
end

/-- append(v, x): x, laid in a new block of its own, behind the row: at the operation. -/
theorem wpOne {t e : TypeId} {size bytes : Nat} (hE : Elem t e size bytes) (hsz : 0 < size) (hby : bytes ≤ 64)
    {o : Oper} {a : Act} {K : Act → World → Prop} {Q : Exit → Act → World → Prop} (s x : Operand)
    (ho : o.op = .call { callee := .builtin .append, args := #[s, x], argTypes := #[t, t] }) (wr : World)
    (base : Nat) (v : Value) (n : Nat) (xs : List Value) (hs : a.eval s = v) (hown : Own wr base e size v n xs)
    (news : Array Value) (hx : a.eval x = .slice (some ⟨wr.heap.size, 0, none⟩) 1 1) (hl : news.size = size) (h1 : ∀ u ∈ news.toList, u.oneCell' = true)
    (hn : n ≤ 10000000) (hbase : base ≤ wr.heap.size)
    (h : ∀ g cap w', Own w' base e size (.slice (some ⟨g, 0, none⟩) (n + 1) cap) (n + 1) (xs ++ news.toList) → wr.grownBy w' v.ownBlock → K (a.put o.dst (.slice (some ⟨g, 0, none⟩) (n + 1) cap)) w') :
    o.wp Try.prog a (wr.alloc (.cells news e)) K Q := by
  obtain ⟨ht, i, z, hi, hz, hs1, hb1, hzs⟩ := hE
  refine wp_append_lies (wr.alloc (.cells news e)) s x t ho base e i z size bytes ht hi hz hs1 hb1 hzs hsz v n xs hs (hown.1.alloc _) ⟨wr.heap.size, 0, none⟩ 1 1 news.toList hx (by simp [hl])
    (World.news_of_block (heap_alloc_new wr _)) h1 (by omega) (by unfold maxLen; omega) ?_ (by simp; omega) _ rfl ?_
  · have h2 : (n + 1) * bytes ≤ (n + 1) * 64 := Nat.mul_le_mul_left _ hby
    omega
  · intro g cap w' h2 h3 _ _
    refine h g cap w' ⟨h2, _, _, rfl⟩ ⟨h3.os, h3.tape, h3.output, Nat.le_trans (by simp) h3.size, fun k hk hne => ?_⟩
    rw [h3.block k (by simp; omega) hne]
    exact Below.heap_alloc wr _ k hk
theorem appendOne {t e : TypeId} {size bytes : Nat} (hE : Elem t e size bytes) (hsz : 0 < size) (hby : bytes ≤ 64)
    {ops : Array Oper} {rest : List Oper} {o : Oper} {a : Act} {Q : Exit → Act → World → Prop} (hgd : o.guard = none) (s x : Operand)
    (ho : o.op = .call { callee := .builtin .append, args := #[s, x], argTypes := #[t, t] }) (wr : World)
    (base : Nat) (v : Value) (n : Nat) (xs : List Value) (hs : a.eval s = v) (hown : Own wr base e size v n xs)
    (news : Array Value) (hx : a.eval x = .slice (some ⟨wr.heap.size, 0, none⟩) 1 1) (hl : news.size = size) (h1 : ∀ u ∈ news.toList, u.oneCell' = true)
    (hn : n ≤ 10000000) (hbase : base ≤ wr.heap.size)
    (h : ∀ g cap w', Own w' base e size (.slice (some ⟨g, 0, none⟩) (n + 1) cap) (n + 1) (xs ++ news.toList) → wr.grownBy w' v.ownBlock → wpList Try.prog ops Q rest (a.put o.dst (.slice (some ⟨g, 0, none⟩) (n + 1) cap)) w') :
    wpList Try.prog ops Q (o :: rest) a (wr.alloc (.cells news e)) :=
  wpList_plain hgd fun _ hK => wpOne hE hsz hby s x ho wr base v n xs hs hown news hx hl h1 hn hbase fun g cap w' h2 h3 => hK _ _ (h g cap w' h2 h3)

/-- append(v, y...): y a slice that reads as news, nil and empty let in: at the operation. -/
theorem wpAll {t e : TypeId} {size bytes : Nat} (hE : Elem t e size bytes) (hsz : 0 < size) (hby : bytes ≤ 64)
    {o : Oper} {a : Act} {K : Act → World → Prop} {Q : Exit → Act → World → Prop} (s x : Operand)
    (ho : o.op = .call { callee := .builtin .append, args := #[s, x], argTypes := #[t, t] }) (w : World)
    (base : Nat) (v : Value) (n : Nat) (xs : List Value) (hs : a.eval s = v) (hown : Own w base e size v n xs)
    (B : Nat) (A : Option Addr) (m c : Nat) (news : List Value) (hx : a.eval x = .slice A m c) (hl : news.length = m * size) (hr : Row w B A news) (h1 : ∀ u ∈ news, u.oneCell' = true)
    (hn : n + m ≤ 10000000) (hbase : base ≤ w.heap.size)
    (h : ∀ g cap w', Own w' base e size (.slice (some ⟨g, 0, none⟩) (n + m) cap) (n + m) (xs ++ news) → w.grownBy w' v.ownBlock → K (a.put o.dst (.slice (some ⟨g, 0, none⟩) (n + m) cap)) w') :
    o.wp Try.prog a w K Q := by
  obtain ⟨ht, i, z, hi, hz, hs1, hb1, hzs⟩ := hE
  have hbytes : (n + m) * bytes ≤ 140737488355328 := by
    have h2 : (n + m) * bytes ≤ (n + m) * 64 := Nat.mul_le_mul_left _ hby
    omega
  obtain ⟨hown, g0, cap0, rfl⟩ := hown
  rcases Nat.eq_zero_or_pos m with h0 | h0
  · subst h0
    have hn0 : news = [] := List.eq_nil_of_length_eq_zero (by simpa using hl)
    subst hn0
    have hrun : (Builtin.append_ #[t, t] o.type #[.slice (some ⟨g0, 0, none⟩) n cap0, .slice A 0 c]).run Try.prog w = .ok (.slice (some ⟨g0, 0, none⟩) n cap0) w := by
      rcases hown.2 with ⟨h', _⟩ | ⟨g, cap, cur, h', _, _, hnc, _⟩
      · cases h'
      · simp only [Value.slice.injEq, Option.some.injEq, Addr.mk.injEq, and_true, true_and] at h'
        obtain ⟨rfl, rfl⟩ := h'
        rcases A with _ | ad
        · simp [Builtin.append_, run_underlying ht, sizeOf, typeInfo, hi, Builtin.lenOf, Builtin.firstCells, hnc, storeCells]
        · have hl0 : (loadCells ad 0).run Try.prog w = .ok #[] w := rfl
          simp [Builtin.append_, run_underlying ht, sizeOf, typeInfo, hi, Builtin.lenOf, Builtin.firstCells, hnc, storeCells, hl0]
    have hg := h g0 cap0 w ⟨by simpa using hown, _, _, rfl⟩ (World.grownBy.refl w _)
    unfold Oper.wp execOp
    simp only [ho, resolve, invoke, builtin, Sem.run_bind, Sem.run_pure, Result.andThen_ok, List.map_toArray, List.map_cons, List.map_nil, hs, hx, hrun]
    exact hg
  · have hne : news ≠ [] := by intro e0; subst e0; simp at hl; have : 0 < m * size := Nat.mul_pos h0 hsz; omega
    obtain ⟨b, off, rfl, hbB, hc⟩ := hr hne
    refine wp_append_lies w s x t ho base e i z size bytes ht hi hz hs1 hb1 hzs hsz _ n xs hs hown ⟨b, off, none⟩ m c news hx hl (fun j u hu => ?_) h1 h0 (by unfold maxLen; omega) hbytes hbase _ rfl ?_
    · have := hc j u hu
      unfold Addr.add
      by_cases e0 : j = 0
      · subst e0; simpa using this
      · simpa [e0] using this
    · intro g cap w' h2 h3 _ _
      exact h g cap w' ⟨h2, _, _, rfl⟩ h3
theorem appendAll {t e : TypeId} {size bytes : Nat} (hE : Elem t e size bytes) (hsz : 0 < size) (hby : bytes ≤ 64)
    {ops : Array Oper} {rest : List Oper} {o : Oper} {a : Act} {Q : Exit → Act → World → Prop} (hgd : o.guard = none) (s x : Operand)
    (ho : o.op = .call { callee := .builtin .append, args := #[s, x], argTypes := #[t, t] }) (w : World)
    (base : Nat) (v : Value) (n : Nat) (xs : List Value) (hs : a.eval s = v) (hown : Own w base e size v n xs)
    (B : Nat) (A : Option Addr) (m c : Nat) (news : List Value) (hx : a.eval x = .slice A m c) (hl : news.length = m * size) (hr : Row w B A news) (h1 : ∀ u ∈ news, u.oneCell' = true)
    (hn : n + m ≤ 10000000) (hbase : base ≤ w.heap.size)
    (h : ∀ g cap w', Own w' base e size (.slice (some ⟨g, 0, none⟩) (n + m) cap) (n + m) (xs ++ news) → w.grownBy w' v.ownBlock → wpList Try.prog ops Q rest (a.put o.dst (.slice (some ⟨g, 0, none⟩) (n + m) cap)) w') :
    wpList Try.prog ops Q (o :: rest) a w :=
  wpList_plain hgd fun _ hK => wpAll hE hsz hby s x ho w base v n xs hs hown B A m c news hx hl hr h1 hn hbase fun g cap w' h2 h3 => hK _ _ (h g cap w' h2 h3)
/-- The same at a step of a region that draws its order. -/
theorem stepAll {t e : TypeId} {size bytes : Nat} (hE : Elem t e size bytes) (hsz : 0 < size) (hby : bytes ≤ 64)
    {ops : Array Oper} {o : Oper} {a : Act} {K : Act → World → Prop} {Q : Exit → Act → World → Prop} {E : Prop} (hgd : o.guard = none) (s x : Operand)
    (ho : o.op = .call { callee := .builtin .append, args := #[s, x], argTypes := #[t, t] }) (w : World)
    (base : Nat) (v : Value) (n : Nat) (xs : List Value) (hs : a.eval s = v) (hown : Own w base e size v n xs)
    (B : Nat) (A : Option Addr) (m c : Nat) (news : List Value) (hx : a.eval x = .slice A m c) (hl : news.length = m * size) (hr : Row w B A news) (h1 : ∀ u ∈ news, u.oneCell' = true)
    (hn : n + m ≤ 10000000) (hbase : base ≤ w.heap.size)
    (h : ∀ g cap w', Own w' base e size (.slice (some ⟨g, 0, none⟩) (n + m) cap) (n + m) (xs ++ news) → w.grownBy w' v.ownBlock → K (a.put o.dst (.slice (some ⟨g, 0, none⟩) (n + m) cap)) w') :
    if Region.wanted o (yielded ops a.tmps) = true then Oper.wp Try.prog o a w K Q else E := by
  have hw : Region.wanted o (yielded ops a.tmps) = true := by simp [Region.wanted, hgd]
  rw [if_pos hw]
  exact wpAll hE hsz hby s x ho w base v n xs hs hown B A m c news hx hl hr h1 hn hbase h

/-- A list of numbers in memory that lies from block L on. -/
def IntsUp (w : World) (L : Nat) (A : Option Addr) (zs : List Int) : Prop :=
  zs ≠ [] → ∃ b off, A = some ⟨b, off, none⟩ ∧ L ≤ b ∧ b < w.heap.size ∧ ∀ j, j < zs.length → w.cell? ⟨b, off + j, none⟩ = some (.int .i64 (nth zs j))
section
variable {w w' : World} {L L' : Nat} {A : Option Addr} {zs : List Int}
theorem IntsUp.ints (h : IntsUp w L A zs) : Ints w w.heap.size A zs := by
  intro hne
  have hz : zs ≠ [] := by intro e; subst e; simp at hne
  obtain ⟨b, off, rfl, _, hb, hc⟩ := h hz
  exact Ints.mk hb hc hne
theorem IntsUp.less (h : IntsUp w L A zs) (hL : L' ≤ L) : IntsUp w L' A zs := fun hz => by
  obtain ⟨b, off, e, h1, h2, h3⟩ := h hz
  exact ⟨b, off, e, by omega, h2, h3⟩
theorem IntsUp.grown {r : Nat} (h : IntsUp w L A zs) (hg : w.grownBy w' (some r)) (hr : r < L) : IntsUp w' L A zs := fun hz => by
  obtain ⟨b, off, e, h1, h2, h3⟩ := h hz
  have hs := hg.size
  refine ⟨b, off, e, h1, by omega, fun j hj => (hg.cell_far ⟨b, off + j, none⟩ h2 ?_).trans (h3 j hj)⟩
  intro e2
  have : b = r := by simpa using e2
  omega
theorem IntsUp.carry (h : IntsUp w L A zs) (hb : Below w.heap.size w w') : IntsUp w' L A zs := fun hz => by
  obtain ⟨b, off, e, h1, h2, h3⟩ := h hz
  have := hb.size
  exact ⟨b, off, e, h1, by omega, fun j hj => (hb.cell (p := ⟨b, off + j, none⟩) h2).trans (h3 j hj)⟩
theorem IntsUp.of_own {g cap : Nat} (h : w.ownsRow L 3 1 (.slice (some ⟨g, 0, none⟩) zs.length cap) zs.length (zs.map (Value.int .i64))) : IntsUp w L (some ⟨g, 0, none⟩) zs := fun hz => by
  obtain ⟨h1, h2⟩ := h.lt g rfl
  refine ⟨g, 0, rfl, h1, h2, fun j hj => ?_⟩
  rw [Nat.zero_add, h.cellAt j (by omega)]
  simp [List.getElem?_eq_getElem hj, nth_eq hj]
theorem IntsUp.nil (w : World) (L : Nat) (A : Option Addr) : IntsUp w L A [] := fun h => absurd rfl h
end

/-- An owned row of numbers. -/
def OwnI (w : World) (base : Nat) (v : Value) (zs : List Int) : Prop := Own w base 3 1 v zs.length (zs.map (Value.int .i64))
theorem OwnI.kept {w w' : World} {base : Nat} {v : Value} {zs : List Int} {row : Option Nat} (h : OwnI w base v zs) (hg : w.grownBy w' row) (hne : ∀ g, row = some g → g < base) : OwnI w' base v zs := Own.kept h hg hne
theorem OwnI.alloc {w : World} {base : Nat} {v : Value} {zs : List Int} (h : OwnI w base v zs) (o : Obj) : OwnI (w.alloc o) base v zs := Own.alloc h o
theorem OwnI.below {w w' : World} {base : Nat} {v : Value} {zs : List Int} (h : OwnI w base v zs) (hb : Below w.heap.size w w') : OwnI w' base v zs := Own.below h hb
theorem OwnI.base_le {w : World} {base : Nat} {v : Value} {zs : List Int} (h : OwnI w base v zs) : ∀ g, v.ownBlock = some g → base ≤ g := Own.base_le h
theorem OwnI.up {w : World} {base g cap n : Nat} {zs : List Int} (h : OwnI w base (.slice (some ⟨g, 0, none⟩) n cap) zs) : n = zs.length ∧ IntsUp w base (some ⟨g, 0, none⟩) zs ∧ zs.length ≤ cap := by
  obtain ⟨h1, g', cap', e⟩ := h
  simp only [Value.slice.injEq, Option.some.injEq, Addr.mk.injEq, and_true] at e
  obtain ⟨rfl, rfl, rfl⟩ := e
  refine ⟨rfl, IntsUp.of_own h1, ?_⟩
  rcases h1.2 with ⟨h', _⟩ | ⟨g', cap', cur, h', _, _, hnc, _⟩
  · cases h'
  · simp only [Value.slice.injEq, Option.some.injEq, Addr.mk.injEq, and_true, true_and] at h'
    omega
theorem OwnI.start {w : World} {base : Nat} (hb : base ≤ w.heap.size) : OwnI (w.alloc (.cells #[] 3)) base (.slice (some ⟨w.heap.size, 0, none⟩) 0 0) [] :=
  Own.lit w #[] 0 hb (by omega) (by simp)
theorem OwnI.cell {w : World} {base g cap n : Nat} {zs : List Int} (h : OwnI w base (.slice (some ⟨g, 0, none⟩) n cap) zs) {j : Nat} (hj : j < zs.length) : w.cell? ⟨g, j, none⟩ = some (.int .i64 (nth zs j)) := by
  obtain ⟨rfl, _, _⟩ := h.up
  rw [h.1.cellAt j (by omega)]
  simp [List.getElem?_eq_getElem hj, nth_eq hj]
theorem OwnI.free {w : World} {base g cap n : Nat} {zs : List Int} (h : OwnI w base (.slice (some ⟨g, 0, none⟩) n cap) zs) (j : Nat) : w.frozen? ⟨g, j, none⟩ = false := by
  obtain ⟨rfl, _, _⟩ := h.up
  exact h.1.frozenAt j
theorem OwnI.store {w : World} {base g cap n : Nat} {zs : List Int} (h : OwnI w base (.slice (some ⟨g, 0, none⟩) n cap) zs) (j : Nat) (z : Int) :
    OwnI (w.setCell ⟨g, j, none⟩ (.int .i64 z)) base (.slice (some ⟨g, 0, none⟩) n cap) (zs.set j z) ∧ w.grownBy (w.setCell ⟨g, j, none⟩ (.int .i64 z)) (some g) := by
  obtain ⟨rfl, _, _⟩ := h.up
  obtain ⟨h1, h2⟩ := h.1.stored j (.int .i64 z)
  refine ⟨⟨?_, g, cap, ?_⟩, h2⟩
  · rw [List.length_set, List.map_set]; exact h1
  · rw [List.length_set]
/-- append(v, z) for a number z. -/
theorem appendInt {ops : Array Oper} {rest : List Oper} {o : Oper} {a : Act} {Q : Exit → Act → World → Prop} (hgd : o.guard = none) (s x : Operand)
    (ho : o.op = .call { callee := .builtin .append, args := #[s, x], argTypes := #[22, 22] }) (wr : World)
    (base : Nat) (v : Value) (zs : List Int) (z : Int) (hs : a.eval s = v) (hown : OwnI wr base v zs)
    (hx : a.eval x = .slice (some ⟨wr.heap.size, 0, none⟩) 1 1) (hn : zs.length ≤ 10000000) (hbase : base ≤ wr.heap.size)
    (h : ∀ g cap w', OwnI w' base (.slice (some ⟨g, 0, none⟩) (zs.length + 1) cap) (zs ++ [z]) → wr.grownBy w' v.ownBlock → wpList Try.prog ops Q rest (a.put o.dst (.slice (some ⟨g, 0, none⟩) (zs.length + 1) cap)) w') :
    wpList Try.prog ops Q (o :: rest) a (wr.alloc (.cells #[.int .i64 z] 3)) :=
  appendOne elem_int (by omega) (by omega) hgd s x ho wr base v zs.length _ hs hown #[.int .i64 z] hx rfl (by simp [Value.oneCell']) hn hbase
    (fun g cap w' h2 h3 => h g cap w' (by unfold OwnI; simpa using h2) h3)
theorem oneCell_ints (zs : List Int) : ∀ u ∈ zs.map (Value.int .i64), u.oneCell' = true := ints_oneCell _ zs
/-- append(v, y...) for lists of numbers. -/
theorem appendInts {ops : Array Oper} {rest : List Oper} {o : Oper} {a : Act} {Q : Exit → Act → World → Prop} (hgd : o.guard = none) (s x : Operand)
    (ho : o.op = .call { callee := .builtin .append, args := #[s, x], argTypes := #[22, 22] }) (w : World)
    (base : Nat) (v : Value) (zs : List Int) (hs : a.eval s = v) (hown : OwnI w base v zs)
    (B : Nat) (A : Option Addr) (m c : Nat) (ys : List Int) (hx : a.eval x = .slice A m c) (hm : m = ys.length) (hr : Ints w B A ys) (hn : zs.length + m ≤ 10000000) (hbase : base ≤ w.heap.size)
    (h : ∀ g cap w', OwnI w' base (.slice (some ⟨g, 0, none⟩) (zs.length + m) cap) (zs ++ ys) → w.grownBy w' v.ownBlock → wpList Try.prog ops Q rest (a.put o.dst (.slice (some ⟨g, 0, none⟩) (zs.length + m) cap)) w') :
    wpList Try.prog ops Q (o :: rest) a w :=
  appendAll elem_int (by omega) (by omega) hgd s x ho w base v zs.length _ hs hown B A m c _ hx (by simp [hm]) hr (oneCell_ints ys) hn hbase
    (fun g cap w' h2 h3 => h g cap w' (by unfold OwnI; subst hm; simpa using h2) h3)

/-- append(v, y...) for lists of numbers, at a step of a region that draws its order. -/
theorem stepInts {ops : Array Oper} {o : Oper} {a : Act} {K : Act → World → Prop} {Q : Exit → Act → World → Prop} {E : Prop} (hgd : o.guard = none) (s x : Operand)
    (ho : o.op = .call { callee := .builtin .append, args := #[s, x], argTypes := #[22, 22] }) (w : World)
    (base : Nat) (v : Value) (zs : List Int) (hs : a.eval s = v) (hown : OwnI w base v zs)
    (B : Nat) (A : Option Addr) (m c : Nat) (ys : List Int) (hx : a.eval x = .slice A m c) (hm : m = ys.length) (hr : Ints w B A ys) (hn : zs.length + m ≤ 10000000) (hbase : base ≤ w.heap.size)
    (h : ∀ g cap w', OwnI w' base (.slice (some ⟨g, 0, none⟩) (zs.length + m) cap) (zs ++ ys) → w.grownBy w' v.ownBlock → K (a.put o.dst (.slice (some ⟨g, 0, none⟩) (zs.length + m) cap)) w') :
    if Region.wanted o (yielded ops a.tmps) = true then Oper.wp Try.prog o a w K Q else E :=
  stepAll elem_int (by omega) (by omega) hgd s x ho w base v zs.length _ hs hown B A m c _ hx (by simp [hm]) hr (oneCell_ints ys) hn hbase
    (fun g cap w' h2 h3 => h g cap w' (by unfold OwnI; subst hm; simpa using h2) h3)

/-- Steps of a drawing function: only the reader's block and new blocks are written. -/
theorem gr_own {w w1 w2 : World} {r : Nat} {row : Option Nat} (h : w.grownBy w1 (some r)) (k : w1.grownBy w2 row) (hr : ∀ g, row = some g → w.heap.size ≤ g) : w.grownBy w2 (some r) :=
  ⟨k.os.trans h.os, k.tape.trans h.tape, k.output.trans h.output, Nat.le_trans h.size k.size,
    fun i hi hne => (k.block i (Nat.lt_of_lt_of_le hi h.size) (fun e => by have := hr i e.symm; omega)).trans (h.block i hi hne)⟩
theorem gr_alloc {w w1 : World} {r : Nat} (h : w.grownBy w1 (some r)) (o : Obj) : w.grownBy (w1.alloc o) (some r) :=
  gr_own h (World.grownBy_alloc w1 o none) (fun _ e => by cases e)
theorem gr_below {w w1 w2 : World} {r : Nat} (h : w.grownBy w1 (some r)) (k : Below w1.heap.size w1 w2) : w.grownBy w2 (some r) :=
  gr_own h (row := none) ⟨k.os, k.tape, k.output, k.size, fun i hi _ => k.block i hi⟩ (fun _ e => by cases e)
theorem gr_refl (w : World) (r : Nat) : w.grownBy w (some r) := World.grownBy.refl w _
theorem gr_to_below {w w1 : World} {r B : Nat} (h : w.grownBy w1 (some r)) (hB : B ≤ r) (hs : B ≤ w.heap.size) : Below B w w1 := by
  refine ⟨h.os, h.tape, h.output, h.size, fun k hk => h.block k (by omega) ?_⟩
  intro e
  have : k = r := by simpa using e
  omega
end Go.Proofs.Ytohnodphlaoohaa
