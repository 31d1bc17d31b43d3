/- Lists of lists of numbers in the call's own memory, and as they are read. -/
import Derived.Test.YtdleibkkjnodlaaOwn
import Derived.Test.YtdleibkkjnodlaaLaneG
namespace Go.Proofs.Ytdleibkkjnodlaa
open Go.RowKit
set_option linter.unusedVariables false

theorem info_ints : (Try.prog.info? 24).map (fun i => (i.zero, i.size, i.bytes)) = some (some (.slice none 0 0), 1, 24) := by kernel_rfl
theorem elem_ints : Elem 40 24 1 24 := by
  obtain ⟨i, hi, h0, h1, h2⟩ := info_parts info_ints
  exact ⟨Try.underlying40, i, _, hi, h0, h1, h2, rfl⟩

/-- Rows of different types lie in different blocks. -/
theorem Own.apart {w : World} {base base' : Nat} {e e' : TypeId} {size size' n n' g g' cap cap' : Nat} {xs xs' : List Value} (h : Own w base e size (.slice (some ⟨g, 0, none⟩) n cap) n xs) (h' : Own w base' e' size' (.slice (some ⟨g', 0, none⟩) n' cap') n' xs') (hne : e ≠ e') : g ≠ g' := by
  rcases h.1.2 with ⟨k, _⟩ | ⟨g1, cap1, cur1, k, _, hg, _⟩
  · cases k
  rcases h'.1.2 with ⟨k', _⟩ | ⟨g2, cap2, cur2, k', _, hg', _⟩
  · cases k'
  simp only [Value.slice.injEq, Option.some.injEq, Addr.mk.injEq, and_true, true_and] at k k'
  obtain ⟨rfl, rfl⟩ := k
  obtain ⟨rfl, rfl⟩ := k'
  rintro rfl
  rw [hg] at hg'
  simp at hg'
  exact hne hg'.2
theorem Own.keptNe {w w' : World} {base n g cap : Nat} {e : TypeId} {size : Nat} {xs : List Value} {row : Option Nat} (h : Own w base e size (.slice (some ⟨g, 0, none⟩) n cap) n xs) (hg : w.grownBy w' row) (hne : row ≠ some g) : Own w' base e size (.slice (some ⟨g, 0, none⟩) n cap) n xs :=
  ⟨h.1.kept hg (.inr (by simpa [Value.ownBlock] using fun e2 => hne e2.symm)), h.2⟩
theorem Own.lowr {w : World} {base base' : Nat} {e : TypeId} {size n : Nat} {v : Value} {xs : List Value} (h : Own w base e size v n xs) (hb : base' ≤ base) : Own w base' e size v n xs := by
  refine ⟨⟨h.1.1, ?_⟩, h.2⟩
  rcases h.1.2 with h' | ⟨g, cap, cur, h1, h2, h3⟩
  · exact .inl h'
  · exact .inr ⟨g, cap, cur, h1, by omega, h3⟩
theorem Own.blk {w : World} {base n g cap : Nat} {e : TypeId} {size : Nat} {xs : List Value} (h : Own w base e size (.slice (some ⟨g, 0, none⟩) n cap) n xs) : base ≤ g ∧ g < w.heap.size := h.1.lt g rfl

/-- A lane in memory: its block, its room, its numbers. -/
structure LaneV where
  g : Nat
  cap : Nat
  zs : List Int
def LaneV.val (x : LaneV) : Value := .slice (some ⟨x.g, 0, none⟩) x.zs.length x.cap
/-- The slice v owns the lanes xs, each in a block of its own. -/
structure Lanes (w : World) (base h cap : Nat) (xs : List LaneV) : Prop where
  own : Own w base 24 1 (.slice (some ⟨h, 0, none⟩) xs.length cap) xs.length (xs.map LaneV.val)
  row : ∀ x, x ∈ xs → OwnI w base (.slice (some ⟨x.g, 0, none⟩) x.zs.length x.cap) x.zs
  nd : (xs.map LaneV.g).Nodup
section
variable {w w' : World} {base h cap : Nat} {xs : List LaneV}
theorem Lanes.grown {row : Option Nat} (k : Lanes w base h cap xs) (hg : w.grownBy w' row) (h1 : row ≠ some h) (h2 : ∀ x, x ∈ xs → row ≠ some x.g) : Lanes w' base h cap xs :=
  ⟨k.own.keptNe hg h1, fun x hx => Own.keptNe (k.row x hx) hg (h2 x hx), k.nd⟩
theorem Lanes.below (k : Lanes w base h cap xs) (hb : Below w.heap.size w w') : Lanes w' base h cap xs :=
  ⟨k.own.below hb, fun x hx => Own.below (k.row x hx) hb, k.nd⟩
theorem Lanes.alloc (k : Lanes w base h cap xs) (o : Obj) : Lanes (w.alloc o) base h cap xs := k.below (allocB w o)
theorem Lanes.lt (k : Lanes w base h cap xs) : ∀ x, x ∈ xs → base ≤ x.g ∧ x.g < w.heap.size := fun x hx => (Own.blk (k.row x hx))
theorem Lanes.ne (k : Lanes w base h cap xs) : ∀ x, x ∈ xs → h ≠ x.g := fun x hx => Own.apart k.own (k.row x hx) (by decide)
theorem Lanes.start (w : World) (hb : base ≤ w.heap.size) : Lanes (w.alloc (.cells #[] 24)) base w.heap.size 0 [] :=
  ⟨Own.lit w #[] 0 hb (by omega) (by simp), (fun x hx => by cases hx), by simp⟩
theorem Lanes.cell (k : Lanes w base h cap xs) {i : Nat} (hi : i < xs.length) : w.cell? ⟨h, i, none⟩ = some (xs[i]).val := by
  rw [k.own.1.cellAt i (by omega)]
  simp [List.getElem?_eq_getElem hi]
/-- One lane more. -/
theorem Lanes.snoc {base1 h' cap' g c : Nat} {zs : List Int} (k : Lanes w base h cap xs) (o : OwnI w base1 (.slice (some ⟨g, 0, none⟩) zs.length c) zs) (hb : base ≤ base1) (hlt : ∀ x, x ∈ xs → x.g < base1)
    (hg : w.grownBy w' (some h)) (own : Own w' base 24 1 (.slice (some ⟨h', 0, none⟩) (xs.length + 1) cap') (xs.length + 1) (xs.map LaneV.val ++ [.slice (some ⟨g, 0, none⟩) zs.length c])) :
    Lanes w' base h' cap' (xs ++ [⟨g, c, zs⟩]) := by
  refine ⟨?_, fun x hx => ?_, ?_⟩
  · rw [List.length_append, List.map_append]
    exact own
  · rcases List.mem_append.1 hx with hx | hx
    · exact Own.keptNe (k.row x hx) hg (fun e => k.ne x hx (by injection e))
    · have : x = ⟨g, c, zs⟩ := by simpa using hx
      subst this
      refine Own.keptNe (Own.lowr o hb) hg (fun e => Own.apart k.own o (by decide) (by injection e))
  · rw [List.map_append]
    refine List.nodup_append.2 ⟨k.nd, by simp, fun a ha b hb2 => ?_⟩
    obtain ⟨x, hx, rfl⟩ := List.mem_map.1 ha
    have := hlt x hx
    have h2 : b = g := by simpa using hb2
    have := (Own.blk o).1
    omega
end
/-- A list of lists as it is read, in blocks below B. -/
def LLs (w : World) (B : Nat) (A : Option Addr) (ls : List (List Int)) : Prop :=
  ls ≠ [] → ∃ b off, A = some ⟨b, off, none⟩ ∧ b < B ∧ ∀ i, i < ls.length → ∃ A' c', w.cell? ⟨b, off + i, none⟩ = some (.slice A' (nthL ls i).length c') ∧ Ints w B A' (nthL ls i) ∧ (nthL ls i).length ≤ c'
section
variable {w w' : World} {B B' : Nat} {A : Option Addr} {ls : List (List Int)}
theorem LLs.at_ (h : LLs w B A ls) {k : Nat} (hk : k < ls.length) : ∃ b off, A = some ⟨b, off, none⟩ ∧ b < B ∧ ∀ i, i < ls.length → ∃ A' c', w.cell? ⟨b, off + i, none⟩ = some (.slice A' (nthL ls i).length c') ∧ Ints w B A' (nthL ls i) ∧ (nthL ls i).length ≤ c' :=
  h (by intro e; subst e; simp at hk)
theorem LLs.below (h : LLs w B A ls) (hb : Below B w w') : LLs w' B A ls := fun hn => by
  obtain ⟨b, off, e, hB, hc⟩ := h hn
  exact ⟨b, off, e, hB, fun i hi => by
    obtain ⟨A', c', c0, c1, c2⟩ := hc i hi
    exact ⟨A', c', (hb.cell hB).trans c0, c1.below hb, c2⟩⟩
theorem LLs.more (h : LLs w B A ls) (hB : B ≤ B') : LLs w B' A ls := fun hn => by
  obtain ⟨b, off, e, hb, hc⟩ := h hn
  exact ⟨b, off, e, by omega, fun i hi => by
    obtain ⟨A', c', c0, c1, c2⟩ := hc i hi
    exact ⟨A', c', c0, c1.more hB, c2⟩⟩
theorem LLs.carry (h : LLs w w.heap.size A ls) (hb : Below w.heap.size w w') : LLs w' w'.heap.size A ls := (h.below hb).more hb.size
theorem LLs.quiet (h : LLs w B A ls) (hq : Quiet w w') : LLs w' B A ls := h.below (hq.below B)
theorem nthL_map {xs : List LaneV} {i : Nat} (h : i < xs.length) : nthL (xs.map LaneV.zs) i = (xs[i]).zs := by rw [nthL_eq (by simpa using h)]; simp
theorem Lanes.lls {base h cap : Nat} {xs : List LaneV} (k : Lanes w base h cap xs) : LLs w w.heap.size (some ⟨h, 0, none⟩) (xs.map LaneV.zs) := fun _ =>
  ⟨h, 0, rfl, k.own.blk.2, fun i hi => by
    have hi' : i < xs.length := by simpa using hi
    have hm : xs[i] ∈ xs := List.getElem_mem hi'
    have o := k.row _ hm
    rw [nthL_map hi', Nat.zero_add]
    exact ⟨_, _, k.cell hi', o.up.2.1.ints, o.up.2.2⟩⟩
end
/-- A list of lists was made in new memory; nothing else has turned. -/
def MadeL (w : World) (ls : List (List Int)) (e : Ending) (w' : World) : Prop :=
  ∃ (h cap : Nat) (xs : List LaneV), e = .returned (.slice (some ⟨h, 0, none⟩) ls.length cap) ∧ xs.map LaneV.zs = ls ∧ Lanes w' w.heap.size h cap xs ∧ Below w.heap.size w w'
theorem MadeL.lls {w w' : World} {ls : List (List Int)} {e : Ending} (h : MadeL w ls e w') : ∃ b cap : Nat, e = .returned (.slice (some ⟨b, 0, none⟩) ls.length cap) ∧ LLs w' w'.heap.size (some ⟨b, 0, none⟩) ls ∧ Below w.heap.size w w' := by
  obtain ⟨b, cap, xs, rfl, rfl, h1, h2⟩ := h
  exact ⟨b, cap, rfl, h1.lls, h2⟩
end Go.Proofs.Ytdleibkkjnodlaa
