/- Rows of cells as a call sees them: a slice that reads as a list of cells below a block number; how that reading is kept. Plain lemmas, no program. -/
import Derived.WalkKit
import Derived.WalkSpells
import Derived.WalkLawsBesides
import Derived.Deep.Draws
import Derived.Deep.OwnRows
import Derived.Lib.Hide
import Derived.Maps.AppendAt
import Derived.Deep.AppendLies
namespace Go.Proofs.Ytohnodphlaoohaa
open Go.RowKit
set_option linter.unusedVariables false

/-- The number at place k (a name that the walk does not look into). -/
def nth (zs : List Int) (k : Nat) : Int := zs.getD k 0
theorem nth_eq {zs : List Int} {k : Nat} (h : k < zs.length) : nth zs k = zs[k] := by simp [nth, List.getElem?_eq_getElem h]
theorem nth_of {zs : List Int} {k : Nat} {z : Int} (h : zs[k]? = some z) : nth zs k = z := by simp [nth, h]

/-- The slice at A holds the cells xs, in a block below B. -/
def Row (w : World) (B : Nat) (A : Option Addr) (xs : List Value) : Prop :=
  xs ≠ [] → ∃ b off, A = some ⟨b, off, none⟩ ∧ b < B ∧ ∀ j u, xs[j]? = some u → w.cell? ⟨b, off + j, none⟩ = some u

/-- The slice at A holds the integers zs. -/
def Ints (w : World) (B : Nat) (A : Option Addr) (zs : List Int) : Prop := Row w B A (zs.map (Value.int .i64))

/-- Only draws have been made. -/
def Quiet (w w' : World) : Prop := ∃ n, w' = w.drewN n

section
variable {w w' : World} {B B' : Nat} {A : Option Addr} {xs : List Value} {zs : List Int}

theorem Quiet.refl (w : World) : Quiet w w := ⟨0, rfl⟩
theorem Quiet.trans {a b c : World} (h : Quiet a b) (k : Quiet b c) : Quiet a c := by
  obtain ⟨n, rfl⟩ := h; obtain ⟨m, rfl⟩ := k; exact ⟨n + m, by simp⟩
theorem Quiet.below (h : Quiet w w') (B : Nat) : Below B w w' := by
  obtain ⟨n, rfl⟩ := h; exact ⟨rfl, rfl, rfl, Nat.le_refl _, fun _ _ => rfl⟩
theorem Quiet.heap (h : Quiet w w') : w'.heap = w.heap := by obtain ⟨n, rfl⟩ := h; rfl
theorem below_drewN {a : World} (h : Below B a w) (n : Nat) : Below B a (w.drewN n) := ⟨h.os, h.tape, h.output, h.size, h.block⟩

theorem Row.keep (h : Row w B A xs) (hk : ∀ p : Addr, p.block < B → w'.cell? p = w.cell? p) : Row w' B A xs := fun hn => by
  obtain ⟨b, off, e, hb, hc⟩ := h hn
  exact ⟨b, off, e, hb, fun j u hu => (hk _ hb).trans (hc j u hu)⟩
theorem Row.more (h : Row w B A xs) (hB : B ≤ B') : Row w B' A xs := fun hn => by
  obtain ⟨b, off, e, hb, hc⟩ := h hn
  exact ⟨b, off, e, by omega, hc⟩
theorem Row.below (h : Row w B A xs) (hb : Below B w w') : Row w' B A xs := h.keep fun _ hp => hb.cell hp
theorem Row.quiet (h : Row w B A xs) (hq : Quiet w w') : Row w' B A xs := h.below (hq.below B)
theorem Row.nil (w : World) (B : Nat) (A : Option Addr) : Row w B A [] := fun h => absurd rfl h

theorem Ints.below (h : Ints w B A zs) (hb : Below B w w') : Ints w' B A zs := Row.below h hb
theorem Ints.quiet (h : Ints w B A zs) (hq : Quiet w w') : Ints w' B A zs := Row.quiet h hq
theorem Ints.more (h : Ints w B A zs) (hB : B ≤ B') : Ints w B' A zs := Row.more h hB
theorem Ints.nil (w : World) (B : Nat) (A : Option Addr) : Ints w B A [] := fun h => absurd rfl h
theorem Ints.at_ (h : Ints w B A zs) {k : Nat} (hk : k < zs.length) : ∃ b off, A = some ⟨b, off, none⟩ ∧ b < B ∧ ∀ j, j < zs.length → w.cell? ⟨b, off + j, none⟩ = some (.int .i64 (nth zs j)) := by
  obtain ⟨b, off, e, hb, hc⟩ := h (by intro e; simp at e; subst e; simp at hk)
  refine ⟨b, off, e, hb, fun j hj => hc j _ ?_⟩
  simp [List.getElem?_map, List.getElem?_eq_getElem hj, nth_eq hj]
theorem Ints.mk {b off : Nat} (hb : b < B) (h : ∀ j, j < zs.length → w.cell? ⟨b, off + j, none⟩ = some (.int .i64 (nth zs j))) : Ints w B (some ⟨b, off, none⟩) zs := fun _ => by
  refine ⟨b, off, rfl, hb, fun j u hu => ?_⟩
  rw [List.getElem?_map] at hu
  rcases hz : zs[j]? with _ | z
  · rw [hz] at hu; simp at hu
  · rw [hz] at hu; simp at hu; subst hu
    obtain ⟨hj, e⟩ := List.getElem?_eq_some_iff.1 hz
    rw [h j hj]
    rw [nth_of hz]
end

theorem Ints.carry {w w' : World} {A : Option Addr} {zs : List Int} (h : Ints w w.heap.size A zs) (hb : Below w.heap.size w w') : Ints w' w'.heap.size A zs := (h.below hb).more hb.size
theorem Row.carry {w w' : World} {A : Option Addr} {zs : List Value} (h : Row w w.heap.size A zs) (hb : Below w.heap.size w w') : Row w' w'.heap.size A zs := (h.below hb).more hb.size
theorem next {w w1 w2 : World} (h : Below w.heap.size w w1) (k : Below w1.heap.size w1 w2) : Below w.heap.size w w2 := h.trans (k.mono h.size)


theorem lt_of_cell {w : World} {b off : Nat} {v : Value} (h : w.cell? ⟨b, off, none⟩ = some v) : b < w.heap.size := by
  rcases Nat.lt_or_ge b w.heap.size with hlt | hge
  · exact hlt
  · exfalso
    simp [World.cell?, Array.getElem?_eq_none hge] at h

/-- The bytes of a slice. -/
def Bytes (w : World) (B : Nat) (A : Option Addr) (zs : List Int) : Prop := Row w B A (zs.map (Value.int .u8)) ∧ ∀ z ∈ zs, 0 ≤ z ∧ z ≤ 255
theorem Bytes.below {w w' : World} {B : Nat} {A : Option Addr} {zs : List Int} (h : Bytes w B A zs) (hb : Below B w w') : Bytes w' B A zs := ⟨h.1.below hb, h.2⟩
theorem Bytes.more {w : World} {B B' : Nat} {A : Option Addr} {zs : List Int} (h : Bytes w B A zs) (hb : B ≤ B') : Bytes w B' A zs := ⟨h.1.more hb, h.2⟩

theorem Bytes.at_ {w : World} {B : Nat} {A : Option Addr} {zs : List Int} (h : Bytes w B A zs) {k : Nat} (hk : k < zs.length) : ∃ b off, A = some ⟨b, off, none⟩ ∧ b < B ∧ ∀ j, j < zs.length → w.cell? ⟨b, off + j, none⟩ = some (.int .u8 (nth zs j)) := by
  obtain ⟨b, off, e, hb, hc⟩ := h.1 (by intro e; simp at e; subst e; simp at hk)
  refine ⟨b, off, e, hb, fun j hj => hc j _ ?_⟩
  simp [List.getElem?_map, List.getElem?_eq_getElem hj, nth_eq hj]
theorem Bytes.bd {w : World} {B : Nat} {A : Option Addr} {zs : List Int} (h : Bytes w B A zs) {k : Nat} (hk : k < zs.length) : 0 ≤ nth zs k ∧ nth zs k ≤ 255 := by
  rw [nth_eq hk]; exact h.2 _ (List.getElem_mem hk)
theorem Bytes.keep {w w' : World} {B : Nat} {A : Option Addr} {zs : List Int} (h : Bytes w B A zs) (hk : ∀ p : Addr, p.block < B → w'.cell? p = w.cell? p) : Bytes w' B A zs := ⟨h.1.keep hk, h.2⟩
theorem Bytes.take {w : World} {B : Nat} {A : Option Addr} {zs : List Int} (h : Bytes w B A zs) (k : Nat) : Bytes w B A (zs.take k) := by
  refine ⟨fun hn => ?_, fun z hz => h.2 z (List.mem_of_mem_take hz)⟩
  have hz : zs.map (Value.int .u8) ≠ [] := by intro e; simp at e; subst e; simp at hn
  obtain ⟨b, off, e, hb, hc⟩ := h.1 hz
  refine ⟨b, off, e, hb, fun j u hu => hc j u ?_⟩
  rw [List.map_take, List.getElem?_take] at hu
  by_cases hj : j < k
  · rw [if_pos hj] at hu; exact hu
  · rw [if_neg hj] at hu; cases hu

theorem keepc {W w1 : World} {b off : Nat} {v : Value} (hb : Below W.heap.size W w1) (h : W.cell? ⟨b, off, none⟩ = some v) : w1.cell? ⟨b, off, none⟩ = some v := (hb.cell (p := ⟨b, off, none⟩) (lt_of_cell h)).trans h
theorem keepf {W w1 : World} {b off : Nat} {v : Value} (hb : Below W.heap.size W w1) (h : W.cell? ⟨b, off, none⟩ = some v) (hf : W.frozen? ⟨b, off, none⟩ = false) : w1.frozen? ⟨b, off, none⟩ = false := (hb.frozen (p := ⟨b, off, none⟩) (lt_of_cell h)).trans hf
theorem allocB (w : World) (o : Obj) : Below w.heap.size w (w.alloc o) := (Below.refl _ _).alloc (Nat.le_refl _) _
theorem allocB2 (w : World) (o o' : Obj) : Below w.heap.size w ((w.alloc o).alloc o') := (allocB w o).alloc (by simp) _
theorem allocB3 (w : World) (o o' o2 : Obj) : Below w.heap.size w (((w.alloc o).alloc o').alloc o2) := (allocB2 w o o').alloc (by simp; omega) _

theorem lt_blk {w : World} {g : Nat} {o : Obj} (h : w.heap[g]? = some o) : g < w.heap.size := by
  rcases Nat.lt_or_ge g w.heap.size with hlt | hge
  · exact hlt
  · rw [Array.getElem?_eq_none hge] at h; cases h
theorem blk_at {w : World} {g : Nat} {cs : Array Value} {t : TypeId} {j : Nat} (h : w.heap[g]? = some (.cells cs t (0, 0))) (hj : j < cs.size) : ∃ u, w.cell? ⟨g, j, none⟩ = some u ∧ w.frozen? ⟨g, j, none⟩ = false :=
  ⟨cs[j], by rw [cell_of_row w g j cs t _ h]; exact Array.getElem?_eq_getElem hj, by simp [World.frozen?, h]⟩
theorem blk_set {w : World} {g : Nat} {cs : Array Value} {t : TypeId} (h : w.heap[g]? = some (.cells cs t (0, 0))) (j : Nat) (u : Value) : (w.setCell ⟨g, j, none⟩ u).heap[g]? = some (.cells (cs.setIfInBounds j u) t (0, 0)) := by
  simp [World.setCell, Array.getElem?_modify, h]

theorem quiet_same {P : Program} {f : FuncId} {args : Array Value} {w : World} {n : Nat} {v : Value}
    (h : Calls P f args (w.drewN n) fun e w' => e = .returned v ∧ w.drewN n = w') : Calls P f args (w.drewN n) fun e w'' => e = .returned v ∧ ∃ m, w'' = w.drewN m :=
  h.mono fun _ _ ⟨he, hm⟩ => ⟨he, n, hm.symm⟩
theorem quiet_more {P : Program} {f : FuncId} {args : Array Value} {w : World} {n : Nat} {v : Value}
    (h : Calls P f args (w.drewN n) fun e w' => e = .returned v ∧ Quiet (w.drewN n) w') : Calls P f args (w.drewN n) fun e w'' => e = .returned v ∧ ∃ m, w'' = w.drewN m :=
  h.mono fun _ _ ⟨he, m, hm⟩ => ⟨he, n + m, by rw [hm]; simp⟩

theorem ret_int {k : IntKind} {a b : Int} (h : a = b) : Ending.returned (.int k a) = .returned (.int k b) := by rw [h]
theorem ret_slice {A : Option Addr} {n m c : Nat} (h : n = m) : Ending.returned (.slice A n c) = .returned (.slice A m c) := by rw [h]
theorem ret_bool {a b : Bool} (h : a = b) : Ending.returned (.bool a) = .returned (.bool b) := by rw [h]
end Go.Proofs.Ytohnodphlaoohaa
