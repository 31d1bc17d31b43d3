/- Regions that draw their order, whose operations only read and whose callees may make memory of their own: walked once, in the text's order. No program. -/
import Derived.Test.YtohnodphlaoohaaMem
import Derived.Deep.QuietTactic
import Derived.BigQuiet
namespace Go.Proofs.Ytohnodphlaoohaa
open Go.RowKit
set_option linter.unusedVariables false

/-- A world in which all that lay in w lies as it did. -/
structure GrowOf (w : World) where
  W : World
  h : Below w.heap.size w W
instance (w : World) : Nonempty (GrowOf w) := ⟨⟨w, Below.refl _ _⟩⟩
theorem wp_region_grow {P : Program} {id : Nat} {Q : Exit → Act → World → Prop} {a : Act} {w : World} {l : List Oper} (hm : P.follows .mixedOrders = true) (hB : Region.lexB .any l.toArray = true)
    (h : wpQuiet P l.toArray (fun w' => ∃ p : GrowOf w, w' = p.W) (fun a' => ∀ w', (∃ p : GrowOf w, w' = p.W) → Q .normal a' w') l a) : (Code.region id l.toArray true).wp P Q a w :=
  wp_region_quiet (C := fun w' => ∃ p : GrowOf w, w' = p.W) hm hB ⟨⟨w.drew, (Below.refl _ _).drew⟩, rfl⟩ (by simpa using h)
section
variable {P : Program} {f : FuncId} {args : Array Value} {w : World} {p : GrowOf w} {v : Value}
theorem grow_below (h : Calls P f args p.W fun e w' => e = .returned v ∧ Below p.W.heap.size p.W w') : Calls P f args p.W fun e w'' => e = .returned v ∧ ∃ q : GrowOf w, w'' = q.W :=
  h.mono fun _ w' ⟨he, hb⟩ => ⟨he, ⟨w', next p.h hb⟩, rfl⟩
theorem grow_same (h : Calls P f args p.W fun e w' => e = .returned v ∧ p.W = w') : Calls P f args p.W fun e w'' => e = .returned v ∧ ∃ q : GrowOf w, w'' = q.W :=
  h.mono fun _ w' ⟨he, hb⟩ => ⟨he, p, hb.symm⟩
theorem grow_quiet (h : Calls P f args p.W fun e w' => e = .returned v ∧ Quiet p.W w') : Calls P f args p.W fun e w'' => e = .returned v ∧ ∃ q : GrowOf w, w'' = q.W :=
  h.mono fun _ w' ⟨he, hq⟩ => ⟨he, ⟨w', next p.h (hq.below _)⟩, rfl⟩
end
theorem GrowOf.cell {w : World} {b off : Nat} {v : Value} (h : w.cell? ⟨b, off, none⟩ = some v) (p : GrowOf w) : p.W.cell? ⟨b, off, none⟩ = some v := keepc p.h h
theorem GrowOf.ints {w : World} {A : Option Addr} {zs : List Int} (h : Ints w w.heap.size A zs) (p : GrowOf w) : Ints p.W p.W.heap.size A zs := h.carry p.h
end Go.Proofs.Ytohnodphlaoohaa
