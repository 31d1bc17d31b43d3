/- A range over a function whose iterator keeps its state in cells of its own: one law, at the wide fence. No program. -/
import Derived.Test.YtdleibkkjnodlaaMem
import Derived.RangeFuncWrites
import Derived.RangeFuncBound
import Derived.RangeFuncCalls
import Derived.RangeFuncLeaves
import Derived.Shelf.Abstract
import Derived.OwnWalkIn
import Derived.TacticsInMore
import Derived.LoopNIn
import Derived.LoopIn
namespace Go.Proofs.Ytdleibkkjnodlaa
open Go.RowKit Go.Shelf
set_option linter.unusedVariables false

/-- Turning a block that is no cells and was laid since does not matter. -/
def Calm (B : Nat) (X : World → Prop) : Prop := ∀ (W : World) (l : Nat) (o o' : Obj), B ≤ l → W.heap[l]? = some o → o.isCells = false → X W → X (W.putObj l o')
/-- How a body may be left: it goes on, or it returns. -/
def leftBy (J' Jx : World → Prop) (W : World) : Exit → Act → World → Prop
  | .normal, _, W' => KeepsOthers W W' ∧ J' W'
  | .ret, _, W' => KeepsOthers W W' ∧ Jx W'
  | _, _, _ => False
/-- What the iterator owes: whatever stays while blocks that are no cells stay (Fr: the loop is ready; Fx: it is done). -/
def Iter (P : Program) (n gf : Nat) (lb : Array Value) (I0 Je Jx : World → Prop) (J J' : Value → World → Prop) : Prop :=
  ∀ (l : Nat) (Fr Fx : World → Prop), (∀ A B, KeepsOthers A B → Fr A → Fr B) → (∀ A B, KeepsOthers A B → Fx A → Fx B) →
    (∀ v W1, Fr W1 → J v W1 → YieldAt Fence.wide (n - 1) P l #[v] W1 fun e W' => (e = .returned (.bool true) ∧ Fr W' ∧ J' v W') ∨ (e = .returned (.bool false) ∧ Fx W' ∧ Jx W')) →
    ∀ W, Fr W → I0 W → CallsIn Fence.wide n P gf (#[.func (.yield l) #[] #[]] ++ lb) W fun e W' => (∃ v, e = .returned v) ∧ ((Fr W' ∧ Je W') ∨ (Fx W' ∧ Jx W'))
theorem range_own {P : Program} {n : Nat} {g : Operand} {ps : Array Tmp} {assign body : Code} {Q : Exit → Act → World → Prop} {a : Act} {w : World}
    {gf : Nat} {lb : Array Value} (hg : a.eval g = .func (.func gf) #[] lb) (eg : ∀ args w, (callFunc gf args).run P w = .ok (.enter gf args) w) (hps : ps.size = 1)
    {I0 Je Jx : World → Prop} {J J' : Value → World → Prop} (hit : Iter P (n - 1) gf lb I0 Je Jx J J')
    (cJ : ∀ v, Calm w.heap.size (J v)) (cJ' : ∀ v, Calm w.heap.size (J' v)) (cJx : Calm w.heap.size Jx) (cJe : Calm w.heap.size Je)
    (h0 : ∀ o o', I0 ((w.alloc o).alloc o'))
    (hround : ∀ (l : Nat) (v : Value) (W W' : World) (K : Act → World → Prop), J v W → J v W' →
      (∀ a1, body.wpIn (Fence.wide.inRound l) (n - 1 - 1) P (leftBy (J' v) Jx W') a1 W' → K a1 W) →
      assign.wpIn (Fence.wide.inRound l) (n - 1 - 1) P (Exit.then K (fun _ _ _ => False)) { tmps := (ps.zip #[v]).foldl (fun t (p, v) => t.setIfInBounds p v) a.tmps, defers := [] } W)
    (hdone : ∀ (D : Nat) (W : World), w.heap.size ≤ D → Je W → W.heap[D]? = some (.deferred (some [])) → Q .normal { a with defers := { target := .collected D, args := #[] } :: a.defers } W)
    (hstop : ∀ (D : Nat) (W : World), w.heap.size ≤ D → Jx W → W.heap[D]? = some (.deferred (some [])) → Code.ret.wpIn Fence.wide n P Q { a with defers := { target := .collected D, args := #[] } :: a.defers } W) :
    (Code.rangeFunc g ps assign body).wpIn Fence.wide n P Q a w := by
  refine wpIn_rangeFunc fun fn hfn => ?_
  obtain ⟨rc, hrc⟩ : ∃ rc : LoopState → Option Code → Loop, rc = fun st pe => { state := st, pending := pe, fn, tmps := a.tmps, params := ps, assign, body, defers := w.heap.size } := ⟨_, rfl⟩
  have hsz : ((w.alloc (.deferred (some []))).alloc (.loop (rc .ready none))).heap.size = w.heap.size + 2 := by simp
  have hk0 : ((w.alloc (.deferred (some []))).alloc (.loop (rc .ready none))).heap[w.heap.size]? = some (.deferred (some [])) :=
    (Below.heap_alloc _ _ _ (by simp)).trans (World.alloc_heap_new w _)
  have hl0 : ((w.alloc (.deferred (some []))).alloc (.loop (rc .ready none))).heap[w.heap.size + 1]? = some (.loop (rc .ready none)) := by
    have := World.alloc_heap_new (w.alloc (.deferred (some []))) (.loop (rc .ready none)); rwa [World.size_alloc] at this
  have hI := h0 (.deferred (some [])) (.loop (rc .ready none))
  refine ⟨w.heap.size + 1, [{ target := .collected w.heap.size, args := #[] }], ((w.alloc (.deferred (some []))).alloc (.loop (rc .ready none))), { target := .fn (.func gf) lb, args := #[.func (.yield (w.heap.size + 1)) #[] #[]] }, ((w.alloc (.deferred (some []))).alloc (.loop (rc .ready none))), gf,
    #[.func (.yield (w.heap.size + 1)) #[] #[]] ++ lb, ((w.alloc (.deferred (some []))).alloc (.loop (rc .ready none))), (by rw [hrc]; exact run_enterLoop_outer _ _ _ _ _), (by simp only [resolve, hg]; simp [go_sem]), fun _ _ => trivial, (by simp [invoke, go_sem, eg]), (fun h => by cases h), ?_⟩
  refine (hit (w.heap.size + 1)
    (fun W => W.heap[w.heap.size + 1]? = some (.loop (rc .ready none)) ∧ W.heap[w.heap.size]? = some (.deferred (some [])))
    (fun W => W.heap[w.heap.size + 1]? = some (.loop (rc .done (some .ret))) ∧ W.heap[w.heap.size]? = some (.deferred (some [])))
    (fun A B k h => ⟨k.same _ _ h.1 rfl, k.same _ _ h.2 rfl⟩) (fun A B k h => ⟨k.same _ _ h.1 rfl, k.same _ _ h.2 rfl⟩) ?_ _ ⟨hl0, hk0⟩ hI).mono ?_
  · rintro v W ⟨hl, hk⟩ hJ
    have hlt : w.heap.size + 1 < W.heap.size := (Array.getElem?_eq_some_iff.1 hl).1
    have hy := run_yield (P := P) (args := #[v]) hl (by rw [hrc]; exact hps.symm)
    rw [hrc] at hy
    refine ⟨fn, _, assign, body, hy, roundIn_of_wpIn trivial (hround _ v W (W.putObj (w.heap.size + 1) (.loop { rc .ready none with state := .busy })) _ hJ (cJ v W _ _ _ (by omega) hl rfl hJ) ?_)⟩
    intro a1 hbody
    refine ⟨_, run_beginRound hl (by rw [hrc]), ?_⟩
    have hl2 : (W.putObj (w.heap.size + 1) (.loop { rc .ready none with state := .busy })).heap[w.heap.size + 1]? = some (.loop { rc .ready none with state := .busy }) := World.putObj_heap_same hlt
    have hk2 : (W.putObj (w.heap.size + 1) (.loop { rc .ready none with state := .busy })).heap[w.heap.size]? = some (.deferred (some [])) := (World.putObj_heap_other (by omega)).trans hk
    refine wpIn_mono hbody ?_
    intro e a3 W3 hp
    cases e with
    | normal =>
      obtain ⟨hk3, hj3⟩ := hp
      have hl3 := hk3.same _ _ hl2 rfl
      have hd3 := hk3.same _ _ hk2 rfl
      have hr := run_endRound (P := P) none hl3
      rw [hrc] at hr hl3 ⊢
      exact ⟨_, _, hr, .inl ⟨rfl, ⟨World.putObj_heap_same (Array.getElem?_eq_some_iff.1 hl3).1, (World.putObj_heap_other (by omega)).trans hd3⟩, cJ' v W3 _ _ _ (by omega) hl3 rfl hj3⟩⟩
    | ret =>
      obtain ⟨hk3, hj3⟩ := hp
      have hl3 := hk3.same _ _ hl2 rfl
      have hd3 := hk3.same _ _ hk2 rfl
      have hr := run_endRound (P := P) (some .ret) hl3
      rw [hrc] at hr hl3 ⊢
      exact ⟨_, _, hr, .inr ⟨rfl, ⟨World.putObj_heap_same (Array.getElem?_eq_some_iff.1 hl3).1, (World.putObj_heap_other (by omega)).trans hd3⟩, cJx W3 _ _ _ (by omega) hl3 rfl hj3⟩⟩
    | exit id => exact hp.elim
    | goto t => exact hp.elim
    | panic ch => exact hp.elim
    | outgrown => exact hp.elim
  · rintro e W2 ⟨⟨v, rfl⟩, (⟨⟨hl, hk⟩, hj⟩ | ⟨⟨hl, hk⟩, hj⟩)⟩
    · have hr := run_endLoop (P := P) hl (by rw [hrc]; simp)
      rw [hrc] at hr hl
      exact ⟨none, _, hr, hdone _ _ (Nat.le_refl _) (cJe W2 _ _ _ (by omega) hl rfl hj) ((World.putObj_heap_other (by omega)).trans hk)⟩
    · have hr := run_endLoop (P := P) hl (by rw [hrc]; simp)
      rw [hrc] at hr hl
      exact ⟨some .ret, _, hr, hstop _ _ (Nat.le_refl _) (cJx W2 _ _ _ (by omega) hl rfl hj) ((World.putObj_heap_other (by omega)).trans hk)⟩
end Go.Proofs.Ytdleibkkjnodlaa
