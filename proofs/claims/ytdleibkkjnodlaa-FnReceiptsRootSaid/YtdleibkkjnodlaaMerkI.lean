/- Proofs in trees of digests: the program's iterator over the widths of the levels. -/
import Derived.Test.YtdleibkkjnodlaaMerkP
import Derived.Test.YtdleibkkjnodlaaRFunc
import Derived.Test.YtdleibkkjnodlaaDraw5
import Derived.Outline
namespace Go.Proofs.Ytdleibkkjnodlaa
open Go.RowKit Go.Shelf
set_option linter.unusedVariables false
attribute [local go_sem] Oper.semAt_some

/-- The call's own boxes: index, proof, result, node, numbers used, width. -/
structure St (w : World) (A : Option Addr) (n c : Nat) (r : Bool) (k m u s : Int) (W : World) : Prop where
  bi : Box W w.heap.size 3 #[.int .i64 k]
  bp : Box W (w.heap.size + 1) 24 #[.slice A n c]
  br : Box W (w.heap.size + 2) 4 #[.bool r]
  bn : Box W (w.heap.size + 3) 3 #[.int .i64 m]
  bu : Box W (w.heap.size + 4) 3 #[.int .i64 u]
  bs : Box W (w.heap.size + 5) 3 #[.int .i64 s]
  be : Below w.heap.size w W
theorem Box.putObj {W : World} {b l : Nat} {t : TypeId} {vs : Array Value} {o o' : Obj} (h : Box W b t vs) (hl : W.heap[l]? = some o) (ho : o.isCells = false) : Box (W.putObj l o') b t vs := by
  have hne : b ≠ l := by
    rintro rfl
    rw [show W.heap[b]? = _ from h] at hl
    injection hl with hl
    subst hl
    cases ho
  exact (World.putObj_heap_other hne).trans h
theorem below_putObj {w W : World} {B l : Nat} {o' : Obj} (h : Below B w W) (hs : B ≤ w.heap.size) (hl : B ≤ l) : Below B w (W.putObj l o') :=
  h.grown (grownBy_putObj' W l o') (Nat.le_trans hs h.size) (fun k e => by cases e; exact hl)
section
variable {w : World} {A : Option Addr} {n c : Nat} {r : Bool} {k m u s : Int} {W : World}
theorem St.calm (h : St w A n c r k m u s W) {B l : Nat} {o o' : Obj} (hB : w.heap.size ≤ B) (hl : B ≤ l) (hg : W.heap[l]? = some o) (ho : o.isCells = false) : St w A n c r k m u s (W.putObj l o') :=
  ⟨h.bi.putObj hg ho, h.bp.putObj hg ho, h.br.putObj hg ho, h.bn.putObj hg ho, h.bu.putObj hg ho, h.bs.putObj hg ho, below_putObj h.be (Nat.le_refl _) (by omega)⟩
theorem St.width (h : St w A n c r k m u s W) (z : Int) : St w A n c r k m u z (W.setCell ⟨w.heap.size + 5, 0, none⟩ (.int .i64 z)) :=
  ⟨h.bi.other (by omega) _ _, h.bp.other (by omega) _ _, h.br.other (by omega) _ _, h.bn.other (by omega) _ _, h.bu.other (by omega) _ _, h.bs.set 0 _, h.be.setCell (by show w.heap.size ≤ w.heap.size + 5; omega) _⟩
theorem St.index (h : St w A n c r k m u s W) (z : Int) : St w A n c r z m u s (W.setCell ⟨w.heap.size, 0, none⟩ (.int .i64 z)) :=
  ⟨h.bi.set 0 _, h.bp.other (by omega) _ _, h.br.other (by omega) _ _, h.bn.other (by omega) _ _, h.bu.other (by omega) _ _, h.bs.other (by omega) _ _, h.be.setCell (by show w.heap.size ≤ w.heap.size; omega) _⟩
theorem St.node (h : St w A n c r k m u s W) (z : Int) : St w A n c r k z u s (W.setCell ⟨w.heap.size + 3, 0, none⟩ (.int .i64 z)) :=
  ⟨h.bi.other (by omega) _ _, h.bp.other (by omega) _ _, h.br.other (by omega) _ _, h.bn.set 0 _, h.bu.other (by omega) _ _, h.bs.other (by omega) _ _, h.be.setCell (by show w.heap.size ≤ w.heap.size + 3; omega) _⟩
theorem St.used (h : St w A n c r k m u s W) (z : Int) : St w A n c r k m z s (W.setCell ⟨w.heap.size + 4, 0, none⟩ (.int .i64 z)) :=
  ⟨h.bi.other (by omega) _ _, h.bp.other (by omega) _ _, h.br.other (by omega) _ _, h.bn.other (by omega) _ _, h.bu.set 0 _, h.bs.other (by omega) _ _, h.be.setCell (by show w.heap.size ≤ w.heap.size + 4; omega) _⟩
theorem St.res (h : St w A n c r k m u s W) (b : Bool) : St w A n c b k m u s (W.setCell ⟨w.heap.size + 2, 0, none⟩ (.bool b)) :=
  ⟨h.bi.other (by omega) _ _, h.bp.other (by omega) _ _, h.br.set 0 _, h.bn.other (by omega) _ _, h.bu.other (by omega) _ _, h.bs.other (by omega) _ _, h.be.setCell (by show w.heap.size ≤ w.heap.size + 2; omega) _⟩
theorem St.drew (h : St w A n c r k m u s W) : St w A n c r k m u s W.drew := ⟨h.bi, h.bp, h.br, h.bn, h.bu, h.bs, h.be.drew⟩
end
/-- Before a round: the walk stands at the width v. -/
def WJ (w : World) (A : Option Addr) (c : Nat) (ps : List Int) (R : Option (Int × List Int)) (v : Value) (W : World) : Prop :=
  ∃ (s k u : Nat) (m : Int), v = .int .i64 s ∧ St w A ps.length c false k m u s W ∧ u ≤ ps.length ∧ Walk R s k m (ps.drop u)
/-- Behind a round that goes on. -/
def WJ' (w : World) (A : Option Addr) (c : Nat) (ps : List Int) (R : Option (Int × List Int)) (v : Value) (W : World) : Prop :=
  ∃ (s k u : Nat) (m : Int), v = .int .i64 s ∧ 1 ≤ s ∧ s ≤ 16 ∧ St w A ps.length c false k m u s W ∧ u ≤ ps.length ∧ (1 < s → Walk R ((s + 1) / 2) k m (ps.drop u)) ∧ (s = 1 → R = some (m, ps.drop u))
/-- Behind the loop. -/
def WE (w : World) (A : Option Addr) (c : Nat) (ps : List Int) (R : Option (Int × List Int)) (W : World) : Prop :=
  ∃ (k u : Nat) (m : Int), St w A ps.length c false k m u 1 W ∧ u ≤ ps.length ∧ R = some (m, ps.drop u)
/-- A round has returned: the proof falls short. -/
def WX (w : World) (A : Option Addr) (c : Nat) (ps : List Int) (R : Option (Int × List Int)) (W : World) : Prop :=
  ∃ (k u s : Nat) (m : Int), St w A ps.length c false k m u s W ∧ R = none
def widthAt (b : Nat) (W : World) : Nat := match W.cell? ⟨b, 0, none⟩ with | some v => (intOf v).toNat | none => 0
theorem widthAt_eq {b s : Nat} {W : World} (h : W.cell? ⟨b, 0, none⟩ = some (.int .i64 (s : Int))) : widthAt b W = s := by simp [widthAt, h, intOf]
set_option maxHeartbeats 4000000 in
theorem widths_iter (w : World) (A : Option Addr) (c : Nat) (ps : List Int) (R : Option (Int × List Int)) (n sz : Nat) (hn : 1 ≤ n) :
    Iter Try.prog n 82 #[.pointer (some ⟨w.heap.size + 5, 0, none⟩)] (fun W => WJ w A c ps R (.int .i64 (sz : Int)) W) (WE w A c ps R) (WX w A c ps R) (WJ w A c ps R) (WJ' w A c ps R) := by
  intro l Fr Fx hFr hFx hY W hF hJ
  refine callsIn_of_wp Try.func82 rfl trivial ?_ rfl
  simp only [Try.ntmps82, List.size_toArray, List.length_cons, List.length_nil, Nat.reduceAdd, Nat.reduceSub, Array.replicate_succ, Array.replicate_zero, List.push_toArray, List.append_toArray, List.nil_append, List.cons_append]
  gi_wp2
  gi_loopw [] (fun wr => Fr wr ∧ ∃ s : Nat, WJ w A c ps R (.int .i64 (s : Int)) wr) (fun wr => widthAt (w.heap.size + 5) wr)
  case atStart => exact ⟨hF, sz, hJ⟩
  case round =>
    obtain ⟨hf, s, hj⟩ := hrel
    obtain ⟨fn, tmps, assign, body, hy, hR⟩ := hY _ wr hf hj
    obtain ⟨s', k, u, m, hs, hst, hu, hw⟩ := hj
    have hb := hst.bs.cell (j := 0) (u := .int .i64 (s' : Int)) rfl
    obtain rfl : s = s' := by injection hs with _ hs; omega
    have hw0 := Lib.hid (widthAt_eq hb)
    clear hs hst hu hw
    gi_wp2
    refine hR.mono ?_
    rintro e W2 (⟨rfl, hf2, hj2⟩ | ⟨rfl, hx2⟩)
    · obtain ⟨s', k, u, m, hs, hs1, hs16, hst, hu, hgo, hend⟩ := hj2
      obtain rfl : s = s' := by injection hs with _ hs; omega
      have hb2 := hst.bs.cell (j := 0) (u := .int .i64 (s : Int)) rfl
      have hfr := hst.bs.free 0
      have HG := Lib.hid hgo
      have HE := Lib.hid hend
      clear hs hgo hend hb
      by_cases hlt : 1 < s
      · gi_wp2
        go_roundw
        case rel =>
          refine ⟨hFr _ _ (KeepsOthers.setCell _ _ _) hf2, (s + 1) / 2, ?_⟩
          have e2 : (((s : Int) + 1) / 2) = (((s + 1) / 2 : Nat) : Int) := by omega
          rw [e2]
          exact ⟨(s + 1) / 2, k, u, m, rfl, hst.width _, hu, HG.out hlt⟩
        case measure =>
          have e2 : (((s : Int) + 1) / 2) = (((s + 1) / 2 : Nat) : Int) := by omega
          rw [hw0.out, e2, widthAt_eq ((hst.width _).bs.cell (j := 0) rfl)]
          omega
      · have hs : s = 1 := by omega
        subst hs
        gi_wp2
        go_end0
        exact ⟨⟨_, rfl⟩, .inl ⟨hf2, k, u, m, hst, hu, by first | exact HE.out rfl | exact HE.out trivial⟩⟩
    · gi_wp2
      go_end0
      exact ⟨⟨_, rfl⟩, .inr hx2⟩
end Go.Proofs.Ytdleibkkjnodlaa
