/- The linked list of a store: how it lies in memory; building it, finding in it, adding its sizes up. -/
import Derived.Test.YtmfbhddnlgbcmaaStoreS
namespace Go.Proofs.Ytmfbhddnlgbcmaa
open Go.RowKit
set_option linter.unusedVariables false

/-- The cells of an element. -/
def nd (b : VBatch) (q : Option Addr) : Array Value := #[.int .i64 b.d, .int .i64 b.a, .int .i64 b.r, .int .i64 b.s, .pointer q]
def ptr : Option Nat → Option Addr
  | some g => some ⟨g, 0, none⟩
  | none => none
def nthg (gs : List Nat) (i : Nat) : Nat := gs.getD i 0
theorem nthg_eq {gs : List Nat} {i : Nat} (h : i < gs.length) : gs[i]? = some (nthg gs i) := by simp [nthg, List.getElem?_eq_getElem h]
/-- The blocks gs hold the first n batches as a linked list, each from block L on. -/
structure ShelfTo (w : World) (L : Nat) (gs : List Nat) (bs : List VBatch) (n : Nat) : Prop where
  len : gs.length = n
  node : ∀ i, i < n → Box w (nthg gs i) 70 (nd (nthBatch bs i) (ptr gs[i + 1]?))
  low : ∀ i, i < n → L ≤ nthg gs i
  inj : ∀ i j, i < j → j < n → nthg gs i ≠ nthg gs j
section
variable {w w' : World} {L : Nat} {gs : List Nat} {bs : List VBatch} {n : Nat}
theorem ShelfTo.lt (h : ShelfTo w L gs bs n) {i : Nat} (hi : i < n) : nthg gs i < w.heap.size := (h.node i hi).lt
theorem ShelfTo.carry (h : ShelfTo w L gs bs n) (hb : Below w.heap.size w w') : ShelfTo w' L gs bs n :=
  ⟨h.len, fun i hi => (h.node i hi).carry hb, h.low, h.inj⟩
theorem ShelfTo.less {L' : Nat} (h : ShelfTo w L gs bs n) (hL : L' ≤ L) : ShelfTo w L' gs bs n := ⟨h.len, h.node, fun i hi => Nat.le_trans hL (h.low i hi), h.inj⟩
theorem ShelfTo.nil (w : World) (L : Nat) (bs : List VBatch) : ShelfTo w L [] bs 0 := ⟨rfl, fun i hi => absurd hi (by omega), fun i hi => absurd hi (by omega), fun i j _ hj => absurd hj (by omega)⟩
/-- An element's cells. -/
theorem ShelfTo.cells (h : ShelfTo w L gs bs n) {i : Nat} (hi : i < n) : w.cell? ⟨nthg gs i, 0, none⟩ = some (.int .i64 (nthBatch bs i).d) ∧ w.cell? ⟨nthg gs i, 1, none⟩ = some (.int .i64 (nthBatch bs i).a) ∧ w.cell? ⟨nthg gs i, 2, none⟩ = some (.int .i64 (nthBatch bs i).r) ∧ w.cell? ⟨nthg gs i, 3, none⟩ = some (.int .i64 (nthBatch bs i).s) ∧ w.cell? ⟨nthg gs i, 4, none⟩ = some (.pointer (ptr gs[i + 1]?)) :=
  ⟨(h.node i hi).cell rfl, (h.node i hi).cell rfl, (h.node i hi).cell rfl, (h.node i hi).cell rfl, (h.node i hi).cell rfl⟩
theorem nthg_snoc {gs : List Nat} {N i : Nat} (h : i < gs.length) : nthg (gs ++ [N]) i = nthg gs i := by simp [nthg, List.getElem?_append_left h]
theorem nthg_last {gs : List Nat} {N : Nat} : nthg (gs ++ [N]) gs.length = N := by simp [nthg]
theorem ShelfTo.snoc {wa : World} {N : Nat} (h : ShelfTo w L gs bs n) (ha : Below w.heap.size w wa) (hN : Box wa N 70 (nd (nthBatch bs n) none)) (hlt : w.heap.size ≤ N) (hL : L ≤ N) (hn : 0 < n) :
    ShelfTo (wa.setCell ⟨nthg gs (n - 1), 4, none⟩ (.pointer (some ⟨N, 0, none⟩))) L (gs ++ [N]) bs (n + 1) := by
  have hl := h.len
  have hlast := h.lt (i := n - 1) (by omega)
  refine ⟨by simp [hl], fun i hi => ?_, fun i hi => ?_, fun i j hij hj => ?_⟩
  · by_cases e1 : i = n
    · subst e1
      rw [← hl, nthg_last]
      have e2 : (gs ++ [N])[gs.length + 1]? = none := List.getElem?_eq_none (by simp)
      rw [e2, hl]
      exact hN.other (by omega) _ _
    · rw [nthg_snoc (by omega)]
      by_cases e2 : i = n - 1
      · have e3 : (gs ++ [N])[i + 1]? = some N := by rw [show i + 1 = gs.length by omega]; simp
        rw [e3, e2]
        have e4 : gs[n - 1 + 1]? = none := List.getElem?_eq_none (by omega)
        have hb := ((h.node (n - 1) (by omega)).carry ha).set 4 (.pointer (some ⟨N, 0, none⟩))
        rw [e4] at hb
        exact hb
      · have e3 : (gs ++ [N])[i + 1]? = gs[i + 1]? := List.getElem?_append_left (by omega)
        rw [e3]
        exact ((h.node i (by omega)).carry ha).other (Ne.symm (h.inj i (n - 1) (by omega) (by omega))) _ _
  · by_cases e1 : i = n
    · subst e1; rw [← hl, nthg_last]; exact hL
    · rw [nthg_snoc (by omega)]; exact h.low i (by omega)
  · by_cases e1 : j = n
    · subst e1
      rw [nthg_snoc (by omega), ← hl, nthg_last]
      have := h.lt (i := i) (by omega)
      omega
    · rw [nthg_snoc (by omega), nthg_snoc (by omega)]; exact h.inj i j hij (by omega)
theorem ShelfTo.one {wa : World} {N F : Nat} {u : Value} (hN : Box wa N 70 (nd (nthBatch bs 0) none)) (hF : F ≠ N) (hL : L ≤ N) : ShelfTo (wa.setCell ⟨F, 0, none⟩ u) L [N] bs 1 :=
  ⟨rfl, fun i hi => by
    have : i = 0 := by omega
    subst this
    exact hN.other hF _ _, fun i hi => by
    have : i = 0 := by omega
    subst this
    exact hL, fun i j _ _ => by omega⟩
end
/-- Where the next element is hung. -/
def endOf (F : Nat) (gs : List Nat) : Addr := if gs.length = 0 then ⟨F, 0, none⟩ else ⟨nthg gs (gs.length - 1), 4, none⟩

def Shelved (w : World) (bs : List VBatch) (e : Ending) (w' : World) : Prop :=
  ∃ gs : List Nat, e = .returned (.pointer (ptr gs[0]?)) ∧ ShelfTo w' (w.heap.size + 1) gs bs bs.length ∧ Below w.heap.size w w'
set_option maxHeartbeats 4000000 in
theorem i_shelfOf (A : Option Addr) (c : Nat) (bs : List VBatch) (w : World) (h : LstBatch w w.heap.size A bs) (hn : bs.length ≤ 1048576) :
    Calls Try.prog 39 #[.slice A bs.length c] w (Shelved w bs) := by
  have H := Lib.hid h
  clear h
  go_enter Try.func39, Try.ntmps39
  go_wp2_with fail
  go_loopw [4, 9] (fun e i wr => ∃ (k : Nat) (gs : List Nat), k ≤ bs.length ∧ i = .int .i64 k ∧ e = .pointer (some (endOf w.heap.size gs)) ∧ ShelfTo wr (w.heap.size + 1) gs bs k ∧ Box wr w.heap.size 55 #[.pointer (ptr gs[0]?)] ∧ Below w.heap.size w wr) (fun _ i _ => bs.length - (intOf i).toNat)
  case atStart => exact ⟨0, [], Nat.zero_le _, rfl, rfl, ShelfTo.nil _ _ _, Box.new w _ _, allocB w _⟩
  case round =>
    obtain ⟨k, gs, hk, rfl, rfl, hsh, hbox, hbel⟩ := hrel
    have hF := hbox.lt
    by_cases hlt : k < bs.length
    · obtain ⟨b, off, rfl, hbb, hc⟩ := (H.out.below hbel).at_ hlt
      obtain ⟨x0, x1, x2, x3⟩ := hc k hlt
      have hgl := hsh.len
      have ba : Below wr.heap.size wr ((wr.alloc (.cells #[.int .i64 (nthBatch bs k).d, .int .i64 (nthBatch bs k).a, .int .i64 (nthBatch bs k).r, .int .i64 (nthBatch bs k).s] 27)).alloc (.cells (nd (nthBatch bs k) none) 70)) := allocB2 wr _ _
      have hN : Box ((wr.alloc (.cells #[.int .i64 (nthBatch bs k).d, .int .i64 (nthBatch bs k).a, .int .i64 (nthBatch bs k).r, .int .i64 (nthBatch bs k).s] 27)).alloc (.cells (nd (nthBatch bs k) none) 70)) (wr.heap.size + 1) 70 (nd (nthBatch bs k) none) := by
        have := Box.new (wr.alloc (.cells #[.int .i64 (nthBatch bs k).d, .int .i64 (nthBatch bs k).a, .int .i64 (nthBatch bs k).r, .int .i64 (nthBatch bs k).s] 27)) (nd (nthBatch bs k) none) 70
        simpa using this
      clear hc
      rcases Nat.eq_zero_or_pos k with h0 | h0
      · subst h0
        have hg : gs = [] := List.eq_nil_of_length_eq_zero hgl
        subst hg
        simp only [Nat.zero_mul, Nat.add_zero] at x0 x1 x2 x3
        have hend : endOf w.heap.size [] = ⟨w.heap.size, 0, none⟩ := rfl
        rw [hend]
        have c0 := hbox.cell (j := 0) (u := .pointer none) rfl
        have f0 := hbox.free 0
        have hsh' := ShelfTo.one (L := w.heap.size + 1) (bs := bs) (F := w.heap.size) (u := .pointer (some ⟨wr.heap.size + 1, 0, none⟩)) hN (by omega) (by omega)
        have hbox' := (hbox.carry ba).set 0 (.pointer (some ⟨wr.heap.size + 1, 0, none⟩))
        have hbel' := (next hbel ba).setCell (p := ⟨w.heap.size, 0, none⟩) (by simp) (.pointer (some ⟨wr.heap.size + 1, 0, none⟩))
        rw [World.setCell_alloc_past _ _ _ _ (by simp; omega), World.setCell_alloc_past _ _ _ _ (by omega)] at hsh' hbox' hbel'
        have HS := Lib.hid hsh'
        have HX := Lib.hid hbox'
        have HB := Lib.hid hbel'
        clear hsh hbox hbel hsh' hbox' hbel' ba hN hend hgl
        go_wp2_with fail
        go_roundw
        case rel => exact ⟨1, [wr.heap.size + 1], by omega, by go_num, rfl, HS.out, HX.out, HB.out⟩
        case measure => simp [intOf]; omega
      · have hend : endOf w.heap.size gs = ⟨nthg gs (k - 1), 4, none⟩ := by unfold endOf; rw [if_neg (by omega), hgl]
        rw [hend]
        have hlast := hsh.lt (i := k - 1) (by omega)
        have hlow := hsh.low (k - 1) (by omega)
        have c4 := (hsh.cells (i := k - 1) (by omega)).2.2.2.2
        have e4 : gs[k - 1 + 1]? = none := List.getElem?_eq_none (by omega)
        rw [e4] at c4
        have c4' : wr.cell? ⟨nthg gs (k - 1), 4, none⟩ = some (.pointer none) := c4
        have f4 := (hsh.node (k - 1) (by omega)).free 4
        have hsh' := hsh.snoc ba hN (by omega) (by omega) h0
        have hbox' := (hbox.carry ba).other (g' := nthg gs (k - 1)) (by omega) 4 (.pointer (some ⟨wr.heap.size + 1, 0, none⟩))
        have hbel' := (next hbel ba).setCell (p := ⟨nthg gs (k - 1), 4, none⟩) (by show w.heap.size ≤ nthg gs (k - 1); omega) (.pointer (some ⟨wr.heap.size + 1, 0, none⟩))
        have hend' : endOf w.heap.size (gs ++ [wr.heap.size + 1]) = ⟨wr.heap.size + 1, 4, none⟩ := by
          unfold endOf
          rw [if_neg (by simp), show (gs ++ [wr.heap.size + 1]).length - 1 = gs.length by simp, nthg_last]
        have hfst : (gs ++ [wr.heap.size + 1])[0]? = gs[0]? := List.getElem?_append_left (by omega)
        rw [← hfst] at hbox'
        rw [World.setCell_alloc_past _ _ _ _ (by simp; omega), World.setCell_alloc_past _ _ _ _ (by omega)] at hsh' hbox' hbel'
        have HS := Lib.hid hsh'
        have HX := Lib.hid hbox'
        have HB := Lib.hid hbel'
        have HE := Lib.hid hend'
        generalize nthg gs (k - 1) = gl at *
        clear hsh hbox hbel hsh' hbox' hbel' ba hN hend hgl hend' hfst e4 c4
        go_wp2_with fail
        go_roundw
        case rel => exact ⟨k + 1, gs ++ [wr.heap.size + 1], by omega, by go_num, by rw [HE.out], HS.out, HX.out, HB.out⟩
        case measure => simp [intOf]; omega
    · have e : k = bs.length := by omega
      subst e
      have c0 := hbox.cell (j := 0) (u := .pointer (ptr gs[0]?)) rfl
      have HS := Lib.hid hsh
      have HB := Lib.hid hbel
      clear hsh hbox hbel
      go_wp2_with fail
      go_ret
      exact ⟨gs, rfl, HS.out, HB.out⟩
end Go.Proofs.Ytmfbhddnlgbcmaa
