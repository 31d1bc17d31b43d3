/- The linked list of a store: finding in it, adding its sizes up, its batches from a round on. -/
import Derived.Test.YtmfbhddnlgbcmaaShelf
import Derived.Test.YtmfbhddnlgbcmaaOwnBatch
import Derived.Test.YtmfbhddnlgbcmaaSets
import Derived.Deep.LoopGhost
namespace Go.Proofs.Ytmfbhddnlgbcmaa
open Go.RowKit
set_option linter.unusedVariables false

/-- Place k is the first with this digest, or the end. -/
def FirstAt (bs : List VBatch) (dg : Int) (k : Nat) : Prop := k ≤ bs.length ∧ (∀ j, j < k → (nthBatch bs j).d ≠ dg) ∧ (k < bs.length → (nthBatch bs k).d = dg)
/-- The batches from a round on. -/
def keptTo (f : Int) (bs : List VBatch) : Nat → List VBatch
  | 0 => []
  | k + 1 => if f ≤ (nthBatch bs k).r then keptTo f bs k ++ [nthBatch bs k] else keptTo f bs k
theorem keptTo_len (f : Int) (bs : List VBatch) (k : Nat) : (keptTo f bs k).length ≤ k := by
  induction k with
  | zero => simp [keptTo]
  | succ k ih => unfold keptTo; split
                 · rw [List.length_append]; simp; omega
                 · omega
theorem keptTo_yes {f : Int} {bs : List VBatch} {k : Nat} (h : f ≤ (nthBatch bs k).r) : keptTo f bs (k + 1) = keptTo f bs k ++ [nthBatch bs k] := by rw [keptTo, if_pos h]
theorem keptTo_no {f : Int} {bs : List VBatch} {k : Nat} (h : ¬ f ≤ (nthBatch bs k).r) : keptTo f bs (k + 1) = keptTo f bs k := by rw [keptTo, if_neg h]
def kept (f : Int) (bs : List VBatch) : List VBatch := keptTo f bs bs.length
/-- A list of batches was made in new memory; nothing else has turned. -/
def MadeB (w : World) (bs : List VBatch) (e : Ending) (w' : World) : Prop :=
  ∃ g cap : Nat, e = .returned (.slice (some ⟨g, 0, none⟩) bs.length cap) ∧ OwnBatch w' w.heap.size (.slice (some ⟨g, 0, none⟩) bs.length cap) bs ∧ Below w.heap.size w w'
def FoundAt (gs : List Nat) (bs : List VBatch) (dg : Int) (w : World) (e : Ending) (w' : World) : Prop := ∃ k, FirstAt bs dg k ∧ e = .returned (.pointer (ptr gs[k]?)) ∧ w = w'
theorem ptr_at {gs : List Nat} {k : Nat} (h : k < gs.length) : ptr gs[k]? = some ⟨nthg gs k, 0, none⟩ := by rw [nthg_eq h]; rfl
theorem ptr_end {gs : List Nat} {k : Nat} (h : gs.length ≤ k) : ptr gs[k]? = none := by rw [List.getElem?_eq_none h]; rfl
set_option maxHeartbeats 2000000 in
theorem i_find (L : Nat) (gs : List Nat) (bs : List VBatch) (dg : Int) (w : World) (h : ShelfTo w L gs bs bs.length) :
    Calls Try.prog 40 #[.pointer (ptr gs[0]?), .int .i64 dg] w (FoundAt gs bs dg w) := by
  have H := Lib.hid h
  clear h
  go_enter Try.func40, Try.ntmps40
  go_wp2
  go_loopg [0] bs.length (fun gk p wr => w = wr ∧ ∃ k : Nat, k ≤ bs.length ∧ gk = bs.length - k ∧ p = .pointer (ptr gs[k]?) ∧ ∀ j, j < k → (nthBatch bs j).d ≠ dg)
  case atStart => exact ⟨rfl, 0, Nat.zero_le _, rfl, rfl, fun j hj => absurd hj (by omega)⟩
  case round =>
    obtain ⟨rfl, k, hk, hgk, rfl, hs⟩ := hrel
    have HS := Lib.hid hs
    have HG := Lib.hid hgk
    have hl := H.out.len
    by_cases hlt : k < bs.length
    · obtain ⟨c0, _, _, _, c4⟩ := H.out.cells hlt
      have hp : Ending.returned (.pointer (some ⟨nthg gs k, 0, none⟩)) = .returned (.pointer (ptr gs[k]?)) := by rw [ptr_at (by omega)]
      have HP := Lib.hid hp
      rw [ptr_at (by omega)]
      clear hs hgk hl hp
      generalize nthg gs k = g at *
      by_cases hv : (nthBatch bs k).d = dg
      · have hb : ((nthBatch bs k).d != dg) = false := by simp [hv]
        have HV := Lib.hid hv
        clear hv
        have hfin : FirstAt bs dg k := ⟨hk, HS.out, fun _ => HV.out⟩
        have HF := Lib.hid hfin
        clear hfin
        go_wp2
        go_ret
        exact ⟨k, HF.out, HP.out, rfl⟩
      · have hb : ((nthBatch bs k).d != dg) = true := by simp [hv]
        have HV := Lib.hid hv
        clear hv
        go_wp2
        go_roundg (bs.length - (k + 1))
        case measure => have := HG.out; omega
        case rel => exact ⟨rfl, k + 1, by omega, rfl, rfl, fun j hj => by
          by_cases e : j = k
          · subst e; exact HV.out
          · exact HS.out j (by omega)⟩
    · have hp : Ending.returned (.pointer none) = .returned (.pointer (ptr gs[k]?)) := by rw [ptr_end (by omega)]
      have HP := Lib.hid hp
      rw [ptr_end (by omega)]
      have hfin : FirstAt bs dg k := ⟨hk, HS.out, fun hh => absurd hh hlt⟩
      have HF := Lib.hid hfin
      clear hs hgk hl hp hfin
      go_wp2
      go_ret
      exact ⟨k, HF.out, HP.out, rfl⟩
set_option maxHeartbeats 2000000 in
theorem i_used (L : Nat) (gs : List Nat) (bs : List VBatch) (a : Int) (w : World) (h : ShelfTo w L gs bs bs.length) :
    Calls Try.prog 41 #[.pointer (ptr gs[0]?), .int .i64 a] w fun e w' => e = .returned (.int .i64 (usedW bs a bs.length)) ∧ w = w' := by
  have H := Lib.hid h
  clear h
  go_enter Try.func41, Try.ntmps41
  go_wp2
  go_loopg [0, 5] bs.length (fun gk p n wr => w = wr ∧ ∃ k : Nat, k ≤ bs.length ∧ gk = bs.length - k ∧ p = .pointer (ptr gs[k]?) ∧ n = .int .i64 (usedW bs a k))
  case atStart => exact ⟨rfl, 0, Nat.zero_le _, rfl, rfl, rfl⟩
  case round =>
    obtain ⟨rfl, k, hk, hgk, rfl, rfl⟩ := hrel
    have HG := Lib.hid hgk
    have hl := H.out.len
    by_cases hlt : k < bs.length
    · obtain ⟨_, c1, _, c3, c4⟩ := H.out.cells hlt
      rw [ptr_at (by omega)]
      clear hgk hl
      generalize nthg gs k = g at *
      by_cases hv : (nthBatch bs k).a = a
      · have hb : ((nthBatch bs k).a == a) = true := by simp [hv]
        have HV := Lib.hid hv
        clear hv
        go_wp2
        go_roundg (bs.length - (k + 1))
        case measure => have := HG.out; omega
        case rel => exact ⟨rfl, k + 1, by omega, rfl, rfl, by rw [usedW_hit HV.out]⟩
      · have hb : ((nthBatch bs k).a == a) = false := by simp [hv]
        have HV := Lib.hid hv
        clear hv
        go_wp2
        go_roundg (bs.length - (k + 1))
        case measure => have := HG.out; omega
        case rel => exact ⟨rfl, k + 1, by omega, rfl, rfl, by rw [usedW_miss HV.out]⟩
    · have e : k = bs.length := by omega
      rw [ptr_end (by omega)]
      subst e
      clear hgk hl
      go_wp2
      go_ret
      exact ⟨rfl, rfl⟩
set_option maxHeartbeats 4000000 in
theorem i_batches (L : Nat) (gs : List Nat) (bs : List VBatch) (f : Int) (w : World) (h : ShelfTo w L gs bs bs.length) (hn : bs.length ≤ 1048576) :
    Calls Try.prog 43 #[.pointer (ptr gs[0]?), .int .i64 f] w (MadeB w (kept f bs)) := by
  have H := Lib.hid h
  clear h
  have O0 := Lib.hid (OwnBatch.start (w := w) (Nat.le_refl _))
  go_enter Try.func43, Try.ntmps43
  go_wp2_with fail
  go_loopg [0, 5] bs.length (fun gk p v wr => ∃ (k g cap : Nat), k ≤ bs.length ∧ gk = bs.length - k ∧ p = .pointer (ptr gs[k]?) ∧ v = .slice (some ⟨g, 0, none⟩) (keptTo f bs k).length cap ∧ OwnBatch wr w.heap.size v (keptTo f bs k) ∧ Below w.heap.size w wr)
  case atStart => exact ⟨0, w.heap.size, 0, Nat.zero_le _, rfl, rfl, rfl, O0.out, allocB w _⟩
  case round =>
    obtain ⟨k, g, cap, hk, hgk, rfl, rfl, hown, hbel⟩ := hrel
    have HG := Lib.hid hgk
    have HO := Lib.hid hown
    have HB := Lib.hid hbel
    have hsz := hbel.size
    have hlen := keptTo_len f bs k
    have hl := H.out.len
    by_cases hlt : k < bs.length
    · obtain ⟨c0', c1', c2', c3', c4'⟩ := H.out.cells hlt
      have c0 := keepc hbel c0'
      have c1 := keepc hbel c1'
      have c2 := keepc hbel c2'
      have c3 := keepc hbel c3'
      have c4 := keepc hbel c4'
      have hlq := lt_of_cell c0'
      have hlg := Nat.lt_of_lt_of_le hlq hsz
      rw [ptr_at (by omega)]
      clear hgk hl hown hbel c0' c1' c2' c3' c4'
      generalize nthg gs k = q at *
      by_cases hv : f ≤ (nthBatch bs k).r
      · have hs := keptTo_yes hv
        have HS := Lib.hid hs
        clear hs
        go_wp2_with (at_builtin; refine appendBatch (by rfl) _ _ (by rfl) wr w.heap.size _ (keptTo f bs k) (nthBatch bs k) (by rfl) HO.out (by rfl) (by omega) hsz ?_; intro g1 cap1 w4 own4 hg4; have c4n := (hg4.cell_far ⟨q, 4, none⟩ hlg (fun e => by have := HO.out.base_le q e.symm; omega)).trans c4)
        have O4 := Lib.hid own4
        have B4 := Lib.hid (below_own HB.out HO.out (Nat.le_refl _) hg4)
        clear own4 hg4
        go_wp2_with fail
        go_roundg (bs.length - (k + 1))
        case measure => have := HG.out; omega
        case rel => exact ⟨k + 1, g1, cap1, by omega, rfl, rfl, by rw [HS.out, List.length_append]; rfl, by rw [HS.out]; exact O4.out, B4.out⟩
      · have hs := keptTo_no hv
        have HS := Lib.hid hs
        clear hs
        go_wp2_with fail
        go_roundg (bs.length - (k + 1))
        case measure => have := HG.out; omega
        case rel => exact ⟨k + 1, g, cap, by omega, rfl, rfl, by rw [HS.out], by rw [HS.out]; exact HO.out, HB.out⟩
    · have e : k = bs.length := by omega
      rw [ptr_end (by omega)]
      subst e
      clear hgk hl hown hbel
      go_wp2_with fail
      go_ret
      exact ⟨g, cap, rfl, HO.out, HB.out⟩
end Go.Proofs.Ytmfbhddnlgbcmaa
