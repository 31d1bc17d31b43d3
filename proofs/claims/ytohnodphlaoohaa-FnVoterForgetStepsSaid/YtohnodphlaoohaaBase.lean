/- What every law calls: copying a list of numbers into new memory, comparing two such lists, the reference's range test. -/
import Derived.Test.YtohnodphlaoohaaRows
import Derived.Test.YtohnodphlaoohaaMem
import Derived.Test.YtohnodphlaoohaaPlain
import Derived.Deep.QuietTactic
import Derived.BigQuiet
namespace Go.Proofs.Ytohnodphlaoohaa
open Go.RowKit
set_option linter.unusedVariables false

theorem info_int : (Try.prog.info? 3).map (fun i => (i.zero, i.size, i.bytes)) = some (some (.int .i64 0), 1, 8) := by kernel_rfl

set_option maxHeartbeats 400000 in
theorem l6In_any (n lo hi : Int) (w : World) :
    Calls Try.prog 79 #[.int .i64 n, .int .i64 lo, .int .i64 hi] w fun e w' => e = .returned (.bool (inB n lo hi)) ∧ w = w' := by
  by_cases h1 : lo ≤ n <;> by_cases h2 : n ≤ hi
  all_goals
    go_enter Try.func79, Try.ntmps79
    go_wp2
    go_ret
    exact ⟨ret_bool (by simp [inB, h1, h2]), rfl⟩

/-- A row that is being filled with zs: the first k places are done. -/
def fillTo (zs : List Int) (k : Nat) (j : Nat) : Value := if j < k then .int .i64 (nth zs j) else .int .i64 0
theorem fillTo_zero (zs : List Int) (j : Nat) : fillTo zs 0 j = .int .i64 0 := by simp [fillTo]
theorem fillTo_step (zs : List Int) (k j : Nat) : (if j = k then Value.int .i64 (nth zs k) else fillTo zs k j) = fillTo zs (k + 1) j := by
  unfold fillTo
  by_cases h : j = k
  · subst h; simp
  · rw [if_neg h]; by_cases h2 : j < k
    · rw [if_pos h2, if_pos (by omega)]
    · rw [if_neg h2, if_neg (by omega)]

set_option maxHeartbeats 1000000 in
/-- toIntS: the same numbers in a new block. -/
theorem toIntS_any (A : Option Addr) (c : Nat) (zs : List Int) (w : World) (h : Ints w w.heap.size A zs) (hn : zs.length ≤ 1048576) :
    Calls Try.prog 14 #[.slice A zs.length c] w fun e w' => e = .returned (.slice (some ⟨w.heap.size, 0, none⟩) zs.length zs.length) ∧
      w'.rowIs w.heap.size 3 zs.length (fun i => .int .i64 (nth zs i)) ∧ Below w.heap.size w w' := by
  have hmk := fun W : World => run_make_row' (P := Try.prog) 22 3 (.int .i64 0) 8 Try.underlying22 info_int rfl .i64 .i64 zs.length (by omega) (by omega) W
  go_enter Try.func14, Try.ntmps14
  go_wp2
  clear hmk
  go_loopw [4] (fun i wr => ∃ k : Nat, k ≤ zs.length ∧ i = .int .i64 k ∧ wr.rowIs w.heap.size 3 zs.length (fillTo zs k) ∧ Below w.heap.size w wr)
    (fun i _ => zs.length - (intOf i).toNat)
  case atStart =>
    exact ⟨0, Nat.zero_le _, rfl, (World.rowIs_made w _ _ _).congr (fun j _ => (fillTo_zero zs j).symm), (Below.refl _ _).alloc (Nat.le_refl _) _⟩
  case round =>
    obtain ⟨k, hk, rfl, hrow, hb⟩ := hrel
    by_cases hlt : k < zs.length
    · obtain ⟨b, off, rfl, hbb, hc⟩ := (h.below hb).at_ hlt
      have hck := hc k hlt
      have hst := hrow.cell hlt
      have hfr := hrow.frozen k
      have hR := Lib.hid hrow
      have hB := Lib.hid hb
      clear hc h hrow hb
      go_wp2
      go_roundw
      case rel => exact ⟨k + 1, by omega, by go_num, ((hR.out.set k _).congr (fun j _ => fillTo_step zs k j)), hB.out.setCell (Nat.le_refl _) _⟩
      case measure => simp [intOf]; omega
    · have hR := Lib.hid hrow
      have hB := Lib.hid hb
      clear h hrow hb
      go_wp2
      go_ret
      exact ⟨rfl, hR.out.congr (fun j hj => by unfold fillTo; rw [if_pos (by omega)]), hB.out⟩

theorem Ints.of_row {w : World} {b n B : Nat} {zs : List Int} (h : w.rowIs b 3 n (fun i => .int .i64 (nth zs i))) (hn : zs.length ≤ n) (hB : b < B) : Ints w B (some ⟨b, 0, none⟩) zs :=
  Ints.mk hB fun j hj => by have := h.cell (i := j) (by omega); simpa using this

set_option maxHeartbeats 1000000 in
/-- toIntS, the world written out. -/
theorem toIntS_exact (A : Option Addr) (c : Nat) (zs : List Int) (w : World) (h : Ints w w.heap.size A zs) (hn : zs.length ≤ 1048576) :
    Calls Try.prog 14 #[.slice A zs.length c] w fun e w' => e = .returned (.slice (some ⟨w.heap.size, 0, none⟩) zs.length zs.length) ∧
      w.alloc (.cells (zs.map (Value.int .i64)).toArray 3) = w' := by
  have hmk := fun W : World => run_make_row' (P := Try.prog) 22 3 (.int .i64 0) 8 Try.underlying22 info_int rfl .i64 .i64 zs.length (by omega) (by omega) W
  go_enter Try.func14, Try.ntmps14
  go_wp2
  clear hmk
  go_loopw [4] (fun i wr => ∃ (k : Nat) (arr : Array Value), k ≤ zs.length ∧ i = .int .i64 k ∧ arr.size = zs.length ∧ (∀ j, j < k → arr[j]? = some (.int .i64 (nth zs j))) ∧ w.alloc (.cells arr 3) = wr)
    (fun i _ => zs.length - (intOf i).toNat)
  case atStart =>
    exact ⟨0, _, Nat.zero_le _, rfl, size_madeCells _ _, fun j hj => absurd hj (by omega), rfl⟩
  case round =>
    obtain ⟨k, arr, hk, rfl, hs, ha, rfl⟩ := hrel
    by_cases hlt : k < zs.length
    · obtain ⟨b, off, rfl, hbb, hc⟩ := h.at_ hlt
      have hck : (w.alloc (.cells arr 3)).cell? ⟨b, off + k, none⟩ = some (.int .i64 (nth zs k)) := (World.cell?_alloc_lt w _ _ hbb).trans (hc k hlt)
      obtain ⟨v0, hst⟩ : ∃ v0, (w.alloc (.cells arr 3)).cell? ⟨w.heap.size, k, none⟩ = some v0 :=
        ⟨arr[k]'(by omega), by rw [cell_of_row _ _ _ _ _ _ (heap_alloc_new w _)]; exact Array.getElem?_eq_getElem (by omega)⟩
      have hka : k < arr.size := by omega
      have HS := Lib.hid hs
      have HA := Lib.hid ha
      clear hc h hs ha
      go_wp2
      go_roundw
      case rel => exact ⟨k + 1, arr.setIfInBounds k (.int .i64 (nth zs k)), by omega, by go_num, by simp [HS.out], fun j hj => by
        rw [Array.getElem?_setIfInBounds]
        by_cases e : k = j
        · subst e; simp [hka]
        · rw [if_neg e]; exact HA.out j (by omega), rfl⟩
      case measure => simp [intOf]; omega
    · have hfin : arr = (zs.map (Value.int .i64)).toArray := by
        apply Array.ext'
        refine List.ext_getElem? (fun j => ?_)
        rw [Array.getElem?_toList]
        by_cases hj : j < zs.length
        · rw [ha j (by omega)]; simp [List.getElem?_eq_getElem hj, nth_eq hj]
        · rw [Array.getElem?_eq_none (by omega), List.getElem?_eq_none (by simp; omega)]
      subst hfin
      clear h hs ha
      go_wp2
      go_ret
      exact ⟨rfl, rfl⟩
theorem Ints.of_alloc (w : World) (zs : List Int) : Ints (w.alloc (.cells (zs.map (Value.int .i64)).toArray 3)) (w.heap.size + 1) (some ⟨w.heap.size, 0, none⟩) zs :=
  Ints.mk (by omega) fun j hj => by
    rw [Nat.zero_add, cell_of_row _ _ _ _ _ _ (heap_alloc_new w _)]
    simp [List.getElem?_eq_getElem hj, nth_eq hj]
theorem rowIs_of_alloc (w : World) (zs : List Int) : (w.alloc (.cells (zs.map (Value.int .i64)).toArray 3)).rowIs w.heap.size 3 zs.length (fun i => .int .i64 (nth zs i)) := by
  have h := World.rowIs_alloc w (zs.map (Value.int .i64)).toArray 3 (fun i => .int .i64 (nth zs i)) (fun i hi => by
    simp at hi
    simp [List.getElem?_eq_getElem hi, nth_eq hi])
  simpa using h
theorem rowIs_at (w : World) (zs : List Int) {g : Nat} (hg : w.heap.size = g) : (w.alloc (.cells (zs.map (Value.int .i64)).toArray 3)).rowIs g 3 zs.length (fun i => .int .i64 (nth zs i)) := hg ▸ rowIs_of_alloc w zs
theorem toIntS_I (A : Option Addr) (c : Nat) (zs : List Int) (w : World) (h : Ints w w.heap.size A zs) (hn : zs.length ≤ 1048576) :
    Calls Try.prog 14 #[.slice A zs.length c] w fun e w' => e = .returned (.slice (some ⟨w.heap.size, 0, none⟩) zs.length zs.length) ∧
      Ints w' w'.heap.size (some ⟨w.heap.size, 0, none⟩) zs ∧ Below w.heap.size w w' :=
  (toIntS_any A c zs w h hn).mono fun _ _ ⟨he, hr, hb⟩ => ⟨he, Ints.of_row hr (Nat.le_refl _) hr.lt, hb⟩

/-- The first k numbers of two lists agree. -/
def SameTo (xs ys : List Int) (k : Nat) : Prop := ∀ j, j < k → nth xs j = nth ys j
theorem SameTo.all {xs ys : List Int} (hl : xs.length = ys.length) (h : SameTo xs ys xs.length) : xs = ys :=
  List.ext_getElem hl fun i h1 h2 => by have := h i h1; rwa [nth_eq h1, nth_eq h2] at this
theorem SameTo.step {xs ys : List Int} {k : Nat} (h : SameTo xs ys k) (e : nth xs k = nth ys k) : SameTo xs ys (k + 1) := fun j hj => by
  by_cases hjk : j = k
  · subst hjk; exact e
  · exact h j (by omega)

set_option maxHeartbeats 1000000 in
/-- eqIntS: are the two lists one? -/
theorem eqIntS_any (A A' : Option Addr) (c c' : Nat) (xs ys : List Int) (w : World) (B : Nat) (hx : Ints w B A xs) (hy : Ints w B A' ys) (hn : xs.length ≤ 1048576) (hn' : ys.length ≤ 1048576) :
    Calls Try.prog 17 #[.slice A xs.length c, .slice A' ys.length c'] w fun e w' => e = .returned (.bool (decide (xs = ys))) ∧ Quiet w w' := by
  by_cases hl : xs.length = ys.length
  · have hl' : ((xs.length : Int) != (ys.length : Int)) = false := by simp [hl]
    have H := Lib.hid hl
    clear hl
    go_enter Try.func17, Try.ntmps17
    go_wp2
    go_loopw [5] (fun i wr => ∃ k : Nat, k ≤ xs.length ∧ i = .int .i64 k ∧ SameTo xs ys k ∧ Quiet w wr) (fun i _ => xs.length - (intOf i).toNat)
    case atStart => exact ⟨0, Nat.zero_le _, rfl, (fun j hj => absurd hj (by omega)), Quiet.refl _⟩
    case round =>
      obtain ⟨k, hk, rfl, hs, hq⟩ := hrel
      by_cases hlt : k < xs.length
      · have hlt' : k < ys.length := by have := H.out; omega
        obtain ⟨b, off, rfl, hbb, hc⟩ := (hx.quiet hq).at_ hlt
        obtain ⟨b', off', rfl, hbb', hc'⟩ := (hy.quiet hq).at_ hlt'
        have hck := hc k hlt
        have hck' := hc' k hlt'
        have hi0 : (0 : Int) ≤ (k : Int) := by omega
        have hi1 : (k : Int) < (xs.length : Int) := by omega
        have hi2 : (k : Int) < (ys.length : Int) := by omega
        have HS := Lib.hid hs
        have HQ := Lib.hid hq
        clear hc hc' hx hy hs hq
        by_cases he : nth xs k = nth ys k
        · have hne : (nth xs k != nth ys k) = false := by simp [he]
          have HE := Lib.hid he
          clear he
          go_wp2
          go_quiet (fail)
          go_wp2
          go_roundw
          case rel => exact ⟨k + 1, by omega, by go_num, HS.out.step HE.out, HQ.out.trans ⟨_, rfl⟩⟩
          case measure => simp [intOf]; omega
        · have hne : (nth xs k != nth ys k) = true := by simp [he]
          have HE := Lib.hid he
          clear he
          go_wp2
          go_quiet (fail)
          go_wp2
          go_ret
          exact ⟨ret_bool (by simp; intro e; exact HE.out (by rw [e])), HQ.out.trans ⟨_, rfl⟩⟩
      · have HS := Lib.hid hs
        have HQ := Lib.hid hq
        clear hx hy hs hq
        go_wp2
        go_ret
        refine ⟨ret_bool ?_, HQ.out⟩
        have e : k = xs.length := by omega
        have := (SameTo.all H.out (e ▸ HS.out))
        simp [this]
  · have hl' : ((xs.length : Int) != (ys.length : Int)) = true := by simp; omega
    go_enter Try.func17, Try.ntmps17
    go_wp2
    go_ret
    exact ⟨ret_bool (by simp; intro e; exact hl (by rw [e])), Quiet.refl _⟩
end Go.Proofs.Ytohnodphlaoohaa
