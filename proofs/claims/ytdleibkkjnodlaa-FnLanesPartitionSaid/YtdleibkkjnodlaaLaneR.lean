/- Reads of drawn lanes: one element of one lane, and its transaction. -/
import Derived.Test.YtdleibkkjnodlaaLaneW
namespace Go.Proofs.Ytdleibkkjnodlaa
open Go.RowKit
set_option linter.unusedVariables false

theorem LLs.row {w : World} {B g : Nat} {ls : List (List Int)} (h : LLs w B (some ⟨g, 0, none⟩) ls) {i : Nat} (hi : i < ls.length) : ∃ A' c', w.cell? ⟨g, i, none⟩ = some (.slice A' (nthL ls i).length c') ∧ Ints w B A' (nthL ls i) := by
  obtain ⟨b, off, e, _, hc⟩ := h.at_ hi
  injection e with e
  injection e with e1 e2
  subst e1; subst e2
  obtain ⟨A', c', c0, c1, _⟩ := hc i hi
  rw [Nat.zero_add] at c0
  exact ⟨A', c', c0, c1⟩
theorem LLs.elem {w : World} {B g : Nat} {ls : List (List Int)} (h : LLs w B (some ⟨g, 0, none⟩) ls) {i a : Nat} (hi : i < ls.length) (ha : a < (nthL ls i).length) :
    ∃ b off c', w.cell? ⟨g, i, none⟩ = some (.slice (some ⟨b, off, none⟩) (nthL ls i).length c') ∧ ∀ j, j < (nthL ls i).length → w.cell? ⟨b, off + j, none⟩ = some (.int .i64 (nth (nthL ls i) j)) := by
  obtain ⟨A', c', c0, c1⟩ := h.row hi
  obtain ⟨b, off, rfl, _, hc⟩ := c1.at_ ha
  exact ⟨b, off, c', c0, hc⟩
theorem LstTxn.cells {w : World} {B g : Nat} {bs : List VTxn} (h : LstTxn w B (some ⟨g, 0, none⟩) bs) {x : Nat} (hx : x < bs.length) : w.cell? ⟨g, x * 4, none⟩ = some (.int .i64 (nthTxn bs x).f) ∧ w.cell? ⟨g, x * 4 + 1, none⟩ = some (.int .i64 (nthTxn bs x).t) ∧ w.cell? ⟨g, x * 4 + 2, none⟩ = some (.int .i64 (nthTxn bs x).s) ∧ w.cell? ⟨g, x * 4 + 3, none⟩ = some (.int .i64 (nthTxn bs x).e) := by
  obtain ⟨b, off, e, _, hc⟩ := h.at_ hx
  injection e with e
  injection e with e1 e2
  subst e1; subst e2
  have := hc x hx
  simpa using this
/-- What the three laws on lanes ask of the lanes. -/
structure LaneOK (bs : List VTxn) (ls : List (List Int)) : Prop where
  len : ls.length ≤ 17
  one : ∀ i, i < ls.length → (nthL ls i).length ≤ 17
  pos : ∀ i, i < ls.length → 0 < (nthL ls i).length
  at_ : ∀ i a, i < ls.length → a < (nthL ls i).length → ∃ x : Nat, x < bs.length ∧ nth (nthL ls i) a = (x : Int)
  heads : ∀ i j, i < j → j < ls.length → nth (nthL ls i) 0 < nth (nthL ls j) 0
  asc : ∀ i a b, i < ls.length → a < b → b < (nthL ls i).length → nth (nthL ls i) a < nth (nthL ls i) b
  apart : ∀ i j a b x y : Nat, i < ls.length → j < i → a < (nthL ls i).length → b < (nthL ls j).length → nth (nthL ls i) a = (x : Int) → nth (nthL ls j) b = (y : Int) → x < bs.length → y < bs.length → confT bs x y = false
  conn : ∀ i a x : Nat, i < ls.length → a < (nthL ls i).length → 0 < a → nth (nthL ls i) a = (x : Int) → ∃ b y : Nat, b < (nthL ls i).length ∧ a ≠ b ∧ nth (nthL ls i) b = (y : Int) ∧ confT bs x y = true
  sum : 0 < ls.length → sumLen ls ls.length = bs.length
theorem laneOK (bs : List VTxn) (hn : bs.length ≤ 17) : LaneOK bs (lanesZ bs) := by
  have hl17 : (lanesZ bs).length ≤ 17 := by
    unfold lanesZ; split
    · exact Nat.le_trans lanesT_len hn
    · simp
  by_cases h0 : 0 < (lanesZ bs).length
  · obtain ⟨L, hL, e⟩ := lanesZ_lab h0
    refine ⟨hl17, fun i hi => Nat.le_trans (lanesZ_one hi) hn, ?_, ?_, ?_, ?_, ?_, ?_, ?_⟩
    · rw [e]; exact fun i hi => lane_pos hL hi
    · rw [e]; exact fun i a hi ha => by obtain ⟨x, h1, h2, _⟩ := lane_at hL hi ha; exact ⟨x, h1, h2⟩
    · rw [e]; exact fun i j hij hj => heads_lt hL hij hj
    · rw [e]; exact fun i a b hi hab hb => lane_asc hL hi hab hb
    · rw [e]; exact fun i j a b x y hi hj ha hb ex ey hx hy => by
        have := lane_apart hL hi (by omega) hj ha hb ex ey
        rcases hc : confT bs x y with _ | _
        · rfl
        · exact absurd ⟨hx, hy, hc⟩ this
    · rw [e]; exact fun i a x hi ha h0 ex => by
        obtain ⟨b, y, h1, h2, h3, h4⟩ := lane_conn (edge_graph bs) hL hi ha h0 ex
        exact ⟨b, y, h1, h2, h3, h4.2.2⟩
    · rw [e]; exact fun _ => sum_groups hL
  · have e : lanesZ bs = [] := List.length_eq_zero_iff.1 (by omega)
    rw [e]
    refine ⟨by simp, ?_, ?_, ?_, ?_, ?_, ?_, ?_, ?_⟩ <;> simp <;> intros <;> omega
end Go.Proofs.Ytdleibkkjnodlaa
