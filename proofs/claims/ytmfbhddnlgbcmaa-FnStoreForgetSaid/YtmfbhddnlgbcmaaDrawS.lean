/- What the laws draw, further: a store beside a batch, an author, a digest, a floor. -/
import Derived.Test.YtmfbhddnlgbcmaaDrawSt
namespace Go.Proofs.Ytmfbhddnlgbcmaa
open Go.RowKit
set_option linter.unusedVariables false
/-- A store that was drawn, in its box at x; the zero store of the result; the reader. -/
structure Sx (w : World) (r P x : Nat) (f : Int) (g c : Nat) (bs : List VBatch) (W : World) : Prop where
  rd : RdAt W r r P
  be : Below w.heap.size w W
  zb : Box W w.heap.size 25 #[.int .i64 0, .slice none 0 0]
  xb : Box W x 25 #[.int .i64 f, .slice (some ⟨g, 0, none⟩) bs.length c]
  own : OwnBatch W (r + 1) (.slice (some ⟨g, 0, none⟩) bs.length c) bs
  hr : w.heap.size < r
  hx : r < x
section
variable {w W W' : World} {r P P' x : Nat} {f : Int} {g c : Nat} {bs : List VBatch}
theorem Sx.grown (h : Sx w r P x f g c bs W) (hg : W.grownBy W' (some r)) (hr : RdAt W' r r P') : Sx w r P' x f g c bs W' := by
  have h1 := h.hr
  have h2 := h.hx
  have h3 := h.be.size
  exact ⟨hr, h.be.trans (gr_to_below hg (by omega) h3), h.zb.grown hg (fun k hk => by injection hk; omega), h.xb.grown hg (fun k hk => by injection hk; omega), h.own.kept hg (fun k hk => by injection hk; omega), h.hr, h.hx⟩
theorem Sx.carry (h : Sx w r P x f g c bs W) (hb : Below W.heap.size W W') : Sx w r P x f g c bs W' :=
  ⟨h.rd.carry hb, next h.be hb, h.zb.carry hb, h.xb.carry hb, h.own.carry hb, h.hr, h.hx⟩
theorem Sx.cells (h : Sx w r P x f g c bs W) : W.cell? ⟨x, 0, none⟩ = some (.int .i64 f) ∧ W.cell? ⟨x, 1, none⟩ = some (.slice (some ⟨g, 0, none⟩) bs.length c) := ⟨h.xb.cell rfl, h.xb.cell rfl⟩
theorem Two.set2 {q r x j j' : Nat} {v0 v1 u u' : Value} {W : World} (h : W.cell? ⟨x, 0, none⟩ = some v0 ∧ W.cell? ⟨x, 1, none⟩ = some v1) (hq : q < r) (hx : r < x) :
    ((W.setCell ⟨q, j, none⟩ u).setCell ⟨q, j', none⟩ u').cell? ⟨x, 0, none⟩ = some v0 ∧ ((W.setCell ⟨q, j, none⟩ u).setCell ⟨q, j', none⟩ u').cell? ⟨x, 1, none⟩ = some v1 :=
  ⟨cell_oth (by omega) (cell_oth (by omega) h.1), cell_oth (by omega) (cell_oth (by omega) h.2)⟩
theorem Two.set6 {q r x j j' : Nat} {v0 v1 u u' u0 u1 u2 u3 : Value} {W : World} (h : W.cell? ⟨x, 0, none⟩ = some v0 ∧ W.cell? ⟨x, 1, none⟩ = some v1) (hq : q < r) (hx : r < x) :
    ((((((W.setCell ⟨q, j, none⟩ u).setCell ⟨q, j', none⟩ u').setCell ⟨q + 1, 0, none⟩ u0).setCell ⟨q + 1, 1, none⟩ u1).setCell ⟨q + 1, 2, none⟩ u2).setCell ⟨q + 1, 3, none⟩ u3).cell? ⟨x, 0, none⟩ = some v0 ∧ ((((((W.setCell ⟨q, j, none⟩ u).setCell ⟨q, j', none⟩ u').setCell ⟨q + 1, 0, none⟩ u0).setCell ⟨q + 1, 1, none⟩ u1).setCell ⟨q + 1, 2, none⟩ u2).setCell ⟨q + 1, 3, none⟩ u3).cell? ⟨x, 1, none⟩ = some v1 :=
  have h2 := Two.set2 (j := j) (j' := j') (u := u) (u' := u') h hq hx
  ⟨cell_oth (by omega) (cell_oth (by omega) (cell_oth (by omega) (cell_oth (by omega) h2.1))), cell_oth (by omega) (cell_oth (by omega) (cell_oth (by omega) (cell_oth (by omega) h2.2)))⟩
/-- What a load of the store, or of an element's digest, reads. -/
def Cells3 (x g c : Nat) (f : Int) (bs : List VBatch) (W : World) : Prop := W.cell? ⟨x, 0, none⟩ = some (.int .i64 f) ∧ W.cell? ⟨x, 1, none⟩ = some (.slice (some ⟨g, 0, none⟩) bs.length c) ∧ ∀ i, i < bs.length → W.cell? ⟨g, i * 4, none⟩ = some (.int .i64 (nthBatch bs i).d)
theorem Sx.cells3 (h : Sx w r P x f g c bs W) : Cells3 x g c f bs W := ⟨h.xb.cell rfl, h.xb.cell rfl, fun i hi => lst_at h.own.up.2.1.lst hi⟩
theorem Cells3.set {q j : Nat} {u : Value} (h : Cells3 x g c f bs W) (hx : q ≠ x) (hg : q ≠ g) : Cells3 x g c f bs (W.setCell ⟨q, j, none⟩ u) := ⟨cell_oth hx h.1, cell_oth hx h.2.1, fun i hi => cell_oth hg (h.2.2 i hi)⟩
theorem Cells3.set2 {q j j' : Nat} {u u' : Value} (h : Cells3 x g c f bs W) (hx : q < x) (hg : q < g) : Cells3 x g c f bs ((W.setCell ⟨q, j, none⟩ u).setCell ⟨q, j', none⟩ u') := (h.set (by omega) (by omega)).set (by omega) (by omega)
theorem Sx.zero (h : Sx w r P x f g c bs W) : (W.cell? ⟨w.heap.size, 0, none⟩ = some (.int .i64 0) ∧ W.frozen? ⟨w.heap.size, 0, none⟩ = false) ∧ W.cell? ⟨w.heap.size, 1, none⟩ = some (.slice none 0 0) ∧ W.frozen? ⟨w.heap.size, 1, none⟩ = false := ⟨⟨h.zb.cell rfl, h.zb.free 0⟩, h.zb.cell rfl, h.zb.free 1⟩
/-- The first steps of a drawing function: the reader was opened, the store drawn and laid into its box. -/
theorem Sx.start {w1 w2 : World} {B : Nat} (hz : Box w1 w.heap.size 25 #[.int .i64 0, .slice none 0 0]) (hb : Below w.heap.size w w1) (hr : w.heap.size < r) (h1 : r < w1.heap.size)
    (ho : OwnBatch w2 (w1.heap.size + 1) (.slice (some ⟨g, 0, none⟩) bs.length c) bs) (hrd : RdAt w2 r r P) (hg : w1.grownBy w2 (some r)) :
    Sx w r P w2.heap.size f g c bs (w2.alloc (.cells #[.int .i64 f, .slice (some ⟨g, 0, none⟩) bs.length c] 25)) := by
  have h2 := hg.size
  have h3 := hb.size
  have b2 := hb.trans (gr_to_below hg (by omega) h3)
  exact ⟨hrd.carry (allocB _ _), next b2 (allocB _ _), (hz.grown hg (fun k hk => by injection hk; omega)).carry (allocB _ _), Box.new _ _ _, (Own.lower ho (by omega)).alloc _, hr, by omega⟩
/-- What a law gets: the store lies in memory of its own. -/
def DrawnS1 (w : World) (e : Ending) (w' : World) : Prop :=
  ∃ (f : Int) (g c : Nat) (bs : List VBatch) (n : Int), e = .returned (.tuple #[.agg #[.int .i64 f, .slice (some ⟨g, 0, none⟩) bs.length c], .int .i64 n]) ∧ bs.length ≤ 13 ∧ OwnBatch w' w.heap.size (.slice (some ⟨g, 0, none⟩) bs.length c) bs ∧ Below w.heap.size w w'
theorem Sx.fin (h : Sx w r P x f g c bs W) (hl : bs.length ≤ 13) (n : Int) :
    DrawnS1 w (.returned (.tuple #[.agg #[.int .i64 f, .slice (some ⟨g, 0, none⟩) bs.length c], .int .i64 n])) ((W.setCell ⟨w.heap.size, 0, none⟩ (.int .i64 f)).setCell ⟨w.heap.size, 1, none⟩ (.slice (some ⟨g, 0, none⟩) bs.length c)) := by
  have h1 := h.hr
  have h2 := Own.base_le h.own g rfl
  exact ⟨f, g, c, bs, n, rfl, hl, Own.lower (Own.setOther (Own.setOther h.own (by omega)) (by omega)) (by omega), (h.be.setCell (Nat.le_refl _) _).setCell (Nat.le_refl _) _⟩
end
set_option maxHeartbeats 1000000 in
theorem s_DrawStoreUsed (A : Option Addr) (c : Nat) (zs : List Int) (w : World) (h : Bytes w w.heap.size A zs) (hc : zs.length ≤ c) (hn : zs.length ≤ 1048576) :
    Calls Try.prog 28 #[.slice A zs.length c] w (DrawnS1 w) := by
  have H := Lib.hid h
  clear h
  go_enter Try.func28, Try.ntmps28
  go_wp2_with fail
  refine (l6Open_any _ _ _ _ ((H.out.below (allocB w _)).more (by simp)) hc hn).mono ?_
  rintro e w1 ⟨rfl, r1, b1, s1⟩
  have o1 := (Box.new w #[.int .i64 0, .slice none 0 0] 25).carry b1
  have bw := (allocB w _).trans (b1.mono (by simp))
  have hs1 : w.heap.size + 1 < w1.heap.size := by simp at s1; omega
  simp at r1
  have R1 := Lib.hid r1
  have O1 := Lib.hid o1
  have BW := Lib.hid bw
  clear r1 b1 s1 o1 bw
  go_wp2_with fail
  refine (s_l92Store _ _ _ _ R1.out (by omega)).mono ?_
  rintro e w2 ⟨f, g, c2, bs, rfl, hl, ho, r2, g2⟩
  have S2 := Lib.hid (Sx.start (f := f) (B := 0) O1.out BW.out (by omega) hs1 ho r2 g2)
  clear ho r2 g2 R1 O1 BW
  go_wp2_with fail
  generalize w2.heap.size = x at *
  generalize w2.alloc (.cells #[.int .i64 f, .slice (some ⟨g, 0, none⟩) bs.length c2] 25) = w3 at *
  have hS3 := S2.out.carry (Below.refl w3.heap.size w3).drew
  have hd := hS3.cells
  have hxr := hS3.hr
  have hxx := hS3.hx
  go_region_held3 (fun W => W.cell? ⟨x, 0, none⟩ = some (.int .i64 f) ∧ W.cell? ⟨x, 1, none⟩ = some (.slice (some ⟨g, 0, none⟩) bs.length c2)) (first | (with_reducible assumption) | (with_reducible exact hS3.cells) | (with_reducible exact hS4.cells) | (with_reducible exact hS5.cells) | (with_reducible exact hS6.cells) | (with_reducible exact Two.set2 hS4.cells hxr hxx) | (with_reducible exact Two.set2 hS5.cells hxr hxx) | (with_reducible exact Two.set2 hS6.cells hxr hxx) | (with_reducible exact Two.set6 hS4.cells hxr hxx) | go_keep)
    (((go_at_call 52; refine (pick_any _ _ _ _ 9 hS3.rd (by omega)).mono ?_; rintro e w4 ⟨v, rfl, hv0, _, hv9, hr4, hg4, _⟩; have hv := hv9 (by omega); have hS4 := hS3.grown hg4 hr4; obtain ⟨⟨z0, zf0⟩, z1, zf1⟩ := hS4.zero; clear hr4 hg4 hv9)))
  all_goals
    have S4 := Lib.hid hS4
    clear hS4 hS3
    go_wp2_with fail
    exact bodyPost_ret (v := .tuple #[.agg #[.int .i64 f, .slice (some ⟨g, 0, none⟩) bs.length c2], .int .i64 (IntKind.i64.wrap (v - 1))]) (by simp [results, Try.results28, go_sem, *]) rfl (S4.out.fin hl _)
set_option maxHeartbeats 1000000 in
theorem s_DrawStoreForget (A : Option Addr) (c : Nat) (zs : List Int) (w : World) (h : Bytes w w.heap.size A zs) (hc : zs.length ≤ c) (hn : zs.length ≤ 1048576) :
    Calls Try.prog 30 #[.slice A zs.length c] w (DrawnS1 w) := by
  have H := Lib.hid h
  clear h
  go_enter Try.func30, Try.ntmps30
  go_wp2_with fail
  refine (l6Open_any _ _ _ _ ((H.out.below (allocB w _)).more (by simp)) hc hn).mono ?_
  rintro e w1 ⟨rfl, r1, b1, s1⟩
  have o1 := (Box.new w #[.int .i64 0, .slice none 0 0] 25).carry b1
  have bw := (allocB w _).trans (b1.mono (by simp))
  have hs1 : w.heap.size + 1 < w1.heap.size := by simp at s1; omega
  simp at r1
  have R1 := Lib.hid r1
  have O1 := Lib.hid o1
  have BW := Lib.hid bw
  clear r1 b1 s1 o1 bw
  go_wp2_with fail
  refine (s_l92Store _ _ _ _ R1.out (by omega)).mono ?_
  rintro e w2 ⟨f, g, c2, bs, rfl, hl, ho, r2, g2⟩
  have S2 := Lib.hid (Sx.start (f := f) (B := 0) O1.out BW.out (by omega) hs1 ho r2 g2)
  clear ho r2 g2 R1 O1 BW
  go_wp2_with fail
  generalize w2.heap.size = x at *
  generalize w2.alloc (.cells #[.int .i64 f, .slice (some ⟨g, 0, none⟩) bs.length c2] 25) = w3 at *
  have hS3 := S2.out.carry (Below.refl w3.heap.size w3).drew
  have hd := hS3.cells
  have hxr := hS3.hr
  have hxx := hS3.hx
  go_region_held3 (fun W => W.cell? ⟨x, 0, none⟩ = some (.int .i64 f) ∧ W.cell? ⟨x, 1, none⟩ = some (.slice (some ⟨g, 0, none⟩) bs.length c2)) (first | (with_reducible assumption) | (with_reducible exact hS3.cells) | (with_reducible exact hS4.cells) | (with_reducible exact hS5.cells) | (with_reducible exact hS6.cells) | (with_reducible exact Two.set2 hS4.cells hxr hxx) | (with_reducible exact Two.set2 hS5.cells hxr hxx) | (with_reducible exact Two.set2 hS6.cells hxr hxx) | (with_reducible exact Two.set6 hS4.cells hxr hxx) | go_keep)
    (first | ((go_at_call 52; refine (pick_any _ _ _ _ 20 hS5.rd (by omega)).mono ?_; rintro e w6 ⟨v3, rfl, hv30, _, hv39, hr6, hg6, _⟩; have hv3 := hv39 (by omega); have hS6 := hS5.grown hg6 hr6; obtain ⟨⟨z0, zf0⟩, z1, zf1⟩ := hS6.zero; clear hr6 hg6 hv39)) | ((go_at_call 52; refine (pick_any _ _ _ _ 10 hS4.rd (by omega)).mono ?_; rintro e w5 ⟨v2, rfl, hv20, _, hv29, hr5, hg5, _⟩; have hv2 := hv29 (by omega); have hS5 := hS4.grown hg5 hr5; clear hr5 hg5 hv29)) | ((go_at_call 52; refine (pick_any _ _ _ _ 8 hS3.rd (by omega)).mono ?_; rintro e w4 ⟨v1, rfl, hv10, _, hv19, hr4, hg4, _⟩; have hv1 := hv19 (by omega); have hS4 := hS3.grown hg4 hr4; clear hr4 hg4 hv19)))
  all_goals
    have S6 := Lib.hid hS6
    clear hS4 hS3 hS5 hS6
    go_wp2_with fail
    exact bodyPost_ret (v := .tuple #[.agg #[.int .i64 f, .slice (some ⟨g, 0, none⟩) bs.length c2], .int .i64 (IntKind.i64.wrap (IntKind.i64.wrap (IntKind.i64.wrap (f + v1) - IntKind.i64.wrap (IntKind.i64.wrap (v2.tdiv 9) * 2)) + IntKind.i64.wrap (IntKind.i64.wrap (v3.tdiv 19) * 30)))]) (by simp [results, Try.results30, go_sem, *]) rfl (S6.out.fin hl _)
set_option maxHeartbeats 1000000 in
theorem s_DrawStoreGet (A : Option Addr) (c : Nat) (zs : List Int) (w : World) (h : Bytes w w.heap.size A zs) (hc : zs.length ≤ c) (hn : zs.length ≤ 1048576) :
    Calls Try.prog 29 #[.slice A zs.length c] w (DrawnS1 w) := by
  have H := Lib.hid h
  clear h
  go_enter Try.func29, Try.ntmps29
  go_wp2_with fail
  refine (l6Open_any _ _ _ _ ((H.out.below (allocB w _)).more (by simp)) hc hn).mono ?_
  rintro e w1 ⟨rfl, r1, b1, s1⟩
  have o1 := (Box.new w #[.int .i64 0, .slice none 0 0] 25).carry b1
  have bw := (allocB w _).trans (b1.mono (by simp))
  have hs1 : w.heap.size + 1 < w1.heap.size := by simp at s1; omega
  simp at r1
  have R1 := Lib.hid r1
  have O1 := Lib.hid o1
  have BW := Lib.hid bw
  clear r1 b1 s1 o1 bw
  go_wp2_with fail
  refine (s_l92Store _ _ _ _ R1.out (by omega)).mono ?_
  rintro e w2 ⟨f, g, c2, bs, rfl, hl, ho, r2, g2⟩
  have S2 := Lib.hid (Sx.start (f := f) (B := 0) O1.out BW.out (by omega) hs1 ho r2 g2)
  clear ho r2 g2 R1 O1 BW
  have hx0 := S2.out.cells.1
  have hx1 := S2.out.cells.2
  by_cases hz : 0 < bs.length
  · have hzd : decide (0 < bs.length) = true := by simpa using hz
    go_wp2_with fail
    refine (pick_any _ _ _ _ 5 S2.out.rd (by omega)).mono ?_
    rintro e w4 ⟨v, rfl, hv0, _, hv9, hr4, hg4, _⟩
    have hv := hv9 (by omega)
    generalize w2.heap.size = x at *
    have S4 := Lib.hid (S2.out.grown hg4 hr4)
    clear hr4 hg4 hv9 hx0 hx1 S2
    by_cases hp : 0 < v
    · have hpd : decide (0 < v) = true := by simpa using hp
      go_wp2_with fail
      have hS4 := S4.out.carry (Below.refl w4.heap.size w4).drew
      have hd := hS4.cells3
      have hxr := hS4.hr
      have hxx := hS4.hx
      go_region_held3 (fun W => W.cell? ⟨x, 0, none⟩ = some (.int .i64 f) ∧ W.cell? ⟨x, 1, none⟩ = some (.slice (some ⟨g, 0, none⟩) bs.length c2) ∧ ∀ i, i < bs.length → W.cell? ⟨g, i * 4, none⟩ = some (.int .i64 (nthBatch bs i).d)) (first | assumption | exact hS4.cells3 | exact hS5.cells3 | (exact hS5.cells3.set2 (by omega) hgw) | go_keep)
        ((go_at_call 52; refine (pick_any _ _ _ _ bs.length hS4.rd (by omega)).mono ?_; rintro e w5 ⟨xi, rfl, hxi, _, hni, hr5, hg5, _⟩; obtain ⟨j, rfl⟩ := Int.eq_ofNat_of_zero_le hxi; have hj : j < bs.length := (by have := hni (by omega); omega); have hS5 := hS4.grown hg5 hr5; have hgw : w.heap.size < g := (by have := Own.base_le hS5.own g rfl; omega); obtain ⟨⟨z0, zf0⟩, z1, zf1⟩ := hS5.zero; clear hr5 hg5 hni))
      all_goals
        have S5 := Lib.hid hS5
        clear hS4 hS5
        go_wp2_with fail
        exact bodyPost_ret (v := .tuple #[.agg #[.int .i64 f, .slice (some ⟨g, 0, none⟩) bs.length c2], .int .i64 (nthBatch bs j).d]) (by simp [results, Try.results29, go_sem, *]) rfl (S5.out.fin hl _)
    · have hpd : decide (0 < v) = false := by simpa using hp
      go_wp2_with fail
      have hS4 := S4.out.carry (Below.refl w4.heap.size w4).drew
      have hd := hS4.cells
      have hxr := hS4.hr
      have hxx := hS4.hx
      go_region_held3 (fun W => W.cell? ⟨x, 0, none⟩ = some (.int .i64 f) ∧ W.cell? ⟨x, 1, none⟩ = some (.slice (some ⟨g, 0, none⟩) bs.length c2)) (first | assumption | exact hS4.cells | exact hS5.cells | go_keep | (exact ⟨by repeat (first | exact hS5.cells.1 | refine cell_oth (by omega) ?_), by repeat (first | exact hS5.cells.2 | refine cell_oth (by omega) ?_)⟩))
        (((go_at_call 52; refine (pick_any _ _ _ _ 22 hS4.rd (by omega)).mono ?_; rintro e w5 ⟨u, rfl, hu0, _, hu9, hr5, hg5, _⟩; have hu := hu9 (by omega); have hS5 := hS4.grown hg5 hr5; obtain ⟨⟨z0, zf0⟩, z1, zf1⟩ := hS5.zero; clear hr5 hg5 hu9)))
      all_goals
        have S5 := Lib.hid hS5
        clear hS4 hS5
        go_wp2_with fail
        exact bodyPost_ret (v := .tuple #[.agg #[.int .i64 f, .slice (some ⟨g, 0, none⟩) bs.length c2], .int .i64 u]) (by simp [results, Try.results29, go_sem, *]) rfl (S5.out.fin hl _)
  · have hzd : decide (0 < bs.length) = false := by simpa using hz
    go_wp2_with fail
    generalize w2.heap.size = x at *
    generalize w2.alloc (.cells #[.int .i64 f, .slice (some ⟨g, 0, none⟩) bs.length c2] 25) = w3 at *
    clear hx0 hx1
    have hS4 := S2.out.carry (Below.refl w3.heap.size w3).drew
    have hd := hS4.cells
    have hxr := hS4.hr
    have hxx := hS4.hx
    go_region_held3 (fun W => W.cell? ⟨x, 0, none⟩ = some (.int .i64 f) ∧ W.cell? ⟨x, 1, none⟩ = some (.slice (some ⟨g, 0, none⟩) bs.length c2)) (first | assumption | exact hS4.cells | exact hS5.cells | go_keep | (exact ⟨by repeat (first | exact hS5.cells.1 | refine cell_oth (by omega) ?_), by repeat (first | exact hS5.cells.2 | refine cell_oth (by omega) ?_)⟩))
      (((go_at_call 52; refine (pick_any _ _ _ _ 22 hS4.rd (by omega)).mono ?_; rintro e w5 ⟨u, rfl, hu0, _, hu9, hr5, hg5, _⟩; have hu := hu9 (by omega); have hS5 := hS4.grown hg5 hr5; obtain ⟨⟨z0, zf0⟩, z1, zf1⟩ := hS5.zero; clear hr5 hg5 hu9)))
    all_goals
      have S5 := Lib.hid hS5
      clear hS4 hS5
      go_wp2_with fail
      exact bodyPost_ret (v := .tuple #[.agg #[.int .i64 f, .slice (some ⟨g, 0, none⟩) bs.length c2], .int .i64 u]) (by simp [results, Try.results29, go_sem, *]) rfl (S5.out.fin hl _)
/-- A store and a batch were drawn. -/
def DrawnS2 (w : World) (e : Ending) (w' : World) : Prop :=
  ∃ (f : Int) (g c : Nat) (bs : List VBatch) (b : VBatch), e = .returned (.tuple #[.agg #[.int .i64 f, .slice (some ⟨g, 0, none⟩) bs.length c], .agg #[.int .i64 b.d, .int .i64 b.a, .int .i64 b.r, .int .i64 b.s]]) ∧ bs.length ≤ 13 ∧ OwnBatch w' w.heap.size (.slice (some ⟨g, 0, none⟩) bs.length c) bs ∧ Below w.heap.size w w'
set_option maxHeartbeats 1000000 in
theorem s_DrawStorePut (A : Option Addr) (c : Nat) (zs : List Int) (w : World) (h : Bytes w w.heap.size A zs) (hc : zs.length ≤ c) (hn : zs.length ≤ 1048576) :
    Calls Try.prog 14 #[.slice A zs.length c] w (DrawnS2 w) := by
  have H := Lib.hid h
  clear h
  go_enter Try.func14, Try.ntmps14
  go_wp2_with fail
  refine (l6Open_any _ _ _ _ ((H.out.below (allocB2 w _ _)).more (by simp; omega)) hc hn).mono ?_
  rintro e w1 ⟨rfl, r1, b1, s1⟩
  have o1 := ((Box.new w #[.int .i64 0, .slice none 0 0] 25).carry (allocB _ _)).carry b1
  have p1 := (Box.new (w.alloc _) #[.int .i64 0, .int .i64 0, .int .i64 0, .int .i64 0] 27).carry b1
  have bw := (allocB2 w _ _).trans (b1.mono (by simp; omega))
  have hs1 : w.heap.size + 2 < w1.heap.size := by simp at s1; omega
  simp at p1
  have P1 := Lib.hid p1
  clear p1
  simp at r1
  have R1 := Lib.hid r1
  have O1 := Lib.hid o1
  have BW := Lib.hid bw
  clear r1 b1 s1 o1 bw
  go_wp2_with fail
  refine (s_l92Store _ _ _ _ R1.out (by omega)).mono ?_
  rintro e w2 ⟨f, g, c2, bs, rfl, hl, ho, r2, g2⟩
  have S2 := Lib.hid (Sx.start (f := f) (B := 0) O1.out BW.out (by omega) hs1 ho r2 g2)
  have Y2 := Lib.hid ((P1.out.grown g2 (fun k hk => by injection hk; omega)).carry (allocB w2 (.cells #[.int .i64 f, .slice (some ⟨g, 0, none⟩) bs.length c2] 25)))
  clear ho r2 g2 P1 R1 O1 BW
  go_wp2_with fail
  generalize w2.heap.size = x at *
  generalize w2.alloc (.cells #[.int .i64 f, .slice (some ⟨g, 0, none⟩) bs.length c2] 25) = w3 at *
  have hS3 := S2.out.carry (Below.refl w3.heap.size w3).drew
  have hd := hS3.cells
  have hxr := hS3.hr
  have hxx := hS3.hx
  go_region_held3 (fun W => W.cell? ⟨x, 0, none⟩ = some (.int .i64 f) ∧ W.cell? ⟨x, 1, none⟩ = some (.slice (some ⟨g, 0, none⟩) bs.length c2)) (first | (with_reducible assumption) | (with_reducible exact hS3.cells) | (with_reducible exact hS4.cells) | (with_reducible exact hS5.cells) | (with_reducible exact hS6.cells) | (with_reducible exact Two.set2 hS4.cells hxr hxx) | (with_reducible exact Two.set2 hS5.cells hxr hxx) | (with_reducible exact Two.set2 hS6.cells hxr hxx) | (with_reducible exact Two.set6 hS4.cells hxr hxx) | go_keep)
    ((go_at_call 37; refine (s_l92Batch _ _ _ _ hS3.rd (by omega)).mono ?_; rintro e w4 ⟨b, rfl, hr4, hg4⟩; have hS4 := hS3.grown hg4 hr4; have hr1 := hS3.rd; have Y4 := Lib.hid (Box.grown (w := w3.drew) Y2.out hg4 (fun k hk => by injection hk; omega)); obtain ⟨⟨z0, zf0⟩, z1, zf1⟩ := hS4.zero; have y0 := Y4.out.cell (j := 0) (u := .int .i64 0) rfl; have y1 := Y4.out.cell (j := 1) (u := .int .i64 0) rfl; have y2 := Y4.out.cell (j := 2) (u := .int .i64 0) rfl; have y3 := Y4.out.cell (j := 3) (u := .int .i64 0) rfl; have yf0 := Y4.out.free 0; have yf1 := Y4.out.free 1; have yf2 := Y4.out.free 2; have yf3 := Y4.out.free 3; clear hr4 hg4))
  all_goals
    have S4 := Lib.hid hS4
    clear hS4 hS3
    go_wp2_with fail
    refine bodyPost_ret (v := .tuple #[.agg #[.int .i64 f, .slice (some ⟨g, 0, none⟩) bs.length c2], .agg #[.int .i64 b.d, .int .i64 b.a, .int .i64 b.r, .int .i64 b.s]]) (by simp [results, Try.results14, go_sem, *]) rfl ?_
    have hb := Own.base_le S4.out.own g rfl
    have hg1 : g ≠ w.heap.size := by omega
    have hg2 : g ≠ w.heap.size + 1 := by omega
    refine ⟨f, g, c2, bs, b, rfl, hl, Own.lower (Own.setOther (Own.setOther (Own.setOther (Own.setOther (Own.setOther (Own.setOther S4.out.own hg1) hg1) hg2) hg2) hg2) hg2) (by omega), ?_⟩
    exact (((((S4.out.be.setCell (Nat.le_refl _) _).setCell (Nat.le_refl _) _).setCell (Nat.le_succ _) _).setCell (Nat.le_succ _) _).setCell (Nat.le_succ _) _).setCell (Nat.le_succ _) _
end Go.Proofs.Ytmfbhddnlgbcmaa
