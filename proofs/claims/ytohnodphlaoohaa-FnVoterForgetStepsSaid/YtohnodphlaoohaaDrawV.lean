/- What the laws draw, further: votes. -/
import Derived.Test.YtohnodphlaoohaaDraw5
import Derived.Test.YtohnodphlaoohaaLstVote
namespace Go.Proofs.Ytohnodphlaoohaa
open Go.RowKit
set_option linter.unusedVariables false
/-- A vote was drawn; nothing has turned but the reader. -/
def DrawnVote (w : World) (B r P : Nat) (e : Ending) (w' : World) : Prop :=
  ∃ x : VVote, e = .returned (.agg #[.int .i64 (x.r), .int .i64 (x.a), .int .i64 (x.d)]) ∧ RdAt w' B r P ∧ w.grownBy w' (some r)
set_option maxHeartbeats 4000000 in
theorem s_l92Vote (w : World) (B r P : Nat) (h : RdAt w B r P) (hP : P ≤ 900000) :
    Calls Try.prog 111 #[.pointer (some ⟨r, 0, none⟩)] w (DrawnVote w B r (P + 10)) := by
  have hrl := h.lt
  have H := Lib.hid h
  clear h
  go_enter Try.func111, Try.ntmps111
  go_wp2_with fail
  refine (pick_any _ B r _ 6 (H.out.carry (allocB _ _)) (by omega)).mono ?_
  rintro e w1 ⟨x1, rfl, hx1, _, hn1, hr1, hg1, hs1⟩
  have hl1 := hn1 (by omega)
  clear hn1 hs1
  have b_o : Box w1 (w.heap.size) 35 #[.int .i64 0, .int .i64 0, .int .i64 0] := by have := ((Box.new _ _ _)).grown hg1 (fun k hk => by injection hk; omega); simpa using this
  have g_w1 := (gr_alloc (gr_refl w r) _).trans hg1
  have B_o := Lib.hid b_o
  have lt_o_w1 := b_o.lt
  clear b_o
  have G_w1 := Lib.hid g_w1
  have sz_w1 := g_w1.size
  have R_w1 := Lib.hid hr1
  clear g_w1 hg1 hr1
  have c_o0 := B_o.out.cell (j := 0) (u := .int .i64 0) rfl
  have f_o0 := B_o.out.free 0
  have c_o1 := B_o.out.cell (j := 1) (u := .int .i64 0) rfl
  have f_o1 := B_o.out.free 1
  have c_o2 := B_o.out.cell (j := 2) (u := .int .i64 0) rfl
  have f_o2 := B_o.out.free 2
  go_wp2_with fail
  refine (pick_any _ B r _ 4 R_w1.out (by omega)).mono ?_
  rintro e w2 ⟨x2, rfl, hx2, _, hn2, hr2, hg2, hs2⟩
  have hl2 := hn2 (by omega)
  clear hn2 hs2
  clear c_o0
  clear f_o0
  clear c_o1
  clear f_o1
  clear c_o2
  clear f_o2
  have b_o : Box w2 (w.heap.size) 35 #[.int .i64 0, .int .i64 0, .int .i64 0] := by have := (B_o.out).grown hg2 (fun k hk => by injection hk; omega); simpa using this
  have g_w2 := (G_w1.out).trans hg2
  have B_o := Lib.hid b_o
  have lt_o_w2 := b_o.lt
  clear b_o
  have G_w2 := Lib.hid g_w2
  have sz_w2 := g_w2.size
  have R_w2 := Lib.hid hr2
  clear g_w2 hg2 hr2
  have c_o0 := B_o.out.cell (j := 0) (u := .int .i64 0) rfl
  have f_o0 := B_o.out.free 0
  have c_o1 := B_o.out.cell (j := 1) (u := .int .i64 0) rfl
  have f_o1 := B_o.out.free 1
  have c_o2 := B_o.out.cell (j := 2) (u := .int .i64 0) rfl
  have f_o2 := B_o.out.free 2
  go_wp2_with fail
  refine (pick_any _ B r _ 3 R_w2.out (by omega)).mono ?_
  rintro e w3 ⟨x3, rfl, hx3, _, hn3, hr3, hg3, hs3⟩
  have hl3 := hn3 (by omega)
  clear hn3 hs3
  clear c_o0
  clear f_o0
  clear c_o1
  clear f_o1
  clear c_o2
  clear f_o2
  have b_o : Box w3 (w.heap.size) 35 #[.int .i64 0, .int .i64 0, .int .i64 0] := by have := (B_o.out).grown hg3 (fun k hk => by injection hk; omega); simpa using this
  have g_w3 := (G_w2.out).trans hg3
  have B_o := Lib.hid b_o
  have lt_o_w3 := b_o.lt
  clear b_o
  have G_w3 := Lib.hid g_w3
  have sz_w3 := g_w3.size
  have R_w3 := Lib.hid hr3
  clear g_w3 hg3 hr3
  have c_o0 := B_o.out.cell (j := 0) (u := .int .i64 0) rfl
  have f_o0 := B_o.out.free 0
  have c_o1 := B_o.out.cell (j := 1) (u := .int .i64 0) rfl
  have f_o1 := B_o.out.free 1
  have c_o2 := B_o.out.cell (j := 2) (u := .int .i64 0) rfl
  have f_o2 := B_o.out.free 2
  go_wp2_with fail
  refine (pick_any _ B r _ 24 (R_w3.out.carry (allocB _ _)) (by omega)).mono ?_
  rintro e w4 ⟨x4, rfl, hx4, _, hn4, hr4, hg4, hs4⟩
  have hl4 := hn4 (by omega)
  clear hn4 hs4
  clear c_o0
  clear f_o0
  clear c_o1
  clear f_o1
  clear c_o2
  clear f_o2
  have b_o : Box w4 (w.heap.size) 35 #[.int .i64 0, .int .i64 0, .int .i64 0] := by have := ((B_o.out.carry (allocB _ _))).grown hg4 (fun k hk => by injection hk; omega); simpa using this
  have b_t : Box w4 (w3.heap.size) 35 #[.int .i64 x1, .int .i64 x2, .int .i64 (1 + x3)] := by have := ((Box.new _ _ _)).grown hg4 (fun k hk => by injection hk; omega); simpa using this
  have g_w4 := (gr_alloc (G_w3.out) _).trans hg4
  have B_o := Lib.hid b_o
  have lt_o_w4 := b_o.lt
  clear b_o
  have B_t := Lib.hid b_t
  have lt_t_w4 := b_t.lt
  clear b_t
  have G_w4 := Lib.hid g_w4
  have sz_w4 := g_w4.size
  have R_w4 := Lib.hid hr4
  clear g_w4 hg4 hr4
  have c_o0 := B_o.out.cell (j := 0) (u := .int .i64 0) rfl
  have f_o0 := B_o.out.free 0
  have c_o1 := B_o.out.cell (j := 1) (u := .int .i64 0) rfl
  have f_o1 := B_o.out.free 1
  have c_o2 := B_o.out.cell (j := 2) (u := .int .i64 0) rfl
  have f_o2 := B_o.out.free 2
  have c_t0 := B_t.out.cell (j := 0) (u := .int .i64 x1) rfl
  have f_t0 := B_t.out.free 0
  have c_t1 := B_t.out.cell (j := 1) (u := .int .i64 x2) rfl
  have f_t1 := B_t.out.free 1
  have c_t2 := B_t.out.cell (j := 2) (u := .int .i64 (1 + x3)) rfl
  have f_t2 := B_t.out.free 2
  by_cases h5 : x4 = 0
  · have bh5 : (x4 == 0) = true := by simp [h5]
    clear h5
    go_wp2_with fail
    refine (pick_any _ B r _ 3 (R_w4.out.carry (allocB _ _)) (by omega)).mono ?_
    rintro e w6 ⟨x6, rfl, hx6, _, hn6, hr6, hg6, hs6⟩
    have hl6 := hn6 (by omega)
    clear hn6 hs6
    clear c_o0
    clear f_o0
    clear c_o1
    clear f_o1
    clear c_o2
    clear f_o2
    clear c_t0
    clear f_t0
    clear c_t1
    clear f_t1
    clear c_t2
    clear f_t2
    have b_o : Box w6 (w.heap.size) 35 #[.int .i64 0, .int .i64 0, .int .i64 0] := by have := ((B_o.out.carry (allocB _ _))).grown hg6 (fun k hk => by injection hk; omega); simpa using this
    have b_t : Box w6 (w3.heap.size) 35 #[.int .i64 x1, .int .i64 x2, .int .i64 (1 + x3)] := by have := ((B_t.out.carry (allocB _ _))).grown hg6 (fun k hk => by injection hk; omega); simpa using this
    have b_l : Box w6 (w4.heap.size) 3 #[.int .i64 (-1), .int .i64 30, .int .i64 31] := by have := ((Box.new _ _ _)).grown hg6 (fun k hk => by injection hk; omega); simpa using this
    have g_w6 := (gr_alloc (G_w4.out) _).trans hg6
    have B_o := Lib.hid b_o
    have lt_o_w6 := b_o.lt
    clear b_o
    have B_t := Lib.hid b_t
    have lt_t_w6 := b_t.lt
    clear b_t
    have B_l := Lib.hid b_l
    have lt_l_w6 := b_l.lt
    clear b_l
    have G_w6 := Lib.hid g_w6
    have sz_w6 := g_w6.size
    have R_w6 := Lib.hid hr6
    clear g_w6 hg6 hr6
    have c_o0 := B_o.out.cell (j := 0) (u := .int .i64 0) rfl
    have f_o0 := B_o.out.free 0
    have c_o1 := B_o.out.cell (j := 1) (u := .int .i64 0) rfl
    have f_o1 := B_o.out.free 1
    have c_o2 := B_o.out.cell (j := 2) (u := .int .i64 0) rfl
    have f_o2 := B_o.out.free 2
    have c_t0 := B_t.out.cell (j := 0) (u := .int .i64 x1) rfl
    have f_t0 := B_t.out.free 0
    have c_t1 := B_t.out.cell (j := 1) (u := .int .i64 x2) rfl
    have f_t1 := B_t.out.free 1
    have c_t2 := B_t.out.cell (j := 2) (u := .int .i64 (1 + x3)) rfl
    have f_t2 := B_t.out.free 2
    have c_l0 := B_l.out.cell (j := 0) (u := .int .i64 (-1)) rfl
    have f_l0 := B_l.out.free 0
    have c_l1 := B_l.out.cell (j := 1) (u := .int .i64 30) rfl
    have f_l1 := B_l.out.free 1
    have c_l2 := B_l.out.cell (j := 2) (u := .int .i64 31) rfl
    have f_l2 := B_l.out.free 2
    have ct := tabCell (w := w6) (b := w4.heap.size) (t := 3) (x := x6) [-1, 30, 31] hx6 (by simpa using hl6) B_l.out
    go_wp2_with fail
    exact bodyPost_ret (v := .agg #[.int .i64 (nth [-1, 30, 31] x6.toNat), .int .i64 x2, .int .i64 (1 + x3)]) (by simp [results, Try.results111, go_sem, *]) rfl ⟨⟨nth [-1, 30, 31] x6.toNat, x2, 1 + x3⟩, rfl, ((((R_w6.out.set (by omega) _ _).set (by omega) _ _).set (by omega) _ _).set (by omega) _ _).mono (by omega), (gr_set (gr_set (gr_set (gr_set (G_w6.out) (by omega) _ _) (by omega) _ _) (by omega) _ _) (by omega) _ _)⟩
  · have bh5 : (x4 == 0) = false := by simp [h5]
    clear h5
    by_cases h6 : x4 = 1
    · have bh6 : (x4 == 1) = true := by simp [h6]
      clear h6
      go_wp2_with fail
      refine (pick_any _ B r _ 9 R_w4.out (by omega)).mono ?_
      rintro e w7 ⟨x7, rfl, hx7, _, hn7, hr7, hg7, hs7⟩
      have hl7 := hn7 (by omega)
      clear hn7 hs7
      clear c_o0
      clear f_o0
      clear c_o1
      clear f_o1
      clear c_o2
      clear f_o2
      clear c_t0
      clear f_t0
      clear c_t1
      clear f_t1
      clear c_t2
      clear f_t2
      have b_o : Box w7 (w.heap.size) 35 #[.int .i64 0, .int .i64 0, .int .i64 0] := by have := (B_o.out).grown hg7 (fun k hk => by injection hk; omega); simpa using this
      have b_t : Box w7 (w3.heap.size) 35 #[.int .i64 x1, .int .i64 x2, .int .i64 (1 + x3)] := by have := (B_t.out).grown hg7 (fun k hk => by injection hk; omega); simpa using this
      have g_w7 := (G_w4.out).trans hg7
      have B_o := Lib.hid b_o
      have lt_o_w7 := b_o.lt
      clear b_o
      have B_t := Lib.hid b_t
      have lt_t_w7 := b_t.lt
      clear b_t
      have G_w7 := Lib.hid g_w7
      have sz_w7 := g_w7.size
      have R_w7 := Lib.hid hr7
      clear g_w7 hg7 hr7
      have c_o0 := B_o.out.cell (j := 0) (u := .int .i64 0) rfl
      have f_o0 := B_o.out.free 0
      have c_o1 := B_o.out.cell (j := 1) (u := .int .i64 0) rfl
      have f_o1 := B_o.out.free 1
      have c_o2 := B_o.out.cell (j := 2) (u := .int .i64 0) rfl
      have f_o2 := B_o.out.free 2
      have c_t0 := B_t.out.cell (j := 0) (u := .int .i64 x1) rfl
      have f_t0 := B_t.out.free 0
      have c_t1 := B_t.out.cell (j := 1) (u := .int .i64 x2) rfl
      have f_t1 := B_t.out.free 1
      have c_t2 := B_t.out.cell (j := 2) (u := .int .i64 (1 + x3)) rfl
      have f_t2 := B_t.out.free 2
      go_wp2_with fail
      exact bodyPost_ret (v := .agg #[.int .i64 x1, .int .i64 (x7 - 1), .int .i64 (1 + x3)]) (by simp [results, Try.results111, go_sem, *]) rfl ⟨⟨x1, x7 - 1, 1 + x3⟩, rfl, ((((R_w7.out.set (by omega) _ _).set (by omega) _ _).set (by omega) _ _).set (by omega) _ _).mono (by omega), (gr_set (gr_set (gr_set (gr_set (G_w7.out) (by omega) _ _) (by omega) _ _) (by omega) _ _) (by omega) _ _)⟩
    · have bh6 : (x4 == 1) = false := by simp [h6]
      clear h6
      by_cases h7 : x4 = 2
      · have bh7 : (x4 == 2) = true := by simp [h7]
        clear h7
        go_wp2_with fail
        refine (s_l91Digest _ B r _ R_w4.out (by omega)).mono ?_
        rintro e w8 ⟨x8, rfl, hx8, hl8, hr8, hg8⟩
        clear c_o0
        clear f_o0
        clear c_o1
        clear f_o1
        clear c_o2
        clear f_o2
        clear c_t0
        clear f_t0
        clear c_t1
        clear f_t1
        clear c_t2
        clear f_t2
        have b_o : Box w8 (w.heap.size) 35 #[.int .i64 0, .int .i64 0, .int .i64 0] := by have := (B_o.out).grown hg8 (fun k hk => by injection hk; omega); simpa using this
        have b_t : Box w8 (w3.heap.size) 35 #[.int .i64 x1, .int .i64 x2, .int .i64 (1 + x3)] := by have := (B_t.out).grown hg8 (fun k hk => by injection hk; omega); simpa using this
        have g_w8 := (G_w4.out).trans hg8
        have B_o := Lib.hid b_o
        have lt_o_w8 := b_o.lt
        clear b_o
        have B_t := Lib.hid b_t
        have lt_t_w8 := b_t.lt
        clear b_t
        have G_w8 := Lib.hid g_w8
        have sz_w8 := g_w8.size
        have R_w8 := Lib.hid hr8
        clear g_w8 hg8 hr8
        have c_o0 := B_o.out.cell (j := 0) (u := .int .i64 0) rfl
        have f_o0 := B_o.out.free 0
        have c_o1 := B_o.out.cell (j := 1) (u := .int .i64 0) rfl
        have f_o1 := B_o.out.free 1
        have c_o2 := B_o.out.cell (j := 2) (u := .int .i64 0) rfl
        have f_o2 := B_o.out.free 2
        have c_t0 := B_t.out.cell (j := 0) (u := .int .i64 x1) rfl
        have f_t0 := B_t.out.free 0
        have c_t1 := B_t.out.cell (j := 1) (u := .int .i64 x2) rfl
        have f_t1 := B_t.out.free 1
        have c_t2 := B_t.out.cell (j := 2) (u := .int .i64 (1 + x3)) rfl
        have f_t2 := B_t.out.free 2
        go_wp2_with fail
        exact bodyPost_ret (v := .agg #[.int .i64 x1, .int .i64 x2, .int .i64 x8]) (by simp [results, Try.results111, go_sem, *]) rfl ⟨⟨x1, x2, x8⟩, rfl, ((((R_w8.out.set (by omega) _ _).set (by omega) _ _).set (by omega) _ _).set (by omega) _ _).mono (by omega), (gr_set (gr_set (gr_set (gr_set (G_w8.out) (by omega) _ _) (by omega) _ _) (by omega) _ _) (by omega) _ _)⟩
      · have bh7 : (x4 == 2) = false := by simp [h7]
        clear h7
        go_wp2_with fail
        exact bodyPost_ret (v := .agg #[.int .i64 x1, .int .i64 x2, .int .i64 (1 + x3)]) (by simp [results, Try.results111, go_sem, *]) rfl ⟨⟨x1, x2, 1 + x3⟩, rfl, (((R_w4.out.set (by omega) _ _).set (by omega) _ _).set (by omega) _ _).mono (by omega), (gr_set (gr_set (gr_set (G_w4.out) (by omega) _ _) (by omega) _ _) (by omega) _ _)⟩
end Go.Proofs.Ytohnodphlaoohaa
