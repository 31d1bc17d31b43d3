/- What the laws draw, further: transactions, receipts. -/
import Derived.Test.YtohnodphlaoohaaDraw5
namespace Go.Proofs.Ytohnodphlaoohaa
open Go.RowKit
set_option linter.unusedVariables false

/-- A transaction was drawn; nothing has turned but the reader. -/
def DrawnTxn (w : World) (B r P : Nat) (e : Ending) (w' : World) : Prop :=
  ∃ f t s x : Int, e = .returned (.agg #[.int .i64 f, .int .i64 t, .int .i64 s, .int .i64 x]) ∧ RdAt w' B r P ∧ w.grownBy w' (some r)
set_option maxHeartbeats 4000000 in
theorem s_l92Txn (w : World) (B r P : Nat) (h : RdAt w B r P) (hP : P ≤ 900000) :
    Calls Try.prog 94 #[.pointer (some ⟨r, 0, none⟩)] w (DrawnTxn w B r (P + 6)) := by
  have hrl := h.lt
  have H := Lib.hid h
  clear h
  go_enter Try.func94, Try.ntmps94
  go_wp2_with fail
  refine (pick_any _ B r _ 6 (H.out.carry (allocB _ _)) (by omega)).mono ?_
  rintro e w1 ⟨x1, rfl, hx1, _, hn1, hr1, hg1, hs1⟩
  have hl1 := hn1 (by omega)
  clear hn1 hs1
  have b_o : Box w1 (w.heap.size) 75 #[.int .i64 0, .int .i64 0, .int .i64 0, .int .i64 0] := by have := ((Box.new _ _ _)).grown hg1 (fun k hk => by injection hk; omega); simpa using this
  have g_w1 := (gr_alloc (gr_refl w r) _).trans hg1
  have B_o := Lib.hid b_o
  have lt_o_w1 := b_o.lt
  clear b_o
  have G_w1 := Lib.hid g_w1
  have sz_w1 := g_w1.size
  have R_w1 := Lib.hid hr1
  clear g_w1 hg1 hr1
  have c_o0 := B_o.out.cell (j := 0) (u := .int .i64 0) rfl
  have f_o0 := B_o.out.free 0
  have c_o1 := B_o.out.cell (j := 1) (u := .int .i64 0) rfl
  have f_o1 := B_o.out.free 1
  have c_o2 := B_o.out.cell (j := 2) (u := .int .i64 0) rfl
  have f_o2 := B_o.out.free 2
  have c_o3 := B_o.out.cell (j := 3) (u := .int .i64 0) rfl
  have f_o3 := B_o.out.free 3
  go_wp2_with fail
  refine (pick_any _ B r _ 6 R_w1.out (by omega)).mono ?_
  rintro e w2 ⟨x2, rfl, hx2, _, hn2, hr2, hg2, hs2⟩
  have hl2 := hn2 (by omega)
  clear hn2 hs2
  clear c_o0
  clear f_o0
  clear c_o1
  clear f_o1
  clear c_o2
  clear f_o2
  clear c_o3
  clear f_o3
  have b_o : Box w2 (w.heap.size) 75 #[.int .i64 0, .int .i64 0, .int .i64 0, .int .i64 0] := by have := (B_o.out).grown hg2 (fun k hk => by injection hk; omega); simpa using this
  have g_w2 := (G_w1.out).trans hg2
  have B_o := Lib.hid b_o
  have lt_o_w2 := b_o.lt
  clear b_o
  have G_w2 := Lib.hid g_w2
  have sz_w2 := g_w2.size
  have R_w2 := Lib.hid hr2
  clear g_w2 hg2 hr2
  have c_o0 := B_o.out.cell (j := 0) (u := .int .i64 0) rfl
  have f_o0 := B_o.out.free 0
  have c_o1 := B_o.out.cell (j := 1) (u := .int .i64 0) rfl
  have f_o1 := B_o.out.free 1
  have c_o2 := B_o.out.cell (j := 2) (u := .int .i64 0) rfl
  have f_o2 := B_o.out.free 2
  have c_o3 := B_o.out.cell (j := 3) (u := .int .i64 0) rfl
  have f_o3 := B_o.out.free 3
  go_wp2_with fail
  refine (pick_any _ B r _ 99 R_w2.out (by omega)).mono ?_
  rintro e w3 ⟨x3, rfl, hx3, _, hn3, hr3, hg3, hs3⟩
  have hl3 := hn3 (by omega)
  clear hn3 hs3
  clear c_o0
  clear f_o0
  clear c_o1
  clear f_o1
  clear c_o2
  clear f_o2
  clear c_o3
  clear f_o3
  have b_o : Box w3 (w.heap.size) 75 #[.int .i64 0, .int .i64 0, .int .i64 0, .int .i64 0] := by have := (B_o.out).grown hg3 (fun k hk => by injection hk; omega); simpa using this
  have g_w3 := (G_w2.out).trans hg3
  have B_o := Lib.hid b_o
  have lt_o_w3 := b_o.lt
  clear b_o
  have G_w3 := Lib.hid g_w3
  have sz_w3 := g_w3.size
  have R_w3 := Lib.hid hr3
  clear g_w3 hg3 hr3
  have c_o0 := B_o.out.cell (j := 0) (u := .int .i64 0) rfl
  have f_o0 := B_o.out.free 0
  have c_o1 := B_o.out.cell (j := 1) (u := .int .i64 0) rfl
  have f_o1 := B_o.out.free 1
  have c_o2 := B_o.out.cell (j := 2) (u := .int .i64 0) rfl
  have f_o2 := B_o.out.free 2
  have c_o3 := B_o.out.cell (j := 3) (u := .int .i64 0) rfl
  have f_o3 := B_o.out.free 3
  go_wp2_with fail
  refine (pick_any _ B r _ 10 R_w3.out (by omega)).mono ?_
  rintro e w4 ⟨x4, rfl, hx4, _, hn4, hr4, hg4, hs4⟩
  have hl4 := hn4 (by omega)
  clear hn4 hs4
  clear c_o0
  clear f_o0
  clear c_o1
  clear f_o1
  clear c_o2
  clear f_o2
  clear c_o3
  clear f_o3
  have b_o : Box w4 (w.heap.size) 75 #[.int .i64 0, .int .i64 0, .int .i64 0, .int .i64 0] := by have := (B_o.out).grown hg4 (fun k hk => by injection hk; omega); simpa using this
  have g_w4 := (G_w3.out).trans hg4
  have B_o := Lib.hid b_o
  have lt_o_w4 := b_o.lt
  clear b_o
  have G_w4 := Lib.hid g_w4
  have sz_w4 := g_w4.size
  have R_w4 := Lib.hid hr4
  clear g_w4 hg4 hr4
  have c_o0 := B_o.out.cell (j := 0) (u := .int .i64 0) rfl
  have f_o0 := B_o.out.free 0
  have c_o1 := B_o.out.cell (j := 1) (u := .int .i64 0) rfl
  have f_o1 := B_o.out.free 1
  have c_o2 := B_o.out.cell (j := 2) (u := .int .i64 0) rfl
  have f_o2 := B_o.out.free 2
  have c_o3 := B_o.out.cell (j := 3) (u := .int .i64 0) rfl
  have f_o3 := B_o.out.free 3
  by_cases h5 : x1 = x2
  · have bh5 : (x1 == x2) = true := by simp [h5]
    clear h5
    go_wp2_with fail
    refine (pick_any _ B r _ 30 (R_w4.out.carry (allocB _ _)) (by omega)).mono ?_
    rintro e w6 ⟨x6, rfl, hx6, _, hn6, hr6, hg6, hs6⟩
    have hl6 := hn6 (by omega)
    clear hn6 hs6
    clear c_o0
    clear f_o0
    clear c_o1
    clear f_o1
    clear c_o2
    clear f_o2
    clear c_o3
    clear f_o3
    have b_o : Box w6 (w.heap.size) 75 #[.int .i64 0, .int .i64 0, .int .i64 0, .int .i64 0] := by have := ((B_o.out.carry (allocB _ _))).grown hg6 (fun k hk => by injection hk; omega); simpa using this
    have b_t : Box w6 (w4.heap.size) 75 #[.int .i64 x1, .int .i64 ((x2 + 1) % 6), .int .i64 (1 + x3), .int .i64 x4] := by have := ((Box.new _ _ _)).grown hg6 (fun k hk => by injection hk; omega); simpa using this
    have g_w6 := (gr_alloc (G_w4.out) _).trans hg6
    have B_o := Lib.hid b_o
    have lt_o_w6 := b_o.lt
    clear b_o
    have B_t := Lib.hid b_t
    have lt_t_w6 := b_t.lt
    clear b_t
    have G_w6 := Lib.hid g_w6
    have sz_w6 := g_w6.size
    have R_w6 := Lib.hid hr6
    clear g_w6 hg6 hr6
    have c_o0 := B_o.out.cell (j := 0) (u := .int .i64 0) rfl
    have f_o0 := B_o.out.free 0
    have c_o1 := B_o.out.cell (j := 1) (u := .int .i64 0) rfl
    have f_o1 := B_o.out.free 1
    have c_o2 := B_o.out.cell (j := 2) (u := .int .i64 0) rfl
    have f_o2 := B_o.out.free 2
    have c_o3 := B_o.out.cell (j := 3) (u := .int .i64 0) rfl
    have f_o3 := B_o.out.free 3
    have c_t0 := B_t.out.cell (j := 0) (u := .int .i64 x1) rfl
    have f_t0 := B_t.out.free 0
    have c_t1 := B_t.out.cell (j := 1) (u := .int .i64 ((x2 + 1) % 6)) rfl
    have f_t1 := B_t.out.free 1
    have c_t2 := B_t.out.cell (j := 2) (u := .int .i64 (1 + x3)) rfl
    have f_t2 := B_t.out.free 2
    have c_t3 := B_t.out.cell (j := 3) (u := .int .i64 x4) rfl
    have f_t3 := B_t.out.free 3
    by_cases h7 : x6 = 0
    · have bh7 : (x6 == 0) = true := by simp [h7]
      clear h7
      go_wp2_with fail
      exact bodyPost_ret (v := .agg #[.int .i64 x1, .int .i64 x1, .int .i64 (1 + x3), .int .i64 x4]) (by simp [results, Try.results94, go_sem, *]) rfl ⟨x1, x1, 1 + x3, x4, rfl, (((((R_w6.out.set (by omega) _ _).set (by omega) _ _).set (by omega) _ _).set (by omega) _ _).set (by omega) _ _).mono (by omega), (gr_set (gr_set (gr_set (gr_set (gr_set (G_w6.out) (by omega) _ _) (by omega) _ _) (by omega) _ _) (by omega) _ _) (by omega) _ _)⟩
    · have bh7 : (x6 == 0) = false := by simp [h7]
      clear h7
      by_cases h8 : x6 = 1
      · have bh8 : (x6 == 1) = true := by simp [h8]
        clear h8
        go_wp2_with fail
        refine (pick_any _ B r _ 2 R_w6.out (by omega)).mono ?_
        rintro e w9 ⟨x9, rfl, hx9, _, hn9, hr9, hg9, hs9⟩
        have hl9 := hn9 (by omega)
        clear hn9 hs9
        clear c_o0
        clear f_o0
        clear c_o1
        clear f_o1
        clear c_o2
        clear f_o2
        clear c_o3
        clear f_o3
        clear c_t0
        clear f_t0
        clear c_t1
        clear f_t1
        clear c_t2
        clear f_t2
        clear c_t3
        clear f_t3
        have b_o : Box w9 (w.heap.size) 75 #[.int .i64 0, .int .i64 0, .int .i64 0, .int .i64 0] := by have := (B_o.out).grown hg9 (fun k hk => by injection hk; omega); simpa using this
        have b_t : Box w9 (w4.heap.size) 75 #[.int .i64 x1, .int .i64 ((x2 + 1) % 6), .int .i64 (1 + x3), .int .i64 x4] := by have := (B_t.out).grown hg9 (fun k hk => by injection hk; omega); simpa using this
        have g_w9 := (G_w6.out).trans hg9
        have B_o := Lib.hid b_o
        have lt_o_w9 := b_o.lt
        clear b_o
        have B_t := Lib.hid b_t
        have lt_t_w9 := b_t.lt
        clear b_t
        have G_w9 := Lib.hid g_w9
        have sz_w9 := g_w9.size
        have R_w9 := Lib.hid hr9
        clear g_w9 hg9 hr9
        have c_o0 := B_o.out.cell (j := 0) (u := .int .i64 0) rfl
        have f_o0 := B_o.out.free 0
        have c_o1 := B_o.out.cell (j := 1) (u := .int .i64 0) rfl
        have f_o1 := B_o.out.free 1
        have c_o2 := B_o.out.cell (j := 2) (u := .int .i64 0) rfl
        have f_o2 := B_o.out.free 2
        have c_o3 := B_o.out.cell (j := 3) (u := .int .i64 0) rfl
        have f_o3 := B_o.out.free 3
        have c_t0 := B_t.out.cell (j := 0) (u := .int .i64 x1) rfl
        have f_t0 := B_t.out.free 0
        have c_t1 := B_t.out.cell (j := 1) (u := .int .i64 ((x2 + 1) % 6)) rfl
        have f_t1 := B_t.out.free 1
        have c_t2 := B_t.out.cell (j := 2) (u := .int .i64 (1 + x3)) rfl
        have f_t2 := B_t.out.free 2
        have c_t3 := B_t.out.cell (j := 3) (u := .int .i64 x4) rfl
        have f_t3 := B_t.out.free 3
        go_wp2_with fail
        exact bodyPost_ret (v := .agg #[.int .i64 x1, .int .i64 ((x2 + 1) % 6), .int .i64 (x9 * 100), .int .i64 x4]) (by simp [results, Try.results94, go_sem, *]) rfl ⟨x1, (x2 + 1) % 6, x9 * 100, x4, rfl, (((((R_w9.out.set (by omega) _ _).set (by omega) _ _).set (by omega) _ _).set (by omega) _ _).set (by omega) _ _).mono (by omega), (gr_set (gr_set (gr_set (gr_set (gr_set (G_w9.out) (by omega) _ _) (by omega) _ _) (by omega) _ _) (by omega) _ _) (by omega) _ _)⟩
      · have bh8 : (x6 == 1) = false := by simp [h8]
        clear h8
        by_cases h9 : x6 = 2
        · have bh9 : (x6 == 2) = true := by simp [h9]
          clear h9
          go_wp2_with fail
          refine (pick_any _ B r _ 2 R_w6.out (by omega)).mono ?_
          rintro e w10 ⟨x10, rfl, hx10, _, hn10, hr10, hg10, hs10⟩
          have hl10 := hn10 (by omega)
          clear hn10 hs10
          clear c_o0
          clear f_o0
          clear c_o1
          clear f_o1
          clear c_o2
          clear f_o2
          clear c_o3
          clear f_o3
          clear c_t0
          clear f_t0
          clear c_t1
          clear f_t1
          clear c_t2
          clear f_t2
          clear c_t3
          clear f_t3
          have b_o : Box w10 (w.heap.size) 75 #[.int .i64 0, .int .i64 0, .int .i64 0, .int .i64 0] := by have := (B_o.out).grown hg10 (fun k hk => by injection hk; omega); simpa using this
          have b_t : Box w10 (w4.heap.size) 75 #[.int .i64 x1, .int .i64 ((x2 + 1) % 6), .int .i64 (1 + x3), .int .i64 x4] := by have := (B_t.out).grown hg10 (fun k hk => by injection hk; omega); simpa using this
          have g_w10 := (G_w6.out).trans hg10
          have B_o := Lib.hid b_o
          have lt_o_w10 := b_o.lt
          clear b_o
          have B_t := Lib.hid b_t
          have lt_t_w10 := b_t.lt
          clear b_t
          have G_w10 := Lib.hid g_w10
          have sz_w10 := g_w10.size
          have R_w10 := Lib.hid hr10
          clear g_w10 hg10 hr10
          have c_o0 := B_o.out.cell (j := 0) (u := .int .i64 0) rfl
          have f_o0 := B_o.out.free 0
          have c_o1 := B_o.out.cell (j := 1) (u := .int .i64 0) rfl
          have f_o1 := B_o.out.free 1
          have c_o2 := B_o.out.cell (j := 2) (u := .int .i64 0) rfl
          have f_o2 := B_o.out.free 2
          have c_o3 := B_o.out.cell (j := 3) (u := .int .i64 0) rfl
          have f_o3 := B_o.out.free 3
          have c_t0 := B_t.out.cell (j := 0) (u := .int .i64 x1) rfl
          have f_t0 := B_t.out.free 0
          have c_t1 := B_t.out.cell (j := 1) (u := .int .i64 ((x2 + 1) % 6)) rfl
          have f_t1 := B_t.out.free 1
          have c_t2 := B_t.out.cell (j := 2) (u := .int .i64 (1 + x3)) rfl
          have f_t2 := B_t.out.free 2
          have c_t3 := B_t.out.cell (j := 3) (u := .int .i64 x4) rfl
          have f_t3 := B_t.out.free 3
          go_wp2_with fail
          exact bodyPost_ret (v := .agg #[.int .i64 x1, .int .i64 ((x2 + 1) % 6), .int .i64 (1 + x3), .int .i64 (x10 * 11 - 1)]) (by simp [results, Try.results94, go_sem, *]) rfl ⟨x1, (x2 + 1) % 6, 1 + x3, x10 * 11 - 1, rfl, (((((R_w10.out.set (by omega) _ _).set (by omega) _ _).set (by omega) _ _).set (by omega) _ _).set (by omega) _ _).mono (by omega), (gr_set (gr_set (gr_set (gr_set (gr_set (G_w10.out) (by omega) _ _) (by omega) _ _) (by omega) _ _) (by omega) _ _) (by omega) _ _)⟩
        · have bh9 : (x6 == 2) = false := by simp [h9]
          clear h9
          by_cases h10 : x6 = 3
          · have bh10 : (x6 == 3) = true := by simp [h10]
            clear h10
            go_wp2_with fail
            refine (pick_any _ B r _ 2 R_w6.out (by omega)).mono ?_
            rintro e w11 ⟨x11, rfl, hx11, _, hn11, hr11, hg11, hs11⟩
            have hl11 := hn11 (by omega)
            clear hn11 hs11
            clear c_o0
            clear f_o0
            clear c_o1
            clear f_o1
            clear c_o2
            clear f_o2
            clear c_o3
            clear f_o3
            clear c_t0
            clear f_t0
            clear c_t1
            clear f_t1
            clear c_t2
            clear f_t2
            clear c_t3
            clear f_t3
            have b_o : Box w11 (w.heap.size) 75 #[.int .i64 0, .int .i64 0, .int .i64 0, .int .i64 0] := by have := (B_o.out).grown hg11 (fun k hk => by injection hk; omega); simpa using this
            have b_t : Box w11 (w4.heap.size) 75 #[.int .i64 x1, .int .i64 ((x2 + 1) % 6), .int .i64 (1 + x3), .int .i64 x4] := by have := (B_t.out).grown hg11 (fun k hk => by injection hk; omega); simpa using this
            have g_w11 := (G_w6.out).trans hg11
            have B_o := Lib.hid b_o
            have lt_o_w11 := b_o.lt
            clear b_o
            have B_t := Lib.hid b_t
            have lt_t_w11 := b_t.lt
            clear b_t
            have G_w11 := Lib.hid g_w11
            have sz_w11 := g_w11.size
            have R_w11 := Lib.hid hr11
            clear g_w11 hg11 hr11
            have c_o0 := B_o.out.cell (j := 0) (u := .int .i64 0) rfl
            have f_o0 := B_o.out.free 0
            have c_o1 := B_o.out.cell (j := 1) (u := .int .i64 0) rfl
            have f_o1 := B_o.out.free 1
            have c_o2 := B_o.out.cell (j := 2) (u := .int .i64 0) rfl
            have f_o2 := B_o.out.free 2
            have c_o3 := B_o.out.cell (j := 3) (u := .int .i64 0) rfl
            have f_o3 := B_o.out.free 3
            have c_t0 := B_t.out.cell (j := 0) (u := .int .i64 x1) rfl
            have f_t0 := B_t.out.free 0
            have c_t1 := B_t.out.cell (j := 1) (u := .int .i64 ((x2 + 1) % 6)) rfl
            have f_t1 := B_t.out.free 1
            have c_t2 := B_t.out.cell (j := 2) (u := .int .i64 (1 + x3)) rfl
            have f_t2 := B_t.out.free 2
            have c_t3 := B_t.out.cell (j := 3) (u := .int .i64 x4) rfl
            have f_t3 := B_t.out.free 3
            go_wp2_with fail
            exact bodyPost_ret (v := .agg #[.int .i64 (x11 * 7 - 1), .int .i64 ((x2 + 1) % 6), .int .i64 (1 + x3), .int .i64 x4]) (by simp [results, Try.results94, go_sem, *]) rfl ⟨x11 * 7 - 1, (x2 + 1) % 6, 1 + x3, x4, rfl, (((((R_w11.out.set (by omega) _ _).set (by omega) _ _).set (by omega) _ _).set (by omega) _ _).set (by omega) _ _).mono (by omega), (gr_set (gr_set (gr_set (gr_set (gr_set (G_w11.out) (by omega) _ _) (by omega) _ _) (by omega) _ _) (by omega) _ _) (by omega) _ _)⟩
          · have bh10 : (x6 == 3) = false := by simp [h10]
            clear h10
            go_wp2_with fail
            exact bodyPost_ret (v := .agg #[.int .i64 x1, .int .i64 ((x2 + 1) % 6), .int .i64 (1 + x3), .int .i64 x4]) (by simp [results, Try.results94, go_sem, *]) rfl ⟨x1, (x2 + 1) % 6, 1 + x3, x4, rfl, ((((R_w6.out.set (by omega) _ _).set (by omega) _ _).set (by omega) _ _).set (by omega) _ _).mono (by omega), (gr_set (gr_set (gr_set (gr_set (G_w6.out) (by omega) _ _) (by omega) _ _) (by omega) _ _) (by omega) _ _)⟩
  · have bh5 : (x1 == x2) = false := by simp [h5]
    clear h5
    go_wp2_with fail
    refine (pick_any _ B r _ 30 (R_w4.out.carry (allocB _ _)) (by omega)).mono ?_
    rintro e w6 ⟨x6, rfl, hx6, _, hn6, hr6, hg6, hs6⟩
    have hl6 := hn6 (by omega)
    clear hn6 hs6
    clear c_o0
    clear f_o0
    clear c_o1
    clear f_o1
    clear c_o2
    clear f_o2
    clear c_o3
    clear f_o3
    have b_o : Box w6 (w.heap.size) 75 #[.int .i64 0, .int .i64 0, .int .i64 0, .int .i64 0] := by have := ((B_o.out.carry (allocB _ _))).grown hg6 (fun k hk => by injection hk; omega); simpa using this
    have b_t : Box w6 (w4.heap.size) 75 #[.int .i64 x1, .int .i64 x2, .int .i64 (1 + x3), .int .i64 x4] := by have := ((Box.new _ _ _)).grown hg6 (fun k hk => by injection hk; omega); simpa using this
    have g_w6 := (gr_alloc (G_w4.out) _).trans hg6
    have B_o := Lib.hid b_o
    have lt_o_w6 := b_o.lt
    clear b_o
    have B_t := Lib.hid b_t
    have lt_t_w6 := b_t.lt
    clear b_t
    have G_w6 := Lib.hid g_w6
    have sz_w6 := g_w6.size
    have R_w6 := Lib.hid hr6
    clear g_w6 hg6 hr6
    have c_o0 := B_o.out.cell (j := 0) (u := .int .i64 0) rfl
    have f_o0 := B_o.out.free 0
    have c_o1 := B_o.out.cell (j := 1) (u := .int .i64 0) rfl
    have f_o1 := B_o.out.free 1
    have c_o2 := B_o.out.cell (j := 2) (u := .int .i64 0) rfl
    have f_o2 := B_o.out.free 2
    have c_o3 := B_o.out.cell (j := 3) (u := .int .i64 0) rfl
    have f_o3 := B_o.out.free 3
    have c_t0 := B_t.out.cell (j := 0) (u := .int .i64 x1) rfl
    have f_t0 := B_t.out.free 0
    have c_t1 := B_t.out.cell (j := 1) (u := .int .i64 x2) rfl
    have f_t1 := B_t.out.free 1
    have c_t2 := B_t.out.cell (j := 2) (u := .int .i64 (1 + x3)) rfl
    have f_t2 := B_t.out.free 2
    have c_t3 := B_t.out.cell (j := 3) (u := .int .i64 x4) rfl
    have f_t3 := B_t.out.free 3
    by_cases h7 : x6 = 0
    · have bh7 : (x6 == 0) = true := by simp [h7]
      clear h7
      go_wp2_with fail
      exact bodyPost_ret (v := .agg #[.int .i64 x1, .int .i64 x1, .int .i64 (1 + x3), .int .i64 x4]) (by simp [results, Try.results94, go_sem, *]) rfl ⟨x1, x1, 1 + x3, x4, rfl, (((((R_w6.out.set (by omega) _ _).set (by omega) _ _).set (by omega) _ _).set (by omega) _ _).set (by omega) _ _).mono (by omega), (gr_set (gr_set (gr_set (gr_set (gr_set (G_w6.out) (by omega) _ _) (by omega) _ _) (by omega) _ _) (by omega) _ _) (by omega) _ _)⟩
    · have bh7 : (x6 == 0) = false := by simp [h7]
      clear h7
      by_cases h8 : x6 = 1
      · have bh8 : (x6 == 1) = true := by simp [h8]
        clear h8
        go_wp2_with fail
        refine (pick_any _ B r _ 2 R_w6.out (by omega)).mono ?_
        rintro e w9 ⟨x9, rfl, hx9, _, hn9, hr9, hg9, hs9⟩
        have hl9 := hn9 (by omega)
        clear hn9 hs9
        clear c_o0
        clear f_o0
        clear c_o1
        clear f_o1
        clear c_o2
        clear f_o2
        clear c_o3
        clear f_o3
        clear c_t0
        clear f_t0
        clear c_t1
        clear f_t1
        clear c_t2
        clear f_t2
        clear c_t3
        clear f_t3
        have b_o : Box w9 (w.heap.size) 75 #[.int .i64 0, .int .i64 0, .int .i64 0, .int .i64 0] := by have := (B_o.out).grown hg9 (fun k hk => by injection hk; omega); simpa using this
        have b_t : Box w9 (w4.heap.size) 75 #[.int .i64 x1, .int .i64 x2, .int .i64 (1 + x3), .int .i64 x4] := by have := (B_t.out).grown hg9 (fun k hk => by injection hk; omega); simpa using this
        have g_w9 := (G_w6.out).trans hg9
        have B_o := Lib.hid b_o
        have lt_o_w9 := b_o.lt
        clear b_o
        have B_t := Lib.hid b_t
        have lt_t_w9 := b_t.lt
        clear b_t
        have G_w9 := Lib.hid g_w9
        have sz_w9 := g_w9.size
        have R_w9 := Lib.hid hr9
        clear g_w9 hg9 hr9
        have c_o0 := B_o.out.cell (j := 0) (u := .int .i64 0) rfl
        have f_o0 := B_o.out.free 0
        have c_o1 := B_o.out.cell (j := 1) (u := .int .i64 0) rfl
        have f_o1 := B_o.out.free 1
        have c_o2 := B_o.out.cell (j := 2) (u := .int .i64 0) rfl
        have f_o2 := B_o.out.free 2
        have c_o3 := B_o.out.cell (j := 3) (u := .int .i64 0) rfl
        have f_o3 := B_o.out.free 3
        have c_t0 := B_t.out.cell (j := 0) (u := .int .i64 x1) rfl
        have f_t0 := B_t.out.free 0
        have c_t1 := B_t.out.cell (j := 1) (u := .int .i64 x2) rfl
        have f_t1 := B_t.out.free 1
        have c_t2 := B_t.out.cell (j := 2) (u := .int .i64 (1 + x3)) rfl
        have f_t2 := B_t.out.free 2
        have c_t3 := B_t.out.cell (j := 3) (u := .int .i64 x4) rfl
        have f_t3 := B_t.out.free 3
        go_wp2_with fail
        exact bodyPost_ret (v := .agg #[.int .i64 x1, .int .i64 x2, .int .i64 (x9 * 100), .int .i64 x4]) (by simp [results, Try.results94, go_sem, *]) rfl ⟨x1, x2, x9 * 100, x4, rfl, (((((R_w9.out.set (by omega) _ _).set (by omega) _ _).set (by omega) _ _).set (by omega) _ _).set (by omega) _ _).mono (by omega), (gr_set (gr_set (gr_set (gr_set (gr_set (G_w9.out) (by omega) _ _) (by omega) _ _) (by omega) _ _) (by omega) _ _) (by omega) _ _)⟩
      · have bh8 : (x6 == 1) = false := by simp [h8]
        clear h8
        by_cases h9 : x6 = 2
        · have bh9 : (x6 == 2) = true := by simp [h9]
          clear h9
          go_wp2_with fail
          refine (pick_any _ B r _ 2 R_w6.out (by omega)).mono ?_
          rintro e w10 ⟨x10, rfl, hx10, _, hn10, hr10, hg10, hs10⟩
          have hl10 := hn10 (by omega)
          clear hn10 hs10
          clear c_o0
          clear f_o0
          clear c_o1
          clear f_o1
          clear c_o2
          clear f_o2
          clear c_o3
          clear f_o3
          clear c_t0
          clear f_t0
          clear c_t1
          clear f_t1
          clear c_t2
          clear f_t2
          clear c_t3
          clear f_t3
          have b_o : Box w10 (w.heap.size) 75 #[.int .i64 0, .int .i64 0, .int .i64 0, .int .i64 0] := by have := (B_o.out).grown hg10 (fun k hk => by injection hk; omega); simpa using this
          have b_t : Box w10 (w4.heap.size) 75 #[.int .i64 x1, .int .i64 x2, .int .i64 (1 + x3), .int .i64 x4] := by have := (B_t.out).grown hg10 (fun k hk => by injection hk; omega); simpa using this
          have g_w10 := (G_w6.out).trans hg10
          have B_o := Lib.hid b_o
          have lt_o_w10 := b_o.lt
          clear b_o
          have B_t := Lib.hid b_t
          have lt_t_w10 := b_t.lt
          clear b_t
          have G_w10 := Lib.hid g_w10
          have sz_w10 := g_w10.size
          have R_w10 := Lib.hid hr10
          clear g_w10 hg10 hr10
          have c_o0 := B_o.out.cell (j := 0) (u := .int .i64 0) rfl
          have f_o0 := B_o.out.free 0
          have c_o1 := B_o.out.cell (j := 1) (u := .int .i64 0) rfl
          have f_o1 := B_o.out.free 1
          have c_o2 := B_o.out.cell (j := 2) (u := .int .i64 0) rfl
          have f_o2 := B_o.out.free 2
          have c_o3 := B_o.out.cell (j := 3) (u := .int .i64 0) rfl
          have f_o3 := B_o.out.free 3
          have c_t0 := B_t.out.cell (j := 0) (u := .int .i64 x1) rfl
          have f_t0 := B_t.out.free 0
          have c_t1 := B_t.out.cell (j := 1) (u := .int .i64 x2) rfl
          have f_t1 := B_t.out.free 1
          have c_t2 := B_t.out.cell (j := 2) (u := .int .i64 (1 + x3)) rfl
          have f_t2 := B_t.out.free 2
          have c_t3 := B_t.out.cell (j := 3) (u := .int .i64 x4) rfl
          have f_t3 := B_t.out.free 3
          go_wp2_with fail
          exact bodyPost_ret (v := .agg #[.int .i64 x1, .int .i64 x2, .int .i64 (1 + x3), .int .i64 (x10 * 11 - 1)]) (by simp [results, Try.results94, go_sem, *]) rfl ⟨x1, x2, 1 + x3, x10 * 11 - 1, rfl, (((((R_w10.out.set (by omega) _ _).set (by omega) _ _).set (by omega) _ _).set (by omega) _ _).set (by omega) _ _).mono (by omega), (gr_set (gr_set (gr_set (gr_set (gr_set (G_w10.out) (by omega) _ _) (by omega) _ _) (by omega) _ _) (by omega) _ _) (by omega) _ _)⟩
        · have bh9 : (x6 == 2) = false := by simp [h9]
          clear h9
          by_cases h10 : x6 = 3
          · have bh10 : (x6 == 3) = true := by simp [h10]
            clear h10
            go_wp2_with fail
            refine (pick_any _ B r _ 2 R_w6.out (by omega)).mono ?_
            rintro e w11 ⟨x11, rfl, hx11, _, hn11, hr11, hg11, hs11⟩
            have hl11 := hn11 (by omega)
            clear hn11 hs11
            clear c_o0
            clear f_o0
            clear c_o1
            clear f_o1
            clear c_o2
            clear f_o2
            clear c_o3
            clear f_o3
            clear c_t0
            clear f_t0
            clear c_t1
            clear f_t1
            clear c_t2
            clear f_t2
            clear c_t3
            clear f_t3
            have b_o : Box w11 (w.heap.size) 75 #[.int .i64 0, .int .i64 0, .int .i64 0, .int .i64 0] := by have := (B_o.out).grown hg11 (fun k hk => by injection hk; omega); simpa using this
            have b_t : Box w11 (w4.heap.size) 75 #[.int .i64 x1, .int .i64 x2, .int .i64 (1 + x3), .int .i64 x4] := by have := (B_t.out).grown hg11 (fun k hk => by injection hk; omega); simpa using this
            have g_w11 := (G_w6.out).trans hg11
            have B_o := Lib.hid b_o
            have lt_o_w11 := b_o.lt
            clear b_o
            have B_t := Lib.hid b_t
            have lt_t_w11 := b_t.lt
            clear b_t
            have G_w11 := Lib.hid g_w11
            have sz_w11 := g_w11.size
            have R_w11 := Lib.hid hr11
            clear g_w11 hg11 hr11
            have c_o0 := B_o.out.cell (j := 0) (u := .int .i64 0) rfl
            have f_o0 := B_o.out.free 0
            have c_o1 := B_o.out.cell (j := 1) (u := .int .i64 0) rfl
            have f_o1 := B_o.out.free 1
            have c_o2 := B_o.out.cell (j := 2) (u := .int .i64 0) rfl
            have f_o2 := B_o.out.free 2
            have c_o3 := B_o.out.cell (j := 3) (u := .int .i64 0) rfl
            have f_o3 := B_o.out.free 3
            have c_t0 := B_t.out.cell (j := 0) (u := .int .i64 x1) rfl
            have f_t0 := B_t.out.free 0
            have c_t1 := B_t.out.cell (j := 1) (u := .int .i64 x2) rfl
            have f_t1 := B_t.out.free 1
            have c_t2 := B_t.out.cell (j := 2) (u := .int .i64 (1 + x3)) rfl
            have f_t2 := B_t.out.free 2
            have c_t3 := B_t.out.cell (j := 3) (u := .int .i64 x4) rfl
            have f_t3 := B_t.out.free 3
            go_wp2_with fail
            exact bodyPost_ret (v := .agg #[.int .i64 (x11 * 7 - 1), .int .i64 x2, .int .i64 (1 + x3), .int .i64 x4]) (by simp [results, Try.results94, go_sem, *]) rfl ⟨x11 * 7 - 1, x2, 1 + x3, x4, rfl, (((((R_w11.out.set (by omega) _ _).set (by omega) _ _).set (by omega) _ _).set (by omega) _ _).set (by omega) _ _).mono (by omega), (gr_set (gr_set (gr_set (gr_set (gr_set (G_w11.out) (by omega) _ _) (by omega) _ _) (by omega) _ _) (by omega) _ _) (by omega) _ _)⟩
          · have bh10 : (x6 == 3) = false := by simp [h10]
            clear h10
            go_wp2_with fail
            exact bodyPost_ret (v := .agg #[.int .i64 x1, .int .i64 x2, .int .i64 (1 + x3), .int .i64 x4]) (by simp [results, Try.results94, go_sem, *]) rfl ⟨x1, x2, 1 + x3, x4, rfl, ((((R_w6.out.set (by omega) _ _).set (by omega) _ _).set (by omega) _ _).set (by omega) _ _).mono (by omega), (gr_set (gr_set (gr_set (gr_set (G_w6.out) (by omega) _ _) (by omega) _ _) (by omega) _ _) (by omega) _ _)⟩

/-- A receipt was drawn; nothing has turned but the reader. -/
def DrawnRcpt (w : World) (B r P : Nat) (e : Ending) (w' : World) : Prop :=
  ∃ (i : Int) (b : Bool) (d : Int), e = .returned (.agg #[.int .i64 i, .bool b, .int .i64 d]) ∧ RdAt w' B r P ∧ w.grownBy w' (some r)
set_option maxHeartbeats 4000000 in
theorem s_l92Receipt (w : World) (B r P : Nat) (h : RdAt w B r P) (hP : P ≤ 900000) :
    Calls Try.prog 95 #[.pointer (some ⟨r, 0, none⟩)] w (DrawnRcpt w B r (P + 8)) := by
  have hrl := h.lt
  have H := Lib.hid h
  clear h
  go_enter Try.func95, Try.ntmps95
  go_wp2_with fail
  refine (pick_any _ B r _ 16 (H.out.carry (allocB _ _)) (by omega)).mono ?_
  rintro e w1 ⟨x1, rfl, hx1, _, hn1, hr1, hg1, hs1⟩
  have hl1 := hn1 (by omega)
  clear hn1 hs1
  have b_o : Box w1 (w.heap.size) 80 #[.int .i64 0, .bool false, .int .i64 0] := by have := ((Box.new _ _ _)).grown hg1 (fun k hk => by injection hk; omega); simpa using this
  have g_w1 := (gr_alloc (gr_refl w r) _).trans hg1
  have B_o := Lib.hid b_o
  have lt_o_w1 := b_o.lt
  clear b_o
  have G_w1 := Lib.hid g_w1
  have sz_w1 := g_w1.size
  have R_w1 := Lib.hid hr1
  clear g_w1 hg1 hr1
  have c_o0 := B_o.out.cell (j := 0) (u := .int .i64 0) rfl
  have f_o0 := B_o.out.free 0
  have c_o1 := B_o.out.cell (j := 1) (u := .bool false) rfl
  have f_o1 := B_o.out.free 1
  have c_o2 := B_o.out.cell (j := 2) (u := .int .i64 0) rfl
  have f_o2 := B_o.out.free 2
  go_wp2_with fail
  refine (pick_any _ B r _ 2 R_w1.out (by omega)).mono ?_
  rintro e w2 ⟨x2, rfl, hx2, _, hn2, hr2, hg2, hs2⟩
  have hl2 := hn2 (by omega)
  clear hn2 hs2
  clear c_o0
  clear f_o0
  clear c_o1
  clear f_o1
  clear c_o2
  clear f_o2
  have b_o : Box w2 (w.heap.size) 80 #[.int .i64 0, .bool false, .int .i64 0] := by have := (B_o.out).grown hg2 (fun k hk => by injection hk; omega); simpa using this
  have g_w2 := (G_w1.out).trans hg2
  have B_o := Lib.hid b_o
  have lt_o_w2 := b_o.lt
  clear b_o
  have G_w2 := Lib.hid g_w2
  have sz_w2 := g_w2.size
  have R_w2 := Lib.hid hr2
  clear g_w2 hg2 hr2
  have c_o0 := B_o.out.cell (j := 0) (u := .int .i64 0) rfl
  have f_o0 := B_o.out.free 0
  have c_o1 := B_o.out.cell (j := 1) (u := .bool false) rfl
  have f_o1 := B_o.out.free 1
  have c_o2 := B_o.out.cell (j := 2) (u := .int .i64 0) rfl
  have f_o2 := B_o.out.free 2
  by_cases h3 : x2 = 0
  · have bh3 : (x2 == 0) = true := by simp [h3]
    clear h3
    go_wp2_with fail
    refine (s_l91Digest _ B r _ R_w2.out (by omega)).mono ?_
    rintro e w4 ⟨x4, rfl, hx4, hl4, hr4, hg4⟩
    clear c_o0
    clear f_o0
    clear c_o1
    clear f_o1
    clear c_o2
    clear f_o2
    have b_o : Box w4 (w.heap.size) 80 #[.int .i64 0, .bool false, .int .i64 0] := by have := (B_o.out).grown hg4 (fun k hk => by injection hk; omega); simpa using this
    have g_w4 := (G_w2.out).trans hg4
    have B_o := Lib.hid b_o
    have lt_o_w4 := b_o.lt
    clear b_o
    have G_w4 := Lib.hid g_w4
    have sz_w4 := g_w4.size
    have R_w4 := Lib.hid hr4
    clear g_w4 hg4 hr4
    have c_o0 := B_o.out.cell (j := 0) (u := .int .i64 0) rfl
    have f_o0 := B_o.out.free 0
    have c_o1 := B_o.out.cell (j := 1) (u := .bool false) rfl
    have f_o1 := B_o.out.free 1
    have c_o2 := B_o.out.cell (j := 2) (u := .int .i64 0) rfl
    have f_o2 := B_o.out.free 2
    go_wp2_with fail
    refine (pick_any _ B r _ 16 (R_w4.out.carry (allocB _ _)) (by omega)).mono ?_
    rintro e w5 ⟨x5, rfl, hx5, _, hn5, hr5, hg5, hs5⟩
    have hl5 := hn5 (by omega)
    clear hn5 hs5
    clear c_o0
    clear f_o0
    clear c_o1
    clear f_o1
    clear c_o2
    clear f_o2
    have b_o : Box w5 (w.heap.size) 80 #[.int .i64 0, .bool false, .int .i64 0] := by have := ((B_o.out.carry (allocB _ _))).grown hg5 (fun k hk => by injection hk; omega); simpa using this
    have b_t : Box w5 (w4.heap.size) 80 #[.int .i64 x1, .bool true, .int .i64 x4] := by have := ((Box.new _ _ _)).grown hg5 (fun k hk => by injection hk; omega); simpa using this
    have g_w5 := (gr_alloc (G_w4.out) _).trans hg5
    have B_o := Lib.hid b_o
    have lt_o_w5 := b_o.lt
    clear b_o
    have B_t := Lib.hid b_t
    have lt_t_w5 := b_t.lt
    clear b_t
    have G_w5 := Lib.hid g_w5
    have sz_w5 := g_w5.size
    have R_w5 := Lib.hid hr5
    clear g_w5 hg5 hr5
    have c_o0 := B_o.out.cell (j := 0) (u := .int .i64 0) rfl
    have f_o0 := B_o.out.free 0
    have c_o1 := B_o.out.cell (j := 1) (u := .bool false) rfl
    have f_o1 := B_o.out.free 1
    have c_o2 := B_o.out.cell (j := 2) (u := .int .i64 0) rfl
    have f_o2 := B_o.out.free 2
    have c_t0 := B_t.out.cell (j := 0) (u := .int .i64 x1) rfl
    have f_t0 := B_t.out.free 0
    have c_t1 := B_t.out.cell (j := 1) (u := .bool true) rfl
    have f_t1 := B_t.out.free 1
    have c_t2 := B_t.out.cell (j := 2) (u := .int .i64 x4) rfl
    have f_t2 := B_t.out.free 2
    by_cases h6 : x5 = 0
    · have bh6 : (x5 == 0) = true := by simp [h6]
      clear h6
      go_wp2_with fail
      refine (pick_any _ B r _ 2 R_w5.out (by omega)).mono ?_
      rintro e w7 ⟨x7, rfl, hx7, _, hn7, hr7, hg7, hs7⟩
      have hl7 := hn7 (by omega)
      clear hn7 hs7
      clear c_o0
      clear f_o0
      clear c_o1
      clear f_o1
      clear c_o2
      clear f_o2
      clear c_t0
      clear f_t0
      clear c_t1
      clear f_t1
      clear c_t2
      clear f_t2
      have b_o : Box w7 (w.heap.size) 80 #[.int .i64 0, .bool false, .int .i64 0] := by have := (B_o.out).grown hg7 (fun k hk => by injection hk; omega); simpa using this
      have b_t : Box w7 (w4.heap.size) 80 #[.int .i64 x1, .bool true, .int .i64 x4] := by have := (B_t.out).grown hg7 (fun k hk => by injection hk; omega); simpa using this
      have g_w7 := (G_w5.out).trans hg7
      have B_o := Lib.hid b_o
      have lt_o_w7 := b_o.lt
      clear b_o
      have B_t := Lib.hid b_t
      have lt_t_w7 := b_t.lt
      clear b_t
      have G_w7 := Lib.hid g_w7
      have sz_w7 := g_w7.size
      have R_w7 := Lib.hid hr7
      clear g_w7 hg7 hr7
      have c_o0 := B_o.out.cell (j := 0) (u := .int .i64 0) rfl
      have f_o0 := B_o.out.free 0
      have c_o1 := B_o.out.cell (j := 1) (u := .bool false) rfl
      have f_o1 := B_o.out.free 1
      have c_o2 := B_o.out.cell (j := 2) (u := .int .i64 0) rfl
      have f_o2 := B_o.out.free 2
      have c_t0 := B_t.out.cell (j := 0) (u := .int .i64 x1) rfl
      have f_t0 := B_t.out.free 0
      have c_t1 := B_t.out.cell (j := 1) (u := .bool true) rfl
      have f_t1 := B_t.out.free 1
      have c_t2 := B_t.out.cell (j := 2) (u := .int .i64 x4) rfl
      have f_t2 := B_t.out.free 2
      go_wp2_with fail
      exact bodyPost_ret (v := .agg #[.int .i64 (x7 * 17 - 1), .bool true, .int .i64 x4]) (by simp [results, Try.results95, go_sem, *]) rfl ⟨x7 * 17 - 1, true, x4, rfl, ((((R_w7.out.set (by omega) _ _).set (by omega) _ _).set (by omega) _ _).set (by omega) _ _).mono (by omega), (gr_set (gr_set (gr_set (gr_set (G_w7.out) (by omega) _ _) (by omega) _ _) (by omega) _ _) (by omega) _ _)⟩
    · have bh6 : (x5 == 0) = false := by simp [h6]
      clear h6
      go_wp2_with fail
      exact bodyPost_ret (v := .agg #[.int .i64 x1, .bool true, .int .i64 x4]) (by simp [results, Try.results95, go_sem, *]) rfl ⟨x1, true, x4, rfl, (((R_w5.out.set (by omega) _ _).set (by omega) _ _).set (by omega) _ _).mono (by omega), (gr_set (gr_set (gr_set (G_w5.out) (by omega) _ _) (by omega) _ _) (by omega) _ _)⟩
  · have bh3 : (x2 == 0) = false := by simp [h3]
    clear h3
    go_wp2_with fail
    refine (s_l91Digest _ B r _ R_w2.out (by omega)).mono ?_
    rintro e w4 ⟨x4, rfl, hx4, hl4, hr4, hg4⟩
    clear c_o0
    clear f_o0
    clear c_o1
    clear f_o1
    clear c_o2
    clear f_o2
    have b_o : Box w4 (w.heap.size) 80 #[.int .i64 0, .bool false, .int .i64 0] := by have := (B_o.out).grown hg4 (fun k hk => by injection hk; omega); simpa using this
    have g_w4 := (G_w2.out).trans hg4
    have B_o := Lib.hid b_o
    have lt_o_w4 := b_o.lt
    clear b_o
    have G_w4 := Lib.hid g_w4
    have sz_w4 := g_w4.size
    have R_w4 := Lib.hid hr4
    clear g_w4 hg4 hr4
    have c_o0 := B_o.out.cell (j := 0) (u := .int .i64 0) rfl
    have f_o0 := B_o.out.free 0
    have c_o1 := B_o.out.cell (j := 1) (u := .bool false) rfl
    have f_o1 := B_o.out.free 1
    have c_o2 := B_o.out.cell (j := 2) (u := .int .i64 0) rfl
    have f_o2 := B_o.out.free 2
    go_wp2_with fail
    refine (pick_any _ B r _ 16 (R_w4.out.carry (allocB _ _)) (by omega)).mono ?_
    rintro e w5 ⟨x5, rfl, hx5, _, hn5, hr5, hg5, hs5⟩
    have hl5 := hn5 (by omega)
    clear hn5 hs5
    clear c_o0
    clear f_o0
    clear c_o1
    clear f_o1
    clear c_o2
    clear f_o2
    have b_o : Box w5 (w.heap.size) 80 #[.int .i64 0, .bool false, .int .i64 0] := by have := ((B_o.out.carry (allocB _ _))).grown hg5 (fun k hk => by injection hk; omega); simpa using this
    have b_t : Box w5 (w4.heap.size) 80 #[.int .i64 x1, .bool false, .int .i64 x4] := by have := ((Box.new _ _ _)).grown hg5 (fun k hk => by injection hk; omega); simpa using this
    have g_w5 := (gr_alloc (G_w4.out) _).trans hg5
    have B_o := Lib.hid b_o
    have lt_o_w5 := b_o.lt
    clear b_o
    have B_t := Lib.hid b_t
    have lt_t_w5 := b_t.lt
    clear b_t
    have G_w5 := Lib.hid g_w5
    have sz_w5 := g_w5.size
    have R_w5 := Lib.hid hr5
    clear g_w5 hg5 hr5
    have c_o0 := B_o.out.cell (j := 0) (u := .int .i64 0) rfl
    have f_o0 := B_o.out.free 0
    have c_o1 := B_o.out.cell (j := 1) (u := .bool false) rfl
    have f_o1 := B_o.out.free 1
    have c_o2 := B_o.out.cell (j := 2) (u := .int .i64 0) rfl
    have f_o2 := B_o.out.free 2
    have c_t0 := B_t.out.cell (j := 0) (u := .int .i64 x1) rfl
    have f_t0 := B_t.out.free 0
    have c_t1 := B_t.out.cell (j := 1) (u := .bool false) rfl
    have f_t1 := B_t.out.free 1
    have c_t2 := B_t.out.cell (j := 2) (u := .int .i64 x4) rfl
    have f_t2 := B_t.out.free 2
    by_cases h6 : x5 = 0
    · have bh6 : (x5 == 0) = true := by simp [h6]
      clear h6
      go_wp2_with fail
      refine (pick_any _ B r _ 2 R_w5.out (by omega)).mono ?_
      rintro e w7 ⟨x7, rfl, hx7, _, hn7, hr7, hg7, hs7⟩
      have hl7 := hn7 (by omega)
      clear hn7 hs7
      clear c_o0
      clear f_o0
      clear c_o1
      clear f_o1
      clear c_o2
      clear f_o2
      clear c_t0
      clear f_t0
      clear c_t1
      clear f_t1
      clear c_t2
      clear f_t2
      have b_o : Box w7 (w.heap.size) 80 #[.int .i64 0, .bool false, .int .i64 0] := by have := (B_o.out).grown hg7 (fun k hk => by injection hk; omega); simpa using this
      have b_t : Box w7 (w4.heap.size) 80 #[.int .i64 x1, .bool false, .int .i64 x4] := by have := (B_t.out).grown hg7 (fun k hk => by injection hk; omega); simpa using this
      have g_w7 := (G_w5.out).trans hg7
      have B_o := Lib.hid b_o
      have lt_o_w7 := b_o.lt
      clear b_o
      have B_t := Lib.hid b_t
      have lt_t_w7 := b_t.lt
      clear b_t
      have G_w7 := Lib.hid g_w7
      have sz_w7 := g_w7.size
      have R_w7 := Lib.hid hr7
      clear g_w7 hg7 hr7
      have c_o0 := B_o.out.cell (j := 0) (u := .int .i64 0) rfl
      have f_o0 := B_o.out.free 0
      have c_o1 := B_o.out.cell (j := 1) (u := .bool false) rfl
      have f_o1 := B_o.out.free 1
      have c_o2 := B_o.out.cell (j := 2) (u := .int .i64 0) rfl
      have f_o2 := B_o.out.free 2
      have c_t0 := B_t.out.cell (j := 0) (u := .int .i64 x1) rfl
      have f_t0 := B_t.out.free 0
      have c_t1 := B_t.out.cell (j := 1) (u := .bool false) rfl
      have f_t1 := B_t.out.free 1
      have c_t2 := B_t.out.cell (j := 2) (u := .int .i64 x4) rfl
      have f_t2 := B_t.out.free 2
      go_wp2_with fail
      exact bodyPost_ret (v := .agg #[.int .i64 (x7 * 17 - 1), .bool false, .int .i64 x4]) (by simp [results, Try.results95, go_sem, *]) rfl ⟨x7 * 17 - 1, false, x4, rfl, ((((R_w7.out.set (by omega) _ _).set (by omega) _ _).set (by omega) _ _).set (by omega) _ _).mono (by omega), (gr_set (gr_set (gr_set (gr_set (G_w7.out) (by omega) _ _) (by omega) _ _) (by omega) _ _) (by omega) _ _)⟩
    · have bh6 : (x5 == 0) = false := by simp [h6]
      clear h6
      go_wp2_with fail
      exact bodyPost_ret (v := .agg #[.int .i64 x1, .bool false, .int .i64 x4]) (by simp [results, Try.results95, go_sem, *]) rfl ⟨x1, false, x4, rfl, (((R_w5.out.set (by omega) _ _).set (by omega) _ _).set (by omega) _ _).mono (by omega), (gr_set (gr_set (gr_set (G_w5.out) (by omega) _ _) (by omega) _ _) (by omega) _ _)⟩

end Go.Proofs.Ytohnodphlaoohaa
