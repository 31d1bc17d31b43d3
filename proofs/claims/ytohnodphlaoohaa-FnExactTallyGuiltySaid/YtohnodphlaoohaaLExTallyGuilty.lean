/- The law FnExactTallyGuilty holds for every input: the program's TallyGuilty returns what the reference's returns, in memory of its own. -/
import Derived.Test.YtohnodphlaoohaaGuilty2
import Derived.Test.YtohnodphlaoohaaMark
import Derived.Test.YtohnodphlaoohaaArgT
import Derived.Deep.RegionHeld3
import Derived.Deep.DeepCutAuto
import Derived.Deep.CutBlock
import Derived.Deep.CutRange
namespace Go.Proofs.Ytohnodphlaoohaa.exTallyGuilty
open Go.ChangeShapes Go.WideShapes Go.ChangeAt Go.RowKit
set_option linter.unusedVariables false

theorem i_guilty (A A1 A2 : Option Addr) (c c1 c2 : Nat) (zs ms ns : List Int) (r a d r' a' d' : Int) (w : World) (hz : Ints w w.heap.size A zs) (hm : Ints w w.heap.size A1 ms) (hn : Ints w w.heap.size A2 ns) (lz : zs.length ≤ 1048576) (lm : ms.length ≤ 1048576) (ln : ns.length ≤ 1048576) :
    Calls Try.prog 22 #[.slice A zs.length c, .agg #[.int .i64 r, .int .i64 a, .int .i64 d, .slice A1 ms.length c1], .agg #[.int .i64 r', .int .i64 a', .int .i64 d', .slice A2 ns.length c2]] w (MadeO w (guilty zs ms ns r a d r' a' d')) := by
  rcases h1 : tallyB zs ms r a d with _ | _
  · have e : guilty zs ms ns r a d r' a' d' = [] := by simp [guilty, guiltB, h1]
    rw [e]; exact i_TallyGuilty_no A A1 A2 c c1 c2 zs ms ns r a d r' a' d' w hz hm hn lz lm ln (.inl h1)
  · rcases h2 : tallyB zs ns r' a' d' with _ | _
    · have e : guilty zs ms ns r a d r' a' d' = [] := by simp [guilty, guiltB, h1, h2]
      rw [e]; exact i_TallyGuilty_no A A1 A2 c c1 c2 zs ms ns r a d r' a' d' w hz hm hn lz lm ln (.inr ⟨h1, h2⟩)
    · rcases h3 : contraI r a d r' a' d' with _ | _
      · have e : guilty zs ms ns r a d r' a' d' = [] := by simp [guilty, guiltB, h1, h2, h3]
        rw [e]; exact i_TallyGuilty_same A A1 A2 c c1 c2 zs ms ns r a d r' a' d' w hz hm hn lz lm ln h1 h2 h3
      · have e : guilty zs ms ns r a d r' a' d' = commonL ms ns := by simp [guilty, guiltB, h1, h2, h3]
        rw [e]; exact i_TallyGuilty_con A A1 A2 c c1 c2 zs ms ns r a d r' a' d' w hz hm hn lz lm ln h1 h2 h3
theorem s_guilty (A A1 A2 : Option Addr) (c c1 c2 : Nat) (zs ms ns : List Int) (r a d r' a' d' : Int) (w : World) (hz : Ints w w.heap.size A zs) (hm : Ints w w.heap.size A1 ms) (hn : Ints w w.heap.size A2 ns) (lz : zs.length ≤ 1048576) (lm : ms.length ≤ 1048576) (ln : ns.length ≤ 1048576) :
    Calls Try.prog 23 #[.slice A zs.length c, .agg #[.int .i64 r, .int .i64 a, .int .i64 d, .slice A1 ms.length c1], .agg #[.int .i64 r', .int .i64 a', .int .i64 d', .slice A2 ns.length c2]] w (MadeO w (guilty zs ms ns r a d r' a' d')) := by
  rcases h1 : tallyB zs ms r a d with _ | _
  · have e : guilty zs ms ns r a d r' a' d' = [] := by simp [guilty, guiltB, h1]
    rw [e]; exact s_TallyGuilty_no A A1 A2 c c1 c2 zs ms ns r a d r' a' d' w hz hm hn lz lm ln (.inl h1)
  · rcases h2 : tallyB zs ns r' a' d' with _ | _
    · have e : guilty zs ms ns r a d r' a' d' = [] := by simp [guilty, guiltB, h1, h2]
      rw [e]; exact s_TallyGuilty_no A A1 A2 c c1 c2 zs ms ns r a d r' a' d' w hz hm hn lz lm ln (.inr ⟨h1, h2⟩)
    · rcases h3 : contraI r a d r' a' d' with _ | _
      · have e : guilty zs ms ns r a d r' a' d' = [] := by simp [guilty, guiltB, h1, h2, h3]
        rw [e]; exact s_TallyGuilty_same A A1 A2 c c1 c2 zs ms ns r a d r' a' d' w hz hm hn lz lm ln h1 h2 h3
      · have e : guilty zs ms ns r a d r' a' d' = commonL ms ns := by simp [guilty, guiltB, h1, h2, h3]
        rw [e]; exact s_TallyGuilty_con A A1 A2 c c1 c2 zs ms ns r a d r' a' d' w hz hm hn lz lm ln h1 h2 h3
theorem guilty_len {zs ms ns : List Int} {r a d r' a' d' : Int} : (guilty zs ms ns r a d r' a' d').length ≤ ms.length := by
  unfold guilty; split
  · exact List.length_filter_le _ _
  · simp
theorem eqIntS_one (A A' : Option Addr) (c c' : Nat) (xs : List Int) (w : World) (B : Nat) (hx : Ints w B A xs) (hy : Ints w B A' xs) (hn : xs.length ≤ 1048576) :
    Calls Try.prog 17 #[.slice A xs.length c, .slice A' xs.length c'] w fun e w' => e = .returned (.bool true) ∧ Quiet w w' :=
  (eqIntS_any A A' c c' xs xs w B hx hy hn hn).mono fun _ _ ⟨he, hq⟩ => ⟨by rw [he]; simp, hq⟩
/-- What the law holds throughout: its arguments and their boxes. -/
structure CL (w : World) (a0 A A' : Option Addr) (c c' : Nat) (z0 ps qs : List Int) (r a d r' a' d' : Int) (W : World) : Prop where
  hz : Ints W w.heap.size a0 z0
  hp : Ints W w.heap.size A ps
  hq : Ints W w.heap.size A' qs
  x : Box W w.heap.size 61 #[.int .i64 r, .int .i64 a, .int .i64 d, .slice A ps.length c]
  y : Box W (w.heap.size + 1) 61 #[.int .i64 r', .int .i64 a', .int .i64 d', .slice A' qs.length c']
  be : Below w.heap.size w W
section
variable {w W W' : World} {a0 A A' : Option Addr} {c c' : Nat} {z0 ps qs : List Int} {r a d r' a' d' : Int}
theorem CL.carry (h : CL w a0 A A' c c' z0 ps qs r a d r' a' d' W) (hb : Below W.heap.size W W') : CL w a0 A A' c c' z0 ps qs r a d r' a' d' W' :=
  ⟨h.hz.below (hb.mono h.be.size), h.hp.below (hb.mono h.be.size), h.hq.below (hb.mono h.be.size), h.x.carry hb, h.y.carry hb, next h.be hb⟩
theorem CL.grown {g : Nat} (h : CL w a0 A A' c c' z0 ps qs r a d r' a' d' W) (hg : W.grownBy W' (some g)) (hr : w.heap.size + 1 < g) : CL w a0 A A' c c' z0 ps qs r a d r' a' d' W' := by
  have hb : Below w.heap.size W W' := gr_to_below hg (by omega) h.be.size
  exact ⟨h.hz.below hb, h.hp.below hb, h.hq.below hb, h.x.grown hg (fun k hk => by injection hk; omega), h.y.grown hg (fun k hk => by injection hk; omega), h.be.trans hb⟩
theorem CL.z (h : CL w a0 A A' c c' z0 ps qs r a d r' a' d' W) : Ints W W.heap.size a0 z0 := h.hz.more h.be.size
theorem CL.p (h : CL w a0 A A' c c' z0 ps qs r a d r' a' d' W) : Ints W W.heap.size A ps := h.hp.more h.be.size
theorem CL.q (h : CL w a0 A A' c c' z0 ps qs r a d r' a' d' W) : Ints W W.heap.size A' qs := h.hq.more h.be.size
theorem CL.two (h : CL w a0 A A' c c' z0 ps qs r a d r' a' d' W) : w.heap.size + 1 < W.heap.size := h.y.lt
theorem CL.start (hz : Ints w w.heap.size a0 z0) (hp : Ints w w.heap.size A ps) (hq : Ints w w.heap.size A' qs) : CL w a0 A A' c c' z0 ps qs r a d r' a' d' ((w.alloc (.cells #[.int .i64 r, .int .i64 a, .int .i64 d, .slice A ps.length c] 61)).alloc (.cells #[.int .i64 r', .int .i64 a', .int .i64 d', .slice A' qs.length c'] 61)) := by
  have b := allocB2 w (.cells #[.int .i64 r, .int .i64 a, .int .i64 d, .slice A ps.length c] 61) (.cells #[.int .i64 r', .int .i64 a', .int .i64 d', .slice A' qs.length c'] 61)
  refine ⟨hz.below b, hp.below b, hq.below b, (Box.new w _ _).carry (allocB _ _), ?_, b⟩
  have := Box.new (w.alloc (.cells #[.int .i64 r, .int .i64 a, .int .i64 d, .slice A ps.length c] 61)) #[.int .i64 r', .int .i64 a', .int .i64 d', .slice A' qs.length c'] 61
  simpa using this
end
theorem marked_grown {w w' : World} {g m : Nat} {k : Int} {e : Ending} (h : Marked w (some ⟨g, 0, none⟩) m k e w') : w.grownBy w' (some g) := by
  rcases Nat.eq_zero_or_pos m with h0 | h0
  · rw [← h.2.2.1 h0]; exact gr_refl w g
  · exact (h.2.2.2 h0 g rfl).1
theorem row_wr {w : World} {g n : Nat} {f : Nat → Value} (h : w.rowIs g 3 n f) : WrS w (some ⟨g, 0, none⟩) n := fun _ => ⟨g, rfl, fun j hj => ⟨⟨_, h.cell hj⟩, h.frozen j⟩⟩
set_option maxHeartbeats 2000000 in
theorem mark_tally (r a d : Int) (g c n : Nat) (k : Int) (w : World) (h : WrS w (some ⟨g, 0, none⟩) n) (hn : n ≤ 1048576) (h0 : 0 ≤ k) (h1 : k ≤ 1000000000000) :
    Calls Try.prog 38 #[.agg #[.int .i64 r, .int .i64 a, .int .i64 d, .slice (some ⟨g, 0, none⟩) n c], .int .i64 k] w (fun e w' => ∃ wa, Below w.heap.size w wa ∧ Marked wa (some ⟨g, 0, none⟩) n k e w') := by
  have H := Lib.hid (h.carry (allocB w (.cells #[.int .i64 r, .int .i64 a, .int .i64 d, .slice (some ⟨g, 0, none⟩) n c] 37)))
  clear h
  go_enter Try.func38, Try.ntmps38
  go_wp2_with fail
  refine (l_markIntS _ _ _ _ _ H.out hn h0 h1).mono ?_
  rintro e w1 ⟨rfl, hm⟩
  have HM := Lib.hid hm
  clear hm
  go_wp2_with fail
  go_ret
  exact ⟨_, allocB w _, rfl, HM.out⟩
theorem up_row {w : World} {g n : Nat} {zs : List Int} (h : w.rowIs g 3 n (fun i => .int .i64 (nth zs i))) (hn : zs.length ≤ n := by exact Nat.le_refl _) : IntsUp w 0 (some ⟨g, 0, none⟩) zs := fun _ =>
  ⟨g, 0, rfl, Nat.zero_le _, h.lt, fun j hj => by rw [Nat.zero_add]; exact h.cell (by omega)⟩
theorem up_of {w : World} {g n L : Nat} {zs : List Int} (h : w.rowIs g 3 n (fun i => .int .i64 (nth zs i))) (hL : L ≤ g) (hn : zs.length ≤ n := by exact Nat.le_refl _) : IntsUp w L (some ⟨g, 0, none⟩) zs := fun _ =>
  ⟨g, 0, rfl, hL, h.lt, fun j hj => by rw [Nat.zero_add]; exact h.cell (by omega)⟩
theorem wr_grown {w w' : World} {g r n : Nat} (h : WrS w (some ⟨g, 0, none⟩) n) (hg : w.grownBy w' (some r)) (hne : r ≠ g) : WrS w' (some ⟨g, 0, none⟩) n := fun h0 => by
  obtain ⟨g', e, hw⟩ := h h0
  injection e with e; injection e with e1
  subst e1
  exact ⟨g, rfl, hw.grown hg hne⟩
theorem own_wr {w : World} {base g cap : Nat} {zs : List Int} (h : OwnI w base (.slice (some ⟨g, 0, none⟩) zs.length cap) zs) : WrS w (some ⟨g, 0, none⟩) zs.length := fun _ => ⟨g, rfl, by have := Wr.of_own h; rwa [Nat.mul_one] at this⟩
theorem undrew {B : Nat} {w w' : World} (h : Below B w.drew w') : Below B w w' := ⟨h.os, h.tape, h.output, h.size, h.block⟩
set_option maxHeartbeats 16000000 in
set_option maxRecDepth 100000 in
theorem walk1 (a0 : Option Addr) (c0 : Nat) (z0 : List Int) (r a d : Int) (A : Option Addr) (c : Nat) (ps : List Int) (r' a' d' : Int) (A' : Option Addr) (c' : Nat) (qs : List Int) (w : World) (h0 : Ints w w.heap.size a0 z0) (hp : Ints w w.heap.size A ps) (hq : Ints w w.heap.size A' qs) (hpl : ps.length ≤ 9223372036854775807) (hql : qs.length ≤ 9223372036854775807) :
    Calls Try.prog 7 #[.slice a0 z0.length c0, .agg #[.int .i64 r, .int .i64 a, .int .i64 d, .slice A ps.length c], .agg #[.int .i64 r', .int .i64 a', .int .i64 d', .slice A' qs.length c']] w fun e w' => e = .returned (.bool true) ∧ Below w.heap.size w w' := by
  by_cases hbig0 : (1048576 : Int) < z0.length
  · go_enter Try.func7, Try.ntmps7
    go_wp2_with fail
    go_ret
    exact ⟨rfl, allocB2 w _ _⟩
  have hn0 : z0.length ≤ 1048576 := by omega
  have C0 := Lib.hid (CL.start (c := c) (c' := c') (r := r) (a := a) (d := d) (r' := r') (a' := a') (d' := d') h0 hp hq)
  clear h0 hp hq
  by_cases hs1 : (1048576 : Int) < ps.length
  · go_enter Try.func7, Try.ntmps7
    go_wp2_with fail
    refine (szTally_any _ _ _ _ _ _ _ _ (by omega) (by omega) hpl).mono ?_
    rw [szL_neg (by omega)]
    rintro e w1 ⟨rfl, b1⟩
    have C1 := Lib.hid (C0.out.carry b1)
    clear b1
    go_wp2_with fail
    go_ret
    exact ⟨rfl, C1.out.be⟩
  have hm1 : ps.length ≤ 1048576 := by omega
  by_cases hs2 : (1048576 : Int) - ps.length < qs.length
  · go_enter Try.func7, Try.ntmps7
    go_wp2_with fail
    refine (szTally_any _ _ _ _ _ _ _ _ (by omega) (by omega) hpl).mono ?_
    rw [szL_pos (by omega)]
    rintro e w1 ⟨rfl, b1⟩
    have C1 := Lib.hid (C0.out.carry b1)
    clear b1
    have y0 := C1.out.y.cell (j := 0) (u := .int .i64 r') rfl
    have y1 := C1.out.y.cell (j := 1) (u := .int .i64 a') rfl
    have y2 := C1.out.y.cell (j := 2) (u := .int .i64 d') rfl
    have y3 := C1.out.y.cell (j := 3) (u := .slice A' qs.length c') rfl
    go_wp2_with fail
    clear y0 y1 y2 y3
    refine (szTally_any _ _ _ _ _ _ _ _ (by omega) (by omega) hql).mono ?_
    rw [szL_neg (by omega)]
    rintro e w2 ⟨rfl, b2⟩
    have C2 := Lib.hid (C1.out.carry b2)
    clear b2
    go_wp2_with fail
    go_ret
    exact ⟨rfl, C2.out.be⟩
  have hm2 : qs.length ≤ 1048576 := by omega
  obtain ⟨gl, hgl⟩ : ∃ gl, guilty z0 ps qs r a d r' a' d' = gl := ⟨_, rfl⟩
  have hgll : gl.length ≤ 1048576 := by have := guilty_len (zs := z0) (ms := ps) (ns := qs) (r := r) (a := a) (d := d) (r' := r') (a' := a') (d' := d'); rw [hgl] at this; omega
  have HGL := Lib.hid hgl
  clear hgl
  go_enter Try.func7, Try.ntmps7
  go_wp2_with fail
  refine (szTally_any _ _ _ _ _ _ _ _ (by omega) (by omega) hpl).mono ?_
  rw [szL_pos (by omega)]
  rintro e w1 ⟨rfl, b1⟩
  have C1 := Lib.hid (C0.out.carry b1)
  clear b1
  have y0 := C1.out.y.cell (j := 0) (u := .int .i64 r') rfl
  have y1 := C1.out.y.cell (j := 1) (u := .int .i64 a') rfl
  have y2 := C1.out.y.cell (j := 2) (u := .int .i64 d') rfl
  have y3 := C1.out.y.cell (j := 3) (u := .slice A' qs.length c') rfl
  go_wp2_with fail
  clear y0 y1 y2 y3
  refine (szTally_any _ _ _ _ _ _ _ _ (by omega) (by omega) hql).mono ?_
  rw [szL_pos (by omega)]
  rintro e w2 ⟨rfl, b2⟩
  have C2 := Lib.hid (C1.out.carry b2)
  clear b2
  go_wp2_with fail
  have hC0 := C2.out.carry (Below.refl w2.heap.size w2).drew
  have hS0 : w2.drew.cell? ⟨w.heap.size, 0, none⟩ = some (.int .i64 r) ∧ w2.drew.cell? ⟨w.heap.size, 1, none⟩ = some (.int .i64 a) ∧ w2.drew.cell? ⟨w.heap.size, 2, none⟩ = some (.int .i64 d) ∧ w2.drew.cell? ⟨w.heap.size, 3, none⟩ = some (.slice A ps.length c) ∧ w2.drew.cell? ⟨w.heap.size + 1, 0, none⟩ = some (.int .i64 r') ∧ w2.drew.cell? ⟨w.heap.size + 1, 1, none⟩ = some (.int .i64 a') ∧ w2.drew.cell? ⟨w.heap.size + 1, 2, none⟩ = some (.int .i64 d') ∧ w2.drew.cell? ⟨w.heap.size + 1, 3, none⟩ = some (.slice A' qs.length c') := ⟨hC0.x.cell rfl, hC0.x.cell rfl, hC0.x.cell rfl, hC0.x.cell rfl, hC0.y.cell rfl, hC0.y.cell rfl, hC0.y.cell rfl, hC0.y.cell rfl⟩
  go_region_held3 (fun W => W.cell? ⟨w.heap.size, 0, none⟩ = some (.int .i64 r) ∧ W.cell? ⟨w.heap.size, 1, none⟩ = some (.int .i64 a) ∧ W.cell? ⟨w.heap.size, 2, none⟩ = some (.int .i64 d) ∧ W.cell? ⟨w.heap.size, 3, none⟩ = some (.slice A ps.length c) ∧ W.cell? ⟨w.heap.size + 1, 0, none⟩ = some (.int .i64 r') ∧ W.cell? ⟨w.heap.size + 1, 1, none⟩ = some (.int .i64 a') ∧ W.cell? ⟨w.heap.size + 1, 2, none⟩ = some (.int .i64 d') ∧ W.cell? ⟨w.heap.size + 1, 3, none⟩ = some (.slice A' qs.length c')) (first | (with_reducible assumption) | (with_reducible exact hS0) | (with_reducible exact hS1) | (with_reducible exact hS2) | (with_reducible exact hS3) | (with_reducible exact hS4) | go_keep)
    (first
      | ((go_at_call 23; refine (s_guilty _ _ _ _ _ _ z0 ps qs _ _ _ _ _ _ _ j2.ints j3.ints j4 hn0 hm1 hm2).mono ?_; rw [HGL.out]; rintro e v4 ⟨g4, k4, rfl, o4, b4⟩; have hC4 := hC3.carry b4; have n4 := next n3 b4; have hz4 := hC3.be.size; have hS4 : v4.cell? ⟨w.heap.size, 0, none⟩ = some (.int .i64 r) ∧ v4.cell? ⟨w.heap.size, 1, none⟩ = some (.int .i64 a) ∧ v4.cell? ⟨w.heap.size, 2, none⟩ = some (.int .i64 d) ∧ v4.cell? ⟨w.heap.size, 3, none⟩ = some (.slice A ps.length c) ∧ v4.cell? ⟨w.heap.size + 1, 0, none⟩ = some (.int .i64 r') ∧ v4.cell? ⟨w.heap.size + 1, 1, none⟩ = some (.int .i64 a') ∧ v4.cell? ⟨w.heap.size + 1, 2, none⟩ = some (.int .i64 d') ∧ v4.cell? ⟨w.heap.size + 1, 3, none⟩ = some (.slice A' qs.length c') := ⟨hC4.x.cell rfl, hC4.x.cell rfl, hC4.x.cell rfl, hC4.x.cell rfl, hC4.y.cell rfl, hC4.y.cell rfl, hC4.y.cell rfl, hC4.y.cell rfl⟩; have LW := Lib.hid o4.up.2.1.ints; clear b4))
      | ((go_at_call 36; refine (toTally_any _ _ _ _ _ qs _ hC2.q hm2).mono ?_; rintro e v3 ⟨g3, rfl, r3, _, b3⟩; have hC3 := hC2.carry b3; have n3 := next n2 b3; have hS3 : v3.cell? ⟨w.heap.size, 0, none⟩ = some (.int .i64 r) ∧ v3.cell? ⟨w.heap.size, 1, none⟩ = some (.int .i64 a) ∧ v3.cell? ⟨w.heap.size, 2, none⟩ = some (.int .i64 d) ∧ v3.cell? ⟨w.heap.size, 3, none⟩ = some (.slice A ps.length c) ∧ v3.cell? ⟨w.heap.size + 1, 0, none⟩ = some (.int .i64 r') ∧ v3.cell? ⟨w.heap.size + 1, 1, none⟩ = some (.int .i64 a') ∧ v3.cell? ⟨w.heap.size + 1, 2, none⟩ = some (.int .i64 d') ∧ v3.cell? ⟨w.heap.size + 1, 3, none⟩ = some (.slice A' qs.length c') := ⟨hC3.x.cell rfl, hC3.x.cell rfl, hC3.x.cell rfl, hC3.x.cell rfl, hC3.y.cell rfl, hC3.y.cell rfl, hC3.y.cell rfl, hC3.y.cell rfl⟩; replace j2 := j2.carry b3; replace j3 := j3.carry b3; have j4 := Ints.of_row r3 (Nat.le_refl _) r3.lt; clear r3 b3))
      | ((go_at_call 36; refine (toTally_any _ _ _ _ _ ps _ hC1.p hm1).mono ?_; rintro e v2 ⟨g2, rfl, r2, l2, b2⟩; have hC2 := hC1.carry b2; have n2 := next n1 b2; have hS2 : v2.cell? ⟨w.heap.size, 0, none⟩ = some (.int .i64 r) ∧ v2.cell? ⟨w.heap.size, 1, none⟩ = some (.int .i64 a) ∧ v2.cell? ⟨w.heap.size, 2, none⟩ = some (.int .i64 d) ∧ v2.cell? ⟨w.heap.size, 3, none⟩ = some (.slice A ps.length c) ∧ v2.cell? ⟨w.heap.size + 1, 0, none⟩ = some (.int .i64 r') ∧ v2.cell? ⟨w.heap.size + 1, 1, none⟩ = some (.int .i64 a') ∧ v2.cell? ⟨w.heap.size + 1, 2, none⟩ = some (.int .i64 d') ∧ v2.cell? ⟨w.heap.size + 1, 3, none⟩ = some (.slice A' qs.length c') := ⟨hC2.x.cell rfl, hC2.x.cell rfl, hC2.x.cell rfl, hC2.x.cell rfl, hC2.y.cell rfl, hC2.y.cell rfl, hC2.y.cell rfl, hC2.y.cell rfl⟩; replace j2 := j2.carry b2; have j3 : IntsUp v2 0 (some ⟨g2, 0, none⟩) ps := up_row r2; clear r2 b2))
      | ((go_at_call 14; refine (toIntS_any _ _ z0 _ hC0.z hn0).mono ?_; rintro e v1 ⟨rfl, r1, b1⟩; have hC1 := hC0.carry b1; have n1 := b1; have hS1 : v1.cell? ⟨w.heap.size, 0, none⟩ = some (.int .i64 r) ∧ v1.cell? ⟨w.heap.size, 1, none⟩ = some (.int .i64 a) ∧ v1.cell? ⟨w.heap.size, 2, none⟩ = some (.int .i64 d) ∧ v1.cell? ⟨w.heap.size, 3, none⟩ = some (.slice A ps.length c) ∧ v1.cell? ⟨w.heap.size + 1, 0, none⟩ = some (.int .i64 r') ∧ v1.cell? ⟨w.heap.size + 1, 1, none⟩ = some (.int .i64 a') ∧ v1.cell? ⟨w.heap.size + 1, 2, none⟩ = some (.int .i64 d') ∧ v1.cell? ⟨w.heap.size + 1, 3, none⟩ = some (.slice A' qs.length c') := ⟨hC1.x.cell rfl, hC1.x.cell rfl, hC1.x.cell rfl, hC1.x.cell rfl, hC1.y.cell rfl, hC1.y.cell rfl, hC1.y.cell rfl, hC1.y.cell rfl⟩; have j2 : IntsUp v1 0 _ z0 := up_row r1; clear r1 b1)))
  have C := Lib.hid hC4
  clear hC0 hC1 hC2 hC3 hC4 hS0 hS1 hS2 hS3 hS4 j2 j3 j4 o4 hz4 n1 n2 n3 n4 l2 C0 C1 C2
  generalize hL0 : v4.heap.size = L0 at LW
  have hL : L0 ≤ v4.heap.size := by omega
  have hLv := hL
  have h2L : w.heap.size + 1 < L0 := by have := C.out.two; omega
  clear hL0
  go_wp2_with fail
  refine (toIntS_any _ _ z0 _ C.out.z hn0).mono ?_
  rintro e w5 ⟨rfl, r5, b5⟩
  replace C := Lib.hid (C.out.carry b5)
  replace LW := Lib.hid (LW.out.below (b5.mono hL))
  replace hL := Nat.le_trans hL b5.size
  have IX := Lib.hid (up_of r5 hLv)
  have XW := Lib.hid (row_wr r5)
  have lx := r5.lt
  have hLx : L0 ≤ v4.heap.size := hLv
  clear r5 b5
  have hLw6 : L0 ≤ w5.heap.size := hL
  have x0 := C.out.x.cell (j := 0) (u := .int .i64 r) rfl
  have x1 := C.out.x.cell (j := 1) (u := .int .i64 a) rfl
  have x2 := C.out.x.cell (j := 2) (u := .int .i64 d) rfl
  have x3 := C.out.x.cell (j := 3) (u := .slice A ps.length c) rfl
  go_wp2_with fail
  refine (toTally_any _ _ _ _ _ ps _ C.out.p hm1).mono ?_
  rintro e w6 ⟨g1, rfl, r6, l6, b6⟩
  clear x0 x1 x2 x3
  replace C := Lib.hid (C.out.carry b6)
  replace LW := Lib.hid (LW.out.below (b6.mono hL))
  replace hL := Nat.le_trans hL b6.size
  replace IX := Lib.hid (IX.out.carry b6)
  replace XW := Lib.hid (XW.out.carry b6)
  have I1 := Lib.hid (up_of r6 l6)
  have W1 := Lib.hid (row_wr r6)
  have lg1 := r6.lt
  clear r6 b6
  have ba := allocB w6 (.cells #[.int .i64 r, .int .i64 a, .int .i64 d, .slice (some ⟨g1, 0, none⟩) ps.length ps.length] 37)
  replace C := Lib.hid (C.out.carry ba)
  replace LW := Lib.hid (LW.out.below (ba.mono hL))
  replace hL := Nat.le_trans hL ba.size
  replace IX := Lib.hid (IX.out.carry ba)
  replace I1 := Lib.hid (I1.out.carry ba)
  replace XW := Lib.hid (XW.out.carry ba)
  replace W1 := Lib.hid (W1.out.carry ba)
  have Q1 := Lib.hid (Box.new w6 #[.int .i64 r, .int .i64 a, .int .i64 d, .slice (some ⟨g1, 0, none⟩) ps.length ps.length] 37)
  have s6 : w6.heap.size < (w6.alloc (.cells #[.int .i64 r, .int .i64 a, .int .i64 d, .slice (some ⟨g1, 0, none⟩) ps.length ps.length] 37)).heap.size := by simp
  clear ba
  have hLw7 := hL
  have y0 := C.out.y.cell (j := 0) (u := .int .i64 r') rfl
  have y1 := C.out.y.cell (j := 1) (u := .int .i64 a') rfl
  have y2 := C.out.y.cell (j := 2) (u := .int .i64 d') rfl
  have y3 := C.out.y.cell (j := 3) (u := .slice A' qs.length c') rfl
  go_wp2_with fail
  refine (toTally_any _ _ _ _ _ qs _ C.out.q hm2).mono ?_
  rintro e w7 ⟨g2, rfl, r7, l7, b7⟩
  clear y0 y1 y2 y3
  replace C := Lib.hid (C.out.carry b7)
  replace LW := Lib.hid (LW.out.below (b7.mono hL))
  replace hL := Nat.le_trans hL b7.size
  replace IX := Lib.hid (IX.out.carry b7)
  replace I1 := Lib.hid (I1.out.carry b7)
  replace XW := Lib.hid (XW.out.carry b7)
  replace W1 := Lib.hid (W1.out.carry b7)
  replace Q1 := Lib.hid (Q1.out.carry b7)
  have I2 := Lib.hid (up_of r7 l7)
  have W2 := Lib.hid (row_wr r7)
  have lg2 := r7.lt
  clear r7 b7
  have ba := allocB w7 (.cells #[.int .i64 r', .int .i64 a', .int .i64 d', .slice (some ⟨g2, 0, none⟩) qs.length qs.length] 37)
  replace C := Lib.hid (C.out.carry ba)
  replace LW := Lib.hid (LW.out.below (ba.mono hL))
  replace hL := Nat.le_trans hL ba.size
  replace IX := Lib.hid (IX.out.carry ba)
  replace I1 := Lib.hid (I1.out.carry ba)
  replace I2 := Lib.hid (I2.out.carry ba)
  replace XW := Lib.hid (XW.out.carry ba)
  replace W1 := Lib.hid (W1.out.carry ba)
  replace W2 := Lib.hid (W2.out.carry ba)
  replace Q1 := Lib.hid (Q1.out.carry ba)
  have Q2 := Lib.hid (Box.new w7 #[.int .i64 r', .int .i64 a', .int .i64 d', .slice (some ⟨g2, 0, none⟩) qs.length qs.length] 37)
  have s7 : w7.heap.size < (w7.alloc (.cells #[.int .i64 r', .int .i64 a', .int .i64 d', .slice (some ⟨g2, 0, none⟩) qs.length qs.length] 37)).heap.size := by simp
  clear ba
  have q10 := Q1.out.cell (j := 0) (u := .int .i64 r) rfl
  have q11 := Q1.out.cell (j := 1) (u := .int .i64 a) rfl
  have q12 := Q1.out.cell (j := 2) (u := .int .i64 d) rfl
  have q13 := Q1.out.cell (j := 3) (u := .slice (some ⟨g1, 0, none⟩) ps.length ps.length) rfl
  go_wp2_with fail
  refine (i_guilty _ _ _ _ _ _ z0 ps qs _ _ _ _ _ _ _ IX.out.ints I1.out.ints I2.out.ints hn0 hm1 hm2).mono ?_
  rw [HGL.out]
  rintro e w8 ⟨gg, kg, rfl, o8, b8⟩
  clear q10 q11 q12 q13
  replace C := Lib.hid (C.out.carry b8)
  replace LW := Lib.hid (LW.out.below (b8.mono hL))
  replace hL := Nat.le_trans hL b8.size
  replace IX := Lib.hid (IX.out.carry b8)
  replace I1 := Lib.hid (I1.out.carry b8)
  replace I2 := Lib.hid (I2.out.carry b8)
  replace XW := Lib.hid (XW.out.carry b8)
  replace W1 := Lib.hid (W1.out.carry b8)
  replace W2 := Lib.hid (W2.out.carry b8)
  replace Q1 := Lib.hid (Q1.out.carry b8)
  replace Q2 := Lib.hid (Q2.out.carry b8)
  have hgL := o8.base_le gg rfl
  have hLL : w7.heap.size < (w7.alloc (.cells #[.int .i64 r', .int .i64 a', .int .i64 d', .slice (some ⟨g2, 0, none⟩) qs.length qs.length] 37)).heap.size := by simp
  generalize (w7.alloc (.cells #[.int .i64 r', .int .i64 a', .int .i64 d', .slice (some ⟨g2, 0, none⟩) qs.length qs.length] 37)).heap.size = L1 at o8 hgL hLL
  have IG := Lib.hid o8.up.2.1
  have WG := Lib.hid (own_wr o8)
  clear o8 b8
  go_wp2_with fail
  refine (eqIntS_one _ _ _ _ gl _ _ IG.out.ints (LW.out.more hL) hgll).mono ?_
  rintro e w9 ⟨rfl, q9⟩
  have b9 := q9.below w8.heap.size
  replace C := Lib.hid (C.out.carry b9)
  replace LW := Lib.hid (LW.out.below (b9.mono hL))
  replace hL := Nat.le_trans hL b9.size
  replace IX := Lib.hid (IX.out.carry b9)
  replace I1 := Lib.hid (I1.out.carry b9)
  replace I2 := Lib.hid (I2.out.carry b9)
  replace IG := Lib.hid (IG.out.carry b9)
  replace XW := Lib.hid (XW.out.carry b9)
  replace W1 := Lib.hid (W1.out.carry b9)
  replace W2 := Lib.hid (W2.out.carry b9)
  replace WG := Lib.hid (WG.out.carry b9)
  replace Q1 := Lib.hid (Q1.out.carry b9)
  replace Q2 := Lib.hid (Q2.out.carry b9)
  clear q9 b9
  go_wp2_with fail
  refine (toIntS_any _ _ z0 _ C.out.z hn0).mono ?_
  rintro e w10 ⟨rfl, r10, b10⟩
  replace C := Lib.hid (C.out.carry b10)
  replace LW := Lib.hid (LW.out.below (b10.mono hL))
  replace hL := Nat.le_trans hL b10.size
  replace IX := Lib.hid (IX.out.carry b10)
  replace I1 := Lib.hid (I1.out.carry b10)
  replace I2 := Lib.hid (I2.out.carry b10)
  replace IG := Lib.hid (IG.out.carry b10)
  replace XW := Lib.hid (XW.out.carry b10)
  replace W1 := Lib.hid (W1.out.carry b10)
  replace W2 := Lib.hid (W2.out.carry b10)
  replace WG := Lib.hid (WG.out.carry b10)
  replace Q1 := Lib.hid (Q1.out.carry b10)
  replace Q2 := Lib.hid (Q2.out.carry b10)
  have IY := Lib.hid (up_row r10)
  clear r10 b10
  go_wp2_with fail
  refine (eqIntS_one _ _ _ _ z0 _ _ IX.out.ints IY.out.ints hn0).mono ?_
  rintro e w11 ⟨rfl, q11⟩
  have b11 := q11.below w10.heap.size
  replace C := Lib.hid (C.out.carry b11)
  replace LW := Lib.hid (LW.out.below (b11.mono hL))
  replace hL := Nat.le_trans hL b11.size
  replace IX := Lib.hid (IX.out.carry b11)
  replace I1 := Lib.hid (I1.out.carry b11)
  replace I2 := Lib.hid (I2.out.carry b11)
  replace IG := Lib.hid (IG.out.carry b11)
  replace XW := Lib.hid (XW.out.carry b11)
  replace W1 := Lib.hid (W1.out.carry b11)
  replace W2 := Lib.hid (W2.out.carry b11)
  replace WG := Lib.hid (WG.out.carry b11)
  replace Q1 := Lib.hid (Q1.out.carry b11)
  replace Q2 := Lib.hid (Q2.out.carry b11)
  clear q11 b11 IY
  go_wp2_with fail
  have hC0 := C.out.carry (Below.refl w11.heap.size w11).drew
  have hQ0 := Q1.out.carry (Below.refl w11.heap.size w11).drew
  have hI0 := I1.out.carry (Below.refl w11.heap.size w11).drew
  have hS0 : w11.drew.cell? ⟨w6.heap.size, 0, none⟩ = some (.int .i64 r) ∧ w11.drew.cell? ⟨w6.heap.size, 1, none⟩ = some (.int .i64 a) ∧ w11.drew.cell? ⟨w6.heap.size, 2, none⟩ = some (.int .i64 d) ∧ w11.drew.cell? ⟨w6.heap.size, 3, none⟩ = some (.slice (some ⟨g1, 0, none⟩) ps.length ps.length) ∧ w11.drew.cell? ⟨w.heap.size, 0, none⟩ = some (.int .i64 r) ∧ w11.drew.cell? ⟨w.heap.size, 1, none⟩ = some (.int .i64 a) ∧ w11.drew.cell? ⟨w.heap.size, 2, none⟩ = some (.int .i64 d) ∧ w11.drew.cell? ⟨w.heap.size, 3, none⟩ = some (.slice A ps.length c) := ⟨hQ0.cell rfl, hQ0.cell rfl, hQ0.cell rfl, hQ0.cell rfl, hC0.x.cell rfl, hC0.x.cell rfl, hC0.x.cell rfl, hC0.x.cell rfl⟩
  go_region_held3 (fun W => W.cell? ⟨w6.heap.size, 0, none⟩ = some (.int .i64 r) ∧ W.cell? ⟨w6.heap.size, 1, none⟩ = some (.int .i64 a) ∧ W.cell? ⟨w6.heap.size, 2, none⟩ = some (.int .i64 d) ∧ W.cell? ⟨w6.heap.size, 3, none⟩ = some (.slice (some ⟨g1, 0, none⟩) ps.length ps.length) ∧ W.cell? ⟨w.heap.size, 0, none⟩ = some (.int .i64 r) ∧ W.cell? ⟨w.heap.size, 1, none⟩ = some (.int .i64 a) ∧ W.cell? ⟨w.heap.size, 2, none⟩ = some (.int .i64 d) ∧ W.cell? ⟨w.heap.size, 3, none⟩ = some (.slice A ps.length c)) (first | (with_reducible assumption) | (with_reducible exact hS0) | (with_reducible exact hS1) | (with_reducible exact hS2) | go_keep)
    (first
      | ((go_at_call 37; refine (eqTally_same _ _ _ _ _ _ _ ps _ hI1.ints jt hm1).mono ?_; rintro e w12 ⟨rfl, be⟩; have hbe := Lib.hid (undrew (next hb1.out be)); have hS2 : w12.cell? ⟨w6.heap.size, 0, none⟩ = some (.int .i64 r) ∧ w12.cell? ⟨w6.heap.size, 1, none⟩ = some (.int .i64 a) ∧ w12.cell? ⟨w6.heap.size, 2, none⟩ = some (.int .i64 d) ∧ w12.cell? ⟨w6.heap.size, 3, none⟩ = some (.slice (some ⟨g1, 0, none⟩) ps.length ps.length) ∧ w12.cell? ⟨w.heap.size, 0, none⟩ = some (.int .i64 r) ∧ w12.cell? ⟨w.heap.size, 1, none⟩ = some (.int .i64 a) ∧ w12.cell? ⟨w.heap.size, 2, none⟩ = some (.int .i64 d) ∧ w12.cell? ⟨w.heap.size, 3, none⟩ = some (.slice A ps.length c) := ⟨(hQ1.carry be).cell rfl, (hQ1.carry be).cell rfl, (hQ1.carry be).cell rfl, (hQ1.carry be).cell rfl, (hC1.carry be).x.cell rfl, (hC1.carry be).x.cell rfl, (hC1.carry be).x.cell rfl, (hC1.carry be).x.cell rfl⟩; clear be))
      | ((go_at_call 36; refine (toTally_any _ _ _ _ _ ps _ hC0.p hm1).mono ?_; rintro e vt ⟨gt, rfl, rt, _, bt⟩; have hC1 := hC0.carry bt; have hQ1 := hQ0.carry bt; have hI1 := hI0.carry bt; have jt := Ints.of_row rt (Nat.le_refl _) rt.lt; have hS1 : vt.cell? ⟨w6.heap.size, 0, none⟩ = some (.int .i64 r) ∧ vt.cell? ⟨w6.heap.size, 1, none⟩ = some (.int .i64 a) ∧ vt.cell? ⟨w6.heap.size, 2, none⟩ = some (.int .i64 d) ∧ vt.cell? ⟨w6.heap.size, 3, none⟩ = some (.slice (some ⟨g1, 0, none⟩) ps.length ps.length) ∧ vt.cell? ⟨w.heap.size, 0, none⟩ = some (.int .i64 r) ∧ vt.cell? ⟨w.heap.size, 1, none⟩ = some (.int .i64 a) ∧ vt.cell? ⟨w.heap.size, 2, none⟩ = some (.int .i64 d) ∧ vt.cell? ⟨w.heap.size, 3, none⟩ = some (.slice A ps.length c) := ⟨hQ1.cell rfl, hQ1.cell rfl, hQ1.cell rfl, hQ1.cell rfl, hC1.x.cell rfl, hC1.x.cell rfl, hC1.x.cell rfl, hC1.x.cell rfl⟩; have hb1 := Lib.hid bt; clear bt rt)))
  have b12 := hbe.out
  clear hbe hb1 hC0 hC1 hQ0 hQ1 hI0 hI1 jt hS0 hS1 hS2
  replace C := Lib.hid (C.out.carry b12)
  replace LW := Lib.hid (LW.out.below (b12.mono hL))
  replace hL := Nat.le_trans hL b12.size
  replace IX := Lib.hid (IX.out.carry b12)
  replace I1 := Lib.hid (I1.out.carry b12)
  replace I2 := Lib.hid (I2.out.carry b12)
  replace IG := Lib.hid (IG.out.carry b12)
  replace XW := Lib.hid (XW.out.carry b12)
  replace W1 := Lib.hid (W1.out.carry b12)
  replace W2 := Lib.hid (W2.out.carry b12)
  replace WG := Lib.hid (WG.out.carry b12)
  replace Q1 := Lib.hid (Q1.out.carry b12)
  replace Q2 := Lib.hid (Q2.out.carry b12)
  clear b12
  go_wp2_with fail
  have hC0 := C.out.carry (Below.refl w12.heap.size w12).drew
  have hQ0 := Q2.out.carry (Below.refl w12.heap.size w12).drew
  have hI0 := I2.out.carry (Below.refl w12.heap.size w12).drew
  have hS0 : w12.drew.cell? ⟨w7.heap.size, 0, none⟩ = some (.int .i64 r') ∧ w12.drew.cell? ⟨w7.heap.size, 1, none⟩ = some (.int .i64 a') ∧ w12.drew.cell? ⟨w7.heap.size, 2, none⟩ = some (.int .i64 d') ∧ w12.drew.cell? ⟨w7.heap.size, 3, none⟩ = some (.slice (some ⟨g2, 0, none⟩) qs.length qs.length) ∧ w12.drew.cell? ⟨w.heap.size + 1, 0, none⟩ = some (.int .i64 r') ∧ w12.drew.cell? ⟨w.heap.size + 1, 1, none⟩ = some (.int .i64 a') ∧ w12.drew.cell? ⟨w.heap.size + 1, 2, none⟩ = some (.int .i64 d') ∧ w12.drew.cell? ⟨w.heap.size + 1, 3, none⟩ = some (.slice A' qs.length c') := ⟨hQ0.cell rfl, hQ0.cell rfl, hQ0.cell rfl, hQ0.cell rfl, hC0.y.cell rfl, hC0.y.cell rfl, hC0.y.cell rfl, hC0.y.cell rfl⟩
  go_region_held3 (fun W => W.cell? ⟨w7.heap.size, 0, none⟩ = some (.int .i64 r') ∧ W.cell? ⟨w7.heap.size, 1, none⟩ = some (.int .i64 a') ∧ W.cell? ⟨w7.heap.size, 2, none⟩ = some (.int .i64 d') ∧ W.cell? ⟨w7.heap.size, 3, none⟩ = some (.slice (some ⟨g2, 0, none⟩) qs.length qs.length) ∧ W.cell? ⟨w.heap.size + 1, 0, none⟩ = some (.int .i64 r') ∧ W.cell? ⟨w.heap.size + 1, 1, none⟩ = some (.int .i64 a') ∧ W.cell? ⟨w.heap.size + 1, 2, none⟩ = some (.int .i64 d') ∧ W.cell? ⟨w.heap.size + 1, 3, none⟩ = some (.slice A' qs.length c')) (first | (with_reducible assumption) | (with_reducible exact hS0) | (with_reducible exact hS1) | (with_reducible exact hS2) | go_keep)
    (first
      | ((go_at_call 37; refine (eqTally_same _ _ _ _ _ _ _ qs _ hI1.ints jt hm2).mono ?_; rintro e w13 ⟨rfl, be⟩; have hbe := Lib.hid (undrew (next hb1.out be)); have hS2 : w13.cell? ⟨w7.heap.size, 0, none⟩ = some (.int .i64 r') ∧ w13.cell? ⟨w7.heap.size, 1, none⟩ = some (.int .i64 a') ∧ w13.cell? ⟨w7.heap.size, 2, none⟩ = some (.int .i64 d') ∧ w13.cell? ⟨w7.heap.size, 3, none⟩ = some (.slice (some ⟨g2, 0, none⟩) qs.length qs.length) ∧ w13.cell? ⟨w.heap.size + 1, 0, none⟩ = some (.int .i64 r') ∧ w13.cell? ⟨w.heap.size + 1, 1, none⟩ = some (.int .i64 a') ∧ w13.cell? ⟨w.heap.size + 1, 2, none⟩ = some (.int .i64 d') ∧ w13.cell? ⟨w.heap.size + 1, 3, none⟩ = some (.slice A' qs.length c') := ⟨(hQ1.carry be).cell rfl, (hQ1.carry be).cell rfl, (hQ1.carry be).cell rfl, (hQ1.carry be).cell rfl, (hC1.carry be).y.cell rfl, (hC1.carry be).y.cell rfl, (hC1.carry be).y.cell rfl, (hC1.carry be).y.cell rfl⟩; clear be))
      | ((go_at_call 36; refine (toTally_any _ _ _ _ _ qs _ hC0.q hm2).mono ?_; rintro e vt ⟨gt, rfl, rt, _, bt⟩; have hC1 := hC0.carry bt; have hQ1 := hQ0.carry bt; have hI1 := hI0.carry bt; have jt := Ints.of_row rt (Nat.le_refl _) rt.lt; have hS1 : vt.cell? ⟨w7.heap.size, 0, none⟩ = some (.int .i64 r') ∧ vt.cell? ⟨w7.heap.size, 1, none⟩ = some (.int .i64 a') ∧ vt.cell? ⟨w7.heap.size, 2, none⟩ = some (.int .i64 d') ∧ vt.cell? ⟨w7.heap.size, 3, none⟩ = some (.slice (some ⟨g2, 0, none⟩) qs.length qs.length) ∧ vt.cell? ⟨w.heap.size + 1, 0, none⟩ = some (.int .i64 r') ∧ vt.cell? ⟨w.heap.size + 1, 1, none⟩ = some (.int .i64 a') ∧ vt.cell? ⟨w.heap.size + 1, 2, none⟩ = some (.int .i64 d') ∧ vt.cell? ⟨w.heap.size + 1, 3, none⟩ = some (.slice A' qs.length c') := ⟨hQ1.cell rfl, hQ1.cell rfl, hQ1.cell rfl, hQ1.cell rfl, hC1.y.cell rfl, hC1.y.cell rfl, hC1.y.cell rfl, hC1.y.cell rfl⟩; have hb1 := Lib.hid bt; clear bt rt)))
  have b13 := hbe.out
  clear hbe hb1 hC0 hC1 hQ0 hQ1 hI0 hI1 jt hS0 hS1 hS2
  replace C := Lib.hid (C.out.carry b13)
  replace LW := Lib.hid (LW.out.below (b13.mono hL))
  replace hL := Nat.le_trans hL b13.size
  replace IX := Lib.hid (IX.out.carry b13)
  replace I1 := Lib.hid (I1.out.carry b13)
  replace I2 := Lib.hid (I2.out.carry b13)
  replace IG := Lib.hid (IG.out.carry b13)
  replace XW := Lib.hid (XW.out.carry b13)
  replace W1 := Lib.hid (W1.out.carry b13)
  replace W2 := Lib.hid (W2.out.carry b13)
  replace WG := Lib.hid (WG.out.carry b13)
  replace Q1 := Lib.hid (Q1.out.carry b13)
  replace Q2 := Lib.hid (Q2.out.carry b13)
  clear b13
  go_wp2_with fail
  refine (l_markIntS _ _ z0.length _ _ XW.out hn0 (by omega) (by omega)).mono ?_
  rintro e w14 hm14
  have g14 := marked_grown hm14
  obtain ⟨rfl, -⟩ := hm14
  replace C := Lib.hid (C.out.grown g14 (by omega))
  replace LW := Lib.hid (LW.out.below (gr_to_below g14 (by omega) hL))
  replace hL := Nat.le_trans hL g14.size
  replace Q1 := Lib.hid (Q1.out.grown g14 (fun k hk => by injection hk; omega))
  replace Q2 := Lib.hid (Q2.out.grown g14 (fun k hk => by injection hk; omega))
  replace I1 := Lib.hid (I1.out.grown g14 (by omega))
  replace I2 := Lib.hid (I2.out.grown g14 (by omega))
  replace IG := Lib.hid (IG.out.grown g14 (by omega))
  replace W1 := Lib.hid (wr_grown W1.out g14 (by omega))
  replace W2 := Lib.hid (wr_grown W2.out g14 (by omega))
  replace WG := Lib.hid (wr_grown WG.out g14 (by omega))
  clear g14 IX XW
  have q10 := Q1.out.cell (j := 0) (u := .int .i64 r) rfl
  have q11 := Q1.out.cell (j := 1) (u := .int .i64 a) rfl
  have q12 := Q1.out.cell (j := 2) (u := .int .i64 d) rfl
  have q13 := Q1.out.cell (j := 3) (u := .slice (some ⟨g1, 0, none⟩) ps.length ps.length) rfl
  go_wp2_with fail
  refine (mark_tally _ _ _ _ _ ps.length _ _ W1.out hm1 (by omega) (by omega)).mono ?_
  rintro e w15 ⟨wa, ba, hm15⟩
  clear q10 q11 q12 q13
  replace C := Lib.hid (C.out.carry ba)
  replace LW := Lib.hid (LW.out.below (ba.mono hL))
  replace hL := Nat.le_trans hL ba.size
  replace I1 := Lib.hid (I1.out.carry ba)
  replace I2 := Lib.hid (I2.out.carry ba)
  replace IG := Lib.hid (IG.out.carry ba)
  replace W1 := Lib.hid (W1.out.carry ba)
  replace W2 := Lib.hid (W2.out.carry ba)
  replace WG := Lib.hid (WG.out.carry ba)
  replace Q1 := Lib.hid (Q1.out.carry ba)
  replace Q2 := Lib.hid (Q2.out.carry ba)
  have g15 := marked_grown hm15
  obtain ⟨rfl, -⟩ := hm15
  replace C := Lib.hid (C.out.grown g15 (by omega))
  replace LW := Lib.hid (LW.out.below (gr_to_below g15 (by omega) hL))
  replace hL := Nat.le_trans hL g15.size
  replace Q1 := Lib.hid (Q1.out.grown g15 (fun k hk => by injection hk; omega))
  replace Q2 := Lib.hid (Q2.out.grown g15 (fun k hk => by injection hk; omega))
  replace I2 := Lib.hid (I2.out.grown g15 (by omega))
  replace IG := Lib.hid (IG.out.grown g15 (by omega))
  replace W2 := Lib.hid (wr_grown W2.out g15 (by omega))
  replace WG := Lib.hid (wr_grown WG.out g15 (by omega))
  clear g15 ba I1 W1
  have q20 := Q2.out.cell (j := 0) (u := .int .i64 r') rfl
  have q21 := Q2.out.cell (j := 1) (u := .int .i64 a') rfl
  have q22 := Q2.out.cell (j := 2) (u := .int .i64 d') rfl
  have q23 := Q2.out.cell (j := 3) (u := .slice (some ⟨g2, 0, none⟩) qs.length qs.length) rfl
  go_wp2_with fail
  refine (mark_tally _ _ _ _ _ qs.length _ _ W2.out hm2 (by omega) (by omega)).mono ?_
  rintro e w16 ⟨wb, bb, hm16⟩
  clear q20 q21 q22 q23
  replace C := Lib.hid (C.out.carry bb)
  replace LW := Lib.hid (LW.out.below (bb.mono hL))
  replace hL := Nat.le_trans hL bb.size
  replace I2 := Lib.hid (I2.out.carry bb)
  replace IG := Lib.hid (IG.out.carry bb)
  replace W2 := Lib.hid (W2.out.carry bb)
  replace WG := Lib.hid (WG.out.carry bb)
  replace Q1 := Lib.hid (Q1.out.carry bb)
  replace Q2 := Lib.hid (Q2.out.carry bb)
  have g16 := marked_grown hm16
  obtain ⟨rfl, -⟩ := hm16
  replace C := Lib.hid (C.out.grown g16 (by omega))
  replace LW := Lib.hid (LW.out.below (gr_to_below g16 (by omega) hL))
  replace hL := Nat.le_trans hL g16.size
  replace Q1 := Lib.hid (Q1.out.grown g16 (fun k hk => by injection hk; omega))
  replace Q2 := Lib.hid (Q2.out.grown g16 (fun k hk => by injection hk; omega))
  replace IG := Lib.hid (IG.out.grown g16 (by omega))
  replace WG := Lib.hid (wr_grown WG.out g16 (by omega))
  clear g16 bb I2 W2
  have hk1 : ¬ (1 : Int) + (z0.length : Nat) + (ps.length : Nat) + (qs.length : Nat) < 0 := by omega
  have hk2 : decide ((1 : Int) + (z0.length : Nat) + (ps.length : Nat) + (qs.length : Nat) < 0) = false := by simp; omega
  go_wp2_with fail
  refine (eqIntS_one _ _ _ _ gl _ _ IG.out.ints (LW.out.more hL) hgll).mono ?_
  rintro e w17 ⟨rfl, q17⟩
  have b17 := q17.below w16.heap.size
  replace C := Lib.hid (C.out.carry b17)
  replace LW := Lib.hid (LW.out.below (b17.mono hL))
  replace hL := Nat.le_trans hL b17.size
  replace IG := Lib.hid (IG.out.carry b17)
  replace WG := Lib.hid (WG.out.carry b17)
  replace Q1 := Lib.hid (Q1.out.carry b17)
  replace Q2 := Lib.hid (Q2.out.carry b17)
  clear q17 b17
  go_wp2_with fail
  refine (l_markIntS _ _ gl.length _ _ WG.out hgll (by omega) (by omega)).mono ?_
  rintro e w18 hm18
  have g18 := marked_grown hm18
  have hd18 : HeldS w18 (some ⟨gg, 0, none⟩) gl.length 1 := fun h0 => ⟨gg, rfl, (hm18.2.2.2 h0 gg rfl).2⟩
  obtain ⟨rfl, -⟩ := hm18
  replace C := Lib.hid (C.out.grown g18 (by omega))
  replace LW := Lib.hid (LW.out.below (gr_to_below g18 (by omega) hL))
  replace hL := Nat.le_trans hL g18.size
  replace Q1 := Lib.hid (Q1.out.grown g18 (fun k hk => by injection hk; omega))
  replace Q2 := Lib.hid (Q2.out.grown g18 (fun k hk => by injection hk; omega))
  have HD := Lib.hid hd18
  clear g18 hd18 IG WG
  have hj1 : ¬ (1 : Int) + (gl.length : Nat) < 0 := by omega
  have hj3 : decide ((1 : Int) + (gl.length : Nat) < 0) = false := by simp; omega
  have hj2 : ((1 : Int) + (gl.length : Nat) != (1 : Int) + (gl.length : Nat)) = false := by simp
  go_upto_region 32 with fail
  go_cut [15] from 17 (fun s15 wx => s15 = .int .i64 (1 + (gl.length : Nat)) ∧ w18 = wx)
  case first =>
    go_wp2_with fail
    refine (l_heldIntS _ _ gl.length _ _ HD.out hgll (by omega) (by omega)).mono ?_
    rintro e w' ⟨rfl, rfl⟩
    go_wp2_with fail
    go_meet
    exact ⟨rfl, rfl⟩
  case rest =>
    obtain ⟨rfl, rfl⟩ := hcut
    go_wp2_with fail
    have hC0 := C.out.carry (Below.refl w18.heap.size w18).drew
    have hS0 : w18.drew.cell? ⟨w.heap.size, 0, none⟩ = some (.int .i64 r) ∧ w18.drew.cell? ⟨w.heap.size, 1, none⟩ = some (.int .i64 a) ∧ w18.drew.cell? ⟨w.heap.size, 2, none⟩ = some (.int .i64 d) ∧ w18.drew.cell? ⟨w.heap.size, 3, none⟩ = some (.slice A ps.length c) ∧ w18.drew.cell? ⟨w.heap.size + 1, 0, none⟩ = some (.int .i64 r') ∧ w18.drew.cell? ⟨w.heap.size + 1, 1, none⟩ = some (.int .i64 a') ∧ w18.drew.cell? ⟨w.heap.size + 1, 2, none⟩ = some (.int .i64 d') ∧ w18.drew.cell? ⟨w.heap.size + 1, 3, none⟩ = some (.slice A' qs.length c') := ⟨hC0.x.cell rfl, hC0.x.cell rfl, hC0.x.cell rfl, hC0.x.cell rfl, hC0.y.cell rfl, hC0.y.cell rfl, hC0.y.cell rfl, hC0.y.cell rfl⟩
    go_region_held3 (fun W => W.cell? ⟨w.heap.size, 0, none⟩ = some (.int .i64 r) ∧ W.cell? ⟨w.heap.size, 1, none⟩ = some (.int .i64 a) ∧ W.cell? ⟨w.heap.size, 2, none⟩ = some (.int .i64 d) ∧ W.cell? ⟨w.heap.size, 3, none⟩ = some (.slice A ps.length c) ∧ W.cell? ⟨w.heap.size + 1, 0, none⟩ = some (.int .i64 r') ∧ W.cell? ⟨w.heap.size + 1, 1, none⟩ = some (.int .i64 a') ∧ W.cell? ⟨w.heap.size + 1, 2, none⟩ = some (.int .i64 d') ∧ W.cell? ⟨w.heap.size + 1, 3, none⟩ = some (.slice A' qs.length c')) (first | (with_reducible assumption) | (with_reducible exact hS0) | (with_reducible exact hS1) | (with_reducible exact hS2) | (with_reducible exact hS3) | (with_reducible exact hS4) | go_keep)
      (first
        | ((go_at_call 22; refine (i_guilty _ _ _ _ _ _ z0 ps qs _ _ _ _ _ _ _ j2.ints j3.ints j4 hn0 hm1 hm2).mono ?_; rw [HGL.out]; rintro e v4x ⟨g4x, k4x, rfl, o4, b4⟩; have hC4 := hC3.carry b4; have n4 := next n3 b4; have hz4 := hC3.be.size; have hS4 : v4x.cell? ⟨w.heap.size, 0, none⟩ = some (.int .i64 r) ∧ v4x.cell? ⟨w.heap.size, 1, none⟩ = some (.int .i64 a) ∧ v4x.cell? ⟨w.heap.size, 2, none⟩ = some (.int .i64 d) ∧ v4x.cell? ⟨w.heap.size, 3, none⟩ = some (.slice A ps.length c) ∧ v4x.cell? ⟨w.heap.size + 1, 0, none⟩ = some (.int .i64 r') ∧ v4x.cell? ⟨w.heap.size + 1, 1, none⟩ = some (.int .i64 a') ∧ v4x.cell? ⟨w.heap.size + 1, 2, none⟩ = some (.int .i64 d') ∧ v4x.cell? ⟨w.heap.size + 1, 3, none⟩ = some (.slice A' qs.length c') := ⟨hC4.x.cell rfl, hC4.x.cell rfl, hC4.x.cell rfl, hC4.x.cell rfl, hC4.y.cell rfl, hC4.y.cell rfl, hC4.y.cell rfl, hC4.y.cell rfl⟩; have hH := Lib.hid o4.up.2.1.ints; clear b4))
        | ((go_at_call 36; refine (toTally_any _ _ _ _ _ qs _ hC2.q hm2).mono ?_; rintro e v3x ⟨g3x, rfl, r3, _, b3⟩; have hC3 := hC2.carry b3; have n3 := next n2 b3; have hS3 : v3x.cell? ⟨w.heap.size, 0, none⟩ = some (.int .i64 r) ∧ v3x.cell? ⟨w.heap.size, 1, none⟩ = some (.int .i64 a) ∧ v3x.cell? ⟨w.heap.size, 2, none⟩ = some (.int .i64 d) ∧ v3x.cell? ⟨w.heap.size, 3, none⟩ = some (.slice A ps.length c) ∧ v3x.cell? ⟨w.heap.size + 1, 0, none⟩ = some (.int .i64 r') ∧ v3x.cell? ⟨w.heap.size + 1, 1, none⟩ = some (.int .i64 a') ∧ v3x.cell? ⟨w.heap.size + 1, 2, none⟩ = some (.int .i64 d') ∧ v3x.cell? ⟨w.heap.size + 1, 3, none⟩ = some (.slice A' qs.length c') := ⟨hC3.x.cell rfl, hC3.x.cell rfl, hC3.x.cell rfl, hC3.x.cell rfl, hC3.y.cell rfl, hC3.y.cell rfl, hC3.y.cell rfl, hC3.y.cell rfl⟩; replace j2 := j2.carry b3; replace j3 := j3.carry b3; have j4 := Ints.of_row r3 (Nat.le_refl _) r3.lt; clear r3 b3))
        | ((go_at_call 36; refine (toTally_any _ _ _ _ _ ps _ hC1.p hm1).mono ?_; rintro e v2x ⟨g2x, rfl, r2, l2, b2⟩; have hC2 := hC1.carry b2; have n2 := next n1 b2; have hS2 : v2x.cell? ⟨w.heap.size, 0, none⟩ = some (.int .i64 r) ∧ v2x.cell? ⟨w.heap.size, 1, none⟩ = some (.int .i64 a) ∧ v2x.cell? ⟨w.heap.size, 2, none⟩ = some (.int .i64 d) ∧ v2x.cell? ⟨w.heap.size, 3, none⟩ = some (.slice A ps.length c) ∧ v2x.cell? ⟨w.heap.size + 1, 0, none⟩ = some (.int .i64 r') ∧ v2x.cell? ⟨w.heap.size + 1, 1, none⟩ = some (.int .i64 a') ∧ v2x.cell? ⟨w.heap.size + 1, 2, none⟩ = some (.int .i64 d') ∧ v2x.cell? ⟨w.heap.size + 1, 3, none⟩ = some (.slice A' qs.length c') := ⟨hC2.x.cell rfl, hC2.x.cell rfl, hC2.x.cell rfl, hC2.x.cell rfl, hC2.y.cell rfl, hC2.y.cell rfl, hC2.y.cell rfl, hC2.y.cell rfl⟩; replace j2 := j2.carry b2; have j3 : IntsUp v2x 0 (some ⟨g2x, 0, none⟩) ps := up_row r2; clear r2 b2))
        | ((go_at_call 14; refine (toIntS_any _ _ z0 _ hC0.z hn0).mono ?_; rintro e v1x ⟨rfl, r1, b1⟩; have hC1 := hC0.carry b1; have n1 := b1; have hS1 : v1x.cell? ⟨w.heap.size, 0, none⟩ = some (.int .i64 r) ∧ v1x.cell? ⟨w.heap.size, 1, none⟩ = some (.int .i64 a) ∧ v1x.cell? ⟨w.heap.size, 2, none⟩ = some (.int .i64 d) ∧ v1x.cell? ⟨w.heap.size, 3, none⟩ = some (.slice A ps.length c) ∧ v1x.cell? ⟨w.heap.size + 1, 0, none⟩ = some (.int .i64 r') ∧ v1x.cell? ⟨w.heap.size + 1, 1, none⟩ = some (.int .i64 a') ∧ v1x.cell? ⟨w.heap.size + 1, 2, none⟩ = some (.int .i64 d') ∧ v1x.cell? ⟨w.heap.size + 1, 3, none⟩ = some (.slice A' qs.length c') := ⟨hC1.x.cell rfl, hC1.x.cell rfl, hC1.x.cell rfl, hC1.x.cell rfl, hC1.y.cell rfl, hC1.y.cell rfl, hC1.y.cell rfl, hC1.y.cell rfl⟩; have j2 : IntsUp v1x 0 _ z0 := up_row r1; clear r1 b1)))
    have bx := undrew n4
    clear hC0 hC1 hC2 hC3 hC4 hS0 hS1 hS2 hS3 hS4 j2 j3 j4 o4 hz4 n1 n2 n3 n4 l2
    replace C := Lib.hid (C.out.carry bx)
    replace LW := Lib.hid (LW.out.below (bx.mono hL))
    replace hL := Nat.le_trans hL bx.size
    replace HD := Lib.hid (HD.out.carry bx)
    replace Q1 := Lib.hid (Q1.out.carry bx)
    replace Q2 := Lib.hid (Q2.out.carry bx)
    clear bx
    go_wp2_with fail
    refine (eqIntS_one _ _ _ _ gl _ _ hH.out (LW.out.more hL) hgll).mono ?_
    rintro e w20 ⟨rfl, q20⟩
    have b20 := q20.below v4x.heap.size
    clear hH
    replace C := Lib.hid (C.out.carry b20)
    replace LW := Lib.hid (LW.out.below (b20.mono hL))
    replace hL := Nat.le_trans hL b20.size
    replace HD := Lib.hid (HD.out.carry b20)
    replace Q1 := Lib.hid (Q1.out.carry b20)
    replace Q2 := Lib.hid (Q2.out.carry b20)
    clear q20 b20
    go_wp2_with fail
    refine (l_heldIntS _ _ gl.length _ _ HD.out hgll (by omega) (by omega)).mono ?_
    rintro e w' ⟨rfl, rfl⟩
    go_wp2_with fail
    go_ret
    exact ⟨rfl, C.out.be⟩
theorem walk (a0 : Option Addr) (c0 : Nat) (z0 : List Int) (x1 x2 : XTally) (w : World) (h0 : Ints w w.heap.size a0 z0) (hx1 : x1.Good w) (hx2 : x2.Good w) :
    Calls Try.prog 7 #[.slice a0 z0.length c0, x1.val, x2.val] w fun e w' => e = .returned (.bool true) ∧ Below w.heap.size w w' :=
  walk1 a0 c0 z0 x1.r x1.a x1.d x1.A x1.c x1.zs x2.r x2.a x2.d x2.A x2.c x2.zs w h0 hx1.1 hx2.1 hx1.2 hx2.2

set_option maxRecDepth 100000 in
theorem lifted (os : Os) (started : os.Started) (H : Type) (enc : TypeId × Value → H) :
    ReturnsInHanded {} Try.checked os 7 .any (Rows.fnExactTallyGuiltySpec.pre6 enc Try.prog Try.f7 Rows.fnExactTallyGuiltyRow.domain false) (Rows.fnExactTallyGuiltySpec.post enc Try.prog Try.f7 false true false false) := by
  refine returnsInHanded_of_change (C := Try.checked) own started (by kernel_rfl) Try.func7
    (ChangeSpec.witness6 (enc := enc) (C := Try.checked) false ⟨#[], #[.slice none 0 0, .agg #[.int .i64 0, .int .i64 0, .int .i64 0, .slice none 0 0], .agg #[.int .i64 0, .int .i64 0, .int .i64 0, .slice none 0 0]], []⟩ 8 (by kernel_rfl) (by kernel_rfl) (by kernel_rfl) (by kernel_rfl)) ?_
  intro W base args ds gs before hval0 hW hcnd _
  have hval : ∀ (j : Nat) t v, Try.f7.params[j]? = some t → args[j]? = some v → Value.okWide Try.prog W .any base t v := hval0
  have hW' := hW
  obtain ⟨p, q, hA0, hV, rfl, hfz, hnd⟩ := hW
  have hA : DataW.TrodAll enc Try.prog W 0 (fun _ => true) true Try.f7.params.toList args.toList ds p := hA0
  rw [Try.params7] at hA hval
  obtain ⟨v0, vs0, d0, ds0, p0, q0, hargs, rfl, rfl, h0, r0⟩ := trodAll_cons hA
  obtain ⟨v1, vs1, d1, ds1, p1, q1, rfl, rfl, rfl, h1, r1⟩ := trodAll_cons r0
  obtain ⟨v2, vs2, d2, ds2, p2, q2, rfl, rfl, rfl, h2, r2⟩ := trodAll_cons r1
  obtain ⟨rfl, rfl, rfl⟩ := trodAll_nil r2
  obtain rfl : args = #[v0, v1, v2] := by cases args; simp_all
  obtain ⟨rfl, rfl⟩ := trodVars_none hV
  obtain ⟨a0, len0, c0, rfl⟩ := okWide_slice Try.underlying22 (hval 0 22 v0 rfl rfl)
  have k0 := h0
  have lt0 : ∀ x ∈ p0, x.block < W.heap.size := by obtain ⟨m, hm⟩ := k0; exact DataW.trod_lt m _ _ _ hm
  obtain ⟨z0, rfl, w0⟩ := ints_of_trod h0
  have k1 := h1
  have lt1 : ∀ x ∈ p1, x.block < W.heap.size := by obtain ⟨m, hm⟩ := k1; exact DataW.trod_lt m _ _ _ hm
  obtain ⟨x1, rfl, w1⟩ := open_tally (hval 1 _ v1 rfl rfl) h1
  have k2 := h2
  have lt2 : ∀ x ∈ p2, x.block < W.heap.size := by obtain ⟨m, hm⟩ := k2; exact DataW.trod_lt m _ _ _ hm
  obtain ⟨x2, rfl, w2⟩ := open_tally (hval 2 _ v2 rfl rfl) h2
  clear hA0 hval0
  refine (walk a0 c0 z0 x1 x2 W w0 w1 w2).mono fun e W' ⟨he, bel⟩ => ?_
  subst he
  exact ⟨_, rfl, _, _, _, [], _, [], hW', trodAll_mk1 (shut_bool Try.underlying4 _), (trodAll_cons_mk (Below.trod laidOut (by kernel_rfl) (of_decide_eq_true (by kernel_rfl)) k0 bel lt0) (trodAll_cons_mk (Below.trod laidOut (by kernel_rfl) (of_decide_eq_true (by kernel_rfl)) k1 bel lt1) (trodAll_cons_mk (Below.trod laidOut (by kernel_rfl) (of_decide_eq_true (by kernel_rfl)) k2 bel lt2) trodAll_mk0))), rfl, bel.frame _, fun h => by cases h⟩

theorem over : Rows.fnExactTallyGuiltyRow.holds Try.pinned (OpenSpec.ofChange Rows.fnExactTallyGuiltySpec) :=
  OpenClaim.holds_of_wide 7 Try.f7 rfl rfl rfl rfl rfl rfl rfl ⟨rfl, rfl, rfl, rfl, rfl⟩ rfl rfl rfl rfl rfl (by kernel_rfl) Try.func7 (by kernel_rfl)
    (of_decide_eq_true (by kernel_rfl)) (by unfold Func.isWrapper; first | (rw [if_pos (by decide +kernel)]; kernel_rfl) | (rw [if_neg (by decide +kernel)]; exact ⟨rfl, rfl⟩))
    (fun os started H enc _ => lifted os started H enc)

/-- The given statement. -/
theorem proved : Rows.FnExactTallyGuiltySaid := over
#print axioms proved
end Go.Proofs.Ytohnodphlaoohaa.exTallyGuilty
