/- What the laws draw, further: a tally; a committee and two tallies. -/
import Derived.Test.YtohnodphlaoohaaDraw2
import Derived.Test.YtohnodphlaoohaaDrawV
import Derived.Deep.RegionHeld3
import Derived.RegionTactic
namespace Go.Proofs.Ytohnodphlaoohaa
open Go.RowKit
set_option linter.unusedVariables false
theorem set_grown (w : World) (q j : Nat) (u : Value) : w.grownBy (w.setCell ⟨q, j, none⟩ u) (some q) :=
  ⟨rfl, rfl, rfl, by simp [World.setCell], fun k hk hne => Below.heap_setCell _ _ _ _ (by intro e; exact hne (by rw [e]))⟩
theorem IntsUp.set {w : World} {L q j : Nat} {u : Value} {A : Option Addr} {zs : List Int} (h : IntsUp w L A zs) (hq : q < L) : IntsUp (w.setCell ⟨q, j, none⟩ u) L A zs := h.grown (set_grown w q j u) hq
theorem IntsUp.lt {w : World} {L g : Nat} {zs : List Int} (h : IntsUp w L (some ⟨g, 0, none⟩) zs) (hz : zs ≠ []) : g < w.heap.size := by
  obtain ⟨b, off, e, h1, h2, _⟩ := h hz
  injection e with e; injection e with e1; omega
theorem IntsUp.setAt {w : World} {L q g j : Nat} {u : Value} {zs : List Int} (h : IntsUp w L (some ⟨g, 0, none⟩) zs) (hq : zs ≠ [] → g < q) : IntsUp (w.setCell ⟨q, j, none⟩ u) L (some ⟨g, 0, none⟩) zs := fun hz => by
  obtain ⟨b, off, e, h1, h2, h3⟩ := h hz
  have hl := hq hz
  injection e with e; injection e with e1 e2
  subst e1 e2
  exact ⟨g, 0, rfl, h1, by simpa [World.setCell] using h2, fun i hi => (World.cell?_setCell_other w _ _ _ (fun e => by injection e with e1; omega)).trans (h3 i hi)⟩
/-- A tally was drawn. -/
def DrawnTally (w : World) (B r P M : Nat) (e : Ending) (w' : World) : Prop :=
  ∃ (x : VVote) (g c : Nat) (ms : List Int), e = .returned (.agg #[.int .i64 x.r, .int .i64 x.a, .int .i64 x.d, .slice (some ⟨g, 0, none⟩) ms.length c]) ∧ IntsUp w' (w.heap.size + 1) (some ⟨g, 0, none⟩) ms ∧ ms.length ≤ M ∧ RdAt w' B r P ∧ w.grownBy w' (some r)
set_option maxHeartbeats 2000000 in
theorem s_l92Tally (w : World) (B r P n c : Nat) (A : Option Addr) (h : RdAt w B r P) (hP : P ≤ 800000) (hn : n ≤ 1000) :
    Calls Try.prog 68 #[.pointer (some ⟨r, 0, none⟩), .slice A n c] w (DrawnTally w B r (P + n + 12) (n + 1)) := by
  have hrl := h.lt
  have H := Lib.hid h
  clear h
  go_enter Try.func68, Try.ntmps68
  go_wp2_with fail
  refine (s_l92Vote _ B r _ (H.out.carry (allocB _ _)) (by omega)).mono ?_
  rintro e w1 ⟨x, rfl, r1, g1⟩
  have z1 := (Box.new w #[.int .i64 0, .int .i64 0, .int .i64 0, .slice none 0 0] 37).grown g1 (fun k hk => by injection hk; omega)
  have G1 := Lib.hid ((gr_alloc (gr_refl w r) (.cells #[.int .i64 0, .int .i64 0, .int .i64 0, .slice none 0 0] 37)).trans g1)
  have hz1 : w.heap.size + 1 ≤ w1.heap.size := by have := g1.size; simpa using this
  have Z1 := Lib.hid z1
  have R1 := Lib.hid r1
  clear z1 r1 g1
  go_wp2_with fail
  refine (s_l91Members _ B r _ n R1.out (by omega) hn).mono ?_
  rintro e w2 ⟨g, c2, ms, rfl, u2, l2, lc2, r2, g2⟩
  have z2 := Z1.out.grown g2 (fun k hk => by injection hk; omega)
  have G2 := Lib.hid (G1.out.trans g2)
  have U2 := Lib.hid u2
  have R2 := Lib.hid r2
  have c0 := z2.cell (j := 0) (u := .int .i64 0) rfl
  have c1 := z2.cell (j := 1) (u := .int .i64 0) rfl
  have c2' := z2.cell (j := 2) (u := .int .i64 0) rfl
  have c3 := z2.cell (j := 3) (u := .slice none 0 0) rfl
  have f0 := z2.free 0
  have f1 := z2.free 1
  have f2 := z2.free 2
  have f3 := z2.free 3
  clear z2 u2 r2 g2
  go_wp2_with fail
  refine bodyPost_ret (v := .agg #[.int .i64 x.r, .int .i64 x.a, .int .i64 x.d, .slice (some ⟨g, 0, none⟩) ms.length c2]) (by simp [results, Try.results68, go_sem, *]) rfl ⟨x, g, c2, ms, rfl, ?_, l2, ?_, ?_⟩
  · exact ((((U2.out.less hz1).set (by omega)).set (by omega)).set (by omega)).set (by omega)
  · exact ((((R2.out.set hrl _ _).set hrl _ _).set hrl _ _).set hrl _ _).mono (by omega)
  · exact gr_set (gr_set (gr_set (gr_set G2.out (Nat.le_refl _) _ _) (Nat.le_refl _) _ _) (Nat.le_refl _) _ _) (Nat.le_refl _) _ _
/-- What is drawn so far: the zero tallies of the result; the committee; two tallies in their boxes. -/
structure Gx (w : World) (r P p q : Nat) (g : Nat) (zs : List Int) (v u : VVote) (gm cm : Nat) (ms : List Int) (gn cn : Nat) (ns : List Int) (W : World) : Prop where
  rd : RdAt W r r P
  be : Below w.heap.size w W
  z1 : Box W w.heap.size 37 #[.int .i64 0, .int .i64 0, .int .i64 0, .slice none 0 0]
  z2 : Box W (w.heap.size + 1) 37 #[.int .i64 0, .int .i64 0, .int .i64 0, .slice none 0 0]
  x : Box W p 37 #[.int .i64 v.r, .int .i64 v.a, .int .i64 v.d, .slice (some ⟨gm, 0, none⟩) ms.length cm]
  y : Box W q 37 #[.int .i64 u.r, .int .i64 u.a, .int .i64 u.d, .slice (some ⟨gn, 0, none⟩) ns.length cn]
  uz : IntsUp W (r + 1) (some ⟨g, 0, none⟩) zs
  um : IntsUp W (r + 1) (some ⟨gm, 0, none⟩) ms
  un : IntsUp W (r + 1) (some ⟨gn, 0, none⟩) ns
  hr : w.heap.size + 1 < r
  hp : r < p
  hq : p < q
  lz : zs ≠ [] → g < q
  lm : ms ≠ [] → gm < q
  ln : ns ≠ [] → gn < q
section
variable {w W W' : World} {r P P' p q g gm cm gn cn : Nat} {zs ms ns : List Int} {v u : VVote}
theorem Gx.grown (h : Gx w r P p q g zs v u gm cm ms gn cn ns W) (hg : W.grownBy W' (some r)) (hr : RdAt W' r r P') : Gx w r P' p q g zs v u gm cm ms gn cn ns W' := by
  have h1 := h.hr
  have h2 := h.hp
  have h3 := h.hq
  have h4 := h.be.size
  exact ⟨hr, h.be.trans (gr_to_below hg (by omega) h4), h.z1.grown hg (fun k hk => by injection hk; omega), h.z2.grown hg (fun k hk => by injection hk; omega), h.x.grown hg (fun k hk => by injection hk; omega), h.y.grown hg (fun k hk => by injection hk; omega), h.uz.grown hg (by omega), h.um.grown hg (by omega), h.un.grown hg (by omega), h.hr, h.hp, h.hq, h.lz, h.lm, h.ln⟩
theorem Gx.carry (h : Gx w r P p q g zs v u gm cm ms gn cn ns W) (hb : Below W.heap.size W W') : Gx w r P p q g zs v u gm cm ms gn cn ns W' :=
  ⟨h.rd.carry hb, next h.be hb, h.z1.carry hb, h.z2.carry hb, h.x.carry hb, h.y.carry hb, h.uz.carry hb, h.um.carry hb, h.un.carry hb, h.hr, h.hp, h.hq, h.lz, h.lm, h.ln⟩
theorem Gx.y0 (h : Gx w r P p q g zs v u gm cm ms gn cn ns W) (z : Int) : Gx w r P p q g zs v ⟨z, u.a, u.d⟩ gm cm ms gn cn ns (W.setCell ⟨q, 0, none⟩ (.int .i64 z)) := by
  have h1 := h.hr
  have h2 := h.hp
  have h3 := h.hq
  exact ⟨h.rd.set (by omega) _ _, h.be.setCell (by show w.heap.size ≤ q; omega) _, h.z1.other (by omega) _ _, h.z2.other (by omega) _ _, h.x.other (by omega) _ _, h.y.set 0 _, h.uz.setAt h.lz, h.um.setAt h.lm, h.un.setAt h.ln, h.hr, h.hp, h.hq, h.lz, h.lm, h.ln⟩
theorem Gx.y1 (h : Gx w r P p q g zs v u gm cm ms gn cn ns W) (z : Int) : Gx w r P p q g zs v ⟨u.r, z, u.d⟩ gm cm ms gn cn ns (W.setCell ⟨q, 1, none⟩ (.int .i64 z)) := by
  have h1 := h.hr
  have h2 := h.hp
  have h3 := h.hq
  exact ⟨h.rd.set (by omega) _ _, h.be.setCell (by show w.heap.size ≤ q; omega) _, h.z1.other (by omega) _ _, h.z2.other (by omega) _ _, h.x.other (by omega) _ _, h.y.set 1 _, h.uz.setAt h.lz, h.um.setAt h.lm, h.un.setAt h.ln, h.hr, h.hp, h.hq, h.lz, h.lm, h.ln⟩
theorem Gx.y2 (h : Gx w r P p q g zs v u gm cm ms gn cn ns W) (z : Int) : Gx w r P p q g zs v ⟨u.r, u.a, z⟩ gm cm ms gn cn ns (W.setCell ⟨q, 2, none⟩ (.int .i64 z)) := by
  have h1 := h.hr
  have h2 := h.hp
  have h3 := h.hq
  exact ⟨h.rd.set (by omega) _ _, h.be.setCell (by show w.heap.size ≤ q; omega) _, h.z1.other (by omega) _ _, h.z2.other (by omega) _ _, h.x.other (by omega) _ _, h.y.set 2 _, h.uz.setAt h.lz, h.um.setAt h.lm, h.un.setAt h.ln, h.hr, h.hp, h.hq, h.lz, h.lm, h.ln⟩
/-- What the law gets. -/
def DrawnG (w : World) (e : Ending) (w' : World) : Prop :=
  ∃ (g c : Nat) (zs : List Int) (v u : VVote) (gm cm : Nat) (ms : List Int) (gn cn : Nat) (ns : List Int), e = .returned (.tuple #[.slice (some ⟨g, 0, none⟩) zs.length c, .agg #[.int .i64 v.r, .int .i64 v.a, .int .i64 v.d, .slice (some ⟨gm, 0, none⟩) ms.length cm], .agg #[.int .i64 u.r, .int .i64 u.a, .int .i64 u.d, .slice (some ⟨gn, 0, none⟩) ns.length cn]]) ∧ zs.length ≤ 11 ∧ ms.length ≤ 12 ∧ ns.length ≤ 12 ∧ Ints w' w'.heap.size (some ⟨g, 0, none⟩) zs ∧ Ints w' w'.heap.size (some ⟨gm, 0, none⟩) ms ∧ Ints w' w'.heap.size (some ⟨gn, 0, none⟩) ns ∧ Below w.heap.size w w'
theorem Gx.fin (h : Gx w r P p q g zs v u gm cm ms gn cn ns W) (c : Nat) (l1 : zs.length ≤ 11) (l2 : ms.length ≤ 12) (l3 : ns.length ≤ 12) : DrawnG w (.returned (.tuple #[.slice (some ⟨g, 0, none⟩) zs.length c, .agg #[.int .i64 v.r, .int .i64 v.a, .int .i64 v.d, .slice (some ⟨gm, 0, none⟩) ms.length cm], .agg #[.int .i64 u.r, .int .i64 u.a, .int .i64 u.d, .slice (some ⟨gn, 0, none⟩) ns.length cn]])) ((((((((W.setCell ⟨w.heap.size, 0, none⟩ (.int .i64 v.r)).setCell ⟨w.heap.size, 1, none⟩ (.int .i64 v.a)).setCell ⟨w.heap.size, 2, none⟩ (.int .i64 v.d)).setCell ⟨w.heap.size, 3, none⟩ (.slice (some ⟨gm, 0, none⟩) ms.length cm)).setCell ⟨w.heap.size + 1, 0, none⟩ (.int .i64 u.r)).setCell ⟨w.heap.size + 1, 1, none⟩ (.int .i64 u.a)).setCell ⟨w.heap.size + 1, 2, none⟩ (.int .i64 u.d)).setCell ⟨w.heap.size + 1, 3, none⟩ (.slice (some ⟨gn, 0, none⟩) ns.length cn)) := by
  have h1 := h.hr
  have st : ∀ {A : Option Addr} {xs : List Int}, IntsUp W (r + 1) A xs → Ints ((((((((W.setCell ⟨w.heap.size, 0, none⟩ (.int .i64 v.r)).setCell ⟨w.heap.size, 1, none⟩ (.int .i64 v.a)).setCell ⟨w.heap.size, 2, none⟩ (.int .i64 v.d)).setCell ⟨w.heap.size, 3, none⟩ (.slice (some ⟨gm, 0, none⟩) ms.length cm)).setCell ⟨w.heap.size + 1, 0, none⟩ (.int .i64 u.r)).setCell ⟨w.heap.size + 1, 1, none⟩ (.int .i64 u.a)).setCell ⟨w.heap.size + 1, 2, none⟩ (.int .i64 u.d)).setCell ⟨w.heap.size + 1, 3, none⟩ (.slice (some ⟨gn, 0, none⟩) ns.length cn)) ((((((((W.setCell ⟨w.heap.size, 0, none⟩ (.int .i64 v.r)).setCell ⟨w.heap.size, 1, none⟩ (.int .i64 v.a)).setCell ⟨w.heap.size, 2, none⟩ (.int .i64 v.d)).setCell ⟨w.heap.size, 3, none⟩ (.slice (some ⟨gm, 0, none⟩) ms.length cm)).setCell ⟨w.heap.size + 1, 0, none⟩ (.int .i64 u.r)).setCell ⟨w.heap.size + 1, 1, none⟩ (.int .i64 u.a)).setCell ⟨w.heap.size + 1, 2, none⟩ (.int .i64 u.d)).setCell ⟨w.heap.size + 1, 3, none⟩ (.slice (some ⟨gn, 0, none⟩) ns.length cn)).heap.size A xs := fun hu => ((((((((hu.set (by omega)).set (by omega)).set (by omega)).set (by omega)).set (by omega)).set (by omega)).set (by omega)).set (by omega)).ints
  refine ⟨g, c, zs, v, u, gm, cm, ms, gn, cn, ns, rfl, l1, l2, l3, st h.uz, st h.um, st h.un, ?_⟩
  exact (((((((h.be.setCell (Nat.le_refl _) _).setCell (Nat.le_refl _) _).setCell (Nat.le_refl _) _).setCell (Nat.le_refl _) _).setCell (Nat.le_succ _) _).setCell (Nat.le_succ _) _).setCell (Nat.le_succ _) _).setCell (Nat.le_succ _) _
theorem DrawnG.drew {w W : World} {e : Ending} (h : DrawnG w e W) : DrawnG w e W.drew := by
  obtain ⟨g, c, zs, v, u, gm, cm, ms, gn, cn, ns, he, l1, l2, l3, i1, i2, i3, hb⟩ := h
  exact ⟨g, c, zs, v, u, gm, cm, ms, gn, cn, ns, he, l1, l2, l3, i1, i2, i3, hb.drew⟩
end
set_option maxHeartbeats 8000000 in
theorem s_DrawTallyGuilty (A : Option Addr) (c : Nat) (zz : List Int) (w : World) (h : Bytes w w.heap.size A zz) (hc : zz.length ≤ c) (hn : zz.length ≤ 1048576) :
    Calls Try.prog 21 #[.slice A zz.length c] w (DrawnG w) := by
  have H := Lib.hid h
  clear h
  go_enter Try.func21, Try.ntmps21
  go_wp2_with fail
  refine (l6Open_any _ _ _ _ ((H.out.below (allocB2 w _ _)).more (by simp; omega)) hc hn).mono ?_
  rintro e w1 ⟨rfl, r1, b1, s1⟩
  have o1 := ((Box.new w #[.int .i64 0, .int .i64 0, .int .i64 0, .slice none 0 0] 37).carry (allocB _ _)).carry b1
  have p1 := (Box.new (w.alloc _) #[.int .i64 0, .int .i64 0, .int .i64 0, .slice none 0 0] 37).carry b1
  have bw := (allocB2 w _ _).trans (b1.mono (by simp; omega))
  have hs1 : w.heap.size + 2 < w1.heap.size := by simp at s1; omega
  simp at r1 p1
  have R1 := Lib.hid r1
  have O1 := Lib.hid o1
  have P1 := Lib.hid p1
  have BW := Lib.hid bw
  clear r1 b1 s1 o1 p1 bw
  go_wp2_with fail
  refine (s_l91Committee _ _ _ _ R1.out (by omega)).mono ?_
  rintro e w2 ⟨g, c2, zs, rfl, u2, l2, lc2, r2, g2⟩
  have hz2 := g2.size
  have O2 := Lib.hid (O1.out.grown g2 (fun k hk => by injection hk; omega))
  have P2 := Lib.hid (P1.out.grown g2 (fun k hk => by injection hk; omega))
  have BW2 := Lib.hid (BW.out.trans (gr_to_below g2 (B := w.heap.size) (by omega) (by omega)))
  have U2 := Lib.hid (u2.less (L' := w.heap.size + 3) (by omega))
  have R2 := Lib.hid r2
  clear u2 r2 g2 O1 P1 BW R1
  go_wp2_with fail
  refine (s_l92Tally _ _ _ _ zs.length _ _ R2.out (by omega) (by omega)).mono ?_
  rintro e w3 ⟨v, gm, cm, ms, rfl, u3, l3, r3, g3⟩
  have hz3 := g3.size
  have O3 := Lib.hid ((O2.out.grown g3 (fun k hk => by injection hk; omega)).carry (allocB w3 (.cells #[.int .i64 v.r, .int .i64 v.a, .int .i64 v.d, .slice (some ⟨gm, 0, none⟩) ms.length cm] 37)))
  have P3 := Lib.hid ((P2.out.grown g3 (fun k hk => by injection hk; omega)).carry (allocB w3 (.cells #[.int .i64 v.r, .int .i64 v.a, .int .i64 v.d, .slice (some ⟨gm, 0, none⟩) ms.length cm] 37)))
  have X3 := Lib.hid (Box.new w3 #[.int .i64 v.r, .int .i64 v.a, .int .i64 v.d, .slice (some ⟨gm, 0, none⟩) ms.length cm] 37)
  have BW3 := Lib.hid (next (BW2.out.trans (gr_to_below g3 (B := w.heap.size) (by omega) (by omega))) (allocB w3 (.cells #[.int .i64 v.r, .int .i64 v.a, .int .i64 v.d, .slice (some ⟨gm, 0, none⟩) ms.length cm] 37)))
  have U3 := Lib.hid ((U2.out.grown g3 (by omega)).carry (allocB w3 (.cells #[.int .i64 v.r, .int .i64 v.a, .int .i64 v.d, .slice (some ⟨gm, 0, none⟩) ms.length cm] 37)))
  have M3 := Lib.hid ((u3.less (L' := w.heap.size + 3) (by omega)).carry (allocB w3 (.cells #[.int .i64 v.r, .int .i64 v.a, .int .i64 v.d, .slice (some ⟨gm, 0, none⟩) ms.length cm] 37)))
  have R3 := Lib.hid (r3.carry (allocB w3 (.cells #[.int .i64 v.r, .int .i64 v.a, .int .i64 v.d, .slice (some ⟨gm, 0, none⟩) ms.length cm] 37)))
  clear u3 r3 g3 O2 P2 BW2 R2 U2
  go_wp2_with fail
  refine (s_l92Tally _ _ _ _ zs.length _ _ R3.out (by omega) (by omega)).mono ?_
  rintro e w4 ⟨u, gn, cn, ns, rfl, u4, l4, r4, g4⟩
  have hz4 : w3.heap.size + 1 ≤ w4.heap.size := by have := g4.size; simpa using this
  have u40 : w.heap.size + 3 ≤ (w3.alloc (.cells #[.int .i64 v.r, .int .i64 v.a, .int .i64 v.d, .slice (some ⟨gm, 0, none⟩) ms.length cm] 37)).heap.size + 1 := by simp; omega
  have uz4 := U3.out.grown g4 (by omega)
  have um4 := M3.out.grown g4 (by omega)
  have un4 := u4.less u40
  have ba := allocB w4 (.cells #[.int .i64 u.r, .int .i64 u.a, .int .i64 u.d, .slice (some ⟨gn, 0, none⟩) ns.length cn] 37)
  have S4 := Lib.hid (show Gx w (w.heap.size + 2) (0 + 20 + zs.length + 12 + zs.length + 12) w3.heap.size w4.heap.size g zs v u gm cm ms gn cn ns (w4.alloc (.cells #[.int .i64 u.r, .int .i64 u.a, .int .i64 u.d, .slice (some ⟨gn, 0, none⟩) ns.length cn] 37)) from
    ⟨r4.carry ba, next (BW3.out.trans (gr_to_below g4 (B := w.heap.size) (by omega) BW3.out.size)) ba, (O3.out.grown g4 (fun k hk => by injection hk; omega)).carry ba, (P3.out.grown g4 (fun k hk => by injection hk; omega)).carry ba, (X3.out.grown g4 (fun k hk => by injection hk; omega)).carry ba, Box.new w4 _ _, uz4.carry ba, um4.carry ba, un4.carry ba, by omega, by omega, by omega, fun hh => uz4.lt hh, fun hh => um4.lt hh, fun hh => un4.lt hh⟩)
  have hpq : w3.heap.size < w4.heap.size := by omega
  have hrp : w.heap.size + 2 < w3.heap.size := by omega
  clear uz4 um4 un4 u4 r4 g4 ba O3 P3 X3 BW3 U3 M3 R3 u40
  go_wp2_with fail
  generalize w4.alloc (.cells #[.int .i64 u.r, .int .i64 u.a, .int .i64 u.d, .slice (some ⟨gn, 0, none⟩) ns.length cn] 37) = w5 at *
  generalize w4.heap.size = q at *
  generalize w3.heap.size = p at *
  refine (pick_any _ _ _ _ 4 S4.out.rd (by omega)).mono ?_
  rintro e w6 ⟨k6, rfl, hk60, _, hk69, r6, g6, _⟩
  have hk6 := hk69 (by omega)
  have S6 := Lib.hid (S4.out.grown g6 r6)
  clear r6 g6 hk69 S4
  by_cases hk : 0 < k6
  · have hd : decide (0 < k6) = true := by simpa using hk
    have S7 := Lib.hid (((S6.out.y0 v.r).y1 v.a).y2 v.d)
    have hnpq : p ≠ q := by omega
    have a0 := S6.out.x.cell (j := 0) (u := .int .i64 v.r) rfl
    have a1 := S6.out.x.cell (j := 1) (u := .int .i64 v.a) rfl
    have a2 := S6.out.x.cell (j := 2) (u := .int .i64 v.d) rfl
    have a3 := S6.out.x.cell (j := 3) (u := .slice (some ⟨gm, 0, none⟩) ms.length cm) rfl
    have b0 := S6.out.y.cell (j := 0) (u := .int .i64 u.r) rfl
    have bf0 := S6.out.y.free 0
    have b1 := S6.out.y.cell (j := 1) (u := .int .i64 u.a) rfl
    have bf1 := S6.out.y.free 1
    have b2 := S6.out.y.cell (j := 2) (u := .int .i64 u.d) rfl
    have bf2 := S6.out.y.free 2
    have b3 := S6.out.y.cell (j := 3) (u := .slice (some ⟨gn, 0, none⟩) ns.length cn) rfl
    have bf3 := S6.out.y.free 3
    go_wp2_with fail
    clear a0 b0 bf0 a1 b1 bf1 a2 b2 bf2 a3 b3 bf3
    generalize ((w6.setCell ⟨q, 0, none⟩ (.int .i64 v.r)).setCell ⟨q, 1, none⟩ (.int .i64 v.a)).setCell ⟨q, 2, none⟩ (.int .i64 v.d) = w7 at *
    have hS7 := S7.out.carry (Below.refl w7.heap.size w7).drew
    have hd7 : w7.drew.cell? ⟨p, 2, none⟩ = some (.int .i64 v.d) := hS7.x.cell rfl
    go_region_held3 (fun W => W.cell? ⟨p, 2, none⟩ = some (.int .i64 v.d)) (first | (with_reducible assumption) | (with_reducible exact hd8) | (with_reducible exact hd9) | go_keep)
      ((go_at_call 69; refine (pick_any _ _ _ _ 3 hS7.rd (by omega)).mono ?_; rintro e w8 ⟨k8, rfl, hk80, _, hk89, r8, g8, _⟩; have hS8 := hS7.grown g8 r8; have hd8 : w8.cell? ⟨p, 2, none⟩ = some (.int .i64 v.d) := hS8.x.cell rfl; have hS9 := hS8.y2 (IntKind.i64.wrap (v.d + k8)); have hd9 : (w8.setCell ⟨q, 2, none⟩ (.int .i64 (IntKind.i64.wrap (v.d + k8)))).cell? ⟨p, 2, none⟩ = some (.int .i64 v.d) := hS9.x.cell rfl; have b2 := hS8.y.cell (j := 2) (u := .int .i64 v.d) rfl; have bf2 := hS8.y.free 2; clear r8 g8 hk89))
    all_goals
      have S9 := Lib.hid hS9
      clear hS7 hS8 hS9 hd7 hd8 hd9 b2 bf2
      generalize hwr : IntKind.i64.wrap (v.d + k8) = d9 at *
      clear hwr
      generalize w8.setCell ⟨q, 2, none⟩ (.int .i64 d9) = w9 at *
      have a0 := S9.out.x.cell (j := 0) (u := .int .i64 v.r) rfl
      have a1 := S9.out.x.cell (j := 1) (u := .int .i64 v.a) rfl
      have a2 := S9.out.x.cell (j := 2) (u := .int .i64 v.d) rfl
      have a3 := S9.out.x.cell (j := 3) (u := .slice (some ⟨gm, 0, none⟩) ms.length cm) rfl
      have b0 := S9.out.y.cell (j := 0) (u := .int .i64 v.r) rfl
      have bf0 := S9.out.y.free 0
      have b1 := S9.out.y.cell (j := 1) (u := .int .i64 v.a) rfl
      have bf1 := S9.out.y.free 1
      have b2 := S9.out.y.cell (j := 2) (u := .int .i64 d9) rfl
      have bf2 := S9.out.y.free 2
      have b3 := S9.out.y.cell (j := 3) (u := .slice (some ⟨gn, 0, none⟩) ns.length cn) rfl
      have bf3 := S9.out.y.free 3
      have y0 := S9.out.z1.cell (j := 0) (u := .int .i64 0) rfl
      have yf0 := S9.out.z1.free 0
      have y1 := S9.out.z1.cell (j := 1) (u := .int .i64 0) rfl
      have yf1 := S9.out.z1.free 1
      have y2 := S9.out.z1.cell (j := 2) (u := .int .i64 0) rfl
      have yf2 := S9.out.z1.free 2
      have y3 := S9.out.z1.cell (j := 3) (u := .slice none 0 0) rfl
      have yf3 := S9.out.z1.free 3
      have z0 := S9.out.z2.cell (j := 0) (u := .int .i64 0) rfl
      have zf0 := S9.out.z2.free 0
      have z1 := S9.out.z2.cell (j := 1) (u := .int .i64 0) rfl
      have zf1 := S9.out.z2.free 1
      have z2 := S9.out.z2.cell (j := 2) (u := .int .i64 0) rfl
      have zf2 := S9.out.z2.free 2
      have z3 := S9.out.z2.cell (j := 3) (u := .slice none 0 0) rfl
      have zf3 := S9.out.z2.free 3
      go_wp2_with fail
      go_region
      all_goals
        go_wp2_with fail
        exact bodyPost_ret (v := .tuple #[.slice (some ⟨g, 0, none⟩) zs.length c2, .agg #[.int .i64 v.r, .int .i64 v.a, .int .i64 v.d, .slice (some ⟨gm, 0, none⟩) ms.length cm], .agg #[.int .i64 v.r, .int .i64 v.a, .int .i64 d9, .slice (some ⟨gn, 0, none⟩) ns.length cn]]) (by simp [results, Try.results21, go_sem, *]) rfl (S9.out.fin c2 l2 (by omega) (by omega)).drew
  · have hd : decide (0 < k6) = false := by simpa using hk
    have a0 := S6.out.x.cell (j := 0) (u := .int .i64 v.r) rfl
    have a1 := S6.out.x.cell (j := 1) (u := .int .i64 v.a) rfl
    have a2 := S6.out.x.cell (j := 2) (u := .int .i64 v.d) rfl
    have a3 := S6.out.x.cell (j := 3) (u := .slice (some ⟨gm, 0, none⟩) ms.length cm) rfl
    have b0 := S6.out.y.cell (j := 0) (u := .int .i64 u.r) rfl
    have bf0 := S6.out.y.free 0
    have b1 := S6.out.y.cell (j := 1) (u := .int .i64 u.a) rfl
    have bf1 := S6.out.y.free 1
    have b2 := S6.out.y.cell (j := 2) (u := .int .i64 u.d) rfl
    have bf2 := S6.out.y.free 2
    have b3 := S6.out.y.cell (j := 3) (u := .slice (some ⟨gn, 0, none⟩) ns.length cn) rfl
    have bf3 := S6.out.y.free 3
    have y0 := S6.out.z1.cell (j := 0) (u := .int .i64 0) rfl
    have yf0 := S6.out.z1.free 0
    have y1 := S6.out.z1.cell (j := 1) (u := .int .i64 0) rfl
    have yf1 := S6.out.z1.free 1
    have y2 := S6.out.z1.cell (j := 2) (u := .int .i64 0) rfl
    have yf2 := S6.out.z1.free 2
    have y3 := S6.out.z1.cell (j := 3) (u := .slice none 0 0) rfl
    have yf3 := S6.out.z1.free 3
    have z0 := S6.out.z2.cell (j := 0) (u := .int .i64 0) rfl
    have zf0 := S6.out.z2.free 0
    have z1 := S6.out.z2.cell (j := 1) (u := .int .i64 0) rfl
    have zf1 := S6.out.z2.free 1
    have z2 := S6.out.z2.cell (j := 2) (u := .int .i64 0) rfl
    have zf2 := S6.out.z2.free 2
    have z3 := S6.out.z2.cell (j := 3) (u := .slice none 0 0) rfl
    have zf3 := S6.out.z2.free 3
    go_wp2_with fail
    go_region
    all_goals
      go_wp2_with fail
      exact bodyPost_ret (v := .tuple #[.slice (some ⟨g, 0, none⟩) zs.length c2, .agg #[.int .i64 v.r, .int .i64 v.a, .int .i64 v.d, .slice (some ⟨gm, 0, none⟩) ms.length cm], .agg #[.int .i64 u.r, .int .i64 u.a, .int .i64 u.d, .slice (some ⟨gn, 0, none⟩) ns.length cn]]) (by simp [results, Try.results21, go_sem, *]) rfl (S6.out.fin c2 l2 (by omega) (by omega)).drew
end Go.Proofs.Ytohnodphlaoohaa
