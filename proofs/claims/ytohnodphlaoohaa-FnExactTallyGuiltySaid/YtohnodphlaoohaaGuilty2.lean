/- Guilty members of two tallies: the program's and the reference's TallyGuilty. -/
import Derived.Test.YtohnodphlaoohaaGuilty
import Derived.Deep.RegionHeld3
namespace Go.Proofs.Ytohnodphlaoohaa
open Go.RowKit
set_option linter.unusedVariables false

def guiltB (zs ms ns : List Int) (r a d r' a' d' : Int) : Bool := tallyB zs ms r a d && (tallyB zs ns r' a' d' && contraI r a d r' a' d')
def guilty (zs ms ns : List Int) (r a d r' a' d' : Int) : List Int := if guiltB zs ms ns r a d r' a' d' = true then commonL ms ns else []
/-- A list of numbers was made in memory of its own; nothing else has turned. -/
def MadeO (w : World) (zs : List Int) (e : Ending) (w' : World) : Prop :=
  ∃ g cap : Nat, e = .returned (.slice (some ⟨g, 0, none⟩) zs.length cap) ∧ OwnI w' w.heap.size (.slice (some ⟨g, 0, none⟩) zs.length cap) zs ∧ Below w.heap.size w w'
theorem made_none {w w' : World} {g : Nat} {zs : List Int} {e : Ending} (hz : zs = []) (he : e = .returned (.slice (some ⟨g, 0, none⟩) 0 0)) (ho : OwnI w' w.heap.size (.slice (some ⟨g, 0, none⟩) 0 0) []) (hb : Below w.heap.size w w') : MadeO w zs e w' := by
  subst hz; exact ⟨g, 0, he, ho, hb⟩
/-- What both functions hold: the committee, the members, the two boxes, the empty row. -/
structure GC (w : World) (A A1 A2 : Option Addr) (c1 c2 : Nat) (zs ms ns : List Int) (r a d r' a' d' : Int) (W : World) : Prop where
  hz : Ints W w.heap.size A zs
  hm : Ints W w.heap.size A1 ms
  hn : Ints W w.heap.size A2 ns
  x : Box W w.heap.size 37 #[.int .i64 r, .int .i64 a, .int .i64 d, .slice A1 ms.length c1]
  y : Box W (w.heap.size + 1) 37 #[.int .i64 r', .int .i64 a', .int .i64 d', .slice A2 ns.length c2]
  be : Below w.heap.size w W
theorem GC.carry {w W W' : World} {A A1 A2 : Option Addr} {c1 c2 : Nat} {zs ms ns : List Int} {r a d r' a' d' : Int} (h : GC w A A1 A2 c1 c2 zs ms ns r a d r' a' d' W) (hb : Below W.heap.size W W') : GC w A A1 A2 c1 c2 zs ms ns r a d r' a' d' W' :=
  ⟨h.hz.below (hb.mono h.be.size), h.hm.below (hb.mono h.be.size), h.hn.below (hb.mono h.be.size), h.x.carry hb, h.y.carry hb, next h.be hb⟩
theorem GC.grown {w W W' : World} {A A1 A2 : Option Addr} {c1 c2 : Nat} {zs ms ns xs : List Int} {r a d r' a' d' : Int} {v : Value} (h : GC w A A1 A2 c1 c2 zs ms ns r a d r' a' d' W) (ho : OwnI W (w.heap.size + 2) v xs) (hg : W.grownBy W' v.ownBlock) : GC w A A1 A2 c1 c2 zs ms ns r a d r' a' d' W' := by
  have hb : Below w.heap.size W W' := (Below.refl w.heap.size W).grown hg h.be.size (fun k hk => by have := ho.base_le k hk; omega)
  exact ⟨h.hz.below hb, h.hm.below hb, h.hn.below hb, h.x.grown hg (fun k hk => by have := ho.base_le k hk; omega), h.y.grown hg (fun k hk => by have := ho.base_le k hk; omega), h.be.trans hb⟩
theorem OwnI.low {w : World} {base base' : Nat} {v : Value} {zs : List Int} (h : OwnI w base v zs) (hb : base' ≤ base) : OwnI w base' v zs := by
  refine ⟨⟨h.1.1, ?_⟩, h.2⟩
  rcases h.1.2 with h' | ⟨g, cap, cur, h1, h2, h3⟩
  · exact .inl h'
  · exact .inr ⟨g, cap, cur, h1, by omega, h3⟩
theorem GC.start (w : World) {A A1 A2 : Option Addr} {c1 c2 : Nat} {zs ms ns : List Int} {r a d r' a' d' : Int} (hz : Ints w w.heap.size A zs) (hm : Ints w w.heap.size A1 ms) (hn : Ints w w.heap.size A2 ns) :
    GC w A A1 A2 c1 c2 zs ms ns r a d r' a' d' (((w.alloc (.cells #[.int .i64 r, .int .i64 a, .int .i64 d, .slice A1 ms.length c1] 37)).alloc (.cells #[.int .i64 r', .int .i64 a', .int .i64 d', .slice A2 ns.length c2] 37)).alloc (.cells #[] 3)) ∧ OwnI (((w.alloc (.cells #[.int .i64 r, .int .i64 a, .int .i64 d, .slice A1 ms.length c1] 37)).alloc (.cells #[.int .i64 r', .int .i64 a', .int .i64 d', .slice A2 ns.length c2] 37)).alloc (.cells #[] 3)) (w.heap.size + 2) (.slice (some ⟨w.heap.size + 1 + 1, 0, none⟩) 0 0) [] := by
  have b := allocB3 w (.cells #[.int .i64 r, .int .i64 a, .int .i64 d, .slice A1 ms.length c1] 37) (.cells #[.int .i64 r', .int .i64 a', .int .i64 d', .slice A2 ns.length c2] 37) (.cells #[] 3)
  refine ⟨⟨hz.below b, hm.below b, hn.below b, ((Box.new w _ _).carry (allocB _ _)).carry (allocB _ _), ?_, b⟩, ?_⟩
  · have := (Box.new (w.alloc (.cells #[.int .i64 r, .int .i64 a, .int .i64 d, .slice A1 ms.length c1] 37)) #[.int .i64 r', .int .i64 a', .int .i64 d', .slice A2 ns.length c2] 37).carry (allocB _ (.cells #[] 3))
    simpa using this
  · have := OwnI.start (w := (w.alloc (.cells #[.int .i64 r, .int .i64 a, .int .i64 d, .slice A1 ms.length c1] 37)).alloc (.cells #[.int .i64 r', .int .i64 a', .int .i64 d', .slice A2 ns.length c2] 37)) (base := w.heap.size + 2) (by simp)
    simpa using this

set_option maxHeartbeats 4000000 in
theorem i_TallyGuilty_no (A A1 A2 : Option Addr) (c c1 c2 : Nat) (zs ms ns : List Int) (r a d r' a' d' : Int) (w : World) (hz : Ints w w.heap.size A zs) (hm : Ints w w.heap.size A1 ms) (hn : Ints w w.heap.size A2 ns) (lz : zs.length ≤ 1048576) (lm : ms.length ≤ 1048576) (ln : ns.length ≤ 1048576) (h0 : tallyB zs ms r a d = false ∨ (tallyB zs ms r a d = true ∧ tallyB zs ns r' a' d' = false)) :
    Calls Try.prog 22 #[.slice A zs.length c, .agg #[.int .i64 r, .int .i64 a, .int .i64 d, .slice A1 ms.length c1], .agg #[.int .i64 r', .int .i64 a', .int .i64 d', .slice A2 ns.length c2]] w (MadeO w []) := by
  rcases h0 with h1 | ⟨h1, h2⟩
  · have H1 := Lib.hid h1
    clear h1
    have st := GC.start (A := A) (A1 := A1) (A2 := A2) (c1 := c1) (c2 := c2) (r := r) (a := a) (d := d) (r' := r') (a' := a') (d' := d') w hz hm hn
    clear hz hm hn
    go_enter Try.func22, Try.ntmps22
    go_wp2_with fail
    generalize (((w.alloc (.cells #[.int .i64 r, .int .i64 a, .int .i64 d, .slice A1 ms.length c1] 37)).alloc (.cells #[.int .i64 r', .int .i64 a', .int .i64 d', .slice A2 ns.length c2] 37)).alloc (.cells #[] 3)) = W0 at *
    have G0 := Lib.hid st.1
    have O0 := Lib.hid st.2
    clear st
    have gx0 := fun p : GrowOf W0 => GrowOf.cell (G0.out.x.cell (j := 0) (u := .int .i64 r) rfl) p
    have gx1 := fun p : GrowOf W0 => GrowOf.cell (G0.out.x.cell (j := 1) (u := .int .i64 a) rfl) p
    have gx2 := fun p : GrowOf W0 => GrowOf.cell (G0.out.x.cell (j := 2) (u := .int .i64 d) rfl) p
    have gx3 := fun p : GrowOf W0 => GrowOf.cell (G0.out.x.cell (j := 3) (u := .slice A1 ms.length c1) rfl) p
    have gy0 := fun p : GrowOf W0 => GrowOf.cell (G0.out.y.cell (j := 0) (u := .int .i64 r') rfl) p
    have gy1 := fun p : GrowOf W0 => GrowOf.cell (G0.out.y.cell (j := 1) (u := .int .i64 a') rfl) p
    have gy2 := fun p : GrowOf W0 => GrowOf.cell (G0.out.y.cell (j := 2) (u := .int .i64 d') rfl) p
    have gy3 := fun p : GrowOf W0 => GrowOf.cell (G0.out.y.cell (j := 3) (u := .slice A2 ns.length c2) rfl) p
    have T1 : ∀ p : GrowOf W0, Calls Try.prog 70 #[.slice A zs.length c, .agg #[.int .i64 r, .int .i64 a, .int .i64 d, .slice A1 ms.length c1]] p.W fun e w' => e = .returned (.bool false) ∧ Below p.W.heap.size p.W w' := fun p => by
      have h := i_tallyValid r a d A A1 c c1 zs ms p.W (GrowOf.ints (G0.out.hz.more G0.out.be.size) p) (GrowOf.ints (G0.out.hm.more G0.out.be.size) p) lz lm
      rw [H1.out] at h; exact h
    have U1 := Lib.hid T1
    clear T1
    refine wp_region_grow (by kernel_rfl) (by kernel_rfl) ?_
    repeat (go_big_quiet_step (first | (go_at_call 70; with_reducible exact grow_below (U1.out _))))
    refine wpQuiet_nil ?_
    rintro _ ⟨pq, rfl⟩
    have HQ := Lib.hid pq.h
    clear gx0 gx1 gx2 gx3 gy0 gy1 gy2 gy3
    go_wp2_with fail
    go_ret
    exact made_none rfl rfl ((O0.out.below HQ.out).low (by omega)) (next G0.out.be HQ.out)
  · have H1 := Lib.hid h1
    have H2 := Lib.hid h2
    clear h1 h2
    have st := GC.start (A := A) (A1 := A1) (A2 := A2) (c1 := c1) (c2 := c2) (r := r) (a := a) (d := d) (r' := r') (a' := a') (d' := d') w hz hm hn
    clear hz hm hn
    go_enter Try.func22, Try.ntmps22
    go_wp2_with fail
    generalize (((w.alloc (.cells #[.int .i64 r, .int .i64 a, .int .i64 d, .slice A1 ms.length c1] 37)).alloc (.cells #[.int .i64 r', .int .i64 a', .int .i64 d', .slice A2 ns.length c2] 37)).alloc (.cells #[] 3)) = W0 at *
    have G0 := Lib.hid st.1
    have O0 := Lib.hid st.2
    clear st
    have gx0 := fun p : GrowOf W0 => GrowOf.cell (G0.out.x.cell (j := 0) (u := .int .i64 r) rfl) p
    have gx1 := fun p : GrowOf W0 => GrowOf.cell (G0.out.x.cell (j := 1) (u := .int .i64 a) rfl) p
    have gx2 := fun p : GrowOf W0 => GrowOf.cell (G0.out.x.cell (j := 2) (u := .int .i64 d) rfl) p
    have gx3 := fun p : GrowOf W0 => GrowOf.cell (G0.out.x.cell (j := 3) (u := .slice A1 ms.length c1) rfl) p
    have gy0 := fun p : GrowOf W0 => GrowOf.cell (G0.out.y.cell (j := 0) (u := .int .i64 r') rfl) p
    have gy1 := fun p : GrowOf W0 => GrowOf.cell (G0.out.y.cell (j := 1) (u := .int .i64 a') rfl) p
    have gy2 := fun p : GrowOf W0 => GrowOf.cell (G0.out.y.cell (j := 2) (u := .int .i64 d') rfl) p
    have gy3 := fun p : GrowOf W0 => GrowOf.cell (G0.out.y.cell (j := 3) (u := .slice A2 ns.length c2) rfl) p
    have T1 : ∀ p : GrowOf W0, Calls Try.prog 70 #[.slice A zs.length c, .agg #[.int .i64 r, .int .i64 a, .int .i64 d, .slice A1 ms.length c1]] p.W fun e w' => e = .returned (.bool true) ∧ Below p.W.heap.size p.W w' := fun p => by
      have h := i_tallyValid r a d A A1 c c1 zs ms p.W (GrowOf.ints (G0.out.hz.more G0.out.be.size) p) (GrowOf.ints (G0.out.hm.more G0.out.be.size) p) lz lm
      rw [H1.out] at h; exact h
    have U1 := Lib.hid T1
    clear T1
    have T2 : ∀ p : GrowOf W0, Calls Try.prog 70 #[.slice A zs.length c, .agg #[.int .i64 r', .int .i64 a', .int .i64 d', .slice A2 ns.length c2]] p.W fun e w' => e = .returned (.bool false) ∧ Below p.W.heap.size p.W w' := fun p => by
      have h := i_tallyValid r' a' d' A A2 c c2 zs ns p.W (GrowOf.ints (G0.out.hz.more G0.out.be.size) p) (GrowOf.ints (G0.out.hn.more G0.out.be.size) p) lz ln
      rw [H2.out] at h; exact h
    have U2 := Lib.hid T2
    clear T2
    refine wp_region_grow (by kernel_rfl) (by kernel_rfl) ?_
    repeat (go_big_quiet_step (first | (go_at_call 70; with_reducible exact grow_below (U1.out _)) | (go_at_call 70; with_reducible exact grow_below (U2.out _))))
    refine wpQuiet_nil ?_
    rintro _ ⟨pq, rfl⟩
    have HQ := Lib.hid pq.h
    clear gx0 gx1 gx2 gx3 gy0 gy1 gy2 gy3
    go_wp2_with fail
    go_ret
    exact made_none rfl rfl ((O0.out.below HQ.out).low (by omega)) (next G0.out.be HQ.out)
/-- What 'against' makes: a closure over a new box. -/
theorem i_against (r a d : Int) (w : World) :
    Calls Try.prog 71 #[.agg #[.int .i64 r, .int .i64 a, .int .i64 d]] w fun e w' => e = .returned (.func (.func 113) #[] #[.pointer (some ⟨w.heap.size, 0, none⟩)]) ∧ Box w' w.heap.size 35 #[.int .i64 r, .int .i64 a, .int .i64 d] ∧ Below w.heap.size w w' := by
  go_enter Try.func71, Try.ntmps71
  go_wp2_with fail
  go_ret
  exact ⟨rfl, Box.new w _ _, allocB w _⟩
set_option maxHeartbeats 8000000 in
theorem i_TallyGuilty_same (A A1 A2 : Option Addr) (c c1 c2 : Nat) (zs ms ns : List Int) (r a d r' a' d' : Int) (w : World) (hz : Ints w w.heap.size A zs) (hm : Ints w w.heap.size A1 ms) (hn : Ints w w.heap.size A2 ns) (lz : zs.length ≤ 1048576) (lm : ms.length ≤ 1048576) (ln : ns.length ≤ 1048576) (h1 : tallyB zs ms r a d = true) (h2 : tallyB zs ns r' a' d' = true) (h3 : contraI r a d r' a' d' = false) :
    Calls Try.prog 22 #[.slice A zs.length c, .agg #[.int .i64 r, .int .i64 a, .int .i64 d, .slice A1 ms.length c1], .agg #[.int .i64 r', .int .i64 a', .int .i64 d', .slice A2 ns.length c2]] w (MadeO w []) := by
  have H1 := Lib.hid h1
  have H2 := Lib.hid h2
  have HC := Lib.hid h3
  clear h1 h2 h3
  have T1 : ∀ W : World, Ints W W.heap.size A zs → Ints W W.heap.size A1 ms → Calls Try.prog 70 #[.slice A zs.length c, .agg #[.int .i64 r, .int .i64 a, .int .i64 d, .slice A1 ms.length c1]] W fun e w' => e = .returned (.bool true) ∧ Below W.heap.size W w' := fun W q1 q2 => by
    have h := i_tallyValid r a d A A1 c c1 zs ms W q1 q2 lz lm
    rw [H1.out] at h; exact h
  have T2 : ∀ W : World, Ints W W.heap.size A zs → Ints W W.heap.size A2 ns → Calls Try.prog 70 #[.slice A zs.length c, .agg #[.int .i64 r', .int .i64 a', .int .i64 d', .slice A2 ns.length c2]] W fun e w' => e = .returned (.bool true) ∧ Below W.heap.size W w' := fun W q1 q2 => by
    have h := i_tallyValid r' a' d' A A2 c c2 zs ns W q1 q2 lz ln
    rw [H2.out] at h; exact h
  have U1 := Lib.hid T1
  have U2 := Lib.hid T2
  clear T1 T2
  have st := GC.start (A := A) (A1 := A1) (A2 := A2) (c1 := c1) (c2 := c2) (r := r) (a := a) (d := d) (r' := r') (a' := a') (d' := d') w hz hm hn
  clear hz hm hn
  go_enter Try.func22, Try.ntmps22
  go_wp2_with fail
  generalize (((w.alloc (.cells #[.int .i64 r, .int .i64 a, .int .i64 d, .slice A1 ms.length c1] 37)).alloc (.cells #[.int .i64 r', .int .i64 a', .int .i64 d', .slice A2 ns.length c2] 37)).alloc (.cells #[] 3)) = W0 at *
  have G0 := Lib.hid st.1
  have O0 := Lib.hid st.2
  clear st
  have hG0 := G0.out.carry (Below.refl W0.heap.size W0).drew
  have hS0 : W0.drew.cell? ⟨w.heap.size, 0, none⟩ = some (.int .i64 r) ∧ W0.drew.cell? ⟨w.heap.size, 1, none⟩ = some (.int .i64 a) ∧ W0.drew.cell? ⟨w.heap.size, 2, none⟩ = some (.int .i64 d) ∧ W0.drew.cell? ⟨w.heap.size, 3, none⟩ = some (.slice A1 ms.length c1) ∧ W0.drew.cell? ⟨w.heap.size + 1, 0, none⟩ = some (.int .i64 r') ∧ W0.drew.cell? ⟨w.heap.size + 1, 1, none⟩ = some (.int .i64 a') ∧ W0.drew.cell? ⟨w.heap.size + 1, 2, none⟩ = some (.int .i64 d') ∧ W0.drew.cell? ⟨w.heap.size + 1, 3, none⟩ = some (.slice A2 ns.length c2) := ⟨hG0.x.cell rfl, hG0.x.cell rfl, hG0.x.cell rfl, hG0.x.cell rfl, hG0.y.cell rfl, hG0.y.cell rfl, hG0.y.cell rfl, hG0.y.cell rfl⟩
  have hO0 := Lib.hid (O0.out.below (Below.refl W0.heap.size W0).drew)
  go_region_held3 (fun W => W.cell? ⟨w.heap.size, 0, none⟩ = some (.int .i64 r) ∧ W.cell? ⟨w.heap.size, 1, none⟩ = some (.int .i64 a) ∧ W.cell? ⟨w.heap.size, 2, none⟩ = some (.int .i64 d) ∧ W.cell? ⟨w.heap.size, 3, none⟩ = some (.slice A1 ms.length c1) ∧ W.cell? ⟨w.heap.size + 1, 0, none⟩ = some (.int .i64 r') ∧ W.cell? ⟨w.heap.size + 1, 1, none⟩ = some (.int .i64 a') ∧ W.cell? ⟨w.heap.size + 1, 2, none⟩ = some (.int .i64 d') ∧ W.cell? ⟨w.heap.size + 1, 3, none⟩ = some (.slice A2 ns.length c2)) (first | assumption | (with_reducible exact hS1) | (with_reducible exact hS2) | (with_reducible exact hS3) | (with_reducible exact hS4) | go_keep)
    (first
      | ((go_at_call 70; refine (U2.out _ (hG1.hz.more hG1.be.size) (hG1.hn.more hG1.be.size)).mono ?_; rintro e W2 ⟨rfl, b2⟩; have hG2 := hG1.carry b2; have hO2 := Lib.hid (hO1.out.below b2); have hS2 : W2.cell? ⟨w.heap.size, 0, none⟩ = some (.int .i64 r) ∧ W2.cell? ⟨w.heap.size, 1, none⟩ = some (.int .i64 a) ∧ W2.cell? ⟨w.heap.size, 2, none⟩ = some (.int .i64 d) ∧ W2.cell? ⟨w.heap.size, 3, none⟩ = some (.slice A1 ms.length c1) ∧ W2.cell? ⟨w.heap.size + 1, 0, none⟩ = some (.int .i64 r') ∧ W2.cell? ⟨w.heap.size + 1, 1, none⟩ = some (.int .i64 a') ∧ W2.cell? ⟨w.heap.size + 1, 2, none⟩ = some (.int .i64 d') ∧ W2.cell? ⟨w.heap.size + 1, 3, none⟩ = some (.slice A2 ns.length c2) := ⟨hG2.x.cell rfl, hG2.x.cell rfl, hG2.x.cell rfl, hG2.x.cell rfl, hG2.y.cell rfl, hG2.y.cell rfl, hG2.y.cell rfl, hG2.y.cell rfl⟩; clear b2))
      | ((go_at_call 70; refine (U1.out _ (hG0.hz.more hG0.be.size) (hG0.hm.more hG0.be.size)).mono ?_; rintro e W1 ⟨rfl, b1⟩; have hG1 := hG0.carry b1; have hO1 := Lib.hid (hO0.out.below b1); have hS1 : W1.cell? ⟨w.heap.size, 0, none⟩ = some (.int .i64 r) ∧ W1.cell? ⟨w.heap.size, 1, none⟩ = some (.int .i64 a) ∧ W1.cell? ⟨w.heap.size, 2, none⟩ = some (.int .i64 d) ∧ W1.cell? ⟨w.heap.size, 3, none⟩ = some (.slice A1 ms.length c1) ∧ W1.cell? ⟨w.heap.size + 1, 0, none⟩ = some (.int .i64 r') ∧ W1.cell? ⟨w.heap.size + 1, 1, none⟩ = some (.int .i64 a') ∧ W1.cell? ⟨w.heap.size + 1, 2, none⟩ = some (.int .i64 d') ∧ W1.cell? ⟨w.heap.size + 1, 3, none⟩ = some (.slice A2 ns.length c2) := ⟨hG1.x.cell rfl, hG1.x.cell rfl, hG1.x.cell rfl, hG1.x.cell rfl, hG1.y.cell rfl, hG1.y.cell rfl, hG1.y.cell rfl, hG1.y.cell rfl⟩; clear b1))
      | ((go_at_call 71; refine (i_against _ _ _ _).mono ?_; rintro e W3 ⟨rfl, bx3, b3⟩; have hG3 := hG2.carry b3; have hO3 := Lib.hid (hO2.out.below b3); have hS3 : W3.cell? ⟨w.heap.size, 0, none⟩ = some (.int .i64 r) ∧ W3.cell? ⟨w.heap.size, 1, none⟩ = some (.int .i64 a) ∧ W3.cell? ⟨w.heap.size, 2, none⟩ = some (.int .i64 d) ∧ W3.cell? ⟨w.heap.size, 3, none⟩ = some (.slice A1 ms.length c1) ∧ W3.cell? ⟨w.heap.size + 1, 0, none⟩ = some (.int .i64 r') ∧ W3.cell? ⟨w.heap.size + 1, 1, none⟩ = some (.int .i64 a') ∧ W3.cell? ⟨w.heap.size + 1, 2, none⟩ = some (.int .i64 d') ∧ W3.cell? ⟨w.heap.size + 1, 3, none⟩ = some (.slice A2 ns.length c2) := ⟨hG3.x.cell rfl, hG3.x.cell rfl, hG3.x.cell rfl, hG3.x.cell rfl, hG3.y.cell rfl, hG3.y.cell rfl, hG3.y.cell rfl, hG3.y.cell rfl⟩; clear b3))
      | ((go_at_call 113; refine (i_against1 _ _ _ _ _ _ _ _ bx3).mono ?_; rw [HC.out]; rintro e W4 ⟨rfl, b4⟩; have hG4 := Lib.hid (hG3.carry b4); have hO4 := Lib.hid (hO3.out.below b4); have hS4 : W4.cell? ⟨w.heap.size, 0, none⟩ = some (.int .i64 r) ∧ W4.cell? ⟨w.heap.size, 1, none⟩ = some (.int .i64 a) ∧ W4.cell? ⟨w.heap.size, 2, none⟩ = some (.int .i64 d) ∧ W4.cell? ⟨w.heap.size, 3, none⟩ = some (.slice A1 ms.length c1) ∧ W4.cell? ⟨w.heap.size + 1, 0, none⟩ = some (.int .i64 r') ∧ W4.cell? ⟨w.heap.size + 1, 1, none⟩ = some (.int .i64 a') ∧ W4.cell? ⟨w.heap.size + 1, 2, none⟩ = some (.int .i64 d') ∧ W4.cell? ⟨w.heap.size + 1, 3, none⟩ = some (.slice A2 ns.length c2) := ⟨hG4.out.x.cell rfl, hG4.out.x.cell rfl, hG4.out.x.cell rfl, hG4.out.x.cell rfl, hG4.out.y.cell rfl, hG4.out.y.cell rfl, hG4.out.y.cell rfl, hG4.out.y.cell rfl⟩; clear b4)))
  clear hG0 hG1 hG2 hG3
  go_wp2_with fail
  go_ret
  exact made_none rfl rfl (hO4.out.low (by omega)) hG4.out.be
set_option maxHeartbeats 8000000 in
theorem i_TallyGuilty_con (A A1 A2 : Option Addr) (c c1 c2 : Nat) (zs ms ns : List Int) (r a d r' a' d' : Int) (w : World) (hz : Ints w w.heap.size A zs) (hm : Ints w w.heap.size A1 ms) (hn : Ints w w.heap.size A2 ns) (lz : zs.length ≤ 1048576) (lm : ms.length ≤ 1048576) (ln : ns.length ≤ 1048576) (h1 : tallyB zs ms r a d = true) (h2 : tallyB zs ns r' a' d' = true) (h3 : contraI r a d r' a' d' = true) :
    Calls Try.prog 22 #[.slice A zs.length c, .agg #[.int .i64 r, .int .i64 a, .int .i64 d, .slice A1 ms.length c1], .agg #[.int .i64 r', .int .i64 a', .int .i64 d', .slice A2 ns.length c2]] w (MadeO w (commonL ms ns)) := by
  have H1 := Lib.hid h1
  have H2 := Lib.hid h2
  have HC := Lib.hid h3
  clear h1 h2 h3
  have T1 : ∀ W : World, Ints W W.heap.size A zs → Ints W W.heap.size A1 ms → Calls Try.prog 70 #[.slice A zs.length c, .agg #[.int .i64 r, .int .i64 a, .int .i64 d, .slice A1 ms.length c1]] W fun e w' => e = .returned (.bool true) ∧ Below W.heap.size W w' := fun W q1 q2 => by
    have h := i_tallyValid r a d A A1 c c1 zs ms W q1 q2 lz lm
    rw [H1.out] at h; exact h
  have T2 : ∀ W : World, Ints W W.heap.size A zs → Ints W W.heap.size A2 ns → Calls Try.prog 70 #[.slice A zs.length c, .agg #[.int .i64 r', .int .i64 a', .int .i64 d', .slice A2 ns.length c2]] W fun e w' => e = .returned (.bool true) ∧ Below W.heap.size W w' := fun W q1 q2 => by
    have h := i_tallyValid r' a' d' A A2 c c2 zs ns W q1 q2 lz ln
    rw [H2.out] at h; exact h
  have U1 := Lib.hid T1
  have U2 := Lib.hid T2
  clear T1 T2
  have st := GC.start (A := A) (A1 := A1) (A2 := A2) (c1 := c1) (c2 := c2) (r := r) (a := a) (d := d) (r' := r') (a' := a') (d' := d') w hz hm hn
  clear hz hm hn
  go_enter Try.func22, Try.ntmps22
  go_wp2_with fail
  generalize (((w.alloc (.cells #[.int .i64 r, .int .i64 a, .int .i64 d, .slice A1 ms.length c1] 37)).alloc (.cells #[.int .i64 r', .int .i64 a', .int .i64 d', .slice A2 ns.length c2] 37)).alloc (.cells #[] 3)) = W0 at *
  have G0 := Lib.hid st.1
  have O0 := Lib.hid st.2
  clear st
  have hG0 := G0.out.carry (Below.refl W0.heap.size W0).drew
  have hS0 : W0.drew.cell? ⟨w.heap.size, 0, none⟩ = some (.int .i64 r) ∧ W0.drew.cell? ⟨w.heap.size, 1, none⟩ = some (.int .i64 a) ∧ W0.drew.cell? ⟨w.heap.size, 2, none⟩ = some (.int .i64 d) ∧ W0.drew.cell? ⟨w.heap.size, 3, none⟩ = some (.slice A1 ms.length c1) ∧ W0.drew.cell? ⟨w.heap.size + 1, 0, none⟩ = some (.int .i64 r') ∧ W0.drew.cell? ⟨w.heap.size + 1, 1, none⟩ = some (.int .i64 a') ∧ W0.drew.cell? ⟨w.heap.size + 1, 2, none⟩ = some (.int .i64 d') ∧ W0.drew.cell? ⟨w.heap.size + 1, 3, none⟩ = some (.slice A2 ns.length c2) := ⟨hG0.x.cell rfl, hG0.x.cell rfl, hG0.x.cell rfl, hG0.x.cell rfl, hG0.y.cell rfl, hG0.y.cell rfl, hG0.y.cell rfl, hG0.y.cell rfl⟩
  have hO0 := Lib.hid (O0.out.below (Below.refl W0.heap.size W0).drew)
  go_region_held3 (fun W => W.cell? ⟨w.heap.size, 0, none⟩ = some (.int .i64 r) ∧ W.cell? ⟨w.heap.size, 1, none⟩ = some (.int .i64 a) ∧ W.cell? ⟨w.heap.size, 2, none⟩ = some (.int .i64 d) ∧ W.cell? ⟨w.heap.size, 3, none⟩ = some (.slice A1 ms.length c1) ∧ W.cell? ⟨w.heap.size + 1, 0, none⟩ = some (.int .i64 r') ∧ W.cell? ⟨w.heap.size + 1, 1, none⟩ = some (.int .i64 a') ∧ W.cell? ⟨w.heap.size + 1, 2, none⟩ = some (.int .i64 d') ∧ W.cell? ⟨w.heap.size + 1, 3, none⟩ = some (.slice A2 ns.length c2)) (first | assumption | (with_reducible exact hS1) | (with_reducible exact hS2) | (with_reducible exact hS3) | (with_reducible exact hS4) | go_keep)
    (first
      | ((go_at_call 70; refine (U2.out _ (hG1.hz.more hG1.be.size) (hG1.hn.more hG1.be.size)).mono ?_; rintro e W2 ⟨rfl, b2⟩; have hG2 := hG1.carry b2; have hO2 := Lib.hid (hO1.out.below b2); have hS2 : W2.cell? ⟨w.heap.size, 0, none⟩ = some (.int .i64 r) ∧ W2.cell? ⟨w.heap.size, 1, none⟩ = some (.int .i64 a) ∧ W2.cell? ⟨w.heap.size, 2, none⟩ = some (.int .i64 d) ∧ W2.cell? ⟨w.heap.size, 3, none⟩ = some (.slice A1 ms.length c1) ∧ W2.cell? ⟨w.heap.size + 1, 0, none⟩ = some (.int .i64 r') ∧ W2.cell? ⟨w.heap.size + 1, 1, none⟩ = some (.int .i64 a') ∧ W2.cell? ⟨w.heap.size + 1, 2, none⟩ = some (.int .i64 d') ∧ W2.cell? ⟨w.heap.size + 1, 3, none⟩ = some (.slice A2 ns.length c2) := ⟨hG2.x.cell rfl, hG2.x.cell rfl, hG2.x.cell rfl, hG2.x.cell rfl, hG2.y.cell rfl, hG2.y.cell rfl, hG2.y.cell rfl, hG2.y.cell rfl⟩; clear b2))
      | ((go_at_call 70; refine (U1.out _ (hG0.hz.more hG0.be.size) (hG0.hm.more hG0.be.size)).mono ?_; rintro e W1 ⟨rfl, b1⟩; have hG1 := hG0.carry b1; have hO1 := Lib.hid (hO0.out.below b1); have hS1 : W1.cell? ⟨w.heap.size, 0, none⟩ = some (.int .i64 r) ∧ W1.cell? ⟨w.heap.size, 1, none⟩ = some (.int .i64 a) ∧ W1.cell? ⟨w.heap.size, 2, none⟩ = some (.int .i64 d) ∧ W1.cell? ⟨w.heap.size, 3, none⟩ = some (.slice A1 ms.length c1) ∧ W1.cell? ⟨w.heap.size + 1, 0, none⟩ = some (.int .i64 r') ∧ W1.cell? ⟨w.heap.size + 1, 1, none⟩ = some (.int .i64 a') ∧ W1.cell? ⟨w.heap.size + 1, 2, none⟩ = some (.int .i64 d') ∧ W1.cell? ⟨w.heap.size + 1, 3, none⟩ = some (.slice A2 ns.length c2) := ⟨hG1.x.cell rfl, hG1.x.cell rfl, hG1.x.cell rfl, hG1.x.cell rfl, hG1.y.cell rfl, hG1.y.cell rfl, hG1.y.cell rfl, hG1.y.cell rfl⟩; clear b1))
      | ((go_at_call 71; refine (i_against _ _ _ _).mono ?_; rintro e W3 ⟨rfl, bx3, b3⟩; have hG3 := hG2.carry b3; have hO3 := Lib.hid (hO2.out.below b3); have hS3 : W3.cell? ⟨w.heap.size, 0, none⟩ = some (.int .i64 r) ∧ W3.cell? ⟨w.heap.size, 1, none⟩ = some (.int .i64 a) ∧ W3.cell? ⟨w.heap.size, 2, none⟩ = some (.int .i64 d) ∧ W3.cell? ⟨w.heap.size, 3, none⟩ = some (.slice A1 ms.length c1) ∧ W3.cell? ⟨w.heap.size + 1, 0, none⟩ = some (.int .i64 r') ∧ W3.cell? ⟨w.heap.size + 1, 1, none⟩ = some (.int .i64 a') ∧ W3.cell? ⟨w.heap.size + 1, 2, none⟩ = some (.int .i64 d') ∧ W3.cell? ⟨w.heap.size + 1, 3, none⟩ = some (.slice A2 ns.length c2) := ⟨hG3.x.cell rfl, hG3.x.cell rfl, hG3.x.cell rfl, hG3.x.cell rfl, hG3.y.cell rfl, hG3.y.cell rfl, hG3.y.cell rfl, hG3.y.cell rfl⟩; clear b3))
      | ((go_at_call 113; refine (i_against1 _ _ _ _ _ _ _ _ bx3).mono ?_; rw [HC.out]; rintro e W4 ⟨rfl, b4⟩; have hG4 := Lib.hid (hG3.carry b4); have hO4 := Lib.hid (hO3.out.below b4); have hS4 : W4.cell? ⟨w.heap.size, 0, none⟩ = some (.int .i64 r) ∧ W4.cell? ⟨w.heap.size, 1, none⟩ = some (.int .i64 a) ∧ W4.cell? ⟨w.heap.size, 2, none⟩ = some (.int .i64 d) ∧ W4.cell? ⟨w.heap.size, 3, none⟩ = some (.slice A1 ms.length c1) ∧ W4.cell? ⟨w.heap.size + 1, 0, none⟩ = some (.int .i64 r') ∧ W4.cell? ⟨w.heap.size + 1, 1, none⟩ = some (.int .i64 a') ∧ W4.cell? ⟨w.heap.size + 1, 2, none⟩ = some (.int .i64 d') ∧ W4.cell? ⟨w.heap.size + 1, 3, none⟩ = some (.slice A2 ns.length c2) := ⟨hG4.out.x.cell rfl, hG4.out.x.cell rfl, hG4.out.x.cell rfl, hG4.out.x.cell rfl, hG4.out.y.cell rfl, hG4.out.y.cell rfl, hG4.out.y.cell rfl, hG4.out.y.cell rfl⟩; clear b4)))
  clear hG0 hG1 hG2 hG3
  have x3 := hG4.out.x.cell (j := 3) (u := .slice A1 ms.length c1) rfl
  have HF := Lib.hid (show pickTo (fun j => hasB ns (nth ms j)) (nth ms) ms.length = commonL ms ns from pickTo_filter _ _)
  go_wp2_with fail
  clear x3
  go_loopw [7, 34] (fun v i wr => ∃ (k g cap : Nat), k ≤ ms.length ∧ i = .int .i64 k ∧ v = .slice (some ⟨g, 0, none⟩) (pickTo (fun j => hasB ns (nth ms j)) (nth ms) k).length cap ∧ OwnI wr (w.heap.size + 2) v (pickTo (fun j => hasB ns (nth ms j)) (nth ms) k) ∧ GC w A A1 A2 c1 c2 zs ms ns r a d r' a' d' wr) (fun _ i _ => ms.length - (intOf i).toNat)
  case atStart => exact ⟨0, w.heap.size + 1 + 1, 0, Nat.zero_le _, rfl, rfl, hO4.out, hG4.out⟩
  case round =>
    obtain ⟨k, g, cap, hk, rfl, rfl, hown, hgc⟩ := hrel
    have HO := Lib.hid hown
    have HG := Lib.hid hgc
    have hsz : w.heap.size + 2 ≤ wr.heap.size := hgc.y.lt
    have hlen := pickTo_len (fun j => hasB ns (nth ms j)) (nth ms) k
    have y3 := hgc.y.cell (j := 3) (u := .slice A2 ns.length c2) rfl
    have x3 := hgc.x.cell (j := 3) (u := .slice A1 ms.length c1) rfl
    clear hown hG4 hO4
    by_cases hlt : k < ms.length
    · have hd : decide (k < ms.length) = true := by simpa using hlt
      obtain ⟨b, off, rfl, hbb, hc⟩ := hgc.hm.at_ hlt
      have hck := hc k hlt
      have hi0 : (0 : Int) ≤ (k : Int) := by omega
      have hi1 : (k : Int) < (ms.length : Int) := by omega
      clear hc hgc
      rcases hb : hasB ns (nth ms k) with _ | _
      · have HB := Lib.hid hb
        have HCT := Lib.hid (show Calls Try.prog 72 #[.slice A2 ns.length c2, .int .i64 (nth ms k)] wr fun e w' => e = .returned (.bool false) ∧ wr = w' from by
          have h := x_Contains A2 c2 ns (nth ms k) wr _ HG.out.hn ln
          rw [hb] at h; exact h)
        clear hb
        go_wp2_with fail
        refine HCT.out.mono ?_
        rintro e w' ⟨rfl, rfl⟩
        go_wp2_with fail
        go_roundw
        case rel =>
          have hs := pickTo_no (p := fun j => hasB ns (nth ms j)) (f := nth ms) (k := k) HB.out
          exact ⟨k + 1, g, cap, by omega, by go_num, by rw [hs], by rw [hs]; exact HO.out, HG.out⟩
        case measure => simp [intOf]; omega
      · have HB := Lib.hid hb
        have HCT := Lib.hid (show Calls Try.prog 72 #[.slice A2 ns.length c2, .int .i64 (nth ms k)] wr fun e w' => e = .returned (.bool true) ∧ wr = w' from by
          have h := x_Contains A2 c2 ns (nth ms k) wr _ HG.out.hn ln
          rw [hb] at h; exact h)
        clear hb
        go_wp2_with fail
        refine HCT.out.mono ?_
        rintro e w' ⟨rfl, rfl⟩
        go_wp2_with (at_builtin; refine appendInt (by rfl) _ _ (by rfl) wr (w.heap.size + 2) _ (pickTo (fun j => hasB ns (nth ms j)) (nth ms) k) _ (by rfl) HO.out (by rfl) (by omega) hsz ?_; intro g1 cap1 w4 own4 hg4)
        have O4 := Lib.hid own4
        have G4 := Lib.hid (HG.out.grown HO.out hg4)
        clear own4 hg4
        go_wp2_with fail
        go_roundw
        case rel =>
          have hs := pickTo_yes (p := fun j => hasB ns (nth ms j)) (f := nth ms) (k := k) HB.out
          exact ⟨k + 1, g1, cap1, by omega, by go_num, by rw [hs, List.length_append]; rfl, by rw [hs]; exact O4.out, G4.out⟩
        case measure => simp [intOf]; omega
    · have hd : decide (k < ms.length) = false := by simpa using hlt
      clear hgc
      go_wp2_with fail
      go_ret
      have e : k = ms.length := by omega
      subst e
      have ho := HO.out
      have hl : (pickTo (fun j => hasB ns (nth ms j)) (nth ms) ms.length).length = (commonL ms ns).length := by rw [HF.out]
      rw [HF.out] at ho
      exact ⟨g, cap, ret_slice hl, ho.low (by omega), HG.out.be⟩
set_option maxHeartbeats 4000000 in
theorem s_TallyGuilty_no (A A1 A2 : Option Addr) (c c1 c2 : Nat) (zs ms ns : List Int) (r a d r' a' d' : Int) (w : World) (hz : Ints w w.heap.size A zs) (hm : Ints w w.heap.size A1 ms) (hn : Ints w w.heap.size A2 ns) (lz : zs.length ≤ 1048576) (lm : ms.length ≤ 1048576) (ln : ns.length ≤ 1048576) (h0 : tallyB zs ms r a d = false ∨ (tallyB zs ms r a d = true ∧ tallyB zs ns r' a' d' = false)) :
    Calls Try.prog 23 #[.slice A zs.length c, .agg #[.int .i64 r, .int .i64 a, .int .i64 d, .slice A1 ms.length c1], .agg #[.int .i64 r', .int .i64 a', .int .i64 d', .slice A2 ns.length c2]] w (MadeO w []) := by
  rcases h0 with h1 | ⟨h1, h2⟩
  · have H1 := Lib.hid h1
    clear h1
    have st := GC.start (A := A) (A1 := A1) (A2 := A2) (c1 := c1) (c2 := c2) (r := r) (a := a) (d := d) (r' := r') (a' := a') (d' := d') w hz hm hn
    clear hz hm hn
    go_enter Try.func23, Try.ntmps23
    go_wp2_with fail
    generalize (((w.alloc (.cells #[.int .i64 r, .int .i64 a, .int .i64 d, .slice A1 ms.length c1] 37)).alloc (.cells #[.int .i64 r', .int .i64 a', .int .i64 d', .slice A2 ns.length c2] 37)).alloc (.cells #[] 3)) = W0 at *
    have G0 := Lib.hid st.1
    have O0 := Lib.hid st.2
    clear st
    refine (s_l12Tally r a d A A1 c c1 zs ms _ (G0.out.hz.more G0.out.be.size) (G0.out.hm.more G0.out.be.size) lz lm).mono ?_
    rw [H1.out]
    rintro e W1 ⟨rfl, b1⟩
    have G1 := Lib.hid (G0.out.carry b1)
    have O1 := Lib.hid (O0.out.below b1)
    clear b1
    go_wp2_with fail
    go_ret
    exact made_none rfl rfl (O1.out.low (by omega)) G1.out.be
  · have H1 := Lib.hid h1
    have H2 := Lib.hid h2
    clear h1 h2
    have st := GC.start (A := A) (A1 := A1) (A2 := A2) (c1 := c1) (c2 := c2) (r := r) (a := a) (d := d) (r' := r') (a' := a') (d' := d') w hz hm hn
    clear hz hm hn
    go_enter Try.func23, Try.ntmps23
    go_wp2_with fail
    generalize (((w.alloc (.cells #[.int .i64 r, .int .i64 a, .int .i64 d, .slice A1 ms.length c1] 37)).alloc (.cells #[.int .i64 r', .int .i64 a', .int .i64 d', .slice A2 ns.length c2] 37)).alloc (.cells #[] 3)) = W0 at *
    have G0 := Lib.hid st.1
    have O0 := Lib.hid st.2
    clear st
    refine (s_l12Tally r a d A A1 c c1 zs ms _ (G0.out.hz.more G0.out.be.size) (G0.out.hm.more G0.out.be.size) lz lm).mono ?_
    rw [H1.out]
    rintro e W1 ⟨rfl, b1⟩
    have G1 := Lib.hid (G0.out.carry b1)
    have O1 := Lib.hid (O0.out.below b1)
    clear b1
    have y0 := G1.out.y.cell (j := 0) (u := .int .i64 r') rfl
    have y1 := G1.out.y.cell (j := 1) (u := .int .i64 a') rfl
    have y2 := G1.out.y.cell (j := 2) (u := .int .i64 d') rfl
    have y3 := G1.out.y.cell (j := 3) (u := .slice A2 ns.length c2) rfl
    go_wp2_with fail
    refine (s_l12Tally r' a' d' A A2 c c2 zs ns _ (G1.out.hz.more G1.out.be.size) (G1.out.hn.more G1.out.be.size) lz ln).mono ?_
    rw [H2.out]
    rintro e W2 ⟨rfl, b2⟩
    have G2 := Lib.hid (G1.out.carry b2)
    have O2 := Lib.hid (O1.out.below b2)
    clear b2
    go_wp2_with fail
    go_ret
    exact made_none rfl rfl (O2.out.low (by omega)) G2.out.be
set_option maxHeartbeats 8000000 in
theorem s_TallyGuilty_same (A A1 A2 : Option Addr) (c c1 c2 : Nat) (zs ms ns : List Int) (r a d r' a' d' : Int) (w : World) (hz : Ints w w.heap.size A zs) (hm : Ints w w.heap.size A1 ms) (hn : Ints w w.heap.size A2 ns) (lz : zs.length ≤ 1048576) (lm : ms.length ≤ 1048576) (ln : ns.length ≤ 1048576) (h1 : tallyB zs ms r a d = true) (h2 : tallyB zs ns r' a' d' = true) (h3 : contraI r a d r' a' d' = false) :
    Calls Try.prog 23 #[.slice A zs.length c, .agg #[.int .i64 r, .int .i64 a, .int .i64 d, .slice A1 ms.length c1], .agg #[.int .i64 r', .int .i64 a', .int .i64 d', .slice A2 ns.length c2]] w (MadeO w []) := by
  have H1 := Lib.hid h1
  have H2 := Lib.hid h2
  clear h1 h2
  have h4 : r ≠ r' ∨ (r = r' ∧ a ≠ a') ∨ (r = r' ∧ a = a' ∧ d = d') := by
    simp only [contraI, Bool.and_eq_false_iff, decide_eq_false_iff_not, Bool.not_eq_false', decide_eq_true_eq] at h3
    by_cases e1 : r = r'
    · by_cases e2 : a = a'
      · right; right; exact ⟨e1, e2, by rcases h3 with h | h | h; (· exact absurd e1 h); (· exact absurd e2 h); (· exact h)⟩
      · exact .inr (.inl ⟨e1, e2⟩)
    · exact .inl e1
  clear h3
  rcases h4 with h | ⟨h, h'⟩ | ⟨h, h', h''⟩
  · have b1 : (r != r') = true := by simpa using h
    clear h
    have st := GC.start (A := A) (A1 := A1) (A2 := A2) (c1 := c1) (c2 := c2) (r := r) (a := a) (d := d) (r' := r') (a' := a') (d' := d') w hz hm hn
    clear hz hm hn
    go_enter Try.func23, Try.ntmps23
    go_wp2_with fail
    generalize (((w.alloc (.cells #[.int .i64 r, .int .i64 a, .int .i64 d, .slice A1 ms.length c1] 37)).alloc (.cells #[.int .i64 r', .int .i64 a', .int .i64 d', .slice A2 ns.length c2] 37)).alloc (.cells #[] 3)) = W0 at *
    have G0 := Lib.hid st.1
    have O0 := Lib.hid st.2
    clear st
    refine (s_l12Tally r a d A A1 c c1 zs ms _ (G0.out.hz.more G0.out.be.size) (G0.out.hm.more G0.out.be.size) lz lm).mono ?_
    rw [H1.out]
    rintro e W1 ⟨rfl, b1⟩
    have G1 := Lib.hid (G0.out.carry b1)
    have O1 := Lib.hid (O0.out.below b1)
    clear b1
    have y0 := G1.out.y.cell (j := 0) (u := .int .i64 r') rfl
    have y1 := G1.out.y.cell (j := 1) (u := .int .i64 a') rfl
    have y2 := G1.out.y.cell (j := 2) (u := .int .i64 d') rfl
    have y3 := G1.out.y.cell (j := 3) (u := .slice A2 ns.length c2) rfl
    go_wp2_with fail
    refine (s_l12Tally r' a' d' A A2 c c2 zs ns _ (G1.out.hz.more G1.out.be.size) (G1.out.hn.more G1.out.be.size) lz ln).mono ?_
    rw [H2.out]
    rintro e W2 ⟨rfl, b2⟩
    have G2 := Lib.hid (G1.out.carry b2)
    have O2 := Lib.hid (O1.out.below b2)
    clear b2
    clear y0 y1 y2 y3
    have x0 := G2.out.x.cell (j := 0) (u := .int .i64 r) rfl
    have x1 := G2.out.x.cell (j := 1) (u := .int .i64 a) rfl
    have x2 := G2.out.x.cell (j := 2) (u := .int .i64 d) rfl
    have y0 := G2.out.y.cell (j := 0) (u := .int .i64 r') rfl
    have y1 := G2.out.y.cell (j := 1) (u := .int .i64 a') rfl
    have y2 := G2.out.y.cell (j := 2) (u := .int .i64 d') rfl
    go_wp2_with fail
    go_ret
    exact made_none rfl rfl (O2.out.low (by omega)) G2.out.be
  · have b1 : (r != r') = false := by simp [h]
    have b2 : (a != a') = true := by simpa using h'
    clear h h'
    have st := GC.start (A := A) (A1 := A1) (A2 := A2) (c1 := c1) (c2 := c2) (r := r) (a := a) (d := d) (r' := r') (a' := a') (d' := d') w hz hm hn
    clear hz hm hn
    go_enter Try.func23, Try.ntmps23
    go_wp2_with fail
    generalize (((w.alloc (.cells #[.int .i64 r, .int .i64 a, .int .i64 d, .slice A1 ms.length c1] 37)).alloc (.cells #[.int .i64 r', .int .i64 a', .int .i64 d', .slice A2 ns.length c2] 37)).alloc (.cells #[] 3)) = W0 at *
    have G0 := Lib.hid st.1
    have O0 := Lib.hid st.2
    clear st
    refine (s_l12Tally r a d A A1 c c1 zs ms _ (G0.out.hz.more G0.out.be.size) (G0.out.hm.more G0.out.be.size) lz lm).mono ?_
    rw [H1.out]
    rintro e W1 ⟨rfl, b1⟩
    have G1 := Lib.hid (G0.out.carry b1)
    have O1 := Lib.hid (O0.out.below b1)
    clear b1
    have y0 := G1.out.y.cell (j := 0) (u := .int .i64 r') rfl
    have y1 := G1.out.y.cell (j := 1) (u := .int .i64 a') rfl
    have y2 := G1.out.y.cell (j := 2) (u := .int .i64 d') rfl
    have y3 := G1.out.y.cell (j := 3) (u := .slice A2 ns.length c2) rfl
    go_wp2_with fail
    refine (s_l12Tally r' a' d' A A2 c c2 zs ns _ (G1.out.hz.more G1.out.be.size) (G1.out.hn.more G1.out.be.size) lz ln).mono ?_
    rw [H2.out]
    rintro e W2 ⟨rfl, b2⟩
    have G2 := Lib.hid (G1.out.carry b2)
    have O2 := Lib.hid (O1.out.below b2)
    clear b2
    clear y0 y1 y2 y3
    have x0 := G2.out.x.cell (j := 0) (u := .int .i64 r) rfl
    have x1 := G2.out.x.cell (j := 1) (u := .int .i64 a) rfl
    have x2 := G2.out.x.cell (j := 2) (u := .int .i64 d) rfl
    have y0 := G2.out.y.cell (j := 0) (u := .int .i64 r') rfl
    have y1 := G2.out.y.cell (j := 1) (u := .int .i64 a') rfl
    have y2 := G2.out.y.cell (j := 2) (u := .int .i64 d') rfl
    go_wp2_with fail
    go_ret
    exact made_none rfl rfl (O2.out.low (by omega)) G2.out.be
  · have b1 : (r != r') = false := by simp [h]
    have b2 : (a != a') = false := by simp [h']
    have b3 : (d == d') = true := by simp [h'']
    clear h h' h''
    have st := GC.start (A := A) (A1 := A1) (A2 := A2) (c1 := c1) (c2 := c2) (r := r) (a := a) (d := d) (r' := r') (a' := a') (d' := d') w hz hm hn
    clear hz hm hn
    go_enter Try.func23, Try.ntmps23
    go_wp2_with fail
    generalize (((w.alloc (.cells #[.int .i64 r, .int .i64 a, .int .i64 d, .slice A1 ms.length c1] 37)).alloc (.cells #[.int .i64 r', .int .i64 a', .int .i64 d', .slice A2 ns.length c2] 37)).alloc (.cells #[] 3)) = W0 at *
    have G0 := Lib.hid st.1
    have O0 := Lib.hid st.2
    clear st
    refine (s_l12Tally r a d A A1 c c1 zs ms _ (G0.out.hz.more G0.out.be.size) (G0.out.hm.more G0.out.be.size) lz lm).mono ?_
    rw [H1.out]
    rintro e W1 ⟨rfl, b1⟩
    have G1 := Lib.hid (G0.out.carry b1)
    have O1 := Lib.hid (O0.out.below b1)
    clear b1
    have y0 := G1.out.y.cell (j := 0) (u := .int .i64 r') rfl
    have y1 := G1.out.y.cell (j := 1) (u := .int .i64 a') rfl
    have y2 := G1.out.y.cell (j := 2) (u := .int .i64 d') rfl
    have y3 := G1.out.y.cell (j := 3) (u := .slice A2 ns.length c2) rfl
    go_wp2_with fail
    refine (s_l12Tally r' a' d' A A2 c c2 zs ns _ (G1.out.hz.more G1.out.be.size) (G1.out.hn.more G1.out.be.size) lz ln).mono ?_
    rw [H2.out]
    rintro e W2 ⟨rfl, b2⟩
    have G2 := Lib.hid (G1.out.carry b2)
    have O2 := Lib.hid (O1.out.below b2)
    clear b2
    clear y0 y1 y2 y3
    have x0 := G2.out.x.cell (j := 0) (u := .int .i64 r) rfl
    have x1 := G2.out.x.cell (j := 1) (u := .int .i64 a) rfl
    have x2 := G2.out.x.cell (j := 2) (u := .int .i64 d) rfl
    have y0 := G2.out.y.cell (j := 0) (u := .int .i64 r') rfl
    have y1 := G2.out.y.cell (j := 1) (u := .int .i64 a') rfl
    have y2 := G2.out.y.cell (j := 2) (u := .int .i64 d') rfl
    go_wp2_with fail
    go_ret
    exact made_none rfl rfl (O2.out.low (by omega)) G2.out.be
set_option maxHeartbeats 8000000 in
theorem s_TallyGuilty_con (A A1 A2 : Option Addr) (c c1 c2 : Nat) (zs ms ns : List Int) (r a d r' a' d' : Int) (w : World) (hz : Ints w w.heap.size A zs) (hm : Ints w w.heap.size A1 ms) (hn : Ints w w.heap.size A2 ns) (lz : zs.length ≤ 1048576) (lm : ms.length ≤ 1048576) (ln : ns.length ≤ 1048576) (h1 : tallyB zs ms r a d = true) (h2 : tallyB zs ns r' a' d' = true) (h3 : contraI r a d r' a' d' = true) :
    Calls Try.prog 23 #[.slice A zs.length c, .agg #[.int .i64 r, .int .i64 a, .int .i64 d, .slice A1 ms.length c1], .agg #[.int .i64 r', .int .i64 a', .int .i64 d', .slice A2 ns.length c2]] w (MadeO w (commonL ms ns)) := by
  have H1 := Lib.hid h1
  have H2 := Lib.hid h2
  clear h1 h2
  have h4 : r = r' ∧ a = a' ∧ d ≠ d' := by
    simpa [contraI] using h3
  obtain ⟨h, h', h''⟩ := h4
  have b1 : (r != r') = false := by simp [h]
  have b2 : (a != a') = false := by simp [h']
  have b3 : (d == d') = false := by simp [h'']
  clear h3 h h' h''
  have st := GC.start (A := A) (A1 := A1) (A2 := A2) (c1 := c1) (c2 := c2) (r := r) (a := a) (d := d) (r' := r') (a' := a') (d' := d') w hz hm hn
  clear hz hm hn
  go_enter Try.func23, Try.ntmps23
  go_wp2_with fail
  generalize (((w.alloc (.cells #[.int .i64 r, .int .i64 a, .int .i64 d, .slice A1 ms.length c1] 37)).alloc (.cells #[.int .i64 r', .int .i64 a', .int .i64 d', .slice A2 ns.length c2] 37)).alloc (.cells #[] 3)) = W0 at *
  have G0 := Lib.hid st.1
  have O0 := Lib.hid st.2
  clear st
  refine (s_l12Tally r a d A A1 c c1 zs ms _ (G0.out.hz.more G0.out.be.size) (G0.out.hm.more G0.out.be.size) lz lm).mono ?_
  rw [H1.out]
  rintro e W1 ⟨rfl, b1⟩
  have G1 := Lib.hid (G0.out.carry b1)
  have O1 := Lib.hid (O0.out.below b1)
  clear b1
  have y0 := G1.out.y.cell (j := 0) (u := .int .i64 r') rfl
  have y1 := G1.out.y.cell (j := 1) (u := .int .i64 a') rfl
  have y2 := G1.out.y.cell (j := 2) (u := .int .i64 d') rfl
  have y3 := G1.out.y.cell (j := 3) (u := .slice A2 ns.length c2) rfl
  go_wp2_with fail
  refine (s_l12Tally r' a' d' A A2 c c2 zs ns _ (G1.out.hz.more G1.out.be.size) (G1.out.hn.more G1.out.be.size) lz ln).mono ?_
  rw [H2.out]
  rintro e W2 ⟨rfl, b2⟩
  have G2 := Lib.hid (G1.out.carry b2)
  have O2 := Lib.hid (O1.out.below b2)
  clear b2
  clear y0 y1 y2 y3
  have x0 := G2.out.x.cell (j := 0) (u := .int .i64 r) rfl
  have x1 := G2.out.x.cell (j := 1) (u := .int .i64 a) rfl
  have x2 := G2.out.x.cell (j := 2) (u := .int .i64 d) rfl
  have y0 := G2.out.y.cell (j := 0) (u := .int .i64 r') rfl
  have y1 := G2.out.y.cell (j := 1) (u := .int .i64 a') rfl
  have y2 := G2.out.y.cell (j := 2) (u := .int .i64 d') rfl
  have hG4 := G2
  have hO4 := O2
  clear G2 O2
  have x3 := hG4.out.x.cell (j := 3) (u := .slice A1 ms.length c1) rfl
  have HF := Lib.hid (show pickTo (fun j => hasB ns (nth ms j)) (nth ms) ms.length = commonL ms ns from pickTo_filter _ _)
  go_wp2_with fail
  clear x3 x0 x1 x2 y0 y1 y2
  go_loopw [7, 8] (fun v i wr => ∃ (k g cap : Nat), k ≤ ms.length ∧ i = .int .i64 k ∧ v = .slice (some ⟨g, 0, none⟩) (pickTo (fun j => hasB ns (nth ms j)) (nth ms) k).length cap ∧ OwnI wr (w.heap.size + 2) v (pickTo (fun j => hasB ns (nth ms j)) (nth ms) k) ∧ GC w A A1 A2 c1 c2 zs ms ns r a d r' a' d' wr) (fun _ i _ => ms.length - (intOf i).toNat)
  case atStart => exact ⟨0, w.heap.size + 1 + 1, 0, Nat.zero_le _, rfl, rfl, hO4.out, hG4.out⟩
  case round =>
    obtain ⟨k, g, cap, hk, rfl, rfl, hown, hgc⟩ := hrel
    have HO := Lib.hid hown
    have HG := Lib.hid hgc
    have hsz : w.heap.size + 2 ≤ wr.heap.size := hgc.y.lt
    have hlen := pickTo_len (fun j => hasB ns (nth ms j)) (nth ms) k
    have y3 := hgc.y.cell (j := 3) (u := .slice A2 ns.length c2) rfl
    have x3 := hgc.x.cell (j := 3) (u := .slice A1 ms.length c1) rfl
    clear hown hG4 hO4
    by_cases hlt : k < ms.length
    · have hd : decide (k < ms.length) = true := by simpa using hlt
      obtain ⟨b, off, rfl, hbb, hc⟩ := hgc.hm.at_ hlt
      have hck := hc k hlt
      have hi0 : (0 : Int) ≤ (k : Int) := by omega
      have hi1 : (k : Int) < (ms.length : Int) := by omega
      clear hc hgc
      rcases hb : hasB ns (nth ms k) with _ | _
      · have HB := Lib.hid hb
        have HCT := Lib.hid (show Calls Try.prog 74 #[.slice A2 ns.length c2, .int .i64 (nth ms k)] wr fun e w' => e = .returned (.bool false) ∧ wr = w' from by
          have h := s_l1Has A2 c2 ns (nth ms k) wr _ HG.out.hn ln
          rw [hb] at h; exact h)
        clear hb
        have HCQ := Lib.hid (show ∀ m : Nat, Calls Try.prog 74 #[.slice A2 ns.length c2, .int .i64 (nth ms k)] (wr.drewN m) fun e w' => e = .returned (.bool false) ∧ wr.drewN m = w' from fun m => by
          have h := s_l1Has A2 c2 ns (nth ms k) (wr.drewN m) _ (HG.out.hn.quiet ⟨m, rfl⟩) ln
          rw [HB.out] at h; exact h)
        go_wp2_with fail
        go_quiet ((go_at_call 74; exact quiet_same (HCQ.out _)))
        go_wp2_with fail
        go_roundw
        case rel =>
          have hs := pickTo_no (p := fun j => hasB ns (nth ms j)) (f := nth ms) (k := k) HB.out
          exact ⟨k + 1, g, cap, by omega, by go_num, by rw [hs], by rw [hs]; exact HO.out, HG.out.carry (below_drewN (Below.refl _ _) _)⟩
        case measure => simp [intOf]; omega
      · have HB := Lib.hid hb
        have HCT := Lib.hid (show Calls Try.prog 74 #[.slice A2 ns.length c2, .int .i64 (nth ms k)] wr fun e w' => e = .returned (.bool true) ∧ wr = w' from by
          have h := s_l1Has A2 c2 ns (nth ms k) wr _ HG.out.hn ln
          rw [hb] at h; exact h)
        clear hb
        have HCQ := Lib.hid (show ∀ m : Nat, Calls Try.prog 74 #[.slice A2 ns.length c2, .int .i64 (nth ms k)] (wr.drewN m) fun e w' => e = .returned (.bool true) ∧ wr.drewN m = w' from fun m => by
          have h := s_l1Has A2 c2 ns (nth ms k) (wr.drewN m) _ (HG.out.hn.quiet ⟨m, rfl⟩) ln
          rw [HB.out] at h; exact h)
        go_wp2_with fail
        go_quiet ((go_at_call 74; exact quiet_same (HCQ.out _)))
        go_wp2_with (at_builtin; refine appendInt (by rfl) _ _ (by rfl) _ (w.heap.size + 2) _ (pickTo (fun j => hasB ns (nth ms j)) (nth ms) k) _ (by rfl) HO.out (by rfl) (by omega) hsz ?_; intro g1 cap1 w4 own4 hg4)
        have O4 := Lib.hid own4
        have G4 := Lib.hid ((HG.out.carry (below_drewN (Below.refl _ _) _)).grown HO.out hg4)
        clear own4 hg4
        go_wp2_with fail
        go_roundw
        case rel =>
          have hs := pickTo_yes (p := fun j => hasB ns (nth ms j)) (f := nth ms) (k := k) HB.out
          exact ⟨k + 1, g1, cap1, by omega, by go_num, by rw [hs, List.length_append]; rfl, by rw [hs]; exact O4.out, G4.out⟩
        case measure => simp [intOf]; omega
    · have hd : decide (k < ms.length) = false := by simpa using hlt
      clear hgc
      go_wp2_with fail
      go_ret
      have e : k = ms.length := by omega
      subst e
      have ho := HO.out
      have hl : (pickTo (fun j => hasB ns (nth ms j)) (nth ms) ms.length).length = (commonL ms ns).length := by rw [HF.out]
      rw [HF.out] at ho
      exact ⟨g, cap, ret_slice hl, ho.low (by omega), HG.out.be⟩
end Go.Proofs.Ytohnodphlaoohaa
