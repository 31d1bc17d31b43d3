/- What the laws draw, further: a store. -/
import Derived.Test.YtmfbhddnlgbcmaaPutS
import Derived.Test.YtmfbhddnlgbcmaaDrawB
namespace Go.Proofs.Ytmfbhddnlgbcmaa
open Go.RowKit
set_option linter.unusedVariables false
/-- Putting, whatever the arguments. -/
theorem s_StorePut (f : Int) (ga c : Nat) (bs : List VBatch) (b : VBatch) (w : World) (h : LstBatch w w.heap.size (some ⟨ga, 0, none⟩) bs) (hc : bs.length ≤ c) (hn : bs.length ≤ 1048576) :
    Calls Try.prog 16 #[.agg #[.int .i64 f, .slice (some ⟨ga, 0, none⟩) bs.length c], .agg #[.int .i64 b.d, .int .i64 b.a, .int .i64 b.r, .int .i64 b.s]] w (Put w f bs b) := by
  rcases hv : storeB f bs with _ | _
  · exact s_StorePut_no f ga c bs b w h hc hn (.inl hv)
  · rcases hb : batchB b with _ | _
    · exact s_StorePut_no f ga c bs b w h hc hn (.inr hb)
    · exact s_StorePut_yes f ga c bs b w h hc hn hv hb
theorem put_len {f : Int} {bs : List VBatch} {b : VBatch} (h : putCode f bs b = 0) : (putList f bs b).length ≤ 12 := by
  have hv : storeB f bs = true := by
    rcases hv : storeB f bs with _ | _
    · rw [put4 (.inl hv)] at h; exact absurd h (by decide)
    · rfl
  have hl := store_len hv
  have hb : batchB b = true := by
    rcases hb : batchB b with _ | _
    · rw [put4 (.inr hb)] at h; exact absurd h (by decide)
    · rfl
  have hk : knownB bs b.d = false := by
    rcases hk : knownB bs b.d with _ | _
    · rfl
    · rw [put1 hv hb hk] at h; exact absurd h (by decide)
  have hr : ¬ b.r < f := fun hr => by rw [put2 hv hb hk hr] at h; exact absurd h (by decide)
  have hf : fullB bs b = false := by
    rcases hf : fullB bs b with _ | _
    · rfl
    · rw [put3 hv hb hk hr hf] at h; exact absurd h (by decide)
  have : bs.length ≠ 12 := fun e => by simp [fullB, e] at hf
  rw [list_in h, inserted_len]; omega
/-- The store under way: its box at block x, its list in own memory; the result's box; the reader. -/
structure St (w : World) (B r P x : Nat) (f : Int) (g c : Nat) (bs : List VBatch) (W : World) : Prop where
  rd : RdAt W B r P
  gr : w.grownBy W (some r)
  ob : Box W w.heap.size 25 #[.int .i64 0, .slice none 0 0]
  xb : Box W x 25 #[.int .i64 f, .slice (some ⟨g, 0, none⟩) bs.length c]
  own : OwnBatch W (w.heap.size + 1) (.slice (some ⟨g, 0, none⟩) bs.length c) bs
  lo : w.heap.size < x
  hr : r < w.heap.size
section
variable {w W W' : World} {B r P P' x : Nat} {f : Int} {g c : Nat} {bs : List VBatch}
theorem St.grown (h : St w B r P x f g c bs W) (hg : W.grownBy W' (some r)) (hr : RdAt W' B r P') : St w B r P' x f g c bs W' :=
  ⟨hr, h.gr.trans hg, h.ob.grown hg (fun k hk => by injection hk with hk; have := h.hr; omega), h.xb.grown hg (fun k hk => by injection hk with hk; have := h.hr; have := h.lo; omega), h.own.kept hg (fun k hk => by injection hk with hk; have := h.hr; omega), h.lo, h.hr⟩
theorem St.carry (h : St w B r P x f g c bs W) (hb : Below W.heap.size W W') : St w B r P x f g c bs W' :=
  ⟨h.rd.carry hb, gr_below h.gr hb, h.ob.carry hb, h.xb.carry hb, h.own.carry hb, h.lo, h.hr⟩
theorem St.mono (h : St w B r P x f g c bs W) (hP : P ≤ P') : St w B r P' x f g c bs W := ⟨h.rd.mono hP, h.gr, h.ob, h.xb, h.own, h.lo, h.hr⟩
theorem St.size (h : St w B r P x f g c bs W) : w.heap.size ≤ W.heap.size := h.gr.size
theorem St.gx (h : St w B r P x f g c bs W) : g ≠ x := Own.ne_box h.own h.xb (by decide)
theorem St.other (h : St w B r P x f g c bs W) {q j : Nat} {u : Value} (h1 : q ≠ x) (h2 : q ≠ g) (h3 : w.heap.size < q) : St w B r P x f g c bs (W.setCell ⟨q, j, none⟩ u) :=
  ⟨h.rd.set (by have := h.hr; omega) _ _, gr_set h.gr (by omega) _ _, h.ob.other (by omega) _ _, h.xb.other h1 _ _, Own.setOther h.own (Ne.symm h2), h.lo, h.hr⟩
theorem St.floor (h : St w B r P x f g c bs W) (v : Int) : St w B r P x v g c bs (W.setCell ⟨x, 0, none⟩ (.int .i64 v)) :=
  ⟨h.rd.set (by have := h.hr; have := h.lo; omega) _ _, gr_set h.gr (by have := h.lo; omega) _ _, h.ob.other (by have := h.lo; omega) _ _, h.xb.set 0 _, Own.setOther h.own h.gx, h.lo, h.hr⟩
theorem St.list (h : St w B r P x f g c bs W) {g' c' n : Nat} {bs' : List VBatch} (ho : OwnBatch W (w.heap.size + 1) (.slice (some ⟨g', 0, none⟩) n c') bs') : St w B r P x f g' c' bs' (W.setCell ⟨x, 1, none⟩ (.slice (some ⟨g', 0, none⟩) n c')) := by
  have e := ho.up.1
  subst e
  have hne : g' ≠ x := Own.ne_box ho h.xb (by decide)
  exact ⟨h.rd.set (by have := h.hr; have := h.lo; omega) _ _, gr_set h.gr (by have := h.lo; omega) _ _, h.ob.other (by have := h.lo; omega) _ _, h.xb.set 1 _, Own.setOther ho hne, h.lo, h.hr⟩
theorem St.put (h : St w B r P x f g c bs W) {g' c' : Nat} {v : Int} {bs' : List VBatch} (ho : OwnBatch W (w.heap.size + 1) (.slice (some ⟨g', 0, none⟩) bs'.length c') bs') : St w B r P x v g' c' bs' ((W.setCell ⟨x, 0, none⟩ (.int .i64 v)).setCell ⟨x, 1, none⟩ (.slice (some ⟨g', 0, none⟩) bs'.length c')) :=
  (h.floor v).list (Own.setOther ho (Own.ne_box ho h.xb (by decide)))
theorem cells_one (b : VBatch) : ∀ u ∈ b.cells, u.oneCell' = true := by
  intro u hu
  simp only [VBatch.cells, List.mem_cons, List.not_mem_nil, or_false] at hu
  rcases hu with rfl | rfl | rfl | rfl <;> rfl
theorem cell_oth {W : World} {g g' j i : Nat} {u v : Value} (hne : g' ≠ g) (h : W.cell? ⟨g, i, none⟩ = some v) : (W.setCell ⟨g', j, none⟩ u).cell? ⟨g, i, none⟩ = some v :=
  (World.cell?_setCell_other W _ _ _ (fun e => by injection e with e1; omega)).trans h
theorem St.app (h : St w B r P x f g c bs W) {g' c' n : Nat} {bs' : List VBatch} (ho : OwnBatch W' (w.heap.size + 1) (.slice (some ⟨g', 0, none⟩) n c') bs') (hg : W.grownBy W' (Value.slice (some ⟨g, 0, none⟩) bs.length c).ownBlock) :
    St w B r P x f g' c' bs' (W'.setCell ⟨x, 1, none⟩ (.slice (some ⟨g', 0, none⟩) n c')) ∧ W'.cell? ⟨x, 0, none⟩ = some (.int .i64 f) ∧ W'.cell? ⟨x, 1, none⟩ = some (.slice (some ⟨g, 0, none⟩) bs.length c) ∧ W'.frozen? ⟨x, 1, none⟩ = false ∧ (W'.cell? ⟨w.heap.size, 0, none⟩ = some (.int .i64 0) ∧ W'.frozen? ⟨w.heap.size, 0, none⟩ = false) ∧ W'.cell? ⟨w.heap.size, 1, none⟩ = some (.slice none 0 0) ∧ W'.frozen? ⟨w.heap.size, 1, none⟩ = false := by
  have hbl := Own.base_le h.own g rfl
  have hr := h.hr
  have hx : Box W' x 25 #[.int .i64 f, .slice (some ⟨g, 0, none⟩) bs.length c] := h.xb.grown hg (own_ne h.gx)
  have hz : Box W' w.heap.size 25 #[.int .i64 0, .slice none 0 0] := h.ob.grown hg (own_ne (by omega))
  have hrd : RdAt W' B r P := h.rd.grown hg (fun q hq => by
    have e : g = q := by injection hq
    omega)
  have hgr : w.grownBy W' (some r) := gr_own h.gr hg (fun q hq => by
    have e : g = q := by injection hq
    omega)
  have e := ho.up.1
  subst e
  have hne : g' ≠ x := Own.ne_box ho hx (by decide)
  have hlo := h.lo
  exact ⟨⟨hrd.set (by omega) _ _, gr_set hgr (by omega) _ _, hz.other (by omega) _ _, hx.set 1 _, Own.setOther ho hne, h.lo, h.hr⟩, hx.cell rfl, hx.cell rfl, hx.free 1, ⟨hz.cell rfl, hz.free 0⟩, hz.cell rfl, hz.free 1⟩
/-- A batch with another size. -/
def sized (b : VBatch) (v : Int) : VBatch := ⟨b.d, b.a, b.r, v⟩
theorem cells_sized {bs : List VBatch} {j : Nat} (hj : j < bs.length) (v : Int) : cellsBatch (bs.set j (sized (nthBatch bs j) v)) = (cellsBatch bs).set (j * 4 + 3) (.int .i64 v) := by
  induction bs generalizing j with
  | nil => simp at hj
  | cons b bs ih =>
    rcases j with _ | j
    · simp [cellsBatch, VBatch.cells, sized, nthBatch]
    · have := ih (j := j) (by simpa using hj)
      rw [show nthBatch (b :: bs) (j + 1) = nthBatch bs j by simp [nthBatch]]
      rw [List.set_cons_succ]
      simp only [cellsBatch, List.flatMap_cons] at this ⊢
      rw [this]
      simp only [VBatch.cells]
      rw [show (j + 1) * 4 + 3 = j * 4 + 3 + 4 by omega]
      rfl
theorem St.size_set (h : St w B r P x f g c bs W) {j : Nat} (hj : j < bs.length) (v : Int) : St w B r P x f g c (bs.set j (sized (nthBatch bs j) v)) (W.setCell ⟨g, j * 4 + 3, none⟩ (.int .i64 v)) ∧ W.cell? ⟨g, j * 4 + 3, none⟩ = some (.int .i64 (nthBatch bs j).s) ∧ W.frozen? ⟨g, j * 4 + 3, none⟩ = false ∧ w.heap.size < g := by
  have hb := Own.base_le h.own g rfl
  have hx := h.gx
  have hr := h.hr
  obtain ⟨h1, g', cap', e⟩ := h.own
  obtain ⟨s1, s2⟩ := h1.stored (j * 4 + 3) (.int .i64 v)
  rw [← cells_sized hj] at s1
  have hc : W.cell? ⟨g, j * 4 + 3, none⟩ = some (.int .i64 (nthBatch bs j).s) := by
    rw [h1.cellAt (j * 4 + 3) (by omega)]
    exact (cellsBatch_get bs hj).2.2.2
  have ho : OwnBatch (W.setCell ⟨g, j * 4 + 3, none⟩ (.int .i64 v)) (w.heap.size + 1) (.slice (some ⟨g, 0, none⟩) (bs.set j (sized (nthBatch bs j) v)).length c) (bs.set j (sized (nthBatch bs j) v)) :=
    ⟨by rw [List.length_set]; exact s1, g, c, by rw [List.length_set]⟩
  have hxb : Box (W.setCell ⟨g, j * 4 + 3, none⟩ (.int .i64 v)) x 25 #[.int .i64 f, .slice (some ⟨g, 0, none⟩) (bs.set j (sized (nthBatch bs j) v)).length c] := by
    rw [List.length_set]; exact h.xb.other hx _ _
  exact ⟨⟨h.rd.set (by omega) _ _, gr_set h.gr (by omega) _ _, h.ob.other (by omega) _ _, hxb, ho, h.lo, h.hr⟩, hc, h1.frozenAt _, by omega⟩
theorem St.lst (h : St w B r P x f g c bs W) : LstBatch W W.heap.size (some ⟨g, 0, none⟩) bs := h.own.up.2.1.lst
theorem St.cap (h : St w B r P x f g c bs W) : bs.length ≤ c := h.own.up.2.2
end
/-- A store was drawn. -/
def DrawnStore (w : World) (B r P : Nat) (e : Ending) (w' : World) : Prop :=
  ∃ (f : Int) (g c : Nat) (bs : List VBatch), e = .returned (.agg #[.int .i64 f, .slice (some ⟨g, 0, none⟩) bs.length c]) ∧ bs.length ≤ 13 ∧ OwnBatch w' (w.heap.size + 1) (.slice (some ⟨g, 0, none⟩) bs.length c) bs ∧ RdAt w' B r P ∧ w.grownBy w' (some r)
theorem St.drawn {w W : World} {B r P x : Nat} {f : Int} {g c : Nat} {bs : List VBatch} (h : St w B r P x f g c bs W) (hl : bs.length ≤ 13) : DrawnStore w B r P (.returned (.agg #[.int .i64 f, .slice (some ⟨g, 0, none⟩) bs.length c])) ((W.setCell ⟨w.heap.size, 0, none⟩ (.int .i64 f)).setCell ⟨w.heap.size, 1, none⟩ (.slice (some ⟨g, 0, none⟩) bs.length c)) := by
  have hg := Own.base_le h.own g rfl
  exact ⟨f, g, c, bs, rfl, hl, Own.setOther (Own.setOther h.own (by omega)) (by omega), (h.rd.set h.hr _ _).set h.hr _ _, gr_set (gr_set h.gr (Nat.le_refl _) _ _) (Nat.le_refl _) _ _⟩
set_option maxHeartbeats 8000000 in
theorem s_l92Store (w : World) (B r P : Nat) (h : RdAt w B r P) (hP : P ≤ 800000) :
    Calls Try.prog 36 #[.pointer (some ⟨r, 0, none⟩)] w (DrawnStore w B r (P + 500)) := by
  have hrl := h.lt
  have H := Lib.hid h
  clear h
  go_enter Try.func36, Try.ntmps36
  go_wp2_with fail
  refine (pick_any _ B r _ 3 (H.out.carry (allocB _ _)) (by omega)).mono ?_
  rintro e w1 ⟨x1, rfl, hx1, _, hn1, hr1, hg1, hs1⟩
  have b1 := (Box.new w #[.int .i64 0, .slice none 0 0] 25).grown hg1 (fun k hk => by injection hk; omega)
  have g1 := (gr_alloc (gr_refl w r) (.cells #[.int .i64 0, .slice none 0 0] 25)).trans hg1
  have z1 : w.heap.size + 1 ≤ w1.heap.size := by have := hg1.size; simpa using this
  have S1 := Lib.hid (show St w B r (P + 1) (w1.heap.size + 1) x1 w1.heap.size 0 [] ((w1.alloc (.cells #[] 27)).alloc (.cells #[.int .i64 x1, .slice (some ⟨w1.heap.size, 0, none⟩) 0 0] 25)) from
    ⟨hr1.carry (allocB2 w1 _ _), gr_alloc (gr_alloc g1 _) _, b1.carry (allocB2 w1 _ _), by have := Box.new (w1.alloc (.cells #[] 27)) #[.int .i64 x1, .slice (some ⟨w1.heap.size, 0, none⟩) 0 0] 25; simpa using this, (OwnBatch.start z1).alloc _, by omega, hrl⟩)
  clear hn1 hs1 hg1 hr1 b1 g1
  have hx3 : w.heap.size < w1.heap.size + 1 := by omega
  go_wp2_with fail
  generalize w1.heap.size + 1 = x3 at S1 hx3 ⊢
  go_loopw [4] (fun i wr => ∃ (k : Nat) (f : Int) (g c : Nat) (bs : List VBatch), i = .int .i64 k ∧ k ≤ 25 ∧ bs.length ≤ 12 ∧ St w B r (P + 1 + 15 * k) x3 f g c bs wr) (fun i _ => 26 - (intOf i).toNat)
  case atStart => exact ⟨0, x1, _, 0, [], rfl, by omega, by simp, S1.out⟩
  case round =>
    obtain ⟨k, f, g, c, bs, rfl, hk, hl12, hst⟩ := hrel
    have ST := Lib.hid hst
    clear hst S1
    go_wp2_with fail
    refine (pick_any _ B r _ 26 ST.out.rd (by omega)).mono ?_
    rintro e w2 ⟨x2, rfl, hx2, _, hn2, hr2, hg2, hs2⟩
    have hl2 := hn2 (by omega)
    have S2 := Lib.hid (ST.out.grown hg2 hr2)
    clear hn2 hs2 hg2 hr2 ST
    by_cases hlt : (k : Int) < x2
    · have hd : decide ((k : Int) < x2) = true := by simpa using hlt
      go_wp2_with fail
      refine (s_l92Batch _ B r _ S2.out.rd (by omega)).mono ?_
      rintro e w3 ⟨b, rfl, hr3, hg3⟩
      have hs3 := S2.out.grown hg3 hr3
      have hz3 := hs3.size
      have hgy := Own.lt hs3.own g rfl
      have hxy := hs3.xb.lt
      have S3 := Lib.hid (hs3.carry (allocB w3 (.cells #[.int .i64 b.d, .int .i64 b.a, .int .i64 b.r, .int .i64 b.s] 27)))
      have Y3 := Lib.hid (Box.new w3 #[.int .i64 b.d, .int .i64 b.a, .int .i64 b.r, .int .i64 b.s] 27)
      clear hr3 hg3 hs3 S2
      go_wp2_with fail
      generalize w3.heap.size = y at S3 Y3 hz3 hgy hxy ⊢
      generalize w3.alloc (.cells #[.int .i64 b.d, .int .i64 b.a, .int .i64 b.r, .int .i64 b.s] 27) = w3' at S3 Y3 ⊢
      refine (pick_any _ B r _ 2 S3.out.rd (by omega)).mono ?_
      rintro e w4 ⟨x4, rfl, hx4, _, hn4, hr4, hg4, hs4⟩
      have S4 := Lib.hid (S3.out.grown hg4 hr4)
      have Y4 := Lib.hid (Y3.out.grown hg4 (fun k hk => by injection hk; omega))
      clear hn4 hs4 hg4 hr4 S3 Y3
      by_cases h4 : x4 = 0
      · have hb4 : (x4 == 0) = true := by simp [h4]
        clear h4
        go_wp2_with fail
        refine (pick_any _ B r _ 7 S4.out.rd (by omega)).mono ?_
        rintro e w5 ⟨x5, rfl, hx5, _, hn5, hr5, hg5, hs5⟩
        have S5 := Lib.hid ((S4.out.grown hg5 hr5).other (q := y) (j := 1) (u := .int .i64 x5) (by omega) (by omega) (by omega))
        have y5 := Y4.out.grown hg5 (fun k hk => by injection hk; omega)
        have Y5 := Lib.hid (show Box (w5.setCell ⟨y, 1, none⟩ (.int .i64 x5)) y 27 #[.int .i64 b.d, .int .i64 x5, .int .i64 b.r, .int .i64 b.s] from y5.set 1 _)
        have c1 := y5.cell (j := 1) (u := .int .i64 b.a) rfl
        have f1 := y5.free 1
        clear hn5 hs5 hg5 hr5 S4 Y4 y5
        go_wp2_with fail
        generalize w5.setCell ⟨y, 1, none⟩ (.int .i64 x5) = w5' at S5 Y5 ⊢
        refine (pick_any _ B r _ 3 S5.out.rd (by omega)).mono ?_
        rintro e w6 ⟨x6, rfl, hx6, _, hn6, hr6, hg6, hs6⟩
        have hl6 := hn6 (by omega)
        have hw6 : IntKind.i64.wrap (1 + x6) = 1 + x6 := IntWalk.i64_in _ (by omega)
        have S6 := Lib.hid ((S5.out.grown hg6 hr6).other (q := y) (j := 3) (u := .int .i64 (1 + x6)) (by omega) (by omega) (by omega))
        have y6 := Y5.out.grown hg6 (fun k hk => by injection hk; omega)
        have Y6 := Lib.hid (show Box (w6.setCell ⟨y, 3, none⟩ (.int .i64 (1 + x6))) y 27 #[.int .i64 b.d, .int .i64 x5, .int .i64 b.r, .int .i64 (1 + x6)] from y6.set 3 _)
        have c3 := y6.cell (j := 3) (u := .int .i64 b.s) rfl
        have f3 := y6.free 3
        have q0 := y6.cell (j := 0) (u := .int .i64 b.d) rfl
        have q1 := y6.cell (j := 1) (u := .int .i64 x5) rfl
        have q2 := y6.cell (j := 2) (u := .int .i64 b.r) rfl
        have p0 := (S5.out.grown hg6 hr6).xb.cell (j := 0) (u := .int .i64 f) rfl
        have p1 := (S5.out.grown hg6 hr6).xb.cell (j := 1) (u := .slice (some ⟨g, 0, none⟩) bs.length c) rfl
        clear hn6 hs6 hg6 hr6 S5 Y5 y6 c1 f1
        go_wp2_with fail
        refine (s_StorePut f g c bs ⟨b.d, x5, b.r, 1 + x6⟩ _ S6.out.lst S6.out.cap (by omega)).mono ?_
        rintro e w8 ⟨A8, cap8, rfl, ho8, hb8⟩
        have S8 := Lib.hid (S6.out.carry hb8)
        have HO := Lib.hid ho8
        have hz8 := Nat.lt_trans S6.out.lo S6.out.xb.lt
        clear ho8 hb8 S6 Y6 q0 q1 q2 c3 f3 p0 p1
        by_cases hc0 : putCode f bs ⟨b.d, x5, b.r, 1 + x6⟩ = 0
        · obtain ⟨g8, rfl, own8⟩ := HO.out (by rw [hc0]; decide)
          have S9 := Lib.hid ((S8.out.put (v := putFloor f bs ⟨b.d, x5, b.r, 1 + x6⟩) (Own.lower own8 hz8)).carry (allocB _ (.cells #[.int .i64 (putFloor f bs ⟨b.d, x5, b.r, 1 + x6⟩), .slice (some ⟨g8, 0, none⟩) (putList f bs ⟨b.d, x5, b.r, 1 + x6⟩).length cap8] 25)))
          have HL := Lib.hid (put_len hc0)
          have c0 := S8.out.xb.cell (j := 0) (u := .int .i64 f) rfl
          have c1 := S8.out.xb.cell (j := 1) (u := .slice (some ⟨g, 0, none⟩) bs.length c) rfl
          have f0 := S8.out.xb.free 0
          have f1 := S8.out.xb.free 1
          have hxl := S8.out.xb.lt
          clear own8 HO S8
          go_wp2_with fail
          go_roundw
          case rel => exact ⟨k + 1, _, _, _, _, by go_num, by omega, HL.out, S9.out.mono (by omega)⟩
          case measure => simp [intOf]; omega
        · have hb0 : (putCode f bs ⟨b.d, x5, b.r, 1 + x6⟩ == 0) = false := by simpa using hc0
          have S9 := Lib.hid (S8.out.carry (allocB _ (.cells #[.int .i64 (putFloor f bs ⟨b.d, x5, b.r, 1 + x6⟩), .slice A8 (putList f bs ⟨b.d, x5, b.r, 1 + x6⟩).length cap8] 25)))
          clear HO S8
          go_wp2_with fail
          go_roundw
          case rel => exact ⟨k + 1, _, _, _, _, by go_num, by omega, hl12, S9.out.mono (by omega)⟩
          case measure => simp [intOf]; omega
      · have hb4 : (x4 == 0) = false := by simp [h4]
        clear h4
        have q0 := Y4.out.cell (j := 0) (u := .int .i64 b.d) rfl
        have q1 := Y4.out.cell (j := 1) (u := .int .i64 b.a) rfl
        have q2 := Y4.out.cell (j := 2) (u := .int .i64 b.r) rfl
        have q3 := Y4.out.cell (j := 3) (u := .int .i64 b.s) rfl
        have p0 := S4.out.xb.cell (j := 0) (u := .int .i64 f) rfl
        have p1 := S4.out.xb.cell (j := 1) (u := .slice (some ⟨g, 0, none⟩) bs.length c) rfl
        go_wp2_with fail
        refine (s_StorePut f g c bs ⟨b.d, b.a, b.r, b.s⟩ _ S4.out.lst S4.out.cap (by omega)).mono ?_
        rintro e w8 ⟨A8, cap8, rfl, ho8, hb8⟩
        have S8 := Lib.hid (S4.out.carry hb8)
        have HO := Lib.hid ho8
        have hz8 := Nat.lt_trans S4.out.lo S4.out.xb.lt
        clear ho8 hb8 S4 Y4 q0 q1 q2 q3 p0 p1
        by_cases hc0 : putCode f bs ⟨b.d, b.a, b.r, b.s⟩ = 0
        · obtain ⟨g8, rfl, own8⟩ := HO.out (by rw [hc0]; decide)
          have S9 := Lib.hid ((S8.out.put (v := putFloor f bs ⟨b.d, b.a, b.r, b.s⟩) (Own.lower own8 hz8)).carry (allocB _ (.cells #[.int .i64 (putFloor f bs ⟨b.d, b.a, b.r, b.s⟩), .slice (some ⟨g8, 0, none⟩) (putList f bs ⟨b.d, b.a, b.r, b.s⟩).length cap8] 25)))
          have HL := Lib.hid (put_len hc0)
          have c0 := S8.out.xb.cell (j := 0) (u := .int .i64 f) rfl
          have c1 := S8.out.xb.cell (j := 1) (u := .slice (some ⟨g, 0, none⟩) bs.length c) rfl
          have f0 := S8.out.xb.free 0
          have f1 := S8.out.xb.free 1
          have hxl := S8.out.xb.lt
          clear own8 HO S8
          go_wp2_with fail
          go_roundw
          case rel => exact ⟨k + 1, _, _, _, _, by go_num, by omega, HL.out, S9.out.mono (by omega)⟩
          case measure => simp [intOf]; omega
        · have hb0 : (putCode f bs ⟨b.d, b.a, b.r, b.s⟩ == 0) = false := by simpa using hc0
          have S9 := Lib.hid (S8.out.carry (allocB _ (.cells #[.int .i64 (putFloor f bs ⟨b.d, b.a, b.r, b.s⟩), .slice A8 (putList f bs ⟨b.d, b.a, b.r, b.s⟩).length cap8] 25)))
          clear HO S8
          go_wp2_with fail
          go_roundw
          case rel => exact ⟨k + 1, _, _, _, _, by go_num, by omega, hl12, S9.out.mono (by omega)⟩
          case measure => simp [intOf]; omega
    · have hd : decide ((k : Int) < x2) = false := by simpa using hlt
      go_wp2_with fail
      refine (pick_any _ B r _ 16 S2.out.rd (by omega)).mono ?_
      rintro e w3 ⟨x9, rfl, hx9, _, hn3, hr3, hg3, hs3⟩
      have S3 := Lib.hid (S2.out.grown hg3 hr3)
      clear hn3 hs3 hg3 hr3 S2
      by_cases h0 : x9 = 0
      · have hb0 : (x9 == 0) = true := by simp [h0]
        clear h0
        go_wp2_with fail
        refine (pick_any _ B r _ 34 S3.out.rd (by omega)).mono ?_
        rintro e w4 ⟨x10, rfl, hx10, _, hn4, hr4, hg4, hs4⟩
        have hl10 := hn4 (by omega)
        have S4 := Lib.hid (S3.out.grown hg4 hr4)
        clear hn4 hs4 hg4 hr4 S3
        have c0 := S4.out.xb.cell (j := 0) (u := .int .i64 f) rfl
        have c1 := S4.out.xb.cell (j := 1) (u := .slice (some ⟨g, 0, none⟩) bs.length c) rfl
        have f0 := S4.out.xb.free 0
        have z0 := S4.out.ob.cell (j := 0) (u := .int .i64 0) rfl
        have z1 := S4.out.ob.cell (j := 1) (u := .slice none 0 0) rfl
        have zf0 := S4.out.ob.free 0
        have zf1 := S4.out.ob.free 1
        have hxo : w.heap.size ≠ x3 := by omega
        go_wp2_with fail
        exact bodyPost_ret (v := .agg #[.int .i64 (x10 - 1), .slice (some ⟨g, 0, none⟩) bs.length c]) (by simp [results, Try.results36, go_sem, *]) rfl (St.drawn ((S4.out.floor (x10 - 1)).mono (by omega)) (by omega))
      have hb0 : (x9 == 0) = false := by simp [h0]
      clear h0
      by_cases h1 : x9 = 1
      · have hb1 : (x9 == 1) = true := by simp [h1]
        clear h1
        have hl1 : bs.length + 1 ≤ 10000000 := by omega
        have hS3 : St w B r (P + 1 + 15 * k + 1 + 1) x3 f g c bs w3.drew := S3.out.carry (Below.refl w3.heap.size w3).drew
        have hd1 : w3.drew.cell? ⟨x3, 1, none⟩ = some (.slice (some ⟨g, 0, none⟩) bs.length c) := hS3.xb.cell rfl
        clear S3
        go_wp2_with fail
        go_region_law
          (first
            | ((go_simp; go_at_call 37; refine (s_l92Batch _ B r _ hS3.rd (by omega)).mono ?_; rintro e w4 ⟨b, rfl, hr4, hg4⟩; have hS4 := Lib.hid (hS3.grown hg4 hr4); have hd4 := hS4.out.xb.cell (j := 1) (u := .slice (some ⟨g, 0, none⟩) bs.length c) rfl; have hxl4 := hS4.out.xb.lt; clear hr4 hg4))
            | ((refine stepAll elem_Batch (by omega) (by omega) (by rfl) (.tmp 50) (.tmp 53) (by rfl) _ (w.heap.size + 1) _ bs.length (cellsBatch bs) (by rfl) (hS4.out.carry (allocB _ (.cells #[.int .i64 b.d, .int .i64 b.a, .int .i64 b.r, .int .i64 b.s] 27))).own (w4.heap.size + 1) (some ⟨w4.heap.size, 0, none⟩) 1 1 b.cells (by rfl) rfl (row_of_box (Box.new w4 #[.int .i64 b.d, .int .i64 b.a, .int .i64 b.r, .int .i64 b.s] 27) (by omega)) (cells_one b) hl1 (by have := (hS4.out.carry (allocB w4 (.cells #[.int .i64 b.d, .int .i64 b.a, .int .i64 b.r, .int .i64 b.s] 27))).ob.lt; omega) ?_; intro g5 cap5 w5 own5 hg5; have q5 := (hS4.out.carry (allocB _ (.cells #[.int .i64 b.d, .int .i64 b.a, .int .i64 b.r, .int .i64 b.s] 27))).app (n := bs.length + 1) (bs' := bs ++ [b]) (by unfold OwnBatch; rw [cellsBatch_snoc, List.length_append]; exact own5) hg5; obtain ⟨q5, k0, k1, kf1, ⟨z0, zf0⟩, z1, zf1⟩ := q5; have S5 := Lib.hid q5; clear q5 own5 hg5)))
        all_goals
          have hxo : w.heap.size ≠ x3 := by omega
          go_wp2_with fail
          refine bodyPost_ret (v := .agg #[.int .i64 f, .slice (some ⟨g5, 0, none⟩) (bs.length + 1) cap5]) (by simp [results, Try.results36, go_sem, *]) rfl ?_
          have hfin := St.drawn (S5.out.mono (P' := P + 500) (by omega)) (by simp; omega)
          rw [List.length_append] at hfin
          exact hfin
      have hb1 : (x9 == 1) = false := by simp [h1]
      clear h1
      by_cases h2 : x9 = 2
      · have hb2 : (x9 == 2) = true := by simp [h2]
        clear h2
        by_cases hz : 0 < bs.length
        · have hS3 : St w B r (P + 1 + 15 * k + 1 + 1) x3 f g c bs w3.drew := S3.out.carry (Below.refl w3.heap.size w3).drew
          have hc1 := S3.out.xb.cell (j := 1) (u := .slice (some ⟨g, 0, none⟩) bs.length c) rfl
          have hd1 : w3.drew.cell? ⟨x3, 1, none⟩ = some (.slice (some ⟨g, 0, none⟩) bs.length c) := hS3.xb.cell rfl
          have hzd : decide (0 < bs.length) = true := by simpa using hz
          clear S3
          go_wp2_with fail
          clear hc1
          go_region_held3 (fun W => W.cell? ⟨x3, 1, none⟩ = some (.slice (some ⟨g, 0, none⟩) bs.length c)) (first | assumption | exact hS3.xb.cell rfl | exact hS4.xb.cell rfl | exact hS5.out.xb.cell rfl | exact cell_oth hS5.out.gx (hS5.out.xb.cell rfl) | go_keep)
            (first
              | ((go_at_call 52; refine (pick_any _ B r _ 15 hS4.rd (by omega)).mono ?_; rintro e w5 ⟨v, rfl, _, _, _, hr5, hg5, _⟩; have hS5 := Lib.hid (hS4.grown hg5 hr5); obtain ⟨q5, k3, kf3, kg⟩ := hS5.out.size_set hj v; have S6 := Lib.hid q5; clear q5 hr5 hg5))
              | ((go_at_call 52; refine (pick_any _ B r _ _ hS3.rd (by omega)).mono ?_; rintro e w4 ⟨xi, rfl, hxi, _, hni, hr4, hg4, _⟩; obtain ⟨j, rfl⟩ := Int.eq_ofNat_of_zero_le hxi; have hj : j < bs.length := (by have := hni (by omega); omega); have hS4 := hS3.grown hg4 hr4; clear hr4 hg4 hni)))
          all_goals
            have c0 := S6.out.xb.cell (j := 0) (u := .int .i64 f) rfl
            have c1 := cell_oth (j := j * 4 + 3) (u := .int .i64 v) hS5.out.gx (hS5.out.xb.cell (j := 1) (u := .slice (some ⟨g, 0, none⟩) bs.length c) rfl)
            have z0 := S6.out.ob.cell (j := 0) (u := .int .i64 0) rfl
            have z1 := S6.out.ob.cell (j := 1) (u := .slice none 0 0) rfl
            have zf0 := S6.out.ob.free 0
            have zf1 := S6.out.ob.free 1
            have hxo : w.heap.size ≠ x3 := by omega
            have hLS : (bs.set j (sized (nthBatch bs j) v)).length = bs.length := List.length_set ..
            have HLS := Lib.hid hLS
            clear hLS k3 kf3
            go_wp2_with fail
            refine bodyPost_ret (v := .agg #[.int .i64 f, .slice (some ⟨g, 0, none⟩) bs.length c]) (by simp [results, Try.results36, go_sem, *]) rfl ?_
            have hfin := St.drawn (S6.out.mono (P' := P + 500) (by omega)) (by rw [HLS.out]; omega)
            rw [HLS.out] at hfin
            exact hfin
        · have hzd : decide (0 < bs.length) = false := by simpa using hz
          have c0 := S3.out.xb.cell (j := 0) (u := .int .i64 f) rfl
          have c1 := S3.out.xb.cell (j := 1) (u := .slice (some ⟨g, 0, none⟩) bs.length c) rfl
          have f0 := S3.out.xb.free 0
          have z0 := S3.out.ob.cell (j := 0) (u := .int .i64 0) rfl
          have z1 := S3.out.ob.cell (j := 1) (u := .slice none 0 0) rfl
          have zf0 := S3.out.ob.free 0
          have zf1 := S3.out.ob.free 1
          have hxo : w.heap.size ≠ x3 := by omega
          go_wp2_with fail
          exact bodyPost_ret (v := .agg #[.int .i64 f, .slice (some ⟨g, 0, none⟩) bs.length c]) (by simp [results, Try.results36, go_sem, *]) rfl (St.drawn (S3.out.mono (by omega)) (by omega))
      · have hb2 : (x9 == 2) = false := by simp [h2]
        clear h2
        have c0 := S3.out.xb.cell (j := 0) (u := .int .i64 f) rfl
        have c1 := S3.out.xb.cell (j := 1) (u := .slice (some ⟨g, 0, none⟩) bs.length c) rfl
        have f0 := S3.out.xb.free 0
        have z0 := S3.out.ob.cell (j := 0) (u := .int .i64 0) rfl
        have z1 := S3.out.ob.cell (j := 1) (u := .slice none 0 0) rfl
        have zf0 := S3.out.ob.free 0
        have zf1 := S3.out.ob.free 1
        have hxo : w.heap.size ≠ x3 := by omega
        go_wp2_with fail
        exact bodyPost_ret (v := .agg #[.int .i64 f, .slice (some ⟨g, 0, none⟩) bs.length c]) (by simp [results, Try.results36, go_sem, *]) rfl (St.drawn (S3.out.mono (by omega)) (by omega))
end Go.Proofs.Ytmfbhddnlgbcmaa
