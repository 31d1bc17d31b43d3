/- StorePut of the reference, by its contract. -/
import Derived.Test.YtmfbhddnlgbcmaaPutP
import Derived.Test.YtmfbhddnlgbcmaaForgetStore
import Derived.Deep.RegionHeld3
import Derived.Deep.RegionLaw
import Derived.Deep.DeepCutAuto
import Derived.Deep.CutBlock
namespace Go.Proofs.Ytmfbhddnlgbcmaa
open Go.RowKit
set_option linter.unusedVariables false

/-- What putting hands back: a floor, a list in new memory (nil for an invalid argument), a code. -/
def Put (w : World) (f : Int) (bs : List VBatch) (b : VBatch) (e : Ending) (w' : World) : Prop :=
  ∃ (A : Option Addr) (cap : Nat), e = .returned (.tuple #[.agg #[.int .i64 (putFloor f bs b), .slice A (putList f bs b).length cap], .int .i64 (putCode f bs b)]) ∧ (putCode f bs b ≠ 4 → ∃ g, A = some ⟨g, 0, none⟩ ∧ OwnBatch w' w.heap.size (.slice (some ⟨g, 0, none⟩) (putList f bs b).length cap) (putList f bs b)) ∧ Below w.heap.size w w'
theorem put_4 {w w' : World} {f : Int} {bs : List VBatch} {b : VBatch} {e : Ending} (h4 : putCode f bs b = 4) (he : e = .returned (.tuple #[.agg #[.int .i64 0, .slice none 0 0], .int .i64 4])) (hb : Below w.heap.size w w') : Put w f bs b e w' := by
  have e1 : putFloor f bs b = 0 := by rw [putFloor, if_pos h4]
  have e2 : putList f bs b = [] := by rw [putList, if_pos h4]
  exact ⟨none, 0, by rw [he, e1, e2, h4]; rfl, fun h => absurd h4 h, hb⟩
theorem put_k {w w' : World} {f k : Int} {bs ks : List VBatch} {b : VBatch} {e : Ending} {g cap : Nat} (hk : putCode f bs b = k) (h4 : k ≠ 4) (hl : putList f bs b = ks) (he : e = .returned (.tuple #[.agg #[.int .i64 f, .slice (some ⟨g, 0, none⟩) ks.length cap], .int .i64 k])) (ho : OwnBatch w' w.heap.size (.slice (some ⟨g, 0, none⟩) ks.length cap) ks) (hb : Below w.heap.size w w') : Put w f bs b e w' := by
  have e1 : putFloor f bs b = f := by rw [putFloor, if_neg (by rw [hk]; exact h4)]
  exact ⟨some ⟨g, 0, none⟩, cap, by rw [he, e1, hl, hk], fun _ => ⟨g, rfl, by rw [hl]; exact ho⟩, hb⟩
theorem list_same {f k : Int} {bs : List VBatch} {b : VBatch} (hk : putCode f bs b = k) (h4 : k ≠ 4) (h0 : k ≠ 0) : putList f bs b = bs := by
  unfold putList; rw [hk, if_neg h4, if_neg h0]
theorem list_in {f : Int} {bs : List VBatch} {b : VBatch} (hk : putCode f bs b = 0) : putList f bs b = inserted bs b := by
  unfold putList; rw [hk]; simp
theorem nthBatch_take {bs : List VBatch} {k i : Nat} (h : i < k) : nthBatch (bs.take k) i = nthBatch bs i := by simp [nthBatch, h]
theorem nthBatch_drop {bs : List VBatch} {k i : Nat} : nthBatch (bs.drop k) i = nthBatch bs (k + i) := by simp [nthBatch, List.getElem?_drop]
theorem lst_take {w : World} {B ga : Nat} {bs : List VBatch} (h : LstBatch w B (some ⟨ga, 0, none⟩) bs) (k : Nat) : LstBatch w B (some ⟨ga, 0, none⟩) (bs.take k) := fun hn => by
  obtain ⟨b, off, e, hB, hc⟩ := h (by intro e; subst e; simp at hn)
  exact ⟨b, off, e, hB, fun i hi => by
    rw [List.length_take] at hi
    rw [nthBatch_take (by omega)]; exact hc i (by omega)⟩
theorem lst_drop {w : World} {B ga : Nat} {bs : List VBatch} (h : LstBatch w B (some ⟨ga, 0, none⟩) bs) (k : Nat) : LstBatch w B (some ⟨ga, k * 4, none⟩) (bs.drop k) := fun hn => by
  obtain ⟨b, off, e, hB, hc⟩ := h (by intro e; subst e; simp at hn)
  injection e with e
  injection e with e1 e2
  subst e1 e2
  exact ⟨_, _, rfl, hB, fun i hi => by
    rw [List.length_drop] at hi
    rw [nthBatch_drop]
    have := hc (k + i) (by omega)
    simp only [Nat.zero_add] at this
    rw [show k * 4 + i * 4 = (k + i) * 4 from by omega]
    exact this⟩
theorem lst_at {w : World} {B ga : Nat} {bs : List VBatch} (h : LstBatch w B (some ⟨ga, 0, none⟩) bs) {i : Nat} (hi : i < bs.length) : w.cell? ⟨ga, i * 4, none⟩ = some (.int .i64 (nthBatch bs i).d) := by
  obtain ⟨b, off, e, hB, hc⟩ := h.at_ hi
  injection e with e
  injection e with e1 e2
  subst e1 e2
  have := (hc i hi).1
  rwa [Nat.zero_add] at this
theorem set2 {W : World} {g g' j : Nat} {u v0 v1 : Value} (hne : g' ≠ g) (h : W.cell? ⟨g, 0, none⟩ = some v0 ∧ W.cell? ⟨g, 1, none⟩ = some v1) : (W.setCell ⟨g', j, none⟩ u).cell? ⟨g, 0, none⟩ = some v0 ∧ (W.setCell ⟨g', j, none⟩ u).cell? ⟨g, 1, none⟩ = some v1 :=
  ⟨(World.cell?_setCell_other W _ _ _ (fun e => by injection e with e1; exact hne e1)).trans h.1, (World.cell?_setCell_other W _ _ _ (fun e => by injection e with e1; exact hne e1)).trans h.2⟩
/-- What lies ahead of the copy: the empty row at gE, the list, the boxes. -/
def PC (w : World) (f : Int) (ga c : Nat) (bs : List VBatch) (b : VBatch) (gE : Nat) (W : World) : Prop :=
  Own W w.heap.size 27 4 (.slice (some ⟨gE, 0, none⟩) 0 0) 0 [] ∧ Row W w.heap.size (some ⟨ga, 0, none⟩) (cellsBatch bs) ∧ Box W w.heap.size 25 #[.int .i64 f, .slice (some ⟨ga, 0, none⟩) bs.length c] ∧ Box W (w.heap.size + 1) 27 #[.int .i64 b.d, .int .i64 b.a, .int .i64 b.r, .int .i64 b.s] ∧ Box W (w.heap.size + 2) 25 #[.int .i64 0, .slice none 0 0] ∧ Below w.heap.size w W ∧ w.heap.size ≤ W.heap.size ∧ w.heap.size + 2 < gE
/-- .. and behind it. -/
def PE (w : World) (f : Int) (ga c : Nat) (bs : List VBatch) (b : VBatch) (g cap : Nat) (W : World) : Prop :=
  OwnBatch W w.heap.size (.slice (some ⟨g, 0, none⟩) bs.length cap) bs ∧ Box W w.heap.size 25 #[.int .i64 f, .slice (some ⟨ga, 0, none⟩) bs.length c] ∧ Box W (w.heap.size + 1) 27 #[.int .i64 b.d, .int .i64 b.a, .int .i64 b.r, .int .i64 b.s] ∧ Box W (w.heap.size + 2) 25 #[.int .i64 0, .slice none 0 0] ∧ Below w.heap.size w W
def PD (w : World) (f : Int) (ga c : Nat) (bs : List VBatch) (b : VBatch) (go g cap : Nat) (W : World) : Prop :=
  PE w f ga c bs b g cap W ∧ Box W go 25 #[.int .i64 f, .slice (some ⟨g, 0, none⟩) bs.length cap] ∧ w.heap.size + 2 < go
theorem PC.after {w W w3 : World} {f : Int} {ga c : Nat} {bs : List VBatch} {b : VBatch} {gE g cap : Nat} (h : PC w f ga c bs b gE W) (own3 : Own w3 w.heap.size 27 4 (.slice (some ⟨g, 0, none⟩) (0 + bs.length) cap) (0 + bs.length) ([] ++ cellsBatch bs)) (hg3 : W.grownBy w3 (Value.slice (some ⟨gE, 0, none⟩) 0 0).ownBlock) :
    PE w f ga c bs b g cap w3 ∧ (w3.cell? ⟨w.heap.size, 0, none⟩ = some (.int .i64 f) ∧ w3.cell? ⟨w.heap.size, 1, none⟩ = some (.slice (some ⟨ga, 0, none⟩) bs.length c)) := by
  obtain ⟨h1, h2, h3, h4, h5, h6, h7, h8⟩ := h
  have x3 := h3.grown hg3 (own_ne (by omega))
  refine ⟨⟨by unfold OwnBatch; simpa using own3, x3, h4.grown hg3 (own_ne (by omega)), h5.grown hg3 (own_ne (by omega)), below_own h6 h1 (Nat.le_refl _) hg3⟩, x3.cell rfl, x3.cell rfl⟩
theorem PD.drewN {w W : World} {f : Int} {ga c : Nat} {bs : List VBatch} {b : VBatch} {go g cap : Nat} (h : PD w f ga c bs b go g cap W) (n : Nat) : PD w f ga c bs b go g cap (W.drewN n) :=
  ⟨⟨h.1.1, h.1.2.1, h.1.2.2.1, h.1.2.2.2.1, below_drewN h.1.2.2.2.2 n⟩, h.2.1, h.2.2⟩
theorem PE.fin1 {w W : World} {f : Int} {ga c : Nat} {bs : List VBatch} {b : VBatch} {g cap : Nat} (h : PE w f ga c bs b g cap W) : PD w f ga c bs b W.heap.size g cap (W.alloc (.cells #[.int .i64 f, .slice (some ⟨g, 0, none⟩) bs.length cap] 25)) := by
  obtain ⟨h1, h2, h3, h4, h5⟩ := h
  exact ⟨⟨h1.alloc _, h2.carry (allocB _ _), h3.carry (allocB _ _), h4.carry (allocB _ _), next h5 (allocB _ _)⟩, Box.new _ _ _, h4.lt⟩
theorem PE.fin2 {w W : World} {f : Int} {ga c : Nat} {bs : List VBatch} {b : VBatch} {g cap go : Nat} (h : PE w f ga c bs b g cap W) (hz : Box W go 25 #[.int .i64 0, .slice none 0 0]) (hgo : w.heap.size + 2 < go) :
    PD w f ga c bs b go g cap ((W.setCell ⟨go, 0, none⟩ (.int .i64 f)).setCell ⟨go, 1, none⟩ (.slice (some ⟨g, 0, none⟩) bs.length cap)) := by
  obtain ⟨h1, h2, h3, h4, h5⟩ := h
  have hne := Own.ne_box h1 hz (by decide)
  exact ⟨⟨Own.setOther (Own.setOther h1 hne) hne, (h2.other (by omega) _ _).other (by omega) _ _, (h3.other (by omega) _ _).other (by omega) _ _, (h4.other (by omega) _ _).other (by omega) _ _, (h5.setCell (by show w.heap.size ≤ go; omega) _).setCell (by show w.heap.size ≤ go; omega) _⟩, (hz.set 0 _).set 1 _, hgo⟩
theorem row_of_box {w : World} {g B : Nat} {t : TypeId} {b : VBatch} (h : Box w g t #[.int .i64 b.d, .int .i64 b.a, .int .i64 b.r, .int .i64 b.s]) (hB : g < B) : Row w B (some ⟨g, 0, none⟩) b.cells := fun _ =>
  ⟨g, 0, rfl, hB, fun j u hu => by rw [Nat.zero_add]; exact (cell_of_row w g j _ _ _ h).trans (by simpa [VBatch.cells] using hu)⟩
/-- The boxes alone. -/
def PB (w : World) (f : Int) (ga c : Nat) (bs : List VBatch) (b : VBatch) (go g cap : Nat) (W : World) : Prop :=
  Box W w.heap.size 25 #[.int .i64 f, .slice (some ⟨ga, 0, none⟩) bs.length c] ∧ Box W (w.heap.size + 1) 27 #[.int .i64 b.d, .int .i64 b.a, .int .i64 b.r, .int .i64 b.s] ∧ Box W (w.heap.size + 2) 25 #[.int .i64 0, .slice none 0 0] ∧ Box W go 25 #[.int .i64 f, .slice (some ⟨g, 0, none⟩) bs.length cap] ∧ Below w.heap.size w W ∧ w.heap.size + 2 < go
/-- What the insertion reads. -/
def PS (w : World) (ga c : Nat) (bs : List VBatch) (b : VBatch) (W : World) : Prop :=
  W.cell? ⟨w.heap.size, 1, none⟩ = some (.slice (some ⟨ga, 0, none⟩) bs.length c) ∧ W.cell? ⟨w.heap.size + 1, 0, none⟩ = some (.int .i64 b.d) ∧ W.cell? ⟨w.heap.size + 1, 1, none⟩ = some (.int .i64 b.a) ∧ W.cell? ⟨w.heap.size + 1, 2, none⟩ = some (.int .i64 b.r) ∧ W.cell? ⟨w.heap.size + 1, 3, none⟩ = some (.int .i64 b.s)
section
variable {w W W' : World} {f : Int} {ga c : Nat} {bs : List VBatch} {b : VBatch} {go g cap : Nat}
theorem PB.of (h : PD w f ga c bs b go g cap W) : PB w f ga c bs b go g cap W := ⟨h.1.2.1, h.1.2.2.1, h.1.2.2.2.1, h.2.1, h.1.2.2.2.2, h.2.2⟩
theorem PB.carry (h : PB w f ga c bs b go g cap W) (hb : Below W.heap.size W W') : PB w f ga c bs b go g cap W' := ⟨h.1.carry hb, h.2.1.carry hb, h.2.2.1.carry hb, h.2.2.2.1.carry hb, next h.2.2.2.2.1 hb, h.2.2.2.2.2⟩
theorem PB.after {q n k : Nat} {xs : List Value} (h : PB w f ga c bs b go g cap W) (ho : Own W (w.heap.size + 3) 27 4 (.slice (some ⟨q, 0, none⟩) n k) n xs) (hg : W.grownBy W' (Value.slice (some ⟨q, 0, none⟩) n k).ownBlock) : PB w f ga c bs b go g cap W' := by
  have hq := Own.base_le ho q rfl
  have hk := Own.ne_box ho h.2.2.2.1 (by decide)
  exact ⟨h.1.grown hg (own_ne (by omega)), h.2.1.grown hg (own_ne (by omega)), h.2.2.1.grown hg (own_ne (by omega)), h.2.2.2.1.grown hg (own_ne hk), below_own h.2.2.2.2.1 ho (by omega) hg, h.2.2.2.2.2⟩
theorem PB.ps (h : PB w f ga c bs b go g cap W) : PS w ga c bs b W := ⟨h.1.cell rfl, h.2.1.cell rfl, h.2.1.cell rfl, h.2.1.cell rfl, h.2.1.cell rfl⟩
theorem PS.set (h : PS w ga c bs b W) {q j : Nat} {u : Value} (hq : w.heap.size + 2 < q) : PS w ga c bs b (W.setCell ⟨q, j, none⟩ u) := by
  have hh : ∀ p i v, p ≠ q → W.cell? ⟨p, i, none⟩ = some v → (W.setCell ⟨q, j, none⟩ u).cell? ⟨p, i, none⟩ = some v := fun p i v hne hv => (World.cell?_setCell_other W _ _ _ (fun e => by injection e with e1; exact hne e1.symm)).trans hv
  exact ⟨hh _ _ _ (by omega) h.1, hh _ _ _ (by omega) h.2.1, hh _ _ _ (by omega) h.2.2.1, hh _ _ _ (by omega) h.2.2.2.1, hh _ _ _ (by omega) h.2.2.2.2⟩
end
theorem row_drop {w : World} {B ga c : Nat} {bs : List VBatch} (h : LstBatch w B (some ⟨ga, 0, none⟩) bs) (k : Nat) (hc : bs.length ≤ c) : Row w B (if c = k then some ⟨ga, 0, none⟩ else some ⟨ga, k * 4, none⟩) (cellsBatch (bs.drop k)) := by
  by_cases e : c = k
  · rw [if_pos e, List.drop_eq_nil_of_le (by omega)]; exact Row.nil _ _ _
  · rw [if_neg e]; exact (lst_drop h k).row
theorem cells_ins {bs : List VBatch} {b : VBatch} {k : Nat} (h : placeOf bs b.d = k) : cellsBatch (bs.take k) ++ b.cells ++ cellsBatch (bs.drop k) = cellsBatch (inserted bs b) := by
  rw [inserted, h]; simp [cellsBatch]
set_option maxHeartbeats 8000000 in
theorem s_StorePut_no (f : Int) (ga c : Nat) (bs : List VBatch) (b : VBatch) (w : World) (h : LstBatch w w.heap.size (some ⟨ga, 0, none⟩) bs) (hc : bs.length ≤ c) (hn : bs.length ≤ 1048576) (h4 : storeB f bs = false ∨ batchB b = false) :
    Calls Try.prog 16 #[.agg #[.int .i64 f, .slice (some ⟨ga, 0, none⟩) bs.length c], .agg #[.int .i64 b.d, .int .i64 b.a, .int .i64 b.r, .int .i64 b.s]] w (Put w f bs b) := by
  have H4 := Lib.hid (put4 h4)
  have ba := allocB3 w (.cells #[.int .i64 f, .slice (some ⟨ga, 0, none⟩) bs.length c] 25) (.cells #[.int .i64 b.d, .int .i64 b.a, .int .i64 b.r, .int .i64 b.s] 27) (.cells #[.int .i64 0, .slice none 0 0] 25)
  have XB := Lib.hid (((Box.new w #[.int .i64 f, .slice (some ⟨ga, 0, none⟩) bs.length c] 25).carry (allocB _ (.cells #[.int .i64 b.d, .int .i64 b.a, .int .i64 b.r, .int .i64 b.s] 27))).carry (allocB _ (.cells #[.int .i64 0, .slice none 0 0] 25)))
  have YB := Lib.hid (show Box (((w.alloc (.cells #[.int .i64 f, .slice (some ⟨ga, 0, none⟩) bs.length c] 25)).alloc (.cells #[.int .i64 b.d, .int .i64 b.a, .int .i64 b.r, .int .i64 b.s] 27)).alloc (.cells #[.int .i64 0, .slice none 0 0] 25)) (w.heap.size + 1) 27 #[.int .i64 b.d, .int .i64 b.a, .int .i64 b.r, .int .i64 b.s] from by
    have := (Box.new (w.alloc (.cells #[.int .i64 f, .slice (some ⟨ga, 0, none⟩) bs.length c] 25)) #[.int .i64 b.d, .int .i64 b.a, .int .i64 b.r, .int .i64 b.s] 27).carry (allocB _ (.cells #[.int .i64 0, .slice none 0 0] 25))
    simpa using this)
  have OB := Lib.hid (show Box (((w.alloc (.cells #[.int .i64 f, .slice (some ⟨ga, 0, none⟩) bs.length c] 25)).alloc (.cells #[.int .i64 b.d, .int .i64 b.a, .int .i64 b.r, .int .i64 b.s] 27)).alloc (.cells #[.int .i64 0, .slice none 0 0] 25)) (w.heap.size + 2) 25 #[.int .i64 0, .slice none 0 0] from by
    have := Box.new ((w.alloc (.cells #[.int .i64 f, .slice (some ⟨ga, 0, none⟩) bs.length c] 25)).alloc (.cells #[.int .i64 b.d, .int .i64 b.a, .int .i64 b.r, .int .i64 b.s] 27)) #[.int .i64 0, .slice none 0 0] 25
    simpa using this)
  have H0 := Lib.hid h
  have HP := Lib.hid (h.carry ba)
  have BB := Lib.hid ba
  clear h ba
  rcases hv : storeB f bs with _ | _
  · go_enter Try.func16, Try.ntmps16
    go_wp2_with fail
    refine (s_StoreValid _ _ _ bs _ HP.out hn).mono ?_
    rw [hv]
    rintro e w1 ⟨rfl, b1⟩
    replace XB := Lib.hid (XB.out.carry b1)
    replace YB := Lib.hid (YB.out.carry b1)
    replace OB := Lib.hid (OB.out.carry b1)
    replace HP := Lib.hid (HP.out.carry b1)
    replace BB := Lib.hid (next BB.out b1)
    clear b1
    have y0 := YB.out.cell (j := 0) (u := .int .i64 b.d) rfl
    have y1 := YB.out.cell (j := 1) (u := .int .i64 b.a) rfl
    have y2 := YB.out.cell (j := 2) (u := .int .i64 b.r) rfl
    have y3 := YB.out.cell (j := 3) (u := .int .i64 b.s) rfl
    clear y0 y1 y2 y3
    have o0 := OB.out.cell (j := 0) (u := .int .i64 0) rfl
    have o1 := OB.out.cell (j := 1) (u := .slice none 0 0) rfl
    have of0 := OB.out.free 0
    have of1 := OB.out.free 1
    go_wp2_with fail
    refine bodyPost_ret (v := .tuple #[.agg #[.int .i64 0, .slice none 0 0], .int .i64 4]) (by simp [results, Try.results16, go_sem, *]) rfl (put_4 H4.out rfl ?_)
    exact (BB.out.setCell (by show w.heap.size ≤ w.heap.size + 2; omega) _).setCell (by show w.heap.size ≤ w.heap.size + 2; omega) _
  · have hb : batchB b = false := by simpa [hv] using h4
    go_enter Try.func16, Try.ntmps16
    go_wp2_with fail
    refine (s_StoreValid _ _ _ bs _ HP.out hn).mono ?_
    rw [hv]
    rintro e w1 ⟨rfl, b1⟩
    replace XB := Lib.hid (XB.out.carry b1)
    replace YB := Lib.hid (YB.out.carry b1)
    replace OB := Lib.hid (OB.out.carry b1)
    replace HP := Lib.hid (HP.out.carry b1)
    replace BB := Lib.hid (next BB.out b1)
    clear b1
    have y0 := YB.out.cell (j := 0) (u := .int .i64 b.d) rfl
    have y1 := YB.out.cell (j := 1) (u := .int .i64 b.a) rfl
    have y2 := YB.out.cell (j := 2) (u := .int .i64 b.r) rfl
    have y3 := YB.out.cell (j := 3) (u := .int .i64 b.s) rfl
    go_wp2_with fail
    refine (s_l23Batch _ _ _ _ _).mono ?_
    rw [show batchB ⟨b.d, b.a, b.r, b.s⟩ = false from hb]
    rintro e w2 ⟨rfl, b2⟩
    clear y0 y1 y2 y3
    replace XB := Lib.hid (XB.out.carry b2)
    replace YB := Lib.hid (YB.out.carry b2)
    replace OB := Lib.hid (OB.out.carry b2)
    replace HP := Lib.hid (HP.out.carry b2)
    replace BB := Lib.hid (next BB.out b2)
    clear b2
    have o0 := OB.out.cell (j := 0) (u := .int .i64 0) rfl
    have o1 := OB.out.cell (j := 1) (u := .slice none 0 0) rfl
    have of0 := OB.out.free 0
    have of1 := OB.out.free 1
    go_wp2_with fail
    refine bodyPost_ret (v := .tuple #[.agg #[.int .i64 0, .slice none 0 0], .int .i64 4]) (by simp [results, Try.results16, go_sem, *]) rfl (put_4 H4.out rfl ?_)
    exact (BB.out.setCell (by show w.heap.size ≤ w.heap.size + 2; omega) _).setCell (by show w.heap.size ≤ w.heap.size + 2; omega) _
set_option maxHeartbeats 16000000 in
set_option maxRecDepth 100000 in
theorem s_StorePut_yes (f : Int) (ga c : Nat) (bs : List VBatch) (b : VBatch) (w : World) (h : LstBatch w w.heap.size (some ⟨ga, 0, none⟩) bs) (hc : bs.length ≤ c) (hn : bs.length ≤ 1048576) (hv : storeB f bs = true) (hb : batchB b = true) :
    Calls Try.prog 16 #[.agg #[.int .i64 f, .slice (some ⟨ga, 0, none⟩) bs.length c], .agg #[.int .i64 b.d, .int .i64 b.a, .int .i64 b.r, .int .i64 b.s]] w (Put w f bs b) := by
  have ba := allocB3 w (.cells #[.int .i64 f, .slice (some ⟨ga, 0, none⟩) bs.length c] 25) (.cells #[.int .i64 b.d, .int .i64 b.a, .int .i64 b.r, .int .i64 b.s] 27) (.cells #[.int .i64 0, .slice none 0 0] 25)
  have XB := Lib.hid (((Box.new w #[.int .i64 f, .slice (some ⟨ga, 0, none⟩) bs.length c] 25).carry (allocB _ (.cells #[.int .i64 b.d, .int .i64 b.a, .int .i64 b.r, .int .i64 b.s] 27))).carry (allocB _ (.cells #[.int .i64 0, .slice none 0 0] 25)))
  have YB := Lib.hid (show Box (((w.alloc (.cells #[.int .i64 f, .slice (some ⟨ga, 0, none⟩) bs.length c] 25)).alloc (.cells #[.int .i64 b.d, .int .i64 b.a, .int .i64 b.r, .int .i64 b.s] 27)).alloc (.cells #[.int .i64 0, .slice none 0 0] 25)) (w.heap.size + 1) 27 #[.int .i64 b.d, .int .i64 b.a, .int .i64 b.r, .int .i64 b.s] from by
    have := (Box.new (w.alloc (.cells #[.int .i64 f, .slice (some ⟨ga, 0, none⟩) bs.length c] 25)) #[.int .i64 b.d, .int .i64 b.a, .int .i64 b.r, .int .i64 b.s] 27).carry (allocB _ (.cells #[.int .i64 0, .slice none 0 0] 25))
    simpa using this)
  have OB := Lib.hid (show Box (((w.alloc (.cells #[.int .i64 f, .slice (some ⟨ga, 0, none⟩) bs.length c] 25)).alloc (.cells #[.int .i64 b.d, .int .i64 b.a, .int .i64 b.r, .int .i64 b.s] 27)).alloc (.cells #[.int .i64 0, .slice none 0 0] 25)) (w.heap.size + 2) 25 #[.int .i64 0, .slice none 0 0] from by
    have := Box.new ((w.alloc (.cells #[.int .i64 f, .slice (some ⟨ga, 0, none⟩) bs.length c] 25)).alloc (.cells #[.int .i64 b.d, .int .i64 b.a, .int .i64 b.r, .int .i64 b.s] 27)) #[.int .i64 0, .slice none 0 0] 25
    simpa using this)
  have H0 := Lib.hid h
  have HP := Lib.hid (h.carry ba)
  have BB := Lib.hid ba
  clear h ba
  go_enter Try.func16, Try.ntmps16
  go_wp2_with fail
  refine (s_StoreValid _ _ _ bs _ HP.out hn).mono ?_
  rw [hv]
  rintro e w1 ⟨rfl, b1⟩
  replace XB := Lib.hid (XB.out.carry b1)
  replace YB := Lib.hid (YB.out.carry b1)
  replace OB := Lib.hid (OB.out.carry b1)
  replace HP := Lib.hid (HP.out.carry b1)
  replace BB := Lib.hid (next BB.out b1)
  clear b1
  have y0 := YB.out.cell (j := 0) (u := .int .i64 b.d) rfl
  have y1 := YB.out.cell (j := 1) (u := .int .i64 b.a) rfl
  have y2 := YB.out.cell (j := 2) (u := .int .i64 b.r) rfl
  have y3 := YB.out.cell (j := 3) (u := .int .i64 b.s) rfl
  go_wp2_with fail
  refine (s_l23Batch _ _ _ _ _).mono ?_
  rw [show batchB ⟨b.d, b.a, b.r, b.s⟩ = true from hb]
  rintro e w2 ⟨rfl, b2⟩
  clear y0 y1 y2 y3
  replace XB := Lib.hid (XB.out.carry b2)
  replace YB := Lib.hid (YB.out.carry b2)
  replace OB := Lib.hid (OB.out.carry b2)
  replace HP := Lib.hid (HP.out.carry b2)
  replace BB := Lib.hid (next BB.out b2)
  clear b2
  have x0 := XB.out.cell (j := 0) (u := .int .i64 f) rfl
  have x1 := XB.out.cell (j := 1) (u := .slice (some ⟨ga, 0, none⟩) bs.length c) rfl
  have hzw := BB.out.size
  have hl2 : w.heap.size + 2 < w2.heap.size := OB.out.lt
  have hl12 := store_len hv
  have hlE : 0 + bs.length ≤ 10000000 := by omega
  have Pa := Lib.hid (show PC w f ga c bs b (w2.heap.size) (w2.alloc (.cells #[] 27)).drew from by
    have bw : Below w2.heap.size w2 (w2.alloc (.cells #[] 27)).drew := (allocB w2 _).drew
    exact ⟨Own.lit w2 #[] 0 hzw (by omega) (by simp), ((H0.out.below BB.out).below (bw.mono hzw)).row, XB.out.carry bw, YB.out.carry bw, OB.out.carry bw, next BB.out bw, by simp; omega, by omega⟩)
  have Pb := Lib.hid (show PC w f ga c bs b (w2.heap.size) ((w2.alloc (.cells #[] 27)).alloc (.cells #[.int .i64 0, .slice none 0 0] 25)).drew from by
    have bw : Below w2.heap.size w2 ((w2.alloc (.cells #[] 27)).alloc (.cells #[.int .i64 0, .slice none 0 0] 25)).drew := (allocB2 w2 _ _).drew
    exact ⟨(Own.lit w2 #[] 0 hzw (by omega) (by simp)).alloc _, ((H0.out.below BB.out).below (bw.mono hzw)).row, XB.out.carry bw, YB.out.carry bw, OB.out.carry bw, next BB.out bw, by simp; omega, by omega⟩)
  have Zb := Lib.hid (show Box ((w2.alloc (.cells #[] 27)).alloc (.cells #[.int .i64 0, .slice none 0 0] 25)).drew (w2.heap.size + 1) 25 #[.int .i64 0, .slice none 0 0] from by have := Box.new (w2.alloc (.cells #[] 27)) #[.int .i64 0, .slice none 0 0] 25; simp at this; exact this)
  have Pc := Lib.hid (show PC w f ga c bs b (w2.heap.size + 1) ((w2.alloc (.cells #[.int .i64 0, .slice none 0 0] 25)).alloc (.cells #[] 27)).drew from by
    have bw : Below w2.heap.size w2 ((w2.alloc (.cells #[.int .i64 0, .slice none 0 0] 25)).alloc (.cells #[] 27)).drew := (allocB2 w2 _ _).drew
    exact ⟨by have := Own.lit (base := w.heap.size) (e := 27) (size := 4) (w2.alloc (.cells #[.int .i64 0, .slice none 0 0] 25)) #[] 0 (by simp; omega) (by omega) (by simp); simp at this; exact this, ((H0.out.below BB.out).below (bw.mono hzw)).row, XB.out.carry bw, YB.out.carry bw, OB.out.carry bw, next BB.out bw, by simp; omega, by omega⟩)
  have Zc := Lib.hid (show Box ((w2.alloc (.cells #[.int .i64 0, .slice none 0 0] 25)).alloc (.cells #[] 27)).drew (w2.heap.size) 25 #[.int .i64 0, .slice none 0 0] from (Box.new w2 #[.int .i64 0, .slice none 0 0] 25).carry (allocB _ (.cells #[] 27)).drew)
  go_upto_region 3 with fail
  go_cut [6] (fun s6 wx => ∃ go g cap : Nat, s6 = .pointer (some ⟨go, 0, none⟩) ∧ PD w f ga c bs b go g cap wx)
  case first =>
    have hS0 : w2.drew.cell? ⟨w.heap.size, 0, none⟩ = some (.int .i64 f) ∧ w2.drew.cell? ⟨w.heap.size, 1, none⟩ = some (.slice (some ⟨ga, 0, none⟩) bs.length c) := ⟨x0, x1⟩
    go_region_held3 (fun W => W.cell? ⟨w.heap.size, 0, none⟩ = some (.int .i64 f) ∧ W.cell? ⟨w.heap.size, 1, none⟩ = some (.slice (some ⟨ga, 0, none⟩) bs.length c)) (first | assumption | go_keep | exact set2 (by omega) (set2 (by omega) hS3))
      (first | ((refine stepAll elem_Batch (by omega) (by omega) (by rfl) (.tmp 19) (.tmp 21) (by rfl) _ w.heap.size _ 0 [] (by rfl) Pa.out.1 w.heap.size (some ⟨ga, 0, none⟩) bs.length c (cellsBatch bs) (by rfl) (cellsBatch_len bs) Pa.out.2.1 (cellsBatch_one bs) hlE Pa.out.2.2.2.2.2.2.1 ?_; intro g cap w3 own3 hg3; have q3 := Lib.hid (Pa.out.after own3 hg3); have hS3 := q3.out.2; clear own3 hg3)) | ((refine stepAll elem_Batch (by omega) (by omega) (by rfl) (.tmp 19) (.tmp 21) (by rfl) _ w.heap.size _ 0 [] (by rfl) Pb.out.1 w.heap.size (some ⟨ga, 0, none⟩) bs.length c (cellsBatch bs) (by rfl) (cellsBatch_len bs) Pb.out.2.1 (cellsBatch_one bs) hlE Pb.out.2.2.2.2.2.2.1 ?_; intro g cap w3 own3 hg3; have q3 := Lib.hid (Pb.out.after own3 hg3); have hS3 := q3.out.2; have z3 := Zb.out.grown hg3 (own_ne (by omega)); have z30 := z3.cell (j := 0) (u := .int .i64 0) rfl; have z31 := z3.cell (j := 1) (u := .slice none 0 0) rfl; have zf0 := z3.free 0; have zf1 := z3.free 1; have z4 := Lib.hid z3; clear z3; clear own3 hg3)) | ((refine stepAll elem_Batch (by omega) (by omega) (by rfl) (.tmp 19) (.tmp 21) (by rfl) _ w.heap.size _ 0 [] (by rfl) Pc.out.1 w.heap.size (some ⟨ga, 0, none⟩) bs.length c (cellsBatch bs) (by rfl) (cellsBatch_len bs) Pc.out.2.1 (cellsBatch_one bs) hlE Pc.out.2.2.2.2.2.2.1 ?_; intro g cap w3 own3 hg3; have q3 := Lib.hid (Pc.out.after own3 hg3); have hS3 := q3.out.2; have z3 := Zc.out.grown hg3 (own_ne (by omega)); have z30 := z3.cell (j := 0) (u := .int .i64 0) rfl; have z31 := z3.cell (j := 1) (u := .slice none 0 0) rfl; have zf0 := z3.free 0; have zf1 := z3.free 1; have z4 := Lib.hid z3; clear z3; clear own3 hg3)))
    all_goals go_wp2_with fail
    all_goals go_meet
    · exact ⟨_, g, cap, rfl, q3.out.1.fin1⟩
    · exact ⟨_, g, cap, rfl, q3.out.1.fin2 z4.out (by omega)⟩
    · exact ⟨_, g, cap, rfl, q3.out.1.fin2 z4.out (by omega)⟩
  case rest =>
    obtain ⟨go, g, cap, rfl, hpd⟩ := hcut
    have D3 := Lib.hid hpd
    clear hpd x0 x1 Pa Pb Pc Zb Zc XB YB OB HP BB hzw hl2 hlE
    go_wp2_with fail
    go_loopw [7] (fun i wr => ∃ k : Nat, k ≤ bs.length ∧ i = .int .i64 k ∧ (∀ j, j < k → (nthBatch bs j).d < b.d) ∧ PD w f ga c bs b go g cap wr) (fun i _ => bs.length - (intOf i).toNat)
    case atStart => exact ⟨0, Nat.zero_le _, rfl, (fun j hj => absurd hj (by omega)), D3.out⟩
    case round =>
      obtain ⟨k, hk, rfl, hs, hpd⟩ := hrel
      have D4 := Lib.hid hpd
      have HS := Lib.hid hs
      clear hpd hs D3
      have x0 := D4.out.1.2.1.cell (j := 0) (u := .int .i64 f) rfl
      have x1 := D4.out.1.2.1.cell (j := 1) (u := .slice (some ⟨ga, 0, none⟩) bs.length c) rfl
      have y0 := D4.out.1.2.2.1.cell (j := 0) (u := .int .i64 b.d) rfl
      have y1 := D4.out.1.2.2.1.cell (j := 1) (u := .int .i64 b.a) rfl
      have y2 := D4.out.1.2.2.1.cell (j := 2) (u := .int .i64 b.r) rfl
      have y3 := D4.out.1.2.2.1.cell (j := 3) (u := .int .i64 b.s) rfl
      have hi0 : (0 : Int) ≤ (k : Int) := by omega
      by_cases hlt : k < bs.length
      · have hdk : decide (k < bs.length) = true := by simpa using hlt
        have hi1 : (k : Int) < (bs.length : Int) := by omega
        have lc := lst_at (H0.out.below D4.out.1.2.2.2.2) hlt
        by_cases hless : (nthBatch bs k).d < b.d
        · have hdl : decide ((nthBatch bs k).d < b.d) = true := by simpa using hless
          go_wp2_with fail
          go_quiet (fail)
          go_wp2_with fail
          go_roundw
          case rel => exact ⟨k + 1, by omega, by go_num, (fun j hj => by
            by_cases e : j = k
            · subst e; exact hless
            · exact HS.out j (by omega)), D4.out.drewN _⟩
          case measure => simp [intOf]; omega
        · have hdl : decide ((nthBatch bs k).d < b.d) = false := by simpa using hless
          have hpl : PlaceAt bs b.d k := ⟨hk, HS.out, fun _ => hless⟩
          have HPL := Lib.hid hpl
          clear hpl
          go_wp2_with fail
          go_quiet (fail)
          have D5 := Lib.hid (D4.out.drewN nq)
          have hpe := placeOf_eq HPL.out
          have HPE := Lib.hid hpe
          clear hpe x0 x1 y0 y1 y2 y3
          generalize wr.drewN nq = w5 at D5 ⊢
          clear nq
          have x0 := D5.out.1.2.1.cell (j := 0) (u := .int .i64 f) rfl
          have x1 := D5.out.1.2.1.cell (j := 1) (u := .slice (some ⟨ga, 0, none⟩) bs.length c) rfl
          have y0 := D5.out.1.2.2.1.cell (j := 0) (u := .int .i64 b.d) rfl
          have y1 := D5.out.1.2.2.1.cell (j := 1) (u := .int .i64 b.a) rfl
          have y2 := D5.out.1.2.2.1.cell (j := 2) (u := .int .i64 b.r) rfl
          have y3 := D5.out.1.2.2.1.cell (j := 3) (u := .int .i64 b.s) rfl
          have hi0 : (0 : Int) ≤ (k : Int) := by omega
          go_upto_region 7 with fail
          go_cut [42] (fun s42 wx => s42 = .bool (knownB bs b.d) ∧ PD w f ga c bs b go g cap wx)
          case first =>
            by_cases hkl : k < bs.length
            · have hdk : decide (k < bs.length) = true := by simpa using hkl
              have hi1 : (k : Int) < (bs.length : Int) := by omega
              have lc := lst_at (H0.out.below D5.out.1.2.2.2.2) hkl
              by_cases heq : (nthBatch bs k).d = b.d
              · have hbq : ((nthBatch bs k).d == b.d) = true := by simp [heq]
                have hkn : knownB bs b.d = true := by simp [knownB, HPE.out, hkl, heq]
                have HKN := Lib.hid hkn
                clear heq hkn
                go_quiet (fail)
                go_wp2_with fail
                go_meet
                exact ⟨by rw [HKN.out], D5.out.drewN _⟩
              · have hbq : ((nthBatch bs k).d == b.d) = false := by simp [heq]
                have hkn : knownB bs b.d = false := by simp [knownB, HPE.out, heq]
                have HKN := Lib.hid hkn
                clear heq hkn
                go_quiet (fail)
                go_wp2_with fail
                go_meet
                exact ⟨by rw [HKN.out], D5.out.drewN _⟩
            · exact absurd hlt hkl
          case rest =>
            obtain ⟨rfl, hpd⟩ := hcut
            have D6 := Lib.hid hpd
            clear hpd D5 x0 x1 y0 y1 y2 y3
            have x0 := D6.out.1.2.1.cell (j := 0) (u := .int .i64 f) rfl
            have x1 := D6.out.1.2.1.cell (j := 1) (u := .slice (some ⟨ga, 0, none⟩) bs.length c) rfl
            have y0 := D6.out.1.2.2.1.cell (j := 0) (u := .int .i64 b.d) rfl
            have y1 := D6.out.1.2.2.1.cell (j := 1) (u := .int .i64 b.a) rfl
            have y2 := D6.out.1.2.2.1.cell (j := 2) (u := .int .i64 b.r) rfl
            have y3 := D6.out.1.2.2.1.cell (j := 3) (u := .int .i64 b.s) rfl
            have k0 := D6.out.2.1.cell (j := 0) (u := .int .i64 f) rfl
            have k1 := D6.out.2.1.cell (j := 1) (u := .slice (some ⟨g, 0, none⟩) bs.length cap) rfl
            have o0 := D6.out.1.2.2.2.1.cell (j := 0) (u := .int .i64 0) rfl
            have o1 := D6.out.1.2.2.2.1.cell (j := 1) (u := .slice none 0 0) rfl
            have of0 := D6.out.1.2.2.2.1.free 0
            have of1 := D6.out.1.2.2.2.1.free 1
            rcases hkn : knownB bs b.d with _ | _
            · by_cases hr : b.r < f
              · have hcode := put2 hv hb hkn hr
                have HC := Lib.hid hcode
                clear hcode
                have hne := Own.ne_box D6.out.1.1 D6.out.1.2.2.2.1 (by decide)
                have hgo := D6.out.2.2
                go_wp2_with fail
                refine bodyPost_ret (v := .tuple #[.agg #[.int .i64 f, .slice (some ⟨g, 0, none⟩) bs.length cap], .int .i64 2]) (by simp [results, Try.results16, go_sem, *]) rfl (put_k HC.out (by decide) (list_same HC.out (by decide) (by decide)) rfl ?_ ?_)
                · exact Own.setOther (Own.setOther D6.out.1.1 hne) hne
                · exact (D6.out.1.2.2.2.2.setCell (by show w.heap.size ≤ w.heap.size + 2; omega) _).setCell (by show w.heap.size ≤ w.heap.size + 2; omega) _
              have hub := store_used hv hn b.a
              have hsb := (batchB_bd hb).2.2.2
              have hw30 : IntKind.i64.wrap (usedW bs b.a bs.length + b.s) = usedW bs b.a bs.length + b.s := IntWalk.i64_in _ (by rw [hub.1]; omega)
              have HW30 := Lib.hid hw30
              clear hw30 hub
              have HLq := Lib.hid (H0.out.below D6.out.1.2.2.2.2)
              go_upto_region 11 with fail
              go_cut [67] (fun s67 wx => s67 = .bool (fullB bs b) ∧ PD w f ga c bs b go g cap wx)
              case first =>
                by_cases h12 : bs.length = 12
                · have hd12 : decide ((12 : Int) ≤ (bs.length : Int)) = true := by simp; omega
                  have hd12n : decide (12 ≤ bs.length) = true := by simp; omega
                  have hfull : fullB bs b = true := by simp [fullB]; omega
                  have HFL := Lib.hid hfull
                  clear h12 hfull
                  go_quiet ((go_at_call 45; exact quiet_same (s_l23Used _ _ bs _ _ _ HLq.out hn)))
                  go_wp2_with fail
                  go_meet
                  exact ⟨by rw [HFL.out], D6.out.drewN _⟩
                have hd12 : decide ((12 : Int) ≤ (bs.length : Int)) = false := by simp; omega
                have hd12n : decide (12 ≤ bs.length) = false := by simp; omega
                have hw30 := HW30.out
                by_cases hu : 30 < usedW bs b.a bs.length + b.s
                · have hdu : decide (30 < usedW bs b.a bs.length + b.s) = true := by simpa using hu
                  have hfull : fullB bs b = true := by simp [fullB, hu]
                  have HFL := Lib.hid hfull
                  clear hfull
                  go_quiet ((go_at_call 45; exact quiet_same (s_l23Used _ _ bs _ _ _ HLq.out hn)))
                  go_wp2_with fail
                  go_meet
                  exact ⟨by rw [HFL.out], D6.out.drewN _⟩
                have hdu : decide (30 < usedW bs b.a bs.length + b.s) = false := by simpa using hu
                have hfull : fullB bs b = false := by simp [fullB, hu]; omega
                have HFL := Lib.hid hfull
                clear hfull
                go_quiet ((go_at_call 45; exact quiet_same (s_l23Used _ _ bs _ _ _ HLq.out hn)))
                go_wp2_with fail
                go_meet
                exact ⟨by rw [HFL.out], D6.out.drewN _⟩
              case rest =>
                obtain ⟨rfl, hpd⟩ := hcut
                have D7 := Lib.hid hpd
                clear hpd D6 HLq x0 x1 y0 y1 y2 y3 k0 k1 o0 o1 of0 of1
                have x0 := D7.out.1.2.1.cell (j := 0) (u := .int .i64 f) rfl
                have x1 := D7.out.1.2.1.cell (j := 1) (u := .slice (some ⟨ga, 0, none⟩) bs.length c) rfl
                have y0 := D7.out.1.2.2.1.cell (j := 0) (u := .int .i64 b.d) rfl
                have y1 := D7.out.1.2.2.1.cell (j := 1) (u := .int .i64 b.a) rfl
                have y2 := D7.out.1.2.2.1.cell (j := 2) (u := .int .i64 b.r) rfl
                have y3 := D7.out.1.2.2.1.cell (j := 3) (u := .int .i64 b.s) rfl
                have k0 := D7.out.2.1.cell (j := 0) (u := .int .i64 f) rfl
                have k1 := D7.out.2.1.cell (j := 1) (u := .slice (some ⟨g, 0, none⟩) bs.length cap) rfl
                have o0 := D7.out.1.2.2.2.1.cell (j := 0) (u := .int .i64 0) rfl
                have o1 := D7.out.1.2.2.2.1.cell (j := 1) (u := .slice none 0 0) rfl
                have of0 := D7.out.1.2.2.2.1.free 0
                have of1 := D7.out.1.2.2.2.1.free 1
                rcases hfl : fullB bs b with _ | _
                · have hcode := put0 hv hb hkn hr hfl
                  have HC := Lib.hid hcode
                  clear hcode
                  have hgo := D7.out.2.2
                  have hz3 : w.heap.size + 3 ≤ wc.heap.size := by have := D7.out.1.2.2.2.1.lt; omega
                  have hHTL : (cellsBatch (bs.take k)).length = k * 4 := by rw [cellsBatch_len, List.length_take, Nat.min_eq_left hk]
                  have HTL := Lib.hid hHTL
                  have hHDL : (cellsBatch (bs.drop k)).length = (bs.length - k) * 4 := by rw [cellsBatch_len, List.length_drop]
                  have HDL := Lib.hid hHDL
                  clear hHTL hHDL
                  have hl0 : w.heap.size < wc.heap.size := by omega
                  have hl1 : w.heap.size + 1 < wc.heap.size := by omega
                  have hlk : 0 + k ≤ 10000000 := by omega
                  have hlk1 : k + 1 ≤ 10000000 := by omega
                  have hlk2 : k + 1 + (bs.length - k) ≤ 10000000 := by omega
                  have hk0 : (0 : Int) ≤ (k : Int) := by omega
                  have hk1 : (k : Int) ≤ (c : Int) := by omega
                  have hk2 : (k : Int) ≤ (bs.length : Int) := by omega
                  have hk5 : (bs.length : Int) ≤ (c : Int) := by omega
                  have bwa : Below wc.heap.size wc (wc.alloc (.cells #[] 27)).drew := (allocB wc _).drew
                  have Qa := Lib.hid ((PB.of D7.out).carry bwa)
                  have Ea := Lib.hid (show Own (wc.alloc (.cells #[] 27)).drew (w.heap.size + 3) 27 4 (.slice (some ⟨wc.heap.size, 0, none⟩) 0 0) 0 [] from Own.lit wc #[] 0 hz3 (by omega) (by simp))
                  have Ta := Lib.hid (show Row (wc.alloc (.cells #[] 27)).drew w.heap.size (some ⟨ga, 0, none⟩) (cellsBatch (bs.take k)) from (lst_take (H0.out.below Qa.out.2.2.2.2.1) k).row)
                  have hza : w.heap.size + 3 ≤ (wc.alloc (.cells #[] 27)).drew.heap.size := by simp; omega
                  clear bwa
                  have bwb : Below wc.heap.size wc ((wc.alloc (.cells #[] 27)).alloc (.cells #[.int .i64 b.d, .int .i64 b.a, .int .i64 b.r, .int .i64 b.s] 27)).drew := (allocB2 wc _ _).drew
                  have Qb := Lib.hid ((PB.of D7.out).carry bwb)
                  have Eb := Lib.hid (show Own ((wc.alloc (.cells #[] 27)).alloc (.cells #[.int .i64 b.d, .int .i64 b.a, .int .i64 b.r, .int .i64 b.s] 27)).drew (w.heap.size + 3) 27 4 (.slice (some ⟨wc.heap.size, 0, none⟩) 0 0) 0 [] from (Own.lit wc #[] 0 hz3 (by omega) (by simp)).alloc _)
                  have Tb := Lib.hid (show Row ((wc.alloc (.cells #[] 27)).alloc (.cells #[.int .i64 b.d, .int .i64 b.a, .int .i64 b.r, .int .i64 b.s] 27)).drew w.heap.size (some ⟨ga, 0, none⟩) (cellsBatch (bs.take k)) from (lst_take (H0.out.below Qb.out.2.2.2.2.1) k).row)
                  have hzb : w.heap.size + 3 ≤ ((wc.alloc (.cells #[] 27)).alloc (.cells #[.int .i64 b.d, .int .i64 b.a, .int .i64 b.r, .int .i64 b.s] 27)).drew.heap.size := by simp; omega
                  clear bwb
                  have Nb := Lib.hid (show Box ((wc.alloc (.cells #[] 27)).alloc (.cells #[.int .i64 b.d, .int .i64 b.a, .int .i64 b.r, .int .i64 b.s] 27)).drew (wc.heap.size + 1) 27 #[.int .i64 b.d, .int .i64 b.a, .int .i64 b.r, .int .i64 b.s] from (by have := Box.new (wc.alloc (.cells #[] 27)) #[.int .i64 b.d, .int .i64 b.a, .int .i64 b.r, .int .i64 b.s] 27; simp at this; exact this))
                  have bwc : Below wc.heap.size wc ((wc.alloc (.cells #[.int .i64 b.d, .int .i64 b.a, .int .i64 b.r, .int .i64 b.s] 27)).alloc (.cells #[] 27)).drew := (allocB2 wc _ _).drew
                  have Qc := Lib.hid ((PB.of D7.out).carry bwc)
                  have Ec := Lib.hid (show Own ((wc.alloc (.cells #[.int .i64 b.d, .int .i64 b.a, .int .i64 b.r, .int .i64 b.s] 27)).alloc (.cells #[] 27)).drew (w.heap.size + 3) 27 4 (.slice (some ⟨wc.heap.size + 1, 0, none⟩) 0 0) 0 [] from (by have := Own.lit (base := w.heap.size + 3) (e := 27) (size := 4) (wc.alloc (.cells #[.int .i64 b.d, .int .i64 b.a, .int .i64 b.r, .int .i64 b.s] 27)) #[] 0 (by simp; omega) (by omega) (by simp); simp at this; exact this))
                  have Tc := Lib.hid (show Row ((wc.alloc (.cells #[.int .i64 b.d, .int .i64 b.a, .int .i64 b.r, .int .i64 b.s] 27)).alloc (.cells #[] 27)).drew w.heap.size (some ⟨ga, 0, none⟩) (cellsBatch (bs.take k)) from (lst_take (H0.out.below Qc.out.2.2.2.2.1) k).row)
                  have hzc : w.heap.size + 3 ≤ ((wc.alloc (.cells #[.int .i64 b.d, .int .i64 b.a, .int .i64 b.r, .int .i64 b.s] 27)).alloc (.cells #[] 27)).drew.heap.size := by simp; omega
                  clear bwc
                  have Nc := Lib.hid (show Box ((wc.alloc (.cells #[.int .i64 b.d, .int .i64 b.a, .int .i64 b.r, .int .i64 b.s] 27)).alloc (.cells #[] 27)).drew (wc.heap.size) 27 #[.int .i64 b.d, .int .i64 b.a, .int .i64 b.r, .int .i64 b.s] from (Box.new wc #[.int .i64 b.d, .int .i64 b.a, .int .i64 b.r, .int .i64 b.s] 27).carry (allocB _ (.cells #[] 27)).drew)
                  have hS0 : PS w ga c bs b wc.drew := (PB.of D7.out).ps
                  clear x0 x1 y0 y1 y2 y3 k0 k1 o0 o1 of0 of1
                  go_wp2_with fail
                  go_region_held3 (fun W => W.cell? ⟨w.heap.size, 1, none⟩ = some (.slice (some ⟨ga, 0, none⟩) bs.length c) ∧ W.cell? ⟨w.heap.size + 1, 0, none⟩ = some (.int .i64 b.d) ∧ W.cell? ⟨w.heap.size + 1, 1, none⟩ = some (.int .i64 b.a) ∧ W.cell? ⟨w.heap.size + 1, 2, none⟩ = some (.int .i64 b.r) ∧ W.cell? ⟨w.heap.size + 1, 3, none⟩ = some (.int .i64 b.s)) (first | assumption | exact Qa.out.ps | exact Qb.out.ps | exact Qc.out.ps | exact ((PB.of D7.out).carry (allocB wc _).drew).ps | exact hS4 | exact hS5 | exact hS6 | exact (q4.out.carry (allocB _ _)).ps | go_keep | exact PS.set hS6 (by omega))
                    (first | ((refine stepAll elem_Batch (by omega) (by omega) (by rfl) (.tmp 84) (.tmp 88) (by rfl) _ (w.heap.size + 3) _ 0 [] (by rfl) Ea.out w.heap.size (some ⟨ga, 0, none⟩) k c (cellsBatch (bs.take k)) (by rfl) HTL.out Ta.out (cellsBatch_one _) hlk hza ?_; intro g4 cap4 w4 own4 hg4; try rw [Nat.zero_add k]; have q4 := Lib.hid (Qa.out.after Ea.out hg4); have hS4 : PS w ga c bs b w4 := q4.out.ps; have O4 := Lib.hid (show Own w4 (w.heap.size + 3) 27 4 (.slice (some ⟨g4, 0, none⟩) k cap4) k (cellsBatch (bs.take k)) from by simpa using own4); have hz4 : w.heap.size + 3 ≤ w4.heap.size := Nat.le_trans hza hg4.size; clear own4 hg4)) | ((refine stepAll elem_Batch (by omega) (by omega) (by rfl) (.tmp 84) (.tmp 88) (by rfl) _ (w.heap.size + 3) _ 0 [] (by rfl) Eb.out w.heap.size (some ⟨ga, 0, none⟩) k c (cellsBatch (bs.take k)) (by rfl) HTL.out Tb.out (cellsBatch_one _) hlk hzb ?_; intro g4 cap4 w4 own4 hg4; try rw [Nat.zero_add k]; have q4 := Lib.hid (Qb.out.after Eb.out hg4); have hS4 : PS w ga c bs b w4 := q4.out.ps; have O4 := Lib.hid (show Own w4 (w.heap.size + 3) 27 4 (.slice (some ⟨g4, 0, none⟩) k cap4) k (cellsBatch (bs.take k)) from by simpa using own4); have hz4 : w.heap.size + 3 ≤ w4.heap.size := Nat.le_trans hzb hg4.size; have n4 := Lib.hid (Nb.out.grown hg4 (own_ne (by omega))); clear own4 hg4)) | ((refine stepAll elem_Batch (by omega) (by omega) (by rfl) (.tmp 84) (.tmp 88) (by rfl) _ (w.heap.size + 3) _ 0 [] (by rfl) Ec.out w.heap.size (some ⟨ga, 0, none⟩) k c (cellsBatch (bs.take k)) (by rfl) HTL.out Tc.out (cellsBatch_one _) hlk hzc ?_; intro g4 cap4 w4 own4 hg4; try rw [Nat.zero_add k]; have q4 := Lib.hid (Qc.out.after Ec.out hg4); have hS4 : PS w ga c bs b w4 := q4.out.ps; have O4 := Lib.hid (show Own w4 (w.heap.size + 3) 27 4 (.slice (some ⟨g4, 0, none⟩) k cap4) k (cellsBatch (bs.take k)) from by simpa using own4); have hz4 : w.heap.size + 3 ≤ w4.heap.size := Nat.le_trans hzc hg4.size; have n4 := Lib.hid (Nc.out.grown hg4 (own_ne (by omega))); clear own4 hg4)) | ((refine stepAll elem_Batch (by omega) (by omega) (by rfl) (.tmp 89) (.tmp 91) (by rfl) _ (w.heap.size + 3) _ k (cellsBatch (bs.take k)) (by rfl) (O4.out.alloc (.cells #[.int .i64 b.d, .int .i64 b.a, .int .i64 b.r, .int .i64 b.s] 27)) (w4.heap.size + 1) (some ⟨w4.heap.size, 0, none⟩) 1 1 b.cells (by rfl) rfl (row_of_box (Box.new w4 #[.int .i64 b.d, .int .i64 b.a, .int .i64 b.r, .int .i64 b.s] 27) (by omega)) (by simp [VBatch.cells, Value.oneCell']) hlk1 (by simp; omega) ?_; intro g5 cap5 w5 own5 hg5; have q5 := Lib.hid ((q4.out.carry (allocB w4 (.cells #[.int .i64 b.d, .int .i64 b.a, .int .i64 b.r, .int .i64 b.s] 27))).after (O4.out.alloc (.cells #[.int .i64 b.d, .int .i64 b.a, .int .i64 b.r, .int .i64 b.s] 27)) hg5); have hS5 : PS w ga c bs b w5 := q5.out.ps; have O5 := Lib.hid own5; have hz5 : w.heap.size + 3 ≤ w5.heap.size := (by have := hg5.size; simp at this; omega); clear own5 hg5)) | ((refine stepAll elem_Batch (by omega) (by omega) (by rfl) (.tmp 89) (.tmp 91) (by rfl) _ (w.heap.size + 3) _ k (cellsBatch (bs.take k)) (by rfl) O4.out (wc.heap.size + 1 + 1) (some ⟨wc.heap.size + 1, 0, none⟩) 1 1 b.cells (by rfl) rfl (row_of_box n4.out (by omega)) (by simp [VBatch.cells, Value.oneCell']) hlk1 hz4 ?_; intro g5 cap5 w5 own5 hg5; have q5 := Lib.hid (q4.out.after O4.out hg5); have hS5 : PS w ga c bs b w5 := q5.out.ps; have O5 := Lib.hid own5; have hz5 : w.heap.size + 3 ≤ w5.heap.size := Nat.le_trans hz4 hg5.size; clear own5 hg5)) | ((refine stepAll elem_Batch (by omega) (by omega) (by rfl) (.tmp 89) (.tmp 91) (by rfl) _ (w.heap.size + 3) _ k (cellsBatch (bs.take k)) (by rfl) O4.out (wc.heap.size + 1) (some ⟨wc.heap.size, 0, none⟩) 1 1 b.cells (by rfl) rfl (row_of_box n4.out (by omega)) (by simp [VBatch.cells, Value.oneCell']) hlk1 hz4 ?_; intro g5 cap5 w5 own5 hg5; have q5 := Lib.hid (q4.out.after O4.out hg5); have hS5 : PS w ga c bs b w5 := q5.out.ps; have O5 := Lib.hid own5; have hz5 : w.heap.size + 3 ≤ w5.heap.size := Nat.le_trans hz4 hg5.size; clear own5 hg5)) | ((refine stepAll elem_Batch (by omega) (by omega) (by rfl) (.tmp 92) (.tmp 96) (by rfl) _ (w.heap.size + 3) _ (k + 1) (cellsBatch (bs.take k) ++ b.cells) (by rfl) O5.out w.heap.size _ (bs.length - k) (c - k) (cellsBatch (bs.drop k)) (by rfl) HDL.out (row_drop (H0.out.below q5.out.2.2.2.2.1) k hc) (cellsBatch_one _) hlk2 hz5 ?_; intro g6 cap6 w6 own6 hg6; have q6 := Lib.hid (q5.out.after O5.out hg6); have hS6 : PS w ga c bs b w6 := q6.out.ps; have O6 := Lib.hid own6; have t6 := q6.out.2.2.2.1.cell (j := 1) (u := .slice (some ⟨g, 0, none⟩) bs.length cap) rfl; have tf6 := q6.out.2.2.2.1.free 1; clear own6 hg6)))
                  all_goals
                    have hq6 := q6.out
                    have k0 := hq6.2.2.2.1.cell (j := 0) (u := .int .i64 f) rfl
                    have o0 := hq6.2.2.1.cell (j := 0) (u := .int .i64 0) rfl
                    have o1 := hq6.2.2.1.cell (j := 1) (u := .slice none 0 0) rfl
                    have of0 := hq6.2.2.1.free 0
                    have of1 := hq6.2.2.1.free 1
                    clear hq6
                    have hneg := Own.ne_box O6.out q6.out.2.2.2.1 (by decide)
                    have hneo := Own.base_le O6.out g6 rfl
                    have hfl : k + 1 + (bs.length - k) = (inserted bs b).length := by rw [inserted_len]; omega
                    have HFL := Lib.hid hfl
                    clear hfl
                    go_wp2_with fail
                    all_goals
                      refine bodyPost_ret (v := .tuple #[.agg #[.int .i64 f, .slice (some ⟨g6, 0, none⟩) (k + 1 + (bs.length - k)) cap6], .int .i64 0]) (by simp [results, Try.results16, go_sem, *]) rfl (put_k HC.out (by decide) (list_in HC.out) (by rw [← HFL.out]) ?_ ?_)
                      · have h6 := O6.out
                        rw [HFL.out, cells_ins HPE.out] at h6
                        have hne2 : g6 ≠ w.heap.size + 2 := by omega
                        exact Own.setOther (Own.setOther (Own.setOther (h6.lower (by omega)) hneg) hne2) hne2
                      · exact ((q6.out.2.2.2.2.1.setCell (by show w.heap.size ≤ go; omega) _).setCell (by show w.heap.size ≤ w.heap.size + 2; omega) _).setCell (by show w.heap.size ≤ w.heap.size + 2; omega) _
                · have hcode := put3 hv hb hkn hr hfl
                  have HC := Lib.hid hcode
                  clear hcode
                  have hne := Own.ne_box D7.out.1.1 D7.out.1.2.2.2.1 (by decide)
                  have hgo := D7.out.2.2
                  go_wp2_with fail
                  refine bodyPost_ret (v := .tuple #[.agg #[.int .i64 f, .slice (some ⟨g, 0, none⟩) bs.length cap], .int .i64 3]) (by simp [results, Try.results16, go_sem, *]) rfl (put_k HC.out (by decide) (list_same HC.out (by decide) (by decide)) rfl ?_ ?_)
                  · exact Own.setOther (Own.setOther D7.out.1.1 hne) hne
                  · exact (D7.out.1.2.2.2.2.setCell (by show w.heap.size ≤ w.heap.size + 2; omega) _).setCell (by show w.heap.size ≤ w.heap.size + 2; omega) _
            · have hcode := put1 hv hb hkn
              have HC := Lib.hid hcode
              clear hcode
              have hne := Own.ne_box D6.out.1.1 D6.out.1.2.2.2.1 (by decide)
              have hgo := D6.out.2.2
              go_wp2_with fail
              refine bodyPost_ret (v := .tuple #[.agg #[.int .i64 f, .slice (some ⟨g, 0, none⟩) bs.length cap], .int .i64 1]) (by simp [results, Try.results16, go_sem, *]) rfl (put_k HC.out (by decide) (list_same HC.out (by decide) (by decide)) rfl ?_ ?_)
              · exact Own.setOther (Own.setOther D6.out.1.1 hne) hne
              · exact (D6.out.1.2.2.2.2.setCell (by show w.heap.size ≤ w.heap.size + 2; omega) _).setCell (by show w.heap.size ≤ w.heap.size + 2; omega) _
      · have hdk : decide (k < bs.length) = false := by simpa using hlt
        have hpl : PlaceAt bs b.d k := ⟨hk, HS.out, fun hh => absurd hh hlt⟩
        have HPL := Lib.hid hpl
        clear hpl
        go_wp2_with fail
        go_quiet (fail)
        have D5 := Lib.hid (D4.out.drewN nq)
        have hpe := placeOf_eq HPL.out
        have HPE := Lib.hid hpe
        clear hpe x0 x1 y0 y1 y2 y3
        generalize wr.drewN nq = w5 at D5 ⊢
        clear nq
        have x0 := D5.out.1.2.1.cell (j := 0) (u := .int .i64 f) rfl
        have x1 := D5.out.1.2.1.cell (j := 1) (u := .slice (some ⟨ga, 0, none⟩) bs.length c) rfl
        have y0 := D5.out.1.2.2.1.cell (j := 0) (u := .int .i64 b.d) rfl
        have y1 := D5.out.1.2.2.1.cell (j := 1) (u := .int .i64 b.a) rfl
        have y2 := D5.out.1.2.2.1.cell (j := 2) (u := .int .i64 b.r) rfl
        have y3 := D5.out.1.2.2.1.cell (j := 3) (u := .int .i64 b.s) rfl
        have hi0 : (0 : Int) ≤ (k : Int) := by omega
        go_upto_region 7 with fail
        go_cut [42] (fun s42 wx => s42 = .bool (knownB bs b.d) ∧ PD w f ga c bs b go g cap wx)
        case first =>
          by_cases hkl : k < bs.length
          · exact absurd hkl hlt
          · have hdk : decide (k < bs.length) = false := by simpa using hkl
            have hkn : knownB bs b.d = false := by simp [knownB, HPE.out, hkl]
            have HKN := Lib.hid hkn
            clear hkn
            go_quiet (fail)
            go_wp2_with fail
            go_meet
            exact ⟨by rw [HKN.out], D5.out.drewN _⟩
        case rest =>
          obtain ⟨rfl, hpd⟩ := hcut
          have D6 := Lib.hid hpd
          clear hpd D5 x0 x1 y0 y1 y2 y3
          have x0 := D6.out.1.2.1.cell (j := 0) (u := .int .i64 f) rfl
          have x1 := D6.out.1.2.1.cell (j := 1) (u := .slice (some ⟨ga, 0, none⟩) bs.length c) rfl
          have y0 := D6.out.1.2.2.1.cell (j := 0) (u := .int .i64 b.d) rfl
          have y1 := D6.out.1.2.2.1.cell (j := 1) (u := .int .i64 b.a) rfl
          have y2 := D6.out.1.2.2.1.cell (j := 2) (u := .int .i64 b.r) rfl
          have y3 := D6.out.1.2.2.1.cell (j := 3) (u := .int .i64 b.s) rfl
          have k0 := D6.out.2.1.cell (j := 0) (u := .int .i64 f) rfl
          have k1 := D6.out.2.1.cell (j := 1) (u := .slice (some ⟨g, 0, none⟩) bs.length cap) rfl
          have o0 := D6.out.1.2.2.2.1.cell (j := 0) (u := .int .i64 0) rfl
          have o1 := D6.out.1.2.2.2.1.cell (j := 1) (u := .slice none 0 0) rfl
          have of0 := D6.out.1.2.2.2.1.free 0
          have of1 := D6.out.1.2.2.2.1.free 1
          rcases hkn : knownB bs b.d with _ | _
          · by_cases hr : b.r < f
            · have hcode := put2 hv hb hkn hr
              have HC := Lib.hid hcode
              clear hcode
              have hne := Own.ne_box D6.out.1.1 D6.out.1.2.2.2.1 (by decide)
              have hgo := D6.out.2.2
              go_wp2_with fail
              refine bodyPost_ret (v := .tuple #[.agg #[.int .i64 f, .slice (some ⟨g, 0, none⟩) bs.length cap], .int .i64 2]) (by simp [results, Try.results16, go_sem, *]) rfl (put_k HC.out (by decide) (list_same HC.out (by decide) (by decide)) rfl ?_ ?_)
              · exact Own.setOther (Own.setOther D6.out.1.1 hne) hne
              · exact (D6.out.1.2.2.2.2.setCell (by show w.heap.size ≤ w.heap.size + 2; omega) _).setCell (by show w.heap.size ≤ w.heap.size + 2; omega) _
            have hub := store_used hv hn b.a
            have hsb := (batchB_bd hb).2.2.2
            have hw30 : IntKind.i64.wrap (usedW bs b.a bs.length + b.s) = usedW bs b.a bs.length + b.s := IntWalk.i64_in _ (by rw [hub.1]; omega)
            have HW30 := Lib.hid hw30
            clear hw30 hub
            have HLq := Lib.hid (H0.out.below D6.out.1.2.2.2.2)
            go_upto_region 11 with fail
            go_cut [67] (fun s67 wx => s67 = .bool (fullB bs b) ∧ PD w f ga c bs b go g cap wx)
            case first =>
              by_cases h12 : bs.length = 12
              · have hd12 : decide ((12 : Int) ≤ (bs.length : Int)) = true := by simp; omega
                have hd12n : decide (12 ≤ bs.length) = true := by simp; omega
                have hfull : fullB bs b = true := by simp [fullB]; omega
                have HFL := Lib.hid hfull
                clear h12 hfull
                go_quiet ((go_at_call 45; exact quiet_same (s_l23Used _ _ bs _ _ _ HLq.out hn)))
                go_wp2_with fail
                go_meet
                exact ⟨by rw [HFL.out], D6.out.drewN _⟩
              have hd12 : decide ((12 : Int) ≤ (bs.length : Int)) = false := by simp; omega
              have hd12n : decide (12 ≤ bs.length) = false := by simp; omega
              have hw30 := HW30.out
              by_cases hu : 30 < usedW bs b.a bs.length + b.s
              · have hdu : decide (30 < usedW bs b.a bs.length + b.s) = true := by simpa using hu
                have hfull : fullB bs b = true := by simp [fullB, hu]
                have HFL := Lib.hid hfull
                clear hfull
                go_quiet ((go_at_call 45; exact quiet_same (s_l23Used _ _ bs _ _ _ HLq.out hn)))
                go_wp2_with fail
                go_meet
                exact ⟨by rw [HFL.out], D6.out.drewN _⟩
              have hdu : decide (30 < usedW bs b.a bs.length + b.s) = false := by simpa using hu
              have hfull : fullB bs b = false := by simp [fullB, hu]; omega
              have HFL := Lib.hid hfull
              clear hfull
              go_quiet ((go_at_call 45; exact quiet_same (s_l23Used _ _ bs _ _ _ HLq.out hn)))
              go_wp2_with fail
              go_meet
              exact ⟨by rw [HFL.out], D6.out.drewN _⟩
            case rest =>
              obtain ⟨rfl, hpd⟩ := hcut
              have D7 := Lib.hid hpd
              clear hpd D6 HLq x0 x1 y0 y1 y2 y3 k0 k1 o0 o1 of0 of1
              have x0 := D7.out.1.2.1.cell (j := 0) (u := .int .i64 f) rfl
              have x1 := D7.out.1.2.1.cell (j := 1) (u := .slice (some ⟨ga, 0, none⟩) bs.length c) rfl
              have y0 := D7.out.1.2.2.1.cell (j := 0) (u := .int .i64 b.d) rfl
              have y1 := D7.out.1.2.2.1.cell (j := 1) (u := .int .i64 b.a) rfl
              have y2 := D7.out.1.2.2.1.cell (j := 2) (u := .int .i64 b.r) rfl
              have y3 := D7.out.1.2.2.1.cell (j := 3) (u := .int .i64 b.s) rfl
              have k0 := D7.out.2.1.cell (j := 0) (u := .int .i64 f) rfl
              have k1 := D7.out.2.1.cell (j := 1) (u := .slice (some ⟨g, 0, none⟩) bs.length cap) rfl
              have o0 := D7.out.1.2.2.2.1.cell (j := 0) (u := .int .i64 0) rfl
              have o1 := D7.out.1.2.2.2.1.cell (j := 1) (u := .slice none 0 0) rfl
              have of0 := D7.out.1.2.2.2.1.free 0
              have of1 := D7.out.1.2.2.2.1.free 1
              rcases hfl : fullB bs b with _ | _
              · have hcode := put0 hv hb hkn hr hfl
                have HC := Lib.hid hcode
                clear hcode
                have hgo := D7.out.2.2
                have hz3 : w.heap.size + 3 ≤ wc.heap.size := by have := D7.out.1.2.2.2.1.lt; omega
                have hHTL : (cellsBatch (bs.take k)).length = k * 4 := by rw [cellsBatch_len, List.length_take, Nat.min_eq_left hk]
                have HTL := Lib.hid hHTL
                have hHDL : (cellsBatch (bs.drop k)).length = (bs.length - k) * 4 := by rw [cellsBatch_len, List.length_drop]
                have HDL := Lib.hid hHDL
                clear hHTL hHDL
                have hl0 : w.heap.size < wc.heap.size := by omega
                have hl1 : w.heap.size + 1 < wc.heap.size := by omega
                have hlk : 0 + k ≤ 10000000 := by omega
                have hlk1 : k + 1 ≤ 10000000 := by omega
                have hlk2 : k + 1 + (bs.length - k) ≤ 10000000 := by omega
                have hk0 : (0 : Int) ≤ (k : Int) := by omega
                have hk1 : (k : Int) ≤ (c : Int) := by omega
                have hk2 : (k : Int) ≤ (bs.length : Int) := by omega
                have hk5 : (bs.length : Int) ≤ (c : Int) := by omega
                have bwa : Below wc.heap.size wc (wc.alloc (.cells #[] 27)).drew := (allocB wc _).drew
                have Qa := Lib.hid ((PB.of D7.out).carry bwa)
                have Ea := Lib.hid (show Own (wc.alloc (.cells #[] 27)).drew (w.heap.size + 3) 27 4 (.slice (some ⟨wc.heap.size, 0, none⟩) 0 0) 0 [] from Own.lit wc #[] 0 hz3 (by omega) (by simp))
                have Ta := Lib.hid (show Row (wc.alloc (.cells #[] 27)).drew w.heap.size (some ⟨ga, 0, none⟩) (cellsBatch (bs.take k)) from (lst_take (H0.out.below Qa.out.2.2.2.2.1) k).row)
                have hza : w.heap.size + 3 ≤ (wc.alloc (.cells #[] 27)).drew.heap.size := by simp; omega
                clear bwa
                have bwb : Below wc.heap.size wc ((wc.alloc (.cells #[] 27)).alloc (.cells #[.int .i64 b.d, .int .i64 b.a, .int .i64 b.r, .int .i64 b.s] 27)).drew := (allocB2 wc _ _).drew
                have Qb := Lib.hid ((PB.of D7.out).carry bwb)
                have Eb := Lib.hid (show Own ((wc.alloc (.cells #[] 27)).alloc (.cells #[.int .i64 b.d, .int .i64 b.a, .int .i64 b.r, .int .i64 b.s] 27)).drew (w.heap.size + 3) 27 4 (.slice (some ⟨wc.heap.size, 0, none⟩) 0 0) 0 [] from (Own.lit wc #[] 0 hz3 (by omega) (by simp)).alloc _)
                have Tb := Lib.hid (show Row ((wc.alloc (.cells #[] 27)).alloc (.cells #[.int .i64 b.d, .int .i64 b.a, .int .i64 b.r, .int .i64 b.s] 27)).drew w.heap.size (some ⟨ga, 0, none⟩) (cellsBatch (bs.take k)) from (lst_take (H0.out.below Qb.out.2.2.2.2.1) k).row)
                have hzb : w.heap.size + 3 ≤ ((wc.alloc (.cells #[] 27)).alloc (.cells #[.int .i64 b.d, .int .i64 b.a, .int .i64 b.r, .int .i64 b.s] 27)).drew.heap.size := by simp; omega
                clear bwb
                have Nb := Lib.hid (show Box ((wc.alloc (.cells #[] 27)).alloc (.cells #[.int .i64 b.d, .int .i64 b.a, .int .i64 b.r, .int .i64 b.s] 27)).drew (wc.heap.size + 1) 27 #[.int .i64 b.d, .int .i64 b.a, .int .i64 b.r, .int .i64 b.s] from (by have := Box.new (wc.alloc (.cells #[] 27)) #[.int .i64 b.d, .int .i64 b.a, .int .i64 b.r, .int .i64 b.s] 27; simp at this; exact this))
                have bwc : Below wc.heap.size wc ((wc.alloc (.cells #[.int .i64 b.d, .int .i64 b.a, .int .i64 b.r, .int .i64 b.s] 27)).alloc (.cells #[] 27)).drew := (allocB2 wc _ _).drew
                have Qc := Lib.hid ((PB.of D7.out).carry bwc)
                have Ec := Lib.hid (show Own ((wc.alloc (.cells #[.int .i64 b.d, .int .i64 b.a, .int .i64 b.r, .int .i64 b.s] 27)).alloc (.cells #[] 27)).drew (w.heap.size + 3) 27 4 (.slice (some ⟨wc.heap.size + 1, 0, none⟩) 0 0) 0 [] from (by have := Own.lit (base := w.heap.size + 3) (e := 27) (size := 4) (wc.alloc (.cells #[.int .i64 b.d, .int .i64 b.a, .int .i64 b.r, .int .i64 b.s] 27)) #[] 0 (by simp; omega) (by omega) (by simp); simp at this; exact this))
                have Tc := Lib.hid (show Row ((wc.alloc (.cells #[.int .i64 b.d, .int .i64 b.a, .int .i64 b.r, .int .i64 b.s] 27)).alloc (.cells #[] 27)).drew w.heap.size (some ⟨ga, 0, none⟩) (cellsBatch (bs.take k)) from (lst_take (H0.out.below Qc.out.2.2.2.2.1) k).row)
                have hzc : w.heap.size + 3 ≤ ((wc.alloc (.cells #[.int .i64 b.d, .int .i64 b.a, .int .i64 b.r, .int .i64 b.s] 27)).alloc (.cells #[] 27)).drew.heap.size := by simp; omega
                clear bwc
                have Nc := Lib.hid (show Box ((wc.alloc (.cells #[.int .i64 b.d, .int .i64 b.a, .int .i64 b.r, .int .i64 b.s] 27)).alloc (.cells #[] 27)).drew (wc.heap.size) 27 #[.int .i64 b.d, .int .i64 b.a, .int .i64 b.r, .int .i64 b.s] from (Box.new wc #[.int .i64 b.d, .int .i64 b.a, .int .i64 b.r, .int .i64 b.s] 27).carry (allocB _ (.cells #[] 27)).drew)
                have hS0 : PS w ga c bs b wc.drew := (PB.of D7.out).ps
                clear x0 x1 y0 y1 y2 y3 k0 k1 o0 o1 of0 of1
                go_wp2_with fail
                go_region_held3 (fun W => W.cell? ⟨w.heap.size, 1, none⟩ = some (.slice (some ⟨ga, 0, none⟩) bs.length c) ∧ W.cell? ⟨w.heap.size + 1, 0, none⟩ = some (.int .i64 b.d) ∧ W.cell? ⟨w.heap.size + 1, 1, none⟩ = some (.int .i64 b.a) ∧ W.cell? ⟨w.heap.size + 1, 2, none⟩ = some (.int .i64 b.r) ∧ W.cell? ⟨w.heap.size + 1, 3, none⟩ = some (.int .i64 b.s)) (first | assumption | exact Qa.out.ps | exact Qb.out.ps | exact Qc.out.ps | exact ((PB.of D7.out).carry (allocB wc _).drew).ps | exact hS4 | exact hS5 | exact hS6 | exact (q4.out.carry (allocB _ _)).ps | go_keep | exact PS.set hS6 (by omega))
                  (first | ((refine stepAll elem_Batch (by omega) (by omega) (by rfl) (.tmp 84) (.tmp 88) (by rfl) _ (w.heap.size + 3) _ 0 [] (by rfl) Ea.out w.heap.size (some ⟨ga, 0, none⟩) k c (cellsBatch (bs.take k)) (by rfl) HTL.out Ta.out (cellsBatch_one _) hlk hza ?_; intro g4 cap4 w4 own4 hg4; try rw [Nat.zero_add k]; have q4 := Lib.hid (Qa.out.after Ea.out hg4); have hS4 : PS w ga c bs b w4 := q4.out.ps; have O4 := Lib.hid (show Own w4 (w.heap.size + 3) 27 4 (.slice (some ⟨g4, 0, none⟩) k cap4) k (cellsBatch (bs.take k)) from by simpa using own4); have hz4 : w.heap.size + 3 ≤ w4.heap.size := Nat.le_trans hza hg4.size; clear own4 hg4)) | ((refine stepAll elem_Batch (by omega) (by omega) (by rfl) (.tmp 84) (.tmp 88) (by rfl) _ (w.heap.size + 3) _ 0 [] (by rfl) Eb.out w.heap.size (some ⟨ga, 0, none⟩) k c (cellsBatch (bs.take k)) (by rfl) HTL.out Tb.out (cellsBatch_one _) hlk hzb ?_; intro g4 cap4 w4 own4 hg4; try rw [Nat.zero_add k]; have q4 := Lib.hid (Qb.out.after Eb.out hg4); have hS4 : PS w ga c bs b w4 := q4.out.ps; have O4 := Lib.hid (show Own w4 (w.heap.size + 3) 27 4 (.slice (some ⟨g4, 0, none⟩) k cap4) k (cellsBatch (bs.take k)) from by simpa using own4); have hz4 : w.heap.size + 3 ≤ w4.heap.size := Nat.le_trans hzb hg4.size; have n4 := Lib.hid (Nb.out.grown hg4 (own_ne (by omega))); clear own4 hg4)) | ((refine stepAll elem_Batch (by omega) (by omega) (by rfl) (.tmp 84) (.tmp 88) (by rfl) _ (w.heap.size + 3) _ 0 [] (by rfl) Ec.out w.heap.size (some ⟨ga, 0, none⟩) k c (cellsBatch (bs.take k)) (by rfl) HTL.out Tc.out (cellsBatch_one _) hlk hzc ?_; intro g4 cap4 w4 own4 hg4; try rw [Nat.zero_add k]; have q4 := Lib.hid (Qc.out.after Ec.out hg4); have hS4 : PS w ga c bs b w4 := q4.out.ps; have O4 := Lib.hid (show Own w4 (w.heap.size + 3) 27 4 (.slice (some ⟨g4, 0, none⟩) k cap4) k (cellsBatch (bs.take k)) from by simpa using own4); have hz4 : w.heap.size + 3 ≤ w4.heap.size := Nat.le_trans hzc hg4.size; have n4 := Lib.hid (Nc.out.grown hg4 (own_ne (by omega))); clear own4 hg4)) | ((refine stepAll elem_Batch (by omega) (by omega) (by rfl) (.tmp 89) (.tmp 91) (by rfl) _ (w.heap.size + 3) _ k (cellsBatch (bs.take k)) (by rfl) (O4.out.alloc (.cells #[.int .i64 b.d, .int .i64 b.a, .int .i64 b.r, .int .i64 b.s] 27)) (w4.heap.size + 1) (some ⟨w4.heap.size, 0, none⟩) 1 1 b.cells (by rfl) rfl (row_of_box (Box.new w4 #[.int .i64 b.d, .int .i64 b.a, .int .i64 b.r, .int .i64 b.s] 27) (by omega)) (by simp [VBatch.cells, Value.oneCell']) hlk1 (by simp; omega) ?_; intro g5 cap5 w5 own5 hg5; have q5 := Lib.hid ((q4.out.carry (allocB w4 (.cells #[.int .i64 b.d, .int .i64 b.a, .int .i64 b.r, .int .i64 b.s] 27))).after (O4.out.alloc (.cells #[.int .i64 b.d, .int .i64 b.a, .int .i64 b.r, .int .i64 b.s] 27)) hg5); have hS5 : PS w ga c bs b w5 := q5.out.ps; have O5 := Lib.hid own5; have hz5 : w.heap.size + 3 ≤ w5.heap.size := (by have := hg5.size; simp at this; omega); clear own5 hg5)) | ((refine stepAll elem_Batch (by omega) (by omega) (by rfl) (.tmp 89) (.tmp 91) (by rfl) _ (w.heap.size + 3) _ k (cellsBatch (bs.take k)) (by rfl) O4.out (wc.heap.size + 1 + 1) (some ⟨wc.heap.size + 1, 0, none⟩) 1 1 b.cells (by rfl) rfl (row_of_box n4.out (by omega)) (by simp [VBatch.cells, Value.oneCell']) hlk1 hz4 ?_; intro g5 cap5 w5 own5 hg5; have q5 := Lib.hid (q4.out.after O4.out hg5); have hS5 : PS w ga c bs b w5 := q5.out.ps; have O5 := Lib.hid own5; have hz5 : w.heap.size + 3 ≤ w5.heap.size := Nat.le_trans hz4 hg5.size; clear own5 hg5)) | ((refine stepAll elem_Batch (by omega) (by omega) (by rfl) (.tmp 89) (.tmp 91) (by rfl) _ (w.heap.size + 3) _ k (cellsBatch (bs.take k)) (by rfl) O4.out (wc.heap.size + 1) (some ⟨wc.heap.size, 0, none⟩) 1 1 b.cells (by rfl) rfl (row_of_box n4.out (by omega)) (by simp [VBatch.cells, Value.oneCell']) hlk1 hz4 ?_; intro g5 cap5 w5 own5 hg5; have q5 := Lib.hid (q4.out.after O4.out hg5); have hS5 : PS w ga c bs b w5 := q5.out.ps; have O5 := Lib.hid own5; have hz5 : w.heap.size + 3 ≤ w5.heap.size := Nat.le_trans hz4 hg5.size; clear own5 hg5)) | ((refine stepAll elem_Batch (by omega) (by omega) (by rfl) (.tmp 92) (.tmp 96) (by rfl) _ (w.heap.size + 3) _ (k + 1) (cellsBatch (bs.take k) ++ b.cells) (by rfl) O5.out w.heap.size _ (bs.length - k) (c - k) (cellsBatch (bs.drop k)) (by rfl) HDL.out (row_drop (H0.out.below q5.out.2.2.2.2.1) k hc) (cellsBatch_one _) hlk2 hz5 ?_; intro g6 cap6 w6 own6 hg6; have q6 := Lib.hid (q5.out.after O5.out hg6); have hS6 : PS w ga c bs b w6 := q6.out.ps; have O6 := Lib.hid own6; have t6 := q6.out.2.2.2.1.cell (j := 1) (u := .slice (some ⟨g, 0, none⟩) bs.length cap) rfl; have tf6 := q6.out.2.2.2.1.free 1; clear own6 hg6)))
                all_goals
                  have hq6 := q6.out
                  have k0 := hq6.2.2.2.1.cell (j := 0) (u := .int .i64 f) rfl
                  have o0 := hq6.2.2.1.cell (j := 0) (u := .int .i64 0) rfl
                  have o1 := hq6.2.2.1.cell (j := 1) (u := .slice none 0 0) rfl
                  have of0 := hq6.2.2.1.free 0
                  have of1 := hq6.2.2.1.free 1
                  clear hq6
                  have hneg := Own.ne_box O6.out q6.out.2.2.2.1 (by decide)
                  have hneo := Own.base_le O6.out g6 rfl
                  have hfl : k + 1 + (bs.length - k) = (inserted bs b).length := by rw [inserted_len]; omega
                  have HFL := Lib.hid hfl
                  clear hfl
                  go_wp2_with fail
                  all_goals
                    refine bodyPost_ret (v := .tuple #[.agg #[.int .i64 f, .slice (some ⟨g6, 0, none⟩) (k + 1 + (bs.length - k)) cap6], .int .i64 0]) (by simp [results, Try.results16, go_sem, *]) rfl (put_k HC.out (by decide) (list_in HC.out) (by rw [← HFL.out]) ?_ ?_)
                    · have h6 := O6.out
                      rw [HFL.out, cells_ins HPE.out] at h6
                      have hne2 : g6 ≠ w.heap.size + 2 := by omega
                      exact Own.setOther (Own.setOther (Own.setOther (h6.lower (by omega)) hneg) hne2) hne2
                    · exact ((q6.out.2.2.2.2.1.setCell (by show w.heap.size ≤ go; omega) _).setCell (by show w.heap.size ≤ w.heap.size + 2; omega) _).setCell (by show w.heap.size ≤ w.heap.size + 2; omega) _
              · have hcode := put3 hv hb hkn hr hfl
                have HC := Lib.hid hcode
                clear hcode
                have hne := Own.ne_box D7.out.1.1 D7.out.1.2.2.2.1 (by decide)
                have hgo := D7.out.2.2
                go_wp2_with fail
                refine bodyPost_ret (v := .tuple #[.agg #[.int .i64 f, .slice (some ⟨g, 0, none⟩) bs.length cap], .int .i64 3]) (by simp [results, Try.results16, go_sem, *]) rfl (put_k HC.out (by decide) (list_same HC.out (by decide) (by decide)) rfl ?_ ?_)
                · exact Own.setOther (Own.setOther D7.out.1.1 hne) hne
                · exact (D7.out.1.2.2.2.2.setCell (by show w.heap.size ≤ w.heap.size + 2; omega) _).setCell (by show w.heap.size ≤ w.heap.size + 2; omega) _
          · have hcode := put1 hv hb hkn
            have HC := Lib.hid hcode
            clear hcode
            have hne := Own.ne_box D6.out.1.1 D6.out.1.2.2.2.1 (by decide)
            have hgo := D6.out.2.2
            go_wp2_with fail
            refine bodyPost_ret (v := .tuple #[.agg #[.int .i64 f, .slice (some ⟨g, 0, none⟩) bs.length cap], .int .i64 1]) (by simp [results, Try.results16, go_sem, *]) rfl (put_k HC.out (by decide) (list_same HC.out (by decide) (by decide)) rfl ?_ ?_)
            · exact Own.setOther (Own.setOther D6.out.1.1 hne) hne
            · exact (D6.out.1.2.2.2.2.setCell (by show w.heap.size ≤ w.heap.size + 2; omega) _).setCell (by show w.heap.size ≤ w.heap.size + 2; omega) _
end Go.Proofs.Ytmfbhddnlgbcmaa
