/- Signing of the reference, by a weak contract. -/
import Derived.Test.YtohnodphlaoohaaForgetVoter
import Derived.Test.YtohnodphlaoohaaReg
import Derived.Deep.RegionHeld3
import Derived.Deep.RegionLaw
import Derived.Deep.DeepCutAuto
import Derived.Deep.CutBlock
import Derived.StillTailTactics
namespace Go.Proofs.Ytohnodphlaoohaa
open Go.RowKit
set_option linter.unusedVariables false

theorem nthVote_take {bs : List VVote} {k i : Nat} (h : i < k) : nthVote (bs.take k) i = nthVote bs i := by simp [nthVote, h]
theorem nthVote_drop {bs : List VVote} {k i : Nat} : nthVote (bs.drop k) i = nthVote bs (k + i) := by simp [nthVote, List.getElem?_drop]
theorem lst_take {w : World} {B ga : Nat} {bs : List VVote} (h : LstVote w B (some ⟨ga, 0, none⟩) bs) (k : Nat) : LstVote w B (some ⟨ga, 0, none⟩) (bs.take k) := fun hn => by
  obtain ⟨b, off, e, hB, hc⟩ := h (by intro e; subst e; simp at hn)
  exact ⟨b, off, e, hB, fun i hi => by
    rw [List.length_take] at hi
    rw [nthVote_take (by omega)]; exact hc i (by omega)⟩
theorem lst_drop {w : World} {B ga : Nat} {bs : List VVote} (h : LstVote w B (some ⟨ga, 0, none⟩) bs) (k : Nat) : LstVote w B (some ⟨ga, k * 3, none⟩) (bs.drop k) := fun hn => by
  obtain ⟨b, off, e, hB, hc⟩ := h (by intro e; subst e; simp at hn)
  injection e with e
  injection e with e1 e2
  subst e1 e2
  exact ⟨_, _, rfl, hB, fun i hi => by
    rw [List.length_drop] at hi
    rw [nthVote_drop]
    have := hc (k + i) (by omega)
    simp only [Nat.zero_add] at this
    rw [show k * 3 + i * 3 = (k + i) * 3 from by omega]
    exact this⟩
theorem lst_at {w : World} {B ga : Nat} {bs : List VVote} (h : LstVote w B (some ⟨ga, 0, none⟩) bs) {i : Nat} (hi : i < bs.length) : w.cell? ⟨ga, i * 3, none⟩ = some (.int .i64 (nthVote bs i).r) ∧ w.cell? ⟨ga, i * 3 + 1, none⟩ = some (.int .i64 (nthVote bs i).a) ∧ w.cell? ⟨ga, i * 3 + 2, none⟩ = some (.int .i64 (nthVote bs i).d) := by
  obtain ⟨b, off, e, hB, hc⟩ := h.at_ hi
  injection e with e
  injection e with e1 e2
  subst e1 e2
  have := hc i hi
  rwa [Nat.zero_add] at this
theorem set2 {W : World} {g g' j : Nat} {u v0 v1 : Value} (hne : g' ≠ g) (h : W.cell? ⟨g, 0, none⟩ = some v0 ∧ W.cell? ⟨g, 1, none⟩ = some v1) : (W.setCell ⟨g', j, none⟩ u).cell? ⟨g, 0, none⟩ = some v0 ∧ (W.setCell ⟨g', j, none⟩ u).cell? ⟨g, 1, none⟩ = some v1 :=
  ⟨(World.cell?_setCell_other W _ _ _ (fun e => by injection e with e1; exact hne e1)).trans h.1, (World.cell?_setCell_other W _ _ _ (fun e => by injection e with e1; exact hne e1)).trans h.2⟩
/-- What lies ahead of the copy: the empty row at gE, the list, the boxes. -/
def PC (w : World) (f : Int) (A : Option Addr) (c : Nat) (bs : List VVote) (b : VVote) (gE : Nat) (W : World) : Prop :=
  Own W w.heap.size 35 3 (.slice (some ⟨gE, 0, none⟩) 0 0) 0 [] ∧ Row W w.heap.size A (cellsVote bs) ∧ Box W w.heap.size 50 #[.int .i64 f, .slice A bs.length c] ∧ Box W (w.heap.size + 1) 35 #[.int .i64 b.r, .int .i64 b.a, .int .i64 b.d] ∧ Box W (w.heap.size + 2) 50 #[.int .i64 0, .slice none 0 0] ∧ Below w.heap.size w W ∧ w.heap.size ≤ W.heap.size ∧ w.heap.size + 2 < gE
/-- .. and behind it. -/
def PE (w : World) (f : Int) (A : Option Addr) (c : Nat) (bs : List VVote) (b : VVote) (g cap : Nat) (W : World) : Prop :=
  OwnVote W w.heap.size (.slice (some ⟨g, 0, none⟩) bs.length cap) bs ∧ Box W w.heap.size 50 #[.int .i64 f, .slice A bs.length c] ∧ Box W (w.heap.size + 1) 35 #[.int .i64 b.r, .int .i64 b.a, .int .i64 b.d] ∧ Box W (w.heap.size + 2) 50 #[.int .i64 0, .slice none 0 0] ∧ Below w.heap.size w W
def PD (w : World) (f : Int) (A : Option Addr) (c : Nat) (bs : List VVote) (b : VVote) (go g cap : Nat) (W : World) : Prop :=
  PE w f A c bs b g cap W ∧ Box W go 50 #[.int .i64 f, .slice (some ⟨g, 0, none⟩) bs.length cap] ∧ w.heap.size + 2 < go
theorem PC.after {w W w3 : World} {f : Int} {A : Option Addr} {c : Nat} {bs : List VVote} {b : VVote} {gE g cap : Nat} (h : PC w f A c bs b gE W) (own3 : Own w3 w.heap.size 35 3 (.slice (some ⟨g, 0, none⟩) (0 + bs.length) cap) (0 + bs.length) ([] ++ cellsVote bs)) (hg3 : W.grownBy w3 (Value.slice (some ⟨gE, 0, none⟩) 0 0).ownBlock) :
    PE w f A c bs b g cap w3 ∧ (w3.cell? ⟨w.heap.size, 0, none⟩ = some (.int .i64 f) ∧ w3.cell? ⟨w.heap.size, 1, none⟩ = some (.slice A bs.length c)) := by
  obtain ⟨h1, h2, h3, h4, h5, h6, h7, h8⟩ := h
  have x3 := h3.grown hg3 (own_ne (by omega))
  refine ⟨⟨by unfold OwnVote; simpa using own3, x3, h4.grown hg3 (own_ne (by omega)), h5.grown hg3 (own_ne (by omega)), below_own h6 h1 (Nat.le_refl _) hg3⟩, x3.cell rfl, x3.cell rfl⟩
theorem PD.drewN {w W : World} {f : Int} {A : Option Addr} {c : Nat} {bs : List VVote} {b : VVote} {go g cap : Nat} (h : PD w f A c bs b go g cap W) (n : Nat) : PD w f A c bs b go g cap (W.drewN n) :=
  ⟨⟨h.1.1, h.1.2.1, h.1.2.2.1, h.1.2.2.2.1, below_drewN h.1.2.2.2.2 n⟩, h.2.1, h.2.2⟩
theorem PE.fin1 {w W : World} {f : Int} {A : Option Addr} {c : Nat} {bs : List VVote} {b : VVote} {g cap : Nat} (h : PE w f A c bs b g cap W) : PD w f A c bs b W.heap.size g cap (W.alloc (.cells #[.int .i64 f, .slice (some ⟨g, 0, none⟩) bs.length cap] 50)) := by
  obtain ⟨h1, h2, h3, h4, h5⟩ := h
  exact ⟨⟨h1.alloc _, h2.carry (allocB _ _), h3.carry (allocB _ _), h4.carry (allocB _ _), next h5 (allocB _ _)⟩, Box.new _ _ _, h4.lt⟩
theorem PE.fin2 {w W : World} {f : Int} {A : Option Addr} {c : Nat} {bs : List VVote} {b : VVote} {g cap go : Nat} (h : PE w f A c bs b g cap W) (hz : Box W go 50 #[.int .i64 0, .slice none 0 0]) (hgo : w.heap.size + 2 < go) :
    PD w f A c bs b go g cap ((W.setCell ⟨go, 0, none⟩ (.int .i64 f)).setCell ⟨go, 1, none⟩ (.slice (some ⟨g, 0, none⟩) bs.length cap)) := by
  obtain ⟨h1, h2, h3, h4, h5⟩ := h
  have hne := Own.ne_box h1 hz (by decide)
  exact ⟨⟨Own.setOther (Own.setOther h1 hne) hne, (h2.other (by omega) _ _).other (by omega) _ _, (h3.other (by omega) _ _).other (by omega) _ _, (h4.other (by omega) _ _).other (by omega) _ _, (h5.setCell (by show w.heap.size ≤ go; omega) _).setCell (by show w.heap.size ≤ go; omega) _⟩, (hz.set 0 _).set 1 _, hgo⟩
theorem row_of_box {w : World} {g B : Nat} {t : TypeId} {b : VVote} (h : Box w g t #[.int .i64 b.r, .int .i64 b.a, .int .i64 b.d]) (hB : g < B) : Row w B (some ⟨g, 0, none⟩) b.cells := fun _ =>
  ⟨g, 0, rfl, hB, fun j u hu => by rw [Nat.zero_add]; exact (cell_of_row w g j _ _ _ h).trans (by simpa [VVote.cells] using hu)⟩
/-- The boxes alone. -/
def PB (w : World) (f : Int) (A : Option Addr) (c : Nat) (bs : List VVote) (b : VVote) (go g cap : Nat) (W : World) : Prop :=
  Box W w.heap.size 50 #[.int .i64 f, .slice A bs.length c] ∧ Box W (w.heap.size + 1) 35 #[.int .i64 b.r, .int .i64 b.a, .int .i64 b.d] ∧ Box W (w.heap.size + 2) 50 #[.int .i64 0, .slice none 0 0] ∧ Box W go 50 #[.int .i64 f, .slice (some ⟨g, 0, none⟩) bs.length cap] ∧ Below w.heap.size w W ∧ w.heap.size + 2 < go
/-- What the insertion reads. -/
def PS (w : World) (A : Option Addr) (c : Nat) (bs : List VVote) (b : VVote) (W : World) : Prop :=
  W.cell? ⟨w.heap.size, 1, none⟩ = some (.slice A bs.length c) ∧ W.cell? ⟨w.heap.size + 1, 0, none⟩ = some (.int .i64 b.r) ∧ W.cell? ⟨w.heap.size + 1, 1, none⟩ = some (.int .i64 b.a) ∧ W.cell? ⟨w.heap.size + 1, 2, none⟩ = some (.int .i64 b.d)
section
variable {w W W' : World} {f : Int} {A : Option Addr} {c : Nat} {bs : List VVote} {b : VVote} {go g cap : Nat}
theorem PB.of (h : PD w f A c bs b go g cap W) : PB w f A c bs b go g cap W := ⟨h.1.2.1, h.1.2.2.1, h.1.2.2.2.1, h.2.1, h.1.2.2.2.2, h.2.2⟩
theorem PB.carry (h : PB w f A c bs b go g cap W) (hb : Below W.heap.size W W') : PB w f A c bs b go g cap W' := ⟨h.1.carry hb, h.2.1.carry hb, h.2.2.1.carry hb, h.2.2.2.1.carry hb, next h.2.2.2.2.1 hb, h.2.2.2.2.2⟩
theorem PB.after {q n k : Nat} {xs : List Value} (h : PB w f A c bs b go g cap W) (ho : Own W (w.heap.size + 3) 35 3 (.slice (some ⟨q, 0, none⟩) n k) n xs) (hg : W.grownBy W' (Value.slice (some ⟨q, 0, none⟩) n k).ownBlock) : PB w f A c bs b go g cap W' := by
  have hq := Own.base_le ho q rfl
  have hk := Own.ne_box ho h.2.2.2.1 (by decide)
  exact ⟨h.1.grown hg (own_ne (by omega)), h.2.1.grown hg (own_ne (by omega)), h.2.2.1.grown hg (own_ne (by omega)), h.2.2.2.1.grown hg (own_ne hk), below_own h.2.2.2.2.1 ho (by omega) hg, h.2.2.2.2.2⟩
theorem PB.ps (h : PB w f A c bs b go g cap W) : PS w A c bs b W := ⟨h.1.cell rfl, h.2.1.cell rfl, h.2.1.cell rfl, h.2.1.cell rfl⟩
theorem PS.set (h : PS w A c bs b W) {q j : Nat} {u : Value} (hq : w.heap.size + 2 < q) : PS w A c bs b (W.setCell ⟨q, j, none⟩ u) := by
  have hh : ∀ p i v, p ≠ q → W.cell? ⟨p, i, none⟩ = some v → (W.setCell ⟨q, j, none⟩ u).cell? ⟨p, i, none⟩ = some v := fun p i v hne hv => (World.cell?_setCell_other W _ _ _ (fun e => by injection e with e1; exact hne e1.symm)).trans hv
  exact ⟨hh _ _ _ (by omega) h.1, hh _ _ _ (by omega) h.2.1, hh _ _ _ (by omega) h.2.2.1, hh _ _ _ (by omega) h.2.2.2⟩
end
theorem row_drop {w : World} {B ga c : Nat} {bs : List VVote} (h : LstVote w B (some ⟨ga, 0, none⟩) bs) (k : Nat) (hc : bs.length ≤ c) : Row w B (if c = k then some ⟨ga, 0, none⟩ else some ⟨ga, k * 3, none⟩) (cellsVote (bs.drop k)) := by
  by_cases e : c = k
  · rw [if_pos e, List.drop_eq_nil_of_le (by omega)]; exact Row.nil _ _ _
  · rw [if_neg e]; exact (lst_drop h k).row
theorem cell_oth2 {W : World} {g q i j j' : Nat} {u u' v : Value} (hne : q ≠ g) (h : W.cell? ⟨g, i, none⟩ = some v) : ((W.setCell ⟨q, j, none⟩ u).setCell ⟨q, j', none⟩ u').cell? ⟨g, i, none⟩ = some v :=
  (World.cell?_setCell_other _ _ _ _ (fun e => by injection e with e1; exact hne e1)).trans ((World.cell?_setCell_other W _ _ _ (fun e => by injection e with e1; exact hne e1)).trans h)
theorem lst_blk {w : World} {B ga k : Nat} {bs : List VVote} (h : LstVote w B (some ⟨ga, 0, none⟩) bs) (hk : k < bs.length) : ga < B := by
  obtain ⟨b, off, e, hB, _⟩ := h.at_ hk
  injection e with e
  injection e with e1 e2
  omega
theorem PD.carry {w W W' : World} {f : Int} {A : Option Addr} {c : Nat} {bs : List VVote} {b : VVote} {go g cap : Nat} (h : PD w f A c bs b go g cap W) (hb : Below W.heap.size W W') : PD w f A c bs b go g cap W' :=
  ⟨⟨h.1.1.carry hb, h.1.2.1.carry hb, h.1.2.2.1.carry hb, h.1.2.2.2.1.carry hb, next h.1.2.2.2.2 hb⟩, h.2.1.carry hb, h.2.2⟩
theorem cells_ins {bs : List VVote} {b : VVote} {k : Nat} : cellsVote (bs.take k) ++ b.cells ++ cellsVote (bs.drop k) = cellsVote (bs.take k ++ b :: bs.drop k) := by
  simp [cellsVote]
/-- What signing hands back: a list in new memory, with or without the vote. -/
def SignR (w : World) (f : Int) (bs : List VVote) (e : Ending) (w' : World) : Prop :=
  ∃ (g cap : Nat) (ks : List VVote) (q : Bool), e = .returned (.tuple #[.agg #[.int .i64 f, .slice (some ⟨g, 0, none⟩) ks.length cap], .bool q]) ∧ ks.length ≤ bs.length + 1 ∧ OwnVote w' w.heap.size (.slice (some ⟨g, 0, none⟩) ks.length cap) ks ∧ Below w.heap.size w w'
set_option maxHeartbeats 16000000 in
set_option maxRecDepth 100000 in
theorem s_l12Sign (f : Int) (ga c : Nat) (bs : List VVote) (b : VVote) (w : World) (h : LstVote w w.heap.size (some ⟨ga, 0, none⟩) bs) (hc : bs.length ≤ c) (hn : bs.length ≤ 60) :
    Calls Try.prog 125 #[.agg #[.int .i64 f, .slice (some ⟨ga, 0, none⟩) bs.length c], .agg #[.int .i64 b.r, .int .i64 b.a, .int .i64 b.d]] w (SignR w f bs) := by
  have ba := allocB3 w (.cells #[.int .i64 f, .slice (some ⟨ga, 0, none⟩) bs.length c] 50) (.cells #[.int .i64 b.r, .int .i64 b.a, .int .i64 b.d] 35) (.cells #[.int .i64 0, .slice none 0 0] 50)
  have XB := Lib.hid (((Box.new w #[.int .i64 f, .slice (some ⟨ga, 0, none⟩) bs.length c] 50).carry (allocB _ (.cells #[.int .i64 b.r, .int .i64 b.a, .int .i64 b.d] 35))).carry (allocB _ (.cells #[.int .i64 0, .slice none 0 0] 50)))
  have YB := Lib.hid (show Box (((w.alloc (.cells #[.int .i64 f, .slice (some ⟨ga, 0, none⟩) bs.length c] 50)).alloc (.cells #[.int .i64 b.r, .int .i64 b.a, .int .i64 b.d] 35)).alloc (.cells #[.int .i64 0, .slice none 0 0] 50)) (w.heap.size + 1) 35 #[.int .i64 b.r, .int .i64 b.a, .int .i64 b.d] from by
    have := (Box.new (w.alloc (.cells #[.int .i64 f, .slice (some ⟨ga, 0, none⟩) bs.length c] 50)) #[.int .i64 b.r, .int .i64 b.a, .int .i64 b.d] 35).carry (allocB _ (.cells #[.int .i64 0, .slice none 0 0] 50))
    simpa using this)
  have OB := Lib.hid (show Box (((w.alloc (.cells #[.int .i64 f, .slice (some ⟨ga, 0, none⟩) bs.length c] 50)).alloc (.cells #[.int .i64 b.r, .int .i64 b.a, .int .i64 b.d] 35)).alloc (.cells #[.int .i64 0, .slice none 0 0] 50)) (w.heap.size + 2) 50 #[.int .i64 0, .slice none 0 0] from by
    have := Box.new ((w.alloc (.cells #[.int .i64 f, .slice (some ⟨ga, 0, none⟩) bs.length c] 50)).alloc (.cells #[.int .i64 b.r, .int .i64 b.a, .int .i64 b.d] 35)) #[.int .i64 0, .slice none 0 0] 50
    simpa using this)
  have H0 := Lib.hid h
  have HP := Lib.hid (h.carry ba)
  have BB := Lib.hid ba
  clear h ba
  go_enter Try.func125, Try.ntmps125
  go_upto_region 1 with fail
  generalize ((w.alloc (.cells #[.int .i64 f, .slice (some ⟨ga, 0, none⟩) bs.length c] 50)).alloc (.cells #[.int .i64 b.r, .int .i64 b.a, .int .i64 b.d] 35)).alloc (.cells #[.int .i64 0, .slice none 0 0] 50) = w2 at XB YB OB HP BB ⊢
  have x0 := XB.out.cell (j := 0) (u := .int .i64 f) rfl
  have x1 := XB.out.cell (j := 1) (u := .slice (some ⟨ga, 0, none⟩) bs.length c) rfl
  have hzw := BB.out.size
  have hl2 : w.heap.size + 2 < w2.heap.size := OB.out.lt
  have hlE : 0 + bs.length ≤ 10000000 := by omega
  have Pa := Lib.hid (show PC w f (some ⟨ga, 0, none⟩) c bs b (w2.heap.size) (w2.alloc (.cells #[] 35)).drew from by
    have bw : Below w2.heap.size w2 (w2.alloc (.cells #[] 35)).drew := (allocB w2 _).drew
    exact ⟨Own.lit w2 #[] 0 hzw (by omega) (by simp), ((H0.out.below BB.out).below (bw.mono hzw)).row, XB.out.carry bw, YB.out.carry bw, OB.out.carry bw, next BB.out bw, by simp; omega, by omega⟩)
  have Pb := Lib.hid (show PC w f (some ⟨ga, 0, none⟩) c bs b (w2.heap.size) ((w2.alloc (.cells #[] 35)).alloc (.cells #[.int .i64 0, .slice none 0 0] 50)).drew from by
    have bw : Below w2.heap.size w2 ((w2.alloc (.cells #[] 35)).alloc (.cells #[.int .i64 0, .slice none 0 0] 50)).drew := (allocB2 w2 _ _).drew
    exact ⟨(Own.lit w2 #[] 0 hzw (by omega) (by simp)).alloc _, ((H0.out.below BB.out).below (bw.mono hzw)).row, XB.out.carry bw, YB.out.carry bw, OB.out.carry bw, next BB.out bw, by simp; omega, by omega⟩)
  have Zb := Lib.hid (show Box ((w2.alloc (.cells #[] 35)).alloc (.cells #[.int .i64 0, .slice none 0 0] 50)).drew (w2.heap.size + 1) 50 #[.int .i64 0, .slice none 0 0] from by have := Box.new (w2.alloc (.cells #[] 35)) #[.int .i64 0, .slice none 0 0] 50; simp at this; exact this)
  have Pc := Lib.hid (show PC w f (some ⟨ga, 0, none⟩) c bs b (w2.heap.size + 1) ((w2.alloc (.cells #[.int .i64 0, .slice none 0 0] 50)).alloc (.cells #[] 35)).drew from by
    have bw : Below w2.heap.size w2 ((w2.alloc (.cells #[.int .i64 0, .slice none 0 0] 50)).alloc (.cells #[] 35)).drew := (allocB2 w2 _ _).drew
    exact ⟨by have := Own.lit (base := w.heap.size) (e := 35) (size := 3) (w2.alloc (.cells #[.int .i64 0, .slice none 0 0] 50)) #[] 0 (by simp; omega) (by omega) (by simp); simp at this; exact this, ((H0.out.below BB.out).below (bw.mono hzw)).row, XB.out.carry bw, YB.out.carry bw, OB.out.carry bw, next BB.out bw, by simp; omega, by omega⟩)
  have Zc := Lib.hid (show Box ((w2.alloc (.cells #[.int .i64 0, .slice none 0 0] 50)).alloc (.cells #[] 35)).drew (w2.heap.size) 50 #[.int .i64 0, .slice none 0 0] from (Box.new w2 #[.int .i64 0, .slice none 0 0] 50).carry (allocB _ (.cells #[] 35)).drew)
  go_cut [6] (fun s6 wx => ∃ go g cap : Nat, s6 = .pointer (some ⟨go, 0, none⟩) ∧ PD w f (some ⟨ga, 0, none⟩) c bs b go g cap wx)
  case first =>
    have hS0 : w2.drew.cell? ⟨w.heap.size, 0, none⟩ = some (.int .i64 f) ∧ w2.drew.cell? ⟨w.heap.size, 1, none⟩ = some (.slice (some ⟨ga, 0, none⟩) bs.length c) := ⟨x0, x1⟩
    go_region_held3 (fun W => W.cell? ⟨w.heap.size, 0, none⟩ = some (.int .i64 f) ∧ W.cell? ⟨w.heap.size, 1, none⟩ = some (.slice (some ⟨ga, 0, none⟩) bs.length c)) (first | assumption | go_keep | exact set2 (by omega) (set2 (by omega) hS3))
      (first | ((refine stepAll elem_Vote (by omega) (by omega) (by rfl) (.tmp 10) (.tmp 12) (by rfl) _ w.heap.size _ 0 [] (by rfl) Pa.out.1 w.heap.size (some ⟨ga, 0, none⟩) bs.length c (cellsVote bs) (by rfl) (cellsVote_len bs) Pa.out.2.1 (cellsVote_one bs) hlE Pa.out.2.2.2.2.2.2.1 ?_; intro g cap w3 own3 hg3; have q3 := Lib.hid (Pa.out.after own3 hg3); have hS3 := q3.out.2; clear own3 hg3)) | ((refine stepAll elem_Vote (by omega) (by omega) (by rfl) (.tmp 10) (.tmp 12) (by rfl) _ w.heap.size _ 0 [] (by rfl) Pb.out.1 w.heap.size (some ⟨ga, 0, none⟩) bs.length c (cellsVote bs) (by rfl) (cellsVote_len bs) Pb.out.2.1 (cellsVote_one bs) hlE Pb.out.2.2.2.2.2.2.1 ?_; intro g cap w3 own3 hg3; have q3 := Lib.hid (Pb.out.after own3 hg3); have hS3 := q3.out.2; have z3 := Zb.out.grown hg3 (own_ne (by omega)); have z30 := z3.cell (j := 0) (u := .int .i64 0) rfl; have z31 := z3.cell (j := 1) (u := .slice none 0 0) rfl; have zf0 := z3.free 0; have zf1 := z3.free 1; have z4 := Lib.hid z3; clear z3; clear own3 hg3)) | ((refine stepAll elem_Vote (by omega) (by omega) (by rfl) (.tmp 10) (.tmp 12) (by rfl) _ w.heap.size _ 0 [] (by rfl) Pc.out.1 w.heap.size (some ⟨ga, 0, none⟩) bs.length c (cellsVote bs) (by rfl) (cellsVote_len bs) Pc.out.2.1 (cellsVote_one bs) hlE Pc.out.2.2.2.2.2.2.1 ?_; intro g cap w3 own3 hg3; have q3 := Lib.hid (Pc.out.after own3 hg3); have hS3 := q3.out.2; have z3 := Zc.out.grown hg3 (own_ne (by omega)); have z30 := z3.cell (j := 0) (u := .int .i64 0) rfl; have z31 := z3.cell (j := 1) (u := .slice none 0 0) rfl; have zf0 := z3.free 0; have zf1 := z3.free 1; have z4 := Lib.hid z3; clear z3; clear own3 hg3)))
    all_goals go_wp2_with fail
    all_goals go_meet
    · exact ⟨_, g, cap, rfl, q3.out.1.fin1⟩
    · exact ⟨_, g, cap, rfl, q3.out.1.fin2 z4.out (by omega)⟩
    · exact ⟨_, g, cap, rfl, q3.out.1.fin2 z4.out (by omega)⟩
  case rest =>
    obtain ⟨go, g, cap, rfl, hpd⟩ := hcut
    have D3 := Lib.hid hpd
    clear hpd x0 x1 Pa Pb Pc Zb Zc XB YB OB HP BB hzw hl2 hlE
    go_wp2_with fail
    go_loopw [7] (fun i wr => ∃ k : Nat, k ≤ bs.length ∧ i = .int .i64 k ∧ PD w f (some ⟨ga, 0, none⟩) c bs b go g cap wr) (fun i _ => bs.length - (intOf i).toNat)
    case atStart => exact ⟨0, Nat.zero_le _, rfl, D3.out⟩
    case round =>
      obtain ⟨k, hk, rfl, hpd⟩ := hrel
      have D4 := Lib.hid hpd
      clear hpd D3
      have x0 := D4.out.1.2.1.cell (j := 0) (u := .int .i64 f) rfl
      have x1 := D4.out.1.2.1.cell (j := 1) (u := .slice (some ⟨ga, 0, none⟩) bs.length c) rfl
      have y0 := D4.out.1.2.2.1.cell (j := 0) (u := .int .i64 b.r) rfl
      have y1 := D4.out.1.2.2.1.cell (j := 1) (u := .int .i64 b.a) rfl
      have y2 := D4.out.1.2.2.1.cell (j := 2) (u := .int .i64 b.d) rfl
      have hi0 : (0 : Int) ≤ (k : Int) := by omega
      by_cases hlt : k < bs.length
      · have hdk : decide (k < bs.length) = true := by simpa using hlt
        have hi1 : (k : Int) < (bs.length : Int) := by omega
        obtain ⟨l0, l1, l2⟩ := lst_at (H0.out.below D4.out.1.2.2.2.2) hlt
        obtain ⟨X, hx⟩ : ∃ X, nthVote bs k = X := ⟨_, rfl⟩
        rw [hx] at l0 l1 l2
        have HX := Lib.hid hx
        obtain ⟨q, hq⟩ : ∃ q, befB X b = q := ⟨_, rfl⟩
        have HQ := Lib.hid hq
        clear hq hx
        have gx1 := fun p : GrowOf wr => GrowOf.cell x1 p
        have gy0 := fun p : GrowOf wr => GrowOf.cell y0 p
        have gy1 := fun p : GrowOf wr => GrowOf.cell y1 p
        have gy2 := fun p : GrowOf wr => GrowOf.cell y2 p
        have gl0 := fun p : GrowOf wr => GrowOf.cell l0 p
        have gl1 := fun p : GrowOf wr => GrowOf.cell l1 p
        have gl2 := fun p : GrowOf wr => GrowOf.cell l2 p
        have T1 : Hid (∀ p : GrowOf wr, Calls Try.prog 78 #[.agg #[.int .i64 X.r, .int .i64 X.a, .int .i64 X.d], .agg #[.int .i64 b.r, .int .i64 b.a, .int .i64 b.d]] p.W fun e w' => e = .returned (.bool q) ∧ Below p.W.heap.size p.W w') := Lib.hid (fun p => by
          have h := s_l12Before X.r X.a X.d b.r b.a b.d p.W
          rw [show befB _ _ = q from HQ.out] at h; exact h)
        rcases hqv : q with _ | _
        · subst hqv
          go_wp2_with fail
          refine wp_region_grow (by kernel_rfl) (by kernel_rfl) ?_
          repeat (go_big_quiet_step (first | (go_at_call 78; with_reducible exact grow_below (T1.out _))))
          refine wpQuiet_nil ?_
          rintro _ ⟨pq, rfl⟩
          have D5 := Lib.hid (D4.out.carry pq.h)
          clear gx1 gy0 gy1 gy2 gl0 gl1 gl2 x0 x1 y0 y1 y2 l0 l1 l2 T1 HQ
          generalize pq.W = w5 at D5 ⊢
          clear pq
          have x0 := D5.out.1.2.1.cell (j := 0) (u := .int .i64 f) rfl
          have x1 := D5.out.1.2.1.cell (j := 1) (u := .slice (some ⟨ga, 0, none⟩) bs.length c) rfl
          have y0 := D5.out.1.2.2.1.cell (j := 0) (u := .int .i64 b.r) rfl
          have y1 := D5.out.1.2.2.1.cell (j := 1) (u := .int .i64 b.a) rfl
          have y2 := D5.out.1.2.2.1.cell (j := 2) (u := .int .i64 b.d) rfl

          obtain ⟨l0, l1, l2⟩ := lst_at (H0.out.below D5.out.1.2.2.2.2) hlt
          rw [HX.out] at l0 l1 l2
          obtain ⟨q, hq⟩ : ∃ q, befB b X = q := ⟨_, rfl⟩
          have HQ := Lib.hid hq
          clear hq
          have gx1 := fun p : GrowOf w5 => GrowOf.cell x1 p
          have gy0 := fun p : GrowOf w5 => GrowOf.cell y0 p
          have gy1 := fun p : GrowOf w5 => GrowOf.cell y1 p
          have gy2 := fun p : GrowOf w5 => GrowOf.cell y2 p
          have gl0 := fun p : GrowOf w5 => GrowOf.cell l0 p
          have gl1 := fun p : GrowOf w5 => GrowOf.cell l1 p
          have gl2 := fun p : GrowOf w5 => GrowOf.cell l2 p
          have T1 : Hid (∀ p : GrowOf w5, Calls Try.prog 78 #[.agg #[.int .i64 b.r, .int .i64 b.a, .int .i64 b.d], .agg #[.int .i64 X.r, .int .i64 X.a, .int .i64 X.d]] p.W fun e w' => e = .returned (.bool q) ∧ Below p.W.heap.size p.W w') := Lib.hid (fun p => by
            have h := s_l12Before b.r b.a b.d X.r X.a X.d p.W
            rw [show befB _ _ = q from HQ.out] at h; exact h)
          rcases hqv : q with _ | _
          · subst hqv
            go_wp2_with fail
            refine wp_region_grow (by kernel_rfl) (by kernel_rfl) ?_
            repeat (go_big_quiet_step (first | (go_at_call 78; with_reducible exact grow_below (T1.out _))))
            refine wpQuiet_nil ?_
            rintro _ ⟨pq, rfl⟩
            have D7 := Lib.hid (D5.out.carry pq.h)
            clear gx1 gy0 gy1 gy2 gl0 gl1 gl2 x0 x1 y0 y1 y2 l0 l1 l2 T1 HQ
            generalize pq.W = wc at D7 ⊢
            clear pq
            have x0 := D7.out.1.2.1.cell (j := 0) (u := .int .i64 f) rfl
            have x1 := D7.out.1.2.1.cell (j := 1) (u := .slice (some ⟨ga, 0, none⟩) bs.length c) rfl
            have y0 := D7.out.1.2.2.1.cell (j := 0) (u := .int .i64 b.r) rfl
            have y1 := D7.out.1.2.2.1.cell (j := 1) (u := .int .i64 b.a) rfl
            have y2 := D7.out.1.2.2.1.cell (j := 2) (u := .int .i64 b.d) rfl

            have k0 := D7.out.2.1.cell (j := 0) (u := .int .i64 f) rfl
            have k1 := D7.out.2.1.cell (j := 1) (u := .slice (some ⟨g, 0, none⟩) bs.length cap) rfl
            have o0 := D7.out.1.2.2.2.1.cell (j := 0) (u := .int .i64 0) rfl
            have o1 := D7.out.1.2.2.2.1.cell (j := 1) (u := .slice none 0 0) rfl
            have of0 := D7.out.1.2.2.2.1.free 0
            have of1 := D7.out.1.2.2.2.1.free 1
            obtain ⟨l0, l1, l2⟩ := lst_at (H0.out.below D7.out.1.2.2.2.2) hlt
            rw [HX.out] at l0 l1 l2
            have hga := lst_blk H0.out hlt
            have hgo := D7.out.2.2
            clear l0 l1
            go_wp2_with fail
            have hS0 : wc.drew.cell? ⟨w.heap.size, 1, none⟩ = some (.slice (some ⟨ga, 0, none⟩) bs.length c) ∧ wc.drew.cell? ⟨w.heap.size + 1, 2, none⟩ = some (.int .i64 b.d) ∧ wc.drew.cell? ⟨ga, k * 3 + 2, none⟩ = some (.int .i64 X.d) ∧ wc.drew.cell? ⟨go, 0, none⟩ = some (.int .i64 f) ∧ wc.drew.cell? ⟨go, 1, none⟩ = some (.slice (some ⟨g, 0, none⟩) bs.length cap) := ⟨x1, y2, l2, k0, k1⟩
            go_region_held3 (fun W => W.cell? ⟨w.heap.size, 1, none⟩ = some (.slice (some ⟨ga, 0, none⟩) bs.length c) ∧ W.cell? ⟨w.heap.size + 1, 2, none⟩ = some (.int .i64 b.d) ∧ W.cell? ⟨ga, k * 3 + 2, none⟩ = some (.int .i64 X.d) ∧ W.cell? ⟨go, 0, none⟩ = some (.int .i64 f) ∧ W.cell? ⟨go, 1, none⟩ = some (.slice (some ⟨g, 0, none⟩) bs.length cap)) (first | assumption | exact ⟨cell_oth2 (by omega) x1, cell_oth2 (by omega) y2, cell_oth2 (by omega) l2, cell_oth2 (by omega) k0, cell_oth2 (by omega) k1⟩ | go_keep) (first | fail)
            all_goals
              have hne := Own.ne_box D7.out.1.1 D7.out.1.2.2.2.1 (by decide)
              have hgo := D7.out.2.2
              go_wp2_with fail
              refine bodyPost_ret (v := .tuple #[.agg #[.int .i64 f, .slice (some ⟨g, 0, none⟩) bs.length cap], .bool (X.d == b.d)]) (by simp [results, Try.results125, go_sem, *]) rfl ⟨g, cap, bs, _, rfl, by omega, ?_, ?_⟩
              · exact Own.setOther (Own.setOther D7.out.1.1 hne) hne
              · exact ((D7.out.1.2.2.2.2.setCell (by show w.heap.size ≤ w.heap.size + 2; omega) _).setCell (by show w.heap.size ≤ w.heap.size + 2; omega) _).drew
          · subst hqv
            go_wp2_with fail
            refine wp_region_grow (by kernel_rfl) (by kernel_rfl) ?_
            repeat (go_big_quiet_step (first | (go_at_call 78; with_reducible exact grow_below (T1.out _))))
            refine wpQuiet_nil ?_
            rintro _ ⟨pq, rfl⟩
            have D7 := Lib.hid (D5.out.carry pq.h)
            clear gx1 gy0 gy1 gy2 gl0 gl1 gl2 x0 x1 y0 y1 y2 l0 l1 l2 T1 HQ
            generalize pq.W = wc at D7 ⊢
            clear pq
            have x0 := D7.out.1.2.1.cell (j := 0) (u := .int .i64 f) rfl
            have x1 := D7.out.1.2.1.cell (j := 1) (u := .slice (some ⟨ga, 0, none⟩) bs.length c) rfl
            have y0 := D7.out.1.2.2.1.cell (j := 0) (u := .int .i64 b.r) rfl
            have y1 := D7.out.1.2.2.1.cell (j := 1) (u := .int .i64 b.a) rfl
            have y2 := D7.out.1.2.2.1.cell (j := 2) (u := .int .i64 b.d) rfl

            have k0 := D7.out.2.1.cell (j := 0) (u := .int .i64 f) rfl
            have k1 := D7.out.2.1.cell (j := 1) (u := .slice (some ⟨g, 0, none⟩) bs.length cap) rfl
            have o0 := D7.out.1.2.2.2.1.cell (j := 0) (u := .int .i64 0) rfl
            have o1 := D7.out.1.2.2.2.1.cell (j := 1) (u := .slice none 0 0) rfl
            have of0 := D7.out.1.2.2.2.1.free 0
            have of1 := D7.out.1.2.2.2.1.free 1
            by_cases hr : b.r < f
            · have hne := Own.ne_box D7.out.1.1 D7.out.1.2.2.2.1 (by decide)
              have hgo := D7.out.2.2
              go_wp2_with fail
              refine bodyPost_ret (v := .tuple #[.agg #[.int .i64 f, .slice (some ⟨g, 0, none⟩) bs.length cap], .bool false]) (by simp [results, Try.results125, go_sem, *]) rfl ⟨g, cap, bs, _, rfl, by omega, ?_, ?_⟩
              · exact Own.setOther (Own.setOther D7.out.1.1 hne) hne
              · exact (D7.out.1.2.2.2.2.setCell (by show w.heap.size ≤ w.heap.size + 2; omega) _).setCell (by show w.heap.size ≤ w.heap.size + 2; omega) _
            by_cases h40 : 40 ≤ bs.length
            · have h40d : decide ((40 : Int) ≤ (bs.length : Int)) = true := by simp; omega
              have h40n : decide (40 ≤ bs.length) = true := by simp; omega
              have hne := Own.ne_box D7.out.1.1 D7.out.1.2.2.2.1 (by decide)
              have hgo := D7.out.2.2
              go_wp2_with fail
              refine bodyPost_ret (v := .tuple #[.agg #[.int .i64 f, .slice (some ⟨g, 0, none⟩) bs.length cap], .bool false]) (by simp [results, Try.results125, go_sem, *]) rfl ⟨g, cap, bs, _, rfl, by omega, ?_, ?_⟩
              · exact Own.setOther (Own.setOther D7.out.1.1 hne) hne
              · exact (D7.out.1.2.2.2.2.setCell (by show w.heap.size ≤ w.heap.size + 2; omega) _).setCell (by show w.heap.size ≤ w.heap.size + 2; omega) _
            have h40d : decide ((40 : Int) ≤ (bs.length : Int)) = false := by simp; omega
            have h40n : decide (40 ≤ bs.length) = false := by simp; omega
            have hgo := D7.out.2.2
            have hz3 : w.heap.size + 3 ≤ wc.heap.size := by have := D7.out.1.2.2.2.1.lt; omega
            have hHTL : (cellsVote (bs.take k)).length = k * 3 := by rw [cellsVote_len, List.length_take, Nat.min_eq_left hk]
            have HTL := Lib.hid hHTL
            have hHDL : (cellsVote (bs.drop k)).length = (bs.length - k) * 3 := by rw [cellsVote_len, List.length_drop]
            have HDL := Lib.hid hHDL
            clear hHTL hHDL
            have hl0 : w.heap.size < wc.heap.size := by omega
            have hl1 : w.heap.size + 1 < wc.heap.size := by omega
            have hlk : 0 + k ≤ 10000000 := by omega
            have hlk1 : k + 1 ≤ 10000000 := by omega
            have hlk2 : k + 1 + (bs.length - k) ≤ 10000000 := by omega
            have hk0 : (0 : Int) ≤ (k : Int) := by omega
            have hk1 : (k : Int) ≤ (c : Int) := by omega
            have hk2 : (k : Int) ≤ (bs.length : Int) := by omega
            have hk5 : (bs.length : Int) ≤ (c : Int) := by omega
            have bwa : Below wc.heap.size wc (wc.alloc (.cells #[] 35)).drew := (allocB wc _).drew
            have Qa := Lib.hid ((PB.of D7.out).carry bwa)
            have Ea := Lib.hid (show Own (wc.alloc (.cells #[] 35)).drew (w.heap.size + 3) 35 3 (.slice (some ⟨wc.heap.size, 0, none⟩) 0 0) 0 [] from Own.lit wc #[] 0 hz3 (by omega) (by simp))
            have Ta := Lib.hid (show Row (wc.alloc (.cells #[] 35)).drew w.heap.size (some ⟨ga, 0, none⟩) (cellsVote (bs.take k)) from (lst_take (H0.out.below Qa.out.2.2.2.2.1) k).row)
            have hza : w.heap.size + 3 ≤ (wc.alloc (.cells #[] 35)).drew.heap.size := by simp; omega
            clear bwa
            have bwb : Below wc.heap.size wc ((wc.alloc (.cells #[] 35)).alloc (.cells #[.int .i64 b.r, .int .i64 b.a, .int .i64 b.d] 35)).drew := (allocB2 wc _ _).drew
            have Qb := Lib.hid ((PB.of D7.out).carry bwb)
            have Eb := Lib.hid (show Own ((wc.alloc (.cells #[] 35)).alloc (.cells #[.int .i64 b.r, .int .i64 b.a, .int .i64 b.d] 35)).drew (w.heap.size + 3) 35 3 (.slice (some ⟨wc.heap.size, 0, none⟩) 0 0) 0 [] from (Own.lit wc #[] 0 hz3 (by omega) (by simp)).alloc _)
            have Tb := Lib.hid (show Row ((wc.alloc (.cells #[] 35)).alloc (.cells #[.int .i64 b.r, .int .i64 b.a, .int .i64 b.d] 35)).drew w.heap.size (some ⟨ga, 0, none⟩) (cellsVote (bs.take k)) from (lst_take (H0.out.below Qb.out.2.2.2.2.1) k).row)
            have hzb : w.heap.size + 3 ≤ ((wc.alloc (.cells #[] 35)).alloc (.cells #[.int .i64 b.r, .int .i64 b.a, .int .i64 b.d] 35)).drew.heap.size := by simp; omega
            clear bwb
            have Nb := Lib.hid (show Box ((wc.alloc (.cells #[] 35)).alloc (.cells #[.int .i64 b.r, .int .i64 b.a, .int .i64 b.d] 35)).drew (wc.heap.size + 1) 35 #[.int .i64 b.r, .int .i64 b.a, .int .i64 b.d] from (by have := Box.new (wc.alloc (.cells #[] 35)) #[.int .i64 b.r, .int .i64 b.a, .int .i64 b.d] 35; simp at this; exact this))
            have bwc : Below wc.heap.size wc ((wc.alloc (.cells #[.int .i64 b.r, .int .i64 b.a, .int .i64 b.d] 35)).alloc (.cells #[] 35)).drew := (allocB2 wc _ _).drew
            have Qc := Lib.hid ((PB.of D7.out).carry bwc)
            have Ec := Lib.hid (show Own ((wc.alloc (.cells #[.int .i64 b.r, .int .i64 b.a, .int .i64 b.d] 35)).alloc (.cells #[] 35)).drew (w.heap.size + 3) 35 3 (.slice (some ⟨wc.heap.size + 1, 0, none⟩) 0 0) 0 [] from (by have := Own.lit (base := w.heap.size + 3) (e := 35) (size := 3) (wc.alloc (.cells #[.int .i64 b.r, .int .i64 b.a, .int .i64 b.d] 35)) #[] 0 (by simp; omega) (by omega) (by simp); simp at this; exact this))
            have Tc := Lib.hid (show Row ((wc.alloc (.cells #[.int .i64 b.r, .int .i64 b.a, .int .i64 b.d] 35)).alloc (.cells #[] 35)).drew w.heap.size (some ⟨ga, 0, none⟩) (cellsVote (bs.take k)) from (lst_take (H0.out.below Qc.out.2.2.2.2.1) k).row)
            have hzc : w.heap.size + 3 ≤ ((wc.alloc (.cells #[.int .i64 b.r, .int .i64 b.a, .int .i64 b.d] 35)).alloc (.cells #[] 35)).drew.heap.size := by simp; omega
            clear bwc
            have Nc := Lib.hid (show Box ((wc.alloc (.cells #[.int .i64 b.r, .int .i64 b.a, .int .i64 b.d] 35)).alloc (.cells #[] 35)).drew (wc.heap.size) 35 #[.int .i64 b.r, .int .i64 b.a, .int .i64 b.d] from (Box.new wc #[.int .i64 b.r, .int .i64 b.a, .int .i64 b.d] 35).carry (allocB _ (.cells #[] 35)).drew)
            have hS0 : PS w (some ⟨ga, 0, none⟩) c bs b wc.drew := (PB.of D7.out).ps
            go_upto_region 9 with fail
            clear x0 x1 y0 y1 y2 k0 k1 o0 o1 of0 of1
            go_region_held3 (fun W => W.cell? ⟨w.heap.size, 1, none⟩ = some (.slice (some ⟨ga, 0, none⟩) bs.length c) ∧ W.cell? ⟨w.heap.size + 1, 0, none⟩ = some (.int .i64 b.r) ∧ W.cell? ⟨w.heap.size + 1, 1, none⟩ = some (.int .i64 b.a) ∧ W.cell? ⟨w.heap.size + 1, 2, none⟩ = some (.int .i64 b.d)) (first | assumption | exact Qa.out.ps | exact Qb.out.ps | exact Qc.out.ps | exact ((PB.of D7.out).carry (allocB wc _).drew).ps | exact hS4 | exact hS5 | exact hS6 | exact (q4.out.carry (allocB _ _)).ps | go_keep | exact PS.set hS6 (by omega))
              (first | ((refine stepAll elem_Vote (by omega) (by omega) (by rfl) (.tmp 68) (.tmp 72) (by rfl) _ (w.heap.size + 3) _ 0 [] (by rfl) Ea.out w.heap.size (some ⟨ga, 0, none⟩) k c (cellsVote (bs.take k)) (by rfl) HTL.out Ta.out (cellsVote_one _) hlk hza ?_; intro g4 cap4 w4 own4 hg4; try rw [Nat.zero_add k]; have q4 := Lib.hid (Qa.out.after Ea.out hg4); have hS4 : PS w (some ⟨ga, 0, none⟩) c bs b w4 := q4.out.ps; have O4 := Lib.hid (show Own w4 (w.heap.size + 3) 35 3 (.slice (some ⟨g4, 0, none⟩) k cap4) k (cellsVote (bs.take k)) from by simpa using own4); have hz4 : w.heap.size + 3 ≤ w4.heap.size := Nat.le_trans hza hg4.size; clear own4 hg4)) | ((refine stepAll elem_Vote (by omega) (by omega) (by rfl) (.tmp 68) (.tmp 72) (by rfl) _ (w.heap.size + 3) _ 0 [] (by rfl) Eb.out w.heap.size (some ⟨ga, 0, none⟩) k c (cellsVote (bs.take k)) (by rfl) HTL.out Tb.out (cellsVote_one _) hlk hzb ?_; intro g4 cap4 w4 own4 hg4; try rw [Nat.zero_add k]; have q4 := Lib.hid (Qb.out.after Eb.out hg4); have hS4 : PS w (some ⟨ga, 0, none⟩) c bs b w4 := q4.out.ps; have O4 := Lib.hid (show Own w4 (w.heap.size + 3) 35 3 (.slice (some ⟨g4, 0, none⟩) k cap4) k (cellsVote (bs.take k)) from by simpa using own4); have hz4 : w.heap.size + 3 ≤ w4.heap.size := Nat.le_trans hzb hg4.size; have n4 := Lib.hid (Nb.out.grown hg4 (own_ne (by omega))); clear own4 hg4)) | ((refine stepAll elem_Vote (by omega) (by omega) (by rfl) (.tmp 68) (.tmp 72) (by rfl) _ (w.heap.size + 3) _ 0 [] (by rfl) Ec.out w.heap.size (some ⟨ga, 0, none⟩) k c (cellsVote (bs.take k)) (by rfl) HTL.out Tc.out (cellsVote_one _) hlk hzc ?_; intro g4 cap4 w4 own4 hg4; try rw [Nat.zero_add k]; have q4 := Lib.hid (Qc.out.after Ec.out hg4); have hS4 : PS w (some ⟨ga, 0, none⟩) c bs b w4 := q4.out.ps; have O4 := Lib.hid (show Own w4 (w.heap.size + 3) 35 3 (.slice (some ⟨g4, 0, none⟩) k cap4) k (cellsVote (bs.take k)) from by simpa using own4); have hz4 : w.heap.size + 3 ≤ w4.heap.size := Nat.le_trans hzc hg4.size; have n4 := Lib.hid (Nc.out.grown hg4 (own_ne (by omega))); clear own4 hg4)) | ((refine stepAll elem_Vote (by omega) (by omega) (by rfl) (.tmp 73) (.tmp 75) (by rfl) _ (w.heap.size + 3) _ k (cellsVote (bs.take k)) (by rfl) (O4.out.alloc (.cells #[.int .i64 b.r, .int .i64 b.a, .int .i64 b.d] 35)) (w4.heap.size + 1) (some ⟨w4.heap.size, 0, none⟩) 1 1 b.cells (by rfl) rfl (row_of_box (Box.new w4 #[.int .i64 b.r, .int .i64 b.a, .int .i64 b.d] 35) (by omega)) (by simp [VVote.cells, Value.oneCell']) hlk1 (by simp; omega) ?_; intro g5 cap5 w5 own5 hg5; have q5 := Lib.hid ((q4.out.carry (allocB w4 (.cells #[.int .i64 b.r, .int .i64 b.a, .int .i64 b.d] 35))).after (O4.out.alloc (.cells #[.int .i64 b.r, .int .i64 b.a, .int .i64 b.d] 35)) hg5); have hS5 : PS w (some ⟨ga, 0, none⟩) c bs b w5 := q5.out.ps; have O5 := Lib.hid own5; have hz5 : w.heap.size + 3 ≤ w5.heap.size := (by have := hg5.size; simp at this; omega); clear own5 hg5)) | ((refine stepAll elem_Vote (by omega) (by omega) (by rfl) (.tmp 73) (.tmp 75) (by rfl) _ (w.heap.size + 3) _ k (cellsVote (bs.take k)) (by rfl) O4.out (wc.heap.size + 1 + 1) (some ⟨wc.heap.size + 1, 0, none⟩) 1 1 b.cells (by rfl) rfl (row_of_box n4.out (by omega)) (by simp [VVote.cells, Value.oneCell']) hlk1 hz4 ?_; intro g5 cap5 w5 own5 hg5; have q5 := Lib.hid (q4.out.after O4.out hg5); have hS5 : PS w (some ⟨ga, 0, none⟩) c bs b w5 := q5.out.ps; have O5 := Lib.hid own5; have hz5 : w.heap.size + 3 ≤ w5.heap.size := Nat.le_trans hz4 hg5.size; clear own5 hg5)) | ((refine stepAll elem_Vote (by omega) (by omega) (by rfl) (.tmp 73) (.tmp 75) (by rfl) _ (w.heap.size + 3) _ k (cellsVote (bs.take k)) (by rfl) O4.out (wc.heap.size + 1) (some ⟨wc.heap.size, 0, none⟩) 1 1 b.cells (by rfl) rfl (row_of_box n4.out (by omega)) (by simp [VVote.cells, Value.oneCell']) hlk1 hz4 ?_; intro g5 cap5 w5 own5 hg5; have q5 := Lib.hid (q4.out.after O4.out hg5); have hS5 : PS w (some ⟨ga, 0, none⟩) c bs b w5 := q5.out.ps; have O5 := Lib.hid own5; have hz5 : w.heap.size + 3 ≤ w5.heap.size := Nat.le_trans hz4 hg5.size; clear own5 hg5)) | ((refine stepAll elem_Vote (by omega) (by omega) (by rfl) (.tmp 76) (.tmp 80) (by rfl) _ (w.heap.size + 3) _ (k + 1) (cellsVote (bs.take k) ++ b.cells) (by rfl) O5.out w.heap.size _ (bs.length - k) (c - k) (cellsVote (bs.drop k)) (by rfl) HDL.out (row_drop (H0.out.below q5.out.2.2.2.2.1) k hc) (cellsVote_one _) hlk2 hz5 ?_; intro g6 cap6 w6 own6 hg6; have q6 := Lib.hid (q5.out.after O5.out hg6); have hS6 : PS w (some ⟨ga, 0, none⟩) c bs b w6 := q6.out.ps; have O6 := Lib.hid own6; have t6 := q6.out.2.2.2.1.cell (j := 1) (u := .slice (some ⟨g, 0, none⟩) bs.length cap) rfl; have tf6 := q6.out.2.2.2.1.free 1; clear own6 hg6)))
            all_goals
              have hq6 := q6.out
              have k0 := hq6.2.2.2.1.cell (j := 0) (u := .int .i64 f) rfl
              have o0 := hq6.2.2.1.cell (j := 0) (u := .int .i64 0) rfl
              have o1 := hq6.2.2.1.cell (j := 1) (u := .slice none 0 0) rfl
              have of0 := hq6.2.2.1.free 0
              have of1 := hq6.2.2.1.free 1
              clear hq6
              have hneg := Own.ne_box O6.out q6.out.2.2.2.1 (by decide)
              have hneo := Own.base_le O6.out g6 rfl
              have hfl : k + 1 + (bs.length - k) = (bs.take k ++ b :: bs.drop k).length := by rw [List.length_append, List.length_cons, List.length_take, List.length_drop]; omega
              have HFL := Lib.hid hfl
              clear hfl
              go_wp2_with fail
              all_goals
                refine bodyPost_ret (v := .tuple #[.agg #[.int .i64 f, .slice (some ⟨g6, 0, none⟩) (k + 1 + (bs.length - k)) cap6], .bool true]) (by simp [results, Try.results125, go_sem, *]) rfl ⟨g6, cap6, bs.take k ++ b :: bs.drop k, true, by rw [← HFL.out], by rw [← HFL.out]; omega, ?_, ?_⟩
                · have h6 := O6.out
                  rw [HFL.out, cells_ins] at h6
                  have hne2 : g6 ≠ w.heap.size + 2 := by omega
                  exact Own.setOther (Own.setOther (Own.setOther (h6.lower (by omega)) hneg) hne2) hne2
                · exact ((q6.out.2.2.2.2.1.setCell (by show w.heap.size ≤ go; omega) _).setCell (by show w.heap.size ≤ w.heap.size + 2; omega) _).setCell (by show w.heap.size ≤ w.heap.size + 2; omega) _
        · subst hqv
          go_wp2_with fail
          refine wp_region_grow (by kernel_rfl) (by kernel_rfl) ?_
          repeat (go_big_quiet_step (first | (go_at_call 78; with_reducible exact grow_below (T1.out _))))
          refine wpQuiet_nil ?_
          rintro _ ⟨pq, rfl⟩
          have D5 := Lib.hid (D4.out.carry pq.h)
          clear gx1 gy0 gy1 gy2 gl0 gl1 gl2 x0 x1 y0 y1 y2 l0 l1 l2 T1
          go_wp2_with fail
          go_roundw
          case rel => exact ⟨k + 1, by omega, by go_num, D5.out⟩
          case measure => simp [intOf]; omega
      · have hdk : decide (k < bs.length) = false := by simpa using hlt
        have gx1 := fun p : GrowOf wr => GrowOf.cell x1 p
        go_wp2_with fail
        refine wp_region_grow (by kernel_rfl) (by kernel_rfl) ?_
        repeat (go_big_quiet_step (fail))
        refine wpQuiet_nil ?_
        rintro _ ⟨pq, rfl⟩
        have D5 := Lib.hid (D4.out.carry pq.h)
        clear gx1 x0 x1 y0 y1 y2
        generalize pq.W = w5 at D5 ⊢
        clear pq
        have x0 := D5.out.1.2.1.cell (j := 0) (u := .int .i64 f) rfl
        have x1 := D5.out.1.2.1.cell (j := 1) (u := .slice (some ⟨ga, 0, none⟩) bs.length c) rfl
        have y0 := D5.out.1.2.2.1.cell (j := 0) (u := .int .i64 b.r) rfl
        have y1 := D5.out.1.2.2.1.cell (j := 1) (u := .int .i64 b.a) rfl
        have y2 := D5.out.1.2.2.1.cell (j := 2) (u := .int .i64 b.d) rfl

        have gx1 := fun p : GrowOf w5 => GrowOf.cell x1 p
        go_wp2_with fail
        refine wp_region_grow (by kernel_rfl) (by kernel_rfl) ?_
        repeat (go_big_quiet_step (fail))
        refine wpQuiet_nil ?_
        rintro _ ⟨pq, rfl⟩
        have D7 := Lib.hid (D5.out.carry pq.h)
        clear gx1 x0 x1 y0 y1 y2
        generalize pq.W = wc at D7 ⊢
        clear pq
        have x0 := D7.out.1.2.1.cell (j := 0) (u := .int .i64 f) rfl
        have x1 := D7.out.1.2.1.cell (j := 1) (u := .slice (some ⟨ga, 0, none⟩) bs.length c) rfl
        have y0 := D7.out.1.2.2.1.cell (j := 0) (u := .int .i64 b.r) rfl
        have y1 := D7.out.1.2.2.1.cell (j := 1) (u := .int .i64 b.a) rfl
        have y2 := D7.out.1.2.2.1.cell (j := 2) (u := .int .i64 b.d) rfl

        have k0 := D7.out.2.1.cell (j := 0) (u := .int .i64 f) rfl
        have k1 := D7.out.2.1.cell (j := 1) (u := .slice (some ⟨g, 0, none⟩) bs.length cap) rfl
        have o0 := D7.out.1.2.2.2.1.cell (j := 0) (u := .int .i64 0) rfl
        have o1 := D7.out.1.2.2.2.1.cell (j := 1) (u := .slice none 0 0) rfl
        have of0 := D7.out.1.2.2.2.1.free 0
        have of1 := D7.out.1.2.2.2.1.free 1
        by_cases hr : b.r < f
        · have hne := Own.ne_box D7.out.1.1 D7.out.1.2.2.2.1 (by decide)
          have hgo := D7.out.2.2
          go_wp2_with fail
          refine bodyPost_ret (v := .tuple #[.agg #[.int .i64 f, .slice (some ⟨g, 0, none⟩) bs.length cap], .bool false]) (by simp [results, Try.results125, go_sem, *]) rfl ⟨g, cap, bs, _, rfl, by omega, ?_, ?_⟩
          · exact Own.setOther (Own.setOther D7.out.1.1 hne) hne
          · exact (D7.out.1.2.2.2.2.setCell (by show w.heap.size ≤ w.heap.size + 2; omega) _).setCell (by show w.heap.size ≤ w.heap.size + 2; omega) _
        by_cases h40 : 40 ≤ bs.length
        · have h40d : decide ((40 : Int) ≤ (bs.length : Int)) = true := by simp; omega
          have h40n : decide (40 ≤ bs.length) = true := by simp; omega
          have hne := Own.ne_box D7.out.1.1 D7.out.1.2.2.2.1 (by decide)
          have hgo := D7.out.2.2
          go_wp2_with fail
          refine bodyPost_ret (v := .tuple #[.agg #[.int .i64 f, .slice (some ⟨g, 0, none⟩) bs.length cap], .bool false]) (by simp [results, Try.results125, go_sem, *]) rfl ⟨g, cap, bs, _, rfl, by omega, ?_, ?_⟩
          · exact Own.setOther (Own.setOther D7.out.1.1 hne) hne
          · exact (D7.out.1.2.2.2.2.setCell (by show w.heap.size ≤ w.heap.size + 2; omega) _).setCell (by show w.heap.size ≤ w.heap.size + 2; omega) _
        have h40d : decide ((40 : Int) ≤ (bs.length : Int)) = false := by simp; omega
        have h40n : decide (40 ≤ bs.length) = false := by simp; omega
        have hgo := D7.out.2.2
        have hz3 : w.heap.size + 3 ≤ wc.heap.size := by have := D7.out.1.2.2.2.1.lt; omega
        have hHTL : (cellsVote (bs.take k)).length = k * 3 := by rw [cellsVote_len, List.length_take, Nat.min_eq_left hk]
        have HTL := Lib.hid hHTL
        have hHDL : (cellsVote (bs.drop k)).length = (bs.length - k) * 3 := by rw [cellsVote_len, List.length_drop]
        have HDL := Lib.hid hHDL
        clear hHTL hHDL
        have hl0 : w.heap.size < wc.heap.size := by omega
        have hl1 : w.heap.size + 1 < wc.heap.size := by omega
        have hlk : 0 + k ≤ 10000000 := by omega
        have hlk1 : k + 1 ≤ 10000000 := by omega
        have hlk2 : k + 1 + (bs.length - k) ≤ 10000000 := by omega
        have hk0 : (0 : Int) ≤ (k : Int) := by omega
        have hk1 : (k : Int) ≤ (c : Int) := by omega
        have hk2 : (k : Int) ≤ (bs.length : Int) := by omega
        have hk5 : (bs.length : Int) ≤ (c : Int) := by omega
        have bwa : Below wc.heap.size wc (wc.alloc (.cells #[] 35)).drew := (allocB wc _).drew
        have Qa := Lib.hid ((PB.of D7.out).carry bwa)
        have Ea := Lib.hid (show Own (wc.alloc (.cells #[] 35)).drew (w.heap.size + 3) 35 3 (.slice (some ⟨wc.heap.size, 0, none⟩) 0 0) 0 [] from Own.lit wc #[] 0 hz3 (by omega) (by simp))
        have Ta := Lib.hid (show Row (wc.alloc (.cells #[] 35)).drew w.heap.size (some ⟨ga, 0, none⟩) (cellsVote (bs.take k)) from (lst_take (H0.out.below Qa.out.2.2.2.2.1) k).row)
        have hza : w.heap.size + 3 ≤ (wc.alloc (.cells #[] 35)).drew.heap.size := by simp; omega
        clear bwa
        have bwb : Below wc.heap.size wc ((wc.alloc (.cells #[] 35)).alloc (.cells #[.int .i64 b.r, .int .i64 b.a, .int .i64 b.d] 35)).drew := (allocB2 wc _ _).drew
        have Qb := Lib.hid ((PB.of D7.out).carry bwb)
        have Eb := Lib.hid (show Own ((wc.alloc (.cells #[] 35)).alloc (.cells #[.int .i64 b.r, .int .i64 b.a, .int .i64 b.d] 35)).drew (w.heap.size + 3) 35 3 (.slice (some ⟨wc.heap.size, 0, none⟩) 0 0) 0 [] from (Own.lit wc #[] 0 hz3 (by omega) (by simp)).alloc _)
        have Tb := Lib.hid (show Row ((wc.alloc (.cells #[] 35)).alloc (.cells #[.int .i64 b.r, .int .i64 b.a, .int .i64 b.d] 35)).drew w.heap.size (some ⟨ga, 0, none⟩) (cellsVote (bs.take k)) from (lst_take (H0.out.below Qb.out.2.2.2.2.1) k).row)
        have hzb : w.heap.size + 3 ≤ ((wc.alloc (.cells #[] 35)).alloc (.cells #[.int .i64 b.r, .int .i64 b.a, .int .i64 b.d] 35)).drew.heap.size := by simp; omega
        clear bwb
        have Nb := Lib.hid (show Box ((wc.alloc (.cells #[] 35)).alloc (.cells #[.int .i64 b.r, .int .i64 b.a, .int .i64 b.d] 35)).drew (wc.heap.size + 1) 35 #[.int .i64 b.r, .int .i64 b.a, .int .i64 b.d] from (by have := Box.new (wc.alloc (.cells #[] 35)) #[.int .i64 b.r, .int .i64 b.a, .int .i64 b.d] 35; simp at this; exact this))
        have bwc : Below wc.heap.size wc ((wc.alloc (.cells #[.int .i64 b.r, .int .i64 b.a, .int .i64 b.d] 35)).alloc (.cells #[] 35)).drew := (allocB2 wc _ _).drew
        have Qc := Lib.hid ((PB.of D7.out).carry bwc)
        have Ec := Lib.hid (show Own ((wc.alloc (.cells #[.int .i64 b.r, .int .i64 b.a, .int .i64 b.d] 35)).alloc (.cells #[] 35)).drew (w.heap.size + 3) 35 3 (.slice (some ⟨wc.heap.size + 1, 0, none⟩) 0 0) 0 [] from (by have := Own.lit (base := w.heap.size + 3) (e := 35) (size := 3) (wc.alloc (.cells #[.int .i64 b.r, .int .i64 b.a, .int .i64 b.d] 35)) #[] 0 (by simp; omega) (by omega) (by simp); simp at this; exact this))
        have Tc := Lib.hid (show Row ((wc.alloc (.cells #[.int .i64 b.r, .int .i64 b.a, .int .i64 b.d] 35)).alloc (.cells #[] 35)).drew w.heap.size (some ⟨ga, 0, none⟩) (cellsVote (bs.take k)) from (lst_take (H0.out.below Qc.out.2.2.2.2.1) k).row)
        have hzc : w.heap.size + 3 ≤ ((wc.alloc (.cells #[.int .i64 b.r, .int .i64 b.a, .int .i64 b.d] 35)).alloc (.cells #[] 35)).drew.heap.size := by simp; omega
        clear bwc
        have Nc := Lib.hid (show Box ((wc.alloc (.cells #[.int .i64 b.r, .int .i64 b.a, .int .i64 b.d] 35)).alloc (.cells #[] 35)).drew (wc.heap.size) 35 #[.int .i64 b.r, .int .i64 b.a, .int .i64 b.d] from (Box.new wc #[.int .i64 b.r, .int .i64 b.a, .int .i64 b.d] 35).carry (allocB _ (.cells #[] 35)).drew)
        have hS0 : PS w (some ⟨ga, 0, none⟩) c bs b wc.drew := (PB.of D7.out).ps
        go_upto_region 9 with fail
        clear x0 x1 y0 y1 y2 k0 k1 o0 o1 of0 of1
        go_region_held3 (fun W => W.cell? ⟨w.heap.size, 1, none⟩ = some (.slice (some ⟨ga, 0, none⟩) bs.length c) ∧ W.cell? ⟨w.heap.size + 1, 0, none⟩ = some (.int .i64 b.r) ∧ W.cell? ⟨w.heap.size + 1, 1, none⟩ = some (.int .i64 b.a) ∧ W.cell? ⟨w.heap.size + 1, 2, none⟩ = some (.int .i64 b.d)) (first | assumption | exact Qa.out.ps | exact Qb.out.ps | exact Qc.out.ps | exact ((PB.of D7.out).carry (allocB wc _).drew).ps | exact hS4 | exact hS5 | exact hS6 | exact (q4.out.carry (allocB _ _)).ps | go_keep | exact PS.set hS6 (by omega))
          (first | ((refine stepAll elem_Vote (by omega) (by omega) (by rfl) (.tmp 68) (.tmp 72) (by rfl) _ (w.heap.size + 3) _ 0 [] (by rfl) Ea.out w.heap.size (some ⟨ga, 0, none⟩) k c (cellsVote (bs.take k)) (by rfl) HTL.out Ta.out (cellsVote_one _) hlk hza ?_; intro g4 cap4 w4 own4 hg4; try rw [Nat.zero_add k]; have q4 := Lib.hid (Qa.out.after Ea.out hg4); have hS4 : PS w (some ⟨ga, 0, none⟩) c bs b w4 := q4.out.ps; have O4 := Lib.hid (show Own w4 (w.heap.size + 3) 35 3 (.slice (some ⟨g4, 0, none⟩) k cap4) k (cellsVote (bs.take k)) from by simpa using own4); have hz4 : w.heap.size + 3 ≤ w4.heap.size := Nat.le_trans hza hg4.size; clear own4 hg4)) | ((refine stepAll elem_Vote (by omega) (by omega) (by rfl) (.tmp 68) (.tmp 72) (by rfl) _ (w.heap.size + 3) _ 0 [] (by rfl) Eb.out w.heap.size (some ⟨ga, 0, none⟩) k c (cellsVote (bs.take k)) (by rfl) HTL.out Tb.out (cellsVote_one _) hlk hzb ?_; intro g4 cap4 w4 own4 hg4; try rw [Nat.zero_add k]; have q4 := Lib.hid (Qb.out.after Eb.out hg4); have hS4 : PS w (some ⟨ga, 0, none⟩) c bs b w4 := q4.out.ps; have O4 := Lib.hid (show Own w4 (w.heap.size + 3) 35 3 (.slice (some ⟨g4, 0, none⟩) k cap4) k (cellsVote (bs.take k)) from by simpa using own4); have hz4 : w.heap.size + 3 ≤ w4.heap.size := Nat.le_trans hzb hg4.size; have n4 := Lib.hid (Nb.out.grown hg4 (own_ne (by omega))); clear own4 hg4)) | ((refine stepAll elem_Vote (by omega) (by omega) (by rfl) (.tmp 68) (.tmp 72) (by rfl) _ (w.heap.size + 3) _ 0 [] (by rfl) Ec.out w.heap.size (some ⟨ga, 0, none⟩) k c (cellsVote (bs.take k)) (by rfl) HTL.out Tc.out (cellsVote_one _) hlk hzc ?_; intro g4 cap4 w4 own4 hg4; try rw [Nat.zero_add k]; have q4 := Lib.hid (Qc.out.after Ec.out hg4); have hS4 : PS w (some ⟨ga, 0, none⟩) c bs b w4 := q4.out.ps; have O4 := Lib.hid (show Own w4 (w.heap.size + 3) 35 3 (.slice (some ⟨g4, 0, none⟩) k cap4) k (cellsVote (bs.take k)) from by simpa using own4); have hz4 : w.heap.size + 3 ≤ w4.heap.size := Nat.le_trans hzc hg4.size; have n4 := Lib.hid (Nc.out.grown hg4 (own_ne (by omega))); clear own4 hg4)) | ((refine stepAll elem_Vote (by omega) (by omega) (by rfl) (.tmp 73) (.tmp 75) (by rfl) _ (w.heap.size + 3) _ k (cellsVote (bs.take k)) (by rfl) (O4.out.alloc (.cells #[.int .i64 b.r, .int .i64 b.a, .int .i64 b.d] 35)) (w4.heap.size + 1) (some ⟨w4.heap.size, 0, none⟩) 1 1 b.cells (by rfl) rfl (row_of_box (Box.new w4 #[.int .i64 b.r, .int .i64 b.a, .int .i64 b.d] 35) (by omega)) (by simp [VVote.cells, Value.oneCell']) hlk1 (by simp; omega) ?_; intro g5 cap5 w5 own5 hg5; have q5 := Lib.hid ((q4.out.carry (allocB w4 (.cells #[.int .i64 b.r, .int .i64 b.a, .int .i64 b.d] 35))).after (O4.out.alloc (.cells #[.int .i64 b.r, .int .i64 b.a, .int .i64 b.d] 35)) hg5); have hS5 : PS w (some ⟨ga, 0, none⟩) c bs b w5 := q5.out.ps; have O5 := Lib.hid own5; have hz5 : w.heap.size + 3 ≤ w5.heap.size := (by have := hg5.size; simp at this; omega); clear own5 hg5)) | ((refine stepAll elem_Vote (by omega) (by omega) (by rfl) (.tmp 73) (.tmp 75) (by rfl) _ (w.heap.size + 3) _ k (cellsVote (bs.take k)) (by rfl) O4.out (wc.heap.size + 1 + 1) (some ⟨wc.heap.size + 1, 0, none⟩) 1 1 b.cells (by rfl) rfl (row_of_box n4.out (by omega)) (by simp [VVote.cells, Value.oneCell']) hlk1 hz4 ?_; intro g5 cap5 w5 own5 hg5; have q5 := Lib.hid (q4.out.after O4.out hg5); have hS5 : PS w (some ⟨ga, 0, none⟩) c bs b w5 := q5.out.ps; have O5 := Lib.hid own5; have hz5 : w.heap.size + 3 ≤ w5.heap.size := Nat.le_trans hz4 hg5.size; clear own5 hg5)) | ((refine stepAll elem_Vote (by omega) (by omega) (by rfl) (.tmp 73) (.tmp 75) (by rfl) _ (w.heap.size + 3) _ k (cellsVote (bs.take k)) (by rfl) O4.out (wc.heap.size + 1) (some ⟨wc.heap.size, 0, none⟩) 1 1 b.cells (by rfl) rfl (row_of_box n4.out (by omega)) (by simp [VVote.cells, Value.oneCell']) hlk1 hz4 ?_; intro g5 cap5 w5 own5 hg5; have q5 := Lib.hid (q4.out.after O4.out hg5); have hS5 : PS w (some ⟨ga, 0, none⟩) c bs b w5 := q5.out.ps; have O5 := Lib.hid own5; have hz5 : w.heap.size + 3 ≤ w5.heap.size := Nat.le_trans hz4 hg5.size; clear own5 hg5)) | ((refine stepAll elem_Vote (by omega) (by omega) (by rfl) (.tmp 76) (.tmp 80) (by rfl) _ (w.heap.size + 3) _ (k + 1) (cellsVote (bs.take k) ++ b.cells) (by rfl) O5.out w.heap.size _ (bs.length - k) (c - k) (cellsVote (bs.drop k)) (by rfl) HDL.out (row_drop (H0.out.below q5.out.2.2.2.2.1) k hc) (cellsVote_one _) hlk2 hz5 ?_; intro g6 cap6 w6 own6 hg6; have q6 := Lib.hid (q5.out.after O5.out hg6); have hS6 : PS w (some ⟨ga, 0, none⟩) c bs b w6 := q6.out.ps; have O6 := Lib.hid own6; have t6 := q6.out.2.2.2.1.cell (j := 1) (u := .slice (some ⟨g, 0, none⟩) bs.length cap) rfl; have tf6 := q6.out.2.2.2.1.free 1; clear own6 hg6)))
        all_goals
          have hq6 := q6.out
          have k0 := hq6.2.2.2.1.cell (j := 0) (u := .int .i64 f) rfl
          have o0 := hq6.2.2.1.cell (j := 0) (u := .int .i64 0) rfl
          have o1 := hq6.2.2.1.cell (j := 1) (u := .slice none 0 0) rfl
          have of0 := hq6.2.2.1.free 0
          have of1 := hq6.2.2.1.free 1
          clear hq6
          have hneg := Own.ne_box O6.out q6.out.2.2.2.1 (by decide)
          have hneo := Own.base_le O6.out g6 rfl
          have hfl : k + 1 + (bs.length - k) = (bs.take k ++ b :: bs.drop k).length := by rw [List.length_append, List.length_cons, List.length_take, List.length_drop]; omega
          have HFL := Lib.hid hfl
          clear hfl
          go_wp2_with fail
          all_goals
            refine bodyPost_ret (v := .tuple #[.agg #[.int .i64 f, .slice (some ⟨g6, 0, none⟩) (k + 1 + (bs.length - k)) cap6], .bool true]) (by simp [results, Try.results125, go_sem, *]) rfl ⟨g6, cap6, bs.take k ++ b :: bs.drop k, true, by rw [← HFL.out], by rw [← HFL.out]; omega, ?_, ?_⟩
            · have h6 := O6.out
              rw [HFL.out, cells_ins] at h6
              have hne2 : g6 ≠ w.heap.size + 2 := by omega
              exact Own.setOther (Own.setOther (Own.setOther (h6.lower (by omega)) hneg) hne2) hne2
            · exact ((q6.out.2.2.2.2.1.setCell (by show w.heap.size ≤ go; omega) _).setCell (by show w.heap.size ≤ w.heap.size + 2; omega) _).setCell (by show w.heap.size ≤ w.heap.size + 2; omega) _
set_option maxHeartbeats 16000000 in
set_option maxRecDepth 100000 in
theorem s_l12Sign_nil (f : Int) (b : VVote) (w : World) :
    Calls Try.prog 125 #[.agg #[.int .i64 f, .slice none 0 0], .agg #[.int .i64 b.r, .int .i64 b.a, .int .i64 b.d]] w (SignR w f []) := by
  have h : LstVote w w.heap.size none [] := fun h => absurd rfl h
  have ba := allocB3 w (.cells #[.int .i64 f, .slice none 0 0] 50) (.cells #[.int .i64 b.r, .int .i64 b.a, .int .i64 b.d] 35) (.cells #[.int .i64 0, .slice none 0 0] 50)
  have XB := Lib.hid (((Box.new w #[.int .i64 f, .slice none 0 0] 50).carry (allocB _ (.cells #[.int .i64 b.r, .int .i64 b.a, .int .i64 b.d] 35))).carry (allocB _ (.cells #[.int .i64 0, .slice none 0 0] 50)))
  have YB := Lib.hid (show Box (((w.alloc (.cells #[.int .i64 f, .slice none 0 0] 50)).alloc (.cells #[.int .i64 b.r, .int .i64 b.a, .int .i64 b.d] 35)).alloc (.cells #[.int .i64 0, .slice none 0 0] 50)) (w.heap.size + 1) 35 #[.int .i64 b.r, .int .i64 b.a, .int .i64 b.d] from by
    have := (Box.new (w.alloc (.cells #[.int .i64 f, .slice none 0 0] 50)) #[.int .i64 b.r, .int .i64 b.a, .int .i64 b.d] 35).carry (allocB _ (.cells #[.int .i64 0, .slice none 0 0] 50))
    simpa using this)
  have OB := Lib.hid (show Box (((w.alloc (.cells #[.int .i64 f, .slice none 0 0] 50)).alloc (.cells #[.int .i64 b.r, .int .i64 b.a, .int .i64 b.d] 35)).alloc (.cells #[.int .i64 0, .slice none 0 0] 50)) (w.heap.size + 2) 50 #[.int .i64 0, .slice none 0 0] from by
    have := Box.new ((w.alloc (.cells #[.int .i64 f, .slice none 0 0] 50)).alloc (.cells #[.int .i64 b.r, .int .i64 b.a, .int .i64 b.d] 35)) #[.int .i64 0, .slice none 0 0] 50
    simpa using this)
  have H0 := Lib.hid h
  have HP := Lib.hid (h.carry ba)
  have BB := Lib.hid ba
  clear h ba
  go_enter Try.func125, Try.ntmps125
  go_upto_region 1 with fail
  generalize ((w.alloc (.cells #[.int .i64 f, .slice none 0 0] 50)).alloc (.cells #[.int .i64 b.r, .int .i64 b.a, .int .i64 b.d] 35)).alloc (.cells #[.int .i64 0, .slice none 0 0] 50) = w2 at XB YB OB HP BB ⊢
  have x0 := XB.out.cell (j := 0) (u := .int .i64 f) rfl
  have x1 := XB.out.cell (j := 1) (u := .slice none 0 0) rfl
  have hzw := BB.out.size
  have hl2 : w.heap.size + 2 < w2.heap.size := OB.out.lt
  have hlE : 0 + 0 ≤ 10000000 := by omega
  have Pa := Lib.hid (show PC w f none 0 [] b (w2.heap.size) (w2.alloc (.cells #[] 35)).drew from by
    have bw : Below w2.heap.size w2 (w2.alloc (.cells #[] 35)).drew := (allocB w2 _).drew
    exact ⟨Own.lit w2 #[] 0 hzw (by omega) (by simp), ((H0.out.below BB.out).below (bw.mono hzw)).row, XB.out.carry bw, YB.out.carry bw, OB.out.carry bw, next BB.out bw, by simp; omega, by omega⟩)
  have Pb := Lib.hid (show PC w f none 0 [] b (w2.heap.size) ((w2.alloc (.cells #[] 35)).alloc (.cells #[.int .i64 0, .slice none 0 0] 50)).drew from by
    have bw : Below w2.heap.size w2 ((w2.alloc (.cells #[] 35)).alloc (.cells #[.int .i64 0, .slice none 0 0] 50)).drew := (allocB2 w2 _ _).drew
    exact ⟨(Own.lit w2 #[] 0 hzw (by omega) (by simp)).alloc _, ((H0.out.below BB.out).below (bw.mono hzw)).row, XB.out.carry bw, YB.out.carry bw, OB.out.carry bw, next BB.out bw, by simp; omega, by omega⟩)
  have Zb := Lib.hid (show Box ((w2.alloc (.cells #[] 35)).alloc (.cells #[.int .i64 0, .slice none 0 0] 50)).drew (w2.heap.size + 1) 50 #[.int .i64 0, .slice none 0 0] from by have := Box.new (w2.alloc (.cells #[] 35)) #[.int .i64 0, .slice none 0 0] 50; simp at this; exact this)
  have Pc := Lib.hid (show PC w f none 0 [] b (w2.heap.size + 1) ((w2.alloc (.cells #[.int .i64 0, .slice none 0 0] 50)).alloc (.cells #[] 35)).drew from by
    have bw : Below w2.heap.size w2 ((w2.alloc (.cells #[.int .i64 0, .slice none 0 0] 50)).alloc (.cells #[] 35)).drew := (allocB2 w2 _ _).drew
    exact ⟨by have := Own.lit (base := w.heap.size) (e := 35) (size := 3) (w2.alloc (.cells #[.int .i64 0, .slice none 0 0] 50)) #[] 0 (by simp; omega) (by omega) (by simp); simp at this; exact this, ((H0.out.below BB.out).below (bw.mono hzw)).row, XB.out.carry bw, YB.out.carry bw, OB.out.carry bw, next BB.out bw, by simp; omega, by omega⟩)
  have Zc := Lib.hid (show Box ((w2.alloc (.cells #[.int .i64 0, .slice none 0 0] 50)).alloc (.cells #[] 35)).drew (w2.heap.size) 50 #[.int .i64 0, .slice none 0 0] from (Box.new w2 #[.int .i64 0, .slice none 0 0] 50).carry (allocB _ (.cells #[] 35)).drew)
  go_cut [6] (fun s6 wx => ∃ go g cap : Nat, s6 = .pointer (some ⟨go, 0, none⟩) ∧ PD w f none 0 [] b go g cap wx)
  case first =>
    have hS0 : w2.drew.cell? ⟨w.heap.size, 0, none⟩ = some (.int .i64 f) ∧ w2.drew.cell? ⟨w.heap.size, 1, none⟩ = some (.slice none 0 0) := ⟨x0, x1⟩
    go_region_held3 (fun W => W.cell? ⟨w.heap.size, 0, none⟩ = some (.int .i64 f) ∧ W.cell? ⟨w.heap.size, 1, none⟩ = some (.slice none 0 0)) (first | assumption | go_keep | exact set2 (by omega) (set2 (by omega) hS3))
      (first | ((refine stepAll elem_Vote (by omega) (by omega) (by rfl) (.tmp 10) (.tmp 12) (by rfl) _ w.heap.size _ 0 [] (by rfl) Pa.out.1 w.heap.size none 0 0 (cellsVote []) (by rfl) (cellsVote_len []) Pa.out.2.1 (cellsVote_one []) hlE Pa.out.2.2.2.2.2.2.1 ?_; intro g cap w3 own3 hg3; have q3 := Lib.hid (Pa.out.after own3 hg3); have hS3 := q3.out.2; clear own3 hg3)) | ((refine stepAll elem_Vote (by omega) (by omega) (by rfl) (.tmp 10) (.tmp 12) (by rfl) _ w.heap.size _ 0 [] (by rfl) Pb.out.1 w.heap.size none 0 0 (cellsVote []) (by rfl) (cellsVote_len []) Pb.out.2.1 (cellsVote_one []) hlE Pb.out.2.2.2.2.2.2.1 ?_; intro g cap w3 own3 hg3; have q3 := Lib.hid (Pb.out.after own3 hg3); have hS3 := q3.out.2; have z3 := Zb.out.grown hg3 (own_ne (by omega)); have z30 := z3.cell (j := 0) (u := .int .i64 0) rfl; have z31 := z3.cell (j := 1) (u := .slice none 0 0) rfl; have zf0 := z3.free 0; have zf1 := z3.free 1; have z4 := Lib.hid z3; clear z3; clear own3 hg3)) | ((refine stepAll elem_Vote (by omega) (by omega) (by rfl) (.tmp 10) (.tmp 12) (by rfl) _ w.heap.size _ 0 [] (by rfl) Pc.out.1 w.heap.size none 0 0 (cellsVote []) (by rfl) (cellsVote_len []) Pc.out.2.1 (cellsVote_one []) hlE Pc.out.2.2.2.2.2.2.1 ?_; intro g cap w3 own3 hg3; have q3 := Lib.hid (Pc.out.after own3 hg3); have hS3 := q3.out.2; have z3 := Zc.out.grown hg3 (own_ne (by omega)); have z30 := z3.cell (j := 0) (u := .int .i64 0) rfl; have z31 := z3.cell (j := 1) (u := .slice none 0 0) rfl; have zf0 := z3.free 0; have zf1 := z3.free 1; have z4 := Lib.hid z3; clear z3; clear own3 hg3)))
    all_goals go_wp2_with fail
    all_goals go_meet
    · exact ⟨_, g, cap, rfl, q3.out.1.fin1⟩
    · exact ⟨_, g, cap, rfl, q3.out.1.fin2 z4.out (by omega)⟩
    · exact ⟨_, g, cap, rfl, q3.out.1.fin2 z4.out (by omega)⟩
  case rest =>
    obtain ⟨go, g, cap, rfl, hpd⟩ := hcut
    have D3 := Lib.hid hpd
    clear hpd x0 x1 Pa Pb Pc Zb Zc XB YB OB HP BB hzw hl2 hlE
    go_wp2_with fail
    go_loopw [7] (fun i wr => i = .int .i64 (0 : Nat) ∧ PD w f none 0 [] b go g cap wr) (fun i _ => 0)
    case atStart => exact ⟨rfl, D3.out⟩
    case round =>
      obtain ⟨rfl, hpd⟩ := hrel
      have D4 := Lib.hid hpd
      clear hpd D3
      have x0 := D4.out.1.2.1.cell (j := 0) (u := .int .i64 f) rfl
      have x1 := D4.out.1.2.1.cell (j := 1) (u := .slice none 0 0) rfl
      have y0 := D4.out.1.2.2.1.cell (j := 0) (u := .int .i64 b.r) rfl
      have y1 := D4.out.1.2.2.1.cell (j := 1) (u := .int .i64 b.a) rfl
      have y2 := D4.out.1.2.2.1.cell (j := 2) (u := .int .i64 b.d) rfl

      have gx1 := fun p : GrowOf wr => GrowOf.cell x1 p
      go_wp2_with fail
      refine wp_region_grow (by kernel_rfl) (by kernel_rfl) ?_
      repeat (go_big_quiet_step (fail))
      refine wpQuiet_nil ?_
      rintro _ ⟨pq, rfl⟩
      have D5 := Lib.hid (D4.out.carry pq.h)
      clear gx1 x0 x1 y0 y1 y2
      generalize pq.W = w5 at D5 ⊢
      clear pq
      have x0 := D5.out.1.2.1.cell (j := 0) (u := .int .i64 f) rfl
      have x1 := D5.out.1.2.1.cell (j := 1) (u := .slice none 0 0) rfl
      have y0 := D5.out.1.2.2.1.cell (j := 0) (u := .int .i64 b.r) rfl
      have y1 := D5.out.1.2.2.1.cell (j := 1) (u := .int .i64 b.a) rfl
      have y2 := D5.out.1.2.2.1.cell (j := 2) (u := .int .i64 b.d) rfl

      have gx1 := fun p : GrowOf w5 => GrowOf.cell x1 p
      go_wp2_with fail
      refine wp_region_grow (by kernel_rfl) (by kernel_rfl) ?_
      repeat (go_big_quiet_step (fail))
      refine wpQuiet_nil ?_
      rintro _ ⟨pq, rfl⟩
      have D7 := Lib.hid (D5.out.carry pq.h)
      clear gx1 x0 x1 y0 y1 y2
      generalize pq.W = wc at D7 ⊢
      clear pq
      have x0 := D7.out.1.2.1.cell (j := 0) (u := .int .i64 f) rfl
      have x1 := D7.out.1.2.1.cell (j := 1) (u := .slice none 0 0) rfl
      have y0 := D7.out.1.2.2.1.cell (j := 0) (u := .int .i64 b.r) rfl
      have y1 := D7.out.1.2.2.1.cell (j := 1) (u := .int .i64 b.a) rfl
      have y2 := D7.out.1.2.2.1.cell (j := 2) (u := .int .i64 b.d) rfl

      have k0 := D7.out.2.1.cell (j := 0) (u := .int .i64 f) rfl
      have k1 := D7.out.2.1.cell (j := 1) (u := .slice (some ⟨g, 0, none⟩) 0 cap) rfl
      have o0 := D7.out.1.2.2.2.1.cell (j := 0) (u := .int .i64 0) rfl
      have o1 := D7.out.1.2.2.2.1.cell (j := 1) (u := .slice none 0 0) rfl
      have of0 := D7.out.1.2.2.2.1.free 0
      have of1 := D7.out.1.2.2.2.1.free 1
      by_cases hr : b.r < f
      · have hne := Own.ne_box D7.out.1.1 D7.out.1.2.2.2.1 (by decide)
        have hgo := D7.out.2.2
        go_wp2_with fail
        refine bodyPost_ret (v := .tuple #[.agg #[.int .i64 f, .slice (some ⟨g, 0, none⟩) 0 cap], .bool false]) (by simp [results, Try.results125, go_sem, *]) rfl ⟨g, cap, [], _, rfl, by omega, ?_, ?_⟩
        · exact Own.setOther (Own.setOther D7.out.1.1 hne) hne
        · exact (D7.out.1.2.2.2.2.setCell (by show w.heap.size ≤ w.heap.size + 2; omega) _).setCell (by show w.heap.size ≤ w.heap.size + 2; omega) _
      have h40d : decide ((40 : Int) ≤ 0) = false := by decide
      have h40n : decide (40 ≤ 0) = false := by decide
      have hgo := D7.out.2.2
      have hz3 : w.heap.size + 3 ≤ wc.heap.size := by have := D7.out.1.2.2.2.1.lt; omega
      have hHTL : (cellsVote []).length = 0 * 3 := rfl
      have HTL := Lib.hid hHTL
      have hHDL : (cellsVote []).length = (0) * 3 := rfl
      have HDL := Lib.hid hHDL
      clear hHTL hHDL
      have hl0 : w.heap.size < wc.heap.size := by omega
      have hl1 : w.heap.size + 1 < wc.heap.size := by omega
      have hlk : 0 + 0 ≤ 10000000 := by omega
      have hlk1 : 0 + 1 ≤ 10000000 := by omega
      have hlk2 : 0 + 1 + (0) ≤ 10000000 := by omega
      have bwa : Below wc.heap.size wc (wc.alloc (.cells #[] 35)).drew := (allocB wc _).drew
      have Qa := Lib.hid ((PB.of D7.out).carry bwa)
      have Ea := Lib.hid (show Own (wc.alloc (.cells #[] 35)).drew (w.heap.size + 3) 35 3 (.slice (some ⟨wc.heap.size, 0, none⟩) 0 0) 0 [] from Own.lit wc #[] 0 hz3 (by omega) (by simp))
      have Ta := Lib.hid (show Row (wc.alloc (.cells #[] 35)).drew w.heap.size none (cellsVote []) from Row.nil _ _ _)
      have hza : w.heap.size + 3 ≤ (wc.alloc (.cells #[] 35)).drew.heap.size := by simp; omega
      clear bwa
      have bwb : Below wc.heap.size wc ((wc.alloc (.cells #[] 35)).alloc (.cells #[.int .i64 b.r, .int .i64 b.a, .int .i64 b.d] 35)).drew := (allocB2 wc _ _).drew
      have Qb := Lib.hid ((PB.of D7.out).carry bwb)
      have Eb := Lib.hid (show Own ((wc.alloc (.cells #[] 35)).alloc (.cells #[.int .i64 b.r, .int .i64 b.a, .int .i64 b.d] 35)).drew (w.heap.size + 3) 35 3 (.slice (some ⟨wc.heap.size, 0, none⟩) 0 0) 0 [] from (Own.lit wc #[] 0 hz3 (by omega) (by simp)).alloc _)
      have Tb := Lib.hid (show Row ((wc.alloc (.cells #[] 35)).alloc (.cells #[.int .i64 b.r, .int .i64 b.a, .int .i64 b.d] 35)).drew w.heap.size none (cellsVote []) from Row.nil _ _ _)
      have hzb : w.heap.size + 3 ≤ ((wc.alloc (.cells #[] 35)).alloc (.cells #[.int .i64 b.r, .int .i64 b.a, .int .i64 b.d] 35)).drew.heap.size := by simp; omega
      clear bwb
      have Nb := Lib.hid (show Box ((wc.alloc (.cells #[] 35)).alloc (.cells #[.int .i64 b.r, .int .i64 b.a, .int .i64 b.d] 35)).drew (wc.heap.size + 1) 35 #[.int .i64 b.r, .int .i64 b.a, .int .i64 b.d] from (by have := Box.new (wc.alloc (.cells #[] 35)) #[.int .i64 b.r, .int .i64 b.a, .int .i64 b.d] 35; simp at this; exact this))
      have bwc : Below wc.heap.size wc ((wc.alloc (.cells #[.int .i64 b.r, .int .i64 b.a, .int .i64 b.d] 35)).alloc (.cells #[] 35)).drew := (allocB2 wc _ _).drew
      have Qc := Lib.hid ((PB.of D7.out).carry bwc)
      have Ec := Lib.hid (show Own ((wc.alloc (.cells #[.int .i64 b.r, .int .i64 b.a, .int .i64 b.d] 35)).alloc (.cells #[] 35)).drew (w.heap.size + 3) 35 3 (.slice (some ⟨wc.heap.size + 1, 0, none⟩) 0 0) 0 [] from (by have := Own.lit (base := w.heap.size + 3) (e := 35) (size := 3) (wc.alloc (.cells #[.int .i64 b.r, .int .i64 b.a, .int .i64 b.d] 35)) #[] 0 (by simp; omega) (by omega) (by simp); simp at this; exact this))
      have Tc := Lib.hid (show Row ((wc.alloc (.cells #[.int .i64 b.r, .int .i64 b.a, .int .i64 b.d] 35)).alloc (.cells #[] 35)).drew w.heap.size none (cellsVote []) from Row.nil _ _ _)
      have hzc : w.heap.size + 3 ≤ ((wc.alloc (.cells #[.int .i64 b.r, .int .i64 b.a, .int .i64 b.d] 35)).alloc (.cells #[] 35)).drew.heap.size := by simp; omega
      clear bwc
      have Nc := Lib.hid (show Box ((wc.alloc (.cells #[.int .i64 b.r, .int .i64 b.a, .int .i64 b.d] 35)).alloc (.cells #[] 35)).drew (wc.heap.size) 35 #[.int .i64 b.r, .int .i64 b.a, .int .i64 b.d] from (Box.new wc #[.int .i64 b.r, .int .i64 b.a, .int .i64 b.d] 35).carry (allocB _ (.cells #[] 35)).drew)
      have hS0 : PS w none 0 [] b wc.drew := (PB.of D7.out).ps
      go_upto_region 9 with fail
      clear x0 x1 y0 y1 y2 k0 k1 o0 o1 of0 of1
      go_region_held3 (fun W => W.cell? ⟨w.heap.size, 1, none⟩ = some (.slice none 0 0) ∧ W.cell? ⟨w.heap.size + 1, 0, none⟩ = some (.int .i64 b.r) ∧ W.cell? ⟨w.heap.size + 1, 1, none⟩ = some (.int .i64 b.a) ∧ W.cell? ⟨w.heap.size + 1, 2, none⟩ = some (.int .i64 b.d)) (first | assumption | exact Qa.out.ps | exact Qb.out.ps | exact Qc.out.ps | exact ((PB.of D7.out).carry (allocB wc _).drew).ps | exact hS4 | exact hS5 | exact hS6 | exact (q4.out.carry (allocB _ _)).ps | go_keep | exact PS.set hS6 (by omega))
        (first | ((refine stepAll elem_Vote (by omega) (by omega) (by rfl) (.tmp 68) (.tmp 72) (by rfl) _ (w.heap.size + 3) _ 0 [] (by rfl) Ea.out w.heap.size none 0 0 (cellsVote []) (by rfl) HTL.out Ta.out (cellsVote_one _) hlk hza ?_; intro g4 cap4 w4 own4 hg4; try rw [Nat.zero_add 0]; have q4 := Lib.hid (Qa.out.after Ea.out hg4); have hS4 : PS w none 0 [] b w4 := q4.out.ps; have O4 := Lib.hid (show Own w4 (w.heap.size + 3) 35 3 (.slice (some ⟨g4, 0, none⟩) 0 cap4) 0 (cellsVote []) from by simpa using own4); have hz4 : w.heap.size + 3 ≤ w4.heap.size := Nat.le_trans hza hg4.size; clear own4 hg4)) | ((refine stepAll elem_Vote (by omega) (by omega) (by rfl) (.tmp 68) (.tmp 72) (by rfl) _ (w.heap.size + 3) _ 0 [] (by rfl) Eb.out w.heap.size none 0 0 (cellsVote []) (by rfl) HTL.out Tb.out (cellsVote_one _) hlk hzb ?_; intro g4 cap4 w4 own4 hg4; try rw [Nat.zero_add 0]; have q4 := Lib.hid (Qb.out.after Eb.out hg4); have hS4 : PS w none 0 [] b w4 := q4.out.ps; have O4 := Lib.hid (show Own w4 (w.heap.size + 3) 35 3 (.slice (some ⟨g4, 0, none⟩) 0 cap4) 0 (cellsVote []) from by simpa using own4); have hz4 : w.heap.size + 3 ≤ w4.heap.size := Nat.le_trans hzb hg4.size; have n4 := Lib.hid (Nb.out.grown hg4 (own_ne (by omega))); clear own4 hg4)) | ((refine stepAll elem_Vote (by omega) (by omega) (by rfl) (.tmp 68) (.tmp 72) (by rfl) _ (w.heap.size + 3) _ 0 [] (by rfl) Ec.out w.heap.size none 0 0 (cellsVote []) (by rfl) HTL.out Tc.out (cellsVote_one _) hlk hzc ?_; intro g4 cap4 w4 own4 hg4; try rw [Nat.zero_add 0]; have q4 := Lib.hid (Qc.out.after Ec.out hg4); have hS4 : PS w none 0 [] b w4 := q4.out.ps; have O4 := Lib.hid (show Own w4 (w.heap.size + 3) 35 3 (.slice (some ⟨g4, 0, none⟩) 0 cap4) 0 (cellsVote []) from by simpa using own4); have hz4 : w.heap.size + 3 ≤ w4.heap.size := Nat.le_trans hzc hg4.size; have n4 := Lib.hid (Nc.out.grown hg4 (own_ne (by omega))); clear own4 hg4)) | ((refine stepAll elem_Vote (by omega) (by omega) (by rfl) (.tmp 73) (.tmp 75) (by rfl) _ (w.heap.size + 3) _ 0 (cellsVote []) (by rfl) (O4.out.alloc (.cells #[.int .i64 b.r, .int .i64 b.a, .int .i64 b.d] 35)) (w4.heap.size + 1) (some ⟨w4.heap.size, 0, none⟩) 1 1 b.cells (by rfl) rfl (row_of_box (Box.new w4 #[.int .i64 b.r, .int .i64 b.a, .int .i64 b.d] 35) (by omega)) (by simp [VVote.cells, Value.oneCell']) hlk1 (by simp; omega) ?_; intro g5 cap5 w5 own5 hg5; have q5 := Lib.hid ((q4.out.carry (allocB w4 (.cells #[.int .i64 b.r, .int .i64 b.a, .int .i64 b.d] 35))).after (O4.out.alloc (.cells #[.int .i64 b.r, .int .i64 b.a, .int .i64 b.d] 35)) hg5); have hS5 : PS w none 0 [] b w5 := q5.out.ps; have O5 := Lib.hid own5; have hz5 : w.heap.size + 3 ≤ w5.heap.size := (by have := hg5.size; simp at this; omega); clear own5 hg5)) | ((refine stepAll elem_Vote (by omega) (by omega) (by rfl) (.tmp 73) (.tmp 75) (by rfl) _ (w.heap.size + 3) _ 0 (cellsVote []) (by rfl) O4.out (wc.heap.size + 1 + 1) (some ⟨wc.heap.size + 1, 0, none⟩) 1 1 b.cells (by rfl) rfl (row_of_box n4.out (by omega)) (by simp [VVote.cells, Value.oneCell']) hlk1 hz4 ?_; intro g5 cap5 w5 own5 hg5; have q5 := Lib.hid (q4.out.after O4.out hg5); have hS5 : PS w none 0 [] b w5 := q5.out.ps; have O5 := Lib.hid own5; have hz5 : w.heap.size + 3 ≤ w5.heap.size := Nat.le_trans hz4 hg5.size; clear own5 hg5)) | ((refine stepAll elem_Vote (by omega) (by omega) (by rfl) (.tmp 73) (.tmp 75) (by rfl) _ (w.heap.size + 3) _ 0 (cellsVote []) (by rfl) O4.out (wc.heap.size + 1) (some ⟨wc.heap.size, 0, none⟩) 1 1 b.cells (by rfl) rfl (row_of_box n4.out (by omega)) (by simp [VVote.cells, Value.oneCell']) hlk1 hz4 ?_; intro g5 cap5 w5 own5 hg5; have q5 := Lib.hid (q4.out.after O4.out hg5); have hS5 : PS w none 0 [] b w5 := q5.out.ps; have O5 := Lib.hid own5; have hz5 : w.heap.size + 3 ≤ w5.heap.size := Nat.le_trans hz4 hg5.size; clear own5 hg5)) | ((refine stepAll elem_Vote (by omega) (by omega) (by rfl) (.tmp 76) (.tmp 80) (by rfl) _ (w.heap.size + 3) _ (0 + 1) (cellsVote [] ++ b.cells) (by rfl) O5.out w.heap.size _ (0) (0) (cellsVote []) (by rfl) HDL.out (Row.nil _ _ _) (cellsVote_one _) hlk2 hz5 ?_; intro g6 cap6 w6 own6 hg6; have q6 := Lib.hid (q5.out.after O5.out hg6); have hS6 : PS w none 0 [] b w6 := q6.out.ps; have O6 := Lib.hid own6; have t6 := q6.out.2.2.2.1.cell (j := 1) (u := .slice (some ⟨g, 0, none⟩) 0 cap) rfl; have tf6 := q6.out.2.2.2.1.free 1; clear own6 hg6)))
      all_goals
        have hq6 := q6.out
        have k0 := hq6.2.2.2.1.cell (j := 0) (u := .int .i64 f) rfl
        have o0 := hq6.2.2.1.cell (j := 0) (u := .int .i64 0) rfl
        have o1 := hq6.2.2.1.cell (j := 1) (u := .slice none 0 0) rfl
        have of0 := hq6.2.2.1.free 0
        have of1 := hq6.2.2.1.free 1
        clear hq6
        have hneg := Own.ne_box O6.out q6.out.2.2.2.1 (by decide)
        have hneo := Own.base_le O6.out g6 rfl
        have hfl : 0 + 1 + (0) = [b].length := rfl
        have HFL := Lib.hid hfl
        clear hfl
        go_wp2_with fail
        all_goals
          refine bodyPost_ret (v := .tuple #[.agg #[.int .i64 f, .slice (some ⟨g6, 0, none⟩) (0 + 1 + (0)) cap6], .bool true]) (by simp [results, Try.results125, go_sem, *]) rfl ⟨g6, cap6, [b], true, by rw [← HFL.out], by rw [← HFL.out]; omega, ?_, ?_⟩
          · have h6 : Own w6 (w.heap.size + 3) 35 3 (.slice (some ⟨g6, 0, none⟩) 1 cap6) 1 (cellsVote [b]) := by have := O6.out; simpa [cellsVote] using this
            have hne2 : g6 ≠ w.heap.size + 2 := by omega
            exact Own.setOther (Own.setOther (Own.setOther (h6.lower (by omega)) hneg) hne2) hne2
          · exact ((q6.out.2.2.2.2.1.setCell (by show w.heap.size ≤ go; omega) _).setCell (by show w.heap.size ≤ w.heap.size + 2; omega) _).setCell (by show w.heap.size ≤ w.heap.size + 2; omega) _

end Go.Proofs.Ytohnodphlaoohaa
