/- StoreForget: raising the floor, in the program and in the reference. -/
import Derived.Test.YtmfbhddnlgbcmaaStoreU
import Derived.Test.YtmfbhddnlgbcmaaOwnBatch
import Derived.Test.YtmfbhddnlgbcmaaSets
import Derived.Test.YtmfbhddnlgbcmaaMark
import Derived.Deep.RegionHeld3
import Derived.Deep.RegionLaw
namespace Go.Proofs.Ytmfbhddnlgbcmaa
open Go.RowKit
set_option linter.unusedVariables false

theorem Own.ne_box {w : World} {base : Nat} {e t : TypeId} {size g n cap F : Nat} {xs : List Value} {vs : Array Value} (h : Own w base e size (.slice (some ⟨g, 0, none⟩) n cap) n xs) (hb : Box w F t vs) (hne : e ≠ t) : g ≠ F := by
  rcases h.1.2 with ⟨h', _⟩ | ⟨g', cap', cur, h', _, hgg, _⟩
  · cases h'
  · simp only [Value.slice.injEq, Option.some.injEq, Addr.mk.injEq, and_true, true_and] at h'
    obtain ⟨rfl, rfl⟩ := h'
    rintro rfl
    rw [show w.heap[g]? = _ from hb] at hgg
    simp at hgg
    exact hne hgg.2.symm
theorem Own.setOther {w : World} {base : Nat} {e : TypeId} {size g n cap F j : Nat} {xs : List Value} {u : Value} (h : Own w base e size (.slice (some ⟨g, 0, none⟩) n cap) n xs) (hne : g ≠ F) : Own (w.setCell ⟨F, j, none⟩ u) base e size (.slice (some ⟨g, 0, none⟩) n cap) n xs :=
  ⟨h.1.kept (gr_one (gr_refl w F) j u) (.inr (by simpa [Value.ownBlock] using hne)), h.2⟩
theorem own_ne {g F n cap : Nat} (h : g ≠ F) : ∀ q, (Value.slice (some ⟨g, 0, none⟩) n cap).ownBlock = some q → q ≠ F := fun q hq => by
  have : g = q := by simpa [Value.ownBlock] using hq
  omega
theorem Own.lower {w : World} {base base' : Nat} {e : TypeId} {size n : Nat} {v : Value} {xs : List Value} (h : Own w base e size v n xs) (hb : base' ≤ base) : Own w base' e size v n xs := by
  refine ⟨⟨h.1.1, ?_⟩, h.2⟩
  rcases h.1.2 with h' | ⟨g, cap, cur, h1, h2, h3⟩
  · exact .inl h'
  · exact .inr ⟨g, cap, cur, h1, by omega, h3⟩

def forgetBatch (f : Int) (bs : List VBatch) (n : Int) : Bool := storeB f bs && inB n f 31
/-- What forgetting hands back: nothing. -/
def Forgot0 (w : World) (e : Ending) (w' : World) : Prop := e = .returned (.tuple #[.agg #[.int .i64 0, .slice none 0 0], .bool false]) ∧ Below w.heap.size w w'
/-- What forgetting hands back: the rest, in new memory. -/
def Forgot1 (w : World) (n : Int) (ks : List VBatch) (e : Ending) (w' : World) : Prop :=
  ∃ g cap : Nat, e = .returned (.tuple #[.agg #[.int .i64 n, .slice (some ⟨g, 0, none⟩) ks.length cap], .bool true]) ∧ OwnBatch w' w.heap.size (.slice (some ⟨g, 0, none⟩) ks.length cap) ks ∧ Below w.heap.size w w'
set_option maxHeartbeats 4000000 in
theorem i_StoreForget_no (f : Int) (A : Option Addr) (c : Nat) (bs : List VBatch) (n : Int) (w : World) (h : LstBatch w w.heap.size A bs) (hn : bs.length ≤ 1048576) (hf : forgetBatch f bs n = false) :
    Calls Try.prog 31 #[.agg #[.int .i64 f, .slice A bs.length c], .int .i64 n] w (Forgot0 w) := by
  have ba := allocB2 w (.cells #[.int .i64 f, .slice A bs.length c] 25) (.cells #[.int .i64 0, .slice none 0 0] 25)
  have ob : Box ((w.alloc (.cells #[.int .i64 f, .slice A bs.length c] 25)).alloc (.cells #[.int .i64 0, .slice none 0 0] 25)) (w.heap.size + 1) 25 #[.int .i64 0, .slice none 0 0] := by
    have := Box.new (w.alloc (.cells #[.int .i64 f, .slice A bs.length c] 25)) #[.int .i64 0, .slice none 0 0] 25
    simpa using this
  have XB := Lib.hid ((Box.new w #[.int .i64 f, .slice A bs.length c] 25).carry (allocB _ (.cells #[.int .i64 0, .slice none 0 0] 25)))
  have H0 := Lib.hid h
  have HP := Lib.hid (h.carry ba)
  have BB := Lib.hid ba
  have OB := Lib.hid ob
  clear h ba ob
  rcases hv : storeB f bs with _ | _
  · clear hf
    go_enter Try.func31, Try.ntmps31
    go_wp2_with fail
    refine (i_StoreValid _ _ _ bs _ HP.out hn).mono ?_
    rw [hv]
    rintro e w1 ⟨rfl, b1⟩
    replace XB := Lib.hid (XB.out.carry b1)
    replace OB := Lib.hid (OB.out.carry b1)
    replace BB := Lib.hid (next BB.out b1)
    clear b1
    have c0 := OB.out.cell (j := 0) (u := .int .i64 0) rfl
    have c1 := OB.out.cell (j := 1) (u := .slice none 0 0) rfl
    have f0 := OB.out.free 0
    have f1 := OB.out.free 1
    go_wp2_with fail
    refine bodyPost_ret (v := .tuple #[.agg #[.int .i64 0, .slice none 0 0], .bool false]) (by simp [results, Try.results31, go_sem, *]) rfl ⟨rfl, ?_⟩
    exact (BB.out.setCell (by simp) _).setCell (by simp) _
  · have hi : inB n f 31 = false := by simpa [forgetBatch, hv] using hf
    clear hf
    have hi2 := inB_no.1 hi
    clear hi
    by_cases h1 : n < f
    · go_enter Try.func31, Try.ntmps31
      go_wp2_with fail
      refine (i_StoreValid _ _ _ bs _ HP.out hn).mono ?_
      rw [hv]
      rintro e w1 ⟨rfl, b1⟩
      have x0 := keepc (b := w.heap.size) (off := 0) (v := .int .i64 f) b1 (by simp)
      have x1 := keepc (b := w.heap.size) (off := 1) (v := .slice A bs.length c) b1 (by simp)
      replace HP := Lib.hid (HP.out.carry b1)
      replace XB := Lib.hid (XB.out.carry b1)
      replace OB := Lib.hid (OB.out.carry b1)
      replace BB := Lib.hid (next BB.out b1)
      clear b1
      have c0 := OB.out.cell (j := 0) (u := .int .i64 0) rfl
      have c1 := OB.out.cell (j := 1) (u := .slice none 0 0) rfl
      have f0 := OB.out.free 0
      have f1 := OB.out.free 1
      go_wp2_with fail
      refine bodyPost_ret (v := .tuple #[.agg #[.int .i64 0, .slice none 0 0], .bool false]) (by simp [results, Try.results31, go_sem, *]) rfl ⟨rfl, ?_⟩
      exact (BB.out.setCell (by simp) _).setCell (by simp) _
    · have h2 : 31 < n := by omega
      go_enter Try.func31, Try.ntmps31
      go_wp2_with fail
      refine (i_StoreValid _ _ _ bs _ HP.out hn).mono ?_
      rw [hv]
      rintro e w1 ⟨rfl, b1⟩
      have x0 := keepc (b := w.heap.size) (off := 0) (v := .int .i64 f) b1 (by simp)
      have x1 := keepc (b := w.heap.size) (off := 1) (v := .slice A bs.length c) b1 (by simp)
      replace HP := Lib.hid (HP.out.carry b1)
      replace XB := Lib.hid (XB.out.carry b1)
      replace OB := Lib.hid (OB.out.carry b1)
      replace BB := Lib.hid (next BB.out b1)
      clear b1
      have c0 := OB.out.cell (j := 0) (u := .int .i64 0) rfl
      have c1 := OB.out.cell (j := 1) (u := .slice none 0 0) rfl
      have f0 := OB.out.free 0
      have f1 := OB.out.free 1
      go_wp2_with fail
      refine bodyPost_ret (v := .tuple #[.agg #[.int .i64 0, .slice none 0 0], .bool false]) (by simp [results, Try.results31, go_sem, *]) rfl ⟨rfl, ?_⟩
      exact (BB.out.setCell (by simp) _).setCell (by simp) _
set_option maxHeartbeats 4000000 in
theorem s_StoreForget_no (f : Int) (A : Option Addr) (c : Nat) (bs : List VBatch) (n : Int) (w : World) (h : LstBatch w w.heap.size A bs) (hn : bs.length ≤ 1048576) (hf : forgetBatch f bs n = false) :
    Calls Try.prog 32 #[.agg #[.int .i64 f, .slice A bs.length c], .int .i64 n] w (Forgot0 w) := by
  have ba := allocB2 w (.cells #[.int .i64 f, .slice A bs.length c] 25) (.cells #[.int .i64 0, .slice none 0 0] 25)
  have ob : Box ((w.alloc (.cells #[.int .i64 f, .slice A bs.length c] 25)).alloc (.cells #[.int .i64 0, .slice none 0 0] 25)) (w.heap.size + 1) 25 #[.int .i64 0, .slice none 0 0] := by
    have := Box.new (w.alloc (.cells #[.int .i64 f, .slice A bs.length c] 25)) #[.int .i64 0, .slice none 0 0] 25
    simpa using this
  have XB := Lib.hid ((Box.new w #[.int .i64 f, .slice A bs.length c] 25).carry (allocB _ (.cells #[.int .i64 0, .slice none 0 0] 25)))
  have H0 := Lib.hid h
  have HP := Lib.hid (h.carry ba)
  have BB := Lib.hid ba
  have OB := Lib.hid ob
  clear h ba ob
  rcases hv : storeB f bs with _ | _
  · clear hf
    go_enter Try.func32, Try.ntmps32
    go_wp2_with fail
    refine (s_StoreValid _ _ _ bs _ HP.out hn).mono ?_
    rw [hv]
    rintro e w1 ⟨rfl, b1⟩
    replace XB := Lib.hid (XB.out.carry b1)
    replace OB := Lib.hid (OB.out.carry b1)
    replace BB := Lib.hid (next BB.out b1)
    clear b1
    have c0 := OB.out.cell (j := 0) (u := .int .i64 0) rfl
    have c1 := OB.out.cell (j := 1) (u := .slice none 0 0) rfl
    have f0 := OB.out.free 0
    have f1 := OB.out.free 1
    go_wp2_with fail
    refine bodyPost_ret (v := .tuple #[.agg #[.int .i64 0, .slice none 0 0], .bool false]) (by simp [results, Try.results32, go_sem, *]) rfl ⟨rfl, ?_⟩
    exact (BB.out.setCell (by simp) _).setCell (by simp) _
  · have hi : inB n f 31 = false := by simpa [forgetBatch, hv] using hf
    clear hf
    go_enter Try.func32, Try.ntmps32
    go_wp2_with fail
    refine (s_StoreValid _ _ _ bs _ HP.out hn).mono ?_
    rw [hv]
    rintro e w1 ⟨rfl, b1⟩
    have x0 := keepc (b := w.heap.size) (off := 0) (v := .int .i64 f) b1 (by simp)
    have x1 := keepc (b := w.heap.size) (off := 1) (v := .slice A bs.length c) b1 (by simp)
    replace HP := Lib.hid (HP.out.carry b1)
    replace XB := Lib.hid (XB.out.carry b1)
    replace OB := Lib.hid (OB.out.carry b1)
    replace BB := Lib.hid (next BB.out b1)
    clear b1
    have c0 := OB.out.cell (j := 0) (u := .int .i64 0) rfl
    have c1 := OB.out.cell (j := 1) (u := .slice none 0 0) rfl
    have f0 := OB.out.free 0
    have f1 := OB.out.free 1
    go_wp2_with (go_at_call 48; refine (l6In_any _ _ _ _).mono ?_; rintro e w' ⟨rfl, rfl⟩)
    refine bodyPost_ret (v := .tuple #[.agg #[.int .i64 0, .slice none 0 0], .bool false]) (by simp [results, Try.results32, go_sem, *]) rfl ⟨rfl, ?_⟩
    exact (BB.out.setCell (by simp) _).setCell (by simp) _
set_option maxHeartbeats 8000000 in
theorem s_StoreForget_yes (f : Int) (A : Option Addr) (c : Nat) (bs : List VBatch) (n : Int) (w : World) (h : LstBatch w w.heap.size A bs) (hn : bs.length ≤ 1048576) (hf : forgetBatch f bs n = true) :
    Calls Try.prog 32 #[.agg #[.int .i64 f, .slice A bs.length c], .int .i64 n] w (Forgot1 w n (kept n bs)) := by
  have ba := allocB2 w (.cells #[.int .i64 f, .slice A bs.length c] 25) (.cells #[.int .i64 0, .slice none 0 0] 25)
  have ob : Box ((w.alloc (.cells #[.int .i64 f, .slice A bs.length c] 25)).alloc (.cells #[.int .i64 0, .slice none 0 0] 25)) (w.heap.size + 1) 25 #[.int .i64 0, .slice none 0 0] := by
    have := Box.new (w.alloc (.cells #[.int .i64 f, .slice A bs.length c] 25)) #[.int .i64 0, .slice none 0 0] 25
    simpa using this
  have XB := Lib.hid ((Box.new w #[.int .i64 f, .slice A bs.length c] 25).carry (allocB _ (.cells #[.int .i64 0, .slice none 0 0] 25)))
  have H0 := Lib.hid h
  have HP := Lib.hid (h.carry ba)
  have BB := Lib.hid ba
  have OB := Lib.hid ob
  clear h ba ob
  have hv : storeB f bs = true := by simp only [forgetBatch, Bool.and_eq_true] at hf; exact hf.1
  have hi : inB n f 31 = true := by simp only [forgetBatch, Bool.and_eq_true] at hf; exact hf.2
  clear hf
  go_enter Try.func32, Try.ntmps32
  go_wp2_with fail
  refine (s_StoreValid _ _ _ bs _ HP.out hn).mono ?_
  rw [hv]
  rintro e w1 ⟨rfl, b1⟩
  have x0 := keepc (b := w.heap.size) (off := 0) (v := .int .i64 f) b1 (by simp)
  have x1 := keepc (b := w.heap.size) (off := 1) (v := .slice A bs.length c) b1 (by simp)
  replace HP := Lib.hid (HP.out.carry b1)
  replace XB := Lib.hid (XB.out.carry b1)
  replace OB := Lib.hid (OB.out.carry b1)
  replace BB := Lib.hid (next BB.out b1)
  clear b1
  have O1 := Lib.hid ((OwnBatch.start (w := w1) (base := w.heap.size) BB.out.size).alloc (.cells #[.int .i64 n, .slice (some ⟨w1.heap.size, 0, none⟩) 0 0] 25))
  have K1 := Lib.hid (show Box ((w1.alloc (.cells #[] 27)).alloc (.cells #[.int .i64 n, .slice (some ⟨w1.heap.size, 0, none⟩) 0 0] 25)) (w1.heap.size + 1) 25 #[.int .i64 n, .slice (some ⟨w1.heap.size, 0, none⟩) 0 0] from by
    have := Box.new (w1.alloc (.cells #[] 27)) #[.int .i64 n, .slice (some ⟨w1.heap.size, 0, none⟩) 0 0] 25
    simpa using this)
  have hx0 := lt_of_cell x0
  have hOl := OB.out.lt
  have ba := allocB2 w1 (.cells #[] 27) (.cells #[.int .i64 n, .slice (some ⟨w1.heap.size, 0, none⟩) 0 0] 25)
  have hXb : Box w1 w.heap.size 25 #[.int .i64 f, .slice A bs.length c] := XB.out
  have X2 := Lib.hid (hXb.carry ba)
  have OB2 := Lib.hid (OB.out.carry ba)
  have B2 := Lib.hid (next BB.out ba)
  clear ba hXb
  go_wp2_with (go_at_call 48; refine (l6In_any _ _ _ _).mono ?_; rintro e w' ⟨rfl, rfl⟩)
  clear x0 x1
  go_loopw [7] (fun i wr => ∃ (k g cap : Nat), k ≤ bs.length ∧ i = .int .i64 k ∧ OwnBatch wr w.heap.size (.slice (some ⟨g, 0, none⟩) (keptTo n bs k).length cap) (keptTo n bs k) ∧ Box wr (w1.heap.size + 1) 25 #[.int .i64 n, .slice (some ⟨g, 0, none⟩) (keptTo n bs k).length cap] ∧ Box wr w.heap.size 25 #[.int .i64 f, .slice A bs.length c] ∧ Box wr (w.heap.size + 1) 25 #[.int .i64 0, .slice none 0 0] ∧ Below w.heap.size w wr) (fun i _ => bs.length - (intOf i).toNat)
  case atStart => exact ⟨0, w1.heap.size, 0, Nat.zero_le _, rfl, O1.out, K1.out, X2.out, OB2.out, B2.out⟩
  case round =>
    obtain ⟨k, g, cap, hk, rfl, hown, hK, hX, hR, hbel⟩ := hrel
    have hgF := Own.ne_box hown hK (by decide)
    have HO := Lib.hid hown
    have HK := Lib.hid hK
    have HX := Lib.hid hX
    have HR := Lib.hid hR
    have HB := Lib.hid hbel
    have p1 := hX.cell (j := 1) (u := .slice A bs.length c) rfl
    have hsz := hbel.size
    have hFl := hK.lt
    have hXl := hX.lt
    have hlen := keptTo_len n bs k
    clear hown hK hX hR
    by_cases hlt : k < bs.length
    · obtain ⟨b, off, rfl, hbb, hc⟩ := (H0.out.below hbel).at_ hlt
      obtain ⟨y0, y1, y2, y3⟩ := hc k hlt
      have q1 := HK.out.cell (j := 1) (u := .slice (some ⟨g, 0, none⟩) (keptTo n bs k).length cap) rfl
      clear hc hbel
      have hi0 : (0 : Int) ≤ (k : Int) := by omega
      have hi1 : (k : Int) < (bs.length : Int) := by omega
      by_cases hr : n ≤ (nthBatch bs k).r
      · have hs := keptTo_yes hr
        have HS := Lib.hid hs
        clear hs
        have HOA := Lib.hid (show OwnBatch (wr.alloc (.cells #[.int .i64 (nthBatch bs k).d, .int .i64 (nthBatch bs k).a, .int .i64 (nthBatch bs k).r, .int .i64 (nthBatch bs k).s] 27)).drew w.heap.size (.slice (some ⟨g, 0, none⟩) (keptTo n bs k).length cap) (keptTo n bs k) from HO.out.alloc _)
        have HRW := Lib.hid (show Row (wr.alloc (.cells #[.int .i64 (nthBatch bs k).d, .int .i64 (nthBatch bs k).a, .int .i64 (nthBatch bs k).r, .int .i64 (nthBatch bs k).s] 27)).drew (wr.heap.size + 1) (some ⟨wr.heap.size, 0, none⟩) (nthBatch bs k).cells from fun _ => ⟨wr.heap.size, 0, rfl, by omega, fun j u hu => by
          rw [Nat.zero_add]
          exact (cell_of_row _ _ _ _ _ _ (heap_alloc_new wr _)).trans (by simpa [VBatch.cells] using hu)⟩)
        have HKA := Lib.hid (show Box (wr.alloc (.cells #[.int .i64 (nthBatch bs k).d, .int .i64 (nthBatch bs k).a, .int .i64 (nthBatch bs k).r, .int .i64 (nthBatch bs k).s] 27)).drew (w1.heap.size + 1) 25 #[.int .i64 n, .slice (some ⟨g, 0, none⟩) (keptTo n bs k).length cap] from HK.out.carry (allocB wr _).drew)
        have HXA := Lib.hid (show Box (wr.alloc (.cells #[.int .i64 (nthBatch bs k).d, .int .i64 (nthBatch bs k).a, .int .i64 (nthBatch bs k).r, .int .i64 (nthBatch bs k).s] 27)).drew w.heap.size 25 #[.int .i64 f, .slice (some ⟨b, off, none⟩) bs.length c] from HX.out.carry (allocB wr _).drew)
        have HRA := Lib.hid (show Box (wr.alloc (.cells #[.int .i64 (nthBatch bs k).d, .int .i64 (nthBatch bs k).a, .int .i64 (nthBatch bs k).r, .int .i64 (nthBatch bs k).s] 27)).drew (w.heap.size + 1) 25 #[.int .i64 0, .slice none 0 0] from HR.out.carry (allocB wr _).drew)
        have HBA := Lib.hid (show Below w.heap.size w (wr.alloc (.cells #[.int .i64 (nthBatch bs k).d, .int .i64 (nthBatch bs k).a, .int .i64 (nthBatch bs k).r, .int .i64 (nthBatch bs k).s] 27)).drew from (next HB.out (allocB _ _)).drew)
        have hgX := Own.ne_box HO.out HX.out (by decide)
        have hgR := Own.ne_box HO.out HR.out (by decide)
        have hb1 : w.heap.size ≤ (wr.alloc (.cells #[.int .i64 (nthBatch bs k).d, .int .i64 (nthBatch bs k).a, .int .i64 (nthBatch bs k).r, .int .i64 (nthBatch bs k).s] 27)).drew.heap.size := by simp; omega
        have hl1 : (keptTo n bs k).length + 1 ≤ 10000000 := by omega
        go_wp2_with fail
        go_region_law ((refine stepAll elem_Batch (by omega) (by omega) (by rfl) _ _ (by rfl) (wr.alloc (.cells #[.int .i64 (nthBatch bs k).d, .int .i64 (nthBatch bs k).a, .int .i64 (nthBatch bs k).r, .int .i64 (nthBatch bs k).s] 27)).drew w.heap.size _ (keptTo n bs k).length _ (by rfl) HOA.out _ _ 1 1 (nthBatch bs k).cells (by rfl) rfl HRW.out (by simp [VBatch.cells, Value.oneCell']) hl1 hb1 ?_; intro g1 cap1 w4 own4 hg4; have K4 := HKA.out.grown hg4 (own_ne hgF); have X4 := HXA.out.grown hg4 (own_ne hgX); have R4 := HRA.out.grown hg4 (own_ne hgR); have B4 := below_own HBA.out HOA.out (Nat.le_refl _) hg4; have hne := Own.ne_box own4 K4 (by decide); have t4 := K4.cell (j := 1) (u := .slice (some ⟨g, 0, none⟩) (keptTo n bs k).length cap) rfl; have tf := K4.free 1; have K5 := Lib.hid K4; have X5 := Lib.hid X4; have R5 := Lib.hid R4; have B5 := Lib.hid B4; have O5 := Lib.hid own4; clear K4 X4 R4 B4 own4 hg4))
        all_goals
          go_wp2_with fail
          go_roundw
          case rel =>
            refine ⟨k + 1, g1, cap1, by omega, by go_num, ?_, ?_, X5.out.other (by omega) _ _, R5.out.other (by omega) _ _, B5.out.setCell (by show w.heap.size ≤ w1.heap.size + 1; omega) _⟩
            · rw [HS.out, List.length_append]
              have := Own.setOther (F := w1.heap.size + 1) (j := 1) (u := .slice (some ⟨g1, 0, none⟩) ((keptTo n bs k).length + 1) cap1) O5.out hne
              unfold OwnBatch
              rw [cellsBatch_snoc, List.length_append]
              exact this
            · rw [HS.out, List.length_append]
              exact K5.out.set 1 _
          case measure => simp [intOf]; omega
      · have hs := keptTo_no hr
        have HS := Lib.hid hs
        clear hs
        go_wp2_with fail
        go_roundw
        case rel => exact ⟨k + 1, g, cap, by omega, by go_num, by rw [HS.out]; exact HO.out, by rw [HS.out]; exact HK.out, HX.out, HR.out, HB.out⟩
        case measure => simp [intOf]; omega
    · have e : k = bs.length := by omega
      subst e
      have q0 := HK.out.cell (j := 0) (u := .int .i64 n) rfl
      have q1 := HK.out.cell (j := 1) (u := .slice (some ⟨g, 0, none⟩) (keptTo n bs bs.length).length cap) rfl
      have c0 := HR.out.cell (j := 0) (u := .int .i64 0) rfl
      have c1 := HR.out.cell (j := 1) (u := .slice none 0 0) rfl
      have f0 := HR.out.free 0
      have f1 := HR.out.free 1
      have hgR := Own.ne_box HO.out HR.out (by decide)
      have hne1 : w1.heap.size + 1 ≠ w.heap.size + 1 := by omega
      clear hbel
      go_wp2_with fail
      refine bodyPost_ret (v := .tuple #[.agg #[.int .i64 n, .slice (some ⟨g, 0, none⟩) (keptTo n bs bs.length).length cap], .bool true]) (by simp [results, Try.results32, go_sem, *]) rfl ⟨g, cap, rfl, ?_, ?_⟩
      · exact Own.setOther (Own.setOther HO.out hgR) hgR
      · exact (HB.out.setCell (by simp) _).setCell (by simp) _
set_option maxHeartbeats 8000000 in
theorem i_StoreForget_yes (f : Int) (A : Option Addr) (c : Nat) (bs : List VBatch) (n : Int) (w : World) (h : LstBatch w w.heap.size A bs) (hn : bs.length ≤ 1048576) (hf : forgetBatch f bs n = true) :
    Calls Try.prog 31 #[.agg #[.int .i64 f, .slice A bs.length c], .int .i64 n] w (Forgot1 w n (kept n bs)) := by
  have ba := allocB2 w (.cells #[.int .i64 f, .slice A bs.length c] 25) (.cells #[.int .i64 0, .slice none 0 0] 25)
  have ob : Box ((w.alloc (.cells #[.int .i64 f, .slice A bs.length c] 25)).alloc (.cells #[.int .i64 0, .slice none 0 0] 25)) (w.heap.size + 1) 25 #[.int .i64 0, .slice none 0 0] := by
    have := Box.new (w.alloc (.cells #[.int .i64 f, .slice A bs.length c] 25)) #[.int .i64 0, .slice none 0 0] 25
    simpa using this
  have XB := Lib.hid ((Box.new w #[.int .i64 f, .slice A bs.length c] 25).carry (allocB _ (.cells #[.int .i64 0, .slice none 0 0] 25)))
  have H0 := Lib.hid h
  have HP := Lib.hid (h.carry ba)
  have BB := Lib.hid ba
  have OB := Lib.hid ob
  clear h ba ob
  have hv : storeB f bs = true := by simp only [forgetBatch, Bool.and_eq_true] at hf; exact hf.1
  have hi2 : f ≤ n ∧ n ≤ 31 := by simp only [forgetBatch, Bool.and_eq_true] at hf; exact inB_iff.1 hf.2
  clear hf
  go_enter Try.func31, Try.ntmps31
  go_wp2_with fail
  refine (i_StoreValid _ _ _ bs _ HP.out hn).mono ?_
  rw [hv]
  rintro e w1 ⟨rfl, b1⟩
  have x0 := keepc (b := w.heap.size) (off := 0) (v := .int .i64 f) b1 (by simp)
  have x1 := keepc (b := w.heap.size) (off := 1) (v := .slice A bs.length c) b1 (by simp)
  replace HP := Lib.hid (HP.out.carry b1)
  replace XB := Lib.hid (XB.out.carry b1)
  replace OB := Lib.hid (OB.out.carry b1)
  replace BB := Lib.hid (next BB.out b1)
  clear b1
  go_wp2_with fail
  refine (i_shelfOf _ _ bs _ HP.out hn).mono ?_
  rintro e w2 ⟨gs, rfl, s2, b2⟩
  replace OB := Lib.hid (OB.out.carry b2)
  replace BB := Lib.hid (next BB.out b2)
  have S2 := Lib.hid s2
  clear b2 s2 x0 x1
  go_wp2_with fail
  refine (i_batches _ gs bs n _ S2.out hn).mono ?_
  rintro e w3 ⟨g, cap, rfl, o3, b3⟩
  replace OB := Lib.hid (OB.out.carry b3)
  have hz := BB.out.size
  replace BB := Lib.hid (next BB.out b3)
  have hlow := o3.base_le g rfl
  have hOl := OB.out.lt
  have O3 := Lib.hid o3
  have hgR := Own.ne_box o3 OB.out (by decide)
  have c0 := OB.out.cell (j := 0) (u := .int .i64 0) rfl
  have c1 := OB.out.cell (j := 1) (u := .slice none 0 0) rfl
  have f0 := OB.out.free 0
  have f1 := OB.out.free 1
  clear b3 o3
  go_wp2_with fail
  refine bodyPost_ret (v := .tuple #[.agg #[.int .i64 n, .slice (some ⟨g, 0, none⟩) (kept n bs).length cap], .bool true]) (by simp [results, Try.results31, go_sem, *]) rfl ⟨g, cap, rfl, ?_, ?_⟩
  · exact Own.setOther (Own.setOther (Own.lower O3.out hz) hgR) hgR
  · exact (BB.out.setCell (by simp) _).setCell (by simp) _
end Go.Proofs.Ytmfbhddnlgbcmaa
