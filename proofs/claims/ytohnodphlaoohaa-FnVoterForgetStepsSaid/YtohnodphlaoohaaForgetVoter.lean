/- VoterForget: raising the floor, in the program and in the reference. -/
import Derived.Test.YtohnodphlaoohaaVoterV
import Derived.Test.YtohnodphlaoohaaOwnVote
import Derived.Test.YtohnodphlaoohaaSets
import Derived.Test.YtohnodphlaoohaaMark
import Derived.Deep.RegionHeld3
import Derived.Deep.RegionLaw
namespace Go.Proofs.Ytohnodphlaoohaa
open Go.RowKit
set_option linter.unusedVariables false

theorem Own.ne_box {w : World} {base : Nat} {e t : TypeId} {size g n cap F : Nat} {xs : List Value} {vs : Array Value} (h : Own w base e size (.slice (some ⟨g, 0, none⟩) n cap) n xs) (hb : Box w F t vs) (hne : e ≠ t) : g ≠ F := by
  rcases h.1.2 with ⟨h', _⟩ | ⟨g', cap', cur, h', _, hgg, _⟩
  · cases h'
  · simp only [Value.slice.injEq, Option.some.injEq, Addr.mk.injEq, and_true, true_and] at h'
    obtain ⟨rfl, rfl⟩ := h'
    rintro rfl
    rw [show w.heap[g]? = _ from hb] at hgg
    simp at hgg
    exact hne hgg.2.symm
theorem Own.setOther {w : World} {base : Nat} {e : TypeId} {size g n cap F j : Nat} {xs : List Value} {u : Value} (h : Own w base e size (.slice (some ⟨g, 0, none⟩) n cap) n xs) (hne : g ≠ F) : Own (w.setCell ⟨F, j, none⟩ u) base e size (.slice (some ⟨g, 0, none⟩) n cap) n xs :=
  ⟨h.1.kept (gr_one (gr_refl w F) j u) (.inr (by simpa [Value.ownBlock] using hne)), h.2⟩
theorem own_ne {g F n cap : Nat} (h : g ≠ F) : ∀ q, (Value.slice (some ⟨g, 0, none⟩) n cap).ownBlock = some q → q ≠ F := fun q hq => by
  have : g = q := by simpa [Value.ownBlock] using hq
  omega
theorem Own.lower {w : World} {base base' : Nat} {e : TypeId} {size n : Nat} {v : Value} {xs : List Value} (h : Own w base e size v n xs) (hb : base' ≤ base) : Own w base' e size v n xs := by
  refine ⟨⟨h.1.1, ?_⟩, h.2⟩
  rcases h.1.2 with h' | ⟨g, cap, cur, h1, h2, h3⟩
  · exact .inl h'
  · exact .inr ⟨g, cap, cur, h1, by omega, h3⟩
/-- The votes from a round on. -/
def keptVoteTo (f : Int) (bs : List VVote) : Nat → List VVote
  | 0 => []
  | k + 1 => if f ≤ (nthVote bs k).r then keptVoteTo f bs k ++ [nthVote bs k] else keptVoteTo f bs k
theorem keptVoteTo_len (f : Int) (bs : List VVote) (k : Nat) : (keptVoteTo f bs k).length ≤ k := by
  induction k with
  | zero => simp [keptVoteTo]
  | succ k ih => unfold keptVoteTo; split
                 · rw [List.length_append]; simp; omega
                 · omega
theorem keptVoteTo_yes {f : Int} {bs : List VVote} {k : Nat} (h : f ≤ (nthVote bs k).r) : keptVoteTo f bs (k + 1) = keptVoteTo f bs k ++ [nthVote bs k] := by rw [keptVoteTo, if_pos h]
theorem keptVoteTo_no {f : Int} {bs : List VVote} {k : Nat} (h : ¬ f ≤ (nthVote bs k).r) : keptVoteTo f bs (k + 1) = keptVoteTo f bs k := by rw [keptVoteTo, if_neg h]
def keptVote (f : Int) (bs : List VVote) : List VVote := keptVoteTo f bs bs.length

def forgetVote (f : Int) (bs : List VVote) (n : Int) : Bool := voterB f bs && inB n f 31
/-- What forgetting hands back: nothing. -/
def Forgot0 (w : World) (e : Ending) (w' : World) : Prop := e = .returned (.tuple #[.agg #[.int .i64 0, .slice none 0 0], .bool false]) ∧ Below w.heap.size w w'
/-- What forgetting hands back: the rest, in new memory. -/
def Forgot1 (w : World) (n : Int) (ks : List VVote) (e : Ending) (w' : World) : Prop :=
  ∃ g cap : Nat, e = .returned (.tuple #[.agg #[.int .i64 n, .slice (some ⟨g, 0, none⟩) ks.length cap], .bool true]) ∧ OwnVote w' w.heap.size (.slice (some ⟨g, 0, none⟩) ks.length cap) ks ∧ Below w.heap.size w w'
set_option maxHeartbeats 4000000 in
theorem i_VoterForget_no (f : Int) (A : Option Addr) (c : Nat) (bs : List VVote) (n : Int) (w : World) (h : LstVote w w.heap.size A bs) (hn : bs.length ≤ 1048576) (hf : forgetVote f bs n = false) :
    Calls Try.prog 32 #[.agg #[.int .i64 f, .slice A bs.length c], .int .i64 n] w (Forgot0 w) := by
  have ba := allocB2 w (.cells #[.int .i64 f, .slice A bs.length c] 50) (.cells #[.int .i64 0, .slice none 0 0] 50)
  have ob : Box ((w.alloc (.cells #[.int .i64 f, .slice A bs.length c] 50)).alloc (.cells #[.int .i64 0, .slice none 0 0] 50)) (w.heap.size + 1) 50 #[.int .i64 0, .slice none 0 0] := by
    have := Box.new (w.alloc (.cells #[.int .i64 f, .slice A bs.length c] 50)) #[.int .i64 0, .slice none 0 0] 50
    simpa using this
  have XB := Lib.hid ((Box.new w #[.int .i64 f, .slice A bs.length c] 50).carry (allocB _ (.cells #[.int .i64 0, .slice none 0 0] 50)))
  have H0 := Lib.hid h
  have HP := Lib.hid (h.carry ba)
  have BB := Lib.hid ba
  have OB := Lib.hid ob
  clear h ba ob
  rcases hv : voterB f bs with _ | _
  · clear hf
    go_enter Try.func32, Try.ntmps32
    go_wp2_with fail
    refine (i_VoterValid _ _ _ bs _ HP.out hn).mono ?_
    rw [hv]
    rintro e w1 ⟨rfl, b1⟩
    replace XB := Lib.hid (XB.out.carry b1)
    replace OB := Lib.hid (OB.out.carry b1)
    replace BB := Lib.hid (next BB.out b1)
    clear b1
    have c0 := OB.out.cell (j := 0) (u := .int .i64 0) rfl
    have c1 := OB.out.cell (j := 1) (u := .slice none 0 0) rfl
    have f0 := OB.out.free 0
    have f1 := OB.out.free 1
    go_wp2_with fail
    refine bodyPost_ret (v := .tuple #[.agg #[.int .i64 0, .slice none 0 0], .bool false]) (by simp [results, Try.results32, go_sem, *]) rfl ⟨rfl, ?_⟩
    exact (BB.out.setCell (by simp) _).setCell (by simp) _
  · have hi : inB n f 31 = false := by simpa [forgetVote, hv] using hf
    clear hf
    have hi2 := inB_no.1 hi
    clear hi
    by_cases h1 : n < f
    · go_enter Try.func32, Try.ntmps32
      go_wp2_with fail
      refine (i_VoterValid _ _ _ bs _ HP.out hn).mono ?_
      rw [hv]
      rintro e w1 ⟨rfl, b1⟩
      have x0 := keepc (b := w.heap.size) (off := 0) (v := .int .i64 f) b1 (by simp)
      have x1 := keepc (b := w.heap.size) (off := 1) (v := .slice A bs.length c) b1 (by simp)
      replace HP := Lib.hid (HP.out.carry b1)
      replace XB := Lib.hid (XB.out.carry b1)
      replace OB := Lib.hid (OB.out.carry b1)
      replace BB := Lib.hid (next BB.out b1)
      clear b1
      have c0 := OB.out.cell (j := 0) (u := .int .i64 0) rfl
      have c1 := OB.out.cell (j := 1) (u := .slice none 0 0) rfl
      have f0 := OB.out.free 0
      have f1 := OB.out.free 1
      go_wp2_with fail
      refine bodyPost_ret (v := .tuple #[.agg #[.int .i64 0, .slice none 0 0], .bool false]) (by simp [results, Try.results32, go_sem, *]) rfl ⟨rfl, ?_⟩
      exact (BB.out.setCell (by simp) _).setCell (by simp) _
    · have h2 : 31 < n := by omega
      go_enter Try.func32, Try.ntmps32
      go_wp2_with fail
      refine (i_VoterValid _ _ _ bs _ HP.out hn).mono ?_
      rw [hv]
      rintro e w1 ⟨rfl, b1⟩
      have x0 := keepc (b := w.heap.size) (off := 0) (v := .int .i64 f) b1 (by simp)
      have x1 := keepc (b := w.heap.size) (off := 1) (v := .slice A bs.length c) b1 (by simp)
      replace HP := Lib.hid (HP.out.carry b1)
      replace XB := Lib.hid (XB.out.carry b1)
      replace OB := Lib.hid (OB.out.carry b1)
      replace BB := Lib.hid (next BB.out b1)
      clear b1
      have c0 := OB.out.cell (j := 0) (u := .int .i64 0) rfl
      have c1 := OB.out.cell (j := 1) (u := .slice none 0 0) rfl
      have f0 := OB.out.free 0
      have f1 := OB.out.free 1
      go_wp2_with fail
      refine bodyPost_ret (v := .tuple #[.agg #[.int .i64 0, .slice none 0 0], .bool false]) (by simp [results, Try.results32, go_sem, *]) rfl ⟨rfl, ?_⟩
      exact (BB.out.setCell (by simp) _).setCell (by simp) _
set_option maxHeartbeats 4000000 in
theorem s_VoterForget_no (f : Int) (A : Option Addr) (c : Nat) (bs : List VVote) (n : Int) (w : World) (h : LstVote w w.heap.size A bs) (hn : bs.length ≤ 1048576) (hf : forgetVote f bs n = false) :
    Calls Try.prog 33 #[.agg #[.int .i64 f, .slice A bs.length c], .int .i64 n] w (Forgot0 w) := by
  have ba := allocB2 w (.cells #[.int .i64 f, .slice A bs.length c] 50) (.cells #[.int .i64 0, .slice none 0 0] 50)
  have ob : Box ((w.alloc (.cells #[.int .i64 f, .slice A bs.length c] 50)).alloc (.cells #[.int .i64 0, .slice none 0 0] 50)) (w.heap.size + 1) 50 #[.int .i64 0, .slice none 0 0] := by
    have := Box.new (w.alloc (.cells #[.int .i64 f, .slice A bs.length c] 50)) #[.int .i64 0, .slice none 0 0] 50
    simpa using this
  have XB := Lib.hid ((Box.new w #[.int .i64 f, .slice A bs.length c] 50).carry (allocB _ (.cells #[.int .i64 0, .slice none 0 0] 50)))
  have H0 := Lib.hid h
  have HP := Lib.hid (h.carry ba)
  have BB := Lib.hid ba
  have OB := Lib.hid ob
  clear h ba ob
  rcases hv : voterB f bs with _ | _
  · clear hf
    go_enter Try.func33, Try.ntmps33
    go_wp2_with fail
    refine (s_VoterValid _ _ _ bs _ HP.out hn).mono ?_
    rw [hv]
    rintro e w1 ⟨rfl, b1⟩
    replace XB := Lib.hid (XB.out.carry b1)
    replace OB := Lib.hid (OB.out.carry b1)
    replace BB := Lib.hid (next BB.out b1)
    clear b1
    have c0 := OB.out.cell (j := 0) (u := .int .i64 0) rfl
    have c1 := OB.out.cell (j := 1) (u := .slice none 0 0) rfl
    have f0 := OB.out.free 0
    have f1 := OB.out.free 1
    go_wp2_with fail
    refine bodyPost_ret (v := .tuple #[.agg #[.int .i64 0, .slice none 0 0], .bool false]) (by simp [results, Try.results33, go_sem, *]) rfl ⟨rfl, ?_⟩
    exact (BB.out.setCell (by simp) _).setCell (by simp) _
  · have hi : inB n f 31 = false := by simpa [forgetVote, hv] using hf
    clear hf
    go_enter Try.func33, Try.ntmps33
    go_wp2_with fail
    refine (s_VoterValid _ _ _ bs _ HP.out hn).mono ?_
    rw [hv]
    rintro e w1 ⟨rfl, b1⟩
    have x0 := keepc (b := w.heap.size) (off := 0) (v := .int .i64 f) b1 (by simp)
    have x1 := keepc (b := w.heap.size) (off := 1) (v := .slice A bs.length c) b1 (by simp)
    replace HP := Lib.hid (HP.out.carry b1)
    replace XB := Lib.hid (XB.out.carry b1)
    replace OB := Lib.hid (OB.out.carry b1)
    replace BB := Lib.hid (next BB.out b1)
    clear b1
    have c0 := OB.out.cell (j := 0) (u := .int .i64 0) rfl
    have c1 := OB.out.cell (j := 1) (u := .slice none 0 0) rfl
    have f0 := OB.out.free 0
    have f1 := OB.out.free 1
    go_wp2_with (go_at_call 79; refine (l6In_any _ _ _ _).mono ?_; rintro e w' ⟨rfl, rfl⟩)
    refine bodyPost_ret (v := .tuple #[.agg #[.int .i64 0, .slice none 0 0], .bool false]) (by simp [results, Try.results33, go_sem, *]) rfl ⟨rfl, ?_⟩
    exact (BB.out.setCell (by simp) _).setCell (by simp) _
set_option maxHeartbeats 8000000 in
theorem s_VoterForget_yes (f : Int) (A : Option Addr) (c : Nat) (bs : List VVote) (n : Int) (w : World) (h : LstVote w w.heap.size A bs) (hn : bs.length ≤ 1048576) (hf : forgetVote f bs n = true) :
    Calls Try.prog 33 #[.agg #[.int .i64 f, .slice A bs.length c], .int .i64 n] w (Forgot1 w n (keptVote n bs)) := by
  have ba := allocB2 w (.cells #[.int .i64 f, .slice A bs.length c] 50) (.cells #[.int .i64 0, .slice none 0 0] 50)
  have ob : Box ((w.alloc (.cells #[.int .i64 f, .slice A bs.length c] 50)).alloc (.cells #[.int .i64 0, .slice none 0 0] 50)) (w.heap.size + 1) 50 #[.int .i64 0, .slice none 0 0] := by
    have := Box.new (w.alloc (.cells #[.int .i64 f, .slice A bs.length c] 50)) #[.int .i64 0, .slice none 0 0] 50
    simpa using this
  have XB := Lib.hid ((Box.new w #[.int .i64 f, .slice A bs.length c] 50).carry (allocB _ (.cells #[.int .i64 0, .slice none 0 0] 50)))
  have H0 := Lib.hid h
  have HP := Lib.hid (h.carry ba)
  have BB := Lib.hid ba
  have OB := Lib.hid ob
  clear h ba ob
  have hv : voterB f bs = true := by simp only [forgetVote, Bool.and_eq_true] at hf; exact hf.1
  have hi : inB n f 31 = true := by simp only [forgetVote, Bool.and_eq_true] at hf; exact hf.2
  clear hf
  go_enter Try.func33, Try.ntmps33
  go_wp2_with fail
  refine (s_VoterValid _ _ _ bs _ HP.out hn).mono ?_
  rw [hv]
  rintro e w1 ⟨rfl, b1⟩
  have x0 := keepc (b := w.heap.size) (off := 0) (v := .int .i64 f) b1 (by simp)
  have x1 := keepc (b := w.heap.size) (off := 1) (v := .slice A bs.length c) b1 (by simp)
  replace HP := Lib.hid (HP.out.carry b1)
  replace XB := Lib.hid (XB.out.carry b1)
  replace OB := Lib.hid (OB.out.carry b1)
  replace BB := Lib.hid (next BB.out b1)
  clear b1
  have O1 := Lib.hid ((OwnVote.start (w := w1) (base := w.heap.size) BB.out.size).alloc (.cells #[.int .i64 n, .slice (some ⟨w1.heap.size, 0, none⟩) 0 0] 50))
  have K1 := Lib.hid (show Box ((w1.alloc (.cells #[] 35)).alloc (.cells #[.int .i64 n, .slice (some ⟨w1.heap.size, 0, none⟩) 0 0] 50)) (w1.heap.size + 1) 50 #[.int .i64 n, .slice (some ⟨w1.heap.size, 0, none⟩) 0 0] from by
    have := Box.new (w1.alloc (.cells #[] 35)) #[.int .i64 n, .slice (some ⟨w1.heap.size, 0, none⟩) 0 0] 50
    simpa using this)
  have hx0 := lt_of_cell x0
  have hOl := OB.out.lt
  have ba := allocB2 w1 (.cells #[] 35) (.cells #[.int .i64 n, .slice (some ⟨w1.heap.size, 0, none⟩) 0 0] 50)
  have hXb : Box w1 w.heap.size 50 #[.int .i64 f, .slice A bs.length c] := XB.out
  have X2 := Lib.hid (hXb.carry ba)
  have OB2 := Lib.hid (OB.out.carry ba)
  have B2 := Lib.hid (next BB.out ba)
  clear ba hXb
  go_wp2_with (go_at_call 79; refine (l6In_any _ _ _ _).mono ?_; rintro e w' ⟨rfl, rfl⟩)
  clear x0 x1
  go_loopw [7] (fun i wr => ∃ (k g cap : Nat), k ≤ bs.length ∧ i = .int .i64 k ∧ OwnVote wr w.heap.size (.slice (some ⟨g, 0, none⟩) (keptVoteTo n bs k).length cap) (keptVoteTo n bs k) ∧ Box wr (w1.heap.size + 1) 50 #[.int .i64 n, .slice (some ⟨g, 0, none⟩) (keptVoteTo n bs k).length cap] ∧ Box wr w.heap.size 50 #[.int .i64 f, .slice A bs.length c] ∧ Box wr (w.heap.size + 1) 50 #[.int .i64 0, .slice none 0 0] ∧ Below w.heap.size w wr) (fun i _ => bs.length - (intOf i).toNat)
  case atStart => exact ⟨0, w1.heap.size, 0, Nat.zero_le _, rfl, O1.out, K1.out, X2.out, OB2.out, B2.out⟩
  case round =>
    obtain ⟨k, g, cap, hk, rfl, hown, hK, hX, hR, hbel⟩ := hrel
    have hgF := Own.ne_box hown hK (by decide)
    have HO := Lib.hid hown
    have HK := Lib.hid hK
    have HX := Lib.hid hX
    have HR := Lib.hid hR
    have HB := Lib.hid hbel
    have p1 := hX.cell (j := 1) (u := .slice A bs.length c) rfl
    have hsz := hbel.size
    have hFl := hK.lt
    have hXl := hX.lt
    have hlen := keptVoteTo_len n bs k
    clear hown hK hX hR
    by_cases hlt : k < bs.length
    · obtain ⟨b, off, rfl, hbb, hc⟩ := (H0.out.below hbel).at_ hlt
      obtain ⟨y0, y1, y2⟩ := hc k hlt
      have q1 := HK.out.cell (j := 1) (u := .slice (some ⟨g, 0, none⟩) (keptVoteTo n bs k).length cap) rfl
      clear hc hbel
      have hi0 : (0 : Int) ≤ (k : Int) := by omega
      have hi1 : (k : Int) < (bs.length : Int) := by omega
      by_cases hr : n ≤ (nthVote bs k).r
      · have hs := keptVoteTo_yes hr
        have HS := Lib.hid hs
        clear hs
        have HOA := Lib.hid (show OwnVote (wr.alloc (.cells #[.int .i64 (nthVote bs k).r, .int .i64 (nthVote bs k).a, .int .i64 (nthVote bs k).d] 35)).drew w.heap.size (.slice (some ⟨g, 0, none⟩) (keptVoteTo n bs k).length cap) (keptVoteTo n bs k) from HO.out.alloc _)
        have HRW := Lib.hid (show Row (wr.alloc (.cells #[.int .i64 (nthVote bs k).r, .int .i64 (nthVote bs k).a, .int .i64 (nthVote bs k).d] 35)).drew (wr.heap.size + 1) (some ⟨wr.heap.size, 0, none⟩) (nthVote bs k).cells from fun _ => ⟨wr.heap.size, 0, rfl, by omega, fun j u hu => by
          rw [Nat.zero_add]
          exact (cell_of_row _ _ _ _ _ _ (heap_alloc_new wr _)).trans (by simpa [VVote.cells] using hu)⟩)
        have HKA := Lib.hid (show Box (wr.alloc (.cells #[.int .i64 (nthVote bs k).r, .int .i64 (nthVote bs k).a, .int .i64 (nthVote bs k).d] 35)).drew (w1.heap.size + 1) 50 #[.int .i64 n, .slice (some ⟨g, 0, none⟩) (keptVoteTo n bs k).length cap] from HK.out.carry (allocB wr _).drew)
        have HXA := Lib.hid (show Box (wr.alloc (.cells #[.int .i64 (nthVote bs k).r, .int .i64 (nthVote bs k).a, .int .i64 (nthVote bs k).d] 35)).drew w.heap.size 50 #[.int .i64 f, .slice (some ⟨b, off, none⟩) bs.length c] from HX.out.carry (allocB wr _).drew)
        have HRA := Lib.hid (show Box (wr.alloc (.cells #[.int .i64 (nthVote bs k).r, .int .i64 (nthVote bs k).a, .int .i64 (nthVote bs k).d] 35)).drew (w.heap.size + 1) 50 #[.int .i64 0, .slice none 0 0] from HR.out.carry (allocB wr _).drew)
        have HBA := Lib.hid (show Below w.heap.size w (wr.alloc (.cells #[.int .i64 (nthVote bs k).r, .int .i64 (nthVote bs k).a, .int .i64 (nthVote bs k).d] 35)).drew from (next HB.out (allocB _ _)).drew)
        have hgX := Own.ne_box HO.out HX.out (by decide)
        have hgR := Own.ne_box HO.out HR.out (by decide)
        have hb1 : w.heap.size ≤ (wr.alloc (.cells #[.int .i64 (nthVote bs k).r, .int .i64 (nthVote bs k).a, .int .i64 (nthVote bs k).d] 35)).drew.heap.size := by simp; omega
        have hl1 : (keptVoteTo n bs k).length + 1 ≤ 10000000 := by omega
        go_wp2_with fail
        go_region_law ((refine stepAll elem_Vote (by omega) (by omega) (by rfl) _ _ (by rfl) (wr.alloc (.cells #[.int .i64 (nthVote bs k).r, .int .i64 (nthVote bs k).a, .int .i64 (nthVote bs k).d] 35)).drew w.heap.size _ (keptVoteTo n bs k).length _ (by rfl) HOA.out _ _ 1 1 (nthVote bs k).cells (by rfl) rfl HRW.out (by simp [VVote.cells, Value.oneCell']) hl1 hb1 ?_; intro g1 cap1 w4 own4 hg4; have K4 := HKA.out.grown hg4 (own_ne hgF); have X4 := HXA.out.grown hg4 (own_ne hgX); have R4 := HRA.out.grown hg4 (own_ne hgR); have B4 := below_own HBA.out HOA.out (Nat.le_refl _) hg4; have hne := Own.ne_box own4 K4 (by decide); have t4 := K4.cell (j := 1) (u := .slice (some ⟨g, 0, none⟩) (keptVoteTo n bs k).length cap) rfl; have tf := K4.free 1; have K5 := Lib.hid K4; have X5 := Lib.hid X4; have R5 := Lib.hid R4; have B5 := Lib.hid B4; have O5 := Lib.hid own4; clear K4 X4 R4 B4 own4 hg4))
        all_goals
          go_wp2_with fail
          go_roundw
          case rel =>
            refine ⟨k + 1, g1, cap1, by omega, by go_num, ?_, ?_, X5.out.other (by omega) _ _, R5.out.other (by omega) _ _, B5.out.setCell (by show w.heap.size ≤ w1.heap.size + 1; omega) _⟩
            · rw [HS.out, List.length_append]
              have := Own.setOther (F := w1.heap.size + 1) (j := 1) (u := .slice (some ⟨g1, 0, none⟩) ((keptVoteTo n bs k).length + 1) cap1) O5.out hne
              unfold OwnVote
              rw [cellsVote_snoc, List.length_append]
              exact this
            · rw [HS.out, List.length_append]
              exact K5.out.set 1 _
          case measure => simp [intOf]; omega
      · have hs := keptVoteTo_no hr
        have HS := Lib.hid hs
        clear hs
        go_wp2_with fail
        go_roundw
        case rel => exact ⟨k + 1, g, cap, by omega, by go_num, by rw [HS.out]; exact HO.out, by rw [HS.out]; exact HK.out, HX.out, HR.out, HB.out⟩
        case measure => simp [intOf]; omega
    · have e : k = bs.length := by omega
      subst e
      have q0 := HK.out.cell (j := 0) (u := .int .i64 n) rfl
      have q1 := HK.out.cell (j := 1) (u := .slice (some ⟨g, 0, none⟩) (keptVoteTo n bs bs.length).length cap) rfl
      have c0 := HR.out.cell (j := 0) (u := .int .i64 0) rfl
      have c1 := HR.out.cell (j := 1) (u := .slice none 0 0) rfl
      have f0 := HR.out.free 0
      have f1 := HR.out.free 1
      have hgR := Own.ne_box HO.out HR.out (by decide)
      have hne1 : w1.heap.size + 1 ≠ w.heap.size + 1 := by omega
      clear hbel
      go_wp2_with fail
      refine bodyPost_ret (v := .tuple #[.agg #[.int .i64 n, .slice (some ⟨g, 0, none⟩) (keptVoteTo n bs bs.length).length cap], .bool true]) (by simp [results, Try.results33, go_sem, *]) rfl ⟨g, cap, rfl, ?_, ?_⟩
      · exact Own.setOther (Own.setOther HO.out hgR) hgR
      · exact (HB.out.setCell (by simp) _).setCell (by simp) _
set_option maxHeartbeats 8000000 in
theorem i_VoterForget_yes (f : Int) (A : Option Addr) (c : Nat) (bs : List VVote) (n : Int) (w : World) (h : LstVote w w.heap.size A bs) (hn : bs.length ≤ 1048576) (hf : forgetVote f bs n = true) :
    Calls Try.prog 32 #[.agg #[.int .i64 f, .slice A bs.length c], .int .i64 n] w (Forgot1 w n (keptVote n bs)) := by
  have ba := allocB2 w (.cells #[.int .i64 f, .slice A bs.length c] 50) (.cells #[.int .i64 0, .slice none 0 0] 50)
  have ob : Box ((w.alloc (.cells #[.int .i64 f, .slice A bs.length c] 50)).alloc (.cells #[.int .i64 0, .slice none 0 0] 50)) (w.heap.size + 1) 50 #[.int .i64 0, .slice none 0 0] := by
    have := Box.new (w.alloc (.cells #[.int .i64 f, .slice A bs.length c] 50)) #[.int .i64 0, .slice none 0 0] 50
    simpa using this
  have XB := Lib.hid ((Box.new w #[.int .i64 f, .slice A bs.length c] 50).carry (allocB _ (.cells #[.int .i64 0, .slice none 0 0] 50)))
  have H0 := Lib.hid h
  have HP := Lib.hid (h.carry ba)
  have BB := Lib.hid ba
  have OB := Lib.hid ob
  clear h ba ob
  have hv : voterB f bs = true := by simp only [forgetVote, Bool.and_eq_true] at hf; exact hf.1
  have hi : inB n f 31 = true := by simp only [forgetVote, Bool.and_eq_true] at hf; exact hf.2
  have hi2 := inB_iff.1 hi
  clear hf hi
  go_enter Try.func32, Try.ntmps32
  go_wp2_with fail
  refine (i_VoterValid _ _ _ bs _ HP.out hn).mono ?_
  rw [hv]
  rintro e w1 ⟨rfl, b1⟩
  have x0 := keepc (b := w.heap.size) (off := 0) (v := .int .i64 f) b1 (by simp)
  have x1 := keepc (b := w.heap.size) (off := 1) (v := .slice A bs.length c) b1 (by simp)
  replace HP := Lib.hid (HP.out.carry b1)
  replace XB := Lib.hid (XB.out.carry b1)
  replace OB := Lib.hid (OB.out.carry b1)
  replace BB := Lib.hid (next BB.out b1)
  clear b1
  have O1 := Lib.hid ((OwnVote.start (w := w1) (base := w.heap.size) BB.out.size).alloc (.cells #[.int .i64 n, .slice (some ⟨w1.heap.size, 0, none⟩) 0 0] 50))
  have K1 := Lib.hid (show Box ((w1.alloc (.cells #[] 35)).alloc (.cells #[.int .i64 n, .slice (some ⟨w1.heap.size, 0, none⟩) 0 0] 50)) (w1.heap.size + 1) 50 #[.int .i64 n, .slice (some ⟨w1.heap.size, 0, none⟩) 0 0] from by
    have := Box.new (w1.alloc (.cells #[] 35)) #[.int .i64 n, .slice (some ⟨w1.heap.size, 0, none⟩) 0 0] 50
    simpa using this)
  have hx0 := lt_of_cell x0
  have hOl := OB.out.lt
  have ba := allocB2 w1 (.cells #[] 35) (.cells #[.int .i64 n, .slice (some ⟨w1.heap.size, 0, none⟩) 0 0] 50)
  have hXb : Box w1 w.heap.size 50 #[.int .i64 f, .slice A bs.length c] := XB.out
  have X2 := Lib.hid (hXb.carry ba)
  have OB2 := Lib.hid (OB.out.carry ba)
  have B2 := Lib.hid (next BB.out ba)
  clear ba hXb
  go_wp2_with fail
  clear x0 x1
  go_loopw [29] (fun i wr => ∃ (k g cap : Nat), k ≤ bs.length ∧ i = .int .i64 k ∧ OwnVote wr w.heap.size (.slice (some ⟨g, 0, none⟩) (keptVoteTo n bs k).length cap) (keptVoteTo n bs k) ∧ Box wr (w1.heap.size + 1) 50 #[.int .i64 n, .slice (some ⟨g, 0, none⟩) (keptVoteTo n bs k).length cap] ∧ Box wr w.heap.size 50 #[.int .i64 f, .slice A bs.length c] ∧ Box wr (w.heap.size + 1) 50 #[.int .i64 0, .slice none 0 0] ∧ Below w.heap.size w wr) (fun i _ => bs.length - (intOf i).toNat)
  case atStart => exact ⟨0, w1.heap.size, 0, Nat.zero_le _, rfl, O1.out, K1.out, X2.out, OB2.out, B2.out⟩
  case round =>
    obtain ⟨k, g, cap, hk, rfl, hown, hK, hX, hR, hbel⟩ := hrel
    have hgF := Own.ne_box hown hK (by decide)
    have HO := Lib.hid hown
    have HK := Lib.hid hK
    have HX := Lib.hid hX
    have HR := Lib.hid hR
    have HB := Lib.hid hbel
    have p1 := hX.cell (j := 1) (u := .slice A bs.length c) rfl
    have hsz := hbel.size
    have hFl := hK.lt
    have hXl := hX.lt
    have hlen := keptVoteTo_len n bs k
    clear hown hK hX hR
    by_cases hlt : k < bs.length
    · obtain ⟨b, off, rfl, hbb, hc⟩ := (H0.out.below hbel).at_ hlt
      obtain ⟨y0, y1, y2⟩ := hc k hlt
      have q1 := HK.out.cell (j := 1) (u := .slice (some ⟨g, 0, none⟩) (keptVoteTo n bs k).length cap) rfl
      clear hc hbel
      have hi0 : (0 : Int) ≤ (k : Int) := by omega
      have hi1 : (k : Int) < (bs.length : Int) := by omega
      by_cases hr : n ≤ (nthVote bs k).r
      · have hs := keptVoteTo_yes hr
        have HS := Lib.hid hs
        clear hs
        have HOA := Lib.hid (show OwnVote (wr.alloc (.cells #[.int .i64 (nthVote bs k).r, .int .i64 (nthVote bs k).a, .int .i64 (nthVote bs k).d] 35)) w.heap.size (.slice (some ⟨g, 0, none⟩) (keptVoteTo n bs k).length cap) (keptVoteTo n bs k) from HO.out.alloc _)
        have HKA := Lib.hid (HK.out.carry (allocB wr (.cells #[.int .i64 (nthVote bs k).r, .int .i64 (nthVote bs k).a, .int .i64 (nthVote bs k).d] 35)))
        have HXA := Lib.hid (HX.out.carry (allocB wr (.cells #[.int .i64 (nthVote bs k).r, .int .i64 (nthVote bs k).a, .int .i64 (nthVote bs k).d] 35)))
        have HRA := Lib.hid (HR.out.carry (allocB wr (.cells #[.int .i64 (nthVote bs k).r, .int .i64 (nthVote bs k).a, .int .i64 (nthVote bs k).d] 35)))
        have HBA := Lib.hid (next HB.out (allocB wr (.cells #[.int .i64 (nthVote bs k).r, .int .i64 (nthVote bs k).a, .int .i64 (nthVote bs k).d] 35)))
        have hgX := Own.ne_box HO.out HX.out (by decide)
        have hgR := Own.ne_box HO.out HR.out (by decide)
        have hb1 : w.heap.size ≤ (wr.alloc (.cells #[.int .i64 (nthVote bs k).r, .int .i64 (nthVote bs k).a, .int .i64 (nthVote bs k).d] 35)).heap.size := by simp; omega
        go_wp2_with (at_builtin; refine appendVote (by rfl) _ _ (by rfl) (wr.alloc (.cells #[.int .i64 (nthVote bs k).r, .int .i64 (nthVote bs k).a, .int .i64 (nthVote bs k).d] 35)) w.heap.size _ (keptVoteTo n bs k) (nthVote bs k) (by rfl) HOA.out (by simp [Act.eval]) (by omega) hb1 ?_; intro g1 cap1 w4 own4 hg4; have K4 := HKA.out.grown hg4 (own_ne hgF); have X4 := HXA.out.grown hg4 (own_ne hgX); have R4 := HRA.out.grown hg4 (own_ne hgR); have B4 := below_own HBA.out HOA.out (Nat.le_refl _) hg4; have hne := Own.ne_box (show Own w4 w.heap.size 35 3 (.slice (some ⟨g1, 0, none⟩) ((keptVoteTo n bs k).length + 1) cap1) ((keptVoteTo n bs k).length + 1) (cellsVote (keptVoteTo n bs k ++ [nthVote bs k])) from (by have := own4; unfold OwnVote at this; rw [List.length_append] at this; exact this)) K4 (by decide); have t4 := K4.cell (j := 1) (u := .slice (some ⟨g, 0, none⟩) (keptVoteTo n bs k).length cap) rfl; have tf := K4.free 1; have K5 := Lib.hid K4; have X5 := Lib.hid X4; have R5 := Lib.hid R4; have B5 := Lib.hid B4; have O5 := Lib.hid own4; clear K4 X4 R4 B4 own4 hg4)
        all_goals
          go_wp2_with fail
          go_roundw
          case rel =>
            refine ⟨k + 1, g1, cap1, by omega, by go_num, ?_, ?_, X5.out.other (by omega) _ _, R5.out.other (by omega) _ _, B5.out.setCell (by show w.heap.size ≤ w1.heap.size + 1; omega) _⟩
            · have hl2 : (keptVoteTo n bs (k + 1)).length = (keptVoteTo n bs k).length + 1 := by rw [HS.out, List.length_append]; rfl
              have := Own.setOther (F := w1.heap.size + 1) (j := 1) (u := .slice (some ⟨g1, 0, none⟩) ((keptVoteTo n bs k).length + 1) cap1) (show Own w4 w.heap.size 35 3 (.slice (some ⟨g1, 0, none⟩) ((keptVoteTo n bs k).length + 1) cap1) ((keptVoteTo n bs k).length + 1) (cellsVote (keptVoteTo n bs k ++ [nthVote bs k])) from by have := O5.out; unfold OwnVote at this; rw [List.length_append] at this; exact this) hne
              unfold OwnVote
              rw [hl2, HS.out]
              exact this
            · rw [HS.out, List.length_append]
              exact K5.out.set 1 _
          case measure => simp [intOf]; omega
      · have hs := keptVoteTo_no hr
        have HS := Lib.hid hs
        clear hs
        go_wp2_with fail
        go_roundw
        case rel => exact ⟨k + 1, g, cap, by omega, by go_num, by rw [HS.out]; exact HO.out.alloc _, by rw [HS.out]; exact HK.out.carry (allocB _ _), HX.out.carry (allocB _ _), HR.out.carry (allocB _ _), next HB.out (allocB _ _)⟩
        case measure => simp [intOf]; omega
    · have e : k = bs.length := by omega
      subst e
      have q0 := HK.out.cell (j := 0) (u := .int .i64 n) rfl
      have q1 := HK.out.cell (j := 1) (u := .slice (some ⟨g, 0, none⟩) (keptVoteTo n bs bs.length).length cap) rfl
      have c0 := HR.out.cell (j := 0) (u := .int .i64 0) rfl
      have c1 := HR.out.cell (j := 1) (u := .slice none 0 0) rfl
      have f0 := HR.out.free 0
      have f1 := HR.out.free 1
      have hgR := Own.ne_box HO.out HR.out (by decide)
      have hne1 : w1.heap.size + 1 ≠ w.heap.size + 1 := by omega
      clear hbel
      go_wp2_with fail
      refine bodyPost_ret (v := .tuple #[.agg #[.int .i64 n, .slice (some ⟨g, 0, none⟩) (keptVoteTo n bs bs.length).length cap], .bool true]) (by simp [results, Try.results32, go_sem, *]) rfl ⟨g, cap, rfl, ?_, ?_⟩
      · exact Own.setOther (Own.setOther HO.out hgR) hgR
      · exact (HB.out.setCell (by simp) _).setCell (by simp) _
end Go.Proofs.Ytohnodphlaoohaa
