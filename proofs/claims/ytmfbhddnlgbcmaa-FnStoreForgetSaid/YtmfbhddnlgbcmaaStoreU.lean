/- Stores: what an author has used; the batch with a digest: in the program and in the reference. -/
import Derived.Test.YtmfbhddnlgbcmaaShelf2
namespace Go.Proofs.Ytmfbhddnlgbcmaa
open Go.RowKit
set_option linter.unusedVariables false

def usedOf (f : Int) (bs : List VBatch) (n : Int) : Int := if storeB f bs = true ∧ inB n 0 6 = true then usedW bs n bs.length else -1
def getFrom (bs : List VBatch) (n : Int) : Nat → Nat → VBatch × Bool
  | 0, _ => (VBatch.zero, false)
  | m + 1, k => if (nthBatch bs k).d = n then (nthBatch bs k, true) else getFrom bs n m (k + 1)
def getIn (bs : List VBatch) (n : Int) : VBatch × Bool := getFrom bs n bs.length 0
def getOf (f : Int) (bs : List VBatch) (n : Int) : VBatch × Bool := if storeB f bs = true then getIn bs n else (VBatch.zero, false)
theorem getFrom_eq {bs : List VBatch} {n : Int} {r : Nat} (h : FirstAt bs n r) : ∀ m k, k ≤ r → k + m = bs.length → getFrom bs n m k = if r < bs.length then (nthBatch bs r, true) else (VBatch.zero, false) := by
  intro m
  induction m with
  | zero => intro k h1 h2
            have : ¬ r < bs.length := by omega
            rw [if_neg this]; rfl
  | succ m ih =>
    intro k h1 h2
    unfold getFrom
    by_cases e : k = r
    · subst e
      rw [if_pos (h.2.2 (by omega)), if_pos (by omega)]
    · rw [if_neg (h.2.1 k (by omega))]; exact ih (k + 1) (by omega) (by omega)
theorem getIn_eq {bs : List VBatch} {n : Int} {r : Nat} (h : FirstAt bs n r) : getIn bs n = if r < bs.length then (nthBatch bs r, true) else (VBatch.zero, false) := getFrom_eq h _ _ (Nat.zero_le _) (by omega)
theorem getOf_hit {f : Int} {bs : List VBatch} {n : Int} {r : Nat} (hv : storeB f bs = true) (h : FirstAt bs n r) (hr : r < bs.length) : getOf f bs n = (nthBatch bs r, true) := by rw [getOf, if_pos hv, getIn_eq h, if_pos hr]
theorem getOf_miss {f : Int} {bs : List VBatch} {n : Int} {r : Nat} (hv : storeB f bs = true) (h : FirstAt bs n r) (hr : ¬ r < bs.length) : getOf f bs n = (VBatch.zero, false) := by rw [getOf, if_pos hv, getIn_eq h, if_neg hr]
theorem getOf_no {f : Int} {bs : List VBatch} {n : Int} (hv : storeB f bs = false) : getOf f bs n = (VBatch.zero, false) := by rw [getOf, if_neg (by simp [hv])]

set_option maxHeartbeats 2000000 in
theorem i_StoreUsed (f : Int) (A : Option Addr) (c : Nat) (bs : List VBatch) (n : Int) (w : World) (h : LstBatch w w.heap.size A bs) (hn : bs.length ≤ 1048576) :
    Calls Try.prog 18 #[.agg #[.int .i64 f, .slice A bs.length c], .int .i64 n] w fun e w' => e = .returned (.int .i64 (usedOf f bs n)) ∧ Below w.heap.size w w' := by
  have BB := Lib.hid (allocB w (.cells #[.int .i64 f, .slice A bs.length c] 25))
  have HP := Lib.hid (h.carry BB.out)
  clear h
  rcases hv : storeB f bs with _ | _
  · go_enter Try.func18, Try.ntmps18
    go_wp2_with fail
    refine (i_StoreValid _ _ _ bs _ HP.out hn).mono ?_
    rw [hv]
    rintro e w1 ⟨rfl, b1⟩
    replace BB := Lib.hid (next BB.out b1)
    clear b1
    go_wp2_with fail
    go_ret
    exact ⟨ret_int (by simp [usedOf, hv]), BB.out⟩
  rcases hi : inB n 0 6 with _ | _
  · go_enter Try.func18, Try.ntmps18
    go_wp2_with fail
    refine (i_StoreValid _ _ _ bs _ HP.out hn).mono ?_
    rw [hv]
    rintro e w1 ⟨rfl, b1⟩
    replace BB := Lib.hid (next BB.out b1)
    clear b1
    go_wp2_with (go_at_call 46; refine (i_isAuthor _ _).mono ?_; rintro e w' ⟨rfl, rfl⟩)
    go_ret
    exact ⟨ret_int (by simp [usedOf, hi]), BB.out⟩
  · go_enter Try.func18, Try.ntmps18
    go_wp2_with fail
    refine (i_StoreValid _ _ _ bs _ HP.out hn).mono ?_
    rw [hv]
    rintro e w1 ⟨rfl, b1⟩
    have x0 := keepc (b := w.heap.size) (off := 0) (v := .int .i64 f) b1 (by simp)
    have x1 := keepc (b := w.heap.size) (off := 1) (v := .slice A bs.length c) b1 (by simp)
    replace BB := Lib.hid (next BB.out b1)
    replace HP := Lib.hid (HP.out.carry b1)
    clear b1
    go_wp2_with (go_at_call 46; refine (i_isAuthor _ _).mono ?_; rintro e w' ⟨rfl, rfl⟩)
    refine (i_shelfOf _ _ bs _ HP.out hn).mono ?_
    rintro e w2 ⟨gs, rfl, s2, b2⟩
    replace BB := Lib.hid (next BB.out b2)
    have S2 := Lib.hid s2
    clear b2 s2
    go_wp2_with fail
    refine (i_used _ gs bs _ _ S2.out).mono ?_
    rintro e w' ⟨rfl, rfl⟩
    go_wp2_with fail
    go_ret
    exact ⟨ret_int (by simp [usedOf, hv, hi]), BB.out⟩
set_option maxHeartbeats 2000000 in
theorem s_StoreUsed (f : Int) (A : Option Addr) (c : Nat) (bs : List VBatch) (n : Int) (w : World) (h : LstBatch w w.heap.size A bs) (hn : bs.length ≤ 1048576) :
    Calls Try.prog 24 #[.agg #[.int .i64 f, .slice A bs.length c], .int .i64 n] w fun e w' => e = .returned (.int .i64 (usedOf f bs n)) ∧ Below w.heap.size w w' := by
  have BB := Lib.hid (allocB w (.cells #[.int .i64 f, .slice A bs.length c] 25))
  have HP := Lib.hid (h.carry BB.out)
  clear h
  rcases hv : storeB f bs with _ | _
  · go_enter Try.func24, Try.ntmps24
    go_wp2_with fail
    refine (s_StoreValid _ _ _ bs _ HP.out hn).mono ?_
    rw [hv]
    rintro e w1 ⟨rfl, b1⟩
    replace BB := Lib.hid (next BB.out b1)
    clear b1
    go_wp2_with fail
    go_ret
    exact ⟨ret_int (by simp [usedOf, hv]), BB.out⟩
  rcases hi : inB n 0 6 with _ | _
  · go_enter Try.func24, Try.ntmps24
    go_wp2_with fail
    refine (s_StoreValid _ _ _ bs _ HP.out hn).mono ?_
    rw [hv]
    rintro e w1 ⟨rfl, b1⟩
    replace BB := Lib.hid (next BB.out b1)
    clear b1
    go_wp2_with (go_at_call 48; refine (l6In_any _ _ _ _).mono ?_; rintro e w' ⟨rfl, rfl⟩)
    go_ret
    exact ⟨ret_int (by simp [usedOf, hi]), BB.out⟩
  · go_enter Try.func24, Try.ntmps24
    go_wp2_with fail
    refine (s_StoreValid _ _ _ bs _ HP.out hn).mono ?_
    rw [hv]
    rintro e w1 ⟨rfl, b1⟩
    have x0 := keepc (b := w.heap.size) (off := 0) (v := .int .i64 f) b1 (by simp)
    have x1 := keepc (b := w.heap.size) (off := 1) (v := .slice A bs.length c) b1 (by simp)
    replace BB := Lib.hid (next BB.out b1)
    replace HP := Lib.hid (HP.out.carry b1)
    clear b1
    go_wp2_with (first | (go_at_call 48; refine (l6In_any _ _ _ _).mono ?_; rintro e w' ⟨rfl, rfl⟩) | (go_at_call 45; refine (s_l23Used _ _ bs _ _ _ HP.out hn).mono ?_; rintro e w' ⟨rfl, rfl⟩))
    go_ret
    exact ⟨ret_int (by simp [usedOf, hv, hi]), BB.out⟩
set_option maxHeartbeats 4000000 in
theorem i_StoreGet (f : Int) (A : Option Addr) (c : Nat) (bs : List VBatch) (n : Int) (w : World) (h : LstBatch w w.heap.size A bs) (hn : bs.length ≤ 1048576) :
    Calls Try.prog 26 #[.agg #[.int .i64 f, .slice A bs.length c], .int .i64 n] w fun e w' => e = .returned (.tuple #[.agg #[.int .i64 (getOf f bs n).1.d, .int .i64 (getOf f bs n).1.a, .int .i64 (getOf f bs n).1.r, .int .i64 (getOf f bs n).1.s], .bool (getOf f bs n).2]) ∧ Below w.heap.size w w' := by
  have ba := allocB2 w (.cells #[.int .i64 f, .slice A bs.length c] 25) (.cells #[.int .i64 0, .int .i64 0, .int .i64 0, .int .i64 0] 27)
  have ob : Box ((w.alloc (.cells #[.int .i64 f, .slice A bs.length c] 25)).alloc (.cells #[.int .i64 0, .int .i64 0, .int .i64 0, .int .i64 0] 27)) (w.heap.size + 1) 27 #[.int .i64 0, .int .i64 0, .int .i64 0, .int .i64 0] := by
    have := Box.new (w.alloc (.cells #[.int .i64 f, .slice A bs.length c] 25)) #[.int .i64 0, .int .i64 0, .int .i64 0, .int .i64 0] 27
    simpa using this
  have HP := Lib.hid (h.carry ba)
  have BB := Lib.hid ba
  have OB := Lib.hid ob
  clear h ba ob
  rcases hv : storeB f bs with _ | _
  · have hres := getOf_no (n := n) hv
    have HR := Lib.hid hres
    clear hres
    go_enter Try.func26, Try.ntmps26
    go_wp2_with fail
    refine (i_StoreValid _ _ _ bs _ HP.out hn).mono ?_
    rw [hv]
    rintro e w1 ⟨rfl, b1⟩
    have o1 := OB.out.carry b1
    have c0 := o1.cell (j := 0) (u := .int .i64 0) rfl
    have c1 := o1.cell (j := 1) (u := .int .i64 0) rfl
    have c2 := o1.cell (j := 2) (u := .int .i64 0) rfl
    have c3 := o1.cell (j := 3) (u := .int .i64 0) rfl
    have f0 := o1.free 0
    have f1 := o1.free 1
    have f2 := o1.free 2
    have f3 := o1.free 3
    replace BB := Lib.hid (next BB.out b1)
    clear b1 o1
    go_wp2_with fail
    refine bodyPost_ret (v := .tuple #[.agg #[.int .i64 0, .int .i64 0, .int .i64 0, .int .i64 0], .bool false]) (by simp [results, Try.results26, go_sem, *]) rfl ⟨by rw [HR.out]; rfl, ?_⟩
    exact (((BB.out.setCell (by simp) _).setCell (by simp) _).setCell (by simp) _).setCell (by simp) _
  · go_enter Try.func26, Try.ntmps26
    go_wp2_with fail
    refine (i_StoreValid _ _ _ bs _ HP.out hn).mono ?_
    rw [hv]
    rintro e w1 ⟨rfl, b1⟩
    have x0 := keepc (b := w.heap.size) (off := 0) (v := .int .i64 f) b1 (by simp)
    have x1 := keepc (b := w.heap.size) (off := 1) (v := .slice A bs.length c) b1 (by simp)
    replace OB := Lib.hid (OB.out.carry b1)
    replace BB := Lib.hid (next BB.out b1)
    replace HP := Lib.hid (HP.out.carry b1)
    have hs1 := OB.out.lt
    clear b1
    go_wp2_with fail
    refine (i_shelfOf _ _ bs _ HP.out hn).mono ?_
    rintro e w2 ⟨gs, rfl, s2, b2⟩
    replace OB := Lib.hid (OB.out.carry b2)
    replace BB := Lib.hid (next BB.out b2)
    have S2 := Lib.hid s2
    clear b2 s2 x0 x1
    go_wp2_with fail
    refine (i_find _ gs bs _ _ S2.out).mono ?_
    rintro e w' ⟨k, hf, rfl, rfl⟩
    have HF := Lib.hid hf
    clear hf
    have c0 := OB.out.cell (j := 0) (u := .int .i64 0) rfl
    have c1 := OB.out.cell (j := 1) (u := .int .i64 0) rfl
    have c2 := OB.out.cell (j := 2) (u := .int .i64 0) rfl
    have c3 := OB.out.cell (j := 3) (u := .int .i64 0) rfl
    have f0 := OB.out.free 0
    have f1 := OB.out.free 1
    have f2 := OB.out.free 2
    have f3 := OB.out.free 3
    by_cases hk : k < bs.length
    · have hres := getOf_hit hv HF.out hk
      have HR := Lib.hid hres
      have hl := S2.out.len
      obtain ⟨d0, d1, d2, d3, _⟩ := S2.out.cells hk
      have hlow := S2.out.low k hk
      rw [ptr_at (by omega)]
      clear hres hl
      generalize nthg gs k = q at *
      have hne : q ≠ w.heap.size + 1 := by omega
      go_wp2_with fail
      refine bodyPost_ret (v := .tuple #[.agg #[.int .i64 (nthBatch bs k).d, .int .i64 (nthBatch bs k).a, .int .i64 (nthBatch bs k).r, .int .i64 (nthBatch bs k).s], .bool true]) (by simp [results, Try.results26, go_sem, *]) rfl ⟨by rw [HR.out], ?_⟩
      exact (((BB.out.setCell (by simp) _).setCell (by simp) _).setCell (by simp) _).setCell (by simp) _
    · have hres := getOf_miss hv HF.out hk
      have HR := Lib.hid hres
      have hl := S2.out.len
      rw [ptr_end (by omega)]
      clear hres hl
      go_wp2_with fail
      refine bodyPost_ret (v := .tuple #[.agg #[.int .i64 0, .int .i64 0, .int .i64 0, .int .i64 0], .bool false]) (by simp [results, Try.results26, go_sem, *]) rfl ⟨by rw [HR.out]; rfl, ?_⟩
      exact (((BB.out.setCell (by simp) _).setCell (by simp) _).setCell (by simp) _).setCell (by simp) _
set_option maxHeartbeats 4000000 in
theorem s_StoreGet (f : Int) (A : Option Addr) (c : Nat) (bs : List VBatch) (n : Int) (w : World) (h : LstBatch w w.heap.size A bs) (hn : bs.length ≤ 1048576) :
    Calls Try.prog 25 #[.agg #[.int .i64 f, .slice A bs.length c], .int .i64 n] w fun e w' => e = .returned (.tuple #[.agg #[.int .i64 (getOf f bs n).1.d, .int .i64 (getOf f bs n).1.a, .int .i64 (getOf f bs n).1.r, .int .i64 (getOf f bs n).1.s], .bool (getOf f bs n).2]) ∧ Below w.heap.size w w' := by
  have H := Lib.hid h
  have ob : Box ((w.alloc (.cells #[.int .i64 f, .slice A bs.length c] 25)).alloc (.cells #[.int .i64 0, .int .i64 0, .int .i64 0, .int .i64 0] 27)) (w.heap.size + 1) 27 #[.int .i64 0, .int .i64 0, .int .i64 0, .int .i64 0] := by
    have := Box.new (w.alloc (.cells #[.int .i64 f, .slice A bs.length c] 25)) #[.int .i64 0, .int .i64 0, .int .i64 0, .int .i64 0] 27
    simpa using this
  have OB := Lib.hid ob
  clear h ob
  go_enter Try.func25, Try.ntmps25
  go_wp2_with fail
  go_loopw [6] (fun i wr => ∃ k : Nat, k ≤ bs.length ∧ i = .int .i64 k ∧ (∀ j, j < k → (nthBatch bs j).d ≠ n) ∧ wr.cell? ⟨w.heap.size, 0, none⟩ = some (.int .i64 f) ∧ wr.cell? ⟨w.heap.size, 1, none⟩ = some (.slice A bs.length c) ∧ Box wr (w.heap.size + 1) 27 #[.int .i64 0, .int .i64 0, .int .i64 0, .int .i64 0] ∧ Below w.heap.size w wr) (fun i _ => bs.length - (intOf i).toNat)
  case atStart => exact ⟨0, Nat.zero_le _, rfl, (fun j hj => absurd hj (by omega)), by simp, by simp, OB.out, allocB2 w _ _⟩
  case round =>
    obtain ⟨k, hk, rfl, hs, p0, p1, hbox, hbel⟩ := hrel
    have HS := Lib.hid hs
    have HX := Lib.hid hbox
    by_cases hlt : k < bs.length
    · have hd : decide (k < bs.length) = true := by simpa using hlt
      have HP := Lib.hid ((H.out.below hbel).more hbel.size)
      have HB := Lib.hid hbel
      clear hs hbox hbel
      rcases hv : storeB f bs with _ | _
      · have hres := getOf_no (n := n) hv
        have HR := Lib.hid hres
        clear hres
        go_wp2_with fail
        refine (s_StoreValid _ _ _ bs _ HP.out hn).mono ?_
        rw [hv]
        rintro e w1 ⟨rfl, b1⟩
        have o1 := HX.out.carry b1
        have c0 := o1.cell (j := 0) (u := .int .i64 0) rfl
        have c1 := o1.cell (j := 1) (u := .int .i64 0) rfl
        have c2 := o1.cell (j := 2) (u := .int .i64 0) rfl
        have c3 := o1.cell (j := 3) (u := .int .i64 0) rfl
        have f0 := o1.free 0
        have f1 := o1.free 1
        have f2 := o1.free 2
        have f3 := o1.free 3
        have BB := Lib.hid (next HB.out b1)
        clear b1 o1
        go_wp2_with fail
        refine bodyPost_ret (v := .tuple #[.agg #[.int .i64 0, .int .i64 0, .int .i64 0, .int .i64 0], .bool false]) (by simp [results, Try.results25, go_sem, *]) rfl ⟨by rw [HR.out]; rfl, ?_⟩
        exact (((BB.out.setCell (by simp) _).setCell (by simp) _).setCell (by simp) _).setCell (by simp) _
      · go_wp2_with fail
        refine (s_StoreValid _ _ _ bs _ HP.out hn).mono ?_
        rw [hv]
        rintro e w1 ⟨rfl, b1⟩
        obtain ⟨b, off, rfl, hbb, hc⟩ := (HP.out.carry b1).at_ hlt
        obtain ⟨d0, d1, d2, d3⟩ := hc k hlt
        have o1 := HX.out.carry b1
        replace p0 := keepc b1 p0
        replace p1 := keepc b1 p1
        have BB := Lib.hid (next HB.out b1)
        have OX := Lib.hid o1
        clear hc b1 o1
        by_cases he : (nthBatch bs k).d = n
        · have hb : ((nthBatch bs k).d == n) = true := by simp [he]
          have hres := getOf_hit hv (show FirstAt bs n k from ⟨hk, HS.out, fun _ => he⟩) hlt
          have HR := Lib.hid hres
          have c0 := OX.out.cell (j := 0) (u := .int .i64 0) rfl
          have c1 := OX.out.cell (j := 1) (u := .int .i64 0) rfl
          have c2 := OX.out.cell (j := 2) (u := .int .i64 0) rfl
          have c3 := OX.out.cell (j := 3) (u := .int .i64 0) rfl
          have f0 := OX.out.free 0
          have f1 := OX.out.free 1
          have f2 := OX.out.free 2
          have f3 := OX.out.free 3
          clear he hres
          go_wp2_with fail
          refine bodyPost_ret (v := .tuple #[.agg #[.int .i64 (nthBatch bs k).d, .int .i64 (nthBatch bs k).a, .int .i64 (nthBatch bs k).r, .int .i64 (nthBatch bs k).s], .bool true]) (by simp [results, Try.results25, go_sem, *]) rfl ⟨by rw [HR.out], ?_⟩
          exact (((BB.out.setCell (by simp) _).setCell (by simp) _).setCell (by simp) _).setCell (by simp) _
        · have hb : ((nthBatch bs k).d == n) = false := by simp [he]
          have HE := Lib.hid he
          clear he hv
          go_wp2_with fail
          go_roundw
          case rel => exact ⟨k + 1, by omega, by go_num, (fun j hj => by
            by_cases e : j = k
            · subst e; exact HE.out
            · exact HS.out j (by omega)), p0, p1, OX.out, BB.out⟩
          case measure => simp [intOf]; omega
    · have hd : decide (k < bs.length) = false := by simpa using hlt
      have e : k = bs.length := by omega
      have hres : getOf f bs n = (VBatch.zero, false) := by
        rcases hv : storeB f bs with _ | _
        · exact getOf_no hv
        · exact getOf_miss hv (show FirstAt bs n k from ⟨hk, hs, fun hh => absurd hh hlt⟩) hlt
      have HR := Lib.hid hres
      have BB := Lib.hid hbel
      have c0 := hbox.cell (j := 0) (u := .int .i64 0) rfl
      have c1 := hbox.cell (j := 1) (u := .int .i64 0) rfl
      have c2 := hbox.cell (j := 2) (u := .int .i64 0) rfl
      have c3 := hbox.cell (j := 3) (u := .int .i64 0) rfl
      have f0 := hbox.free 0
      have f1 := hbox.free 1
      have f2 := hbox.free 2
      have f3 := hbox.free 3
      clear hs hbox hbel hres e
      go_wp2_with fail
      refine bodyPost_ret (v := .tuple #[.agg #[.int .i64 0, .int .i64 0, .int .i64 0, .int .i64 0], .bool false]) (by simp [results, Try.results25, go_sem, *]) rfl ⟨by rw [HR.out]; rfl, ?_⟩
      exact (((BB.out.setCell (by simp) _).setCell (by simp) _).setCell (by simp) _).setCell (by simp) _
end Go.Proofs.Ytmfbhddnlgbcmaa
