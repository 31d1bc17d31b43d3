/- The linked list of a store: inserting a batch at its place. -/
import Derived.Test.YtmfbhddnlgbcmaaPutP
namespace Go.Proofs.Ytmfbhddnlgbcmaa
open Go.RowKit
set_option linter.unusedVariables false

theorem ins_get {α : Type} {l : List α} {x : α} {k i : Nat} (hk : k ≤ l.length) : (l.take k ++ x :: l.drop k)[i]? = if i < k then l[i]? else if i = k then some x else l[i - 1]? := by
  by_cases h1 : i < k
  · rw [if_pos h1, List.getElem?_append_left (by simp; omega), List.getElem?_take, if_pos h1]
  · rw [if_neg h1, List.getElem?_append_right (by simp; omega)]
    have hl : (l.take k).length = k := by simp; omega
    rw [hl]
    by_cases h2 : i = k
    · subst h2; rw [if_pos rfl, Nat.sub_self]; rfl
    · rw [if_neg h2]
      obtain ⟨m, rfl⟩ : ∃ m, i = k + m + 1 := ⟨i - k - 1, by omega⟩
      rw [show k + m + 1 - k = m + 1 by omega, List.getElem?_cons_succ, List.getElem?_drop, show k + m + 1 - 1 = k + m by omega]
theorem ShelfTo.ins {W : World} {L : Nat} {gs : List Nat} {bs : List VBatch} {b : VBatch} {N k : Nat} (hl : gs.length = bs.length) (hk : k ≤ bs.length)
    (hN : Box W N 70 (nd b (ptr gs[k]?)))
    (h1 : ∀ i, i < bs.length → i + 1 ≠ k → Box W (nthg gs i) 70 (nd (nthBatch bs i) (ptr gs[i + 1]?)))
    (h2 : 0 < k → Box W (nthg gs (k - 1)) 70 (nd (nthBatch bs (k - 1)) (some ⟨N, 0, none⟩)))
    (low : ∀ i, i < bs.length → L ≤ nthg gs i) (hLN : L ≤ N) (inj : ∀ i j, i < j → j < bs.length → nthg gs i ≠ nthg gs j) (hne : ∀ i, i < bs.length → nthg gs i ≠ N) :
    ShelfTo W L (gs.take k ++ N :: gs.drop k) (bs.take k ++ b :: bs.drop k) (bs.length + 1) := by
  have hg : ∀ i, (gs.take k ++ N :: gs.drop k)[i]? = if i < k then gs[i]? else if i = k then some N else gs[i - 1]? := fun i => ins_get (by omega)
  have hb : ∀ i, nthBatch (bs.take k ++ b :: bs.drop k) i = if i < k then nthBatch bs i else if i = k then b else nthBatch bs (i - 1) := fun i => by
    unfold nthBatch; rw [List.getD_eq_getElem?_getD, ins_get hk, List.getD_eq_getElem?_getD, List.getD_eq_getElem?_getD]
    split
    · rfl
    · split <;> rfl
  have hn : ∀ i, nthg (gs.take k ++ N :: gs.drop k) i = if i < k then nthg gs i else if i = k then N else nthg gs (i - 1) := fun i => by
    unfold nthg; rw [List.getD_eq_getElem?_getD, hg, List.getD_eq_getElem?_getD, List.getD_eq_getElem?_getD]
    split
    · rfl
    · split <;> rfl
  refine ⟨by simp [List.length_take]; omega, fun i hi => ?_, fun i hi => ?_, fun i j hij hj => ?_⟩
  · rw [hn, hb, hg]
    by_cases e1 : i < k
    · simp only [if_pos e1]
      by_cases e2 : i + 1 = k
      · subst e2
        have e3 : ¬ i + 1 < i + 1 := by omega
        simp only [if_neg e3, if_pos]
        exact h2 (by omega)
      · have e3 : i + 1 < k := by omega
        simp only [if_pos e3]; exact h1 i (by omega) e2
    · have e3 : ¬ i + 1 < k := by omega
      have e4 : ¬ i + 1 = k := by omega
      simp only [if_neg e1, if_neg e3, if_neg e4, Nat.add_sub_cancel]
      by_cases e2 : i = k
      · subst e2
        simp only [if_pos]; exact hN
      · simp only [if_neg e2]
        have := h1 (i - 1) (by omega) (by omega)
        rwa [show i - 1 + 1 = i by omega] at this
  · rw [hn]
    split
    · exact low i (by omega)
    · split
      · exact hLN
      · exact low (i - 1) (by omega)
  · rw [hn, hn]
    by_cases a1 : i < k
    · rw [if_pos a1]
      split
      · exact inj i j hij (by omega)
      · split
        · exact hne i (by omega)
        · exact inj i (j - 1) (by omega) (by omega)
    · have a3 : ¬ j < k := by omega
      have a4 : ¬ j = k := by omega
      simp only [if_neg a1, if_neg a3, if_neg a4]
      by_cases a2 : i = k
      · simp only [if_pos a2]
        exact Ne.symm (hne (j - 1) (by omega))
      · simp only [if_neg a2]
        exact inj (i - 1) (j - 1) (by omega) (by omega)
/-- The cell that points to the element at place k: the box of the first, or the element before. -/
def plAt (F : Nat) (gs : List Nat) (k : Nat) : Nat × Nat := if k = 0 then (F, 0) else (nthg gs (k - 1), 4)
theorem plAt_zero (F : Nat) (gs : List Nat) : plAt F gs 0 = (F, 0) := rfl
theorem plAt_succ (F : Nat) (gs : List Nat) (k : Nat) : plAt F gs (k + 1) = (nthg gs k, 4) := by simp [plAt]
section
variable {W : World} {L F k : Nat} {gs : List Nat} {bs : List VBatch}
theorem pl_cell (h : ShelfTo W L gs bs bs.length) (hF : Box W F 55 #[.pointer (ptr gs[0]?)]) (hk : k ≤ bs.length) :
    W.cell? ⟨(plAt F gs k).1, (plAt F gs k).2, none⟩ = some (.pointer (ptr gs[k]?)) ∧ W.frozen? ⟨(plAt F gs k).1, (plAt F gs k).2, none⟩ = false ∧ ((plAt F gs k).1 = F ∨ L ≤ (plAt F gs k).1) ∧ (plAt F gs k).1 < W.heap.size := by
  rcases k with _ | k
  · exact ⟨hF.cell rfl, hF.free 0, .inl rfl, hF.lt⟩
  · rw [plAt_succ]
    exact ⟨(h.cells (i := k) (by omega)).2.2.2.2, (h.node k (by omega)).free 4, .inr (h.low k (by omega)), h.lt (by omega)⟩
theorem ptr_first {N : Nat} (hk : k ≤ gs.length) : ptr (gs.take k ++ N :: gs.drop k)[0]? = if k = 0 then some ⟨N, 0, none⟩ else ptr gs[0]? := by
  rw [ins_get hk]
  by_cases e : k = 0
  · subst e; rfl
  · rw [if_pos (by omega), if_neg e]
/-- Hanging a new element in. -/
theorem pl_set {w0 : World} {b : VBatch} {N : Nat} (h : ShelfTo W L gs bs bs.length) (hF : Box W F 55 #[.pointer (ptr gs[0]?)]) (hk : k ≤ bs.length) (hFL : F < L ∨ ∀ i, i < bs.length → nthg gs i ≠ F)
    (hN : W.heap.size = N) (hL : L ≤ N) (hb : Below L w0 W) (hwF : w0.heap.size ≤ F) (hLw : L ≤ w0.heap.size) (hne : ∀ i, i < bs.length → nthg gs i ≠ F) :
    ShelfTo ((W.setCell ⟨(plAt F gs k).1, (plAt F gs k).2, none⟩ (.pointer (some ⟨N, 0, none⟩))).alloc (.cells (nd b (ptr gs[k]?)) 70)) L (gs.take k ++ N :: gs.drop k) (bs.take k ++ b :: bs.drop k) (bs.length + 1) ∧
      Box ((W.setCell ⟨(plAt F gs k).1, (plAt F gs k).2, none⟩ (.pointer (some ⟨N, 0, none⟩))).alloc (.cells (nd b (ptr gs[k]?)) 70)) F 55 #[.pointer (ptr (gs.take k ++ N :: gs.drop k)[0]?)] ∧
      Below L w0 ((W.setCell ⟨(plAt F gs k).1, (plAt F gs k).2, none⟩ (.pointer (some ⟨N, 0, none⟩))).alloc (.cells (nd b (ptr gs[k]?)) 70)) := by
  have hl := h.len
  have hpl := (pl_cell h hF hk).2.2
  have hb1 := hb.setCell (p := ⟨(plAt F gs k).1, (plAt F gs k).2, none⟩) (by show L ≤ (plAt F gs k).1; omega) (.pointer (some ⟨N, 0, none⟩))
  have hsz : (W.setCell ⟨(plAt F gs k).1, (plAt F gs k).2, none⟩ (.pointer (some ⟨N, 0, none⟩))).heap.size = W.heap.size := by simp [World.setCell]
  generalize hV : W.setCell ⟨(plAt F gs k).1, (plAt F gs k).2, none⟩ (.pointer (some ⟨N, 0, none⟩)) = V at *
  have hbA : Below V.heap.size V (V.alloc (.cells (nd b (ptr gs[k]?)) 70)) := allocB V _
  refine ⟨ShelfTo.ins hl hk ?_ (fun i hi e => ?_) (fun h0 => ?_) h.low hL h.inj (fun i hi => ?_), ?_, (hb1.trans (hbA.mono (by have := hb.size; omega)))⟩
  · have := Box.new V (nd b (ptr gs[k]?)) 70
    rwa [hsz, hN] at this
  · have hx := h.node i hi
    refine Box.carry ?_ hbA
    rw [← hV]
    refine hx.other ?_ _ _
    rcases k with _ | k
    · exact Ne.symm (hne i hi)
    · rw [plAt_succ]
      by_cases hik : i < k
      · exact Ne.symm (h.inj i k hik (by omega))
      · exact h.inj k i (by omega) hi
  · have hx := h.node (k - 1) (by omega)
    refine Box.carry ?_ hbA
    rw [← hV]
    obtain ⟨m, rfl⟩ : ∃ m, k = m + 1 := ⟨k - 1, by omega⟩
    rw [plAt_succ, Nat.add_sub_cancel]
    rw [Nat.add_sub_cancel] at hx
    have := hx.set 4 (.pointer (some ⟨N, 0, none⟩))
    exact this
  · have := h.lt hi; omega
  · refine Box.carry ?_ hbA
    rw [ptr_first (by omega), ← hV]
    rcases k with _ | k
    · rw [plAt_zero, if_pos rfl]
      exact hF.set 0 _
    · rw [plAt_succ, if_neg (by omega)]
      exact hF.other (hne k (by omega)) _ _
end
/-- A batch was hung in. -/
def InsAt (L : Nat) (gs : List Nat) (bs : List VBatch) (b : VBatch) (w : World) (e : Ending) (w' : World) : Prop :=
  ∃ gs' : List Nat, e = .returned (.pointer (ptr gs'[0]?)) ∧ ShelfTo w' L gs' (inserted bs b) (inserted bs b).length ∧ Below L w w'
set_option maxHeartbeats 4000000 in
theorem i_insert (L : Nat) (gs : List Nat) (bs : List VBatch) (b : VBatch) (w : World) (h : ShelfTo w L gs bs bs.length) (hL : L ≤ w.heap.size) :
    Calls Try.prog 42 #[.pointer (ptr gs[0]?), .agg #[.int .i64 b.d, .int .i64 b.a, .int .i64 b.r, .int .i64 b.s]] w (InsAt L gs bs b w) := by
  have ba := allocB2 w (.cells #[.int .i64 b.d, .int .i64 b.a, .int .i64 b.r, .int .i64 b.s] 27) (.cells #[.pointer (ptr gs[0]?)] 55)
  have hne : ∀ i, i < bs.length → nthg gs i ≠ w.heap.size + 1 := fun i hi => by have := h.lt hi; omega
  have S1 := Lib.hid (h.carry ba)
  have YB := Lib.hid ((Box.new w #[.int .i64 b.d, .int .i64 b.a, .int .i64 b.r, .int .i64 b.s] 27).carry (allocB _ (.cells #[.pointer (ptr gs[0]?)] 55)))
  have FB := Lib.hid (show Box ((w.alloc (.cells #[.int .i64 b.d, .int .i64 b.a, .int .i64 b.r, .int .i64 b.s] 27)).alloc (.cells #[.pointer (ptr gs[0]?)] 55)) (w.heap.size + 1) 55 #[.pointer (ptr gs[0]?)] from by
    have := Box.new (w.alloc (.cells #[.int .i64 b.d, .int .i64 b.a, .int .i64 b.r, .int .i64 b.s] 27)) #[.pointer (ptr gs[0]?)] 55
    simpa using this)
  have BB := Lib.hid (ba.mono hL)
  have HNE := Lib.hid hne
  clear h ba hne
  go_enter Try.func42, Try.ntmps42
  go_wp2_with fail
  go_loopg [6] bs.length (fun gk p wr => ∃ k : Nat, k ≤ bs.length ∧ gk = bs.length - k ∧ p = .pointer (some ⟨(plAt (w.heap.size + 1) gs k).1, (plAt (w.heap.size + 1) gs k).2, none⟩) ∧ (∀ j, j < k → (nthBatch bs j).d < b.d) ∧ ShelfTo wr L gs bs bs.length ∧ Box wr w.heap.size 27 #[.int .i64 b.d, .int .i64 b.a, .int .i64 b.r, .int .i64 b.s] ∧ Box wr (w.heap.size + 1) 55 #[.pointer (ptr gs[0]?)] ∧ Below L w wr)
  case atStart => exact ⟨0, Nat.zero_le _, rfl, rfl, (fun j hj => absurd hj (by omega)), S1.out, YB.out, FB.out, BB.out⟩
  case round =>
    obtain ⟨k, hk, hgk, rfl, hs, hsh, hy, hf, hbel⟩ := hrel
    obtain ⟨pc, pf, pL, pl⟩ := pl_cell hsh hf hk
    have y0 := hy.cell (j := 0) (u := .int .i64 b.d) rfl
    have HS := Lib.hid hs
    have HG := Lib.hid hgk
    have HSH := Lib.hid hsh
    have HY := Lib.hid hy
    have HF := Lib.hid hf
    have HB := Lib.hid hbel
    have hl := hsh.len
    clear hs hgk S1 YB FB BB
    by_cases hgo : k < bs.length ∧ (nthBatch bs k).d < b.d
    · obtain ⟨hlt, hd⟩ := hgo
      obtain ⟨c0, _, _, _, c4⟩ := hsh.cells hlt
      rw [ptr_at (by omega)] at pc
      have hdd : decide ((nthBatch bs k).d < b.d) = true := by simpa using hd
      have hpl := plAt_succ (w.heap.size + 1) gs k
      have HP := Lib.hid hpl
      clear hsh hy hf hbel hl hpl
      generalize nthg gs k = g at *
      generalize (plAt (w.heap.size + 1) gs k).1 = pb at *
      generalize (plAt (w.heap.size + 1) gs k).2 = po at *
      go_wp2
      go_quiet (fail)
      go_wp2_with fail
      go_roundg (bs.length - (k + 1))
      case measure => have := HG.out; omega
      case rel => exact ⟨k + 1, by omega, rfl, by rw [HP.out], fun j hj => by
        by_cases e : j = k
        · subst e; exact hd
        · exact HS.out j (by omega), HSH.out.carry (below_drewN (Below.refl _ _) _), HY.out.carry (below_drewN (Below.refl _ _) _), HF.out.carry (below_drewN (Below.refl _ _) _), below_drewN HB.out _⟩
    · have hpk : PlaceAt bs b.d k := ⟨hk, HS.out, fun hlt hd => hgo ⟨hlt, hd⟩⟩
      have he := placeOf_eq hpk
      have hins : inserted bs b = bs.take k ++ b :: bs.drop k := by unfold inserted; rw [he]
      have hgl : (inserted bs b).length = bs.length + 1 := inserted_len
      have hfin := fun n : Nat => (pl_set (b := b) (N := wr.heap.size) (w0 := w) (hsh.carry (below_drewN (Below.refl wr.heap.size wr) n)) (hf.carry (below_drewN (Below.refl wr.heap.size wr) n)) hk (.inr HNE.out) rfl (by have := hbel.size; omega) (below_drewN hbel n) (by omega) hL HNE.out)
      simp only [fun n : Nat => (World.setCell_alloc_past (w := wr.drewN n) (.cells (nd b (ptr gs[k]?)) 70) (plAt (w.heap.size + 1) gs k).1 (plAt (w.heap.size + 1) gs k).2 (.pointer (some ⟨wr.heap.size, 0, none⟩)) pl).symm] at hfin
      rw [← hins, ← hgl] at hfin
      have FN := Lib.hid hfin
      have y1 := hy.cell (j := 1) (u := .int .i64 b.a) rfl
      have y2 := hy.cell (j := 2) (u := .int .i64 b.r) rfl
      have y3 := hy.cell (j := 3) (u := .int .i64 b.s) rfl
      clear hpk he hins hgl hfin
      by_cases hlt : k < bs.length
      · obtain ⟨c0, _⟩ := hsh.cells hlt
        have hdd : decide ((nthBatch bs k).d < b.d) = false := by simpa using fun h => hgo ⟨hlt, h⟩
        rw [ptr_at (by omega)] at pc FN
        clear hgo hsh hy hf hbel hl
        generalize nthg gs k = g at *
        generalize (plAt (w.heap.size + 1) gs k).1 = pb at *
        generalize (plAt (w.heap.size + 1) gs k).2 = po at *
        have qF := fun n : Nat => (FN.out n).2.1.cell (j := 0) (u := .pointer (ptr (gs.take k ++ wr.heap.size :: gs.drop k)[0]?)) rfl
        simp only [nd] at qF
        have pc2 : ∀ (n : Nat) (o : Obj), ((wr.drewN n).alloc o).cell? ⟨pb, po, none⟩ = some (.pointer (some ⟨g, 0, none⟩)) := fun n o => (World.cell?_alloc_lt (wr.drewN n) o _ pl).trans pc
        have pf2 : ∀ (n : Nat) (o : Obj), ((wr.drewN n).alloc o).frozen? ⟨pb, po, none⟩ = false := fun n o => ((allocB (wr.drewN n) o).frozen (p := ⟨pb, po, none⟩) pl).trans pf
        go_wp2
        go_quiet (fail)
        go_wp2_with fail
        go_region
        all_goals
          go_wp2_with fail
          go_ret
          exact ⟨_, rfl, (FN.out _).1, (FN.out _).2.2⟩
      · rw [ptr_end (by omega)] at pc FN
        clear hgo hsh hy hf hbel hl
        generalize (plAt (w.heap.size + 1) gs k).1 = pb at *
        generalize (plAt (w.heap.size + 1) gs k).2 = po at *
        have qF := fun n : Nat => (FN.out n).2.1.cell (j := 0) (u := .pointer (ptr (gs.take k ++ wr.heap.size :: gs.drop k)[0]?)) rfl
        simp only [nd] at qF
        have pc2 : ∀ (n : Nat) (o : Obj), ((wr.drewN n).alloc o).cell? ⟨pb, po, none⟩ = some (.pointer (none)) := fun n o => (World.cell?_alloc_lt (wr.drewN n) o _ pl).trans pc
        have pf2 : ∀ (n : Nat) (o : Obj), ((wr.drewN n).alloc o).frozen? ⟨pb, po, none⟩ = false := fun n o => ((allocB (wr.drewN n) o).frozen (p := ⟨pb, po, none⟩) pl).trans pf
        go_wp2
        go_quiet (fail)
        go_wp2_with fail
        go_region
        all_goals
          go_wp2_with fail
          go_ret
          exact ⟨_, rfl, (FN.out _).1, (FN.out _).2.2⟩
end Go.Proofs.Ytmfbhddnlgbcmaa
