/- The laws' own small functions on lists: membership, selections, what two lists share, equality. -/
import Derived.Test.YtohnodphlaoohaaOwn
import Derived.Test.YtohnodphlaoohaaSel
namespace Go.Proofs.Ytohnodphlaoohaa
open Go.RowKit
set_option linter.unusedVariables false

/-- The values f j of those j below k that p selects. -/
def pickTo (p : Nat → Bool) (f : Nat → Int) : Nat → List Int
  | 0 => []
  | k + 1 => if p k = true then pickTo p f k ++ [f k] else pickTo p f k
theorem pickTo_len (p : Nat → Bool) (f : Nat → Int) (k : Nat) : (pickTo p f k).length ≤ k := by
  induction k with
  | zero => simp [pickTo]
  | succ k ih =>
    unfold pickTo
    split
    · rw [List.length_append]; simp; omega
    · omega
theorem pickTo_yes {p : Nat → Bool} {f : Nat → Int} {k : Nat} (h : p k = true) : pickTo p f (k + 1) = pickTo p f k ++ [f k] := by rw [pickTo, if_pos h]
theorem pickTo_no {p : Nat → Bool} {f : Nat → Int} {k : Nat} (h : p k = false) : pickTo p f (k + 1) = pickTo p f k := by rw [pickTo, if_neg (by simp [h])]
theorem pickTo_filter (q : Int → Bool) (zs : List Int) : pickTo (fun j => q (nth zs j)) (nth zs) zs.length = zs.filter q := by
  have h : ∀ k, k ≤ zs.length → pickTo (fun j => q (nth zs j)) (nth zs) k = (zs.take k).filter q := by
    intro k
    induction k with
    | zero => intro _; simp [pickTo]
    | succ k ih =>
      intro hk
      rw [pickTo, ih (by omega), List.take_succ_eq_append_getElem (by omega), List.filter_append, ← nth_eq (show k < zs.length by omega)]
      by_cases hq : q (nth zs k) = true
      · rw [if_pos hq]; simp [hq]
      · rw [if_neg hq]; simp [hq]
  rw [h _ (Nat.le_refl _), List.take_length]
theorem selTo_pick (p : Nat → Bool) (k : Nat) : selTo p k = pickTo p (fun j => (j : Int)) k := by
  induction k with
  | zero => rfl
  | succ k ih => simp only [selTo, pickTo]; rw [ih]

/-- A list of numbers was made in new memory; nothing else has turned. -/
def MadeI (w : World) (zs : List Int) (e : Ending) (w' : World) : Prop :=
  ∃ g cap : Nat, e = .returned (.slice (some ⟨g, 0, none⟩) zs.length cap) ∧ IntsUp w' w.heap.size (some ⟨g, 0, none⟩) zs ∧ zs.length ≤ cap ∧ Below w.heap.size w w'
theorem below_own {w wr w' : World} {v : Value} {base n : Nat} {e : TypeId} {size : Nat} {xs : List Value} (h : Below w.heap.size w wr) (ho : Own wr base e size v n xs) (hb : w.heap.size ≤ base) (hg : wr.grownBy w' v.ownBlock) : Below w.heap.size w w' :=
  h.grown hg h.size (fun k hk => by have := ho.base_le k hk; omega)
set_option maxHeartbeats 1000000 in
theorem l_hasInt (A : Option Addr) (c : Nat) (zs : List Int) (z : Int) (w : World) (B : Nat) (h : Ints w B A zs) (hn : zs.length ≤ 1048576) :
    Calls Try.prog 75 #[.slice A zs.length c, .int .i64 z] w fun e w' => e = .returned (.bool (hasB zs z)) ∧ w = w' := by
  go_enter Try.func75, Try.ntmps75
  go_wp2
  go_loop [5] (fun i => ∃ k : Nat, k ≤ zs.length ∧ i = .int .i64 k ∧ ∀ j, j < k → nth zs j ≠ z) (fun i => zs.length - (intOf i).toNat)
  case atStart => exact ⟨0, Nat.zero_le _, rfl, fun j hj => absurd hj (by omega)⟩
  case round =>
    obtain ⟨k, hk, rfl, hs⟩ := hrel
    have HS := Lib.hid hs
    clear hs
    by_cases hlt : k < zs.length
    · obtain ⟨b, off, rfl, hbb, hc⟩ := h.at_ hlt
      have hck := hc k hlt
      clear hc h
      by_cases hv : nth zs k = z
      · have hb : (nth zs k == z) = true := by simp [hv]
        have HV := Lib.hid hv
        clear hv
        go_wp2
        go_ret
        exact ⟨ret_bool (by rw [hasB_iff.2]; rw [← HV.out, nth_eq hlt]; exact List.getElem_mem hlt), rfl⟩
      · have hb : (nth zs k == z) = false := by simp [hv]
        have HV := Lib.hid hv
        clear hv
        go_wp2
        go_round
        case rel => exact ⟨k + 1, by omega, by go_num, fun j hj => by
          by_cases e : j = k
          · subst e; exact HV.out
          · exact HS.out j (by omega)⟩
        case measure => simp [intOf]; omega
    · clear h
      go_wp2
      go_ret
      exact ⟨ret_bool (by
        rw [hasB_no.2]
        intro hm
        obtain ⟨i, hi, e⟩ := List.getElem_of_mem hm
        exact HS.out i (by omega) (by rw [nth_eq hi, e])), rfl⟩
set_option maxHeartbeats 1000000 in
theorem s_l1Has (A : Option Addr) (c : Nat) (zs : List Int) (z : Int) (w : World) (B : Nat) (h : Ints w B A zs) (hn : zs.length ≤ 1048576) :
    Calls Try.prog 74 #[.slice A zs.length c, .int .i64 z] w fun e w' => e = .returned (.bool (hasB zs z)) ∧ w = w' := by
  go_enter Try.func74, Try.ntmps74
  go_wp2
  go_loop [5] (fun i => ∃ k : Nat, k ≤ zs.length ∧ i = .int .i64 k ∧ ∀ j, j < k → nth zs j ≠ z) (fun i => zs.length - (intOf i).toNat)
  case atStart => exact ⟨0, Nat.zero_le _, rfl, fun j hj => absurd hj (by omega)⟩
  case round =>
    obtain ⟨k, hk, rfl, hs⟩ := hrel
    have HS := Lib.hid hs
    clear hs
    by_cases hlt : k < zs.length
    · obtain ⟨b, off, rfl, hbb, hc⟩ := h.at_ hlt
      have hck := hc k hlt
      clear hc h
      by_cases hv : nth zs k = z
      · have hb : (nth zs k == z) = true := by simp [hv]
        have HV := Lib.hid hv
        clear hv
        go_wp2
        go_ret
        exact ⟨ret_bool (by rw [hasB_iff.2]; rw [← HV.out, nth_eq hlt]; exact List.getElem_mem hlt), rfl⟩
      · have hb : (nth zs k == z) = false := by simp [hv]
        have HV := Lib.hid hv
        clear hv
        go_wp2
        go_round
        case rel => exact ⟨k + 1, by omega, by go_num, fun j hj => by
          by_cases e : j = k
          · subst e; exact HV.out
          · exact HS.out j (by omega)⟩
        case measure => simp [intOf]; omega
    · clear h
      go_wp2
      go_ret
      exact ⟨ret_bool (by
        rw [hasB_no.2]
        intro hm
        obtain ⟨i, hi, e⟩ := List.getElem_of_mem hm
        exact HS.out i (by omega) (by rw [nth_eq hi, e])), rfl⟩
set_option maxHeartbeats 1000000 in
theorem l_common (A A' : Option Addr) (c c' : Nat) (xs ys : List Int) (w : World) (h : Ints w w.heap.size A xs) (h' : Ints w w.heap.size A' ys) (hn : xs.length ≤ 1048576) (hn' : ys.length ≤ 1048576) :
    Calls Try.prog 25 #[.slice A xs.length c, .slice A' ys.length c'] w (MadeI w (commonL xs ys)) := by
  have own0 : OwnI (w.alloc (.cells #[] 3)) w.heap.size (.slice (some ⟨w.heap.size, 0, none⟩) 0 0) [] := OwnI.start (Nat.le_refl _)
  have bel0 : Below w.heap.size w (w.alloc (.cells #[] 3)) := (Below.refl _ _).alloc (Nat.le_refl _) _
  have O1 := Lib.hid own0
  have B1 := Lib.hid bel0
  have H := Lib.hid h
  have H' := Lib.hid h'
  have hfin : pickTo (fun j => hasB ys (nth xs j)) (nth xs) xs.length = commonL xs ys := pickTo_filter _ _
  have HF := Lib.hid hfin
  clear own0 bel0 h h' hfin
  go_enter Try.func25, Try.ntmps25
  go_wp2
  go_loopw [5, 6] (fun v i wr => ∃ (k g cap : Nat), k ≤ xs.length ∧ i = .int .i64 k ∧ v = .slice (some ⟨g, 0, none⟩) (pickTo (fun j => hasB ys (nth xs j)) (nth xs) k).length cap ∧ OwnI wr w.heap.size v (pickTo (fun j => hasB ys (nth xs j)) (nth xs) k) ∧ Below w.heap.size w wr) (fun _ i _ => xs.length - (intOf i).toNat)
  case atStart => exact ⟨0, w.heap.size, 0, Nat.zero_le _, rfl, rfl, O1.out, B1.out⟩
  case round =>
    obtain ⟨k, g, cap, hk, rfl, rfl, hown, hbel⟩ := hrel
    have HO := Lib.hid hown
    have HB := Lib.hid hbel
    have hsz := hbel.size
    have hlen := pickTo_len (fun j => hasB ys (nth xs j)) (nth xs) k
    clear hown hbel
    by_cases hlt : k < xs.length
    · obtain ⟨b, off, rfl, hbb, hc⟩ := (H.out.below HB.out).at_ hlt
      have hck := hc k hlt
      clear hc
      rcases hb : hasB ys (nth xs k) with _ | _
      · go_wp2_with (go_at_call 75; refine (l_hasInt _ _ _ _ _ _ (H'.out.below HB.out) hn').mono ?_; rintro e w' ⟨rfl, rfl⟩)
        go_roundw
        case rel =>
          have hs := pickTo_no (p := fun j => hasB ys (nth xs j)) (f := nth xs) (k := k) hb
          exact ⟨k + 1, g, cap, by omega, by go_num, by rw [hs], by rw [hs]; exact HO.out, HB.out⟩
        case measure => simp [intOf]; omega
      · go_wp2_with (first | (go_at_call 75; refine (l_hasInt _ _ _ _ _ _ (H'.out.below HB.out) hn').mono ?_; rintro e w' ⟨rfl, rfl⟩) | (at_builtin; refine appendInt (by rfl) _ _ (by rfl) wr w.heap.size _ (pickTo (fun j => hasB ys (nth xs j)) (nth xs) k) _ (by rfl) HO.out (by rfl) (by omega) hsz ?_; intro g1 cap1 w4 own4 hg4))
        have O4 := Lib.hid own4
        have B4 := Lib.hid (below_own HB.out HO.out (Nat.le_refl _) hg4)
        clear own4 hg4
        go_wp2_with fail
        go_roundw
        case rel =>
          have hs := pickTo_yes (p := fun j => hasB ys (nth xs j)) (f := nth xs) (k := k) hb
          exact ⟨k + 1, g1, cap1, by omega, by go_num, by rw [hs, List.length_append]; rfl, by rw [hs]; exact O4.out, B4.out⟩
        case measure => simp [intOf]; omega
    · go_wp2_with fail
      go_ret
      have e : k = xs.length := by omega
      subst e
      have hu := HO.out.up
      rw [HF.out] at hu
      exact ⟨g, cap, ret_slice (by rw [HF.out]), hu.2.1, hu.2.2, HB.out⟩
end Go.Proofs.Ytohnodphlaoohaa
