/- Guilty members of two tallies: the program and the reference, by their contracts. -/
import Derived.Test.YtohnodphlaoohaaTally
import Derived.Test.YtohnodphlaoohaaSets
import Derived.Test.YtohnodphlaoohaaReg
import Derived.Test.YtohnodphlaoohaaDraw5
import Derived.Deep.RegionHeld3
namespace Go.Proofs.Ytohnodphlaoohaa
open Go.RowKit
set_option linter.unusedVariables false

set_option maxHeartbeats 1000000 in
theorem x_Index (A : Option Addr) (c : Nat) (zs : List Int) (z : Int) (w : World) (B : Nat) (h : Ints w B A zs) (hn : zs.length ≤ 1048576) (k : Nat) (hs : ∀ j, j < k → nth zs j ≠ z) (hk : k ≤ zs.length) (he : k < zs.length → nth zs k = z) :
    Calls Try.prog 115 #[.slice A zs.length c, .int .i64 z] w fun e w' => e = .returned (.int .i64 (if k < zs.length then (k : Int) else -1)) ∧ w = w' := by
  have HS := Lib.hid hs
  have HE := Lib.hid he
  clear hs he
  go_enter Try.func115, Try.ntmps115
  go_wp2
  go_loop [8] (fun i => ∃ q : Nat, q ≤ k ∧ i = .int .i64 q) (fun i => zs.length - (intOf i).toNat)
  case atStart => exact ⟨0, Nat.zero_le _, rfl⟩
  case round =>
    obtain ⟨q, hq, rfl⟩ := hrel
    by_cases hlt : q < zs.length
    · obtain ⟨b, off, rfl, hbb, hc⟩ := h.at_ hlt
      have hck := hc q hlt
      clear hc h
      by_cases hv : q = k
      · subst hv
        have hz : nth zs q = z := HE.out hlt
        have hb : (z == nth zs q) = true := by simp [hz]
        have HZ := Lib.hid hz
        clear hz
        go_wp2
        go_ret
        exact ⟨rfl, rfl⟩
      · have hz : nth zs q ≠ z := HS.out q (by omega)
        have hb : (z == nth zs q) = false := by simpa using Ne.symm hz
        clear hz
        go_wp2
        go_round
        case rel => exact ⟨q + 1, by omega, by go_num⟩
        case measure => simp [intOf]; omega
    · clear h
      go_wp2
      go_ret
      exact ⟨rfl, rfl⟩
theorem first_of (zs : List Int) (z : Int) : ∃ k, k ≤ zs.length ∧ (∀ j, j < k → nth zs j ≠ z) ∧ (k < zs.length → nth zs k = z) ∧ hasB zs z = decide (k < zs.length) := by
  have hex : ∀ m k, k + m = zs.length → (∀ j, j < k → nth zs j ≠ z) → ∃ r, r ≤ zs.length ∧ (∀ j, j < r → nth zs j ≠ z) ∧ (r < zs.length → nth zs r = z) := by
    intro m
    induction m with
    | zero => intro k h1 h2; exact ⟨k, by omega, h2, fun h => absurd h (by omega)⟩
    | succ m ih =>
      intro k h1 h2
      by_cases h : nth zs k = z
      · exact ⟨k, by omega, h2, fun _ => h⟩
      · exact ih (k + 1) (by omega) (fun j hj => by
          by_cases e : j = k
          · subst e; exact h
          · exact h2 j (by omega))
  obtain ⟨r, h1, h2, h3⟩ := hex zs.length 0 (by omega) (fun j hj => absurd hj (by omega))
  refine ⟨r, h1, h2, h3, ?_⟩
  by_cases hr : r < zs.length
  · rw [hasB_iff.2 (by rw [← h3 hr, nth_eq hr]; exact List.getElem_mem hr)]; simp [hr]
  · rw [hasB_no.2 (fun hm => by
      obtain ⟨i, hi, e⟩ := List.getElem_of_mem hm
      exact h2 i (by omega) (by rw [nth_eq hi, e]))]; simp [hr]
set_option maxHeartbeats 1000000 in
theorem x_Contains (A : Option Addr) (c : Nat) (zs : List Int) (z : Int) (w : World) (B : Nat) (h : Ints w B A zs) (hn : zs.length ≤ 1048576) :
    Calls Try.prog 72 #[.slice A zs.length c, .int .i64 z] w fun e w' => e = .returned (.bool (hasB zs z)) ∧ w = w' := by
  obtain ⟨k, h1, h2, h3, h4⟩ := first_of zs z
  have hx := x_Index A c zs z w B h hn k h2 h1 h3
  rw [h4]
  by_cases hk : k < zs.length
  · rw [if_pos hk] at hx
    have hd : decide (k < zs.length) = true := by simpa using hk
    rw [hd]
    clear h2 h3 h4 hd h
    go_enter Try.func72, Try.ntmps72
    go_wp2_with fail
    refine hx.mono ?_
    rintro e w' ⟨rfl, rfl⟩
    clear hx
    go_wp2_with fail
    go_ret
    exact ⟨rfl, rfl⟩
  · rw [if_neg hk] at hx
    have hd : decide (k < zs.length) = false := by simpa using hk
    rw [hd]
    clear h2 h3 h4 hd h
    go_enter Try.func72, Try.ntmps72
    go_wp2_with fail
    refine hx.mono ?_
    rintro e w' ⟨rfl, rfl⟩
    clear hx
    go_wp2_with fail
    go_ret
    exact ⟨rfl, rfl⟩
set_option maxHeartbeats 1000000 in
theorem i_subject (r a d : Int) (w : World) :
    Calls Try.prog 114 #[.agg #[.int .i64 r, .int .i64 a, .int .i64 d]] w fun e w' => e = .returned (.agg #[.int .i64 r, .int .i64 a]) ∧ Below w.heap.size w w' := by
  go_enter Try.func114, Try.ntmps114
  go_wp2_with fail
  exact bodyPost_ret (v := .agg #[.int .i64 r, .int .i64 a]) (by simp [results, Try.results114, go_sem]) rfl ⟨rfl, allocB2 w _ _⟩
/-- The closure of 'against': does the other vote contradict the one in the box? -/
def contraI (r a d r' a' d' : Int) : Bool := decide (r = r') && (decide (a = a') && !decide (d = d'))
set_option maxHeartbeats 1000000 in
theorem i_against1 (r a d r' a' d' : Int) (g : Nat) (w : World) (h : Box w g 35 #[.int .i64 r, .int .i64 a, .int .i64 d]) :
    Calls Try.prog 113 #[.agg #[.int .i64 r', .int .i64 a', .int .i64 d'], .pointer (some ⟨g, 0, none⟩)] w fun e w' => e = .returned (.bool (contraI r a d r' a' d')) ∧ Below w.heap.size w w' := by
  have hg := h.lt
  by_cases h1 : r' = r
  · subst h1
    by_cases h2 : a' = a
    · subst h2
      by_cases h3 : d' = d
      · subst h3
        have hdd : (d' != d') = false := by simp
        have BB := Lib.hid (allocB w (.cells #[.int .i64 r', .int .i64 a', .int .i64 d'] 35))
        have XB := Lib.hid (h.carry BB.out)
        have YB := Lib.hid (Box.new w #[.int .i64 r', .int .i64 a', .int .i64 d'] 35)
        clear h
        go_enter Try.func113, Try.ntmps113
        go_wp2_with fail
        have gx0 := fun p : GrowOf (w.alloc (.cells #[.int .i64 r', .int .i64 a', .int .i64 d'] 35)) => GrowOf.cell (XB.out.cell (j := 0) (u := .int .i64 r') rfl) p
        have gy0 := fun p : GrowOf (w.alloc (.cells #[.int .i64 r', .int .i64 a', .int .i64 d'] 35)) => GrowOf.cell (YB.out.cell (j := 0) (u := .int .i64 r') rfl) p
        have gx1 := fun p : GrowOf (w.alloc (.cells #[.int .i64 r', .int .i64 a', .int .i64 d'] 35)) => GrowOf.cell (XB.out.cell (j := 1) (u := .int .i64 a') rfl) p
        have gy1 := fun p : GrowOf (w.alloc (.cells #[.int .i64 r', .int .i64 a', .int .i64 d'] 35)) => GrowOf.cell (YB.out.cell (j := 1) (u := .int .i64 a') rfl) p
        have gx2 := fun p : GrowOf (w.alloc (.cells #[.int .i64 r', .int .i64 a', .int .i64 d'] 35)) => GrowOf.cell (XB.out.cell (j := 2) (u := .int .i64 d') rfl) p
        have gy2 := fun p : GrowOf (w.alloc (.cells #[.int .i64 r', .int .i64 a', .int .i64 d'] 35)) => GrowOf.cell (YB.out.cell (j := 2) (u := .int .i64 d') rfl) p
        refine wp_region_grow (by kernel_rfl) (by kernel_rfl) ?_
        repeat (go_big_quiet_step ((go_at_call 114; exact grow_below (i_subject _ _ _ _))))
        refine wpQuiet_nil ?_
        rintro _ ⟨pq, rfl⟩
        have HQ := Lib.hid (next BB.out pq.h)
        clear gx0 gx1 gx2 gy0 gy1 gy2
        go_wp2_with fail
        go_ret
        exact ⟨ret_bool (by simp [contraI]), HQ.out⟩
      · have hdd : (d' != d) = true := by simpa using h3
        have H3 := Lib.hid h3
        clear h3
        have BB := Lib.hid (allocB w (.cells #[.int .i64 r', .int .i64 a', .int .i64 d'] 35))
        have XB := Lib.hid (h.carry BB.out)
        have YB := Lib.hid (Box.new w #[.int .i64 r', .int .i64 a', .int .i64 d'] 35)
        clear h
        go_enter Try.func113, Try.ntmps113
        go_wp2_with fail
        have gx0 := fun p : GrowOf (w.alloc (.cells #[.int .i64 r', .int .i64 a', .int .i64 d'] 35)) => GrowOf.cell (XB.out.cell (j := 0) (u := .int .i64 r') rfl) p
        have gy0 := fun p : GrowOf (w.alloc (.cells #[.int .i64 r', .int .i64 a', .int .i64 d'] 35)) => GrowOf.cell (YB.out.cell (j := 0) (u := .int .i64 r') rfl) p
        have gx1 := fun p : GrowOf (w.alloc (.cells #[.int .i64 r', .int .i64 a', .int .i64 d'] 35)) => GrowOf.cell (XB.out.cell (j := 1) (u := .int .i64 a') rfl) p
        have gy1 := fun p : GrowOf (w.alloc (.cells #[.int .i64 r', .int .i64 a', .int .i64 d'] 35)) => GrowOf.cell (YB.out.cell (j := 1) (u := .int .i64 a') rfl) p
        have gx2 := fun p : GrowOf (w.alloc (.cells #[.int .i64 r', .int .i64 a', .int .i64 d'] 35)) => GrowOf.cell (XB.out.cell (j := 2) (u := .int .i64 d) rfl) p
        have gy2 := fun p : GrowOf (w.alloc (.cells #[.int .i64 r', .int .i64 a', .int .i64 d'] 35)) => GrowOf.cell (YB.out.cell (j := 2) (u := .int .i64 d') rfl) p
        refine wp_region_grow (by kernel_rfl) (by kernel_rfl) ?_
        repeat (go_big_quiet_step ((go_at_call 114; exact grow_below (i_subject _ _ _ _))))
        refine wpQuiet_nil ?_
        rintro _ ⟨pq, rfl⟩
        have HQ := Lib.hid (next BB.out pq.h)
        clear gx0 gx1 gx2 gy0 gy1 gy2
        go_wp2_with fail
        go_ret
        exact ⟨ret_bool (by simp [contraI, Ne.symm H3.out]), HQ.out⟩
    · have hdd : (a' == a) = false := by simpa using h2
      have H3 := Lib.hid h2
      clear h2
      have BB := Lib.hid (allocB w (.cells #[.int .i64 r', .int .i64 a', .int .i64 d'] 35))
      have XB := Lib.hid (h.carry BB.out)
      have YB := Lib.hid (Box.new w #[.int .i64 r', .int .i64 a', .int .i64 d'] 35)
      clear h
      go_enter Try.func113, Try.ntmps113
      go_wp2_with fail
      have gx0 := fun p : GrowOf (w.alloc (.cells #[.int .i64 r', .int .i64 a', .int .i64 d'] 35)) => GrowOf.cell (XB.out.cell (j := 0) (u := .int .i64 r') rfl) p
      have gy0 := fun p : GrowOf (w.alloc (.cells #[.int .i64 r', .int .i64 a', .int .i64 d'] 35)) => GrowOf.cell (YB.out.cell (j := 0) (u := .int .i64 r') rfl) p
      have gx1 := fun p : GrowOf (w.alloc (.cells #[.int .i64 r', .int .i64 a', .int .i64 d'] 35)) => GrowOf.cell (XB.out.cell (j := 1) (u := .int .i64 a) rfl) p
      have gy1 := fun p : GrowOf (w.alloc (.cells #[.int .i64 r', .int .i64 a', .int .i64 d'] 35)) => GrowOf.cell (YB.out.cell (j := 1) (u := .int .i64 a') rfl) p
      have gx2 := fun p : GrowOf (w.alloc (.cells #[.int .i64 r', .int .i64 a', .int .i64 d'] 35)) => GrowOf.cell (XB.out.cell (j := 2) (u := .int .i64 d) rfl) p
      have gy2 := fun p : GrowOf (w.alloc (.cells #[.int .i64 r', .int .i64 a', .int .i64 d'] 35)) => GrowOf.cell (YB.out.cell (j := 2) (u := .int .i64 d') rfl) p
      refine wp_region_grow (by kernel_rfl) (by kernel_rfl) ?_
      repeat (go_big_quiet_step ((go_at_call 114; exact grow_below (i_subject _ _ _ _))))
      refine wpQuiet_nil ?_
      rintro _ ⟨pq, rfl⟩
      have HQ := Lib.hid (next BB.out pq.h)
      clear gx0 gx1 gx2 gy0 gy1 gy2
      go_wp2_with fail
      go_ret
      exact ⟨ret_bool (by simp [contraI, Ne.symm H3.out]), HQ.out⟩
  · have hdd : (r' == r) = false := by simpa using h1
    have H3 := Lib.hid h1
    clear h1
    have BB := Lib.hid (allocB w (.cells #[.int .i64 r', .int .i64 a', .int .i64 d'] 35))
    have XB := Lib.hid (h.carry BB.out)
    have YB := Lib.hid (Box.new w #[.int .i64 r', .int .i64 a', .int .i64 d'] 35)
    clear h
    go_enter Try.func113, Try.ntmps113
    go_wp2_with fail
    have gx0 := fun p : GrowOf (w.alloc (.cells #[.int .i64 r', .int .i64 a', .int .i64 d'] 35)) => GrowOf.cell (XB.out.cell (j := 0) (u := .int .i64 r) rfl) p
    have gy0 := fun p : GrowOf (w.alloc (.cells #[.int .i64 r', .int .i64 a', .int .i64 d'] 35)) => GrowOf.cell (YB.out.cell (j := 0) (u := .int .i64 r') rfl) p
    have gx1 := fun p : GrowOf (w.alloc (.cells #[.int .i64 r', .int .i64 a', .int .i64 d'] 35)) => GrowOf.cell (XB.out.cell (j := 1) (u := .int .i64 a) rfl) p
    have gy1 := fun p : GrowOf (w.alloc (.cells #[.int .i64 r', .int .i64 a', .int .i64 d'] 35)) => GrowOf.cell (YB.out.cell (j := 1) (u := .int .i64 a') rfl) p
    have gx2 := fun p : GrowOf (w.alloc (.cells #[.int .i64 r', .int .i64 a', .int .i64 d'] 35)) => GrowOf.cell (XB.out.cell (j := 2) (u := .int .i64 d) rfl) p
    have gy2 := fun p : GrowOf (w.alloc (.cells #[.int .i64 r', .int .i64 a', .int .i64 d'] 35)) => GrowOf.cell (YB.out.cell (j := 2) (u := .int .i64 d') rfl) p
    refine wp_region_grow (by kernel_rfl) (by kernel_rfl) ?_
    repeat (go_big_quiet_step ((go_at_call 114; exact grow_below (i_subject _ _ _ _))))
    refine wpQuiet_nil ?_
    rintro _ ⟨pq, rfl⟩
    have HQ := Lib.hid (next BB.out pq.h)
    clear gx0 gx1 gx2 gy0 gy1 gy2
    go_wp2_with fail
    go_ret
    exact ⟨ret_bool (by simp [contraI, Ne.symm H3.out]), HQ.out⟩
end Go.Proofs.Ytohnodphlaoohaa
