/- What the laws draw: committees and sets of members, as lists of numbers in new memory. -/
import Derived.Test.YtohnodphlaoohaaRd
import Derived.Test.YtohnodphlaoohaaOwn
namespace Go.Proofs.Ytohnodphlaoohaa
open Go.RowKit
set_option linter.unusedVariables false

/-- A list of numbers was drawn: at most M of them, in new memory; of the old blocks only the reader's has turned. -/
def DrawnI (w : World) (B r P M : Nat) (e : Ending) (w' : World) : Prop :=
  ∃ (g c : Nat) (zs : List Int), e = .returned (.slice (some ⟨g, 0, none⟩) zs.length c) ∧ IntsUp w' w.heap.size (some ⟨g, 0, none⟩) zs ∧ zs.length ≤ M ∧ zs.length ≤ c ∧ RdAt w' B r P ∧ w.grownBy w' (some r)

theorem pos_of_beq {x k : Int} (h : x = k) : (x == k) = true := by simp [h]
theorem neg_of_beq {x k : Int} (h : ¬ x = k) : (x == k) = false := by simp [h]

/-- The table of sizes. -/
theorem tab9 {w : World} {b : Nat} {x : Int} (h0 : 0 ≤ x) (h9 : x < 9)
    (hb : w.heap[b]? = some (.cells #[.int .i64 4, .int .i64 4, .int .i64 4, .int .i64 1, .int .i64 2, .int .i64 3, .int .i64 5, .int .i64 6, .int .i64 7] 3 (0, 0))) :
    ∃ n : Nat, 1 ≤ n ∧ n ≤ 7 ∧ w.cell? ⟨b, x.toNat, none⟩ = some (.int .i64 n) := by
  rcases (show x = 0 ∨ x = 1 ∨ x = 2 ∨ x = 3 ∨ x = 4 ∨ x = 5 ∨ x = 6 ∨ x = 7 ∨ x = 8 by omega) with h | h | h | h | h | h | h | h | h <;> subst h
  · exact ⟨4, by omega, by omega, by rw [cell_of_row w b _ _ _ _ hb]; rfl⟩
  · exact ⟨4, by omega, by omega, by rw [cell_of_row w b _ _ _ _ hb]; rfl⟩
  · exact ⟨4, by omega, by omega, by rw [cell_of_row w b _ _ _ _ hb]; rfl⟩
  · exact ⟨1, by omega, by omega, by rw [cell_of_row w b _ _ _ _ hb]; rfl⟩
  · exact ⟨2, by omega, by omega, by rw [cell_of_row w b _ _ _ _ hb]; rfl⟩
  · exact ⟨3, by omega, by omega, by rw [cell_of_row w b _ _ _ _ hb]; rfl⟩
  · exact ⟨5, by omega, by omega, by rw [cell_of_row w b _ _ _ _ hb]; rfl⟩
  · exact ⟨6, by omega, by omega, by rw [cell_of_row w b _ _ _ _ hb]; rfl⟩
  · exact ⟨7, by omega, by omega, by rw [cell_of_row w b _ _ _ _ hb]; rfl⟩
/-- Some cell of a table of numbers. -/
theorem tabAny {w : World} {b : Nat} {t : TypeId} {x : Int} (zs : List Int) (h0 : 0 ≤ x) (h9 : x < zs.length) (hb : w.heap[b]? = some (.cells (zs.map (Value.int .i64)).toArray t (0, 0))) :
    w.cell? ⟨b, x.toNat, none⟩ = some (.int .i64 (nth zs x.toNat)) := by
  have hx : x.toNat < zs.length := by omega
  rw [cell_of_row w b _ _ _ _ hb]
  simp [List.getElem?_eq_getElem hx, nth_eq hx]

set_option maxHeartbeats 4000000 in
theorem s_l91Committee (w : World) (B r P : Nat) (h : RdAt w B r P) (hP : P ≤ 900000) :
    Calls Try.prog 67 #[.pointer (some ⟨r, 0, none⟩)] w (DrawnI w B r (P + 20) 11) := by
  have hrl := h.lt
  have H := Lib.hid h
  clear h
  go_enter Try.func67, Try.ntmps67
  go_wp2_with fail
  refine (pick_any _ B r P 9 ((H.out.carry ((Below.refl _ _).alloc (Nat.le_refl _) _)).carry ((Below.refl _ _).alloc (Nat.le_refl _) _)) (by omega)).mono ?_
  rintro e w1 ⟨x, rfl, hx0, _, hx9, hrd1, hg1, hs1⟩
  have hx := hx9 (by omega)
  obtain ⟨n, hn1, hn7, hcell⟩ := tab9 (w := w1) (b := w.heap.size + 1) hx0 hx (by
    rw [hg1.block (w.heap.size + 1) (by simp) (by simp; omega)]
    have := heap_alloc_new (w.alloc (.cells #[] 3)) (.cells #[.int .i64 4, .int .i64 4, .int .i64 4, .int .i64 1, .int .i64 2, .int .i64 3, .int .i64 5, .int .i64 6, .int .i64 7] 3)
    simpa using this)
  have own1 : OwnI w1 w.heap.size (.slice (some ⟨w.heap.size, 0, none⟩) 0 0) [] := ((OwnI.start (Nat.le_refl _)).alloc _).kept hg1 (fun g hg => by injection hg; omega)
  have gr1 : w.grownBy w1 (some r) := (gr_alloc (gr_alloc (gr_refl w r) _) _).trans hg1
  have O1 := Lib.hid own1
  have G1 := Lib.hid gr1
  have R1 := Lib.hid hrd1
  have hsz1 : w.heap.size + 2 ≤ w1.heap.size := by simp at hs1; omega
  clear own1 gr1 hrd1 hg1 hs1
  go_wp2_with fail
  clear hcell
  go_loopw [3, 5] (fun v i wr => ∃ (k g cap : Nat) (zs : List Int), k ≤ n ∧ zs.length = k ∧ i = .int .i64 k ∧ v = .slice (some ⟨g, 0, none⟩) k cap ∧ OwnI wr w.heap.size v zs ∧ RdAt wr B r (P + 1 + 2 * k) ∧ w.grownBy wr (some r)) (fun _ i _ => n - (intOf i).toNat)
  case atStart => exact ⟨0, w.heap.size, 0, [], Nat.zero_le _, rfl, rfl, rfl, O1.out, R1.out, G1.out⟩
  case round =>
    obtain ⟨k, g, cap, zs, hk, hzk, rfl, rfl, hown, hrd, hgr⟩ := hrel
    have HZ := Lib.hid hzk
    have HO := Lib.hid hown
    have HR := Lib.hid hrd
    have HG := Lib.hid hgr
    clear hzk hown hrd hgr
    by_cases hlt : k < n
    · go_wp2_with fail
      refine (pick_any _ B r _ 4 HR.out (by omega)).mono ?_
      rintro e w2 ⟨y, rfl, hy0, _, hy4, hrd2, hg2, hs2⟩
      have hy := hy4 (by omega)
      have O2 := Lib.hid (HO.out.kept hg2 (fun g hg => by injection hg; omega))
      have G2 := Lib.hid (HG.out.trans hg2)
      have R2 := Lib.hid hrd2
      clear hrd2 hg2 hs2 hy4
      go_wp2_with fail
      refine (pick_any _ B r _ 3 R2.out (by omega)).mono ?_
      rintro e w3 ⟨z, rfl, hz0, _, hz3, hrd3, hg3, hs3⟩
      have hz := hz3 (by omega)
      have O3 := Lib.hid (O2.out.kept hg3 (fun g hg => by injection hg; omega))
      have G3 := Lib.hid (G2.out.trans hg3)
      have R3 := Lib.hid hrd3
      clear hrd3 hg3 hs3 hz3
      have hyz0 : 0 ≤ y * z := Int.mul_nonneg hy0 hz0
      have hyz1 : y * z ≤ 100 := by
        have h1 : y * z ≤ 3 * z := Int.mul_le_mul_of_nonneg_right (by omega) hz0
        omega
      have hzl : zs.length ≤ 10000000 := by have := HZ.out; omega
      have hbs : w.heap.size ≤ w3.heap.size := G3.out.size
      go_wp2_with (at_builtin; refine appendInt (by rfl) _ _ (by rfl) w3 w.heap.size _ zs _ (by rfl) O3.out (by rfl) hzl hbs ?_; intro g1 cap1 w4 own4 hg4)
      have e1 : zs.length = k := HZ.out
      have O4 := Lib.hid own4
      have G4 := Lib.hid (gr_own G3.out hg4 (fun g hg => O3.out.base_le g hg))
      have R4 := Lib.hid (R3.out.grown hg4 (fun g hg => by have := O3.out.base_le g hg; omega))
      clear own4 hg4
      rw [e1]
      clear e1
      go_wp2_with fail
      go_roundw
      case rel => exact ⟨k + 1, g1, cap1, zs ++ [1 + y * z / 2], by omega, by rw [List.length_append, HZ.out]; rfl, by go_num, rfl, by have := O4.out; rw [HZ.out] at this; exact this, (R4.out).mono (by omega), G4.out⟩
      case measure => simp [intOf]; omega
    · have hkn : k = n := by omega
      have HK := Lib.hid hkn
      clear hkn
      go_wp2_with fail
      refine (pick_any _ B r _ 24 HR.out (by omega)).mono ?_
      rintro e w2 ⟨y, rfl, hy0, _, hy24, hrd2, hg2, hs2⟩
      have O2 := Lib.hid (HO.out.kept hg2 (fun g hg => by injection hg; omega))
      have G2 := Lib.hid (HG.out.trans hg2)
      have R2 := Lib.hid hrd2
      have hbs : w.heap.size ≤ w2.heap.size := G2.out.size
      have hzl : zs.length = k := HZ.out
      have HZL := Lib.hid hzl
      have hcap : zs.length ≤ cap := (O2.out.up).2.2
      clear hrd2 hg2 hs2 hy24 hzl
      by_cases y0 : y = 0
      · have b0 := pos_of_beq y0
        clear y0
        have hI : Ints (w2.alloc (.cells #[.int .i64 1, .int .i64 1, .int .i64 1, .int .i64 1] 3)) (w2.heap.size + 1) (some ⟨w2.heap.size, 0, none⟩) [1, 1, 1, 1] :=
          Ints.mk (by omega) (fun j hj => by
            rw [cell_of_row _ _ _ _ _ _ (heap_alloc_new w2 _)]
            rcases (show j = 0 ∨ j = 1 ∨ j = 2 ∨ j = 3 by simp at hj; omega) with h | h | h | h <;> subst h <;> rfl)
        have HI := Lib.hid hI
        clear hI
        have hl4 : zs.length + 4 ≤ 10000000 := by have := HZL.out; omega
        go_wp2_with (at_builtin; refine appendInts (by rfl) _ _ (by rfl) (w2.alloc (.cells #[.int .i64 1, .int .i64 1, .int .i64 1, .int .i64 1] 3)) w.heap.size _ zs (by rfl) (O2.out.alloc _) _ _ 4 4 [1, 1, 1, 1] (by rfl) rfl HI.out hl4 (by simp; omega) ?_; intro g1 cap1 w4 own4 hg4)
        have O4 := Lib.hid own4
        have G4 := Lib.hid (gr_own (gr_alloc G2.out _) hg4 (fun g hg => O2.out.base_le g hg))
        have R4 := Lib.hid ((R2.out.carry ((Below.refl _ _).alloc (Nat.le_refl _) _)).grown hg4 (fun g hg => by have := O2.out.base_le g hg; omega))
        clear own4 hg4
        go_wp2_with fail
        go_ret
        have hu := O4.out.up
        exact ⟨g1, cap1, zs ++ [1, 1, 1, 1], ret_slice hu.1, hu.2.1, by rw [List.length_append, HZL.out]; simp; omega, hu.2.2, R4.out.mono (by omega), G4.out⟩
      have b0 := neg_of_beq y0
      by_cases y1 : y = 1
      · have b1 := pos_of_beq y1
        clear y0 y1
        go_wp2_with fail
        refine (pick_any _ B r _ n R2.out (by omega)).mono ?_
        rintro e w3 ⟨x3, rfl, hx30, _, hx3n, hrd3, hg3, hs3⟩
        have hx3 : x3 < (k : Int) := by have := hx3n (by omega); have := HK.out; omega
        have O3 := Lib.hid (O2.out.kept hg3 (fun g hg => by injection hg; omega))
        have G3 := Lib.hid (G2.out.trans hg3)
        have R3 := Lib.hid hrd3
        have hs3' : w.heap.size ≤ w3.heap.size := G3.out.size
        clear hrd3 hg3 hs3 hx3n
        go_wp2_with fail
        refine (pick_any _ B r _ 4 (R3.out.carry ((Below.refl _ _).alloc (Nat.le_refl _) _)) (by omega)).mono ?_
        rintro e w4 ⟨x4, rfl, hx40, _, hx4n, hrd4, hg4, hs4⟩
        have hx4 := hx4n (by omega)
        have O4 := Lib.hid ((O3.out.alloc _).kept hg4 (fun g hg => by injection hg; omega))
        have G4 := Lib.hid ((gr_alloc G3.out _).trans hg4)
        have R4 := Lib.hid hrd4
        have ct := tabAny (w := w4) (b := w3.heap.size) (t := 3) (x := x4) [0, 9, 10, -1] hx40 (by simpa using hx4) (by
          rw [hg4.block w3.heap.size (by simp) (by simp; omega)]; exact heap_alloc_new w3 _)
        clear hrd4 hg4 hs4 hx4n
        have hxl : x3.toNat < zs.length := by have := HZL.out; omega
        have cx := O4.out.cell hxl
        have fx := O4.out.free x3.toNat
        go_wp2_with fail
        go_ret
        obtain ⟨O5, g5⟩ := O4.out.store x3.toNat (nth [0, 9, 10, -1] x4.toNat)
        have hu := O5.up
        exact ⟨g, cap, _, ret_slice hu.1, hu.2.1, by rw [List.length_set, HZL.out]; omega, hu.2.2, (R4.out.grown g5 (fun g' hg' => by have := O4.out.base_le g' hg'; omega)).mono (by omega), gr_own G4.out g5 (fun g' hg' => O4.out.base_le g' hg')⟩
      have b1 := neg_of_beq y1
      by_cases y2 : y = 2
      · have b2 := pos_of_beq y2
        clear y0 y1 y2
        have hc0 : (0 : Int) ≤ (cap : Int) := by omega
        go_wp2_with fail
        go_ret
        exact ⟨g, cap, [], rfl, IntsUp.nil _ _ _, by simp, by simp, R2.out.mono (by omega), G2.out⟩
      have b2 := neg_of_beq y2
      clear y0 y1 y2
      go_wp2_with fail
      go_ret
      exact ⟨g, cap, zs, ret_slice HZL.out.symm, (O2.out.up).2.1, by rw [HZL.out]; omega, hcap, R2.out.mono (by omega), G2.out⟩
end Go.Proofs.Ytohnodphlaoohaa
