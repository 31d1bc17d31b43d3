/- The law FnWeightAdds holds for every input: weights are added. -/
import Derived.Test.YtcaephelagjodaaCmt3
import Derived.Test.YtcaephelagjodaaSets
import Derived.Test.YtcaephelagjodaaDraw2
import Derived.Test.YtcaephelagjodaaArgs
namespace Go.Proofs.Ytcaephelagjodaa.lawWeightAdds
open Go.ChangeShapes Go.WideShapes Go.ChangeAt Go.RowKit
set_option linter.unusedVariables false

set_option maxHeartbeats 4000000 in
theorem walk (a0 : Option Addr) (c0 : Nat) (z0 : List Int) (a1 : Option Addr) (c1 : Nat) (z1 : List Int) (w : World) (h0 : Bytes w w.heap.size a0 z0 ∧ z0.length ≤ c0) (h1 : Bytes w w.heap.size a1 z1 ∧ z1.length ≤ c1) :
    Calls Try.prog 14 #[.slice a0 z0.length c0, .slice a1 z1.length c1] w fun e w' => e = .returned (.bool true) ∧ Below w.heap.size w w' := by
  by_cases hbig0 : (1048576 : Int) < z0.length
  · go_enter Try.func14, Try.ntmps14
    go_wp2_with fail
    go_ret
    exact ⟨rfl, Below.refl _ _⟩
  by_cases hbig1 : (1048576 : Int) < z1.length
  · go_enter Try.func14, Try.ntmps14
    go_wp2_with fail
    go_ret
    exact ⟨rfl, Below.refl _ _⟩
  have hn0 : z0.length ≤ 1048576 := by omega
  have H0 := Lib.hid h0
  have hn1 : z1.length ≤ 1048576 := by omega
  have H1 := Lib.hid h1
  clear h0 h1
  go_enter Try.func14, Try.ntmps14
  go_wp2_with fail
  refine (s_DrawMembersWeight _ _ _ _ H0.out.1 H0.out.2 hn0).mono ?_
  rintro e w1 ⟨g1, c1', zs, g1', c1'', ms, rfl, u1, l1, lc1, u1', l1', lc1', b1⟩
  have U1 := Lib.hid u1
  have V1 := Lib.hid u1'
  have B1 := Lib.hid b1
  clear u1 u1' b1
  go_wp2_with fail
  refine (i_MembersWeight _ _ _ _ _ _ _ _ U1.out.ints V1.out.ints (by omega) (by omega)).mono ?_
  rintro e w' ⟨rfl, rfl⟩
  go_wp2_with fail
  refine (s_MembersWeight _ _ _ _ _ _ _ _ U1.out.ints V1.out.ints (by omega) (by omega)).mono ?_
  rintro e w2 ⟨rfl, q2⟩
  have Q2 := Lib.hid q2
  clear q2
  have hne : (cWeight zs ms != cWeight zs ms) = false := by simp
  have hb0 := cWeight_bd (zs := zs) (ms := ms) (by omega)
  rcases hv : membersB zs ms with _ | _
  · have hneg : cWeight zs ms < 0 := by simp [cWeight, hv]
    have heq : (cWeight zs ms == cWeight zs ms) = true := by simp
    clear hv
    go_wp2_with fail
    go_ret
    exact ⟨rfl, next B1.out (Q2.out.below _)⟩
  have hge : 0 ≤ cWeight zs ms := by
    have h2 := hv
    simp only [membersB, Bool.and_eq_true] at h2
    have h := weight_to h2.1 h2.2 (Nat.le_refl _)
    simp only [cWeight, hv, if_true, weight]
    omega
  have hvv : validB zs = true ∧ memB zs.length ms = true := by simpa only [membersB, Bool.and_eq_true] using hv
  have HV := Lib.hid hvv
  clear hv hvv
  obtain ⟨p, hp⟩ : ∃ p, p = bitB ((z1.length : Int) * 7 + (z0.length : Int)).toNat := ⟨_, rfl⟩
  have HP := Lib.hid hp
  clear hp
  have hlp := selTo_len p zs.length
  have BQ := Lib.hid (next B1.out (Q2.out.below _))
  have U2 := Lib.hid (U1.out.carry (Q2.out.below _))
  have V2 := Lib.hid (V1.out.carry (Q2.out.below _))
  go_wp2_with fail
  refine (l_subsetZ _ _ _ (by omega) (by omega) (by omega)).mono ?_
  rw [← HP.out]
  rintro e w3 ⟨g3, c3', rfl, u3, lc3, b3⟩
  have S3 := Lib.hid u3
  have U3 := Lib.hid (U2.out.carry b3)
  have V3 := Lib.hid (V2.out.carry b3)
  have B3 := Lib.hid (next BQ.out b3)
  clear u3 b3
  obtain ⟨r, hr⟩ : ∃ r : Nat → Bool, r = fun i : Nat => hasB ms (i : Int) || hasB (selTo p zs.length) (i : Int) := ⟨_, rfl⟩
  have HR := Lib.hid hr
  clear hr
  go_wp2_with fail
  have own0 : OwnI (w3.alloc (.cells #[] 3)) w3.heap.size (.slice (some ⟨w3.heap.size, 0, none⟩) 0 0) [] := OwnI.start (Nat.le_refl _)
  have bel0 : Below w3.heap.size w3 (w3.alloc (.cells #[] 3)) := (Below.refl _ _).alloc (Nat.le_refl _) _
  have O0 := Lib.hid own0
  have L0 := Lib.hid bel0
  clear own0 bel0
  go_loopw [10, 11] (fun v i wr => ∃ (k g cap : Nat), k ≤ zs.length ∧ i = .int .i64 k ∧ v = .slice (some ⟨g, 0, none⟩) (selTo r k).length cap ∧ OwnI wr w3.heap.size v (selTo r k) ∧ Below w3.heap.size w3 wr) (fun _ i _ => zs.length - (intOf i).toNat)
  case atStart => exact ⟨0, w3.heap.size, 0, Nat.zero_le _, rfl, rfl, O0.out, L0.out⟩
  case round =>
    obtain ⟨k, g, cap, hk, rfl, rfl, hown, hbel⟩ := hrel
    have HO := Lib.hid hown
    have HB := Lib.hid hbel
    have hsz := hbel.size
    have hlr := selTo_len r k
    clear hown hbel
    by_cases hlt : k < zs.length
    · rcases h1 : hasB ms (k : Int) with _ | _
      · rcases h2 : hasB (selTo p zs.length) (k : Int) with _ | _
        · have hrk : r k = false := by rw [HR.out]; simp [h1, h2]
          have HRK := Lib.hid hrk
          clear hrk
          go_wp2_with fail
          refine (l_hasInt _ _ _ _ _ _ (V3.out.carry HB.out).ints (by omega)).mono ?_
          rintro e w' ⟨rfl, rfl⟩
          go_wp2_with fail
          refine (l_hasInt _ _ _ _ _ _ (S3.out.carry HB.out).ints (by omega)).mono ?_
          rintro e w' ⟨rfl, rfl⟩
          go_wp2_with fail
          go_roundw
          case rel =>
            have hs : selTo r (k + 1) = selTo r k := by rw [selTo, if_neg (by simp [HRK.out])]
            exact ⟨k + 1, g, cap, by omega, by go_num, by rw [hs], by rw [hs]; exact HO.out, HB.out⟩
          case measure => simp [intOf]; omega
        · have hrk : r k = true := by rw [HR.out]; simp [h2]
          have HRK := Lib.hid hrk
          clear hrk
          go_wp2_with fail
          refine (l_hasInt _ _ _ _ _ _ (V3.out.carry HB.out).ints (by omega)).mono ?_
          rintro e w' ⟨rfl, rfl⟩
          go_wp2_with fail
          refine (l_hasInt _ _ _ _ _ _ (S3.out.carry HB.out).ints (by omega)).mono ?_
          rintro e w' ⟨rfl, rfl⟩
          go_wp2_with (at_builtin; refine appendInt (by rfl) _ _ (by rfl) wr w3.heap.size _ (selTo r k) _ (by rfl) HO.out (by rfl) (by omega) hsz ?_; intro g4 cap4 w4 own4 hg4)
          have O4 := Lib.hid own4
          have B4 := Lib.hid (below_own HB.out HO.out (Nat.le_refl _) hg4)
          clear own4 hg4
          go_wp2_with fail
          go_roundw
          case rel =>
            have hs : selTo r (k + 1) = selTo r k ++ [(k : Int)] := by rw [selTo, if_pos HRK.out]
            exact ⟨k + 1, g4, cap4, by omega, by go_num, by rw [hs, List.length_append]; rfl, by rw [hs]; exact O4.out, B4.out⟩
          case measure => simp [intOf]; omega
      · have hrk : r k = true := by rw [HR.out]; simp [h1]
        have HRK := Lib.hid hrk
        clear hrk
        go_wp2_with fail
        refine (l_hasInt _ _ _ _ _ _ (V3.out.carry HB.out).ints (by omega)).mono ?_
        rintro e w' ⟨rfl, rfl⟩
        go_wp2_with (at_builtin; refine appendInt (by rfl) _ _ (by rfl) wr w3.heap.size _ (selTo r k) _ (by rfl) HO.out (by rfl) (by omega) hsz ?_; intro g4 cap4 w4 own4 hg4)
        have O4 := Lib.hid own4
        have B4 := Lib.hid (below_own HB.out HO.out (Nat.le_refl _) hg4)
        clear own4 hg4
        go_wp2_with fail
        go_roundw
        case rel =>
          have hs : selTo r (k + 1) = selTo r k ++ [(k : Int)] := by rw [selTo, if_pos HRK.out]
          exact ⟨k + 1, g4, cap4, by omega, by go_num, by rw [hs, List.length_append]; rfl, by rw [hs]; exact O4.out, B4.out⟩
        case measure => simp [intOf]; omega
    · have hkn : k = zs.length := by omega
      subst hkn
      have hlc : (commonL ms (selTo p zs.length)).length ≤ 100 := Nat.le_trans (List.length_filter_le _ _) (by omega)
      have hb1 := cWeight_bd (zs := zs) (ms := selTo p zs.length) (by omega)
      have hb2 := cWeight_bd (zs := zs) (ms := selTo r zs.length) (by omega)
      have hb3 := cWeight_bd (zs := zs) (ms := commonL ms (selTo p zs.length)) (by omega)
      have hadd : cWeight zs ms + cWeight zs (selTo p zs.length) = cWeight zs (selTo r zs.length) + cWeight zs (commonL ms (selTo p zs.length)) := by
        have hv := HV.out.1
        have hms := members_sel HV.out.2
        obtain ⟨s, hs⟩ : ∃ s : Nat → Bool, s = fun i : Nat => hasB ms (i : Int) := ⟨_, rfl⟩
        rw [← hs] at hms
        have hr2 : selTo r zs.length = selTo (fun i => s i || p i) zs.length := by
          refine asc_ext (asc_selTo _ _) (asc_selTo _ _) (fun z => ?_)
          rw [mem_selTo, mem_selTo]
          constructor
          · rintro ⟨i, h1, h2, h3⟩
            refine ⟨i, h1, ?_, h3⟩
            rw [HR.out] at h2
            simp only [Bool.or_eq_true] at h2 ⊢
            rcases h2 with h2 | h2
            · left; rw [hs]; exact h2
            · right
              obtain ⟨j, _, h5, h6⟩ := mem_selTo.1 (hasB_iff.1 h2)
              rw [show i = j by omega]; exact h5
          · rintro ⟨i, h1, h2, h3⟩
            refine ⟨i, h1, ?_, h3⟩
            rw [HR.out]
            simp only [Bool.or_eq_true] at h2 ⊢
            rcases h2 with h2 | h2
            · left; rw [hs] at h2; exact h2
            · right; exact hasB_iff.2 (mem_selTo.2 ⟨i, h1, h2, rfl⟩)
        rw [hr2, hms, commonL_sel, cWeight_sel hv, cWeight_sel hv, cWeight_sel hv, cWeight_sel hv]
        exact weight_adds s p zs.length
      have heq : (cWeight zs ms + cWeight zs (selTo p zs.length) == cWeight zs (selTo r zs.length) + cWeight zs (commonL ms (selTo p zs.length))) = true := by rw [hadd]; simp
      clear hadd
      have hu := HO.out.up
      have W4 := Lib.hid hu.2.1
      have U4 := Lib.hid (U3.out.carry HB.out)
      have V4 := Lib.hid (V3.out.carry HB.out)
      have S4 := Lib.hid (S3.out.carry HB.out)
      clear hu
      go_wp2_with fail
      refine (i_MembersWeight _ _ _ _ _ _ _ _ U4.out.ints S4.out.ints (by omega) (by omega)).mono ?_
      rintro e w' ⟨rfl, rfl⟩
      go_wp2_with fail
      refine (i_MembersWeight _ _ _ _ _ _ _ _ U4.out.ints W4.out.ints (by omega) (by omega)).mono ?_
      rintro e w' ⟨rfl, rfl⟩
      go_wp2_with fail
      refine (l_common _ _ _ _ _ _ _ V4.out.ints S4.out.ints (by omega) (by omega)).mono ?_
      rintro e w5 ⟨g5, c5', rfl, u5, lc5, b5⟩
      have U5 := Lib.hid u5
      have B5 := Lib.hid b5
      clear u5 b5
      go_wp2_with fail
      refine (i_MembersWeight _ _ _ _ _ _ _ _ (U4.out.carry B5.out).ints U5.out.ints (by omega) (by omega)).mono ?_
      rintro e w' ⟨rfl, rfl⟩
      go_wp2_with fail
      go_ret
      exact ⟨rfl, next (next B3.out HB.out) B5.out⟩

set_option maxRecDepth 100000 in
theorem lifted (os : Os) (started : os.Started) (H : Type) (enc : TypeId × Value → H) :
    ReturnsInHanded {} Try.checked os 14 .any (Rows.fnWeightAddsSpec.pre6 enc Try.prog Try.f14 Rows.fnWeightAddsRow.domain false) (Rows.fnWeightAddsSpec.post enc Try.prog Try.f14 false true false false) := by
  refine returnsInHanded_of_change (C := Try.checked) own started (by kernel_rfl) Try.func14
    (ChangeSpec.witness6 (enc := enc) (C := Try.checked) false ⟨#[], #[.slice none 0 0, .slice none 0 0], []⟩ 8 (by kernel_rfl) (by kernel_rfl) (by kernel_rfl) (by kernel_rfl)) ?_
  intro W base args ds gs before hval0 hW hcnd _
  have hval : ∀ (j : Nat) t v, Try.f14.params[j]? = some t → args[j]? = some v → Value.okWide Try.prog W .any base t v := hval0
  have hW' := hW
  obtain ⟨p, q, hA0, hV, rfl, hfz, hnd⟩ := hW
  have hA : DataW.TrodAll enc Try.prog W 0 (fun _ => true) true Try.f14.params.toList args.toList ds p := hA0
  rw [Try.params14] at hA hval
  obtain ⟨v0, vs0, d0, ds0, p0, q0, hargs, rfl, rfl, h0, r0⟩ := trodAll_cons hA
  obtain ⟨v1, vs1, d1, ds1, p1, q1, rfl, rfl, rfl, h1, r1⟩ := trodAll_cons r0
  obtain ⟨rfl, rfl, rfl⟩ := trodAll_nil r1
  obtain rfl : args = #[v0, v1] := by cases args; simp_all
  obtain ⟨rfl, rfl⟩ := trodVars_none hV
  obtain ⟨a0, len0, c0, rfl⟩ := okWide_slice Try.underlying22 (hval 0 22 v0 rfl rfl)
  have k0 := h0
  have lt0 : ∀ x ∈ p0, x.block < W.heap.size := by obtain ⟨m, hm⟩ := k0; exact DataW.trod_lt m _ _ _ hm
  obtain ⟨z0, rfl, w0⟩ := bytes_of_trod h0
  obtain ⟨a1, len1, c1, rfl⟩ := okWide_slice Try.underlying22 (hval 1 22 v1 rfl rfl)
  have k1 := h1
  have lt1 : ∀ x ∈ p1, x.block < W.heap.size := by obtain ⟨m, hm⟩ := k1; exact DataW.trod_lt m _ _ _ hm
  obtain ⟨z1, rfl, w1⟩ := bytes_of_trod h1
  clear hA0 hval0
  refine (walk a0 c0 z0 a1 c1 z1 W w0 w1).mono fun e W' ⟨he, bel⟩ => ?_
  subst he
  exact ⟨_, rfl, _, _, _, [], _, [], hW', trodAll_mk1 (shut_bool Try.underlying4 _), (trodAll_cons_mk (Below.trod laidOut (by kernel_rfl) (of_decide_eq_true (by kernel_rfl)) k0 bel lt0) (trodAll_cons_mk (Below.trod laidOut (by kernel_rfl) (of_decide_eq_true (by kernel_rfl)) k1 bel lt1) trodAll_mk0)), rfl, bel.frame _, fun h => by cases h⟩

theorem over : Rows.fnWeightAddsRow.holds Try.pinned (OpenSpec.ofChange Rows.fnWeightAddsSpec) :=
  OpenClaim.holds_of_wide 14 Try.f14 rfl rfl rfl rfl rfl rfl rfl ⟨rfl, rfl, rfl, rfl, rfl⟩ rfl rfl rfl rfl rfl (by kernel_rfl) Try.func14 (by kernel_rfl)
    (of_decide_eq_true (by kernel_rfl)) (by unfold Func.isWrapper; first | (rw [if_pos (by decide +kernel)]; kernel_rfl) | (rw [if_neg (by decide +kernel)]; exact ⟨rfl, rfl⟩))
    (fun os started H enc _ => lifted os started H enc)

/-- The given statement. -/
theorem proved : Rows.FnWeightAddsSaid := over
#print axioms proved
end Go.Proofs.Ytcaephelagjodaa.lawWeightAdds
