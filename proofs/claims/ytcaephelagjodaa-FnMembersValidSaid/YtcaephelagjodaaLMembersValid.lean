/- The law FnMembersValid holds for every input: members are ascending: a set stays one without any one member, and is none with one member twice. -/
import Derived.Test.YtcaephelagjodaaCmt3
import Derived.Test.YtcaephelagjodaaSel
import Derived.Test.YtcaephelagjodaaDraw2
import Derived.Test.YtcaephelagjodaaArgs
import Derived.Deep.RegionHeld3
namespace Go.Proofs.Ytcaephelagjodaa.lawMembersValid
open Go.ChangeShapes Go.WideShapes Go.ChangeAt Go.RowKit
set_option linter.unusedVariables false

theorem less_mem {n : Nat} {ms : List Int} {k : Nat} (h : memB n ms = true) : memB n (ms.take k ++ ms.drop (k + 1)) = true := by
  obtain ⟨h1, h2⟩ := memB_iff.1 h
  have hs : (ms.take k ++ ms.drop (k + 1)).Sublist ms := by
    have h3 : (ms.drop (k + 1)).Sublist (ms.drop k) := List.drop_sublist_drop_left ms (by omega)
    have h4 := List.Sublist.append (List.Sublist.refl (ms.take k)) h3
    rwa [List.take_append_drop] at h4
  exact memB_iff.2 ⟨fun z hz => h1 z (hs.subset hz), List.Pairwise.sublist hs h2⟩
theorem twice_not {n : Nat} {ms : List Int} {k : Nat} (hk : k < ms.length) : memB n (ms.take (k + 1) ++ ms.drop k) = false := by
  rcases hv : memB n (ms.take (k + 1) ++ ms.drop k) with _ | _
  · rfl
  · exfalso
    obtain ⟨_, h2⟩ := memB_iff.1 hv
    have h3 := (List.pairwise_append.1 h2).2.2 ms[k] (List.mem_take_iff_getElem.2 ⟨k, by omega, rfl⟩) ms[k] (List.mem_drop_iff_getElem.2 ⟨0, by omega, by simp⟩)
    omega
theorem ints_take {w : World} {L : Nat} {g c : Nat} {zs : List Int} (h : IntsUp w L (some ⟨g, 0, none⟩) zs) (k : Nat) : Ints w w.heap.size (some ⟨g, 0, none⟩) (zs.take k) := fun hne => by
  have hz : zs ≠ [] := by intro e; subst e; simp at hne
  obtain ⟨b, off, e, h1, h2, h3⟩ := h hz
  injection e with e
  injection e with e1 e2
  subst e1 e2
  refine Ints.mk h2 (fun j hj => ?_) hne
  rw [List.length_take] at hj
  rw [h3 j (by omega)]
  simp [nth, show j < k by omega]
theorem ints_drop {w : World} {L : Nat} {g c : Nat} {zs : List Int} (h : IntsUp w L (some ⟨g, 0, none⟩) zs) (k : Nat) : Ints w w.heap.size (some ⟨g, k, none⟩) (zs.drop k) := fun hne => by
  have hz : zs ≠ [] := by intro e; subst e; simp at hne
  obtain ⟨b, off, e, h1, h2, h3⟩ := h hz
  injection e with e
  injection e with e1 e2
  subst e1 e2
  refine Ints.mk h2 (fun j hj => ?_) hne
  rw [List.length_drop] at hj
  have := h3 (k + j) (by omega)
  rw [Nat.zero_add] at this
  rw [this]
  simp [nth, List.getElem?_drop]

theorem below_own0 {w1 wr w' : World} {v : Value} {zs : List Int} (h : Below w1.heap.size w1 wr) (ho : OwnI wr w1.heap.size v zs) (hg : wr.grownBy w' v.ownBlock) : Below w1.heap.size w1 w' :=
  h.grown hg h.size (fun k hk => ho.base_le k hk)

set_option maxHeartbeats 4000000 in
theorem walk (a0 : Option Addr) (c0 : Nat) (z0 : List Int) (a1 : Option Addr) (c1 : Nat) (z1 : List Int) (w : World) (h0 : Bytes w w.heap.size a0 z0 ∧ z0.length ≤ c0) (h1 : Bytes w w.heap.size a1 z1 ∧ z1.length ≤ c1) :
    Calls Try.prog 7 #[.slice a0 z0.length c0, .slice a1 z1.length c1] w fun e w' => e = .returned (.bool true) ∧ Below w.heap.size w w' := by
  by_cases hbig0 : (1048576 : Int) < z0.length
  · go_enter Try.func7, Try.ntmps7
    go_wp2_with fail
    go_ret
    exact ⟨rfl, Below.refl _ _⟩
  by_cases hbig1 : (1048576 : Int) < z1.length
  · go_enter Try.func7, Try.ntmps7
    go_wp2_with fail
    go_ret
    exact ⟨rfl, Below.refl _ _⟩
  have hn0 : z0.length ≤ 1048576 := by omega
  have H0 := Lib.hid h0
  clear h0 h1
  go_enter Try.func7, Try.ntmps7
  go_wp2_with fail
  refine (s_DrawMembersValid _ _ _ _ H0.out.1 H0.out.2 hn0).mono ?_
  rintro e w1 ⟨gc, capc, cs, g1, cap, zs, rfl, uc, lc, lcc, u1, l1, lc1, b1⟩
  have U1 := Lib.hid u1
  have C1 := Lib.hid uc
  have B1 := Lib.hid b1
  clear u1 uc b1
  go_wp2_with fail
  refine (i_MembersValid _ _ _ _ _ _ _ _ C1.out.ints U1.out.ints (by omega) (by omega)).mono ?_
  rintro e w' ⟨rfl, rfl⟩
  go_wp2_with fail
  refine (s_MembersValid _ _ _ _ _ _ _ _ C1.out.ints U1.out.ints (by omega) (by omega)).mono ?_
  rintro e wq ⟨rfl, hq⟩
  have C2 := Lib.hid (C1.out.carry (hq.below _))
  have U2 := Lib.hid (U1.out.carry (hq.below _))
  have B2 := Lib.hid (next B1.out (hq.below _))
  clear hq C1 U1 B1
  have C1 := C2
  have U1 := U2
  have B1 := B2
  clear C2 U2 B2
  obtain ⟨w1, rfl⟩ : ∃ w1 : World, w1 = wq := ⟨_, rfl⟩
  have hne : (membersB cs zs != membersB cs zs) = false := by simp
  have heq : (membersB cs zs == membersB cs zs) = true := by simp
  rcases hv : membersB cs zs with _ | _
  · rw [hv] at hne heq
    go_wp2_with fail
    go_ret
    exact ⟨rfl, B1.out⟩
  rw [hv] at hne heq
  by_cases hl1 : zs.length = 0
  · have hd : ((zs.length : Int) == 0) = true := by simp [hl1]
    clear hl1
    go_wp2_with fail
    go_ret
    exact ⟨rfl, B1.out⟩
  have hd : ((zs.length : Int) == 0) = false := beq_eq_false_iff_ne.2 (by omega)
  have HV := Lib.hid hv
  obtain ⟨k, hk⟩ : ∃ k, k = z1.length % zs.length := ⟨_, rfl⟩
  have hkl : k < zs.length := by rw [hk]; exact Nat.mod_lt _ (by omega)
  have hke : ((z1.length : Int) % (zs.length : Int)) = (k : Int) := by rw [hk]; omega
  clear hk
  go_wp2_with fail
  rw [hke]
  clear hke
  have hk0 : (0 : Int) ≤ (k : Int) := by omega
  have hk1 : (k : Int) ≤ (cap : Int) := by omega
  have hk2 : (k : Int) + 1 ≤ (zs.length : Int) := by omega
  have hk3 : (k : Int) + 1 ≤ (cap : Int) := by omega
  have hk4 : (0 : Int) ≤ (k : Int) + 1 := by omega
  have hk5 : (zs.length : Int) ≤ (cap : Int) := by omega
  have hk6 : (k : Int) ≤ (zs.length : Int) := by omega
  have hkw : IntKind.i64.wrap ((k : Int) + 1) = (k : Int) + 1 := IntWalk.i64_in _ (by omega)
  have hkt : ((k : Int) + 1).toNat = k + 1 := by omega
  have own0 : OwnI (w1.alloc (.cells #[] 3)).drew w1.heap.size (.slice (some ⟨w1.heap.size, 0, none⟩) 0 0) [] := OwnI.start (Nat.le_refl _)
  have O0 := Lib.hid own0
  clear own0
  have hb0 : Below w1.heap.size w1 (w1.alloc (.cells #[] 3)).drew := ((Below.refl _ _).alloc (Nat.le_refl _) _).drew
  have L0 := Lib.hid hb0
  clear hb0
  obtain ⟨tk, htk⟩ : ∃ tk, tk = zs.take k := ⟨_, rfl⟩
  obtain ⟨dr, hdr⟩ : ∃ dr, dr = zs.drop (k + 1) := ⟨_, rfl⟩
  have HTK := Lib.hid htk
  have HDR := Lib.hid hdr
  have ht : Hid (Ints (w1.alloc (.cells #[] 3)).drew w1.heap.size (some ⟨g1, 0, none⟩) tk) := by
    rw [htk]; exact (ints_take (c := 0) U1.out k).below L0.out
  have hlt : k = tk.length := by rw [htk, List.length_take]; omega
  have HLT := Lib.hid hlt
  have hl7 : tk.length ≤ 12 := by omega
  have hld : zs.length - (k + 1) = dr.length := by rw [hdr, List.length_drop]
  have HLD := Lib.hid hld
  have hd7 : dr.length ≤ 12 := by omega
  have hd2 : Hid (∀ W : World, Below w1.heap.size w1 W → Ints W w1.heap.size (if cap = k + 1 then some ⟨g1, 0, none⟩ else some ⟨g1, k + 1, none⟩) dr) := by
    intro W hW
    rw [hdr]
    by_cases hc : cap = k + 1
    · rw [if_pos hc, List.drop_eq_nil_of_le (by omega)]; exact Ints.nil _ _ _
    · rw [if_neg hc]; exact (ints_drop (c := 0) U1.out (k + 1)).below hW
  clear hlt hld htk hdr
  go_region_held3 (fun W => w1.heap.size ≤ W.heap.size) (first | assumption | go_keep | (simp; omega))
    (first
    | ((refine stepInts (by rfl) (.tmp 51) (.tmp 54) (by rfl) _ w1.heap.size _ [] (by rfl) O0.out _ _ _ _ tk (by rfl) HLT.out ht.out (by simp; omega) (by simp) ?_; intro g4 cap4 w4 own4 hg4; have hL4 := Lib.hid (below_own0 L0.out O0.out hg4); have hO4 := Lib.hid own4; have hz4 := hL4.out.size; clear own4 hg4))
    | ((refine stepInts (by rfl) (.tmp 55) (.tmp 59) (by rfl) _ w1.heap.size _ tk (by rfl) hO4.out _ _ _ _ dr (by rfl) HLD.out (by first | exact hd2.out _ hL4.out) (by omega) (by omega) ?_; intro g5 cap5 w5 own5 hg5; have hL5 := Lib.hid (below_own0 hL4.out hO4.out hg5); have hO5 := Lib.hid own5; have hz5 := hL5.out.size; clear own5 hg5)))
  generalize (if cap = k + 1 then some (⟨g1, 0, none⟩ : Addr) else some ⟨g1, k + 1, none⟩) = A9
  have W5 := Lib.hid (hO5.out.up).2.1
  have U5 := Lib.hid (U1.out.carry hL5.out)
  have C5 := Lib.hid (C1.out.carry hL5.out)
  have own6 : OwnI (w5.alloc (.cells #[] 3)).drew w5.heap.size (.slice (some ⟨w5.heap.size, 0, none⟩) 0 0) [] := OwnI.start (Nat.le_refl _)
  have O6 := Lib.hid own6
  have L6 := Lib.hid (((Below.refl w5.heap.size w5).alloc (Nat.le_refl _) (.cells #[] 3)).drew)
  clear own6
  obtain ⟨t2, ht2⟩ : ∃ t2, t2 = zs.take (k + 1) := ⟨_, rfl⟩
  obtain ⟨d2, hd2'⟩ : ∃ d2, d2 = zs.drop k := ⟨_, rfl⟩
  have HT2 := Lib.hid ht2
  have HD2 := Lib.hid hd2'
  have IT2 : Hid (Ints (w5.alloc (.cells #[] 3)).drew w5.heap.size (some ⟨g1, 0, none⟩) t2) := by
    rw [ht2]; exact (ints_take (c := 0) U5.out (k + 1)).below L6.out
  have ID2 : Hid (∀ W : World, Below w5.heap.size w5 W → Ints W w5.heap.size (some ⟨g1, k, none⟩) d2) := by
    intro W hW
    rw [hd2']
    exact (ints_drop (c := 0) U5.out k).below hW
  have hl2 : k + 1 = t2.length := by rw [ht2, List.length_take]; omega
  have HL2 := Lib.hid hl2
  have hl2' : t2.length ≤ 12 := by omega
  have hm2 : zs.length - k = d2.length := by rw [hd2', List.length_drop]
  have HM2 := Lib.hid hm2
  have hm2' : d2.length ≤ 12 := by omega
  have ID3 : Hid (∀ W : World, Below w5.heap.size w5 W → Ints W w5.heap.size (if cap = k then some ⟨g1, 0, none⟩ else some ⟨g1, k, none⟩) d2) := by
    intro W hW
    rw [if_neg (by omega)]
    exact ID2.out W hW
  clear ht2 hd2' hl2 hm2
  go_wp2_with fail
  go_region_held3 (fun W => w5.heap.size ≤ W.heap.size) (first | assumption | go_keep | (simp; omega))
    (first
    | ((refine stepInts (by rfl) (.tmp 61) (.tmp 65) (by rfl) _ w5.heap.size _ [] (by rfl) O6.out _ _ _ _ t2 (by rfl) HL2.out IT2.out (by simp; omega) (by simp) ?_; intro g7 cap7 w7 own7 hg7; have hL7 := Lib.hid (below_own0 L6.out O6.out hg7); have hO7 := Lib.hid own7; have hz7 := hL7.out.size; clear own7 hg7))
    | ((refine stepInts (by rfl) (.tmp 66) (.tmp 69) (by rfl) _ w5.heap.size _ t2 (by rfl) hO7.out _ _ _ _ d2 (by rfl) HM2.out (by first | exact ID3.out _ hL7.out | exact ID2.out _ hL7.out) (by omega) (by omega) ?_; intro g8 cap8 w8 own8 hg8; have hL8 := Lib.hid (below_own0 hL7.out hO7.out hg8); have hO8 := Lib.hid own8; have hz8 := hL8.out.size; clear own8 hg8)))
  have W8 := Lib.hid (hO8.out.up).2.1
  have e5 : tk.length + (zs.length - (k + 1)) = (tk ++ dr).length := by rw [List.length_append, HLD.out]
  have e8 : t2.length + (zs.length - k) = (t2 ++ d2).length := by rw [List.length_append, HM2.out]
  have hvv : validB cs = true ∧ memB cs.length zs = true := by simpa only [membersB, Bool.and_eq_true] using HV.out
  have hle : membersB cs (tk ++ dr) = true := by
    rw [HTK.out, HDR.out]; simp only [membersB, Bool.and_eq_true]; exact ⟨hvv.1, less_mem hvv.2⟩
  have hze : membersB cs (t2 ++ d2) = false := by
    rw [HT2.out, HD2.out]; simp only [membersB, Bool.and_eq_false_iff]; exact .inr (twice_not hkl)
  have hlr : (tk ++ dr).length ≤ 100 := by omega
  have hlr8 : (t2 ++ d2).length ≤ 100 := by omega
  have E5 := Lib.hid e5
  have E8 := Lib.hid e8
  have HLE := Lib.hid hle
  have HZE := Lib.hid hze
  clear e5 e8 hvv hle hze
  go_wp2_with fail
  rw [E5.out]
  refine (i_MembersValid _ _ _ _ _ _ _ _ (C5.out.carry hL8.out).ints (W5.out.carry hL8.out).ints (by omega) (by omega)).mono ?_
  rw [HLE.out]
  rintro e w' ⟨rfl, rfl⟩
  go_wp2_with fail
  rw [E8.out]
  refine (i_MembersValid _ _ _ _ _ _ _ _ (C5.out.carry hL8.out).ints W8.out.ints (by omega) (by omega)).mono ?_
  rw [HZE.out]
  rintro e w' ⟨rfl, rfl⟩
  go_wp2_with fail
  go_ret
  exact ⟨rfl, next B1.out (next hL5.out hL8.out)⟩

set_option maxRecDepth 100000 in
theorem lifted (os : Os) (started : os.Started) (H : Type) (enc : TypeId × Value → H) :
    ReturnsInHanded {} Try.checked os 7 .any (Rows.fnMembersValidSpec.pre6 enc Try.prog Try.f7 Rows.fnMembersValidRow.domain false) (Rows.fnMembersValidSpec.post enc Try.prog Try.f7 false true false false) := by
  refine returnsInHanded_of_change (C := Try.checked) own started (by kernel_rfl) Try.func7
    (ChangeSpec.witness6 (enc := enc) (C := Try.checked) false ⟨#[], #[.slice none 0 0, .slice none 0 0], []⟩ 8 (by kernel_rfl) (by kernel_rfl) (by kernel_rfl) (by kernel_rfl)) ?_
  intro W base args ds gs before hval0 hW hcnd _
  have hval : ∀ (j : Nat) t v, Try.f7.params[j]? = some t → args[j]? = some v → Value.okWide Try.prog W .any base t v := hval0
  have hW' := hW
  obtain ⟨p, q, hA0, hV, rfl, hfz, hnd⟩ := hW
  have hA : DataW.TrodAll enc Try.prog W 0 (fun _ => true) true Try.f7.params.toList args.toList ds p := hA0
  rw [Try.params7] at hA hval
  obtain ⟨v0, vs0, d0, ds0, p0, q0, hargs, rfl, rfl, h0, r0⟩ := trodAll_cons hA
  obtain ⟨v1, vs1, d1, ds1, p1, q1, rfl, rfl, rfl, h1, r1⟩ := trodAll_cons r0
  obtain ⟨rfl, rfl, rfl⟩ := trodAll_nil r1
  obtain rfl : args = #[v0, v1] := by cases args; simp_all
  obtain ⟨rfl, rfl⟩ := trodVars_none hV
  obtain ⟨a0, len0, c0, rfl⟩ := okWide_slice Try.underlying22 (hval 0 22 v0 rfl rfl)
  have k0 := h0
  have lt0 : ∀ x ∈ p0, x.block < W.heap.size := by obtain ⟨m, hm⟩ := k0; exact DataW.trod_lt m _ _ _ hm
  obtain ⟨z0, rfl, w0⟩ := bytes_of_trod h0
  obtain ⟨a1, len1, c1, rfl⟩ := okWide_slice Try.underlying22 (hval 1 22 v1 rfl rfl)
  have k1 := h1
  have lt1 : ∀ x ∈ p1, x.block < W.heap.size := by obtain ⟨m, hm⟩ := k1; exact DataW.trod_lt m _ _ _ hm
  obtain ⟨z1, rfl, w1⟩ := bytes_of_trod h1
  clear hA0 hval0
  refine (walk a0 c0 z0 a1 c1 z1 W w0 w1).mono fun e W' ⟨he, bel⟩ => ?_
  subst he
  exact ⟨_, rfl, _, _, _, [], _, [], hW', trodAll_mk1 (shut_bool Try.underlying4 _), (trodAll_cons_mk (Below.trod laidOut (by kernel_rfl) (of_decide_eq_true (by kernel_rfl)) k0 bel lt0) (trodAll_cons_mk (Below.trod laidOut (by kernel_rfl) (of_decide_eq_true (by kernel_rfl)) k1 bel lt1) trodAll_mk0)), rfl, bel.frame _, fun h => by cases h⟩

theorem over : Rows.fnMembersValidRow.holds Try.pinned (OpenSpec.ofChange Rows.fnMembersValidSpec) :=
  OpenClaim.holds_of_wide 7 Try.f7 rfl rfl rfl rfl rfl rfl rfl ⟨rfl, rfl, rfl, rfl, rfl⟩ rfl rfl rfl rfl rfl (by kernel_rfl) Try.func7 (by kernel_rfl)
    (of_decide_eq_true (by kernel_rfl)) (by unfold Func.isWrapper; first | (rw [if_pos (by decide +kernel)]; kernel_rfl) | (rw [if_neg (by decide +kernel)]; exact ⟨rfl, rfl⟩))
    (fun os started H enc _ => lifted os started H enc)

/-- The given statement. -/
theorem proved : Rows.FnMembersValidSaid := over
#print axioms proved
end Go.Proofs.Ytcaephelagjodaa.lawMembersValid
