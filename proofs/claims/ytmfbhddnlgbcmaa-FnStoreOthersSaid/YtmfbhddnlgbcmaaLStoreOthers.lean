/- The law FnStoreOthers holds for every input: other authors do not matter for a quota. -/
import Derived.Test.YtmfbhddnlgbcmaaDrawS
import Derived.Test.YtmfbhddnlgbcmaaSameSt
import Derived.Test.YtmfbhddnlgbcmaaArgs
import Derived.Test.YtmfbhddnlgbcmaaReg
namespace Go.Proofs.Ytmfbhddnlgbcmaa.lawStoreOthers
open Go.ChangeShapes Go.WideShapes Go.ChangeAt Go.RowKit
set_option linter.unusedVariables false

set_option maxHeartbeats 8000000 in
set_option maxRecDepth 100000 in
theorem walk (a0 : Option Addr) (c0 : Nat) (z0 : List Int) (a1 : Option Addr) (c1 : Nat) (z1 : List Int) (w : World) (h0 : Bytes w w.heap.size a0 z0 ∧ z0.length ≤ c0) (h1 : Bytes w w.heap.size a1 z1 ∧ z1.length ≤ c1) :
    Calls Try.prog 3 #[.slice a0 z0.length c0, .slice a1 z1.length c1] w fun e w' => e = .returned (.bool true) ∧ Below w.heap.size w w' := by
  by_cases hbig0 : (1048576 : Int) < z0.length
  · go_enter Try.func3, Try.ntmps3
    go_wp2_with fail
    go_ret
    exact ⟨rfl, Below.refl _ _⟩
  by_cases hbig1 : (1048576 : Int) < z1.length
  · go_enter Try.func3, Try.ntmps3
    go_wp2_with fail
    go_ret
    exact ⟨rfl, Below.refl _ _⟩
  have hn0 : z0.length ≤ 1048576 := by omega
  have H0 := Lib.hid h0
  have hn1 : z1.length ≤ 1048576 := by omega
  have H1 := Lib.hid h1
  clear h0 h1
  go_enter Try.func3, Try.ntmps3
  go_wp2_with fail
  refine (s_DrawStorePut _ _ _ _ H0.out.1 H0.out.2 hn0).mono ?_
  rintro e w1 ⟨f, g, c, bs, b, rfl, hl, ho, b1⟩
  have hcap := ho.up.2.2
  have LX := Lib.hid ho.up.2.1.lst
  have BB := Lib.hid b1
  clear ho b1
  have ba := allocB2 w1 (.cells #[.int .i64 f, .slice (some ⟨g, 0, none⟩) bs.length c] 25) (.cells #[.int .i64 b.d, .int .i64 b.a, .int .i64 b.r, .int .i64 b.s] 27)
  replace LX := Lib.hid (LX.out.carry ba)
  replace BB := Lib.hid (next BB.out ba)
  clear ba
  by_cases h0 : ¬ putCode f bs b = 0
  · obtain ⟨k, hk⟩ : ∃ k, putCode f bs b = k := ⟨_, rfl⟩
    obtain ⟨v, hv⟩ : ∃ v, putFloor f bs b = v := ⟨_, rfl⟩
    obtain ⟨ks, hks⟩ : ∃ ks, putList f bs b = ks := ⟨_, rfl⟩
    have hkl : ks.length ≤ 14 := by have := putList_len (f := f) (bs := bs) (b := b); rw [hks] at this; omega
    have hk0 : (k != 0) = true := by simpa using fun e => h0 (hk.trans e)
    have hkk : (k != k) = false := by simp
    have hke : (k == k) = true := by simp
    have HK := Lib.hid hk
    have HV := Lib.hid hv
    have HL := Lib.hid hks
    clear hk hv hks h0
    go_wp2_with fail
    refine (i_put f (some ⟨g, 0, none⟩) c bs b _ LX.out (by omega) (k := k) (v := v) (ks := ks) HK.out HV.out HL.out).mono ?_
    rintro e w2 ⟨A2, c2, rfl, l2, b2⟩
    replace LX := Lib.hid (LX.out.carry b2)
    replace BB := Lib.hid (next BB.out b2)
    have x0 := keepc (b := w1.heap.size) (off := 0) (v := .int .i64 f) b2 (by simp)
    have x1 := keepc (b := w1.heap.size) (off := 1) (v := .slice (some ⟨g, 0, none⟩) bs.length c) b2 (by simp)
    have y0 := keepc (b := w1.heap.size + 1) (off := 0) (v := .int .i64 b.d) b2 (by simp)
    have y1 := keepc (b := w1.heap.size + 1) (off := 1) (v := .int .i64 b.a) b2 (by simp)
    have y2 := keepc (b := w1.heap.size + 1) (off := 2) (v := .int .i64 b.r) b2 (by simp)
    have y3 := keepc (b := w1.heap.size + 1) (off := 3) (v := .int .i64 b.s) b2 (by simp)
    clear b2
    have Lo := Lib.hid l2
    clear l2
    have ba := allocB w2 (.cells #[.int .i64 v, .slice A2 ks.length c2] 25)
    replace LX := Lib.hid (LX.out.carry ba)
    replace Lo := Lib.hid (Lo.out.carry ba)
    replace BB := Lib.hid (next BB.out ba)
    replace x0 := keepc ba x0
    replace x1 := keepc ba x1
    replace y0 := keepc ba y0
    replace y1 := keepc ba y1
    replace y2 := keepc ba y2
    replace y3 := keepc ba y3
    clear ba
    go_wp2_with fail
    refine (s_put f g c bs b _ LX.out hcap (by omega) (k := k) (v := v) (ks := ks) HK.out HV.out HL.out).mono ?_
    rintro e w3 ⟨A3, c3, rfl, l3, b3⟩
    replace LX := Lib.hid (LX.out.carry b3)
    replace Lo := Lib.hid (Lo.out.carry b3)
    replace BB := Lib.hid (next BB.out b3)
    replace x0 := keepc b3 x0
    replace x1 := keepc b3 x1
    replace y0 := keepc b3 y0
    replace y1 := keepc b3 y1
    replace y2 := keepc b3 y2
    replace y3 := keepc b3 y3
    have o0 := keepc (b := w2.heap.size) (off := 0) (v := .int .i64 v) b3 (by simp)
    have o1 := keepc (b := w2.heap.size) (off := 1) (v := .slice A2 ks.length c2) b3 (by simp)
    clear b3
    have Lt := Lib.hid l3
    clear l3
    have ba := allocB w3 (.cells #[.int .i64 v, .slice A3 ks.length c3] 25)
    replace LX := Lib.hid (LX.out.carry ba)
    replace Lo := Lib.hid (Lo.out.carry ba)
    replace Lt := Lib.hid (Lt.out.carry ba)
    replace BB := Lib.hid (next BB.out ba)
    replace x0 := keepc ba x0
    replace x1 := keepc ba x1
    replace y0 := keepc ba y0
    replace y1 := keepc ba y1
    replace y2 := keepc ba y2
    replace y3 := keepc ba y3
    replace o0 := keepc ba o0
    replace o1 := keepc ba o1
    clear ba
    go_wp2_with fail
    refine (sameStore_same v A2 A3 c2 c3 ks _ Lo.out Lt.out (by omega)).mono ?_
    rintro e w4 ⟨rfl, b4⟩
    replace LX := Lib.hid (LX.out.carry b4)
    replace Lo := Lib.hid (Lo.out.carry b4)
    replace Lt := Lib.hid (Lt.out.carry b4)
    replace BB := Lib.hid (next BB.out b4)
    replace x0 := keepc b4 x0
    replace x1 := keepc b4 x1
    replace y0 := keepc b4 y0
    replace y1 := keepc b4 y1
    replace y2 := keepc b4 y2
    replace y3 := keepc b4 y3
    replace o0 := keepc b4 o0
    replace o1 := keepc b4 o1
    have t0 := keepc (b := w3.heap.size) (off := 0) (v := .int .i64 v) b4 (by simp)
    have t1 := keepc (b := w3.heap.size) (off := 1) (v := .slice A3 ks.length c3) b4 (by simp)
    clear b4
    go_wp2_with fail
    refine (sameStore_same v A2 A3 c2 c3 ks _ Lo.out Lt.out (by omega)).mono ?_
    rintro e w5 ⟨rfl, b5⟩
    replace LX := Lib.hid (LX.out.carry b5)
    replace Lo := Lib.hid (Lo.out.carry b5)
    replace Lt := Lib.hid (Lt.out.carry b5)
    replace BB := Lib.hid (next BB.out b5)
    replace x0 := keepc b5 x0
    replace x1 := keepc b5 x1
    replace y0 := keepc b5 y0
    replace y1 := keepc b5 y1
    replace y2 := keepc b5 y2
    replace y3 := keepc b5 y3
    replace o0 := keepc b5 o0
    replace o1 := keepc b5 o1
    replace t0 := keepc b5 t0
    replace t1 := keepc b5 t1
    clear b5
    go_wp2_with fail
    go_ret
    exact ⟨rfl, BB.out⟩
  have h0 : putCode f bs b = 0 := Classical.not_not.1 h0
  have HK := Lib.hid h0
  have HV := Lib.hid (put_list h0).2
  have HL := Lib.hid (put_list h0).1
  have hil := ins_len (b := b) (bs := bs)
  have hkl : (ins b bs).length ≤ 14 := by omega
  clear h0 hil
  go_wp2_with fail
  refine (i_put f (some ⟨g, 0, none⟩) c bs b _ LX.out (by omega) (k := 0) (v := f) (ks := (ins b bs)) HK.out HV.out HL.out).mono ?_
  rintro e w2 ⟨A2, c2, rfl, l2, b2⟩
  replace LX := Lib.hid (LX.out.carry b2)
  replace BB := Lib.hid (next BB.out b2)
  have x0 := keepc (b := w1.heap.size) (off := 0) (v := .int .i64 f) b2 (by simp)
  have x1 := keepc (b := w1.heap.size) (off := 1) (v := .slice (some ⟨g, 0, none⟩) bs.length c) b2 (by simp)
  have y0 := keepc (b := w1.heap.size + 1) (off := 0) (v := .int .i64 b.d) b2 (by simp)
  have y1 := keepc (b := w1.heap.size + 1) (off := 1) (v := .int .i64 b.a) b2 (by simp)
  have y2 := keepc (b := w1.heap.size + 1) (off := 2) (v := .int .i64 b.r) b2 (by simp)
  have y3 := keepc (b := w1.heap.size + 1) (off := 3) (v := .int .i64 b.s) b2 (by simp)
  clear b2
  have Lo := Lib.hid l2
  clear l2
  have ba := allocB w2 (.cells #[.int .i64 f, .slice A2 (ins b bs).length c2] 25)
  replace LX := Lib.hid (LX.out.carry ba)
  replace Lo := Lib.hid (Lo.out.carry ba)
  replace BB := Lib.hid (next BB.out ba)
  replace x0 := keepc ba x0
  replace x1 := keepc ba x1
  replace y0 := keepc ba y0
  replace y1 := keepc ba y1
  replace y2 := keepc ba y2
  replace y3 := keepc ba y3
  clear ba
  go_wp2_with fail
  refine (s_put f g c bs b _ LX.out hcap (by omega) (k := 0) (v := f) (ks := (ins b bs)) HK.out HV.out HL.out).mono ?_
  rintro e w3 ⟨A3, c3, rfl, l3, b3⟩
  replace LX := Lib.hid (LX.out.carry b3)
  replace Lo := Lib.hid (Lo.out.carry b3)
  replace BB := Lib.hid (next BB.out b3)
  replace x0 := keepc b3 x0
  replace x1 := keepc b3 x1
  replace y0 := keepc b3 y0
  replace y1 := keepc b3 y1
  replace y2 := keepc b3 y2
  replace y3 := keepc b3 y3
  have o0 := keepc (b := w2.heap.size) (off := 0) (v := .int .i64 f) b3 (by simp)
  have o1 := keepc (b := w2.heap.size) (off := 1) (v := .slice A2 (ins b bs).length c2) b3 (by simp)
  clear b3
  have Lt := Lib.hid l3
  clear l3
  have ba := allocB w3 (.cells #[.int .i64 f, .slice A3 (ins b bs).length c3] 25)
  replace LX := Lib.hid (LX.out.carry ba)
  replace Lo := Lib.hid (Lo.out.carry ba)
  replace Lt := Lib.hid (Lt.out.carry ba)
  replace BB := Lib.hid (next BB.out ba)
  replace x0 := keepc ba x0
  replace x1 := keepc ba x1
  replace y0 := keepc ba y0
  replace y1 := keepc ba y1
  replace y2 := keepc ba y2
  replace y3 := keepc ba y3
  replace o0 := keepc ba o0
  replace o1 := keepc ba o1
  clear ba
  go_wp2_with fail
  refine (sameStore_same f A2 A3 c2 c3 (ins b bs) _ Lo.out Lt.out (by omega)).mono ?_
  rintro e w4 ⟨rfl, b4⟩
  replace LX := Lib.hid (LX.out.carry b4)
  replace Lo := Lib.hid (Lo.out.carry b4)
  replace Lt := Lib.hid (Lt.out.carry b4)
  replace BB := Lib.hid (next BB.out b4)
  replace x0 := keepc b4 x0
  replace x1 := keepc b4 x1
  replace y0 := keepc b4 y0
  replace y1 := keepc b4 y1
  replace y2 := keepc b4 y2
  replace y3 := keepc b4 y3
  replace o0 := keepc b4 o0
  replace o1 := keepc b4 o1
  have t0 := keepc (b := w3.heap.size) (off := 0) (v := .int .i64 f) b4 (by simp)
  have t1 := keepc (b := w3.heap.size) (off := 1) (v := .slice A3 (ins b bs).length c3) b4 (by simp)
  clear b4
  have hba := (batchB_bd (put0_can.1 HK.out).2.1).2.1
  obtain ⟨m, hm0, hm1, hm⟩ : ∃ m : Nat, m < 6 ∧ 0 ≤ m ∧ ((z1.length : Int) % 6) = m := ⟨z1.length % 6, by omega, by omega, by omega⟩
  obtain ⟨a, ha⟩ : ∃ a : Int, (b.a + 1 + (m : Int)) % 7 = a := ⟨_, rfl⟩
  have hne : b.a ≠ a := by omega
  have hab : (a == b.a) = false := by simpa using Ne.symm hne
  obtain ⟨u, hu⟩ : ∃ u, usedOf f bs a = u := ⟨_, rfl⟩
  have hu2 : usedOf f (ins b bs) a = u := (put_others HK.out hne).trans hu
  have hue : (u == u) = true := by simp
  have HA := Lib.hid ha
  have U1 : ∀ p : GrowOf w4, Calls Try.prog 18 #[.agg #[.int .i64 f, .slice A2 (ins b bs).length c2], .int .i64 a] p.W fun e w' => e = .returned (.int .i64 u) ∧ Below p.W.heap.size p.W w' := fun p => by
    have h := i_StoreUsed f A2 c2 (ins b bs) a p.W (Lo.out.carry p.h) (by omega)
    rw [hu2] at h; exact h
  have U2 : ∀ p : GrowOf w4, Calls Try.prog 18 #[.agg #[.int .i64 f, .slice (some ⟨g, 0, none⟩) bs.length c], .int .i64 a] p.W fun e w' => e = .returned (.int .i64 u) ∧ Below p.W.heap.size p.W w' := fun p => by
    have h := i_StoreUsed f (some ⟨g, 0, none⟩) c bs a p.W (LX.out.carry p.h) (by omega)
    rw [hu] at h; exact h
  have V1 := Lib.hid U1
  have V2 := Lib.hid U2
  clear U1 U2 hu hu2 hne ha
  go_wp2_with fail
  rw [HA.out]
  have go0 := fun p : GrowOf w4 => GrowOf.cell o0 p
  have go1 := fun p : GrowOf w4 => GrowOf.cell o1 p
  have gx0 := fun p : GrowOf w4 => GrowOf.cell x0 p
  have gx1 := fun p : GrowOf w4 => GrowOf.cell x1 p
  have gy1 := fun p : GrowOf w4 => GrowOf.cell y1 p
  refine wp_region_grow (by kernel_rfl) (by kernel_rfl) ?_
  repeat (go_big_quiet_step (first | (go_at_call 18; with_reducible exact grow_below (V1.out _)) | (go_at_call 18; with_reducible exact grow_below (V2.out _))))
  refine wpQuiet_nil ?_
  rintro _ ⟨pq, rfl⟩
  have HQ := Lib.hid (next BB.out pq.h)
  clear go0 go1 gx0 gx1 gy1
  go_wp2_with fail
  go_ret
  exact ⟨rfl, HQ.out⟩

set_option maxRecDepth 100000 in
theorem lifted (os : Os) (started : os.Started) (H : Type) (enc : TypeId × Value → H) :
    ReturnsInHanded {} Try.checked os 3 .any (Rows.fnStoreOthersSpec.pre6 enc Try.prog Try.f3 Rows.fnStoreOthersRow.domain false) (Rows.fnStoreOthersSpec.post enc Try.prog Try.f3 false true false false) := by
  refine returnsInHanded_of_change (C := Try.checked) own started (by kernel_rfl) Try.func3
    (ChangeSpec.witness6 (enc := enc) (C := Try.checked) false ⟨#[], #[.slice none 0 0, .slice none 0 0], []⟩ 8 (by kernel_rfl) (by kernel_rfl) (by kernel_rfl) (by kernel_rfl)) ?_
  intro W base args ds gs before hval0 hW hcnd _
  have hval : ∀ (j : Nat) t v, Try.f3.params[j]? = some t → args[j]? = some v → Value.okWide Try.prog W .any base t v := hval0
  have hW' := hW
  obtain ⟨p, q, hA0, hV, rfl, hfz, hnd⟩ := hW
  have hA : DataW.TrodAll enc Try.prog W 0 (fun _ => true) true Try.f3.params.toList args.toList ds p := hA0
  rw [Try.params3] at hA hval
  obtain ⟨v0, vs0, d0, ds0, p0, q0, hargs, rfl, rfl, h0, r0⟩ := trodAll_cons hA
  obtain ⟨v1, vs1, d1, ds1, p1, q1, rfl, rfl, rfl, h1, r1⟩ := trodAll_cons r0
  obtain ⟨rfl, rfl, rfl⟩ := trodAll_nil r1
  obtain rfl : args = #[v0, v1] := by cases args; simp_all
  obtain ⟨rfl, rfl⟩ := trodVars_none hV
  obtain ⟨a0, len0, c0, rfl⟩ := okWide_slice Try.underlying22 (hval 0 22 v0 rfl rfl)
  have k0 := h0
  have lt0 : ∀ x ∈ p0, x.block < W.heap.size := by obtain ⟨m, hm⟩ := k0; exact DataW.trod_lt m _ _ _ hm
  obtain ⟨z0, rfl, w0⟩ := bytes_of_trod h0
  obtain ⟨a1, len1, c1, rfl⟩ := okWide_slice Try.underlying22 (hval 1 22 v1 rfl rfl)
  have k1 := h1
  have lt1 : ∀ x ∈ p1, x.block < W.heap.size := by obtain ⟨m, hm⟩ := k1; exact DataW.trod_lt m _ _ _ hm
  obtain ⟨z1, rfl, w1⟩ := bytes_of_trod h1
  clear hA0 hval0
  refine (walk a0 c0 z0 a1 c1 z1 W w0 w1).mono fun e W' ⟨he, bel⟩ => ?_
  subst he
  exact ⟨_, rfl, _, _, _, [], _, [], hW', trodAll_mk1 (shut_bool Try.underlying4 _), (trodAll_cons_mk (Below.trod laidOut (by kernel_rfl) (of_decide_eq_true (by kernel_rfl)) k0 bel lt0) (trodAll_cons_mk (Below.trod laidOut (by kernel_rfl) (of_decide_eq_true (by kernel_rfl)) k1 bel lt1) trodAll_mk0)), rfl, bel.frame _, fun h => by cases h⟩

theorem over : Rows.fnStoreOthersRow.holds Try.pinned (OpenSpec.ofChange Rows.fnStoreOthersSpec) :=
  OpenClaim.holds_of_wide 3 Try.f3 rfl rfl rfl rfl rfl rfl rfl ⟨rfl, rfl, rfl, rfl, rfl⟩ rfl rfl rfl rfl rfl (by kernel_rfl) Try.func3 (by kernel_rfl)
    (of_decide_eq_true (by kernel_rfl)) (by unfold Func.isWrapper; first | (rw [if_pos (by decide +kernel)]; kernel_rfl) | (rw [if_neg (by decide +kernel)]; exact ⟨rfl, rfl⟩))
    (fun os started H enc _ => lifted os started H enc)

/-- The given statement. -/
theorem proved : Rows.FnStoreOthersSaid := over
#print axioms proved
end Go.Proofs.Ytmfbhddnlgbcmaa.lawStoreOthers
