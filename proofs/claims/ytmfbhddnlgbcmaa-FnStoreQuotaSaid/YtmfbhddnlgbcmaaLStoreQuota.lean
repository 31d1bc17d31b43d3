/- The law FnStoreQuota holds for every input: no author exceeds the quota. -/
import Derived.Test.YtmfbhddnlgbcmaaDrawS
import Derived.Test.YtmfbhddnlgbcmaaPutL
import Derived.Test.YtmfbhddnlgbcmaaArgs
namespace Go.Proofs.Ytmfbhddnlgbcmaa.lawStoreQuota
open Go.ChangeShapes Go.WideShapes Go.ChangeAt Go.RowKit
set_option linter.unusedVariables false

set_option maxHeartbeats 8000000 in
set_option maxRecDepth 100000 in
theorem walk (a0 : Option Addr) (c0 : Nat) (z0 : List Int) (w : World) (h0 : Bytes w w.heap.size a0 z0 ∧ z0.length ≤ c0) :
    Calls Try.prog 7 #[.slice a0 z0.length c0] w fun e w' => e = .returned (.bool true) ∧ Below w.heap.size w w' := by
  by_cases hbig0 : (1048576 : Int) < z0.length
  · go_enter Try.func7, Try.ntmps7
    go_wp2_with fail
    go_ret
    exact ⟨rfl, Below.refl _ _⟩
  have hn0 : z0.length ≤ 1048576 := by omega
  have H0 := Lib.hid h0
  clear h0
  go_enter Try.func7, Try.ntmps7
  go_wp2_with fail
  refine (s_DrawStoreUsed _ _ _ _ H0.out.1 H0.out.2 hn0).mono ?_
  rintro e w1 ⟨f, g, c, bs, n, rfl, hl, ho, b1⟩
  have hcap := ho.up.2.2
  have LX := Lib.hid ho.up.2.1.lst
  have BB := Lib.hid b1
  clear ho b1
  have ba := allocB w1 (.cells #[.int .i64 f, .slice (some ⟨g, 0, none⟩) bs.length c] 25)
  replace LX := Lib.hid (LX.out.carry ba)
  replace BB := Lib.hid (next BB.out ba)
  clear ba
  obtain ⟨u, hu⟩ : ∃ u, usedOf f bs n = u := ⟨_, rfl⟩
  have hmax : u ≤ 30 := hu ▸ used_max n
  have HU := Lib.hid hu
  clear hu
  go_wp2_with fail
  refine (i_StoreUsed f (some ⟨g, 0, none⟩) c bs n _ LX.out (by omega)).mono ?_
  rw [HU.out]
  rintro e w2 ⟨rfl, b2⟩
  replace LX := Lib.hid (LX.out.carry b2)
  replace BB := Lib.hid (next BB.out b2)
  have x0 := keepc (b := w1.heap.size) (off := 0) (v := .int .i64 f) b2 (by simp)
  have x1 := keepc (b := w1.heap.size) (off := 1) (v := .slice (some ⟨g, 0, none⟩) bs.length c) b2 (by simp)
  clear b2
  go_wp2_with fail
  refine (s_StoreUsed f (some ⟨g, 0, none⟩) c bs n _ LX.out (by omega)).mono ?_
  rw [HU.out]
  rintro e w3 ⟨rfl, b3⟩
  replace LX := Lib.hid (LX.out.carry b3)
  replace BB := Lib.hid (next BB.out b3)
  replace x0 := keepc b3 x0
  replace x1 := keepc b3 x1
  clear b3
  have hne : (u != u) = false := by simp
  have heq : (u == u) = true := by simp
  by_cases h0 : u < 0
  · go_wp2_with fail
    go_ret
    exact ⟨rfl, BB.out⟩
  · go_wp2_with fail
    go_ret
    exact ⟨rfl, BB.out⟩

set_option maxRecDepth 100000 in
theorem lifted (os : Os) (started : os.Started) (H : Type) (enc : TypeId × Value → H) :
    ReturnsInHanded {} Try.checked os 7 .any (Rows.fnStoreQuotaSpec.pre6 enc Try.prog Try.f7 Rows.fnStoreQuotaRow.domain false) (Rows.fnStoreQuotaSpec.post enc Try.prog Try.f7 false true false false) := by
  refine returnsInHanded_of_change (C := Try.checked) own started (by kernel_rfl) Try.func7
    (ChangeSpec.witness6 (enc := enc) (C := Try.checked) false ⟨#[], #[.slice none 0 0], []⟩ 8 (by kernel_rfl) (by kernel_rfl) (by kernel_rfl) (by kernel_rfl)) ?_
  intro W base args ds gs before hval0 hW hcnd _
  have hval : ∀ (j : Nat) t v, Try.f7.params[j]? = some t → args[j]? = some v → Value.okWide Try.prog W .any base t v := hval0
  have hW' := hW
  obtain ⟨p, q, hA0, hV, rfl, hfz, hnd⟩ := hW
  have hA : DataW.TrodAll enc Try.prog W 0 (fun _ => true) true Try.f7.params.toList args.toList ds p := hA0
  rw [Try.params7] at hA hval
  obtain ⟨v0, vs0, d0, ds0, p0, q0, hargs, rfl, rfl, h0, r0⟩ := trodAll_cons hA
  obtain ⟨rfl, rfl, rfl⟩ := trodAll_nil r0
  obtain rfl : args = #[v0] := by cases args; simp_all
  obtain ⟨rfl, rfl⟩ := trodVars_none hV
  obtain ⟨a0, len0, c0, rfl⟩ := okWide_slice Try.underlying22 (hval 0 22 v0 rfl rfl)
  have k0 := h0
  have lt0 : ∀ x ∈ p0, x.block < W.heap.size := by obtain ⟨m, hm⟩ := k0; exact DataW.trod_lt m _ _ _ hm
  obtain ⟨z0, rfl, w0⟩ := bytes_of_trod h0
  clear hA0 hval0
  refine (walk a0 c0 z0 W w0).mono fun e W' ⟨he, bel⟩ => ?_
  subst he
  exact ⟨_, rfl, _, _, _, [], _, [], hW', trodAll_mk1 (shut_bool Try.underlying4 _), (trodAll_cons_mk (Below.trod laidOut (by kernel_rfl) (of_decide_eq_true (by kernel_rfl)) k0 bel lt0) trodAll_mk0), rfl, bel.frame _, fun h => by cases h⟩

theorem over : Rows.fnStoreQuotaRow.holds Try.pinned (OpenSpec.ofChange Rows.fnStoreQuotaSpec) :=
  OpenClaim.holds_of_wide 7 Try.f7 rfl rfl rfl rfl rfl rfl rfl ⟨rfl, rfl, rfl, rfl, rfl⟩ rfl rfl rfl rfl rfl (by kernel_rfl) Try.func7 (by kernel_rfl)
    (of_decide_eq_true (by kernel_rfl)) (by unfold Func.isWrapper; first | (rw [if_pos (by decide +kernel)]; kernel_rfl) | (rw [if_neg (by decide +kernel)]; exact ⟨rfl, rfl⟩))
    (fun os started H enc _ => lifted os started H enc)

/-- The given statement. -/
theorem proved : Rows.FnStoreQuotaSaid := over
#print axioms proved
end Go.Proofs.Ytmfbhddnlgbcmaa.lawStoreQuota
