/- The law FnStoreGet holds for every input: a batch is found by its digest. -/
import Derived.Test.YtmfbhddnlgbcmaaDrawS
import Derived.Test.YtmfbhddnlgbcmaaPutL
import Derived.Test.YtmfbhddnlgbcmaaArgs
namespace Go.Proofs.Ytmfbhddnlgbcmaa.lawStoreGet
open Go.ChangeShapes Go.WideShapes Go.ChangeAt Go.RowKit
set_option linter.unusedVariables false

set_option maxHeartbeats 8000000 in
set_option maxRecDepth 100000 in
theorem walk (a0 : Option Addr) (c0 : Nat) (z0 : List Int) (w : World) (h0 : Bytes w w.heap.size a0 z0 ∧ z0.length ≤ c0) :
    Calls Try.prog 8 #[.slice a0 z0.length c0] w fun e w' => e = .returned (.bool true) ∧ Below w.heap.size w w' := by
  by_cases hbig0 : (1048576 : Int) < z0.length
  · go_enter Try.func8, Try.ntmps8
    go_wp2_with fail
    go_ret
    exact ⟨rfl, Below.refl _ _⟩
  have hn0 : z0.length ≤ 1048576 := by omega
  have H0 := Lib.hid h0
  clear h0
  go_enter Try.func8, Try.ntmps8
  go_wp2_with fail
  refine (s_DrawStoreGet _ _ _ _ H0.out.1 H0.out.2 hn0).mono ?_
  rintro e w1 ⟨f, g, c, bs, n, rfl, hl, ho, b1⟩
  have hcap := ho.up.2.2
  have LX := Lib.hid ho.up.2.1.lst
  have BB := Lib.hid b1
  clear ho b1
  have ba := allocB w1 (.cells #[.int .i64 f, .slice (some ⟨g, 0, none⟩) bs.length c] 25)
  replace LX := Lib.hid (LX.out.carry ba)
  replace BB := Lib.hid (next BB.out ba)
  clear ba
  obtain ⟨q, hq⟩ : ∃ q, getOf f bs n = q := ⟨_, rfl⟩
  have hsp : q.2 = true → q.1.d = n ∧ f ≤ q.1.r := hq ▸ get_spec
  have HQ := Lib.hid hq
  have HS := Lib.hid hsp
  clear hq hsp
  obtain ⟨⟨d, a, r, s⟩, ok⟩ := q
  go_wp2_with fail
  refine (i_StoreGet f (some ⟨g, 0, none⟩) c bs n _ LX.out (by omega)).mono ?_
  rw [HQ.out]
  rintro e w2 ⟨rfl, b2⟩
  replace LX := Lib.hid (LX.out.carry b2)
  replace BB := Lib.hid (next BB.out b2)
  have x0 := keepc (b := w1.heap.size) (off := 0) (v := .int .i64 f) b2 (by simp)
  have x1 := keepc (b := w1.heap.size) (off := 1) (v := .slice (some ⟨g, 0, none⟩) bs.length c) b2 (by simp)
  clear b2
  have ba := allocB w2 (.cells #[.int .i64 d, .int .i64 a, .int .i64 r, .int .i64 s] 27)
  replace LX := Lib.hid (LX.out.carry ba)
  replace BB := Lib.hid (next BB.out ba)
  replace x0 := keepc ba x0
  replace x1 := keepc ba x1
  clear ba
  go_wp2_with fail
  refine (s_StoreGet f (some ⟨g, 0, none⟩) c bs n _ LX.out (by omega)).mono ?_
  rw [HQ.out]
  rintro e w3 ⟨rfl, b3⟩
  replace LX := Lib.hid (LX.out.carry b3)
  replace BB := Lib.hid (next BB.out b3)
  replace x0 := keepc b3 x0
  replace x1 := keepc b3 x1
  have u0 := keepc (b := w2.heap.size) (off := 0) (v := .int .i64 d) b3 (by simp)
  have u1 := keepc (b := w2.heap.size) (off := 1) (v := .int .i64 a) b3 (by simp)
  have u2 := keepc (b := w2.heap.size) (off := 2) (v := .int .i64 r) b3 (by simp)
  have u3 := keepc (b := w2.heap.size) (off := 3) (v := .int .i64 s) b3 (by simp)
  clear b3
  have ba := allocB w3 (.cells #[.int .i64 d, .int .i64 a, .int .i64 r, .int .i64 s] 27)
  replace LX := Lib.hid (LX.out.carry ba)
  replace BB := Lib.hid (next BB.out ba)
  replace x0 := keepc ba x0
  replace x1 := keepc ba x1
  replace u0 := keepc ba u0
  replace u1 := keepc ba u1
  replace u2 := keepc ba u2
  replace u3 := keepc ba u3
  clear ba
  rcases ok with _ | _
  · go_wp2_with fail
    go_ret
    exact ⟨rfl, BB.out⟩
  · obtain ⟨h1, h2⟩ := HS.out rfl
    have hdn : (d == n) = true := by have e : d = n := h1; simp [e]
    have hfr : f ≤ r := h2
    clear h1 h2
    go_wp2_with fail
    go_ret
    exact ⟨rfl, BB.out⟩

set_option maxRecDepth 100000 in
theorem lifted (os : Os) (started : os.Started) (H : Type) (enc : TypeId × Value → H) :
    ReturnsInHanded {} Try.checked os 8 .any (Rows.fnStoreGetSpec.pre6 enc Try.prog Try.f8 Rows.fnStoreGetRow.domain false) (Rows.fnStoreGetSpec.post enc Try.prog Try.f8 false true false false) := by
  refine returnsInHanded_of_change (C := Try.checked) own started (by kernel_rfl) Try.func8
    (ChangeSpec.witness6 (enc := enc) (C := Try.checked) false ⟨#[], #[.slice none 0 0], []⟩ 8 (by kernel_rfl) (by kernel_rfl) (by kernel_rfl) (by kernel_rfl)) ?_
  intro W base args ds gs before hval0 hW hcnd _
  have hval : ∀ (j : Nat) t v, Try.f8.params[j]? = some t → args[j]? = some v → Value.okWide Try.prog W .any base t v := hval0
  have hW' := hW
  obtain ⟨p, q, hA0, hV, rfl, hfz, hnd⟩ := hW
  have hA : DataW.TrodAll enc Try.prog W 0 (fun _ => true) true Try.f8.params.toList args.toList ds p := hA0
  rw [Try.params8] at hA hval
  obtain ⟨v0, vs0, d0, ds0, p0, q0, hargs, rfl, rfl, h0, r0⟩ := trodAll_cons hA
  obtain ⟨rfl, rfl, rfl⟩ := trodAll_nil r0
  obtain rfl : args = #[v0] := by cases args; simp_all
  obtain ⟨rfl, rfl⟩ := trodVars_none hV
  obtain ⟨a0, len0, c0, rfl⟩ := okWide_slice Try.underlying22 (hval 0 22 v0 rfl rfl)
  have k0 := h0
  have lt0 : ∀ x ∈ p0, x.block < W.heap.size := by obtain ⟨m, hm⟩ := k0; exact DataW.trod_lt m _ _ _ hm
  obtain ⟨z0, rfl, w0⟩ := bytes_of_trod h0
  clear hA0 hval0
  refine (walk a0 c0 z0 W w0).mono fun e W' ⟨he, bel⟩ => ?_
  subst he
  exact ⟨_, rfl, _, _, _, [], _, [], hW', trodAll_mk1 (shut_bool Try.underlying4 _), (trodAll_cons_mk (Below.trod laidOut (by kernel_rfl) (of_decide_eq_true (by kernel_rfl)) k0 bel lt0) trodAll_mk0), rfl, bel.frame _, fun h => by cases h⟩

theorem over : Rows.fnStoreGetRow.holds Try.pinned (OpenSpec.ofChange Rows.fnStoreGetSpec) :=
  OpenClaim.holds_of_wide 8 Try.f8 rfl rfl rfl rfl rfl rfl rfl ⟨rfl, rfl, rfl, rfl, rfl⟩ rfl rfl rfl rfl rfl (by kernel_rfl) Try.func8 (by kernel_rfl)
    (of_decide_eq_true (by kernel_rfl)) (by unfold Func.isWrapper; first | (rw [if_pos (by decide +kernel)]; kernel_rfl) | (rw [if_neg (by decide +kernel)]; exact ⟨rfl, rfl⟩))
    (fun os started H enc _ => lifted os started H enc)

/-- The given statement. -/
theorem proved : Rows.FnStoreGetSaid := over
#print axioms proved
end Go.Proofs.Ytmfbhddnlgbcmaa.lawStoreGet
