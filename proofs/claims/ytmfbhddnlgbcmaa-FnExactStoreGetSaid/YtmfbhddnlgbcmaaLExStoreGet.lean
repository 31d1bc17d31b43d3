/- The law FnExactStoreGet holds for every input: the program's StoreGet returns what the reference's returns. -/
import Derived.Test.YtmfbhddnlgbcmaaStoreU
import Derived.Test.YtmfbhddnlgbcmaaArgL
import Derived.Test.YtmfbhddnlgbcmaaStLStore
import Derived.RegionTactic
namespace Go.Proofs.Ytmfbhddnlgbcmaa.exStoreGet
open Go.ChangeShapes Go.WideShapes Go.ChangeAt Go.RowKit
set_option linter.unusedVariables false

set_option maxHeartbeats 8000000 in
theorem walk1 (f : Int) (A : Option Addr) (c : Nat) (bs : List VBatch) (n : Int) (w : World) (hp : LstBatch w w.heap.size A bs) (hpl : bs.length ≤ 9223372036854775807) :
    Calls Try.prog 6 #[.agg #[.int .i64 f, .slice A bs.length c], .int .i64 n] w fun e w' => e = .returned (.bool true) ∧ Below w.heap.size w w' := by
  have BB := Lib.hid (allocB w (.cells #[.int .i64 f, .slice A bs.length c] 37))
  have HP := Lib.hid (hp.carry BB.out)
  clear hp
  by_cases hs : (1048576 : Int) < bs.length
  · go_enter Try.func6, Try.ntmps6
    go_wp2_with fail
    refine (szStore_any _ _ _ _ _ _ (by omega) (by omega) hpl).mono ?_
    rw [szL_neg (by omega)]
    rintro e w2 ⟨rfl, b2⟩
    replace HP := Lib.hid (HP.out.carry b2)
    replace BB := Lib.hid (next BB.out b2)
    have x0 := keepc (b := w.heap.size) (off := 0) (v := .int .i64 f) b2 (by simp)
    have x1 := keepc (b := w.heap.size) (off := 1) (v := .slice A bs.length c) b2 (by simp)
    clear b2
    go_wp2_with fail
    go_ret
    exact ⟨rfl, BB.out⟩
  have hm : bs.length ≤ 1048576 := by omega
  go_enter Try.func6, Try.ntmps6
  go_wp2_with fail
  refine (szStore_any _ _ _ _ _ _ (by omega) (by omega) hpl).mono ?_
  rw [szL_pos (by omega)]
  rintro e w2 ⟨rfl, b2⟩
  replace HP := Lib.hid (HP.out.carry b2)
  replace BB := Lib.hid (next BB.out b2)
  have x0 := keepc (b := w.heap.size) (off := 0) (v := .int .i64 f) b2 (by simp)
  have x1 := keepc (b := w.heap.size) (off := 1) (v := .slice A bs.length c) b2 (by simp)
  clear b2
  go_wp2_with fail
  refine (toStore_any _ A c bs _ HP.out hm).mono ?_
  rintro e w3 ⟨g3, a3, rfl, r3, s3, _, b3⟩
  replace HP := Lib.hid (HP.out.carry b3)
  replace BB := Lib.hid (next BB.out b3)
  replace x0 := keepc b3 x0
  replace x1 := keepc b3 x1
  have XS := Lib.hid (LstBatch.of_blk r3 s3 r3.lt)
  clear r3 s3 b3
  go_wp2_with fail
  refine (s_StoreGet f _ _ bs n _ XS.out hm).mono ?_
  rintro e w4 ⟨rfl, b4⟩
  replace HP := Lib.hid (HP.out.carry b4)
  replace XS := Lib.hid (XS.out.carry b4)
  replace BB := Lib.hid (next BB.out b4)
  replace x0 := keepc b4 x0
  replace x1 := keepc b4 x1
  clear b4
  have ba := allocB w4 (.cells #[.int .i64 (getOf f bs n).1.d, .int .i64 (getOf f bs n).1.a, .int .i64 (getOf f bs n).1.r, .int .i64 (getOf f bs n).1.s] 27)
  replace HP := Lib.hid (HP.out.carry ba)
  replace XS := Lib.hid (XS.out.carry ba)
  replace BB := Lib.hid (next BB.out ba)
  replace x0 := keepc ba x0
  replace x1 := keepc ba x1
  clear ba
  go_wp2_with fail
  refine (toStore_any _ A c bs _ HP.out hm).mono ?_
  rintro e w5 ⟨g5, a5, rfl, r5, s5, _, b5⟩
  replace HP := Lib.hid (HP.out.carry b5)
  replace XS := Lib.hid (XS.out.carry b5)
  replace BB := Lib.hid (next BB.out b5)
  replace x0 := keepc b5 x0
  replace x1 := keepc b5 x1
  have u0 := keepc (b := w4.heap.size) (off := 0) (v := .int .i64 (getOf f bs n).1.d) b5 (by simp)
  have u1 := keepc (b := w4.heap.size) (off := 1) (v := .int .i64 (getOf f bs n).1.a) b5 (by simp)
  have u2 := keepc (b := w4.heap.size) (off := 2) (v := .int .i64 (getOf f bs n).1.r) b5 (by simp)
  have u3 := keepc (b := w4.heap.size) (off := 3) (v := .int .i64 (getOf f bs n).1.s) b5 (by simp)
  have XT := Lib.hid (LstBatch.of_blk r5 s5 r5.lt)
  clear r5 s5 b5
  have ba := allocB w5 (.cells #[.int .i64 f, .slice (some ⟨g5, 0, none⟩) bs.length bs.length] 25)
  replace HP := Lib.hid (HP.out.carry ba)
  replace XT := Lib.hid (XT.out.carry ba)
  replace BB := Lib.hid (next BB.out ba)
  replace x0 := keepc ba x0
  replace x1 := keepc ba x1
  replace u0 := keepc ba u0
  replace u1 := keepc ba u1
  replace u2 := keepc ba u2
  replace u3 := keepc ba u3
  clear ba
  go_wp2_with fail
  refine (i_StoreGet f _ _ bs n _ XT.out hm).mono ?_
  rintro e w6 ⟨rfl, b6⟩
  replace HP := Lib.hid (HP.out.carry b6)
  replace XT := Lib.hid (XT.out.carry b6)
  replace BB := Lib.hid (next BB.out b6)
  replace x0 := keepc b6 x0
  replace x1 := keepc b6 x1
  replace u0 := keepc b6 u0
  replace u1 := keepc b6 u1
  replace u2 := keepc b6 u2
  replace u3 := keepc b6 u3
  have q0 := keepc (b := w5.heap.size) (off := 0) (v := .int .i64 f) b6 (by simp)
  have q1 := keepc (b := w5.heap.size) (off := 1) (v := .slice (some ⟨g5, 0, none⟩) bs.length bs.length) b6 (by simp)
  clear b6
  have ba := allocB w6 (.cells #[.int .i64 (getOf f bs n).1.d, .int .i64 (getOf f bs n).1.a, .int .i64 (getOf f bs n).1.r, .int .i64 (getOf f bs n).1.s] 27)
  replace HP := Lib.hid (HP.out.carry ba)
  replace XT := Lib.hid (XT.out.carry ba)
  replace BB := Lib.hid (next BB.out ba)
  replace x0 := keepc ba x0
  replace x1 := keepc ba x1
  replace u0 := keepc ba u0
  replace u1 := keepc ba u1
  replace u2 := keepc ba u2
  replace u3 := keepc ba u3
  replace q0 := keepc ba q0
  replace q1 := keepc ba q1
  clear ba
  have hv : ((getOf f bs n).2 != (getOf f bs n).2) = false := by simp
  go_wp2_with fail
  refine (eqBatch_same _ _ _ _ _).mono ?_
  rintro e w7 ⟨rfl, b7⟩
  replace HP := Lib.hid (HP.out.carry b7)
  replace XT := Lib.hid (XT.out.carry b7)
  replace BB := Lib.hid (next BB.out b7)
  replace x0 := keepc b7 x0
  replace x1 := keepc b7 x1
  replace u0 := keepc b7 u0
  replace u1 := keepc b7 u1
  replace u2 := keepc b7 u2
  replace u3 := keepc b7 u3
  replace q0 := keepc b7 q0
  replace q1 := keepc b7 q1
  have v0 := keepc (b := w6.heap.size) (off := 0) (v := .int .i64 (getOf f bs n).1.d) b7 (by simp)
  have v1 := keepc (b := w6.heap.size) (off := 1) (v := .int .i64 (getOf f bs n).1.a) b7 (by simp)
  have v2 := keepc (b := w6.heap.size) (off := 2) (v := .int .i64 (getOf f bs n).1.r) b7 (by simp)
  have v3 := keepc (b := w6.heap.size) (off := 3) (v := .int .i64 (getOf f bs n).1.s) b7 (by simp)
  clear b7
  go_wp2_with fail
  have hP0 : LstBatch w7.drew w7.drew.heap.size A bs := HP.out
  have hX0 : LstBatch w7.drew w7.drew.heap.size (some ⟨g5, 0, none⟩) bs := XT.out
  have dx0 : w7.drew.cell? _ = _ := x0
  have dx1 : w7.drew.cell? _ = _ := x1
  have dq0 : w7.drew.cell? _ = _ := q0
  have dq1 : w7.drew.cell? _ = _ := q1
  have hB0 := Lib.hid BB.out.drew
  clear x0 x1 u0 u1 u2 u3 q0 q1 v0 v1 v2 v3
  go_region_with (first | (go_at_call 21; refine (toStore_any _ A c bs _ hP0 hm).mono ?_; rintro e vt ⟨gt, at_, rfl, rt, st, _, bt⟩; have jt := LstBatch.of_blk rt st rt.lt; have hX1 := hX0.carry bt; have ex0 := keepc bt dx0; have ex1 := keepc bt dx1; have eq0 := keepc bt dq0; have eq1 := keepc bt dq1; have hB1 := Lib.hid (next hB0.out bt); clear bt rt st) | (go_at_call 23; refine (eqStore_same _ _ _ _ _ bs _ hX1 jt hm).mono ?_; rintro e ve ⟨rfl, be⟩; have hB2 := Lib.hid (next hB1.out be); clear be))
  all_goals
    go_wp2_with fail
    go_ret
    exact ⟨rfl, hB2.out⟩

theorem walk (x0 : XStore) (n : Int) (w : World) (hx : x0.Good w) (hn : (Lit.int .i64 n).wf = true) :
    Calls Try.prog 6 #[x0.val, .int .i64 n] w fun e w' => e = .returned (.bool true) ∧ Below w.heap.size w w' :=
  walk1 x0.f x0.A x0.c x0.bs n w hx.1 hx.2

set_option maxRecDepth 100000 in
theorem lifted (os : Os) (started : os.Started) (H : Type) (enc : TypeId × Value → H) :
    ReturnsInHanded {} Try.checked os 6 .any (Rows.fnExactStoreGetSpec.pre6 enc Try.prog Try.f6 Rows.fnExactStoreGetRow.domain false) (Rows.fnExactStoreGetSpec.post enc Try.prog Try.f6 false true false false) := by
  refine returnsInHanded_of_change (C := Try.checked) own started (by kernel_rfl) Try.func6
    (ChangeSpec.witness6 (enc := enc) (C := Try.checked) false ⟨#[], #[.agg #[.int .i64 0, .slice none 0 0], .int .i64 0], []⟩ 8 (by kernel_rfl) (by kernel_rfl) (by kernel_rfl) (by kernel_rfl)) ?_
  intro W base args ds gs before hval0 hW hcnd _
  have hval : ∀ (j : Nat) t v, Try.f6.params[j]? = some t → args[j]? = some v → Value.okWide Try.prog W .any base t v := hval0
  have hW' := hW
  obtain ⟨p, q, hA0, hV, rfl, hfz, hnd⟩ := hW
  have hA : DataW.TrodAll enc Try.prog W 0 (fun _ => true) true Try.f6.params.toList args.toList ds p := hA0
  rw [Try.params6] at hA hval
  obtain ⟨v0, vs0, d0, ds0, p0, q0, hargs, rfl, rfl, h0, r0⟩ := trodAll_cons hA
  obtain ⟨v1, vs1, d1, ds1, p1, q1, rfl, rfl, rfl, h1, r1⟩ := trodAll_cons r0
  obtain ⟨rfl, rfl, rfl⟩ := trodAll_nil r1
  obtain rfl : args = #[v0, v1] := by cases args; simp_all
  obtain ⟨rfl, rfl⟩ := trodVars_none hV
  have k0 := h0
  have lt0 : ∀ x ∈ p0, x.block < W.heap.size := by obtain ⟨m, hm⟩ := k0; exact DataW.trod_lt m _ _ _ hm
  obtain ⟨x0, rfl, w0⟩ := open_store (hval 0 _ v0 rfl rfl) h0
  obtain ⟨a1, rfl, rfl, rfl, w1⟩ := open_int Try.underlying3 (hval 1 3 v1 rfl rfl) h1
  clear hA0 hval0
  refine (walk x0 a1 W w0 w1).mono fun e W' ⟨he, bel⟩ => ?_
  subst he
  exact ⟨_, rfl, _, _, _, [], _, [], hW', trodAll_mk1 (shut_bool Try.underlying4 _), (trodAll_cons_mk (Below.trod laidOut (by kernel_rfl) (of_decide_eq_true (by kernel_rfl)) k0 bel lt0) (trodAll_cons_mk (shut_int Try.underlying3 w1) trodAll_mk0)), rfl, bel.frame _, fun h => by cases h⟩

theorem over : Rows.fnExactStoreGetRow.holds Try.pinned (OpenSpec.ofChange Rows.fnExactStoreGetSpec) :=
  OpenClaim.holds_of_wide 6 Try.f6 rfl rfl rfl rfl rfl rfl rfl ⟨rfl, rfl, rfl, rfl, rfl⟩ rfl rfl rfl rfl rfl (by kernel_rfl) Try.func6 (by kernel_rfl)
    (of_decide_eq_true (by kernel_rfl)) (by unfold Func.isWrapper; first | (rw [if_pos (by decide +kernel)]; kernel_rfl) | (rw [if_neg (by decide +kernel)]; exact ⟨rfl, rfl⟩))
    (fun os started H enc _ => lifted os started H enc)

/-- The given statement. -/
theorem proved : Rows.FnExactStoreGetSaid := over
#print axioms proved
end Go.Proofs.Ytmfbhddnlgbcmaa.exStoreGet
