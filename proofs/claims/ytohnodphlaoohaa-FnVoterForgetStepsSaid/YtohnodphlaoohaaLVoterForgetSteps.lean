/- The law FnVoterForgetSteps holds for every input: the floor can be raised in steps. -/
import Derived.Test.YtohnodphlaoohaaDrawVo
import Derived.Test.YtohnodphlaoohaaVoSame
import Derived.Test.YtohnodphlaoohaaArgs
import Derived.Test.YtohnodphlaoohaaReg
namespace Go.Proofs.Ytohnodphlaoohaa.lawVoterForgetSteps
open Go.ChangeShapes Go.WideShapes Go.ChangeAt Go.RowKit
set_option linter.unusedVariables false

set_option maxHeartbeats 8000000 in
set_option maxRecDepth 100000 in
theorem walk (a0 : Option Addr) (c0 : Nat) (z0 : List Int) (a1 : Option Addr) (c1 : Nat) (z1 : List Int) (w : World) (h0 : Bytes w w.heap.size a0 z0 ∧ z0.length ≤ c0) (h1 : Bytes w w.heap.size a1 z1 ∧ z1.length ≤ c1) :
    Calls Try.prog 6 #[.slice a0 z0.length c0, .slice a1 z1.length c1] w fun e w' => e = .returned (.bool true) ∧ Below w.heap.size w w' := by
  by_cases hbig0 : (1048576 : Int) < z0.length
  · go_enter Try.func6, Try.ntmps6
    go_wp2_with fail
    go_ret
    exact ⟨rfl, Below.refl _ _⟩
  by_cases hbig1 : (1048576 : Int) < z1.length
  · go_enter Try.func6, Try.ntmps6
    go_wp2_with fail
    go_ret
    exact ⟨rfl, Below.refl _ _⟩
  have hn0 : z0.length ≤ 1048576 := by omega
  have H0 := Lib.hid h0
  have hn1 : z1.length ≤ 1048576 := by omega
  have H1 := Lib.hid h1
  clear h0 h1
  go_enter Try.func6, Try.ntmps6
  go_wp2_with fail
  refine (s_DrawVoterForget _ _ _ _ H0.out.1 H0.out.2 hn0).mono ?_
  rintro e w1 ⟨f, A, c, bs, n, rfl, hl, ho, b1⟩
  have LX := Lib.hid ho
  have BB := Lib.hid b1
  clear ho b1
  have ba := allocB w1 (.cells #[.int .i64 f, .slice A bs.length c] 50)
  replace LX := Lib.hid (LX.out.carry ba)
  replace BB := Lib.hid (next BB.out ba)
  clear ba
  rcases hf : forgetVote f bs n with _ | _
  · go_wp2_with fail
    refine (i_VoterForget_no f A c bs n _ LX.out (by omega) hf).mono ?_
    rintro e w2 ⟨rfl, b2⟩
    replace LX := Lib.hid (LX.out.carry b2)
    replace BB := Lib.hid (next BB.out b2)
    have x0 := keepc (b := w1.heap.size) (off := 0) (v := .int .i64 f) b2 (by simp)
    have x1 := keepc (b := w1.heap.size) (off := 1) (v := .slice A bs.length c) b2 (by simp)
    clear b2
    have ba := allocB w2 (.cells #[.int .i64 0, .slice none 0 0] 50)
    replace LX := Lib.hid (LX.out.carry ba)
    replace BB := Lib.hid (next BB.out ba)
    replace x0 := keepc ba x0
    replace x1 := keepc ba x1
    clear ba
    go_wp2_with fail
    refine (s_VoterForget_no f A c bs n _ LX.out (by omega) hf).mono ?_
    rintro e w3 ⟨rfl, b3⟩
    replace LX := Lib.hid (LX.out.carry b3)
    replace BB := Lib.hid (next BB.out b3)
    replace x0 := keepc b3 x0
    replace x1 := keepc b3 x1
    have o0 := keepc (b := w2.heap.size) (off := 0) (v := .int .i64 0) b3 (by simp)
    have o1 := keepc (b := w2.heap.size) (off := 1) (v := .slice none 0 0) b3 (by simp)
    clear b3
    have ba := allocB w3 (.cells #[.int .i64 0, .slice none 0 0] 50)
    replace LX := Lib.hid (LX.out.carry ba)
    replace BB := Lib.hid (next BB.out ba)
    replace x0 := keepc ba x0
    replace x1 := keepc ba x1
    replace o0 := keepc ba o0
    replace o1 := keepc ba o1
    clear ba
    go_wp2_with fail
    refine (sameVoter_same 0 none none 0 0 [] _ (fun h => absurd rfl h) (fun h => absurd rfl h) (by simp)).mono ?_
    rintro e w4 ⟨rfl, b4⟩
    replace LX := Lib.hid (LX.out.carry b4)
    replace BB := Lib.hid (next BB.out b4)
    replace x0 := keepc b4 x0
    replace x1 := keepc b4 x1
    replace o0 := keepc b4 o0
    replace o1 := keepc b4 o1
    have t0 := keepc (b := w3.heap.size) (off := 0) (v := .int .i64 0) b4 (by simp)
    have t1 := keepc (b := w3.heap.size) (off := 1) (v := .slice none 0 0) b4 (by simp)
    clear b4
    go_wp2_with fail
    refine (sameVoter_same 0 none none 0 0 [] _ (fun h => absurd rfl h) (fun h => absurd rfl h) (by simp)).mono ?_
    rintro e w5 ⟨rfl, b5⟩
    replace LX := Lib.hid (LX.out.carry b5)
    replace BB := Lib.hid (next BB.out b5)
    replace x0 := keepc b5 x0
    replace x1 := keepc b5 x1
    replace o0 := keepc b5 o0
    replace o1 := keepc b5 o1
    replace t0 := keepc b5 t0
    replace t1 := keepc b5 t1
    clear b5
    go_wp2_with fail
    go_ret
    exact ⟨rfl, BB.out⟩
  obtain ⟨hv, hfn, hn31⟩ := forgetVote_ok hf
  have HF := Lib.hid hf
  have HV := Lib.hid hv
  have hf0 : 0 ≤ f := (voter_good hv).1.1
  have hkl : (keptVote n bs).length ≤ bs.length := keptVoteTo_len n bs bs.length
  clear hf hv
  go_wp2_with fail
  refine (i_VoterForget_yes f A c bs n _ LX.out (by omega) HF.out).mono ?_
  rintro e w2 ⟨g2, c2, rfl, o2, b2⟩
  replace LX := Lib.hid (LX.out.carry b2)
  replace BB := Lib.hid (next BB.out b2)
  have x0 := keepc (b := w1.heap.size) (off := 0) (v := .int .i64 f) b2 (by simp)
  have x1 := keepc (b := w1.heap.size) (off := 1) (v := .slice A bs.length c) b2 (by simp)
  clear b2
  have Lo := Lib.hid o2.up.2.1.lst
  clear o2
  have ba := allocB w2 (.cells #[.int .i64 n, .slice (some ⟨g2, 0, none⟩) (keptVote n bs).length c2] 50)
  replace LX := Lib.hid (LX.out.carry ba)
  replace Lo := Lib.hid (Lo.out.carry ba)
  replace BB := Lib.hid (next BB.out ba)
  replace x0 := keepc ba x0
  replace x1 := keepc ba x1
  clear ba
  go_wp2_with fail
  refine (s_VoterForget_yes f A c bs n _ LX.out (by omega) HF.out).mono ?_
  rintro e w3 ⟨g3, c3, rfl, o3, b3⟩
  replace LX := Lib.hid (LX.out.carry b3)
  replace Lo := Lib.hid (Lo.out.carry b3)
  replace BB := Lib.hid (next BB.out b3)
  replace x0 := keepc b3 x0
  replace x1 := keepc b3 x1
  have o0 := keepc (b := w2.heap.size) (off := 0) (v := .int .i64 n) b3 (by simp)
  have o1 := keepc (b := w2.heap.size) (off := 1) (v := .slice (some ⟨g2, 0, none⟩) (keptVote n bs).length c2) b3 (by simp)
  clear b3
  have Lt := Lib.hid o3.up.2.1.lst
  clear o3
  have ba := allocB w3 (.cells #[.int .i64 n, .slice (some ⟨g3, 0, none⟩) (keptVote n bs).length c3] 50)
  replace LX := Lib.hid (LX.out.carry ba)
  replace Lo := Lib.hid (Lo.out.carry ba)
  replace Lt := Lib.hid (Lt.out.carry ba)
  replace BB := Lib.hid (next BB.out ba)
  replace x0 := keepc ba x0
  replace x1 := keepc ba x1
  replace o0 := keepc ba o0
  replace o1 := keepc ba o1
  clear ba
  go_wp2_with fail
  refine (sameVoter_same n (some ⟨g2, 0, none⟩) (some ⟨g3, 0, none⟩) c2 c3 (keptVote n bs) _ Lo.out Lt.out (by omega)).mono ?_
  rintro e w4 ⟨rfl, b4⟩
  replace LX := Lib.hid (LX.out.carry b4)
  replace Lo := Lib.hid (Lo.out.carry b4)
  replace Lt := Lib.hid (Lt.out.carry b4)
  replace BB := Lib.hid (next BB.out b4)
  replace x0 := keepc b4 x0
  replace x1 := keepc b4 x1
  replace o0 := keepc b4 o0
  replace o1 := keepc b4 o1
  have t0 := keepc (b := w3.heap.size) (off := 0) (v := .int .i64 n) b4 (by simp)
  have t1 := keepc (b := w3.heap.size) (off := 1) (v := .slice (some ⟨g3, 0, none⟩) (keptVote n bs).length c3) b4 (by simp)
  clear b4
  by_cases hmin : n + (z1.length : Int) % 4 ≤ 31
  · have hq : forgetVote n (keptVote n bs) (n + (z1.length : Int) % 4) = true := by
      have hg := (voter_good HV.out).kept hfn hn31
      rw [forgetVote, good_voter hg, inB_iff.2 (by omega)]; rfl
    have hp : forgetVote f bs (n + (z1.length : Int) % 4) = true := by
      rw [forgetVote, HV.out, inB_iff.2 (by omega)]; rfl
    have hkk : keptVote (n + (z1.length : Int) % 4) (keptVote n bs) = keptVote (n + (z1.length : Int) % 4) bs := keptVote_kept (by omega)
    have hkm : (keptVote (n + (z1.length : Int) % 4) bs).length ≤ bs.length := keptVoteTo_len _ bs bs.length
    have HQ := Lib.hid hq
    have HP := Lib.hid hp
    have HKK := Lib.hid hkk
    clear hq hp hkk
    go_wp2_with fail
    refine (i_VoterForget_yes n (some ⟨g2, 0, none⟩) c2 (keptVote n bs) (n + (z1.length : Int) % 4) _ Lo.out (by omega) HQ.out).mono ?_
    rw [HKK.out]
    rintro e w5 ⟨g5, c5, rfl, o5, b5⟩
    replace LX := Lib.hid (LX.out.carry b5)
    replace Lo := Lib.hid (Lo.out.carry b5)
    replace Lt := Lib.hid (Lt.out.carry b5)
    replace BB := Lib.hid (next BB.out b5)
    replace x0 := keepc b5 x0
    replace x1 := keepc b5 x1
    replace o0 := keepc b5 o0
    replace o1 := keepc b5 o1
    replace t0 := keepc b5 t0
    replace t1 := keepc b5 t1
    clear b5
    have Lu := Lib.hid o5.up.2.1.lst
    clear o5
    have ba := allocB w5 (.cells #[.int .i64 (n + (z1.length : Int) % 4), .slice (some ⟨g5, 0, none⟩) (keptVote (n + (z1.length : Int) % 4) bs).length c5] 50)
    replace LX := Lib.hid (LX.out.carry ba)
    replace Lo := Lib.hid (Lo.out.carry ba)
    replace Lt := Lib.hid (Lt.out.carry ba)
    replace Lu := Lib.hid (Lu.out.carry ba)
    replace BB := Lib.hid (next BB.out ba)
    replace x0 := keepc ba x0
    replace x1 := keepc ba x1
    replace o0 := keepc ba o0
    replace o1 := keepc ba o1
    replace t0 := keepc ba t0
    replace t1 := keepc ba t1
    clear ba
    go_wp2_with fail
    refine (i_VoterForget_yes f A c bs (n + (z1.length : Int) % 4) _ LX.out (by omega) HP.out).mono ?_
    rintro e w6 ⟨g6, c6, rfl, o6, b6⟩
    replace LX := Lib.hid (LX.out.carry b6)
    replace Lo := Lib.hid (Lo.out.carry b6)
    replace Lt := Lib.hid (Lt.out.carry b6)
    replace Lu := Lib.hid (Lu.out.carry b6)
    replace BB := Lib.hid (next BB.out b6)
    replace x0 := keepc b6 x0
    replace x1 := keepc b6 x1
    replace o0 := keepc b6 o0
    replace o1 := keepc b6 o1
    replace t0 := keepc b6 t0
    replace t1 := keepc b6 t1
    have u0 := keepc (b := w5.heap.size) (off := 0) (v := .int .i64 (n + (z1.length : Int) % 4)) b6 (by simp)
    have u1 := keepc (b := w5.heap.size) (off := 1) (v := .slice (some ⟨g5, 0, none⟩) (keptVote (n + (z1.length : Int) % 4) bs).length c5) b6 (by simp)
    clear b6
    have Lv := Lib.hid o6.up.2.1.lst
    clear o6
    have ba := allocB w6 (.cells #[.int .i64 (n + (z1.length : Int) % 4), .slice (some ⟨g6, 0, none⟩) (keptVote (n + (z1.length : Int) % 4) bs).length c6] 50)
    replace LX := Lib.hid (LX.out.carry ba)
    replace Lo := Lib.hid (Lo.out.carry ba)
    replace Lt := Lib.hid (Lt.out.carry ba)
    replace Lu := Lib.hid (Lu.out.carry ba)
    replace Lv := Lib.hid (Lv.out.carry ba)
    replace BB := Lib.hid (next BB.out ba)
    replace x0 := keepc ba x0
    replace x1 := keepc ba x1
    replace o0 := keepc ba o0
    replace o1 := keepc ba o1
    replace t0 := keepc ba t0
    replace t1 := keepc ba t1
    replace u0 := keepc ba u0
    replace u1 := keepc ba u1
    clear ba
    go_wp2_with fail
    refine (sameVoter_same (n + (z1.length : Int) % 4) (some ⟨g5, 0, none⟩) (some ⟨g6, 0, none⟩) c5 c6 (keptVote (n + (z1.length : Int) % 4) bs) _ Lu.out Lv.out (by omega)).mono ?_
    rintro e w7 ⟨rfl, b7⟩
    replace LX := Lib.hid (LX.out.carry b7)
    replace Lo := Lib.hid (Lo.out.carry b7)
    replace Lt := Lib.hid (Lt.out.carry b7)
    replace Lu := Lib.hid (Lu.out.carry b7)
    replace Lv := Lib.hid (Lv.out.carry b7)
    replace BB := Lib.hid (next BB.out b7)
    replace x0 := keepc b7 x0
    replace x1 := keepc b7 x1
    replace o0 := keepc b7 o0
    replace o1 := keepc b7 o1
    replace t0 := keepc b7 t0
    replace t1 := keepc b7 t1
    replace u0 := keepc b7 u0
    replace u1 := keepc b7 u1
    have v0 := keepc (b := w6.heap.size) (off := 0) (v := .int .i64 (n + (z1.length : Int) % 4)) b7 (by simp)
    have v1 := keepc (b := w6.heap.size) (off := 1) (v := .slice (some ⟨g6, 0, none⟩) (keptVote (n + (z1.length : Int) % 4) bs).length c6) b7 (by simp)
    clear b7
    go_wp2_with fail
    go_ret
    exact ⟨rfl, BB.out⟩
  · have hq : forgetVote n (keptVote n bs) 31 = true := by
      have hg := (voter_good HV.out).kept hfn hn31
      rw [forgetVote, good_voter hg, inB_iff.2 (by omega)]; rfl
    have hp : forgetVote f bs 31 = true := by
      rw [forgetVote, HV.out, inB_iff.2 (by omega)]; rfl
    have hkk : keptVote 31 (keptVote n bs) = keptVote 31 bs := keptVote_kept (by omega)
    have hkm : (keptVote 31 bs).length ≤ bs.length := keptVoteTo_len _ bs bs.length
    have HQ := Lib.hid hq
    have HP := Lib.hid hp
    have HKK := Lib.hid hkk
    clear hq hp hkk
    go_wp2_with fail
    refine (i_VoterForget_yes n (some ⟨g2, 0, none⟩) c2 (keptVote n bs) 31 _ Lo.out (by omega) HQ.out).mono ?_
    rw [HKK.out]
    rintro e w5 ⟨g5, c5, rfl, o5, b5⟩
    replace LX := Lib.hid (LX.out.carry b5)
    replace Lo := Lib.hid (Lo.out.carry b5)
    replace Lt := Lib.hid (Lt.out.carry b5)
    replace BB := Lib.hid (next BB.out b5)
    replace x0 := keepc b5 x0
    replace x1 := keepc b5 x1
    replace o0 := keepc b5 o0
    replace o1 := keepc b5 o1
    replace t0 := keepc b5 t0
    replace t1 := keepc b5 t1
    clear b5
    have Lu := Lib.hid o5.up.2.1.lst
    clear o5
    have ba := allocB w5 (.cells #[.int .i64 31, .slice (some ⟨g5, 0, none⟩) (keptVote 31 bs).length c5] 50)
    replace LX := Lib.hid (LX.out.carry ba)
    replace Lo := Lib.hid (Lo.out.carry ba)
    replace Lt := Lib.hid (Lt.out.carry ba)
    replace Lu := Lib.hid (Lu.out.carry ba)
    replace BB := Lib.hid (next BB.out ba)
    replace x0 := keepc ba x0
    replace x1 := keepc ba x1
    replace o0 := keepc ba o0
    replace o1 := keepc ba o1
    replace t0 := keepc ba t0
    replace t1 := keepc ba t1
    clear ba
    go_wp2_with fail
    refine (i_VoterForget_yes f A c bs 31 _ LX.out (by omega) HP.out).mono ?_
    rintro e w6 ⟨g6, c6, rfl, o6, b6⟩
    replace LX := Lib.hid (LX.out.carry b6)
    replace Lo := Lib.hid (Lo.out.carry b6)
    replace Lt := Lib.hid (Lt.out.carry b6)
    replace Lu := Lib.hid (Lu.out.carry b6)
    replace BB := Lib.hid (next BB.out b6)
    replace x0 := keepc b6 x0
    replace x1 := keepc b6 x1
    replace o0 := keepc b6 o0
    replace o1 := keepc b6 o1
    replace t0 := keepc b6 t0
    replace t1 := keepc b6 t1
    have u0 := keepc (b := w5.heap.size) (off := 0) (v := .int .i64 31) b6 (by simp)
    have u1 := keepc (b := w5.heap.size) (off := 1) (v := .slice (some ⟨g5, 0, none⟩) (keptVote 31 bs).length c5) b6 (by simp)
    clear b6
    have Lv := Lib.hid o6.up.2.1.lst
    clear o6
    have ba := allocB w6 (.cells #[.int .i64 31, .slice (some ⟨g6, 0, none⟩) (keptVote 31 bs).length c6] 50)
    replace LX := Lib.hid (LX.out.carry ba)
    replace Lo := Lib.hid (Lo.out.carry ba)
    replace Lt := Lib.hid (Lt.out.carry ba)
    replace Lu := Lib.hid (Lu.out.carry ba)
    replace Lv := Lib.hid (Lv.out.carry ba)
    replace BB := Lib.hid (next BB.out ba)
    replace x0 := keepc ba x0
    replace x1 := keepc ba x1
    replace o0 := keepc ba o0
    replace o1 := keepc ba o1
    replace t0 := keepc ba t0
    replace t1 := keepc ba t1
    replace u0 := keepc ba u0
    replace u1 := keepc ba u1
    clear ba
    go_wp2_with fail
    refine (sameVoter_same 31 (some ⟨g5, 0, none⟩) (some ⟨g6, 0, none⟩) c5 c6 (keptVote 31 bs) _ Lu.out Lv.out (by omega)).mono ?_
    rintro e w7 ⟨rfl, b7⟩
    replace LX := Lib.hid (LX.out.carry b7)
    replace Lo := Lib.hid (Lo.out.carry b7)
    replace Lt := Lib.hid (Lt.out.carry b7)
    replace Lu := Lib.hid (Lu.out.carry b7)
    replace Lv := Lib.hid (Lv.out.carry b7)
    replace BB := Lib.hid (next BB.out b7)
    replace x0 := keepc b7 x0
    replace x1 := keepc b7 x1
    replace o0 := keepc b7 o0
    replace o1 := keepc b7 o1
    replace t0 := keepc b7 t0
    replace t1 := keepc b7 t1
    replace u0 := keepc b7 u0
    replace u1 := keepc b7 u1
    have v0 := keepc (b := w6.heap.size) (off := 0) (v := .int .i64 31) b7 (by simp)
    have v1 := keepc (b := w6.heap.size) (off := 1) (v := .slice (some ⟨g6, 0, none⟩) (keptVote 31 bs).length c6) b7 (by simp)
    clear b7
    go_wp2_with fail
    go_ret
    exact ⟨rfl, BB.out⟩

set_option maxRecDepth 100000 in
theorem lifted (os : Os) (started : os.Started) (H : Type) (enc : TypeId × Value → H) :
    ReturnsInHanded {} Try.checked os 6 .any (Rows.fnVoterForgetStepsSpec.pre6 enc Try.prog Try.f6 Rows.fnVoterForgetStepsRow.domain false) (Rows.fnVoterForgetStepsSpec.post enc Try.prog Try.f6 false true false false) := by
  refine returnsInHanded_of_change (C := Try.checked) own started (by kernel_rfl) Try.func6
    (ChangeSpec.witness6 (enc := enc) (C := Try.checked) false ⟨#[], #[.slice none 0 0, .slice none 0 0], []⟩ 8 (by kernel_rfl) (by kernel_rfl) (by kernel_rfl) (by kernel_rfl)) ?_
  intro W base args ds gs before hval0 hW hcnd _
  have hval : ∀ (j : Nat) t v, Try.f6.params[j]? = some t → args[j]? = some v → Value.okWide Try.prog W .any base t v := hval0
  have hW' := hW
  obtain ⟨p, q, hA0, hV, rfl, hfz, hnd⟩ := hW
  have hA : DataW.TrodAll enc Try.prog W 0 (fun _ => true) true Try.f6.params.toList args.toList ds p := hA0
  rw [Try.params6] at hA hval
  obtain ⟨v0, vs0, d0, ds0, p0, q0, hargs, rfl, rfl, h0, r0⟩ := trodAll_cons hA
  obtain ⟨v1, vs1, d1, ds1, p1, q1, rfl, rfl, rfl, h1, r1⟩ := trodAll_cons r0
  obtain ⟨rfl, rfl, rfl⟩ := trodAll_nil r1
  obtain rfl : args = #[v0, v1] := by cases args; simp_all
  obtain ⟨rfl, rfl⟩ := trodVars_none hV
  obtain ⟨a0, len0, c0, rfl⟩ := okWide_slice Try.underlying33 (hval 0 33 v0 rfl rfl)
  have k0 := h0
  have lt0 : ∀ x ∈ p0, x.block < W.heap.size := by obtain ⟨m, hm⟩ := k0; exact DataW.trod_lt m _ _ _ hm
  obtain ⟨z0, rfl, w0⟩ := bytes_of_trod h0
  obtain ⟨a1, len1, c1, rfl⟩ := okWide_slice Try.underlying33 (hval 1 33 v1 rfl rfl)
  have k1 := h1
  have lt1 : ∀ x ∈ p1, x.block < W.heap.size := by obtain ⟨m, hm⟩ := k1; exact DataW.trod_lt m _ _ _ hm
  obtain ⟨z1, rfl, w1⟩ := bytes_of_trod h1
  clear hA0 hval0
  refine (walk a0 c0 z0 a1 c1 z1 W w0 w1).mono fun e W' ⟨he, bel⟩ => ?_
  subst he
  exact ⟨_, rfl, _, _, _, [], _, [], hW', trodAll_mk1 (shut_bool Try.underlying4 _), (trodAll_cons_mk (Below.trod laidOut (by kernel_rfl) (of_decide_eq_true (by kernel_rfl)) k0 bel lt0) (trodAll_cons_mk (Below.trod laidOut (by kernel_rfl) (of_decide_eq_true (by kernel_rfl)) k1 bel lt1) trodAll_mk0)), rfl, bel.frame _, fun h => by cases h⟩

theorem over : Rows.fnVoterForgetStepsRow.holds Try.pinned (OpenSpec.ofChange Rows.fnVoterForgetStepsSpec) :=
  OpenClaim.holds_of_wide 6 Try.f6 rfl rfl rfl rfl rfl rfl rfl ⟨rfl, rfl, rfl, rfl, rfl⟩ rfl rfl rfl rfl rfl (by kernel_rfl) Try.func6 (by kernel_rfl)
    (of_decide_eq_true (by kernel_rfl)) (by unfold Func.isWrapper; first | (rw [if_pos (by decide +kernel)]; kernel_rfl) | (rw [if_neg (by decide +kernel)]; exact ⟨rfl, rfl⟩))
    (fun os started H enc _ => lifted os started H enc)

/-- The given statement. -/
theorem proved : Rows.FnVoterForgetStepsSaid := over
#print axioms proved
end Go.Proofs.Ytohnodphlaoohaa.lawVoterForgetSteps
