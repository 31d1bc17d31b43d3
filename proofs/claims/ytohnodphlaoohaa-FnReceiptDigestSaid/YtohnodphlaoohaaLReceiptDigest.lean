/- The law FnReceiptDigest holds for every input: a changed outcome changes the digest. -/
import Derived.Test.YtohnodphlaoohaaDraw7
import Derived.Test.YtohnodphlaoohaaRcpt
import Derived.Test.YtohnodphlaoohaaArgs
namespace Go.Proofs.Ytohnodphlaoohaa.lawReceiptDigest
open Go.ChangeShapes Go.WideShapes Go.ChangeAt Go.RowKit
set_option linter.unusedVariables false

theorem rcpt_flip {i d : Int} {b : Bool} (h : 0 ≤ rcptD i b d) : rcptD i (!b) d ≠ rcptD i b d := by
  unfold rcptD at h ⊢
  by_cases hr : rcptB i d = true
  · simp only [hr, if_true] at h ⊢
    cases b <;> simp [outcome, pairZ] <;> omega
  · simp [hr] at h
theorem rcpt_move {i d d' : Int} {b : Bool} (h : 0 ≤ rcptD i b d) (h0 : 0 ≤ d') (h1 : d' ≤ 990) (hne : ¬ d' = d) : rcptD i b d' ≠ rcptD i b d := by
  by_cases hr : rcptB i d = true
  · have hb := rcptB_iff.1 hr
    have hr' : rcptB i d' = true := rcptB_iff.2 ⟨hb.1, h0, h1⟩
    unfold rcptD
    simp only [hr, hr', if_true]
    unfold pairZ
    generalize outcome i b = o
    omega
  · simp [rcptD, hr] at h
theorem rcpt_in {i d : Int} {b : Bool} (h : 0 ≤ rcptD i b d) : 0 ≤ d ∧ d ≤ 990 := by
  by_cases hr : rcptB i d = true
  · have hb := rcptB_iff.1 hr; exact hb.2
  · simp [rcptD, hr] at h
set_option maxHeartbeats 8000000 in
theorem walk (a0 : Option Addr) (c0 : Nat) (z0 : List Int) (a1 : Option Addr) (c1 : Nat) (z1 : List Int) (w : World) (h0 : Bytes w w.heap.size a0 z0 ∧ z0.length ≤ c0) (h1 : Bytes w w.heap.size a1 z1 ∧ z1.length ≤ c1) :
    Calls Try.prog 11 #[.slice a0 z0.length c0, .slice a1 z1.length c1] w fun e w' => e = .returned (.bool true) ∧ Below w.heap.size w w' := by
  by_cases hbig0 : (1048576 : Int) < z0.length
  · go_enter Try.func11, Try.ntmps11
    go_wp2_with fail
    go_ret
    exact ⟨rfl, Below.refl _ _⟩
  by_cases hbig1 : (1048576 : Int) < z1.length
  · go_enter Try.func11, Try.ntmps11
    go_wp2_with fail
    go_ret
    exact ⟨rfl, Below.refl _ _⟩
  have hn0 : z0.length ≤ 1048576 := by omega
  have hn1 : z1.length ≤ 1048576 := by omega
  have H0 := Lib.hid h0
  clear h0
  have H1 := Lib.hid h1
  clear h1
  go_enter Try.func11, Try.ntmps11
  go_wp2_with fail
  refine (s_DrawReceiptDigest _ _ _ _ H0.out.1 H0.out.2 hn0).mono ?_
  rintro e w1 ⟨i, b, d, rfl, b1⟩
  have BB := Lib.hid (b1.trans ((allocB w1 (.cells #[.int .i64 i, .bool b, .int .i64 d] 80)).mono b1.size))
  clear b1
  have hv : (rcptD i b d != rcptD i b d) = false := by simp
  have hs : (rcptD i b d == rcptD i b d) = true := by simp
  go_wp2_with fail
  refine (i_ReceiptDigest _ _ _ _).mono ?_
  rintro e w2 ⟨rfl, b2⟩
  replace BB := Lib.hid (next BB.out b2)
  have p0 := keepc (b := w1.heap.size) (off := 0) (v := .int .i64 i) b2 (by simp)
  have p1 := keepc (b := w1.heap.size) (off := 1) (v := .bool b) b2 (by simp)
  have p2 := keepc (b := w1.heap.size) (off := 2) (v := .int .i64 d) b2 (by simp)
  clear b2
  go_wp2_with fail
  refine (s_ReceiptDigest _ _ _ _).mono ?_
  rintro e w3 ⟨rfl, b3⟩
  replace BB := Lib.hid (next BB.out b3)
  replace p0 := keepc b3 p0
  replace p1 := keepc b3 p1
  replace p2 := keepc b3 p2
  clear b3
  by_cases hneg : rcptD i b d < 0
  · go_wp2_with fail
    go_ret
    exact ⟨rfl, BB.out⟩
  have hge : 0 ≤ rcptD i b d := by omega
  have hin := rcpt_in hge
  have hfl := rcpt_flip hge
  have hne1 : (rcptD i (!b) d != rcptD i b d) = true := by simpa using hfl
  have hlt := lt_of_cell p0
  have GE := Lib.hid hge
  clear hfl hge
  go_wp2_with fail
  generalize hm : (d + 1 + (z1.length : Int) % 990) % 991 = m
  have hm0 : 0 ≤ m ∧ m ≤ 990 := by omega
  clear hm
  have ba := allocB2 w3 (.cells #[.int .i64 i, .bool (!b), .int .i64 d] 80) (.cells #[.int .i64 i, .bool b, .int .i64 m] 80)
  replace BB := Lib.hid (next BB.out ba)
  replace p0 := keepc ba p0
  replace p1 := keepc ba p1
  replace p2 := keepc ba p2
  clear ba
  refine (i_ReceiptDigest _ _ _ _).mono ?_
  rintro e w4 ⟨rfl, b4⟩
  replace BB := Lib.hid (next BB.out b4)
  replace p0 := keepc b4 p0
  replace p1 := keepc b4 p1
  replace p2 := keepc b4 p2
  have u0 := keepc (b := w3.heap.size) (off := 0) (v := .int .i64 i) b4 (by simp)
  have u1 := keepc (b := w3.heap.size) (off := 1) (v := .bool (!b)) b4 (by simp)
  have u2 := keepc (b := w3.heap.size) (off := 2) (v := .int .i64 d) b4 (by simp)
  have v0 := keepc (b := w3.heap.size + 1) (off := 0) (v := .int .i64 i) b4 (by simp)
  have v1 := keepc (b := w3.heap.size + 1) (off := 1) (v := .bool b) b4 (by simp)
  have v2 := keepc (b := w3.heap.size + 1) (off := 2) (v := .int .i64 m) b4 (by simp)
  clear b4
  by_cases hd : m = d
  · have hb1 : (m == d) = true := by simp [hd]
    clear hd
    go_wp2_with fail
    go_ret
    exact ⟨rfl, BB.out⟩
  have hb1 : (m == d) = false := by simp [hd]
  have hmv := rcpt_move GE.out hm0.1 hm0.2 hd
  have hne2 : (rcptD i b m != rcptD i b d) = true := by simpa using hmv
  clear hd hmv
  go_wp2_with fail
  refine (i_ReceiptDigest _ _ _ _).mono ?_
  rintro e w5 ⟨rfl, b5⟩
  replace BB := Lib.hid (next BB.out b5)
  replace p0 := keepc b5 p0
  replace p1 := keepc b5 p1
  replace p2 := keepc b5 p2
  replace u0 := keepc b5 u0
  replace u1 := keepc b5 u1
  replace u2 := keepc b5 u2
  replace v0 := keepc b5 v0
  replace v1 := keepc b5 v1
  replace v2 := keepc b5 v2
  clear b5
  go_wp2_with fail
  go_ret
  exact ⟨rfl, BB.out⟩

set_option maxRecDepth 100000 in
theorem lifted (os : Os) (started : os.Started) (H : Type) (enc : TypeId × Value → H) :
    ReturnsInHanded {} Try.checked os 11 .any (Rows.fnReceiptDigestSpec.pre6 enc Try.prog Try.f11 Rows.fnReceiptDigestRow.domain false) (Rows.fnReceiptDigestSpec.post enc Try.prog Try.f11 false true false false) := by
  refine returnsInHanded_of_change (C := Try.checked) own started (by kernel_rfl) Try.func11
    (ChangeSpec.witness6 (enc := enc) (C := Try.checked) false ⟨#[], #[.slice none 0 0, .slice none 0 0], []⟩ 8 (by kernel_rfl) (by kernel_rfl) (by kernel_rfl) (by kernel_rfl)) ?_
  intro W base args ds gs before hval0 hW hcnd _
  have hval : ∀ (j : Nat) t v, Try.f11.params[j]? = some t → args[j]? = some v → Value.okWide Try.prog W .any base t v := hval0
  have hW' := hW
  obtain ⟨p, q, hA0, hV, rfl, hfz, hnd⟩ := hW
  have hA : DataW.TrodAll enc Try.prog W 0 (fun _ => true) true Try.f11.params.toList args.toList ds p := hA0
  rw [Try.params11] at hA hval
  obtain ⟨v0, vs0, d0, ds0, p0, q0, hargs, rfl, rfl, h0, r0⟩ := trodAll_cons hA
  obtain ⟨v1, vs1, d1, ds1, p1, q1, rfl, rfl, rfl, h1, r1⟩ := trodAll_cons r0
  obtain ⟨rfl, rfl, rfl⟩ := trodAll_nil r1
  obtain rfl : args = #[v0, v1] := by cases args; simp_all
  obtain ⟨rfl, rfl⟩ := trodVars_none hV
  obtain ⟨a0, len0, c0, rfl⟩ := okWide_slice Try.underlying33 (hval 0 33 v0 rfl rfl)
  have k0 := h0
  have lt0 : ∀ x ∈ p0, x.block < W.heap.size := by obtain ⟨m, hm⟩ := k0; exact DataW.trod_lt m _ _ _ hm
  obtain ⟨z0, rfl, w0⟩ := bytes_of_trod h0
  obtain ⟨a1, len1, c1, rfl⟩ := okWide_slice Try.underlying33 (hval 1 33 v1 rfl rfl)
  have k1 := h1
  have lt1 : ∀ x ∈ p1, x.block < W.heap.size := by obtain ⟨m, hm⟩ := k1; exact DataW.trod_lt m _ _ _ hm
  obtain ⟨z1, rfl, w1⟩ := bytes_of_trod h1
  clear hA0 hval0
  refine (walk a0 c0 z0 a1 c1 z1 W w0 w1).mono fun e W' ⟨he, bel⟩ => ?_
  subst he
  exact ⟨_, rfl, _, _, _, [], _, [], hW', trodAll_mk1 (shut_bool Try.underlying4 _), (trodAll_cons_mk (Below.trod laidOut (by kernel_rfl) (of_decide_eq_true (by kernel_rfl)) k0 bel lt0) (trodAll_cons_mk (Below.trod laidOut (by kernel_rfl) (of_decide_eq_true (by kernel_rfl)) k1 bel lt1) trodAll_mk0)), rfl, bel.frame _, fun h => by cases h⟩

theorem over : Rows.fnReceiptDigestRow.holds Try.pinned (OpenSpec.ofChange Rows.fnReceiptDigestSpec) :=
  OpenClaim.holds_of_wide 11 Try.f11 rfl rfl rfl rfl rfl rfl rfl ⟨rfl, rfl, rfl, rfl, rfl⟩ rfl rfl rfl rfl rfl (by kernel_rfl) Try.func11 (by kernel_rfl)
    (of_decide_eq_true (by kernel_rfl)) (by unfold Func.isWrapper; first | (rw [if_pos (by decide +kernel)]; kernel_rfl) | (rw [if_neg (by decide +kernel)]; exact ⟨rfl, rfl⟩))
    (fun os started H enc _ => lifted os started H enc)

/-- The given statement. -/
theorem proved : Rows.FnReceiptDigestSaid := over
#print axioms proved
end Go.Proofs.Ytohnodphlaoohaa.lawReceiptDigest
