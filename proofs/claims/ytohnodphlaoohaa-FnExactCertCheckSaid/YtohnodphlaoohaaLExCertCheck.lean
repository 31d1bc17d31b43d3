/- The law FnExactCertCheck holds for every input: the program's CertCheck returns what the reference's returns. -/
import Derived.Test.YtohnodphlaoohaaCert
import Derived.Test.YtohnodphlaoohaaArgT
import Derived.Deep.RegionHeld3
namespace Go.Proofs.Ytohnodphlaoohaa.exCertCheck
open Go.ChangeShapes Go.WideShapes Go.ChangeAt Go.RowKit
set_option linter.unusedVariables false

def Ctx (w0 : World) (b : Nat) (d s : Int) (A : Option Addr) (c : Nat) (ps : List Int) (a0 : Option Addr) (z0 : List Int) (a1 : Option Addr) (z1 : List Int) (W : World) : Prop :=
  (W.cell? ⟨b, 0, none⟩ = some (.int .i64 d) ∧ W.cell? ⟨b, 1, none⟩ = some (.slice A ps.length c) ∧ W.cell? ⟨b, 2, none⟩ = some (.int .i64 s)) ∧ Ints W W.heap.size a0 z0 ∧ Ints W W.heap.size a1 z1 ∧ Ints W W.heap.size A ps ∧ Below w0.heap.size w0 W
theorem Ctx.keep {w0 W w1 : World} {b : Nat} {d s : Int} {A : Option Addr} {c : Nat} {ps : List Int} {a0 : Option Addr} {z0 : List Int} {a1 : Option Addr} {z1 : List Int} (h : Ctx w0 b d s A c ps a0 z0 a1 z1 W) (hb : Below W.heap.size W w1) : Ctx w0 b d s A c ps a0 z0 a1 z1 w1 := by
  obtain ⟨⟨x0, x1, x2⟩, i0, i1, ip, bb⟩ := h
  exact ⟨⟨keepc hb x0, keepc hb x1, keepc hb x2⟩, i0.carry hb, i1.carry hb, ip.carry hb, next bb hb⟩
theorem eqIntS_same (A A' : Option Addr) (c c' : Nat) (xs : List Int) (w : World) (B : Nat) (hx : Ints w B A xs) (hy : Ints w B A' xs) (hn : xs.length ≤ 1048576) :
    Calls Try.prog 17 #[.slice A xs.length c, .slice A' xs.length c'] w fun e w' => e = .returned (.bool true) ∧ Quiet w w' :=
  (eqIntS_any A A' c c' xs xs w B hx hy hn hn).mono fun _ _ ⟨he, hq⟩ => ⟨by rw [he]; simp, hq⟩
set_option maxHeartbeats 8000000 in
set_option maxRecDepth 100000 in
theorem walk1 (a0 : Option Addr) (c0 : Nat) (z0 : List Int) (a1 : Option Addr) (c1 : Nat) (z1 : List Int) (d s : Int) (A : Option Addr) (c : Nat) (ps : List Int) (w : World) (h0 : Ints w w.heap.size a0 z0) (h1 : Ints w w.heap.size a1 z1) (hp : Ints w w.heap.size A ps) (hpl : ps.length ≤ 9223372036854775807) :
    Calls Try.prog 8 #[.slice a0 z0.length c0, .slice a1 z1.length c1, .agg #[.int .i64 d, .slice A ps.length c, .int .i64 s]] w fun e w' => e = .returned (.bool true) ∧ Below w.heap.size w w' := by
  by_cases hbig0 : (1048576 : Int) < z0.length
  · go_enter Try.func8, Try.ntmps8
    go_wp2_with fail
    go_ret
    exact ⟨rfl, allocB w _⟩
  by_cases hbig1 : (1048576 : Int) < z1.length
  · go_enter Try.func8, Try.ntmps8
    go_wp2_with fail
    go_ret
    exact ⟨rfl, allocB w _⟩
  have hn0 : z0.length ≤ 1048576 := by omega
  have hn1 : z1.length ≤ 1048576 := by omega
  have BB := Lib.hid (allocB w (.cells #[.int .i64 d, .slice A ps.length c, .int .i64 s] 67))
  have H0 := Lib.hid (h0.carry BB.out)
  have H1 := Lib.hid (h1.carry BB.out)
  have HP := Lib.hid (hp.carry BB.out)
  clear h0 h1 hp
  by_cases hs : (1048576 : Int) < ps.length
  · go_enter Try.func8, Try.ntmps8
    go_wp2_with fail
    refine (szCert_any _ _ _ _ _ _ _ (by omega) (by omega) hpl).mono ?_
    rw [szL_neg (by omega)]
    rintro e w2 ⟨rfl, b2⟩
    replace H0 := Lib.hid (H0.out.carry b2)
    replace H1 := Lib.hid (H1.out.carry b2)
    replace HP := Lib.hid (HP.out.carry b2)
    replace BB := Lib.hid (next BB.out b2)
    have x0 := keepc (b := w.heap.size) (off := 0) (v := .int .i64 d) b2 (by simp)
    have x1 := keepc (b := w.heap.size) (off := 1) (v := .slice A ps.length c) b2 (by simp)
    have x2 := keepc (b := w.heap.size) (off := 2) (v := .int .i64 s) b2 (by simp)
    clear b2
    go_wp2_with fail
    go_ret
    exact ⟨rfl, BB.out⟩
  have hm : ps.length ≤ 1048576 := by omega
  have hv : (certB z0 z1 ps d s != certB z0 z1 ps d s) = false := by simp
  go_enter Try.func8, Try.ntmps8
  go_wp2_with fail
  refine (szCert_any _ _ _ _ _ _ _ (by omega) (by omega) hpl).mono ?_
  rw [szL_pos (by omega)]
  rintro e w2 ⟨rfl, b2⟩
  replace H0 := Lib.hid (H0.out.carry b2)
  replace H1 := Lib.hid (H1.out.carry b2)
  replace HP := Lib.hid (HP.out.carry b2)
  replace BB := Lib.hid (next BB.out b2)
  have x0 := keepc (b := w.heap.size) (off := 0) (v := .int .i64 d) b2 (by simp)
  have x1 := keepc (b := w.heap.size) (off := 1) (v := .slice A ps.length c) b2 (by simp)
  have x2 := keepc (b := w.heap.size) (off := 2) (v := .int .i64 s) b2 (by simp)
  clear b2
  go_wp2_with fail
  have hC0 : Ctx w w.heap.size d s A c ps a0 z0 a1 z1 w2.drew := ⟨⟨x0, x1, x2⟩, H0.out, H1.out, HP.out, BB.out.drew⟩
  go_region_held3 (fun W => W.cell? ⟨w.heap.size, 0, none⟩ = some (.int .i64 d) ∧ W.cell? ⟨w.heap.size, 1, none⟩ = some (.slice A ps.length c) ∧ W.cell? ⟨w.heap.size, 2, none⟩ = some (.int .i64 s)) (first | exact (show Ctx w w.heap.size d s A c ps a0 z0 a1 z1 _ from by assumption).1 | go_keep)
    (first | (go_at_call 14; refine (toIntS_I a1 c1 z1 _ hC1.2.2.1 hn1).mono ?_; rintro e v1 ⟨rfl, j1, b1⟩; have hC2 := Ctx.keep hC1 b1; replace j0 := j0.carry b1; clear b1) | (go_at_call 14; refine (toIntS_I a0 c0 z0 _ hC0.2.1 hn0).mono ?_; rintro e v0 ⟨rfl, j0, b0⟩; have hC1 := Ctx.keep hC0 b0; clear b0) | (go_at_call 42; refine (toCert_any _ _ A c ps _ hC2.2.2.2.1 hm).mono ?_; rintro e vt ⟨gt, rfl, rt, _, bt⟩; have hCt := Ctx.keep hC2 bt; replace j0 := j0.carry bt; replace j1 := j1.carry bt; have jt := Ints.of_row rt (Nat.le_refl _) rt.lt; clear bt rt) | (go_at_call 41; refine (s_CertCheck d s _ _ _ _ _ _ z0 z1 ps _ j0 j1 jt hn0 hn1 hm).mono ?_; rintro e ve ⟨rfl, be⟩; have hCe := Ctx.keep hCt be; clear be))
  obtain ⟨⟨p0, p1, p2⟩, i0, i1, ip, bb⟩ := hCe
  have I0 := Lib.hid i0
  have I1 := Lib.hid i1
  have IP := Lib.hid ip
  have BC := Lib.hid bb
  clear x0 x1 x2 i0 i1 ip bb hC0 hC1 hC2 hCt jt j0 j1 H0 H1 HP BB
  go_wp2_with fail
  refine (toIntS_I _ _ _ _ I0.out hn0).mono ?_
  rintro e w3 ⟨rfl, u3, b3⟩
  replace I0 := Lib.hid (I0.out.carry b3)
  replace I1 := Lib.hid (I1.out.carry b3)
  replace IP := Lib.hid (IP.out.carry b3)
  replace BC := Lib.hid (next BC.out b3)
  replace p0 := keepc b3 p0
  replace p1 := keepc b3 p1
  replace p2 := keepc b3 p2
  clear b3
  have X0 := Lib.hid u3
  clear u3
  go_wp2_with fail
  refine (toIntS_I _ _ _ _ I1.out hn1).mono ?_
  rintro e w4 ⟨rfl, u4, b4⟩
  replace I0 := Lib.hid (I0.out.carry b4)
  replace I1 := Lib.hid (I1.out.carry b4)
  replace IP := Lib.hid (IP.out.carry b4)
  replace X0 := Lib.hid (X0.out.carry b4)
  replace BC := Lib.hid (next BC.out b4)
  replace p0 := keepc b4 p0
  replace p1 := keepc b4 p1
  replace p2 := keepc b4 p2
  clear b4
  have X1 := Lib.hid u4
  clear u4
  go_wp2_with fail
  refine (toCert_any _ _ A c ps _ IP.out hm).mono ?_
  rintro e w5 ⟨g5, rfl, r5, _, b5⟩
  replace I0 := Lib.hid (I0.out.carry b5)
  replace I1 := Lib.hid (I1.out.carry b5)
  replace IP := Lib.hid (IP.out.carry b5)
  replace X0 := Lib.hid (X0.out.carry b5)
  replace X1 := Lib.hid (X1.out.carry b5)
  replace BC := Lib.hid (next BC.out b5)
  replace p0 := keepc b5 p0
  replace p1 := keepc b5 p1
  replace p2 := keepc b5 p2
  have XT := Lib.hid (Ints.of_row r5 (Nat.le_refl _) r5.lt)
  clear r5 b5
  have ba := allocB w5 (.cells #[.int .i64 d, .slice (some ⟨g5, 0, none⟩) ps.length ps.length, .int .i64 s] 24)
  replace I0 := Lib.hid (I0.out.carry ba)
  replace I1 := Lib.hid (I1.out.carry ba)
  replace IP := Lib.hid (IP.out.carry ba)
  replace X0 := Lib.hid (X0.out.carry ba)
  replace X1 := Lib.hid (X1.out.carry ba)
  replace XT := Lib.hid (XT.out.carry ba)
  replace BC := Lib.hid (next BC.out ba)
  replace p0 := keepc ba p0
  replace p1 := keepc ba p1
  replace p2 := keepc ba p2
  clear ba
  go_wp2_with fail
  refine (i_CertCheck d s _ _ _ _ _ _ z0 z1 ps _ X0.out X1.out XT.out hn0 hn1 hm).mono ?_
  rintro e w6 ⟨rfl, b6⟩
  replace I0 := Lib.hid (I0.out.carry b6)
  replace I1 := Lib.hid (I1.out.carry b6)
  replace IP := Lib.hid (IP.out.carry b6)
  replace X0 := Lib.hid (X0.out.carry b6)
  replace X1 := Lib.hid (X1.out.carry b6)
  replace XT := Lib.hid (XT.out.carry b6)
  replace BC := Lib.hid (next BC.out b6)
  replace p0 := keepc b6 p0
  replace p1 := keepc b6 p1
  replace p2 := keepc b6 p2
  have q0 := keepc (b := w5.heap.size) (off := 0) (v := .int .i64 d) b6 (by simp)
  have q1 := keepc (b := w5.heap.size) (off := 1) (v := .slice (some ⟨g5, 0, none⟩) ps.length ps.length) b6 (by simp)
  have q2 := keepc (b := w5.heap.size) (off := 2) (v := .int .i64 s) b6 (by simp)
  clear b6
  go_wp2_with fail
  refine (toIntS_I _ _ _ _ I0.out hn0).mono ?_
  rintro e w7 ⟨rfl, u7, b7⟩
  replace I0 := Lib.hid (I0.out.carry b7)
  replace I1 := Lib.hid (I1.out.carry b7)
  replace IP := Lib.hid (IP.out.carry b7)
  replace X0 := Lib.hid (X0.out.carry b7)
  replace X1 := Lib.hid (X1.out.carry b7)
  replace XT := Lib.hid (XT.out.carry b7)
  replace BC := Lib.hid (next BC.out b7)
  replace p0 := keepc b7 p0
  replace p1 := keepc b7 p1
  replace p2 := keepc b7 p2
  replace q0 := keepc b7 q0
  replace q1 := keepc b7 q1
  replace q2 := keepc b7 q2
  clear b7
  have Y0 := Lib.hid u7
  clear u7
  go_wp2_with fail
  refine (eqIntS_same _ _ _ _ _ _ _ X0.out Y0.out hn0).mono ?_
  rintro e w8 ⟨rfl, b8⟩
  replace I0 := Lib.hid (I0.out.carry (b8.below _))
  replace I1 := Lib.hid (I1.out.carry (b8.below _))
  replace IP := Lib.hid (IP.out.carry (b8.below _))
  replace X0 := Lib.hid (X0.out.carry (b8.below _))
  replace X1 := Lib.hid (X1.out.carry (b8.below _))
  replace XT := Lib.hid (XT.out.carry (b8.below _))
  replace BC := Lib.hid (next BC.out (b8.below _))
  replace p0 := keepc (b8.below _) p0
  replace p1 := keepc (b8.below _) p1
  replace p2 := keepc (b8.below _) p2
  replace q0 := keepc (b8.below _) q0
  replace q1 := keepc (b8.below _) q1
  replace q2 := keepc (b8.below _) q2
  clear b8
  go_wp2_with fail
  refine (toIntS_I _ _ _ _ I1.out hn1).mono ?_
  rintro e w9 ⟨rfl, u9, b9⟩
  replace I0 := Lib.hid (I0.out.carry b9)
  replace I1 := Lib.hid (I1.out.carry b9)
  replace IP := Lib.hid (IP.out.carry b9)
  replace X0 := Lib.hid (X0.out.carry b9)
  replace X1 := Lib.hid (X1.out.carry b9)
  replace XT := Lib.hid (XT.out.carry b9)
  replace BC := Lib.hid (next BC.out b9)
  replace p0 := keepc b9 p0
  replace p1 := keepc b9 p1
  replace p2 := keepc b9 p2
  replace q0 := keepc b9 q0
  replace q1 := keepc b9 q1
  replace q2 := keepc b9 q2
  clear b9
  have Y1 := Lib.hid u9
  clear u9
  go_wp2_with fail
  refine (eqIntS_same _ _ _ _ _ _ _ X1.out Y1.out hn1).mono ?_
  rintro e w10 ⟨rfl, b10⟩
  replace I0 := Lib.hid (I0.out.carry (b10.below _))
  replace I1 := Lib.hid (I1.out.carry (b10.below _))
  replace IP := Lib.hid (IP.out.carry (b10.below _))
  replace X0 := Lib.hid (X0.out.carry (b10.below _))
  replace X1 := Lib.hid (X1.out.carry (b10.below _))
  replace XT := Lib.hid (XT.out.carry (b10.below _))
  replace BC := Lib.hid (next BC.out (b10.below _))
  replace p0 := keepc (b10.below _) p0
  replace p1 := keepc (b10.below _) p1
  replace p2 := keepc (b10.below _) p2
  replace q0 := keepc (b10.below _) q0
  replace q1 := keepc (b10.below _) q1
  replace q2 := keepc (b10.below _) q2
  clear b10
  go_wp2_with fail
  have hD0 : Ctx w w.heap.size d s A c ps a0 z0 a1 z1 w10.drew := ⟨⟨p0, p1, p2⟩, I0.out, I1.out, IP.out, BC.out.drew⟩
  have hQ0 : w10.drew.cell? ⟨w5.heap.size, 0, none⟩ = some (.int .i64 d) ∧ w10.drew.cell? ⟨w5.heap.size, 1, none⟩ = some (.slice (some ⟨g5, 0, none⟩) ps.length ps.length) ∧ w10.drew.cell? ⟨w5.heap.size, 2, none⟩ = some (.int .i64 s) := ⟨q0, q1, q2⟩
  have hX0 : Ints w10.drew w10.drew.heap.size _ ps := XT.out
  go_region_held3 (fun W => (W.cell? ⟨w.heap.size, 0, none⟩ = some (.int .i64 d) ∧ W.cell? ⟨w.heap.size, 1, none⟩ = some (.slice A ps.length c) ∧ W.cell? ⟨w.heap.size, 2, none⟩ = some (.int .i64 s)) ∧ (W.cell? ⟨w5.heap.size, 0, none⟩ = some (.int .i64 d) ∧ W.cell? ⟨w5.heap.size, 1, none⟩ = some (.slice (some ⟨g5, 0, none⟩) ps.length ps.length) ∧ W.cell? ⟨w5.heap.size, 2, none⟩ = some (.int .i64 s))) (first | exact ⟨(show Ctx w w.heap.size d s A c ps a0 z0 a1 z1 _ from by assumption).1, by assumption⟩ | go_keep)
    (first | (go_at_call 42; refine (toCert_any _ _ A c ps _ hD0.2.2.2.1 hm).mono ?_; rintro e vt ⟨gt, rfl, rt, _, bt⟩; have hD1 := Ctx.keep hD0 bt; have hQ1 : vt.cell? ⟨w5.heap.size, 0, none⟩ = some (.int .i64 d) ∧ vt.cell? ⟨w5.heap.size, 1, none⟩ = some (.slice (some ⟨g5, 0, none⟩) ps.length ps.length) ∧ vt.cell? ⟨w5.heap.size, 2, none⟩ = some (.int .i64 s) := ⟨keepc bt hQ0.1, keepc bt hQ0.2.1, keepc bt hQ0.2.2⟩; have hX1 := hX0.carry bt; have jt := Ints.of_row rt (Nat.le_refl _) rt.lt; clear bt rt) | (go_at_call 16; refine (eqCert_same _ _ _ _ _ _ ps _ hX1 jt hm).mono ?_; rintro e ve ⟨rfl, be⟩; have hD2 := Ctx.keep hD1 be; have hQ2 : ve.cell? ⟨w5.heap.size, 0, none⟩ = some (.int .i64 d) ∧ ve.cell? ⟨w5.heap.size, 1, none⟩ = some (.slice (some ⟨g5, 0, none⟩) ps.length ps.length) ∧ ve.cell? ⟨w5.heap.size, 2, none⟩ = some (.int .i64 s) := ⟨keepc be hQ1.1, keepc be hQ1.2.1, keepc be hQ1.2.2⟩; clear be))
  go_wp2_with fail
  go_ret
  exact ⟨rfl, hD2.2.2.2.2⟩

theorem walk (a0 : Option Addr) (c0 : Nat) (z0 : List Int) (a1 : Option Addr) (c1 : Nat) (z1 : List Int) (x2 : XCert) (w : World) (h0 : Ints w w.heap.size a0 z0) (h1 : Ints w w.heap.size a1 z1) (hx : x2.Good w) :
    Calls Try.prog 8 #[.slice a0 z0.length c0, .slice a1 z1.length c1, x2.val] w fun e w' => e = .returned (.bool true) ∧ Below w.heap.size w w' :=
  walk1 a0 c0 z0 a1 c1 z1 x2.d x2.s x2.A x2.c x2.zs w h0 h1 hx.1 hx.2

set_option maxRecDepth 100000 in
theorem lifted (os : Os) (started : os.Started) (H : Type) (enc : TypeId × Value → H) :
    ReturnsInHanded {} Try.checked os 8 .any (Rows.fnExactCertCheckSpec.pre6 enc Try.prog Try.f8 Rows.fnExactCertCheckRow.domain false) (Rows.fnExactCertCheckSpec.post enc Try.prog Try.f8 false true false false) := by
  refine returnsInHanded_of_change (C := Try.checked) own started (by kernel_rfl) Try.func8
    (ChangeSpec.witness6 (enc := enc) (C := Try.checked) false ⟨#[], #[.slice none 0 0, .slice none 0 0, .agg #[.int .i64 0, .slice none 0 0, .int .i64 0]], []⟩ 8 (by kernel_rfl) (by kernel_rfl) (by kernel_rfl) (by kernel_rfl)) ?_
  intro W base args ds gs before hval0 hW hcnd _
  have hval : ∀ (j : Nat) t v, Try.f8.params[j]? = some t → args[j]? = some v → Value.okWide Try.prog W .any base t v := hval0
  have hW' := hW
  obtain ⟨p, q, hA0, hV, rfl, hfz, hnd⟩ := hW
  have hA : DataW.TrodAll enc Try.prog W 0 (fun _ => true) true Try.f8.params.toList args.toList ds p := hA0
  rw [Try.params8] at hA hval
  obtain ⟨v0, vs0, d0, ds0, p0, q0, hargs, rfl, rfl, h0, r0⟩ := trodAll_cons hA
  obtain ⟨v1, vs1, d1, ds1, p1, q1, rfl, rfl, rfl, h1, r1⟩ := trodAll_cons r0
  obtain ⟨v2, vs2, d2, ds2, p2, q2, rfl, rfl, rfl, h2, r2⟩ := trodAll_cons r1
  obtain ⟨rfl, rfl, rfl⟩ := trodAll_nil r2
  obtain rfl : args = #[v0, v1, v2] := by cases args; simp_all
  obtain ⟨rfl, rfl⟩ := trodVars_none hV
  obtain ⟨a0, len0, c0, rfl⟩ := okWide_slice Try.underlying22 (hval 0 22 v0 rfl rfl)
  have k0 := h0
  have lt0 : ∀ x ∈ p0, x.block < W.heap.size := by obtain ⟨m, hm⟩ := k0; exact DataW.trod_lt m _ _ _ hm
  obtain ⟨z0, rfl, w0⟩ := ints_of_trod h0
  obtain ⟨a1, len1, c1, rfl⟩ := okWide_slice Try.underlying22 (hval 1 22 v1 rfl rfl)
  have k1 := h1
  have lt1 : ∀ x ∈ p1, x.block < W.heap.size := by obtain ⟨m, hm⟩ := k1; exact DataW.trod_lt m _ _ _ hm
  obtain ⟨z1, rfl, w1⟩ := ints_of_trod h1
  have k2 := h2
  have lt2 : ∀ x ∈ p2, x.block < W.heap.size := by obtain ⟨m, hm⟩ := k2; exact DataW.trod_lt m _ _ _ hm
  obtain ⟨x2, rfl, w2⟩ := open_cert (hval 2 _ v2 rfl rfl) h2
  clear hA0 hval0
  refine (walk a0 c0 z0 a1 c1 z1 x2 W w0 w1 w2).mono fun e W' ⟨he, bel⟩ => ?_
  subst he
  exact ⟨_, rfl, _, _, _, [], _, [], hW', trodAll_mk1 (shut_bool Try.underlying4 _), (trodAll_cons_mk (Below.trod laidOut (by kernel_rfl) (of_decide_eq_true (by kernel_rfl)) k0 bel lt0) (trodAll_cons_mk (Below.trod laidOut (by kernel_rfl) (of_decide_eq_true (by kernel_rfl)) k1 bel lt1) (trodAll_cons_mk (Below.trod laidOut (by kernel_rfl) (of_decide_eq_true (by kernel_rfl)) k2 bel lt2) trodAll_mk0))), rfl, bel.frame _, fun h => by cases h⟩

theorem over : Rows.fnExactCertCheckRow.holds Try.pinned (OpenSpec.ofChange Rows.fnExactCertCheckSpec) :=
  OpenClaim.holds_of_wide 8 Try.f8 rfl rfl rfl rfl rfl rfl rfl ⟨rfl, rfl, rfl, rfl, rfl⟩ rfl rfl rfl rfl rfl (by kernel_rfl) Try.func8 (by kernel_rfl)
    (of_decide_eq_true (by kernel_rfl)) (by unfold Func.isWrapper; first | (rw [if_pos (by decide +kernel)]; kernel_rfl) | (rw [if_neg (by decide +kernel)]; exact ⟨rfl, rfl⟩))
    (fun os started H enc _ => lifted os started H enc)

/-- The given statement. -/
theorem proved : Rows.FnExactCertCheckSaid := over
#print axioms proved
end Go.Proofs.Ytohnodphlaoohaa.exCertCheck
