/- The law FnStoreOrder holds for every input: the order of two batches does not matter. -/
import Derived.Test.YtmfbhddnlgbcmaaDrawS
import Derived.Test.YtmfbhddnlgbcmaaSameSt
import Derived.Test.YtmfbhddnlgbcmaaArgs
import Derived.Test.YtmfbhddnlgbcmaaReg
namespace Go.Proofs.Ytmfbhddnlgbcmaa.lawStoreOrder
open Go.ChangeShapes Go.WideShapes Go.ChangeAt Go.RowKit
set_option linter.unusedVariables false

set_option maxHeartbeats 8000000 in
set_option maxRecDepth 100000 in
theorem walk (a0 : Option Addr) (c0 : Nat) (z0 : List Int) (a1 : Option Addr) (c1 : Nat) (z1 : List Int) (w : World) (h0 : Bytes w w.heap.size a0 z0 ∧ z0.length ≤ c0) (h1 : Bytes w w.heap.size a1 z1 ∧ z1.length ≤ c1) :
    Calls Try.prog 12 #[.slice a0 z0.length c0, .slice a1 z1.length c1] w fun e w' => e = .returned (.bool true) ∧ Below w.heap.size w w' := by
  by_cases hbig0 : (1048576 : Int) < z0.length
  · go_enter Try.func12, Try.ntmps12
    go_wp2_with fail
    go_ret
    exact ⟨rfl, Below.refl _ _⟩
  by_cases hbig1 : (1048576 : Int) < z1.length
  · go_enter Try.func12, Try.ntmps12
    go_wp2_with fail
    go_ret
    exact ⟨rfl, Below.refl _ _⟩
  have hn0 : z0.length ≤ 1048576 := by omega
  have H0 := Lib.hid h0
  have hn1 : z1.length ≤ 1048576 := by omega
  have H1 := Lib.hid h1
  clear h0 h1
  go_enter Try.func12, Try.ntmps12
  go_wp2_with fail
  refine (s_DrawStorePut _ _ _ _ H0.out.1 H0.out.2 hn0).mono ?_
  rintro e w1 ⟨f, g, c, bs, b, rfl, hl, ho, b1⟩
  have hcap := ho.up.2.2
  have LX := Lib.hid ho.up.2.1.lst
  have BB := Lib.hid b1
  clear ho b1
  have ba := allocB2 w1 (.cells #[.int .i64 f, .slice (some ⟨g, 0, none⟩) bs.length c] 25) (.cells #[.int .i64 b.d, .int .i64 b.a, .int .i64 b.r, .int .i64 b.s] 27)
  replace LX := Lib.hid (LX.out.carry ba)
  replace BB := Lib.hid (next BB.out ba)
  clear ba
  by_cases h0 : ¬ putCode f bs b = 0
  · obtain ⟨k, hk⟩ : ∃ k, putCode f bs b = k := ⟨_, rfl⟩
    obtain ⟨v, hv⟩ : ∃ v, putFloor f bs b = v := ⟨_, rfl⟩
    obtain ⟨ks, hks⟩ : ∃ ks, putList f bs b = ks := ⟨_, rfl⟩
    have hkl : ks.length ≤ 14 := by have := putList_len (f := f) (bs := bs) (b := b); rw [hks] at this; omega
    have hk0 : (k != 0) = true := by simpa using fun e => h0 (hk.trans e)
    have hkk : (k != k) = false := by simp
    have hke : (k == k) = true := by simp
    have HK := Lib.hid hk
    have HV := Lib.hid hv
    have HL := Lib.hid hks
    clear hk hv hks h0
    go_wp2_with fail
    refine (i_put f (some ⟨g, 0, none⟩) c bs b _ LX.out (by omega) (k := k) (v := v) (ks := ks) HK.out HV.out HL.out).mono ?_
    rintro e w2 ⟨A2, c2, rfl, l2, b2⟩
    replace LX := Lib.hid (LX.out.carry b2)
    replace BB := Lib.hid (next BB.out b2)
    have x0 := keepc (b := w1.heap.size) (off := 0) (v := .int .i64 f) b2 (by simp)
    have x1 := keepc (b := w1.heap.size) (off := 1) (v := .slice (some ⟨g, 0, none⟩) bs.length c) b2 (by simp)
    have y0 := keepc (b := w1.heap.size + 1) (off := 0) (v := .int .i64 b.d) b2 (by simp)
    have y1 := keepc (b := w1.heap.size + 1) (off := 1) (v := .int .i64 b.a) b2 (by simp)
    have y2 := keepc (b := w1.heap.size + 1) (off := 2) (v := .int .i64 b.r) b2 (by simp)
    have y3 := keepc (b := w1.heap.size + 1) (off := 3) (v := .int .i64 b.s) b2 (by simp)
    clear b2
    have Lo := Lib.hid l2
    clear l2
    have ba := allocB w2 (.cells #[.int .i64 v, .slice A2 ks.length c2] 25)
    replace LX := Lib.hid (LX.out.carry ba)
    replace Lo := Lib.hid (Lo.out.carry ba)
    replace BB := Lib.hid (next BB.out ba)
    replace x0 := keepc ba x0
    replace x1 := keepc ba x1
    replace y0 := keepc ba y0
    replace y1 := keepc ba y1
    replace y2 := keepc ba y2
    replace y3 := keepc ba y3
    clear ba
    go_wp2_with fail
    refine (s_put f g c bs b _ LX.out hcap (by omega) (k := k) (v := v) (ks := ks) HK.out HV.out HL.out).mono ?_
    rintro e w3 ⟨A3, c3, rfl, l3, b3⟩
    replace LX := Lib.hid (LX.out.carry b3)
    replace Lo := Lib.hid (Lo.out.carry b3)
    replace BB := Lib.hid (next BB.out b3)
    replace x0 := keepc b3 x0
    replace x1 := keepc b3 x1
    replace y0 := keepc b3 y0
    replace y1 := keepc b3 y1
    replace y2 := keepc b3 y2
    replace y3 := keepc b3 y3
    have o0 := keepc (b := w2.heap.size) (off := 0) (v := .int .i64 v) b3 (by simp)
    have o1 := keepc (b := w2.heap.size) (off := 1) (v := .slice A2 ks.length c2) b3 (by simp)
    clear b3
    have Lt := Lib.hid l3
    clear l3
    have ba := allocB w3 (.cells #[.int .i64 v, .slice A3 ks.length c3] 25)
    replace LX := Lib.hid (LX.out.carry ba)
    replace Lo := Lib.hid (Lo.out.carry ba)
    replace Lt := Lib.hid (Lt.out.carry ba)
    replace BB := Lib.hid (next BB.out ba)
    replace x0 := keepc ba x0
    replace x1 := keepc ba x1
    replace y0 := keepc ba y0
    replace y1 := keepc ba y1
    replace y2 := keepc ba y2
    replace y3 := keepc ba y3
    replace o0 := keepc ba o0
    replace o1 := keepc ba o1
    clear ba
    go_wp2_with fail
    refine (sameStore_same v A2 A3 c2 c3 ks _ Lo.out Lt.out (by omega)).mono ?_
    rintro e w4 ⟨rfl, b4⟩
    replace LX := Lib.hid (LX.out.carry b4)
    replace Lo := Lib.hid (Lo.out.carry b4)
    replace Lt := Lib.hid (Lt.out.carry b4)
    replace BB := Lib.hid (next BB.out b4)
    replace x0 := keepc b4 x0
    replace x1 := keepc b4 x1
    replace y0 := keepc b4 y0
    replace y1 := keepc b4 y1
    replace y2 := keepc b4 y2
    replace y3 := keepc b4 y3
    replace o0 := keepc b4 o0
    replace o1 := keepc b4 o1
    have t0 := keepc (b := w3.heap.size) (off := 0) (v := .int .i64 v) b4 (by simp)
    have t1 := keepc (b := w3.heap.size) (off := 1) (v := .slice A3 ks.length c3) b4 (by simp)
    clear b4
    go_wp2_with fail
    refine (sameStore_same v A2 A3 c2 c3 ks _ Lo.out Lt.out (by omega)).mono ?_
    rintro e w5 ⟨rfl, b5⟩
    replace LX := Lib.hid (LX.out.carry b5)
    replace Lo := Lib.hid (Lo.out.carry b5)
    replace Lt := Lib.hid (Lt.out.carry b5)
    replace BB := Lib.hid (next BB.out b5)
    replace x0 := keepc b5 x0
    replace x1 := keepc b5 x1
    replace y0 := keepc b5 y0
    replace y1 := keepc b5 y1
    replace y2 := keepc b5 y2
    replace y3 := keepc b5 y3
    replace o0 := keepc b5 o0
    replace o1 := keepc b5 o1
    replace t0 := keepc b5 t0
    replace t1 := keepc b5 t1
    clear b5
    go_wp2_with fail
    go_ret
    exact ⟨rfl, BB.out⟩
  have h0 : putCode f bs b = 0 := Classical.not_not.1 h0
  have HK := Lib.hid h0
  have HV := Lib.hid (put_list h0).2
  have HL := Lib.hid (put_list h0).1
  have hil := ins_len (b := b) (bs := bs)
  have hkl : (ins b bs).length ≤ 14 := by omega
  clear h0 hil
  go_wp2_with fail
  refine (i_put f (some ⟨g, 0, none⟩) c bs b _ LX.out (by omega) (k := 0) (v := f) (ks := (ins b bs)) HK.out HV.out HL.out).mono ?_
  rintro e w2 ⟨A2, c2, rfl, l2, b2⟩
  replace LX := Lib.hid (LX.out.carry b2)
  replace BB := Lib.hid (next BB.out b2)
  have x0 := keepc (b := w1.heap.size) (off := 0) (v := .int .i64 f) b2 (by simp)
  have x1 := keepc (b := w1.heap.size) (off := 1) (v := .slice (some ⟨g, 0, none⟩) bs.length c) b2 (by simp)
  have y0 := keepc (b := w1.heap.size + 1) (off := 0) (v := .int .i64 b.d) b2 (by simp)
  have y1 := keepc (b := w1.heap.size + 1) (off := 1) (v := .int .i64 b.a) b2 (by simp)
  have y2 := keepc (b := w1.heap.size + 1) (off := 2) (v := .int .i64 b.r) b2 (by simp)
  have y3 := keepc (b := w1.heap.size + 1) (off := 3) (v := .int .i64 b.s) b2 (by simp)
  clear b2
  have Lo := Lib.hid l2
  clear l2
  have ba := allocB w2 (.cells #[.int .i64 f, .slice A2 (ins b bs).length c2] 25)
  replace LX := Lib.hid (LX.out.carry ba)
  replace Lo := Lib.hid (Lo.out.carry ba)
  replace BB := Lib.hid (next BB.out ba)
  replace x0 := keepc ba x0
  replace x1 := keepc ba x1
  replace y0 := keepc ba y0
  replace y1 := keepc ba y1
  replace y2 := keepc ba y2
  replace y3 := keepc ba y3
  clear ba
  go_wp2_with fail
  refine (s_put f g c bs b _ LX.out hcap (by omega) (k := 0) (v := f) (ks := (ins b bs)) HK.out HV.out HL.out).mono ?_
  rintro e w3 ⟨A3, c3, rfl, l3, b3⟩
  replace LX := Lib.hid (LX.out.carry b3)
  replace Lo := Lib.hid (Lo.out.carry b3)
  replace BB := Lib.hid (next BB.out b3)
  replace x0 := keepc b3 x0
  replace x1 := keepc b3 x1
  replace y0 := keepc b3 y0
  replace y1 := keepc b3 y1
  replace y2 := keepc b3 y2
  replace y3 := keepc b3 y3
  have o0 := keepc (b := w2.heap.size) (off := 0) (v := .int .i64 f) b3 (by simp)
  have o1 := keepc (b := w2.heap.size) (off := 1) (v := .slice A2 (ins b bs).length c2) b3 (by simp)
  clear b3
  have Lt := Lib.hid l3
  clear l3
  have ba := allocB w3 (.cells #[.int .i64 f, .slice A3 (ins b bs).length c3] 25)
  replace LX := Lib.hid (LX.out.carry ba)
  replace Lo := Lib.hid (Lo.out.carry ba)
  replace Lt := Lib.hid (Lt.out.carry ba)
  replace BB := Lib.hid (next BB.out ba)
  replace x0 := keepc ba x0
  replace x1 := keepc ba x1
  replace y0 := keepc ba y0
  replace y1 := keepc ba y1
  replace y2 := keepc ba y2
  replace y3 := keepc ba y3
  replace o0 := keepc ba o0
  replace o1 := keepc ba o1
  clear ba
  go_wp2_with fail
  refine (sameStore_same f A2 A3 c2 c3 (ins b bs) _ Lo.out Lt.out (by omega)).mono ?_
  rintro e w4 ⟨rfl, b4⟩
  replace LX := Lib.hid (LX.out.carry b4)
  replace Lo := Lib.hid (Lo.out.carry b4)
  replace Lt := Lib.hid (Lt.out.carry b4)
  replace BB := Lib.hid (next BB.out b4)
  replace x0 := keepc b4 x0
  replace x1 := keepc b4 x1
  replace y0 := keepc b4 y0
  replace y1 := keepc b4 y1
  replace y2 := keepc b4 y2
  replace y3 := keepc b4 y3
  replace o0 := keepc b4 o0
  replace o1 := keepc b4 o1
  have t0 := keepc (b := w3.heap.size) (off := 0) (v := .int .i64 f) b4 (by simp)
  have t1 := keepc (b := w3.heap.size) (off := 1) (v := .slice A3 (ins b bs).length c3) b4 (by simp)
  clear b4
  go_wp2_with fail
  refine (s_DrawStorePut _ _ _ _ (Bytes.more (H1.out.1.below BB.out) BB.out.size) H1.out.2 hn1).mono ?_
  rintro e w5 ⟨f8, g8, c8, bs8, u, rfl, _, _, b5⟩
  replace LX := Lib.hid (LX.out.carry b5)
  replace Lo := Lib.hid (Lo.out.carry b5)
  replace Lt := Lib.hid (Lt.out.carry b5)
  replace BB := Lib.hid (next BB.out b5)
  replace x0 := keepc b5 x0
  replace x1 := keepc b5 x1
  replace y0 := keepc b5 y0
  replace y1 := keepc b5 y1
  replace y2 := keepc b5 y2
  replace y3 := keepc b5 y3
  replace o0 := keepc b5 o0
  replace o1 := keepc b5 o1
  replace t0 := keepc b5 t0
  replace t1 := keepc b5 t1
  clear b5
  have ba := allocB2 w5 (.cells #[.int .i64 f8, .slice (some ⟨g8, 0, none⟩) bs8.length c8] 25) (.cells #[.int .i64 u.d, .int .i64 u.a, .int .i64 u.r, .int .i64 u.s] 27)
  replace LX := Lib.hid (LX.out.carry ba)
  replace Lo := Lib.hid (Lo.out.carry ba)
  replace Lt := Lib.hid (Lt.out.carry ba)
  replace BB := Lib.hid (next BB.out ba)
  replace x0 := keepc ba x0
  replace x1 := keepc ba x1
  replace y0 := keepc ba y0
  replace y1 := keepc ba y1
  replace y2 := keepc ba y2
  replace y3 := keepc ba y3
  replace o0 := keepc ba o0
  replace o1 := keepc ba o1
  replace t0 := keepc ba t0
  replace t1 := keepc ba t1
  clear ba
  by_cases h1 : ¬ putCode f (ins b bs) u = 0
  · obtain ⟨k, hk⟩ : ∃ k, putCode f (ins b bs) u = k := ⟨_, rfl⟩
    obtain ⟨v, hv⟩ : ∃ v, putFloor f (ins b bs) u = v := ⟨_, rfl⟩
    obtain ⟨ks, hks⟩ : ∃ ks, putList f (ins b bs) u = ks := ⟨_, rfl⟩
    have hk0 : (k != 0) = true := by simpa using fun e => h1 (hk.trans e)
    have HK1 := Lib.hid hk
    have HV1 := Lib.hid hv
    have HL1 := Lib.hid hks
    clear hk hv hks h1
    go_wp2_with fail
    refine (i_put f A2 c2 (ins b bs) u _ Lo.out (by omega) (k := k) (v := v) (ks := ks) HK1.out HV1.out HL1.out).mono ?_
    rintro e w6 ⟨A6, c6, rfl, l6, b6⟩
    replace LX := Lib.hid (LX.out.carry b6)
    replace Lo := Lib.hid (Lo.out.carry b6)
    replace Lt := Lib.hid (Lt.out.carry b6)
    replace BB := Lib.hid (next BB.out b6)
    replace x0 := keepc b6 x0
    replace x1 := keepc b6 x1
    replace y0 := keepc b6 y0
    replace y1 := keepc b6 y1
    replace y2 := keepc b6 y2
    replace y3 := keepc b6 y3
    replace o0 := keepc b6 o0
    replace o1 := keepc b6 o1
    replace t0 := keepc b6 t0
    replace t1 := keepc b6 t1
    have p0 := keepc (b := w5.heap.size) (off := 0) (v := .int .i64 f8) b6 (by simp)
    have p1 := keepc (b := w5.heap.size) (off := 1) (v := .slice (some ⟨g8, 0, none⟩) bs8.length c8) b6 (by simp)
    have q0 := keepc (b := w5.heap.size + 1) (off := 0) (v := .int .i64 u.d) b6 (by simp)
    have q1 := keepc (b := w5.heap.size + 1) (off := 1) (v := .int .i64 u.a) b6 (by simp)
    have q2 := keepc (b := w5.heap.size + 1) (off := 2) (v := .int .i64 u.r) b6 (by simp)
    have q3 := keepc (b := w5.heap.size + 1) (off := 3) (v := .int .i64 u.s) b6 (by simp)
    clear b6
    have Ly := Lib.hid l6
    clear l6
    have ba := allocB w6 (.cells #[.int .i64 v, .slice A6 ks.length c6] 25)
    replace LX := Lib.hid (LX.out.carry ba)
    replace Lo := Lib.hid (Lo.out.carry ba)
    replace Lt := Lib.hid (Lt.out.carry ba)
    replace Ly := Lib.hid (Ly.out.carry ba)
    replace BB := Lib.hid (next BB.out ba)
    replace x0 := keepc ba x0
    replace x1 := keepc ba x1
    replace y0 := keepc ba y0
    replace y1 := keepc ba y1
    replace y2 := keepc ba y2
    replace y3 := keepc ba y3
    replace o0 := keepc ba o0
    replace o1 := keepc ba o1
    replace t0 := keepc ba t0
    replace t1 := keepc ba t1
    replace p0 := keepc ba p0
    replace p1 := keepc ba p1
    replace q0 := keepc ba q0
    replace q1 := keepc ba q1
    replace q2 := keepc ba q2
    replace q3 := keepc ba q3
    clear ba
    go_wp2_with fail
    go_ret
    exact ⟨rfl, BB.out⟩
  have h1 : putCode f (ins b bs) u = 0 := Classical.not_not.1 h1
  have HO := Lib.hid (put_order HK.out h1)
  have HK1 := Lib.hid h1
  clear h1
  have hil : (ins u (ins b bs)).length ≤ 15 := by have := ins_len (b := u) (bs := ins b bs); omega
  have hil2 : (ins u bs).length ≤ 14 := by have := ins_len (b := u) (bs := bs); omega
  go_wp2_with fail
  refine (i_put f A2 c2 (ins b bs) u _ Lo.out (by omega) (k := 0) (v := f) (ks := (ins u (ins b bs))) HK1.out (put_list HK1.out).2 (put_list HK1.out).1).mono ?_
  rintro e w6 ⟨A6, c6, rfl, l6, b6⟩
  replace LX := Lib.hid (LX.out.carry b6)
  replace Lo := Lib.hid (Lo.out.carry b6)
  replace Lt := Lib.hid (Lt.out.carry b6)
  replace BB := Lib.hid (next BB.out b6)
  replace x0 := keepc b6 x0
  replace x1 := keepc b6 x1
  replace y0 := keepc b6 y0
  replace y1 := keepc b6 y1
  replace y2 := keepc b6 y2
  replace y3 := keepc b6 y3
  replace o0 := keepc b6 o0
  replace o1 := keepc b6 o1
  replace t0 := keepc b6 t0
  replace t1 := keepc b6 t1
  have p0 := keepc (b := w5.heap.size) (off := 0) (v := .int .i64 f8) b6 (by simp)
  have p1 := keepc (b := w5.heap.size) (off := 1) (v := .slice (some ⟨g8, 0, none⟩) bs8.length c8) b6 (by simp)
  have q0 := keepc (b := w5.heap.size + 1) (off := 0) (v := .int .i64 u.d) b6 (by simp)
  have q1 := keepc (b := w5.heap.size + 1) (off := 1) (v := .int .i64 u.a) b6 (by simp)
  have q2 := keepc (b := w5.heap.size + 1) (off := 2) (v := .int .i64 u.r) b6 (by simp)
  have q3 := keepc (b := w5.heap.size + 1) (off := 3) (v := .int .i64 u.s) b6 (by simp)
  clear b6
  have Lyy := Lib.hid l6
  clear l6
  have ba := allocB w6 (.cells #[.int .i64 f, .slice A6 (ins u (ins b bs)).length c6] 25)
  replace LX := Lib.hid (LX.out.carry ba)
  replace Lo := Lib.hid (Lo.out.carry ba)
  replace Lt := Lib.hid (Lt.out.carry ba)
  replace Lyy := Lib.hid (Lyy.out.carry ba)
  replace BB := Lib.hid (next BB.out ba)
  replace x0 := keepc ba x0
  replace x1 := keepc ba x1
  replace y0 := keepc ba y0
  replace y1 := keepc ba y1
  replace y2 := keepc ba y2
  replace y3 := keepc ba y3
  replace o0 := keepc ba o0
  replace o1 := keepc ba o1
  replace t0 := keepc ba t0
  replace t1 := keepc ba t1
  replace p0 := keepc ba p0
  replace p1 := keepc ba p1
  replace q0 := keepc ba q0
  replace q1 := keepc ba q1
  replace q2 := keepc ba q2
  replace q3 := keepc ba q3
  clear ba
  go_wp2_with fail
  refine (i_put f (some ⟨g, 0, none⟩) c bs u _ LX.out (by omega) (k := 0) (v := f) (ks := (ins u bs)) HO.out.1 (put_list HO.out.1).2 (put_list HO.out.1).1).mono ?_
  rintro e w7 ⟨A7, c7, rfl, l7, b7⟩
  replace LX := Lib.hid (LX.out.carry b7)
  replace Lo := Lib.hid (Lo.out.carry b7)
  replace Lt := Lib.hid (Lt.out.carry b7)
  replace Lyy := Lib.hid (Lyy.out.carry b7)
  replace BB := Lib.hid (next BB.out b7)
  replace x0 := keepc b7 x0
  replace x1 := keepc b7 x1
  replace y0 := keepc b7 y0
  replace y1 := keepc b7 y1
  replace y2 := keepc b7 y2
  replace y3 := keepc b7 y3
  replace o0 := keepc b7 o0
  replace o1 := keepc b7 o1
  replace t0 := keepc b7 t0
  replace t1 := keepc b7 t1
  replace p0 := keepc b7 p0
  replace p1 := keepc b7 p1
  replace q0 := keepc b7 q0
  replace q1 := keepc b7 q1
  replace q2 := keepc b7 q2
  replace q3 := keepc b7 q3
  have yy0 := keepc (b := w6.heap.size) (off := 0) (v := .int .i64 f) b7 (by simp)
  have yy1 := keepc (b := w6.heap.size) (off := 1) (v := .slice A6 (ins u (ins b bs)).length c6) b7 (by simp)
  clear b7
  have Lzz := Lib.hid l7
  clear l7
  have ba := allocB w7 (.cells #[.int .i64 f, .slice A7 (ins u bs).length c7] 25)
  replace LX := Lib.hid (LX.out.carry ba)
  replace Lo := Lib.hid (Lo.out.carry ba)
  replace Lt := Lib.hid (Lt.out.carry ba)
  replace Lyy := Lib.hid (Lyy.out.carry ba)
  replace Lzz := Lib.hid (Lzz.out.carry ba)
  replace BB := Lib.hid (next BB.out ba)
  replace x0 := keepc ba x0
  replace x1 := keepc ba x1
  replace y0 := keepc ba y0
  replace y1 := keepc ba y1
  replace y2 := keepc ba y2
  replace y3 := keepc ba y3
  replace o0 := keepc ba o0
  replace o1 := keepc ba o1
  replace t0 := keepc ba t0
  replace t1 := keepc ba t1
  replace p0 := keepc ba p0
  replace p1 := keepc ba p1
  replace q0 := keepc ba q0
  replace q1 := keepc ba q1
  replace q2 := keepc ba q2
  replace q3 := keepc ba q3
  replace yy0 := keepc ba yy0
  replace yy1 := keepc ba yy1
  clear ba
  go_wp2_with fail
  refine (i_put f A7 c7 (ins u bs) b _ Lzz.out (by omega) (k := 0) (v := f) (ks := (ins u (ins b bs))) HO.out.2.1 (put_list HO.out.2.1).2 ((put_list HO.out.2.1).1.trans HO.out.2.2)).mono ?_
  rintro e w8 ⟨A8, c8, rfl, l8, b8⟩
  replace LX := Lib.hid (LX.out.carry b8)
  replace Lo := Lib.hid (Lo.out.carry b8)
  replace Lt := Lib.hid (Lt.out.carry b8)
  replace Lyy := Lib.hid (Lyy.out.carry b8)
  replace Lzz := Lib.hid (Lzz.out.carry b8)
  replace BB := Lib.hid (next BB.out b8)
  replace x0 := keepc b8 x0
  replace x1 := keepc b8 x1
  replace y0 := keepc b8 y0
  replace y1 := keepc b8 y1
  replace y2 := keepc b8 y2
  replace y3 := keepc b8 y3
  replace o0 := keepc b8 o0
  replace o1 := keepc b8 o1
  replace t0 := keepc b8 t0
  replace t1 := keepc b8 t1
  replace p0 := keepc b8 p0
  replace p1 := keepc b8 p1
  replace q0 := keepc b8 q0
  replace q1 := keepc b8 q1
  replace q2 := keepc b8 q2
  replace q3 := keepc b8 q3
  replace yy0 := keepc b8 yy0
  replace yy1 := keepc b8 yy1
  have zz0 := keepc (b := w7.heap.size) (off := 0) (v := .int .i64 f) b8 (by simp)
  have zz1 := keepc (b := w7.heap.size) (off := 1) (v := .slice A7 (ins u bs).length c7) b8 (by simp)
  clear b8
  have Lww := Lib.hid l8
  clear l8
  have ba := allocB w8 (.cells #[.int .i64 f, .slice A8 (ins u (ins b bs)).length c8] 25)
  replace LX := Lib.hid (LX.out.carry ba)
  replace Lo := Lib.hid (Lo.out.carry ba)
  replace Lt := Lib.hid (Lt.out.carry ba)
  replace Lyy := Lib.hid (Lyy.out.carry ba)
  replace Lzz := Lib.hid (Lzz.out.carry ba)
  replace Lww := Lib.hid (Lww.out.carry ba)
  replace BB := Lib.hid (next BB.out ba)
  replace x0 := keepc ba x0
  replace x1 := keepc ba x1
  replace y0 := keepc ba y0
  replace y1 := keepc ba y1
  replace y2 := keepc ba y2
  replace y3 := keepc ba y3
  replace o0 := keepc ba o0
  replace o1 := keepc ba o1
  replace t0 := keepc ba t0
  replace t1 := keepc ba t1
  replace p0 := keepc ba p0
  replace p1 := keepc ba p1
  replace q0 := keepc ba q0
  replace q1 := keepc ba q1
  replace q2 := keepc ba q2
  replace q3 := keepc ba q3
  replace yy0 := keepc ba yy0
  replace yy1 := keepc ba yy1
  replace zz0 := keepc ba zz0
  replace zz1 := keepc ba zz1
  clear ba
  go_wp2_with fail
  refine (sameStore_same f A8 A6 c8 c6 (ins u (ins b bs)) _ Lww.out Lyy.out (by omega)).mono ?_
  rintro e w9 ⟨rfl, b9⟩
  replace LX := Lib.hid (LX.out.carry b9)
  replace Lo := Lib.hid (Lo.out.carry b9)
  replace Lt := Lib.hid (Lt.out.carry b9)
  replace Lyy := Lib.hid (Lyy.out.carry b9)
  replace Lzz := Lib.hid (Lzz.out.carry b9)
  replace Lww := Lib.hid (Lww.out.carry b9)
  replace BB := Lib.hid (next BB.out b9)
  replace x0 := keepc b9 x0
  replace x1 := keepc b9 x1
  replace y0 := keepc b9 y0
  replace y1 := keepc b9 y1
  replace y2 := keepc b9 y2
  replace y3 := keepc b9 y3
  replace o0 := keepc b9 o0
  replace o1 := keepc b9 o1
  replace t0 := keepc b9 t0
  replace t1 := keepc b9 t1
  replace p0 := keepc b9 p0
  replace p1 := keepc b9 p1
  replace q0 := keepc b9 q0
  replace q1 := keepc b9 q1
  replace q2 := keepc b9 q2
  replace q3 := keepc b9 q3
  replace yy0 := keepc b9 yy0
  replace yy1 := keepc b9 yy1
  replace zz0 := keepc b9 zz0
  replace zz1 := keepc b9 zz1
  have ww0 := keepc (b := w8.heap.size) (off := 0) (v := .int .i64 f) b9 (by simp)
  have ww1 := keepc (b := w8.heap.size) (off := 1) (v := .slice A8 (ins u (ins b bs)).length c8) b9 (by simp)
  clear b9
  go_wp2_with fail
  go_ret
  exact ⟨rfl, BB.out⟩

set_option maxRecDepth 100000 in
theorem lifted (os : Os) (started : os.Started) (H : Type) (enc : TypeId × Value → H) :
    ReturnsInHanded {} Try.checked os 12 .any (Rows.fnStoreOrderSpec.pre6 enc Try.prog Try.f12 Rows.fnStoreOrderRow.domain false) (Rows.fnStoreOrderSpec.post enc Try.prog Try.f12 false true false false) := by
  refine returnsInHanded_of_change (C := Try.checked) own started (by kernel_rfl) Try.func12
    (ChangeSpec.witness6 (enc := enc) (C := Try.checked) false ⟨#[], #[.slice none 0 0, .slice none 0 0], []⟩ 8 (by kernel_rfl) (by kernel_rfl) (by kernel_rfl) (by kernel_rfl)) ?_
  intro W base args ds gs before hval0 hW hcnd _
  have hval : ∀ (j : Nat) t v, Try.f12.params[j]? = some t → args[j]? = some v → Value.okWide Try.prog W .any base t v := hval0
  have hW' := hW
  obtain ⟨p, q, hA0, hV, rfl, hfz, hnd⟩ := hW
  have hA : DataW.TrodAll enc Try.prog W 0 (fun _ => true) true Try.f12.params.toList args.toList ds p := hA0
  rw [Try.params12] at hA hval
  obtain ⟨v0, vs0, d0, ds0, p0, q0, hargs, rfl, rfl, h0, r0⟩ := trodAll_cons hA
  obtain ⟨v1, vs1, d1, ds1, p1, q1, rfl, rfl, rfl, h1, r1⟩ := trodAll_cons r0
  obtain ⟨rfl, rfl, rfl⟩ := trodAll_nil r1
  obtain rfl : args = #[v0, v1] := by cases args; simp_all
  obtain ⟨rfl, rfl⟩ := trodVars_none hV
  obtain ⟨a0, len0, c0, rfl⟩ := okWide_slice Try.underlying22 (hval 0 22 v0 rfl rfl)
  have k0 := h0
  have lt0 : ∀ x ∈ p0, x.block < W.heap.size := by obtain ⟨m, hm⟩ := k0; exact DataW.trod_lt m _ _ _ hm
  obtain ⟨z0, rfl, w0⟩ := bytes_of_trod h0
  obtain ⟨a1, len1, c1, rfl⟩ := okWide_slice Try.underlying22 (hval 1 22 v1 rfl rfl)
  have k1 := h1
  have lt1 : ∀ x ∈ p1, x.block < W.heap.size := by obtain ⟨m, hm⟩ := k1; exact DataW.trod_lt m _ _ _ hm
  obtain ⟨z1, rfl, w1⟩ := bytes_of_trod h1
  clear hA0 hval0
  refine (walk a0 c0 z0 a1 c1 z1 W w0 w1).mono fun e W' ⟨he, bel⟩ => ?_
  subst he
  exact ⟨_, rfl, _, _, _, [], _, [], hW', trodAll_mk1 (shut_bool Try.underlying4 _), (trodAll_cons_mk (Below.trod laidOut (by kernel_rfl) (of_decide_eq_true (by kernel_rfl)) k0 bel lt0) (trodAll_cons_mk (Below.trod laidOut (by kernel_rfl) (of_decide_eq_true (by kernel_rfl)) k1 bel lt1) trodAll_mk0)), rfl, bel.frame _, fun h => by cases h⟩

theorem over : Rows.fnStoreOrderRow.holds Try.pinned (OpenSpec.ofChange Rows.fnStoreOrderSpec) :=
  OpenClaim.holds_of_wide 12 Try.f12 rfl rfl rfl rfl rfl rfl rfl ⟨rfl, rfl, rfl, rfl, rfl⟩ rfl rfl rfl rfl rfl (by kernel_rfl) Try.func12 (by kernel_rfl)
    (of_decide_eq_true (by kernel_rfl)) (by unfold Func.isWrapper; first | (rw [if_pos (by decide +kernel)]; kernel_rfl) | (rw [if_neg (by decide +kernel)]; exact ⟨rfl, rfl⟩))
    (fun os started H enc _ => lifted os started H enc)

/-- The given statement. -/
theorem proved : Rows.FnStoreOrderSaid := over
#print axioms proved
end Go.Proofs.Ytmfbhddnlgbcmaa.lawStoreOrder
