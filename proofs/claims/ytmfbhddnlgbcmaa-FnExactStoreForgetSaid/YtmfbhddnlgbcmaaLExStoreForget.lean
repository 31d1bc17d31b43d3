/- The law FnExactStoreForget holds for every input: the program's StoreForget returns what the reference's returns, in memory of its own. -/
import Derived.Test.YtmfbhddnlgbcmaaForgetStore
import Derived.Test.YtmfbhddnlgbcmaaStLStore
import Derived.Test.YtmfbhddnlgbcmaaArgL
import Derived.RegionTactic
namespace Go.Proofs.Ytmfbhddnlgbcmaa.exStoreForget
open Go.ChangeShapes Go.WideShapes Go.ChangeAt Go.RowKit
set_option linter.unusedVariables false

def flOf (f : Int) (bs : List VBatch) (n : Int) : Int := if forgetBatch f bs n = true then n else 0
def ksOf (f : Int) (bs : List VBatch) (n : Int) : List VBatch := if forgetBatch f bs n = true then kept n bs else []
/-- What forgetting hands back, either way. -/
def Res (w : World) (f : Int) (bs : List VBatch) (n : Int) (e : Ending) (w' : World) : Prop :=
  ∃ (A : Option Addr) (cap : Nat), e = .returned (.tuple #[.agg #[.int .i64 (flOf f bs n), .slice A (ksOf f bs n).length cap], .bool (forgetBatch f bs n)]) ∧ LstUpBatch w' w.heap.size A (ksOf f bs n) ∧ WrS w' A ((ksOf f bs n).length * 4) ∧ Below w.heap.size w w'
theorem res0 {w w' : World} {f n : Int} {bs : List VBatch} {e : Ending} (hf : forgetBatch f bs n = false) (h : Forgot0 w e w') : Res w f bs n e w' := by
  have e1 : flOf f bs n = 0 := by rw [flOf, if_neg (by simp [hf])]
  have e2 : ksOf f bs n = [] := by rw [ksOf, if_neg (by simp [hf])]
  exact ⟨none, 0, by rw [h.1, e1, e2, hf]; rfl, by rw [e2]; exact LstUpBatch.nil _ _ _, (by rw [e2]; exact fun hh => absurd hh (by simp)), h.2⟩
theorem res1 {w w' : World} {f n : Int} {bs : List VBatch} {e : Ending} (hf : forgetBatch f bs n = true) (h : Forgot1 w n (kept n bs) e w') : Res w f bs n e w' := by
  have e1 : flOf f bs n = n := by rw [flOf, if_pos hf]
  have e2 : ksOf f bs n = kept n bs := by rw [ksOf, if_pos hf]
  obtain ⟨g, cap, he, hO, hb⟩ := h
  exact ⟨some ⟨g, 0, none⟩, cap, by rw [he, e1, e2, hf], by rw [e2]; exact hO.up.2.1, (by rw [e2]; exact fun _ => ⟨g, rfl, Wr.of_own hO⟩), hb⟩
theorem s_any (f : Int) (A : Option Addr) (c : Nat) (bs : List VBatch) (n : Int) (w : World) (h : LstBatch w w.heap.size A bs) (hn : bs.length ≤ 1048576) :
    Calls Try.prog 32 #[.agg #[.int .i64 f, .slice A bs.length c], .int .i64 n] w (Res w f bs n) := by
  rcases hf : forgetBatch f bs n with _ | _
  · exact (s_StoreForget_no f A c bs n w h hn hf).mono fun _ _ => res0 hf
  · exact (s_StoreForget_yes f A c bs n w h hn hf).mono fun _ _ => res1 hf
theorem i_any (f : Int) (A : Option Addr) (c : Nat) (bs : List VBatch) (n : Int) (w : World) (h : LstBatch w w.heap.size A bs) (hn : bs.length ≤ 1048576) :
    Calls Try.prog 31 #[.agg #[.int .i64 f, .slice A bs.length c], .int .i64 n] w (Res w f bs n) := by
  rcases hf : forgetBatch f bs n with _ | _
  · exact (i_StoreForget_no f A c bs n w h hn hf).mono fun _ _ => res0 hf
  · exact (i_StoreForget_yes f A c bs n w h hn hf).mono fun _ _ => res1 hf
theorem ks_len (f : Int) (bs : List VBatch) (n : Int) : (ksOf f bs n).length ≤ bs.length := by
  unfold ksOf; split
  · exact keptTo_len n bs bs.length
  · simp
theorem undrew {B : Nat} {w w' : World} (h : Below B w.drew w') : Below B w w' := ⟨h.os, h.tape, h.output, h.size, h.block⟩
theorem Box.ne_type {w : World} {g F : Nat} {t t' : TypeId} {vs vs' : Array Value} (h : Box w g t vs) (k : Box w F t' vs') (hne : t ≠ t') : g ≠ F := by
  rintro rfl
  have := h.symm.trans k
  simp at this
  exact hne this.2
set_option maxHeartbeats 2000000 in
theorem mark_any (fl : Int) (A : Option Addr) (c n : Nat) (k : Int) (w : World) (h : WrS w A (n * 4)) (hn : n ≤ 1048576) (h0 : 0 ≤ k) (h1 : k ≤ 1000000000000) :
    Calls Try.prog 33 #[.agg #[.int .i64 fl, .slice A n c], .int .i64 k] w (fun e w' => ∃ wa, Below w.heap.size w wa ∧ Marked wa A (n * 4) k e w') := by
  have H := Lib.hid (h.carry (allocB w (.cells #[.int .i64 fl, .slice A n c] 25)))
  clear h
  go_enter Try.func33, Try.ntmps33
  go_wp2_with fail
  refine (l_markBatchS _ _ _ _ _ H.out hn h0 h1).mono ?_
  rintro e w1 ⟨rfl, hm⟩
  have HM := Lib.hid hm
  clear hm
  go_wp2_with fail
  go_ret
  exact ⟨_, allocB w _, rfl, HM.out⟩
set_option maxHeartbeats 2000000 in
theorem held_any (fl : Int) (A : Option Addr) (c n : Nat) (k : Int) (w : World) (h : HeldS w A (n * 4) k) (hn : n ≤ 1048576) (h0 : 0 ≤ k) (h1 : k ≤ 1000000000000) :
    Calls Try.prog 34 #[.agg #[.int .i64 fl, .slice A n c], .int .i64 k] w (fun e w' => e = .returned (.int .i64 (k + (n * 4 : Nat))) ∧ Below w.heap.size w w') := by
  have H := Lib.hid (h.carry (allocB w (.cells #[.int .i64 fl, .slice A n c] 25)))
  clear h
  go_enter Try.func34, Try.ntmps34
  go_wp2_with fail
  refine (l_heldBatchS _ _ _ _ _ H.out hn h0 h1).mono ?_
  rintro e w' ⟨rfl, rfl⟩
  go_wp2_with fail
  go_ret
  exact ⟨rfl, allocB w _⟩
set_option maxHeartbeats 16000000 in
theorem walk1 (f : Int) (A : Option Addr) (c : Nat) (bs : List VBatch) (n : Int) (w : World) (hp : LstBatch w w.heap.size A bs) (hpl : bs.length ≤ 9223372036854775807) :
    Calls Try.prog 10 #[.agg #[.int .i64 f, .slice A bs.length c], .int .i64 n] w fun e w' => e = .returned (.bool true) ∧ Below w.heap.size w w' := by
  have HP0 := Lib.hid hp
  clear hp
  have BB := Lib.hid (allocB w (.cells #[.int .i64 f, .slice A bs.length c] 37))
  have B_x := Lib.hid (Box.new w #[.int .i64 f, .slice A bs.length c] 37)
  by_cases hs : (1048576 : Int) < bs.length
  · go_enter Try.func10, Try.ntmps10
    go_wp2_with fail
    refine (szStore_any _ _ _ _ _ _ (by omega) (by omega) hpl).mono ?_
    rw [szL_neg (by omega)]
    rintro e w2 ⟨rfl, b2⟩
    replace BB := Lib.hid (next BB.out b2)
    clear b2
    go_wp2_with fail
    go_ret
    exact ⟨rfl, BB.out⟩
  have hm : bs.length ≤ 1048576 := by omega
  have hkl : (ksOf f bs n).length ≤ 1048576 := Nat.le_trans (ks_len f bs n) hm
  have hvb : (forgetBatch f bs n != forgetBatch f bs n) = false := by simp
  go_enter Try.func10, Try.ntmps10
  go_wp2_with fail
  refine (szStore_any _ _ _ _ _ _ (by omega) (by omega) hpl).mono ?_
  rw [szL_pos (by omega)]
  rintro e w2 ⟨rfl, b2⟩
  replace B_x := Lib.hid (B_x.out.carry b2)
  replace BB := Lib.hid (next BB.out b2)
  clear b2
  have c_x0 := B_x.out.cell (j := 0) (u := .int .i64 f) rfl
  have c_x1 := B_x.out.cell (j := 1) (u := .slice A bs.length c) rfl
  go_wp2_with fail
  refine (toStore_any _ A c bs _ ((HP0.out.below BB.out).more BB.out.size) hm).mono ?_
  rintro e w3 ⟨g3, a3, rfl, r3, s3, l3, b3⟩
  clear c_x0 c_x1
  replace B_x := Lib.hid (B_x.out.carry b3)
  replace BB := Lib.hid (next BB.out b3)
  have X3 := Lib.hid (LstBatch.of_blk r3 s3 r3.lt)
  clear r3 s3 b3 l3
  go_wp2_with fail
  refine (s_any f _ _ bs n _ X3.out hm).mono ?_
  rintro e w4 ⟨Aw, cw, rfl, u4, _, b4⟩
  replace B_x := Lib.hid (B_x.out.carry b4)
  replace BB := Lib.hid (next BB.out b4)
  have hw4 := BB.out.size
  have W0 := Lib.hid u4.lst
  clear u4 b4 X3
  have ba := allocB w4 (.cells #[.int .i64 (flOf f bs n), .slice Aw (ksOf f bs n).length cw] 25)
  replace B_x := Lib.hid (B_x.out.carry ba)
  replace BB := Lib.hid (next BB.out ba)
  replace W0 := Lib.hid (W0.out.below ba)
  have hw0 : w4.heap.size ≤ (w4.alloc (.cells #[.int .i64 (flOf f bs n), .slice Aw (ksOf f bs n).length cw] 25)).heap.size := ba.size
  have B_u := Lib.hid (Box.new w4 #[.int .i64 (flOf f bs n), .slice Aw (ksOf f bs n).length cw] 25)
  clear ba
  have c_x0 := B_x.out.cell (j := 0) (u := .int .i64 f) rfl
  have c_x1 := B_x.out.cell (j := 1) (u := .slice A bs.length c) rfl
  go_wp2_with fail
  refine (toStore_any _ A c bs _ ((HP0.out.below BB.out).more BB.out.size) hm).mono ?_
  rintro e w5 ⟨g5, a5, rfl, r5, s5, l5, b5⟩
  clear c_x0 c_x1
  replace B_x := Lib.hid (B_x.out.carry b5)
  replace B_u := Lib.hid (B_u.out.carry b5)
  replace W0 := Lib.hid (W0.out.below (b5.mono hw0))
  replace hw0 := Nat.le_trans hw0 b5.size
  replace BB := Lib.hid (next BB.out b5)
  have hu5 := B_u.out.lt
  have hgx4 : w4.heap.size ≤ g5 := Nat.le_trans (by simp) l5
  have B_a := Lib.hid r5
  have S5 := Lib.hid s5
  clear r5 s5 b5 l5
  have ba := allocB w5 (.cells #[.int .i64 f, .slice (some ⟨g5, 0, none⟩) bs.length bs.length] 25)
  replace B_x := Lib.hid (B_x.out.carry ba)
  replace B_u := Lib.hid (B_u.out.carry ba)
  replace B_a := Lib.hid (B_a.out.carry ba)
  replace W0 := Lib.hid (W0.out.below (ba.mono hw0))
  replace hw0 := Nat.le_trans hw0 ba.size
  replace BB := Lib.hid (next BB.out ba)
  have B_q := Lib.hid (Box.new w5 #[.int .i64 f, .slice (some ⟨g5, 0, none⟩) bs.length bs.length] 25)
  clear ba
  go_wp2_with fail
  refine (i_any f _ _ bs n _ (LstBatch.of_blk B_a.out S5.out B_a.out.lt) hm).mono ?_
  rintro e w6 ⟨Ag, cg, rfl, u6, r6, b6⟩
  have hgL := B_a.out.lt
  replace B_x := Lib.hid (B_x.out.carry b6)
  replace B_u := Lib.hid (B_u.out.carry b6)
  replace B_a := Lib.hid (B_a.out.carry b6)
  replace B_q := Lib.hid (B_q.out.carry b6)
  replace W0 := Lib.hid (W0.out.below (b6.mono hw0))
  replace hw0 := Nat.le_trans hw0 b6.size
  replace BB := Lib.hid (next BB.out b6)
  have hq5 : w5.heap.size < (w5.alloc (.cells #[.int .i64 f, .slice (some ⟨g5, 0, none⟩) bs.length bs.length] 25)).heap.size := by simp
  have hlim : ∀ b, 0 < (ksOf f bs n).length * 4 → Ag = some ⟨b, 0, none⟩ → w5.heap.size < b ∧ b < w6.heap.size := fun b h0 e => by
    obtain ⟨b2, off, e2, h1, h2, _⟩ := u6 (by intro e3; rw [e3] at h0; simp at h0)
    rw [e] at e2; injection e2 with e2; injection e2 with e2; subst e2; exact ⟨by omega, h2⟩
  have HLIM := Lib.hid hlim
  clear hlim
  have U0 := Lib.hid u6
  have R0 := Lib.hid r6
  clear u6 r6 b6
  have ba := allocB w6 (.cells #[.int .i64 (flOf f bs n), .slice Ag (ksOf f bs n).length cg] 25)
  replace B_x := Lib.hid (B_x.out.carry ba)
  replace B_u := Lib.hid (B_u.out.carry ba)
  replace B_a := Lib.hid (B_a.out.carry ba)
  replace B_q := Lib.hid (B_q.out.carry ba)
  replace W0 := Lib.hid (W0.out.below (ba.mono hw0))
  replace hw0 := Nat.le_trans hw0 ba.size
  replace U0 := Lib.hid (U0.out.carry ba)
  replace R0 := Lib.hid (R0.out.carry ba)
  replace BB := Lib.hid (next BB.out ba)
  have B_v := Lib.hid (Box.new w6 #[.int .i64 (flOf f bs n), .slice Ag (ksOf f bs n).length cg] 25)
  clear ba
  have c_u0 := B_u.out.cell (j := 0) (u := .int .i64 (flOf f bs n)) rfl
  have c_u1 := B_u.out.cell (j := 1) (u := .slice Aw (ksOf f bs n).length cw) rfl
  go_wp2_with fail
  refine (eqStore_same _ _ _ _ _ (ksOf f bs n) _ U0.out.lst (W0.out.more hw0) hkl).mono ?_
  rintro e w7 ⟨rfl, b7⟩
  clear c_u0 c_u1
  replace B_x := Lib.hid (B_x.out.carry b7)
  replace B_u := Lib.hid (B_u.out.carry b7)
  replace B_a := Lib.hid (B_a.out.carry b7)
  replace B_q := Lib.hid (B_q.out.carry b7)
  replace B_v := Lib.hid (B_v.out.carry b7)
  replace W0 := Lib.hid (W0.out.below (b7.mono hw0))
  replace hw0 := Nat.le_trans hw0 b7.size
  replace U0 := Lib.hid (U0.out.carry b7)
  replace R0 := Lib.hid (R0.out.carry b7)
  replace BB := Lib.hid (next BB.out b7)
  clear b7
  go_wp2_with fail
  have hP0 : LstBatch w7.drew w7.drew.heap.size A bs := ((HP0.out.below BB.out).more BB.out.size)
  have hX0 : LstBatch w7.drew w7.drew.heap.size (some ⟨g5, 0, none⟩) bs := LstBatch.of_blk B_a.out S5.out B_a.out.lt
  have hS0 : (w7.drew.cell? ⟨w.heap.size, 0, none⟩ = some (.int .i64 f) ∧ w7.drew.cell? ⟨w.heap.size, 1, none⟩ = some (.slice A bs.length c)) ∧ (w7.drew.cell? ⟨w5.heap.size, 0, none⟩ = some (.int .i64 f) ∧ w7.drew.cell? ⟨w5.heap.size, 1, none⟩ = some (.slice (some ⟨g5, 0, none⟩) bs.length bs.length)) := ⟨⟨B_x.out.cell rfl, B_x.out.cell rfl⟩, ⟨B_q.out.cell rfl, B_q.out.cell rfl⟩⟩
  go_region_held3 (fun W => (W.cell? ⟨w.heap.size, 0, none⟩ = some (.int .i64 f) ∧ W.cell? ⟨w.heap.size, 1, none⟩ = some (.slice A bs.length c)) ∧ (W.cell? ⟨w5.heap.size, 0, none⟩ = some (.int .i64 f) ∧ W.cell? ⟨w5.heap.size, 1, none⟩ = some (.slice (some ⟨g5, 0, none⟩) bs.length bs.length))) (first | assumption | go_keep)
    (first | (go_at_call 21; refine (toStore_any _ A c bs _ hP0 hm).mono ?_; rintro e vt ⟨gt, at_, rfl, rt, st, _, bt⟩; have jt := LstBatch.of_blk rt st rt.lt; have hX1 := hX0.carry bt; have hS1 : (vt.cell? ⟨w.heap.size, 0, none⟩ = some (.int .i64 f) ∧ vt.cell? ⟨w.heap.size, 1, none⟩ = some (.slice A bs.length c)) ∧ (vt.cell? ⟨w5.heap.size, 0, none⟩ = some (.int .i64 f) ∧ vt.cell? ⟨w5.heap.size, 1, none⟩ = some (.slice (some ⟨g5, 0, none⟩) bs.length bs.length)) := ⟨⟨keepc bt hS0.1.1, keepc bt hS0.1.2⟩, ⟨keepc bt hS0.2.1, keepc bt hS0.2.2⟩⟩; have hb1 := Lib.hid bt; clear bt rt st) | (go_at_call 23; refine (eqStore_same _ _ _ _ _ bs _ hX1 jt hm).mono ?_; rintro e ve ⟨rfl, be⟩; have hS2 : (ve.cell? ⟨w.heap.size, 0, none⟩ = some (.int .i64 f) ∧ ve.cell? ⟨w.heap.size, 1, none⟩ = some (.slice A bs.length c)) ∧ (ve.cell? ⟨w5.heap.size, 0, none⟩ = some (.int .i64 f) ∧ ve.cell? ⟨w5.heap.size, 1, none⟩ = some (.slice (some ⟨g5, 0, none⟩) bs.length bs.length)) := ⟨⟨keepc be hS1.1.1, keepc be hS1.1.2⟩, ⟨keepc be hS1.2.1, keepc be hS1.2.2⟩⟩; have hbe := Lib.hid (show Below w7.heap.size w7 ve from undrew (next hb1.out be)); clear be))
  have b8 := hbe.out
  clear hbe hb1 hX1 jt hP0 hX0 hS0 hS1 hS2
  obtain ⟨w8, rfl⟩ : ∃ w8 : World, w8 = ve := ⟨_, rfl⟩
  replace B_x := Lib.hid (B_x.out.carry b8)
  replace B_u := Lib.hid (B_u.out.carry b8)
  replace B_a := Lib.hid (B_a.out.carry b8)
  replace B_q := Lib.hid (B_q.out.carry b8)
  replace B_v := Lib.hid (B_v.out.carry b8)
  replace W0 := Lib.hid (W0.out.below (b8.mono hw0))
  replace hw0 := Nat.le_trans hw0 b8.size
  replace U0 := Lib.hid (U0.out.carry b8)
  replace R0 := Lib.hid (R0.out.carry b8)
  replace BB := Lib.hid (next BB.out b8)
  clear b8
  have c_q0 := B_q.out.cell (j := 0) (u := .int .i64 f) rfl
  have c_q1 := B_q.out.cell (j := 1) (u := .slice (some ⟨g5, 0, none⟩) bs.length bs.length) rfl
  go_wp2_with fail
  refine (mark_any f (some ⟨g5, 0, none⟩) _ bs.length 1 _ (fun _ => ⟨g5, rfl, Wr.of_box B_a.out (by rw [S5.out.1]; omega)⟩) hm (by omega) (by omega)).mono ?_
  rintro e w9 ⟨wa, ba, rfl, hz9, hn9, hm9⟩
  clear c_q0 c_q1
  replace B_x := Lib.hid (B_x.out.carry ba)
  replace B_u := Lib.hid (B_u.out.carry ba)
  replace B_a := Lib.hid (B_a.out.carry ba)
  replace B_q := Lib.hid (B_q.out.carry ba)
  replace B_v := Lib.hid (B_v.out.carry ba)
  replace W0 := Lib.hid (W0.out.below (ba.mono hw0))
  replace hw0 := Nat.le_trans hw0 ba.size
  replace U0 := Lib.hid (U0.out.carry ba)
  replace R0 := Lib.hid (R0.out.carry ba)
  replace BB := Lib.hid (next BB.out ba)
  clear ba
  have hgw : w.heap.size ≤ g5 := Nat.le_trans hw4 hgx4
  have hg9 : wa.grownBy w9 (some g5) := by
      rcases Nat.eq_zero_or_pos (bs.length * 4) with h0 | h0
      · rw [← hn9 h0]; exact gr_refl wa g5
      · exact (hm9 h0 g5 rfl).1
  have ne_x := Box.ne_type B_a.out B_x.out (by decide)
  have ne_u := Box.ne_type B_a.out B_u.out (by decide)
  have ne_q := Box.ne_type B_a.out B_q.out (by decide)
  have ne_v := Box.ne_type B_a.out B_v.out (by decide)
  replace R0 := Lib.hid (show WrS w9 Ag ((ksOf f bs n).length * 4) from fun h0 => by
      obtain ⟨g, e, hW⟩ := R0.out h0
      refine ⟨g, e, hW.grown hg9 ?_⟩
      obtain ⟨b, off, e2, hlow, _⟩ := U0.out (by intro e3; rw [e3] at h0; simp at h0)
      rw [e] at e2; injection e2 with e2; injection e2 with e2; omega)
  replace B_x := Lib.hid (B_x.out.grown hg9 (fun k hk => by injection hk with hk; rw [← hk]; exact ne_x))
  replace B_u := Lib.hid (B_u.out.grown hg9 (fun k hk => by injection hk with hk; rw [← hk]; exact ne_u))
  replace B_q := Lib.hid (B_q.out.grown hg9 (fun k hk => by injection hk with hk; rw [← hk]; exact ne_q))
  replace B_v := Lib.hid (B_v.out.grown hg9 (fun k hk => by injection hk with hk; rw [← hk]; exact ne_v))
  replace W0 := Lib.hid (W0.out.below (gr_to_below hg9 hgx4 hw0))
  replace hw0 := Nat.le_trans hw0 hg9.size
  replace U0 := Lib.hid (U0.out.grown hg9 (by omega))
  replace BB := Lib.hid (BB.out.trans (gr_to_below hg9 hgw BB.out.size))
  clear hg9 hm9 hn9 hz9 B_a S5
  have hk1 : ¬ (1 : Int) + ((bs.length * 4 : Nat) : Int) < 0 := by omega
  have hk2 : decide ((1 : Int) + ((bs.length * 4 : Nat) : Int) < 0) = false := by simp; omega
  have c_v0 := B_v.out.cell (j := 0) (u := .int .i64 (flOf f bs n)) rfl
  have c_v1 := B_v.out.cell (j := 1) (u := .slice Ag (ksOf f bs n).length cg) rfl
  have c_u0 := B_u.out.cell (j := 0) (u := .int .i64 (flOf f bs n)) rfl
  have c_u1 := B_u.out.cell (j := 1) (u := .slice Aw (ksOf f bs n).length cw) rfl
  go_wp2_with fail
  refine (eqStore_same _ _ _ _ _ (ksOf f bs n) _ U0.out.lst (W0.out.more hw0) hkl).mono ?_
  rintro e w10 ⟨rfl, b10⟩
  clear c_v0 c_v1 c_u0 c_u1
  replace B_x := Lib.hid (B_x.out.carry b10)
  replace B_u := Lib.hid (B_u.out.carry b10)
  replace B_q := Lib.hid (B_q.out.carry b10)
  replace B_v := Lib.hid (B_v.out.carry b10)
  replace W0 := Lib.hid (W0.out.below (b10.mono hw0))
  replace hw0 := Nat.le_trans hw0 b10.size
  replace U0 := Lib.hid (U0.out.carry b10)
  replace R0 := Lib.hid (R0.out.carry b10)
  replace BB := Lib.hid (next BB.out b10)
  clear b10
  have c_v0 := B_v.out.cell (j := 0) (u := .int .i64 (flOf f bs n)) rfl
  have c_v1 := B_v.out.cell (j := 1) (u := .slice Ag (ksOf f bs n).length cg) rfl
  go_wp2_with fail
  refine (mark_any _ Ag _ (ksOf f bs n).length 1 _ R0.out hkl (by omega) (by omega)).mono ?_
  rintro e w12 ⟨wb, bb, rfl, hz12, hn12, hm12⟩
  clear c_v0 c_v1
  replace B_x := Lib.hid (B_x.out.carry bb)
  replace B_u := Lib.hid (B_u.out.carry bb)
  replace B_q := Lib.hid (B_q.out.carry bb)
  replace B_v := Lib.hid (B_v.out.carry bb)
  replace W0 := Lib.hid (W0.out.below (bb.mono hw0))
  replace hw0 := Nat.le_trans hw0 bb.size
  replace U0 := Lib.hid (U0.out.carry bb)
  replace R0 := Lib.hid (R0.out.carry bb)
  replace BB := Lib.hid (next BB.out bb)
  clear bb
  have hgg : ∃ gg, wb.grownBy w12 (some gg) ∧ w4.heap.size ≤ gg ∧ gg ≠ w.heap.size ∧ gg ≠ w4.heap.size ∧ gg ≠ w5.heap.size ∧ gg ≠ w6.heap.size ∧ HeldS w12 Ag ((ksOf f bs n).length * 4) 1 := by
    rcases Nat.eq_zero_or_pos ((ksOf f bs n).length * 4) with h0 | h0
    · exact ⟨g5, by rw [← hn12 h0]; exact gr_refl wb g5, hgx4, ne_x, ne_u, ne_q, ne_v, fun hh => absurd hh (by omega)⟩
    · obtain ⟨g, e, hW⟩ := R0.out h0
      obtain ⟨h1, h2⟩ := HLIM.out g h0 e
      obtain ⟨h3, h4⟩ := hm12 h0 g e
      exact ⟨g, h3, by omega, by omega, by omega, by omega, by omega, fun _ => ⟨g, e, h4⟩⟩
  obtain ⟨gg, hg12, hgg4, nf_x, nf_u, nf_q, nf_v, hheld⟩ := hgg
  have hgw2 : w.heap.size ≤ gg := Nat.le_trans hw4 hgg4
  replace hgw := hgw2
  replace B_x := Lib.hid (B_x.out.grown hg12 (fun k hk => by injection hk with hk; rw [← hk]; exact nf_x))
  replace B_u := Lib.hid (B_u.out.grown hg12 (fun k hk => by injection hk with hk; rw [← hk]; exact nf_u))
  replace B_q := Lib.hid (B_q.out.grown hg12 (fun k hk => by injection hk with hk; rw [← hk]; exact nf_q))
  replace B_v := Lib.hid (B_v.out.grown hg12 (fun k hk => by injection hk with hk; rw [← hk]; exact nf_v))
  replace W0 := Lib.hid (W0.out.below (gr_to_below hg12 hgg4 hw0))
  replace hw0 := Nat.le_trans hw0 hg12.size
  replace BB := Lib.hid (BB.out.trans (gr_to_below hg12 hgw BB.out.size))
  have H0 := Lib.hid hheld
  clear hg12 hm12 hn12 hz12 hheld U0 R0 HLIM
  have hj1 : ¬ (1 : Int) + (((ksOf f bs n).length * 4 : Nat) : Int) < 0 := by omega
  have hj2 : ((1 : Int) + (((ksOf f bs n).length * 4 : Nat) : Int) != (1 : Int) + (((ksOf f bs n).length * 4 : Nat) : Int)) = false := by simp
  have c_v0 := B_v.out.cell (j := 0) (u := .int .i64 (flOf f bs n)) rfl
  have c_v1 := B_v.out.cell (j := 1) (u := .slice Ag (ksOf f bs n).length cg) rfl
  go_wp2_with fail
  refine (held_any _ Ag _ (ksOf f bs n).length 1 _ H0.out hkl (by omega) (by omega)).mono ?_
  rintro e w13 ⟨rfl, b13⟩
  clear c_v0 c_v1
  replace B_x := Lib.hid (B_x.out.carry b13)
  replace B_u := Lib.hid (B_u.out.carry b13)
  replace B_q := Lib.hid (B_q.out.carry b13)
  replace B_v := Lib.hid (B_v.out.carry b13)
  replace W0 := Lib.hid (W0.out.below (b13.mono hw0))
  replace hw0 := Nat.le_trans hw0 b13.size
  replace H0 := Lib.hid (H0.out.carry b13)
  replace BB := Lib.hid (next BB.out b13)
  clear b13
  have c_x0 := B_x.out.cell (j := 0) (u := .int .i64 f) rfl
  have c_x1 := B_x.out.cell (j := 1) (u := .slice A bs.length c) rfl
  go_wp2_with fail
  refine (toStore_any _ A c bs _ ((HP0.out.below BB.out).more BB.out.size) hm).mono ?_
  rintro e w14 ⟨g14, a14, rfl, r14, s14, l14, b14⟩
  clear c_x0 c_x1
  replace B_x := Lib.hid (B_x.out.carry b14)
  replace B_u := Lib.hid (B_u.out.carry b14)
  replace B_q := Lib.hid (B_q.out.carry b14)
  replace B_v := Lib.hid (B_v.out.carry b14)
  replace W0 := Lib.hid (W0.out.below (b14.mono hw0))
  replace hw0 := Nat.le_trans hw0 b14.size
  replace H0 := Lib.hid (H0.out.carry b14)
  replace BB := Lib.hid (next BB.out b14)
  have X14 := Lib.hid (LstBatch.of_blk r14 s14 r14.lt)
  clear r14 s14 b14 l14
  go_wp2_with fail
  refine (i_any f _ _ bs n _ X14.out hm).mono ?_
  rintro e w15 ⟨Ah, ch, rfl, u15, _, b15⟩
  replace B_x := Lib.hid (B_x.out.carry b15)
  replace B_u := Lib.hid (B_u.out.carry b15)
  replace B_q := Lib.hid (B_q.out.carry b15)
  replace B_v := Lib.hid (B_v.out.carry b15)
  replace W0 := Lib.hid (W0.out.below (b15.mono hw0))
  replace hw0 := Nat.le_trans hw0 b15.size
  replace H0 := Lib.hid (H0.out.carry b15)
  replace BB := Lib.hid (next BB.out b15)
  have U1 := Lib.hid u15.lst
  clear u15 b15 X14
  have ba := allocB w15 (.cells #[.int .i64 (flOf f bs n), .slice Ah (ksOf f bs n).length ch] 25)
  replace B_x := Lib.hid (B_x.out.carry ba)
  replace B_u := Lib.hid (B_u.out.carry ba)
  replace B_q := Lib.hid (B_q.out.carry ba)
  replace B_v := Lib.hid (B_v.out.carry ba)
  replace W0 := Lib.hid (W0.out.below (ba.mono hw0))
  replace hw0 := Nat.le_trans hw0 ba.size
  replace H0 := Lib.hid (H0.out.carry ba)
  replace U1 := Lib.hid (U1.out.carry ba)
  replace BB := Lib.hid (next BB.out ba)
  clear ba
  have c_u0 := B_u.out.cell (j := 0) (u := .int .i64 (flOf f bs n)) rfl
  have c_u1 := B_u.out.cell (j := 1) (u := .slice Aw (ksOf f bs n).length cw) rfl
  go_wp2_with fail
  refine (eqStore_same _ _ _ _ _ (ksOf f bs n) _ U1.out (W0.out.more hw0) hkl).mono ?_
  rintro e w16 ⟨rfl, b16⟩
  clear c_u0 c_u1
  replace B_x := Lib.hid (B_x.out.carry b16)
  replace B_u := Lib.hid (B_u.out.carry b16)
  replace B_q := Lib.hid (B_q.out.carry b16)
  replace B_v := Lib.hid (B_v.out.carry b16)
  replace W0 := Lib.hid (W0.out.below (b16.mono hw0))
  replace hw0 := Nat.le_trans hw0 b16.size
  replace H0 := Lib.hid (H0.out.carry b16)
  replace U1 := Lib.hid (U1.out.carry b16)
  replace BB := Lib.hid (next BB.out b16)
  clear b16
  have c_v0 := B_v.out.cell (j := 0) (u := .int .i64 (flOf f bs n)) rfl
  have c_v1 := B_v.out.cell (j := 1) (u := .slice Ag (ksOf f bs n).length cg) rfl
  go_wp2_with fail
  refine (held_any _ Ag _ (ksOf f bs n).length 1 _ H0.out hkl (by omega) (by omega)).mono ?_
  rintro e w17 ⟨rfl, b17⟩
  clear c_v0 c_v1
  replace B_x := Lib.hid (B_x.out.carry b17)
  replace B_u := Lib.hid (B_u.out.carry b17)
  replace B_q := Lib.hid (B_q.out.carry b17)
  replace B_v := Lib.hid (B_v.out.carry b17)
  replace W0 := Lib.hid (W0.out.below (b17.mono hw0))
  replace hw0 := Nat.le_trans hw0 b17.size
  replace H0 := Lib.hid (H0.out.carry b17)
  replace U1 := Lib.hid (U1.out.carry b17)
  replace BB := Lib.hid (next BB.out b17)
  clear b17
  go_wp2_with fail
  go_ret
  exact ⟨rfl, BB.out⟩
theorem walk (x0 : XStore) (n : Int) (w : World) (hx : x0.Good w) (hn : (Lit.int .i64 n).wf = true) :
    Calls Try.prog 10 #[x0.val, .int .i64 n] w fun e w' => e = .returned (.bool true) ∧ Below w.heap.size w w' :=
  walk1 x0.f x0.A x0.c x0.bs n w hx.1 hx.2

set_option maxRecDepth 100000 in
theorem lifted (os : Os) (started : os.Started) (H : Type) (enc : TypeId × Value → H) :
    ReturnsInHanded {} Try.checked os 10 .any (Rows.fnExactStoreForgetSpec.pre6 enc Try.prog Try.f10 Rows.fnExactStoreForgetRow.domain false) (Rows.fnExactStoreForgetSpec.post enc Try.prog Try.f10 false true false false) := by
  refine returnsInHanded_of_change (C := Try.checked) own started (by kernel_rfl) Try.func10
    (ChangeSpec.witness6 (enc := enc) (C := Try.checked) false ⟨#[], #[.agg #[.int .i64 0, .slice none 0 0], .int .i64 0], []⟩ 8 (by kernel_rfl) (by kernel_rfl) (by kernel_rfl) (by kernel_rfl)) ?_
  intro W base args ds gs before hval0 hW hcnd _
  have hval : ∀ (j : Nat) t v, Try.f10.params[j]? = some t → args[j]? = some v → Value.okWide Try.prog W .any base t v := hval0
  have hW' := hW
  obtain ⟨p, q, hA0, hV, rfl, hfz, hnd⟩ := hW
  have hA : DataW.TrodAll enc Try.prog W 0 (fun _ => true) true Try.f10.params.toList args.toList ds p := hA0
  rw [Try.params10] at hA hval
  obtain ⟨v0, vs0, d0, ds0, p0, q0, hargs, rfl, rfl, h0, r0⟩ := trodAll_cons hA
  obtain ⟨v1, vs1, d1, ds1, p1, q1, rfl, rfl, rfl, h1, r1⟩ := trodAll_cons r0
  obtain ⟨rfl, rfl, rfl⟩ := trodAll_nil r1
  obtain rfl : args = #[v0, v1] := by cases args; simp_all
  obtain ⟨rfl, rfl⟩ := trodVars_none hV
  have k0 := h0
  have lt0 : ∀ x ∈ p0, x.block < W.heap.size := by obtain ⟨m, hm⟩ := k0; exact DataW.trod_lt m _ _ _ hm
  obtain ⟨x0, rfl, w0⟩ := open_store (hval 0 _ v0 rfl rfl) h0
  obtain ⟨a1, rfl, rfl, rfl, w1⟩ := open_int Try.underlying3 (hval 1 3 v1 rfl rfl) h1
  clear hA0 hval0
  refine (walk x0 a1 W w0 w1).mono fun e W' ⟨he, bel⟩ => ?_
  subst he
  exact ⟨_, rfl, _, _, _, [], _, [], hW', trodAll_mk1 (shut_bool Try.underlying4 _), (trodAll_cons_mk (Below.trod laidOut (by kernel_rfl) (of_decide_eq_true (by kernel_rfl)) k0 bel lt0) (trodAll_cons_mk (shut_int Try.underlying3 w1) trodAll_mk0)), rfl, bel.frame _, fun h => by cases h⟩

theorem over : Rows.fnExactStoreForgetRow.holds Try.pinned (OpenSpec.ofChange Rows.fnExactStoreForgetSpec) :=
  OpenClaim.holds_of_wide 10 Try.f10 rfl rfl rfl rfl rfl rfl rfl ⟨rfl, rfl, rfl, rfl, rfl⟩ rfl rfl rfl rfl rfl (by kernel_rfl) Try.func10 (by kernel_rfl)
    (of_decide_eq_true (by kernel_rfl)) (by unfold Func.isWrapper; first | (rw [if_pos (by decide +kernel)]; kernel_rfl) | (rw [if_neg (by decide +kernel)]; exact ⟨rfl, rfl⟩))
    (fun os started H enc _ => lifted os started H enc)

/-- The given statement. -/
theorem proved : Rows.FnExactStoreForgetSaid := over
#print axioms proved
end Go.Proofs.Ytmfbhddnlgbcmaa.exStoreForget
