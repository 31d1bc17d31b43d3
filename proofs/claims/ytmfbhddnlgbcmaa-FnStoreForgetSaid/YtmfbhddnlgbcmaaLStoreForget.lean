/- The law FnStoreForget holds for every input: old batches are forgotten. -/
import Derived.Test.YtmfbhddnlgbcmaaDrawS
import Derived.Test.YtmfbhddnlgbcmaaSameSt
import Derived.Test.YtmfbhddnlgbcmaaArgs
import Derived.Test.YtmfbhddnlgbcmaaReg
import Derived.Deep.RegionHeld3
namespace Go.Proofs.Ytmfbhddnlgbcmaa.lawStoreForget
open Go.ChangeShapes Go.WideShapes Go.ChangeAt Go.RowKit
set_option linter.unusedVariables false
set_option linter.unusedSimpArgs false

/-- All that lay in w lies as it did. -/
def InW (w W : World) : Prop := Below w.heap.size w W
set_option maxHeartbeats 8000000 in
set_option maxRecDepth 100000 in
theorem walk (a0 : Option Addr) (c0 : Nat) (z0 : List Int) (w : World) (h0 : Bytes w w.heap.size a0 z0 ∧ z0.length ≤ c0) :
    Calls Try.prog 11 #[.slice a0 z0.length c0] w fun e w' => e = .returned (.bool true) ∧ Below w.heap.size w w' := by
  by_cases hbig0 : (1048576 : Int) < z0.length
  · go_enter Try.func11, Try.ntmps11
    go_wp2_with fail
    go_ret
    exact ⟨rfl, Below.refl _ _⟩
  have hn0 : z0.length ≤ 1048576 := by omega
  have H0 := Lib.hid h0
  clear h0
  go_enter Try.func11, Try.ntmps11
  go_wp2_with fail
  refine (s_DrawStoreForget _ _ _ _ H0.out.1 H0.out.2 hn0).mono ?_
  rintro e w1 ⟨f, g, c, bs, n, rfl, hl, ho, b1⟩
  have hcap := ho.up.2.2
  have LX := Lib.hid ho.up.2.1.lst
  have BB := Lib.hid b1
  clear ho b1
  have ba := allocB w1 (.cells #[.int .i64 f, .slice (some ⟨g, 0, none⟩) bs.length c] 25)
  replace LX := Lib.hid (LX.out.carry ba)
  replace BB := Lib.hid (next BB.out ba)
  clear ba
  rcases hf : forgetBatch f bs n with _ | _
  · go_wp2_with fail
    refine (i_StoreForget_no f (some ⟨g, 0, none⟩) c bs n _ LX.out (by omega) hf).mono ?_
    rintro e w2 ⟨rfl, b2⟩
    replace LX := Lib.hid (LX.out.carry b2)
    replace BB := Lib.hid (next BB.out b2)
    have x0 := keepc (b := w1.heap.size) (off := 0) (v := .int .i64 f) b2 (by simp)
    have x1 := keepc (b := w1.heap.size) (off := 1) (v := .slice (some ⟨g, 0, none⟩) bs.length c) b2 (by simp)
    clear b2
    have ba := allocB w2 (.cells #[.int .i64 0, .slice none 0 0] 25)
    replace LX := Lib.hid (LX.out.carry ba)
    replace BB := Lib.hid (next BB.out ba)
    replace x0 := keepc ba x0
    replace x1 := keepc ba x1
    clear ba
    go_wp2_with fail
    refine (s_StoreForget_no f (some ⟨g, 0, none⟩) c bs n _ LX.out (by omega) hf).mono ?_
    rintro e w3 ⟨rfl, b3⟩
    replace LX := Lib.hid (LX.out.carry b3)
    replace BB := Lib.hid (next BB.out b3)
    replace x0 := keepc b3 x0
    replace x1 := keepc b3 x1
    have o0 := keepc (b := w2.heap.size) (off := 0) (v := .int .i64 0) b3 (by simp)
    have o1 := keepc (b := w2.heap.size) (off := 1) (v := .slice none 0 0) b3 (by simp)
    clear b3
    have ba := allocB w3 (.cells #[.int .i64 0, .slice none 0 0] 25)
    replace LX := Lib.hid (LX.out.carry ba)
    replace BB := Lib.hid (next BB.out ba)
    replace x0 := keepc ba x0
    replace x1 := keepc ba x1
    replace o0 := keepc ba o0
    replace o1 := keepc ba o1
    clear ba
    go_wp2_with fail
    refine (sameStore_same 0 none none 0 0 [] _ (fun h => absurd rfl h) (fun h => absurd rfl h) (by simp)).mono ?_
    rintro e w4 ⟨rfl, b4⟩
    replace LX := Lib.hid (LX.out.carry b4)
    replace BB := Lib.hid (next BB.out b4)
    replace x0 := keepc b4 x0
    replace x1 := keepc b4 x1
    replace o0 := keepc b4 o0
    replace o1 := keepc b4 o1
    have t0 := keepc (b := w3.heap.size) (off := 0) (v := .int .i64 0) b4 (by simp)
    have t1 := keepc (b := w3.heap.size) (off := 1) (v := .slice none 0 0) b4 (by simp)
    clear b4
    go_wp2_with fail
    refine (sameStore_same 0 none none 0 0 [] _ (fun h => absurd rfl h) (fun h => absurd rfl h) (by simp)).mono ?_
    rintro e w5 ⟨rfl, b5⟩
    replace LX := Lib.hid (LX.out.carry b5)
    replace BB := Lib.hid (next BB.out b5)
    replace x0 := keepc b5 x0
    replace x1 := keepc b5 x1
    replace o0 := keepc b5 o0
    replace o1 := keepc b5 o1
    replace t0 := keepc b5 t0
    replace t1 := keepc b5 t1
    clear b5
    go_wp2_with fail
    go_ret
    exact ⟨rfl, BB.out⟩
  obtain ⟨hv, hfn, hn31⟩ := forget_ok hf
  have HF := Lib.hid hf
  have HV := Lib.hid hv
  have hf0 : 0 ≤ f := (store_good hv).1.1
  have hkl : (kept n bs).length ≤ bs.length := keptTo_len n bs bs.length
  clear hf hv
  go_wp2_with fail
  refine (i_StoreForget_yes f (some ⟨g, 0, none⟩) c bs n _ LX.out (by omega) HF.out).mono ?_
  rintro e w2 ⟨g2, c2, rfl, o2, b2⟩
  replace LX := Lib.hid (LX.out.carry b2)
  replace BB := Lib.hid (next BB.out b2)
  have x0 := keepc (b := w1.heap.size) (off := 0) (v := .int .i64 f) b2 (by simp)
  have x1 := keepc (b := w1.heap.size) (off := 1) (v := .slice (some ⟨g, 0, none⟩) bs.length c) b2 (by simp)
  clear b2
  have Lo := Lib.hid o2.up.2.1.lst
  clear o2
  have ba := allocB w2 (.cells #[.int .i64 n, .slice (some ⟨g2, 0, none⟩) (kept n bs).length c2] 25)
  replace LX := Lib.hid (LX.out.carry ba)
  replace Lo := Lib.hid (Lo.out.carry ba)
  replace BB := Lib.hid (next BB.out ba)
  replace x0 := keepc ba x0
  replace x1 := keepc ba x1
  clear ba
  go_wp2_with fail
  refine (s_StoreForget_yes f (some ⟨g, 0, none⟩) c bs n _ LX.out (by omega) HF.out).mono ?_
  rintro e w3 ⟨g3, c3, rfl, o3, b3⟩
  replace LX := Lib.hid (LX.out.carry b3)
  replace Lo := Lib.hid (Lo.out.carry b3)
  replace BB := Lib.hid (next BB.out b3)
  replace x0 := keepc b3 x0
  replace x1 := keepc b3 x1
  have o0 := keepc (b := w2.heap.size) (off := 0) (v := .int .i64 n) b3 (by simp)
  have o1 := keepc (b := w2.heap.size) (off := 1) (v := .slice (some ⟨g2, 0, none⟩) (kept n bs).length c2) b3 (by simp)
  clear b3
  have Lt := Lib.hid o3.up.2.1.lst
  clear o3
  have ba := allocB w3 (.cells #[.int .i64 n, .slice (some ⟨g3, 0, none⟩) (kept n bs).length c3] 25)
  replace LX := Lib.hid (LX.out.carry ba)
  replace Lo := Lib.hid (Lo.out.carry ba)
  replace Lt := Lib.hid (Lt.out.carry ba)
  replace BB := Lib.hid (next BB.out ba)
  replace x0 := keepc ba x0
  replace x1 := keepc ba x1
  replace o0 := keepc ba o0
  replace o1 := keepc ba o1
  clear ba
  go_wp2_with fail
  refine (sameStore_same n (some ⟨g2, 0, none⟩) (some ⟨g3, 0, none⟩) c2 c3 (kept n bs) _ Lo.out Lt.out (by omega)).mono ?_
  rintro e w4 ⟨rfl, b4⟩
  replace LX := Lib.hid (LX.out.carry b4)
  replace Lo := Lib.hid (Lo.out.carry b4)
  replace Lt := Lib.hid (Lt.out.carry b4)
  replace BB := Lib.hid (next BB.out b4)
  replace x0 := keepc b4 x0
  replace x1 := keepc b4 x1
  replace o0 := keepc b4 o0
  replace o1 := keepc b4 o1
  have t0 := keepc (b := w3.heap.size) (off := 0) (v := .int .i64 n) b4 (by simp)
  have t1 := keepc (b := w3.heap.size) (off := 1) (v := .slice (some ⟨g3, 0, none⟩) (kept n bs).length c3) b4 (by simp)
  clear b4
  go_wp2_with fail
  go_loopw [9] (fun q wr => ∃ k : Nat, k ≤ bs.length ∧ q = .int .i64 k ∧ LstBatch wr wr.heap.size (some ⟨g, 0, none⟩) bs ∧ LstBatch wr wr.heap.size (some ⟨g2, 0, none⟩) (kept n bs) ∧ Below w.heap.size w wr ∧ wr.cell? ⟨w2.heap.size, 0, none⟩ = some (.int .i64 n) ∧ wr.cell? ⟨w2.heap.size, 1, none⟩ = some (.slice (some ⟨g2, 0, none⟩) (kept n bs).length c2) ∧ wr.cell? ⟨w1.heap.size, 1, none⟩ = some (.slice (some ⟨g, 0, none⟩) bs.length c) ∧ wr.cell? ⟨w1.heap.size, 0, none⟩ = some (.int .i64 f)) (fun q _ => bs.length - (intOf q).toNat)
  case atStart => exact ⟨0, Nat.zero_le _, rfl, LX.out, Lo.out, BB.out, o0, o1, x1, x0⟩
  case round =>
    clear x0 x1 o0 o1 t0 t1
    clear LX Lo BB Lt
    obtain ⟨k, hk, rfl, lx, lo, hb, o0, o1, x1, x0⟩ := hrel
    have LX := Lib.hid lx
    have Lo := Lib.hid lo
    have BB := Lib.hid hb
    clear hb
    by_cases hlt : k < bs.length
    · have hd : decide (k < bs.length) = true := by simpa using hlt
      obtain ⟨e0, e2⟩ := lst_cells lx hlt
      have hq := get_kept HV.out hfn hn31 hlt
      obtain ⟨⟨⟨d2, a2, r2, s2⟩, ok⟩, hg⟩ : ∃ q, getOf n (kept n bs) (nthBatch bs k).d = q := ⟨_, rfl⟩
      rw [hg] at hq
      have hq : ok = decide (n ≤ (nthBatch bs k).r) := hq
      have HG := Lib.hid hg
      have hi0 : (0 : Int) ≤ (k : Int) := by omega
      have hi1 : (k : Int) < (bs.length : Int) := by omega
      clear lx lo hg
      generalize hnd : (nthBatch bs k).d = nd at *
      generalize hnr : (nthBatch bs k).r = nr at *
      clear hnd hnr
      by_cases hnr : n ≤ nr
      · have hnd : decide (n ≤ nr) = true := by simpa using hnr
        rw [hnd] at hq
        subst hq
        have CG : ∀ W : World, LstBatch W W.heap.size (some ⟨g2, 0, none⟩) (kept n bs) → Calls Try.prog 26 #[.agg #[.int .i64 n, .slice (some ⟨g2, 0, none⟩) (kept n bs).length c2], .int .i64 nd] W fun e w' => e = .returned (.tuple #[.agg #[.int .i64 d2, .int .i64 a2, .int .i64 r2, .int .i64 s2], .bool true]) ∧ Below W.heap.size W w' := fun W h => by
          have h2 := i_StoreGet n (some ⟨g2, 0, none⟩) c2 (kept n bs) nd W h (by omega)
          rw [HG.out] at h2; exact h2
        have CH := Lib.hid CG
        clear CG HG
        go_wp2_with fail
        have hS : InW wr ({ wr with drawn := wr.drawn + 1 } : World) := (Below.refl _ _).drew
        refine wp_region_held (S := InW wr) (by kernel_rfl) ?_
        generalize ({ wr with drawn := wr.drawn + 1 } : World) = v0 at hS ⊢
        refine wpAnyH_take (i := 0) (v := ?v1) rfl (by kernel_rfl) (by kernel_rfl) (by kernel_rfl) (fun _ _ _ h => h) (Or.inl ⟨by rfl, ?hy1⟩) hS ?rest1
        case hy1 =>
          intro W hW
          have po0 := keepc hW o0
          have po1 := keepc hW o1
          go_simp
          try with_reducible rfl
        try simp only [Act.put, List.setIfInBounds_toArray, List.set_cons_zero, List.set_cons_succ]
        refine wpAnyH_take (i := 1) (v := ?v2) rfl (by kernel_rfl) (by kernel_rfl) (by kernel_rfl) (fun _ _ _ h => h) (Or.inl ⟨by rfl, ?hy2⟩) hS ?rest2
        case hy2 =>
          intro W hW
          go_simp
          try with_reducible rfl
        try simp only [Act.put, List.setIfInBounds_toArray, List.set_cons_zero, List.set_cons_succ]
        refine wpAnyH_take (i := 2) (v := ?v3) rfl (by kernel_rfl) (by kernel_rfl) (by kernel_rfl) (fun _ _ _ h => h) (Or.inl ⟨by rfl, ?hy3⟩) hS ?rest3
        case hy3 =>
          intro W hW
          have px1 := keepc hW x1
          go_simp
          try with_reducible rfl
        try simp only [Act.put, List.setIfInBounds_toArray, List.set_cons_zero, List.set_cons_succ]
        refine wpAnyH_take (i := 3) (v := ?v4) rfl (by kernel_rfl) (by kernel_rfl) (by kernel_rfl) (fun _ _ _ h => h) (Or.inl ⟨by rfl, ?hy4⟩) hS ?rest4
        case hy4 =>
          intro W hW
          go_simp
          try with_reducible rfl
        try simp only [Act.put, List.setIfInBounds_toArray, List.set_cons_zero, List.set_cons_succ]
        refine wpAnyH_take (i := 4) (v := ?v5) rfl (by kernel_rfl) (by kernel_rfl) (by kernel_rfl) (fun _ _ _ h => h) (Or.inl ⟨by rfl, ?hy5⟩) hS ?rest5
        case hy5 =>
          intro W hW
          go_simp
          try with_reducible rfl
        try simp only [Act.put, List.setIfInBounds_toArray, List.set_cons_zero, List.set_cons_succ]
        refine wpAnyH_take (i := 5) (v := ?v6) rfl (by kernel_rfl) (by kernel_rfl) (by kernel_rfl) (fun _ _ _ h => h) (Or.inl ⟨by rfl, ?hy6⟩) hS ?rest6
        case hy6 =>
          intro W hW
          go_simp
          try with_reducible rfl
        try simp only [Act.put, List.setIfInBounds_toArray, List.set_cons_zero, List.set_cons_succ]
        refine wpAnyH_take (i := 6) (v := ?v7) rfl (by kernel_rfl) (by kernel_rfl) (by kernel_rfl) (fun _ _ _ h => h) (Or.inl ⟨by rfl, ?hy7⟩) hS ?rest7
        case hy7 =>
          intro W hW
          have pe0 := keepc hW e0
          go_simp
          try with_reducible rfl
        try simp only [Act.put, List.setIfInBounds_toArray, List.set_cons_zero, List.set_cons_succ]
        refine wpAnyH_ready (rs := [7, 11]) (by kernel_rfl) (by simp) ?_
        refine AllReadyH.cons rfl (fun K hK => ?_) (AllReadyH.cons rfl (fun K hK => ?_) AllReadyH.nil)
        · go_simp
          refine (CH.out _ (Lo.out.carry hS)).mono ?_
          rintro e v1 ⟨rfl, b1⟩
          have hS1 : InW wr v1 := next hS b1
          clear b1 hS
          dsimp only
          refine hK.out _ _ hS1 (fun _ => ?_)
          clear hK K
          try simp only [Act.put, List.setIfInBounds_toArray, List.set_cons_zero, List.set_cons_succ]
          refine wpAnyH_take (i := 8) (v := ?v8) rfl (by kernel_rfl) (by kernel_rfl) (by kernel_rfl) (fun _ _ _ h => h) (Or.inl ⟨by rfl, ?hy8⟩) hS1 ?rest8
          case hy8 =>
            intro W hW
            go_simp
            try with_reducible rfl
          try simp only [Act.put, List.setIfInBounds_toArray, List.set_cons_zero, List.set_cons_succ]
          refine wpAnyH_take (i := 9) (v := ?v9) rfl (by kernel_rfl) (by kernel_rfl) (by kernel_rfl) (fun _ _ _ h => h) (Or.inl ⟨by rfl, ?hy9⟩) hS1 ?rest9
          case hy9 =>
            intro W hW
            go_simp
            try with_reducible rfl
          try simp only [Act.put, List.setIfInBounds_toArray, List.set_cons_zero, List.set_cons_succ]
          refine wpAnyH_take (i := 10) (v := ?v10) rfl (by kernel_rfl) (by kernel_rfl) (by kernel_rfl) (fun _ _ _ h => h) (Or.inl ⟨by rfl, ?hy10⟩) hS1 ?rest10
          case hy10 =>
            intro W hW
            go_simp
            try with_reducible rfl
          try simp only [Act.put, List.setIfInBounds_toArray, List.set_cons_zero, List.set_cons_succ]
          refine wpAnyH_ready (rs := [11]) (by kernel_rfl) (by simp) ?_
          refine AllReadyH.cons rfl (fun K hK => ?_) AllReadyH.nil
          go_simp
          refine hK.out _ _ (next hS1 (allocB v1 _)) (fun _ => ?_)
          clear hK K
          try simp only [Act.put, List.setIfInBounds_toArray, List.set_cons_zero, List.set_cons_succ]
          refine wpAnyH_ready (rs := [12]) (by kernel_rfl) (by simp) ?_
          refine AllReadyH.cons rfl (fun K hK => ?_) AllReadyH.nil
          go_simp
          have hSf : InW wr (v1.alloc (.cells #[.int .i64 d2, .int .i64 a2, .int .i64 r2, .int .i64 s2] 27)) := next hS1 (allocB v1 _)
          refine hK.out _ _ hSf (fun _ => ?_)
          clear hK K
          try simp only [Act.put, List.setIfInBounds_toArray, List.set_cons_zero, List.set_cons_succ]
          refine wpAnyH_take (i := 13) (v := ?v11) rfl (by kernel_rfl) (by kernel_rfl) (by kernel_rfl) (fun _ _ _ h => h) (Or.inl ⟨by rfl, ?hy11⟩) hSf ?rest11
          case hy11 =>
            intro W hW
            go_simp
            try with_reducible rfl
          try simp only [Act.put, List.setIfInBounds_toArray, List.set_cons_zero, List.set_cons_succ]
          refine wpAnyH_done (by kernel_rfl) ?_ _
          have HF := Lib.hid hSf
          have q1 := keepc hSf x1
          have q2 := keepc hSf e2
          have q0 := keepc hSf x0
          have r0 := keepc hSf o0
          have r1 := keepc hSf o1
          clear hSf o0 o1 x0 x1 e0 e2
          go_wp2_with fail
          go_roundw
          case rel => exact ⟨k + 1, by omega, by go_num, LX.out.carry HF.out, Lo.out.carry HF.out, next BB.out HF.out, r0, r1, q1, q0⟩
          case measure => simp [intOf]; omega
        · go_simp
          have hS1 : InW wr (v0.alloc (.cells #[.int .i64 0, .int .i64 0, .int .i64 0, .int .i64 0] 27)) := next hS (allocB v0 _)
          refine hK.out _ _ hS1 (fun _ => ?_)
          clear hK K
          have zb : Box (v0.alloc (.cells #[.int .i64 0, .int .i64 0, .int .i64 0, .int .i64 0] 27)) v0.heap.size 27 #[.int .i64 0, .int .i64 0, .int .i64 0, .int .i64 0] := Box.new v0 _ _
          have hz := hS.size
          generalize v0.alloc (.cells #[.int .i64 0, .int .i64 0, .int .i64 0, .int .i64 0] 27) = v2 at hS1 zb ⊢
          refine wpAnyH_ready (rs := [7]) (by kernel_rfl) (by simp) ?_
          refine AllReadyH.cons rfl (fun K hK => ?_) AllReadyH.nil
          go_simp
          refine (CH.out _ (Lo.out.carry hS1)).mono ?_
          rintro e v1 ⟨rfl, b1⟩
          have hS2 : InW wr v1 := next hS1 b1
          have zb1 := zb.carry b1
          clear b1 hS hS1 zb
          dsimp only
          refine hK.out _ _ hS2 (fun _ => ?_)
          clear hK K
          try simp only [Act.put, List.setIfInBounds_toArray, List.set_cons_zero, List.set_cons_succ]
          refine wpAnyH_take (i := 8) (v := ?v12) rfl (by kernel_rfl) (by kernel_rfl) (by kernel_rfl) (fun _ _ _ h => h) (Or.inl ⟨by rfl, ?hy12⟩) hS2 ?rest12
          case hy12 =>
            intro W hW
            go_simp
            try with_reducible rfl
          try simp only [Act.put, List.setIfInBounds_toArray, List.set_cons_zero, List.set_cons_succ]
          refine wpAnyH_take (i := 9) (v := ?v13) rfl (by kernel_rfl) (by kernel_rfl) (by kernel_rfl) (fun _ _ _ h => h) (Or.inl ⟨by rfl, ?hy13⟩) hS2 ?rest13
          case hy13 =>
            intro W hW
            go_simp
            try with_reducible rfl
          try simp only [Act.put, List.setIfInBounds_toArray, List.set_cons_zero, List.set_cons_succ]
          refine wpAnyH_take (i := 10) (v := ?v14) rfl (by kernel_rfl) (by kernel_rfl) (by kernel_rfl) (fun _ _ _ h => h) (Or.inl ⟨by rfl, ?hy14⟩) hS2 ?rest14
          case hy14 =>
            intro W hW
            go_simp
            try with_reducible rfl
          try simp only [Act.put, List.setIfInBounds_toArray, List.set_cons_zero, List.set_cons_succ]
          have y0 := zb1.cell (j := 0) (u := .int .i64 0) rfl
          have y1 := zb1.cell (j := 1) (u := .int .i64 0) rfl
          have y2 := zb1.cell (j := 2) (u := .int .i64 0) rfl
          have y3 := zb1.cell (j := 3) (u := .int .i64 0) rfl
          have yf0 := zb1.free 0
          have yf1 := zb1.free 1
          have yf2 := zb1.free 2
          have yf3 := zb1.free 3
          clear zb1
          refine wpAnyH_ready (rs := [12]) (by kernel_rfl) (by simp) ?_
          refine AllReadyH.cons rfl (fun K hK => ?_) AllReadyH.nil
          go_simp
          have hSf : InW wr ((((v1.setCell ⟨v0.heap.size, 0, none⟩ (.int .i64 d2)).setCell ⟨v0.heap.size, 1, none⟩ (.int .i64 a2)).setCell ⟨v0.heap.size, 2, none⟩ (.int .i64 r2)).setCell ⟨v0.heap.size, 3, none⟩ (.int .i64 s2)) := (((Below.setCell hS2 hz _).setCell hz _).setCell hz _).setCell hz _
          refine hK.out _ _ hSf (fun _ => ?_)
          clear hK K y0 y1 y2 y3 yf0 yf1 yf2 yf3
          generalize ((((v1.setCell ⟨v0.heap.size, 0, none⟩ (.int .i64 d2)).setCell ⟨v0.heap.size, 1, none⟩ (.int .i64 a2)).setCell ⟨v0.heap.size, 2, none⟩ (.int .i64 r2)).setCell ⟨v0.heap.size, 3, none⟩ (.int .i64 s2)) = vf at hSf ⊢
          try simp only [Act.put, List.setIfInBounds_toArray, List.set_cons_zero, List.set_cons_succ]
          refine wpAnyH_take (i := 13) (v := ?v15) rfl (by kernel_rfl) (by kernel_rfl) (by kernel_rfl) (fun _ _ _ h => h) (Or.inl ⟨by rfl, ?hy15⟩) hSf ?rest15
          case hy15 =>
            intro W hW
            go_simp
            try with_reducible rfl
          try simp only [Act.put, List.setIfInBounds_toArray, List.set_cons_zero, List.set_cons_succ]
          refine wpAnyH_done (by kernel_rfl) ?_ _
          have HF := Lib.hid hSf
          have q1 := keepc hSf x1
          have q2 := keepc hSf e2
          have q0 := keepc hSf x0
          have r0 := keepc hSf o0
          have r1 := keepc hSf o1
          clear hSf o0 o1 x0 x1 e0 e2
          go_wp2_with fail
          go_roundw
          case rel => exact ⟨k + 1, by omega, by go_num, LX.out.carry HF.out, Lo.out.carry HF.out, next BB.out HF.out, r0, r1, q1, q0⟩
          case measure => simp [intOf]; omega
      · have hnd : decide (n ≤ nr) = false := by simpa using hnr
        rw [hnd] at hq
        subst hq
        have CG : ∀ W : World, LstBatch W W.heap.size (some ⟨g2, 0, none⟩) (kept n bs) → Calls Try.prog 26 #[.agg #[.int .i64 n, .slice (some ⟨g2, 0, none⟩) (kept n bs).length c2], .int .i64 nd] W fun e w' => e = .returned (.tuple #[.agg #[.int .i64 d2, .int .i64 a2, .int .i64 r2, .int .i64 s2], .bool false]) ∧ Below W.heap.size W w' := fun W h => by
          have h2 := i_StoreGet n (some ⟨g2, 0, none⟩) c2 (kept n bs) nd W h (by omega)
          rw [HG.out] at h2; exact h2
        have CH := Lib.hid CG
        clear CG HG
        go_wp2_with fail
        have hS : InW wr ({ wr with drawn := wr.drawn + 1 } : World) := (Below.refl _ _).drew
        refine wp_region_held (S := InW wr) (by kernel_rfl) ?_
        generalize ({ wr with drawn := wr.drawn + 1 } : World) = v0 at hS ⊢
        refine wpAnyH_take (i := 0) (v := ?v16) rfl (by kernel_rfl) (by kernel_rfl) (by kernel_rfl) (fun _ _ _ h => h) (Or.inl ⟨by rfl, ?hy16⟩) hS ?rest16
        case hy16 =>
          intro W hW
          have po0 := keepc hW o0
          have po1 := keepc hW o1
          go_simp
          try with_reducible rfl
        try simp only [Act.put, List.setIfInBounds_toArray, List.set_cons_zero, List.set_cons_succ]
        refine wpAnyH_take (i := 1) (v := ?v17) rfl (by kernel_rfl) (by kernel_rfl) (by kernel_rfl) (fun _ _ _ h => h) (Or.inl ⟨by rfl, ?hy17⟩) hS ?rest17
        case hy17 =>
          intro W hW
          go_simp
          try with_reducible rfl
        try simp only [Act.put, List.setIfInBounds_toArray, List.set_cons_zero, List.set_cons_succ]
        refine wpAnyH_take (i := 2) (v := ?v18) rfl (by kernel_rfl) (by kernel_rfl) (by kernel_rfl) (fun _ _ _ h => h) (Or.inl ⟨by rfl, ?hy18⟩) hS ?rest18
        case hy18 =>
          intro W hW
          have px1 := keepc hW x1
          go_simp
          try with_reducible rfl
        try simp only [Act.put, List.setIfInBounds_toArray, List.set_cons_zero, List.set_cons_succ]
        refine wpAnyH_take (i := 3) (v := ?v19) rfl (by kernel_rfl) (by kernel_rfl) (by kernel_rfl) (fun _ _ _ h => h) (Or.inl ⟨by rfl, ?hy19⟩) hS ?rest19
        case hy19 =>
          intro W hW
          go_simp
          try with_reducible rfl
        try simp only [Act.put, List.setIfInBounds_toArray, List.set_cons_zero, List.set_cons_succ]
        refine wpAnyH_take (i := 4) (v := ?v20) rfl (by kernel_rfl) (by kernel_rfl) (by kernel_rfl) (fun _ _ _ h => h) (Or.inl ⟨by rfl, ?hy20⟩) hS ?rest20
        case hy20 =>
          intro W hW
          go_simp
          try with_reducible rfl
        try simp only [Act.put, List.setIfInBounds_toArray, List.set_cons_zero, List.set_cons_succ]
        refine wpAnyH_take (i := 5) (v := ?v21) rfl (by kernel_rfl) (by kernel_rfl) (by kernel_rfl) (fun _ _ _ h => h) (Or.inl ⟨by rfl, ?hy21⟩) hS ?rest21
        case hy21 =>
          intro W hW
          go_simp
          try with_reducible rfl
        try simp only [Act.put, List.setIfInBounds_toArray, List.set_cons_zero, List.set_cons_succ]
        refine wpAnyH_take (i := 6) (v := ?v22) rfl (by kernel_rfl) (by kernel_rfl) (by kernel_rfl) (fun _ _ _ h => h) (Or.inl ⟨by rfl, ?hy22⟩) hS ?rest22
        case hy22 =>
          intro W hW
          have pe0 := keepc hW e0
          go_simp
          try with_reducible rfl
        try simp only [Act.put, List.setIfInBounds_toArray, List.set_cons_zero, List.set_cons_succ]
        refine wpAnyH_ready (rs := [7, 11]) (by kernel_rfl) (by simp) ?_
        refine AllReadyH.cons rfl (fun K hK => ?_) (AllReadyH.cons rfl (fun K hK => ?_) AllReadyH.nil)
        · go_simp
          refine (CH.out _ (Lo.out.carry hS)).mono ?_
          rintro e v1 ⟨rfl, b1⟩
          have hS1 : InW wr v1 := next hS b1
          clear b1 hS
          dsimp only
          refine hK.out _ _ hS1 (fun _ => ?_)
          clear hK K
          try simp only [Act.put, List.setIfInBounds_toArray, List.set_cons_zero, List.set_cons_succ]
          refine wpAnyH_take (i := 8) (v := ?v23) rfl (by kernel_rfl) (by kernel_rfl) (by kernel_rfl) (fun _ _ _ h => h) (Or.inl ⟨by rfl, ?hy23⟩) hS1 ?rest23
          case hy23 =>
            intro W hW
            go_simp
            try with_reducible rfl
          try simp only [Act.put, List.setIfInBounds_toArray, List.set_cons_zero, List.set_cons_succ]
          refine wpAnyH_take (i := 9) (v := ?v24) rfl (by kernel_rfl) (by kernel_rfl) (by kernel_rfl) (fun _ _ _ h => h) (Or.inl ⟨by rfl, ?hy24⟩) hS1 ?rest24
          case hy24 =>
            intro W hW
            go_simp
            try with_reducible rfl
          try simp only [Act.put, List.setIfInBounds_toArray, List.set_cons_zero, List.set_cons_succ]
          refine wpAnyH_take (i := 10) (v := ?v25) rfl (by kernel_rfl) (by kernel_rfl) (by kernel_rfl) (fun _ _ _ h => h) (Or.inl ⟨by rfl, ?hy25⟩) hS1 ?rest25
          case hy25 =>
            intro W hW
            go_simp
            try with_reducible rfl
          try simp only [Act.put, List.setIfInBounds_toArray, List.set_cons_zero, List.set_cons_succ]
          refine wpAnyH_ready (rs := [11]) (by kernel_rfl) (by simp) ?_
          refine AllReadyH.cons rfl (fun K hK => ?_) AllReadyH.nil
          go_simp
          refine hK.out _ _ (next hS1 (allocB v1 _)) (fun _ => ?_)
          clear hK K
          try simp only [Act.put, List.setIfInBounds_toArray, List.set_cons_zero, List.set_cons_succ]
          refine wpAnyH_ready (rs := [12]) (by kernel_rfl) (by simp) ?_
          refine AllReadyH.cons rfl (fun K hK => ?_) AllReadyH.nil
          go_simp
          have hSf : InW wr (v1.alloc (.cells #[.int .i64 d2, .int .i64 a2, .int .i64 r2, .int .i64 s2] 27)) := next hS1 (allocB v1 _)
          refine hK.out _ _ hSf (fun _ => ?_)
          clear hK K
          try simp only [Act.put, List.setIfInBounds_toArray, List.set_cons_zero, List.set_cons_succ]
          refine wpAnyH_take (i := 13) (v := ?v26) rfl (by kernel_rfl) (by kernel_rfl) (by kernel_rfl) (fun _ _ _ h => h) (Or.inl ⟨by rfl, ?hy26⟩) hSf ?rest26
          case hy26 =>
            intro W hW
            go_simp
            try with_reducible rfl
          try simp only [Act.put, List.setIfInBounds_toArray, List.set_cons_zero, List.set_cons_succ]
          refine wpAnyH_done (by kernel_rfl) ?_ _
          have HF := Lib.hid hSf
          have q1 := keepc hSf x1
          have q2 := keepc hSf e2
          have q0 := keepc hSf x0
          have r0 := keepc hSf o0
          have r1 := keepc hSf o1
          clear hSf o0 o1 x0 x1 e0 e2
          go_wp2_with fail
          go_roundw
          case rel => exact ⟨k + 1, by omega, by go_num, LX.out.carry HF.out, Lo.out.carry HF.out, next BB.out HF.out, r0, r1, q1, q0⟩
          case measure => simp [intOf]; omega
        · go_simp
          have hS1 : InW wr (v0.alloc (.cells #[.int .i64 0, .int .i64 0, .int .i64 0, .int .i64 0] 27)) := next hS (allocB v0 _)
          refine hK.out _ _ hS1 (fun _ => ?_)
          clear hK K
          have zb : Box (v0.alloc (.cells #[.int .i64 0, .int .i64 0, .int .i64 0, .int .i64 0] 27)) v0.heap.size 27 #[.int .i64 0, .int .i64 0, .int .i64 0, .int .i64 0] := Box.new v0 _ _
          have hz := hS.size
          generalize v0.alloc (.cells #[.int .i64 0, .int .i64 0, .int .i64 0, .int .i64 0] 27) = v2 at hS1 zb ⊢
          refine wpAnyH_ready (rs := [7]) (by kernel_rfl) (by simp) ?_
          refine AllReadyH.cons rfl (fun K hK => ?_) AllReadyH.nil
          go_simp
          refine (CH.out _ (Lo.out.carry hS1)).mono ?_
          rintro e v1 ⟨rfl, b1⟩
          have hS2 : InW wr v1 := next hS1 b1
          have zb1 := zb.carry b1
          clear b1 hS hS1 zb
          dsimp only
          refine hK.out _ _ hS2 (fun _ => ?_)
          clear hK K
          try simp only [Act.put, List.setIfInBounds_toArray, List.set_cons_zero, List.set_cons_succ]
          refine wpAnyH_take (i := 8) (v := ?v27) rfl (by kernel_rfl) (by kernel_rfl) (by kernel_rfl) (fun _ _ _ h => h) (Or.inl ⟨by rfl, ?hy27⟩) hS2 ?rest27
          case hy27 =>
            intro W hW
            go_simp
            try with_reducible rfl
          try simp only [Act.put, List.setIfInBounds_toArray, List.set_cons_zero, List.set_cons_succ]
          refine wpAnyH_take (i := 9) (v := ?v28) rfl (by kernel_rfl) (by kernel_rfl) (by kernel_rfl) (fun _ _ _ h => h) (Or.inl ⟨by rfl, ?hy28⟩) hS2 ?rest28
          case hy28 =>
            intro W hW
            go_simp
            try with_reducible rfl
          try simp only [Act.put, List.setIfInBounds_toArray, List.set_cons_zero, List.set_cons_succ]
          refine wpAnyH_take (i := 10) (v := ?v29) rfl (by kernel_rfl) (by kernel_rfl) (by kernel_rfl) (fun _ _ _ h => h) (Or.inl ⟨by rfl, ?hy29⟩) hS2 ?rest29
          case hy29 =>
            intro W hW
            go_simp
            try with_reducible rfl
          try simp only [Act.put, List.setIfInBounds_toArray, List.set_cons_zero, List.set_cons_succ]
          have y0 := zb1.cell (j := 0) (u := .int .i64 0) rfl
          have y1 := zb1.cell (j := 1) (u := .int .i64 0) rfl
          have y2 := zb1.cell (j := 2) (u := .int .i64 0) rfl
          have y3 := zb1.cell (j := 3) (u := .int .i64 0) rfl
          have yf0 := zb1.free 0
          have yf1 := zb1.free 1
          have yf2 := zb1.free 2
          have yf3 := zb1.free 3
          clear zb1
          refine wpAnyH_ready (rs := [12]) (by kernel_rfl) (by simp) ?_
          refine AllReadyH.cons rfl (fun K hK => ?_) AllReadyH.nil
          go_simp
          have hSf : InW wr ((((v1.setCell ⟨v0.heap.size, 0, none⟩ (.int .i64 d2)).setCell ⟨v0.heap.size, 1, none⟩ (.int .i64 a2)).setCell ⟨v0.heap.size, 2, none⟩ (.int .i64 r2)).setCell ⟨v0.heap.size, 3, none⟩ (.int .i64 s2)) := (((Below.setCell hS2 hz _).setCell hz _).setCell hz _).setCell hz _
          refine hK.out _ _ hSf (fun _ => ?_)
          clear hK K y0 y1 y2 y3 yf0 yf1 yf2 yf3
          generalize ((((v1.setCell ⟨v0.heap.size, 0, none⟩ (.int .i64 d2)).setCell ⟨v0.heap.size, 1, none⟩ (.int .i64 a2)).setCell ⟨v0.heap.size, 2, none⟩ (.int .i64 r2)).setCell ⟨v0.heap.size, 3, none⟩ (.int .i64 s2)) = vf at hSf ⊢
          try simp only [Act.put, List.setIfInBounds_toArray, List.set_cons_zero, List.set_cons_succ]
          refine wpAnyH_take (i := 13) (v := ?v30) rfl (by kernel_rfl) (by kernel_rfl) (by kernel_rfl) (fun _ _ _ h => h) (Or.inl ⟨by rfl, ?hy30⟩) hSf ?rest30
          case hy30 =>
            intro W hW
            go_simp
            try with_reducible rfl
          try simp only [Act.put, List.setIfInBounds_toArray, List.set_cons_zero, List.set_cons_succ]
          refine wpAnyH_done (by kernel_rfl) ?_ _
          have HF := Lib.hid hSf
          have q1 := keepc hSf x1
          have q2 := keepc hSf e2
          have q0 := keepc hSf x0
          have r0 := keepc hSf o0
          have r1 := keepc hSf o1
          clear hSf o0 o1 x0 x1 e0 e2
          go_wp2_with fail
          go_roundw
          case rel => exact ⟨k + 1, by omega, by go_num, LX.out.carry HF.out, Lo.out.carry HF.out, next BB.out HF.out, r0, r1, q1, q0⟩
          case measure => simp [intOf]; omega
    · have hd : decide (k < bs.length) = false := by simpa using hlt
      have hs : storeB n (kept n bs) = true := good_store ((store_good HV.out).kept hfn hn31)
      have HS := Lib.hid hs
      clear hs lx lo
      go_wp2_with fail
      refine (i_StoreValid n (some ⟨g2, 0, none⟩) c2 (kept n bs) _ Lo.out (by omega)).mono ?_
      rw [HS.out]
      rintro e v1 ⟨rfl, b1⟩
      replace o1 := keepc b1 o1
      replace x1 := keepc b1 x1
      replace BB := Lib.hid (next BB.out b1)
      clear b1
      go_wp2_with fail
      go_ret
      exact ⟨rfl, BB.out⟩

set_option maxRecDepth 100000 in
theorem lifted (os : Os) (started : os.Started) (H : Type) (enc : TypeId × Value → H) :
    ReturnsInHanded {} Try.checked os 11 .any (Rows.fnStoreForgetSpec.pre6 enc Try.prog Try.f11 Rows.fnStoreForgetRow.domain false) (Rows.fnStoreForgetSpec.post enc Try.prog Try.f11 false true false false) := by
  refine returnsInHanded_of_change (C := Try.checked) own started (by kernel_rfl) Try.func11
    (ChangeSpec.witness6 (enc := enc) (C := Try.checked) false ⟨#[], #[.slice none 0 0], []⟩ 8 (by kernel_rfl) (by kernel_rfl) (by kernel_rfl) (by kernel_rfl)) ?_
  intro W base args ds gs before hval0 hW hcnd _
  have hval : ∀ (j : Nat) t v, Try.f11.params[j]? = some t → args[j]? = some v → Value.okWide Try.prog W .any base t v := hval0
  have hW' := hW
  obtain ⟨p, q, hA0, hV, rfl, hfz, hnd⟩ := hW
  have hA : DataW.TrodAll enc Try.prog W 0 (fun _ => true) true Try.f11.params.toList args.toList ds p := hA0
  rw [Try.params11] at hA hval
  obtain ⟨v0, vs0, d0, ds0, p0, q0, hargs, rfl, rfl, h0, r0⟩ := trodAll_cons hA
  obtain ⟨rfl, rfl, rfl⟩ := trodAll_nil r0
  obtain rfl : args = #[v0] := by cases args; simp_all
  obtain ⟨rfl, rfl⟩ := trodVars_none hV
  obtain ⟨a0, len0, c0, rfl⟩ := okWide_slice Try.underlying22 (hval 0 22 v0 rfl rfl)
  have k0 := h0
  have lt0 : ∀ x ∈ p0, x.block < W.heap.size := by obtain ⟨m, hm⟩ := k0; exact DataW.trod_lt m _ _ _ hm
  obtain ⟨z0, rfl, w0⟩ := bytes_of_trod h0
  clear hA0 hval0
  refine (walk a0 c0 z0 W w0).mono fun e W' ⟨he, bel⟩ => ?_
  subst he
  exact ⟨_, rfl, _, _, _, [], _, [], hW', trodAll_mk1 (shut_bool Try.underlying4 _), (trodAll_cons_mk (Below.trod laidOut (by kernel_rfl) (of_decide_eq_true (by kernel_rfl)) k0 bel lt0) trodAll_mk0), rfl, bel.frame _, fun h => by cases h⟩

theorem over : Rows.fnStoreForgetRow.holds Try.pinned (OpenSpec.ofChange Rows.fnStoreForgetSpec) :=
  OpenClaim.holds_of_wide 11 Try.f11 rfl rfl rfl rfl rfl rfl rfl ⟨rfl, rfl, rfl, rfl, rfl⟩ rfl rfl rfl rfl rfl (by kernel_rfl) Try.func11 (by kernel_rfl)
    (of_decide_eq_true (by kernel_rfl)) (by unfold Func.isWrapper; first | (rw [if_pos (by decide +kernel)]; kernel_rfl) | (rw [if_neg (by decide +kernel)]; exact ⟨rfl, rfl⟩))
    (fun os started H enc _ => lifted os started H enc)

/-- The given statement. -/
theorem proved : Rows.FnStoreForgetSaid := over
#print axioms proved
end Go.Proofs.Ytmfbhddnlgbcmaa.lawStoreForget
