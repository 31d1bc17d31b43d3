/- The law FnExactLanesOf holds for every input: the program's LanesOf returns what the reference's returns, in memory of its own. -/
import Derived.Test.YtdleibkkjnodlaaLaneW
import Derived.Test.YtdleibkkjnodlaaMarkL
import Derived.Test.YtdleibkkjnodlaaArgL
namespace Go.Proofs.Ytdleibkkjnodlaa.exLanesOf
open Go.ChangeShapes Go.WideShapes Go.ChangeAt Go.RowKit
set_option linter.unusedVariables false

theorem lanesZ_small (bs : List VTxn) : (lanesZ bs).length ≤ 17 ∧ ∀ i, i < (lanesZ bs).length → (nthL (lanesZ bs) i).length ≤ 17 := by
  unfold lanesZ
  split
  · rename_i hv
    have hl := txnsB_len hv
    exact ⟨by have := lanesT_len (bs := bs); omega, fun i hi => by have := lanesT_one hi; omega⟩
  · exact ⟨by simp, fun i hi => by simp at hi⟩
theorem sumLen_le {ls : List (List Int)} (h : ∀ i, i < ls.length → (nthL ls i).length ≤ 17) : ∀ k, k ≤ ls.length → sumLen ls k ≤ 17 * k := by
  intro k
  induction k with
  | zero => intro _; simp [sumLen]
  | succ k ih => intro hk; have := ih (by omega); have := h k (by omega); simp only [sumLen]; omega
theorem arr_wr {w : World} {g : Nat} {t : TypeId} {arr : Array Value} {bs : List VTxn} (h : w.heap[g]? = some (.cells arr t (0, 0))) (ha : ArrTxn arr bs) : WrS w (some ⟨g, 0, none⟩) (bs.length * 4) := fun _ =>
  ⟨g, rfl, fun j hj => by
    obtain ⟨u, a, b⟩ := blk_at (j := j) h (by rw [ha.1]; exact hj)
    exact ⟨⟨u, a⟩, b⟩⟩
theorem marked_grown {w w' : World} {g m : Nat} {k : Int} {e : Ending} (h : Marked w (some ⟨g, 0, none⟩) m k e w') : w.grownBy w' (some g) := by
  rcases Nat.eq_zero_or_pos m with h0 | h0
  · rw [← h.2.2.1 h0]; exact gr_refl w g
  · exact (h.2.2.2 h0 g rfl).1
set_option maxRecDepth 20000 in
set_option maxHeartbeats 16000000 in
theorem walk1 (A : Option Addr) (c : Nat) (bs : List VTxn) (w : World) (h : LstTxn w w.heap.size A bs) (hl : bs.length ≤ 9223372036854775807) :
    Calls Try.prog 11 #[.slice A bs.length c] w fun e w' => e = .returned (.bool true) ∧ Below w.heap.size w w' := by
  have HP := Lib.hid h
  clear h
  by_cases hs : (1048576 : Int) < bs.length
  · go_enter Try.func11, Try.ntmps11
    go_wp2_with fail
    refine (szTxnS_any _ _ _ _ _ (by omega) (by omega) hl).mono ?_
    rw [szL_neg (by omega)]
    rintro e w' ⟨rfl, rfl⟩
    go_wp2_with fail
    go_ret
    exact ⟨rfl, Below.refl _ _⟩
  have hn : bs.length ≤ 1048576 := by omega
  have hd : ¬ (1048576 : Int) - bs.length < 0 := by omega
  obtain ⟨ls, hls⟩ : ∃ ls, ls = lanesZ bs := ⟨_, rfl⟩
  have hsm := lanesZ_small bs
  rw [← hls] at hsm
  obtain ⟨hlen, hone⟩ := hsm
  have HS := Lib.hid (sumLen_le hone)
  have HO := Lib.hid hone
  have HZ := Lib.hid hls.symm
  clear hls hone
  go_enter Try.func11, Try.ntmps11
  go_wp2_with fail
  refine (szTxnS_any _ _ _ _ _ (by omega) (by omega) hl).mono ?_
  rw [szL_pos (by omega)]
  rintro e w' ⟨rfl, rfl⟩
  go_wp2_with fail
  refine (toTxnS_any _ _ bs _ HP.out hn).mono ?_
  rintro e w1 ⟨arr1, rfl, k1, a1, b1⟩
  have BB := Lib.hid b1
  have L1 := Lib.hid (LstTxn.of_blk k1 a1 (lt_blk k1))
  clear b1 k1 a1
  go_wp2_with fail
  refine (s_LanesOf _ _ bs _ L1.out hn).mono ?_
  intro e w2 hm
  rw [HZ.out] at hm
  obtain ⟨gw, cw, rfl, hll, b2⟩ := hm.lls
  have HW := Lib.hid hll
  replace BB := Lib.hid (next BB.out b2)
  have hz2 := BB.out.size
  clear b2 L1 hll hm
  go_wp2_with fail
  refine (toTxnS_any _ _ bs _ ((HP.out.below BB.out).more BB.out.size) hn).mono ?_
  rintro e w3 ⟨arr3, rfl, k3, a3, b3⟩
  replace BB := Lib.hid (next BB.out b3)
  have BW := Lib.hid b3
  have hz3 := lt_blk k3
  have L3 := Lib.hid (LstTxn.of_blk k3 a3 hz3)
  have WX := Lib.hid (arr_wr k3 a3)
  clear b3 k3 a3
  go_wp2_with fail
  refine (i_LanesOf _ _ bs _ L3.out hn).mono ?_
  rintro e w4 ⟨gg, cg, xs, rfl, hx, hla, b4⟩
  rw [HZ.out] at hx ⊢
  replace BB := Lib.hid (next BB.out b4)
  replace BW := Lib.hid (BW.out.trans (b4.mono (by omega)))
  replace L3 := Lib.hid (L3.out.carry b4)
  replace WX := Lib.hid (WX.out.carry b4)
  have hz4 := b4.size
  have HX := Lib.hid hx
  have LA := Lib.hid hla
  clear b4 hx hla
  have hxl : xs.length = ls.length := by have := congrArg List.length HX.out; simpa using this
  go_wp2_with fail
  refine (eqIntSS_same _ _ _ _ ls _ (by have := LA.out.lls; rw [HX.out] at this; exact this) ((HW.out.below BW.out).more BW.out.size) (by omega) (fun i hi => by have := HO.out i hi; omega)).mono ?_
  rintro e w5 ⟨rfl, q5⟩
  have b5 := q5.below w4.heap.size
  replace BB := Lib.hid (next BB.out b5)
  replace BW := Lib.hid (BW.out.trans (b5.mono (by omega)))
  replace L3 := Lib.hid (L3.out.carry b5)
  replace WX := Lib.hid (WX.out.carry b5)
  replace LA := Lib.hid (LA.out.below b5)
  replace hz4 := Nat.le_trans hz4 b5.size
  clear b5 q5
  go_wp2_with fail
  refine (toTxnS_any _ _ bs _ ((HP.out.below BB.out).more BB.out.size) hn).mono ?_
  rintro e w6 ⟨arr6, rfl, k6, a6, b6⟩
  replace BB := Lib.hid (next BB.out b6)
  replace BW := Lib.hid (BW.out.trans (b6.mono (by omega)))
  replace L3 := Lib.hid (L3.out.carry b6)
  replace WX := Lib.hid (WX.out.carry b6)
  replace LA := Lib.hid (LA.out.below b6)
  replace hz4 := Nat.le_trans hz4 b6.size
  have L6 := Lib.hid (LstTxn.of_blk k6 a6 (lt_blk k6))
  clear b6 k6 a6
  go_wp2_with fail
  refine (eqTxnS_same _ _ _ _ bs _ L3.out L6.out hn).mono ?_
  rintro e w7 ⟨rfl, b7⟩
  replace BB := Lib.hid (next BB.out b7)
  replace BW := Lib.hid (BW.out.trans (b7.mono (by omega)))
  replace WX := Lib.hid (WX.out.carry b7)
  replace LA := Lib.hid (LA.out.below b7)
  replace hz4 := Nat.le_trans hz4 b7.size
  clear b7 L3 L6
  go_wp2_with fail
  refine (l_markTxnS _ _ bs.length _ _ WX.out hn (by omega) (by omega)).mono ?_
  rintro e w8 hm
  have g8 := marked_grown hm
  obtain ⟨rfl, -⟩ := hm
  replace BB := Lib.hid (BB.out.trans (gr_to_below g8 hz2 (by omega)))
  replace BW := Lib.hid (BW.out.trans (gr_to_below g8 (Nat.le_refl _) (by omega)))
  replace LA := Lib.hid (LA.out.grown g8 (fun e => by injection e with e; have := LA.out.own.blk.1; omega) (fun x hx e => by injection e with e; have := (LA.out.lt x hx).1; omega))
  replace hz4 := Nat.le_trans hz4 g8.size
  clear g8 WX
  have hk1 : ¬ (1 : Int) + (bs.length * 4 : Nat) < 0 := by omega
  have hk2 : decide ((1 : Int) + (bs.length * 4 : Nat) < 0) = false := decide_eq_false hk1
  have hk3 : ¬ (1 : Int) + (bs.length : Int) * 4 < 0 := by omega
  have hk4 : decide ((1 : Int) + (bs.length : Int) * 4 < 0) = false := decide_eq_false hk3
  go_wp2_with fail
  refine (eqIntSS_same _ _ _ _ ls _ (by have := LA.out.lls; rw [HX.out] at this; exact this) ((HW.out.below BW.out).more BW.out.size) (by omega) (fun i hi => by have := HO.out i hi; omega)).mono ?_
  rintro e w9 ⟨rfl, q9⟩
  have b9 := q9.below w8.heap.size
  replace BB := Lib.hid (next BB.out b9)
  replace BW := Lib.hid (BW.out.trans (b9.mono (by omega)))
  replace LA := Lib.hid (LA.out.below b9)
  replace hz4 := Nat.le_trans hz4 b9.size
  clear b9 q9
  have hxo : ∀ i (hi : i < xs.length), (xs[i]).zs.length ≤ 1048576 := fun i hi => by
    have := HO.out i (by omega)
    rw [← HX.out, nthL_map hi] at this; omega
  have hxs : ∀ i, i ≤ xs.length → sumLen (xs.map LaneV.zs) i ≤ 1048576 := fun i hi => by
    rw [HX.out]; have := HS.out i (by omega); omega
  have HXO := Lib.hid hxo
  have HXS := Lib.hid hxs
  have hmk := l_markIntSS gg cg xs 1 w9 w3.heap.size (LA.out.mark hz4) (by omega) hxo hxs (by omega) (by omega)
  have hsum := HS.out ls.length (Nat.le_refl _)
  rw [HX.out, hxl] at hmk
  obtain ⟨sm, hsm⟩ : ∃ sm, sumLen ls ls.length = sm := ⟨_, rfl⟩
  rw [hsm] at hmk hsum
  have HSM := Lib.hid hsm
  have HMK := Lib.hid hmk
  clear hmk hxo hxs hsm LA hk1 hk2 hk3 hk4
  go_wp2_with fail
  refine HMK.out.mono ?_
  rintro e w10 ⟨rfl, hm, hz⟩
  replace BB := Lib.hid (BB.out.trans (hm.below.mono (by omega)))
  replace BW := Lib.hid (BW.out.trans (hm.below.mono (by omega)))
  have M := Lib.hid hm
  clear hm hz HMK
  have hj1 : ¬ (1 : Int) + (sm : Nat) < 0 := by omega
  have hj2 : ((1 : Int) + (sm : Nat) != (1 : Int) + (sm : Nat)) = false := by simp
  have hmh := l_heldIntSS gg cg xs 1 w9 w10 w3.heap.size (by rw [hxl]; exact M.out) (by omega) HXO.out HXS.out (by omega) (by omega)
  rw [HX.out, hxl, HSM.out] at hmh
  have HMH := Lib.hid hmh
  clear hmh
  go_wp2_with fail
  refine HMH.out.mono ?_
  rintro e w' ⟨rfl, rfl⟩
  clear HMH
  go_wp2_with fail
  refine (toTxnS_any _ _ bs _ ((HP.out.below BB.out).more BB.out.size) hn).mono ?_
  rintro e w11 ⟨arr11, rfl, k11, a11, b11⟩
  replace BB := Lib.hid (next BB.out b11)
  replace BW := Lib.hid (BW.out.trans (b11.mono BW.out.size))
  replace M := Lib.hid (M.out.carry b11)
  have L11 := Lib.hid (LstTxn.of_blk k11 a11 (lt_blk k11))
  clear b11 k11 a11
  go_wp2_with fail
  refine (i_LanesOf _ _ bs _ L11.out hn).mono ?_
  intro e w12 hm
  rw [HZ.out] at hm
  obtain ⟨gh, ch, rfl, hll, b12⟩ := hm.lls
  have HH := Lib.hid hll
  replace BB := Lib.hid (next BB.out b12)
  replace BW := Lib.hid (BW.out.trans (b12.mono BW.out.size))
  replace M := Lib.hid (M.out.carry b12)
  clear b12 L11 hll hm
  go_wp2_with fail
  refine (eqIntSS_same _ _ _ _ ls _ HH.out ((HW.out.below BW.out).more BW.out.size) (by omega) (fun i hi => by have := HO.out i hi; omega)).mono ?_
  rintro e w13 ⟨rfl, q13⟩
  have b13 := q13.below w12.heap.size
  replace BB := Lib.hid (next BB.out b13)
  replace M := Lib.hid (M.out.carry b13)
  clear b13 q13 HH BW
  have hmh := l_heldIntSS gg cg xs 1 w9 w13 w3.heap.size (by rw [hxl]; exact M.out) (by omega) HXO.out HXS.out (by omega) (by omega)
  rw [HX.out, hxl, HSM.out] at hmh
  have HMH := Lib.hid hmh
  clear hmh
  go_wp2_with fail
  refine HMH.out.mono ?_
  rintro e w' ⟨rfl, rfl⟩
  go_wp2_with fail
  go_ret
  exact ⟨rfl, BB.out⟩
theorem walk (x : XLTxn) (w : World) (hx : x.Good w) :
    Calls Try.prog 11 #[x.val] w fun e w' => e = .returned (.bool true) ∧ Below w.heap.size w w' :=
  walk1 x.A x.c x.bs w hx.1 hx.2

set_option maxRecDepth 100000 in
theorem lifted (os : Os) (started : os.Started) (H : Type) (enc : TypeId × Value → H) :
    ReturnsInHanded {} Try.checked os 11 .any (Rows.fnExactLanesOfSpec.pre6 enc Try.prog Try.f11 Rows.fnExactLanesOfRow.domain false) (Rows.fnExactLanesOfSpec.post enc Try.prog Try.f11 false true false false) := by
  refine returnsInHanded_of_change (C := Try.checked) own started (by kernel_rfl) Try.func11
    (ChangeSpec.witness6 (enc := enc) (C := Try.checked) false ⟨#[], #[.slice none 0 0], []⟩ 8 (by kernel_rfl) (by kernel_rfl) (by kernel_rfl) (by kernel_rfl)) ?_
  intro W base args ds gs before hval0 hW hcnd _
  have hval : ∀ (j : Nat) t v, Try.f11.params[j]? = some t → args[j]? = some v → Value.okWide Try.prog W .any base t v := hval0
  have hW' := hW
  obtain ⟨p, q, hA0, hV, rfl, hfz, hnd⟩ := hW
  have hA : DataW.TrodAll enc Try.prog W 0 (fun _ => true) true Try.f11.params.toList args.toList ds p := hA0
  rw [Try.params11] at hA hval
  obtain ⟨v0, vs0, d0, ds0, p0, q0, hargs, rfl, rfl, h0, r0⟩ := trodAll_cons hA
  obtain ⟨rfl, rfl, rfl⟩ := trodAll_nil r0
  obtain rfl : args = #[v0] := by cases args; simp_all
  obtain ⟨rfl, rfl⟩ := trodVars_none hV
  have k0 := h0
  have lt0 : ∀ x ∈ p0, x.block < W.heap.size := by obtain ⟨m, hm⟩ := k0; exact DataW.trod_lt m _ _ _ hm
  obtain ⟨x0, rfl, w0⟩ := open_txns (hval 0 _ v0 rfl rfl) h0
  clear hA0 hval0
  refine (walk x0 W w0).mono fun e W' ⟨he, bel⟩ => ?_
  subst he
  exact ⟨_, rfl, _, _, _, [], _, [], hW', trodAll_mk1 (shut_bool Try.underlying4 _), (trodAll_cons_mk (Below.trod laidOut (by kernel_rfl) (of_decide_eq_true (by kernel_rfl)) k0 bel lt0) trodAll_mk0), rfl, bel.frame _, fun h => by cases h⟩

theorem over : Rows.fnExactLanesOfRow.holds Try.pinned (OpenSpec.ofChange Rows.fnExactLanesOfSpec) :=
  OpenClaim.holds_of_wide 11 Try.f11 rfl rfl rfl rfl rfl rfl rfl ⟨rfl, rfl, rfl, rfl, rfl⟩ rfl rfl rfl rfl rfl (by kernel_rfl) Try.func11 (by kernel_rfl)
    (of_decide_eq_true (by kernel_rfl)) (by unfold Func.isWrapper; first | (rw [if_pos (by decide +kernel)]; kernel_rfl) | (rw [if_neg (by decide +kernel)]; exact ⟨rfl, rfl⟩))
    (fun os started H enc _ => lifted os started H enc)

/-- The given statement. -/
theorem proved : Rows.FnExactLanesOfSaid := over
#print axioms proved
end Go.Proofs.Ytdleibkkjnodlaa.exLanesOf
