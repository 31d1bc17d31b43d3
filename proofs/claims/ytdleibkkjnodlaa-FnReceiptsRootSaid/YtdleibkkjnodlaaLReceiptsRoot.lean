/- The law FnReceiptsRoot holds for every input: the root is that of the digests, and a changed outcome changes it. -/
import Derived.Test.YtdleibkkjnodlaaRoot
import Derived.Test.YtdleibkkjnodlaaDrawR
import Derived.Test.YtdleibkkjnodlaaArgs
namespace Go.Proofs.Ytdleibkkjnodlaa.lawReceiptsRoot
open Go.ChangeShapes Go.WideShapes Go.ChangeAt Go.RowKit
set_option linter.unusedVariables false

theorem rootF_dig : ∀ (f : Nat) (xs : List Int), 1 ≤ xs.length → digsB xs = true → digB (rootF f xs) = true := by
  intro f
  induction f with
  | zero => intro xs h1 hd; exact digsB_at hd (by omega)
  | succ f ih =>
    intro xs h1 hd
    by_cases h : xs.length ≤ 1
    · rw [rootF_one h]; exact digsB_at hd (by omega)
    · rw [rootF_up h]; exact ih _ (by rw [up_len]; omega) (up_digs hd)
theorem rcpt_flip {i d : Int} {b : Bool} (h : rcptB i d = true) : rcptD i (!b) d ≠ rcptD i b d := by
  unfold rcptD
  have hr := rcptB_iff.1 h
  simp only [h, if_true]
  cases b <;> simp [outcome, pairZ] <;> omega
theorem rlist_iff {bs : List VReceipt} : rlistB bs = true ↔ (∀ j, j < bs.length → rcptOk bs j = true) ∧ 1 ≤ bs.length ∧ bs.length ≤ 16 := by
  simp only [rlistB, Bool.and_eq_true, allTo_iff, inB_iff]
  constructor
  · rintro ⟨a, b, c⟩; exact ⟨a, by omega, by omega⟩
  · rintro ⟨a, b, c⟩; exact ⟨a, by omega, by omega⟩
theorem leaf_dig {bs : List VReceipt} (h : rlistB bs = true) {j : Nat} (hj : j < bs.length) : digB (leafAt bs j) = true := by
  have := (rlist_iff.1 h).1 j hj
  simp only [rcptOk, Bool.and_eq_true] at this
  unfold leafAt rcptD
  rw [if_pos this.1]
  exact pair_dig _ _
theorem leaves_ok {bs : List VReceipt} (h : rlistB bs = true) : leavesB (leavesTo bs bs.length) = true := by
  obtain ⟨_, h1, h16⟩ := rlist_iff.1 h
  refine leavesB_iff.2 ⟨?_, by rw [leavesTo_len]; exact h1, by rw [leavesTo_len]; exact h16⟩
  unfold digsB
  rw [allTo_iff, leavesTo_len]
  intro j hj
  rw [leavesTo_nth hj]
  exact leaf_dig h hj
theorem root_pos {bs : List VReceipt} (h : rlistB bs = true) : 0 ≤ rootR bs := by
  have hl := leaves_ok h
  obtain ⟨hd, h1, _⟩ := leavesB_iff.1 hl
  rw [rootR, if_pos h, rootZ, if_pos hl]
  exact (inB_iff.1 (rootF_dig _ _ h1 hd)).1
/-- The list with one outcome turned. -/
def flip1 (bs : List VReceipt) (k : Nat) : List VReceipt := bs.set k ⟨(nthReceipt bs k).i, !(nthReceipt bs k).b, (nthReceipt bs k).d⟩
theorem root_flip {bs : List VReceipt} {k : Nat} (h : rlistB bs = true) (hk : k < bs.length) : rootR (flip1 bs k) ≠ rootR bs := by
  have hlen : (flip1 bs k).length = bs.length := by simp [flip1]
  have hok : ∀ j, rcptOk (flip1 bs k) j = rcptOk bs j := fun j => by
    unfold rcptOk flip1
    rw [nthReceipt_set hk]
    by_cases e : j = k
    · subst e; simp
    · rw [if_neg e]
  have h' : rlistB (flip1 bs k) = true := by
    rw [rlist_iff, hlen]
    obtain ⟨a, b, c⟩ := rlist_iff.1 h
    exact ⟨fun j hj => by rw [hok]; exact a j hj, b, c⟩
  have l1 := leaves_ok h
  have l2 := leaves_ok h'
  have hd : Diff1 (leavesTo (flip1 bs k) (flip1 bs k).length) (leavesTo bs bs.length) := by
    refine ⟨by rw [leavesTo_len, leavesTo_len, hlen], (leavesB_iff.1 l2).1, (leavesB_iff.1 l1).1, k, by rw [leavesTo_len, hlen]; exact hk, ?_, fun j hj => ?_⟩
    · rw [leavesTo_nth (by rw [hlen]; exact hk), leavesTo_nth hk]
      unfold leafAt flip1
      rw [nthReceipt_set hk, if_pos rfl]
      have := (rlist_iff.1 h).1 k hk
      simp only [rcptOk, Bool.and_eq_true] at this
      exact rcpt_flip this.1
    · by_cases hjl : j < bs.length
      · rw [leavesTo_nth (by rw [hlen]; exact hjl), leavesTo_nth hjl]
        unfold leafAt flip1
        rw [nthReceipt_set hk, if_neg hj]
      · have e1 : nth (leavesTo (flip1 bs k) (flip1 bs k).length) j = 0 := by
          simp only [nth, List.getD_eq_getElem?_getD]; rw [List.getElem?_eq_none (by rw [leavesTo_len, hlen]; omega)]; rfl
        have e2 : nth (leavesTo bs bs.length) j = 0 := by
          simp only [nth, List.getD_eq_getElem?_getD]; rw [List.getElem?_eq_none (by rw [leavesTo_len]; omega)]; rfl
        rw [e1, e2]
  rw [rootR, if_pos h', rootR, if_pos h, rootZ, if_pos l2, rootZ, if_pos l1]
  have := hd.root (leavesTo bs bs.length).length (by rw [hd.len]; omega)
  unfold rootOf
  rw [hd.len]
  exact this
theorem flip1_len (bs : List VReceipt) (k : Nat) : (flip1 bs k).length = bs.length := by simp [flip1]
/-- What the store of the turned outcome wants, and what it leaves. -/
theorem flip_facts {w6 : World} {L g6 cap6 m : Nat} {bs : List VReceipt} (own6 : OwnReceipt w6 L (.slice (some ⟨g6, 0, none⟩) bs.length cap6) bs) (hml : m < bs.length) :
    L ≤ g6 ∧ w6.cell? ⟨g6, m * 3 + 1, none⟩ = some (.bool (nthReceipt bs m).b) ∧ LstUpReceipt (w6.setCell ⟨g6, m * 3 + 1, none⟩ (.bool (!(nthReceipt bs m).b))) L (some ⟨g6, 0, none⟩) (flip1 bs m) ∧ w6.frozen? ⟨g6, m * 3 + 1, none⟩ = false := by
  have hup := own6.up.2.1
  obtain ⟨b', off', e', h1', h2', hc'⟩ := hup (by intro e; subst e; simp at hml)
  injection e' with e'
  injection e' with e1 e2
  subst e1; subst e2
  have c1 := (hc' m hml).2.1
  rw [Nat.zero_add] at c1
  exact ⟨h1', c1, hup.setB hml _, own6.1.frozenAt (m * 3 + 1)⟩
set_option maxHeartbeats 8000000 in
theorem walk (a0 : Option Addr) (c0 : Nat) (z0 : List Int) (a1 : Option Addr) (c1 : Nat) (z1 : List Int) (w : World) (h0 : Bytes w w.heap.size a0 z0 ∧ z0.length ≤ c0) (h1 : Bytes w w.heap.size a1 z1 ∧ z1.length ≤ c1) :
    Calls Try.prog 10 #[.slice a0 z0.length c0, .slice a1 z1.length c1] w fun e w' => e = .returned (.bool true) ∧ Below w.heap.size w w' := by
  by_cases hbig0 : (1048576 : Int) < z0.length
  · go_enter Try.func10, Try.ntmps10
    go_wp2_with fail
    go_ret
    exact ⟨rfl, Below.refl _ _⟩
  by_cases hbig1 : (1048576 : Int) < z1.length
  · go_enter Try.func10, Try.ntmps10
    go_wp2_with fail
    go_ret
    exact ⟨rfl, Below.refl _ _⟩
  have hn0 : z0.length ≤ 1048576 := by omega
  have hn1 : z1.length ≤ 1048576 := by omega
  have H0 := Lib.hid h0
  clear h0 h1
  go_enter Try.func10, Try.ntmps10
  go_wp2_with fail
  refine (s_DrawReceiptsRoot _ _ _ _ H0.out.1 H0.out.2 hn0).mono ?_
  rintro e w1 ⟨g, c, bs, rfl, hl, hu, b1⟩
  have BB := Lib.hid b1
  have LU := Lib.hid hu.lst
  have hv : (rootR bs != rootR bs) = false := by simp
  have hs : (rootR bs == rootR bs) = true := by simp
  clear b1 hu
  go_wp2_with fail
  refine (i_ReceiptsRoot _ _ bs _ LU.out (by omega)).mono ?_
  rintro e w2 ⟨rfl, b2⟩
  replace BB := Lib.hid (next BB.out b2)
  replace LU := Lib.hid (LU.out.carry b2)
  clear b2
  go_wp2_with fail
  refine (s_ReceiptsRoot _ _ bs _ LU.out (by omega)).mono ?_
  rintro e w3 ⟨rfl, b3⟩
  replace BB := Lib.hid (next BB.out b3)
  replace LU := Lib.hid (LU.out.carry b3)
  clear b3
  rcases hr : rlistB bs with _ | _
  · have hneg : rootR bs < 0 := by simp [rootR, hr]
    clear hr
    go_wp2_with fail
    go_ret
    exact ⟨rfl, BB.out⟩
  have hpos := root_pos hr
  have hdp : decide (rootR bs < 0) = false := decide_eq_false (by omega)
  have hlen := (rlist_iff.1 hr).2.1
  have HFl := Lib.hid (fun k (hk : k < bs.length) => root_flip hr hk)
  have HLe := Lib.hid (show rootZ (leavesTo bs bs.length) = rootR bs by rw [rootR, if_pos hr])
  clear hr
  have O1 := Lib.hid (OwnI.start (w := w3) (base := w3.heap.size) (Nat.le_refl _))
  have B1 := Lib.hid (allocB w3 (.cells #[] 3))
  go_wp2_with fail
  go_loopw [8, 9] (fun v i wr => ∃ (k g' cap : Nat), k ≤ bs.length ∧ i = .int .i64 k ∧ v = .slice (some ⟨g', 0, none⟩) k cap ∧ OwnI wr w3.heap.size v (leavesTo bs k) ∧ Below w3.heap.size w3 wr) (fun _ i _ => bs.length - (intOf i).toNat)
  case atStart => exact ⟨0, w3.heap.size, 0, Nat.zero_le _, rfl, rfl, O1.out, B1.out⟩
  case round =>
    clear O1 B1
    obtain ⟨k, g', cap, hk, rfl, rfl, hown, hbel⟩ := hrel
    have HO := Lib.hid hown
    have HB := Lib.hid hbel
    have hsz := hbel.size
    have HL := Lib.hid (leavesTo_len bs k)
    have hl7 : (leavesTo bs k).length ≤ 10000000 := by rw [leavesTo_len]; omega
    clear hown hbel
    by_cases hlt : k < bs.length
    · obtain ⟨b, off, hgb, hbb, hc⟩ := (LU.out.below HB.out).at_ hlt
      injection hgb with hgb
      injection hgb with e1 e2
      subst e1; subst e2
      obtain ⟨x0, x1, x2⟩ := hc k hlt
      obtain ⟨x, hx⟩ : ∃ x, x = nthReceipt bs k := ⟨_, rfl⟩
      rw [← hx, Nat.zero_add] at x0 x1 x2
      have HX := Lib.hid (show leafAt bs k = rcptD x.i x.b x.d by unfold leafAt; rw [← hx])
      clear hc hx hbb
      go_wp2_with fail
      refine (i_ReceiptDigest _ _ _ _).mono ?_
      rintro e w4 ⟨rfl, b4⟩
      replace HO := Lib.hid (HO.out.below b4)
      replace HB := Lib.hid (HB.out.trans (b4.mono hsz))
      replace hsz := Nat.le_trans hsz b4.size
      clear b4 x0 x1 x2
      go_wp2_with (at_builtin; refine appendInt (by rfl) _ _ (by rfl) w4 w3.heap.size _ (leavesTo bs k) _ (by rfl) HO.out (by rfl) hl7 hsz ?_; intro g1 cap1 w5 own4 hg4; rw [HL.out] at own4 ⊢)
      have O4 := Lib.hid own4
      have B4 := Lib.hid (below_own HB.out HO.out (Nat.le_refl _) hg4)
      clear own4 hg4
      go_wp2_with fail
      go_roundw
      case rel =>
        refine ⟨k + 1, g1, cap1, by omega, by go_num, rfl, ?_, B4.out⟩
        rw [leavesTo_succ, HX.out]
        exact O4.out
      case measure => simp [intOf]; omega
    · have e : k = bs.length := by omega
      subst e
      obtain ⟨m, hm⟩ : ∃ m : Nat, m = z1.length % bs.length := ⟨_, rfl⟩
      have hml : m < bs.length := by rw [hm]; exact Nat.mod_lt _ (by omega)
      have hmod : ((z1.length : Int) % (bs.length : Int)) = (m : Int) := by rw [hm]; omega
      replace BB := Lib.hid (BB.out.trans (HB.out.mono BB.out.size))
      replace LU := Lib.hid ((LU.out.below HB.out).more hsz)
      have hu := HO.out.up
      have IL := Lib.hid hu.2.1.ints
      have X1 := Lib.hid (OwnReceipt.start (w := wr) (base := wr.heap.size) (Nat.le_refl _))
      have ba := allocB wr (.cells #[] 26)
      have LX := Lib.hid (LU.out.carry ba)
      have BA := Lib.hid ba
      clear hm hu ba HO HB
      have hbl : 0 + bs.length ≤ 10000000 := by omega
      have hne0 : (bs.length : Int) ≠ 0 := by omega
      go_wp2_with (at_builtin; refine appendReceipts (by rfl) _ _ (by rfl) _ wr.heap.size _ [] (by rfl) X1.out _ _ _ _ bs (by rfl) rfl LX.out hbl (by simp) ?_; intro g6 cap6 w6 own6 hg6; simp only [Nat.zero_add, List.nil_append, List.length_nil] at own6 ⊢; have B6 := Lib.hid (below_own BA.out X1.out (Nat.le_refl _) hg6); obtain ⟨h1', c1', UP, f1'⟩ := flip_facts own6 hml; have B7 := Lib.hid (B6.out.setCell (p := ⟨g6, m * 3 + 1, none⟩) h1' (.bool (!(nthReceipt bs m).b))); have UP := Lib.hid UP; clear own6 hg6 h1' B6)
      have IL7 := Lib.hid (IL.out.carry B7.out)
      have BB7 := Lib.hid (next BB.out B7.out)
      clear IL LX X1 BA B7 c1' f1' LU BB
      generalize w6.setCell ⟨g6, m * 3 + 1, none⟩ (.bool (!(nthReceipt bs m).b)) = w7 at UP IL7 BB7 ⊢
      have hmr := i_MerkleRoot (some ⟨g', 0, none⟩) cap (leavesTo bs bs.length) w7 IL7.out (by rw [leavesTo_len]; omega)
      rw [HLe.out, leavesTo_len] at hmr
      refine hmr.mono ?_
      clear hmr
      rintro e w8 ⟨rfl, b8⟩
      have BB8 := Lib.hid (next BB7.out b8)
      have UP8 := Lib.hid ((UP.out.carry b8).lst)
      have hfl : (rootR (flip1 bs m) != rootR bs) = true := by simp; exact HFl.out m hml
      clear b8 UP BB7 IL7
      go_wp2_with fail
      have hrr := i_ReceiptsRoot (some ⟨g6, 0, none⟩) cap6 (flip1 bs m) w8 UP8.out (by rw [flip1_len]; omega)
      rw [flip1_len] at hrr
      refine hrr.mono ?_
      clear hrr
      rintro e w9 ⟨rfl, b9⟩
      have BB9 := Lib.hid (next BB8.out b9)
      clear b9
      go_wp2_with fail
      go_ret
      exact ⟨rfl, BB9.out⟩

set_option maxRecDepth 100000 in
theorem lifted (os : Os) (started : os.Started) (H : Type) (enc : TypeId × Value → H) :
    ReturnsInHanded {} Try.checked os 10 .any (Rows.fnReceiptsRootSpec.pre6 enc Try.prog Try.f10 Rows.fnReceiptsRootRow.domain false) (Rows.fnReceiptsRootSpec.post enc Try.prog Try.f10 false true false false) := by
  refine returnsInHanded_of_change (C := Try.checked) own started (by kernel_rfl) Try.func10
    (ChangeSpec.witness6 (enc := enc) (C := Try.checked) false ⟨#[], #[.slice none 0 0, .slice none 0 0], []⟩ 8 (by kernel_rfl) (by kernel_rfl) (by kernel_rfl) (by kernel_rfl)) ?_
  intro W base args ds gs before hval0 hW hcnd _
  have hval : ∀ (j : Nat) t v, Try.f10.params[j]? = some t → args[j]? = some v → Value.okWide Try.prog W .any base t v := hval0
  have hW' := hW
  obtain ⟨p, q, hA0, hV, rfl, hfz, hnd⟩ := hW
  have hA : DataW.TrodAll enc Try.prog W 0 (fun _ => true) true Try.f10.params.toList args.toList ds p := hA0
  rw [Try.params10] at hA hval
  obtain ⟨v0, vs0, d0, ds0, p0, q0, hargs, rfl, rfl, h0, r0⟩ := trodAll_cons hA
  obtain ⟨v1, vs1, d1, ds1, p1, q1, rfl, rfl, rfl, h1, r1⟩ := trodAll_cons r0
  obtain ⟨rfl, rfl, rfl⟩ := trodAll_nil r1
  obtain rfl : args = #[v0, v1] := by cases args; simp_all
  obtain ⟨rfl, rfl⟩ := trodVars_none hV
  obtain ⟨a0, len0, c0, rfl⟩ := okWide_slice Try.underlying38 (hval 0 38 v0 rfl rfl)
  have k0 := h0
  have lt0 : ∀ x ∈ p0, x.block < W.heap.size := by obtain ⟨m, hm⟩ := k0; exact DataW.trod_lt m _ _ _ hm
  obtain ⟨z0, rfl, w0⟩ := bytes_of_trod h0
  obtain ⟨a1, len1, c1, rfl⟩ := okWide_slice Try.underlying38 (hval 1 38 v1 rfl rfl)
  have k1 := h1
  have lt1 : ∀ x ∈ p1, x.block < W.heap.size := by obtain ⟨m, hm⟩ := k1; exact DataW.trod_lt m _ _ _ hm
  obtain ⟨z1, rfl, w1⟩ := bytes_of_trod h1
  clear hA0 hval0
  refine (walk a0 c0 z0 a1 c1 z1 W w0 w1).mono fun e W' ⟨he, bel⟩ => ?_
  subst he
  exact ⟨_, rfl, _, _, _, [], _, [], hW', trodAll_mk1 (shut_bool Try.underlying4 _), (trodAll_cons_mk (Below.trod laidOut (by kernel_rfl) (of_decide_eq_true (by kernel_rfl)) k0 bel lt0) (trodAll_cons_mk (Below.trod laidOut (by kernel_rfl) (of_decide_eq_true (by kernel_rfl)) k1 bel lt1) trodAll_mk0)), rfl, bel.frame _, fun h => by cases h⟩

theorem over : Rows.fnReceiptsRootRow.holds Try.pinned (OpenSpec.ofChange Rows.fnReceiptsRootSpec) :=
  OpenClaim.holds_of_wide 10 Try.f10 rfl rfl rfl rfl rfl rfl rfl ⟨rfl, rfl, rfl, rfl, rfl⟩ rfl rfl rfl rfl rfl (by kernel_rfl) Try.func10 (by kernel_rfl)
    (of_decide_eq_true (by kernel_rfl)) (by unfold Func.isWrapper; first | (rw [if_pos (by decide +kernel)]; kernel_rfl) | (rw [if_neg (by decide +kernel)]; exact ⟨rfl, rfl⟩))
    (fun os started H enc _ => lifted os started H enc)

/-- The given statement. -/
theorem proved : Rows.FnReceiptsRootSaid := over
#print axioms proved
end Go.Proofs.Ytdleibkkjnodlaa.lawReceiptsRoot
