/- The law FnTallyInnocent holds for every input: nobody is guilty without a contradiction. -/
import Derived.Test.YtohnodphlaoohaaGuilty2
import Derived.Test.YtohnodphlaoohaaDrawG
import Derived.Test.YtohnodphlaoohaaArgs
namespace Go.Proofs.Ytohnodphlaoohaa.lawTallyInnocent
open Go.ChangeShapes Go.WideShapes Go.ChangeAt Go.RowKit
set_option linter.unusedVariables false

set_option maxHeartbeats 1000000 in
theorem sameInts_same (A A' : Option Addr) (c c' : Nat) (zs : List Int) (w : World) (B : Nat) (h : Ints w B A zs) (h' : Ints w B A' zs) (hn : zs.length ≤ 1048576) :
    Calls Try.prog 24 #[.slice A zs.length c, .slice A' zs.length c'] w fun e w' => e = .returned (.bool true) ∧ Quiet w w' := by
  have hl' : ((zs.length : Int) != (zs.length : Int)) = false := by simp
  go_enter Try.func24, Try.ntmps24
  go_wp2
  go_loopw [5] (fun i wr => ∃ k : Nat, k ≤ zs.length ∧ i = .int .i64 k ∧ Quiet w wr) (fun i _ => zs.length - (intOf i).toNat)
  case atStart => exact ⟨0, Nat.zero_le _, rfl, Quiet.refl _⟩
  case round =>
    obtain ⟨k, hk, rfl, hq⟩ := hrel
    have HQ := Lib.hid hq
    by_cases hlt : k < zs.length
    · have hd : decide (k < zs.length) = true := by simpa using hlt
      obtain ⟨b, off, rfl, hbb, hc⟩ := (h.quiet hq).at_ hlt
      obtain ⟨b', off', rfl, hbb', hc'⟩ := (h'.quiet hq).at_ hlt
      have hck := hc k hlt
      have hck' := hc' k hlt
      have hi0 : (0 : Int) ≤ (k : Int) := by omega
      have hi1 : (k : Int) < (zs.length : Int) := by omega
      have hne : (nth zs k != nth zs k) = false := by simp
      clear hc hc' h h' hq
      go_wp2
      first
        | (go_quiet (fail)
           go_wp2
           go_roundw
           case rel => exact ⟨k + 1, by omega, by go_num, HQ.out.trans ⟨_, rfl⟩⟩
           case measure => simp [intOf]; omega)
        | (go_roundw
           case rel => exact ⟨k + 1, by omega, by go_num, HQ.out⟩
           case measure => simp [intOf]; omega)
    · have hd : decide (k < zs.length) = false := by simpa using hlt
      clear h h' hq
      go_wp2
      go_ret
      exact ⟨rfl, HQ.out⟩

theorem i_guilty (A A1 A2 : Option Addr) (c c1 c2 : Nat) (zs ms ns : List Int) (r a d r' a' d' : Int) (w : World) (hz : Ints w w.heap.size A zs) (hm : Ints w w.heap.size A1 ms) (hn : Ints w w.heap.size A2 ns) (lz : zs.length ≤ 1048576) (lm : ms.length ≤ 1048576) (ln : ns.length ≤ 1048576) :
    Calls Try.prog 22 #[.slice A zs.length c, .agg #[.int .i64 r, .int .i64 a, .int .i64 d, .slice A1 ms.length c1], .agg #[.int .i64 r', .int .i64 a', .int .i64 d', .slice A2 ns.length c2]] w (MadeO w (guilty zs ms ns r a d r' a' d')) := by
  rcases h1 : tallyB zs ms r a d with _ | _
  · have e : guilty zs ms ns r a d r' a' d' = [] := by simp [guilty, guiltB, h1]
    rw [e]; exact i_TallyGuilty_no A A1 A2 c c1 c2 zs ms ns r a d r' a' d' w hz hm hn lz lm ln (.inl h1)
  · rcases h2 : tallyB zs ns r' a' d' with _ | _
    · have e : guilty zs ms ns r a d r' a' d' = [] := by simp [guilty, guiltB, h1, h2]
      rw [e]; exact i_TallyGuilty_no A A1 A2 c c1 c2 zs ms ns r a d r' a' d' w hz hm hn lz lm ln (.inr ⟨h1, h2⟩)
    · rcases h3 : contraI r a d r' a' d' with _ | _
      · have e : guilty zs ms ns r a d r' a' d' = [] := by simp [guilty, guiltB, h1, h2, h3]
        rw [e]; exact i_TallyGuilty_same A A1 A2 c c1 c2 zs ms ns r a d r' a' d' w hz hm hn lz lm ln h1 h2 h3
      · have e : guilty zs ms ns r a d r' a' d' = commonL ms ns := by simp [guilty, guiltB, h1, h2, h3]
        rw [e]; exact i_TallyGuilty_con A A1 A2 c c1 c2 zs ms ns r a d r' a' d' w hz hm hn lz lm ln h1 h2 h3
theorem s_guilty (A A1 A2 : Option Addr) (c c1 c2 : Nat) (zs ms ns : List Int) (r a d r' a' d' : Int) (w : World) (hz : Ints w w.heap.size A zs) (hm : Ints w w.heap.size A1 ms) (hn : Ints w w.heap.size A2 ns) (lz : zs.length ≤ 1048576) (lm : ms.length ≤ 1048576) (ln : ns.length ≤ 1048576) :
    Calls Try.prog 23 #[.slice A zs.length c, .agg #[.int .i64 r, .int .i64 a, .int .i64 d, .slice A1 ms.length c1], .agg #[.int .i64 r', .int .i64 a', .int .i64 d', .slice A2 ns.length c2]] w (MadeO w (guilty zs ms ns r a d r' a' d')) := by
  rcases h1 : tallyB zs ms r a d with _ | _
  · have e : guilty zs ms ns r a d r' a' d' = [] := by simp [guilty, guiltB, h1]
    rw [e]; exact s_TallyGuilty_no A A1 A2 c c1 c2 zs ms ns r a d r' a' d' w hz hm hn lz lm ln (.inl h1)
  · rcases h2 : tallyB zs ns r' a' d' with _ | _
    · have e : guilty zs ms ns r a d r' a' d' = [] := by simp [guilty, guiltB, h1, h2]
      rw [e]; exact s_TallyGuilty_no A A1 A2 c c1 c2 zs ms ns r a d r' a' d' w hz hm hn lz lm ln (.inr ⟨h1, h2⟩)
    · rcases h3 : contraI r a d r' a' d' with _ | _
      · have e : guilty zs ms ns r a d r' a' d' = [] := by simp [guilty, guiltB, h1, h2, h3]
        rw [e]; exact s_TallyGuilty_same A A1 A2 c c1 c2 zs ms ns r a d r' a' d' w hz hm hn lz lm ln h1 h2 h3
      · have e : guilty zs ms ns r a d r' a' d' = commonL ms ns := by simp [guilty, guiltB, h1, h2, h3]
        rw [e]; exact s_TallyGuilty_con A A1 A2 c c1 c2 zs ms ns r a d r' a' d' w hz hm hn lz lm ln h1 h2 h3
theorem guilty_len {zs ms ns : List Int} {r a d r' a' d' : Int} : (guilty zs ms ns r a d r' a' d').length ≤ ms.length := by
  unfold guilty; split
  · exact List.length_filter_le _ _
  · simp
theorem guilty_no {zs ms ns : List Int} {r a d r' a' d' : Int} (h : contraI r a d r' a' d' = false) : guilty zs ms ns r a d r' a' d' = [] := by simp [guilty, guiltB, h]
theorem guilty_some {zs ms ns : List Int} {r a d r' a' d' : Int} (h : (guilty zs ms ns r a d r' a' d').length ≠ 0) : guilty zs ms ns r a d r' a' d' = commonL ms ns := by
  unfold guilty at h ⊢
  split
  · rfl
  · rename_i hh; rw [if_neg hh] at h; simp at h
set_option maxHeartbeats 8000000 in
theorem walk (a0 : Option Addr) (c0 : Nat) (z0 : List Int) (w : World) (h0 : Bytes w w.heap.size a0 z0 ∧ z0.length ≤ c0) :
    Calls Try.prog 4 #[.slice a0 z0.length c0] w fun e w' => e = .returned (.bool true) ∧ Below w.heap.size w w' := by
  by_cases hbig0 : (1048576 : Int) < z0.length
  · go_enter Try.func4, Try.ntmps4
    go_wp2_with fail
    go_ret
    exact ⟨rfl, Below.refl _ _⟩
  have hn0 : z0.length ≤ 1048576 := by omega
  have H0 := Lib.hid h0
  clear h0
  go_enter Try.func4, Try.ntmps4
  go_wp2_with fail
  refine (s_DrawTallyGuilty _ _ _ _ H0.out.1 H0.out.2 hn0).mono ?_
  rintro e w1 ⟨g, c, zs, v, u, gm, cm, ms, gn, cn, ns, rfl, l1, l2, l3, iz, im, jn, b1⟩
  have ba := allocB2 w1 (.cells #[.int .i64 v.r, .int .i64 v.a, .int .i64 v.d, .slice (some ⟨gm, 0, none⟩) ms.length cm] 37) (.cells #[.int .i64 u.r, .int .i64 u.a, .int .i64 u.d, .slice (some ⟨gn, 0, none⟩) ns.length cn] 37)
  have LZ := Lib.hid (iz.carry ba)
  have LM := Lib.hid (im.carry ba)
  have LN := Lib.hid (jn.carry ba)
  have BB := Lib.hid (next b1 ba)
  clear iz im jn b1 ba
  obtain ⟨gl, hgl⟩ : ∃ gl, guilty zs ms ns v.r v.a v.d u.r u.a u.d = gl := ⟨_, rfl⟩
  have hll : gl.length ≤ 12 := by have := guilty_len (zs := zs) (ms := ms) (ns := ns) (r := v.r) (a := v.a) (d := v.d) (r' := u.r) (a' := u.a) (d' := u.d); rw [hgl] at this; omega
  have HGL := Lib.hid hgl
  clear hgl
  go_wp2_with fail
  refine (i_guilty _ _ _ _ _ _ zs ms ns _ _ _ _ _ _ _ LZ.out LM.out LN.out (by omega) (by omega) (by omega)).mono ?_
  rw [HGL.out]
  rintro e w2 ⟨g2, c2, rfl, o2, b2⟩
  have x0 := keepc (b := w1.heap.size) (off := 0) (v := .int .i64 v.r) b2 (by simp)
  have x1 := keepc (b := w1.heap.size) (off := 1) (v := .int .i64 v.a) b2 (by simp)
  have x2 := keepc (b := w1.heap.size) (off := 2) (v := .int .i64 v.d) b2 (by simp)
  have x3 := keepc (b := w1.heap.size) (off := 3) (v := .slice (some ⟨gm, 0, none⟩) ms.length cm) b2 (by simp)
  have y0 := keepc (b := w1.heap.size + 1) (off := 0) (v := .int .i64 u.r) b2 (by simp)
  have y1 := keepc (b := w1.heap.size + 1) (off := 1) (v := .int .i64 u.a) b2 (by simp)
  have y2 := keepc (b := w1.heap.size + 1) (off := 2) (v := .int .i64 u.d) b2 (by simp)
  have y3 := keepc (b := w1.heap.size + 1) (off := 3) (v := .slice (some ⟨gn, 0, none⟩) ns.length cn) b2 (by simp)
  replace LZ := Lib.hid (LZ.out.carry b2)
  replace LM := Lib.hid (LM.out.carry b2)
  replace LN := Lib.hid (LN.out.carry b2)
  replace BB := Lib.hid (next BB.out b2)
  have LG := Lib.hid o2.up.2.1.ints
  clear o2 b2
  go_wp2_with fail
  refine (s_guilty _ _ _ _ _ _ zs ms ns _ _ _ _ _ _ _ LZ.out LM.out LN.out (by omega) (by omega) (by omega)).mono ?_
  rw [HGL.out]
  rintro e w3 ⟨g3, c3, rfl, o3, b3⟩
  replace LZ := Lib.hid (LZ.out.carry b3)
  replace LM := Lib.hid (LM.out.carry b3)
  replace LN := Lib.hid (LN.out.carry b3)
  replace LG := Lib.hid (LG.out.carry b3)
  replace x0 := keepc b3 x0
  replace x1 := keepc b3 x1
  replace x2 := keepc b3 x2
  replace x3 := keepc b3 x3
  replace y0 := keepc b3 y0
  replace y1 := keepc b3 y1
  replace y2 := keepc b3 y2
  replace y3 := keepc b3 y3
  replace BB := Lib.hid (next BB.out b3)
  have LW := Lib.hid o3.up.2.1.ints
  clear o3 b3
  go_wp2_with fail
  refine (sameInts_same _ _ _ _ gl _ _ LG.out LW.out (by omega)).mono ?_
  rintro e w4 ⟨rfl, q4⟩
  have b4 := q4.below w3.heap.size
  replace LZ := Lib.hid (LZ.out.carry b4)
  replace LM := Lib.hid (LM.out.carry b4)
  replace LN := Lib.hid (LN.out.carry b4)
  replace LG := Lib.hid (LG.out.carry b4)
  replace LW := Lib.hid (LW.out.carry b4)
  replace x0 := keepc b4 x0
  replace x1 := keepc b4 x1
  replace x2 := keepc b4 x2
  replace x3 := keepc b4 x3
  replace y0 := keepc b4 y0
  replace y1 := keepc b4 y1
  replace y2 := keepc b4 y2
  replace y3 := keepc b4 y3
  replace BB := Lib.hid (next BB.out b4)
  clear b4 q4
  rcases hc : contraI v.r v.a v.d u.r u.a u.d with _ | _
  · have hg0 : gl = [] := HGL.out.symm.trans (guilty_no hc)
    have hl0 : ((gl.length : Int) == 0) = true := by simp [hg0]
    have h4 : v.r ≠ u.r ∨ (v.r = u.r ∧ v.a ≠ u.a) ∨ (v.r = u.r ∧ v.a = u.a ∧ v.d = u.d) := by
      simp only [contraI, Bool.and_eq_false_iff, decide_eq_false_iff_not, Bool.not_eq_false', decide_eq_true_eq] at hc
      by_cases e1 : v.r = u.r
      · by_cases e2 : v.a = u.a
        · right; right; exact ⟨e1, e2, by rcases hc with h | h | h; (· exact absurd e1 h); (· exact absurd e2 h); (· exact h)⟩
        · exact .inr (.inl ⟨e1, e2⟩)
      · exact .inl e1
    clear hc hg0
    rcases h4 with h | ⟨h, h'⟩ | ⟨h, h', h''⟩
    · have b1 : (v.r != u.r) = true := by simpa using h
      clear h
      go_wp2_with fail
      go_ret
      exact ⟨rfl, BB.out⟩
    · have b1 : (v.r != u.r) = false := by simp [h]
      have b2 : (v.a != u.a) = true := by simpa using h'
      clear h h'
      go_wp2_with fail
      go_ret
      exact ⟨rfl, BB.out⟩
    · have b1 : (v.r != u.r) = false := by simp [h]
      have b2 : (v.a != u.a) = false := by simp [h']
      have b3 : (v.d == u.d) = true := by simp [h'']
      clear h h' h''
      go_wp2_with fail
      go_ret
      exact ⟨rfl, BB.out⟩
  · have h4 : v.r = u.r ∧ v.a = u.a ∧ v.d ≠ u.d := by simpa [contraI] using hc
    obtain ⟨h, h', h''⟩ := h4
    have b1 : (v.r != u.r) = false := by simp [h]
    have b2 : (v.a != u.a) = false := by simp [h']
    have b3 : (v.d == u.d) = false := by simp [h'']
    clear hc h h' h''
    by_cases hz : gl.length = 0
    · have hl0 : ((gl.length : Int) == 0) = true := by simp [hz]
      clear hz
      go_wp2_with fail
      go_ret
      exact ⟨rfl, BB.out⟩
    · have hl0 : ((gl.length : Int) == 0) = false := by simpa using fun e => hz (by rw [e]; rfl)
      have hcm : commonL ms ns = gl := by
        have := guilty_some (zs := zs) (ms := ms) (ns := ns) (r := v.r) (a := v.a) (d := v.d) (r' := u.r) (a' := u.a) (d' := u.d) (by rw [HGL.out]; exact hz)
        exact this.symm.trans HGL.out
      have HCM := Lib.hid hcm
      clear hcm hz
      go_wp2_with fail
      refine (l_common _ _ _ _ ms ns _ LM.out LN.out (by omega) (by omega)).mono ?_
      rw [HCM.out]
      rintro e w5 ⟨g5, c5, rfl, u5, l5, b5⟩
      replace LG := Lib.hid (LG.out.carry b5)
      replace BB := Lib.hid (next BB.out b5)
      have LC := Lib.hid u5.ints
      clear u5 b5
      go_wp2_with fail
      refine (sameInts_same _ _ _ _ gl _ _ LG.out LC.out (by omega)).mono ?_
      rintro e w6 ⟨rfl, q6⟩
      replace BB := Lib.hid (next BB.out (q6.below _))
      clear q6
      go_wp2_with fail
      go_ret
      exact ⟨rfl, BB.out⟩

set_option maxRecDepth 100000 in
theorem lifted (os : Os) (started : os.Started) (H : Type) (enc : TypeId × Value → H) :
    ReturnsInHanded {} Try.checked os 4 .any (Rows.fnTallyInnocentSpec.pre6 enc Try.prog Try.f4 Rows.fnTallyInnocentRow.domain false) (Rows.fnTallyInnocentSpec.post enc Try.prog Try.f4 false true false false) := by
  refine returnsInHanded_of_change (C := Try.checked) own started (by kernel_rfl) Try.func4
    (ChangeSpec.witness6 (enc := enc) (C := Try.checked) false ⟨#[], #[.slice none 0 0], []⟩ 8 (by kernel_rfl) (by kernel_rfl) (by kernel_rfl) (by kernel_rfl)) ?_
  intro W base args ds gs before hval0 hW hcnd _
  have hval : ∀ (j : Nat) t v, Try.f4.params[j]? = some t → args[j]? = some v → Value.okWide Try.prog W .any base t v := hval0
  have hW' := hW
  obtain ⟨p, q, hA0, hV, rfl, hfz, hnd⟩ := hW
  have hA : DataW.TrodAll enc Try.prog W 0 (fun _ => true) true Try.f4.params.toList args.toList ds p := hA0
  rw [Try.params4] at hA hval
  obtain ⟨v0, vs0, d0, ds0, p0, q0, hargs, rfl, rfl, h0, r0⟩ := trodAll_cons hA
  obtain ⟨rfl, rfl, rfl⟩ := trodAll_nil r0
  obtain rfl : args = #[v0] := by cases args; simp_all
  obtain ⟨rfl, rfl⟩ := trodVars_none hV
  obtain ⟨a0, len0, c0, rfl⟩ := okWide_slice Try.underlying33 (hval 0 33 v0 rfl rfl)
  have k0 := h0
  have lt0 : ∀ x ∈ p0, x.block < W.heap.size := by obtain ⟨m, hm⟩ := k0; exact DataW.trod_lt m _ _ _ hm
  obtain ⟨z0, rfl, w0⟩ := bytes_of_trod h0
  clear hA0 hval0
  refine (walk a0 c0 z0 W w0).mono fun e W' ⟨he, bel⟩ => ?_
  subst he
  exact ⟨_, rfl, _, _, _, [], _, [], hW', trodAll_mk1 (shut_bool Try.underlying4 _), (trodAll_cons_mk (Below.trod laidOut (by kernel_rfl) (of_decide_eq_true (by kernel_rfl)) k0 bel lt0) trodAll_mk0), rfl, bel.frame _, fun h => by cases h⟩

theorem over : Rows.fnTallyInnocentRow.holds Try.pinned (OpenSpec.ofChange Rows.fnTallyInnocentSpec) :=
  OpenClaim.holds_of_wide 4 Try.f4 rfl rfl rfl rfl rfl rfl rfl ⟨rfl, rfl, rfl, rfl, rfl⟩ rfl rfl rfl rfl rfl (by kernel_rfl) Try.func4 (by kernel_rfl)
    (of_decide_eq_true (by kernel_rfl)) (by unfold Func.isWrapper; first | (rw [if_pos (by decide +kernel)]; kernel_rfl) | (rw [if_neg (by decide +kernel)]; exact ⟨rfl, rfl⟩))
    (fun os started H enc _ => lifted os started H enc)

/-- The given statement. -/
theorem proved : Rows.FnTallyInnocentSaid := over
#print axioms proved
end Go.Proofs.Ytohnodphlaoohaa.lawTallyInnocent
