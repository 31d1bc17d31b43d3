/- What the laws draw, further: lists of transactions. -/
import Derived.Test.YtdleibkkjnodlaaDraw6
import Derived.Test.YtdleibkkjnodlaaOwnTxn
namespace Go.Proofs.Ytdleibkkjnodlaa
open Go.RowKit
set_option linter.unusedVariables false

theorem ownTxn_set {w : World} {base g q j n cap : Nat} {bs : List VTxn} {u : Value} (h : OwnTxn w base (.slice (some ⟨g, 0, none⟩) n cap) bs) (hne : g ≠ q) : OwnTxn (w.setCell ⟨q, j, none⟩ u) base (.slice (some ⟨g, 0, none⟩) n cap) bs :=
  ⟨h.1.kept (row := some q) ⟨rfl, rfl, rfl, by simp [World.setCell], fun i hi hn => Below.heap_setCell w _ u i (by intro e; exact hn (by rw [e]))⟩ (.inr (by simpa [Value.ownBlock] using hne)), h.2⟩
/-- Transactions were drawn into new memory. -/
def DrawnTxns (w : World) (B r P : Nat) (e : Ending) (w' : World) : Prop :=
  ∃ (g c : Nat) (bs : List VTxn), e = .returned (.slice (some ⟨g, 0, none⟩) bs.length c) ∧ bs.length ≤ 17 ∧ LstUpTxn w' w.heap.size (some ⟨g, 0, none⟩) bs ∧ RdAt w' B r P ∧ w.grownBy w' (some r)
set_option maxHeartbeats 8000000 in
theorem s_l92Txns (w : World) (B r P : Nat) (h : RdAt w B r P) (hP : P ≤ 800000) :
    Calls Try.prog 51 #[.pointer (some ⟨r, 0, none⟩)] w (DrawnTxns w B r (P + 200)) := by
  have hrl := h.lt
  have H := Lib.hid (h.carry (allocB w (.cells #[] 46)))
  have O0 := Lib.hid (OwnTxn.start (w := w) (base := w.heap.size) (Nat.le_refl _))
  have G0 := Lib.hid (gr_alloc (gr_refl w r) (.cells #[] 46))
  clear h
  go_enter Try.func51, Try.ntmps51
  go_wp2_with fail
  refine (pick_any _ B r _ 9 H.out (by omega)).mono ?_
  rintro e w1 ⟨x1, rfl, hx1, _, hn1, hr1, hg1, hs1⟩
  have hl1 := hn1 (by omega)
  replace O0 := Lib.hid (O0.out.kept hg1 (fun q hq => by injection hq; omega))
  replace G0 := Lib.hid (G0.out.trans hg1)
  replace H := Lib.hid hr1
  clear hn1 hs1 hg1 hr1
  go_wp2_with fail
  refine (pick_any _ B r _ 14 H.out (by omega)).mono ?_
  rintro e w2 ⟨x2, rfl, hx2, _, hn2, hr2, hg2, hs2⟩
  have hl2 := hn2 (by omega)
  replace O0 := Lib.hid (O0.out.kept hg2 (fun q hq => by injection hq; omega))
  replace G0 := Lib.hid (G0.out.trans hg2)
  replace H := Lib.hid hr2
  clear hn2 hs2 hg2 hr2
  by_cases h2 : x2 = 0
  · have hb2 : (x2 == 0) = true := by simp [h2]
    clear h2
    go_wp2_with fail
    refine (pick_any _ B r _ 3 H.out (by omega)).mono ?_
    rintro e w3 ⟨x3, rfl, hx3, _, hn3, hr3, hg3, hs3⟩
    have hl3 := hn3 (by omega)
    replace O0 := Lib.hid (O0.out.kept hg3 (fun q hq => by injection hq; omega))
    replace G0 := Lib.hid (G0.out.trans hg3)
    replace H := Lib.hid hr3
    clear hn3 hs3 hg3 hr3
    obtain ⟨n, hn⟩ : ∃ n : Nat, 15 + x3 = (n : Int) := ⟨(15 + x3).toNat, by omega⟩
    have hn17 : n ≤ 17 := by omega
    go_wp2_with fail
    go_loopw [3, 5] (fun v i wr => ∃ (k g c : Nat) (bs : List VTxn), i = .int .i64 k ∧ k ≤ n ∧ bs.length = k ∧ v = .slice (some ⟨g, 0, none⟩) k c ∧ OwnTxn wr w.heap.size v bs ∧ RdAt wr B r (P + 3 + 8 * k) ∧ w.grownBy wr (some r)) (fun _ i _ => n - (intOf i).toNat)
    case atStart => exact ⟨0, w.heap.size, 0, [], rfl, Nat.zero_le _, rfl, rfl, O0.out, H.out.mono (by omega), G0.out⟩
    case round =>
      clear O0 H G0
      obtain ⟨k, g, c, bs, rfl, hk, hl, rfl, ho, hr, hg⟩ := hrel
      have HL := Lib.hid hl
      have HO := Lib.hid ho
      have HG := Lib.hid hg
      have HR := Lib.hid hr
      clear hl ho hg hr
      by_cases hlt : k < n
      · go_wp2_with fail
        refine (s_l92Txn _ B r _ HR.out (by omega)).mono ?_
        rintro e w4 ⟨f, t, s, x, rfl, hr4, hg4⟩
        replace HO := Lib.hid (HO.out.kept hg4 (fun q hq => by injection hq; omega))
        replace HG := Lib.hid (HG.out.trans hg4)
        replace HR := Lib.hid hr4
        have hz4 := HG.out.size
        have hgl := Own.lt HO.out g rfl
        clear hg4 hr4
        have ba := allocB w4 (.cells #[.int .i64 f, .int .i64 t, .int .i64 s, .int .i64 x] 46)
        replace HO := Lib.hid (HO.out.alloc (.cells #[.int .i64 f, .int .i64 t, .int .i64 s, .int .i64 x] 46))
        replace HG := Lib.hid (gr_alloc HG.out (.cells #[.int .i64 f, .int .i64 t, .int .i64 s, .int .i64 x] 46))
        replace HR := Lib.hid (HR.out.carry ba)
        have BX := Lib.hid (Box.new w4 #[.int .i64 f, .int .i64 t, .int .i64 s, .int .i64 x] 46)
        have hle : bs.length ≤ 10000000 := by have := HL.out; omega
        clear ba
        go_wp2_with fail
        generalize w4.alloc (.cells #[.int .i64 f, .int .i64 t, .int .i64 s, .int .i64 x] 46) = w4b at HO HG HR BX ⊢
        obtain ⟨q, hq⟩ : ∃ q, q = w4.heap.size := ⟨_, rfl⟩
        rw [← hq] at hz4 hgl BX ⊢
        clear hq
        refine (pick_any _ B r _ 3 HR.out (by omega)).mono ?_
        rintro e w5 ⟨x5, rfl, hx5, _, hn5, hr5, hg5, hs5⟩
        have hl5 := hn5 (by omega)
        replace HO := Lib.hid (HO.out.kept hg5 (fun q hq => by injection hq; omega))
        replace HG := Lib.hid (HG.out.trans hg5)
        replace HR := Lib.hid hr5
        replace BX := Lib.hid (BX.out.grown hg5 (fun k hk => by injection hk; omega))
        clear hn5 hs5 hg5 hr5
        by_cases h0 : 0 < x5
        · go_wp2_with fail
          refine (pick_any _ B r _ 3 HR.out (by omega)).mono ?_
          rintro e w6 ⟨x6, rfl, hx6, _, hn6, hr6, hg6, hs6⟩
          have hl6 := hn6 (by omega)
          replace HO := Lib.hid (HO.out.kept hg6 (fun q hq => by injection hq; omega))
          replace HG := Lib.hid (HG.out.trans hg6)
          replace HR := Lib.hid hr6
          replace BX := Lib.hid (BX.out.grown hg6 (fun k hk => by injection hk; omega))
          clear hn6 hs6 hg6 hr6
          have c0 := BX.out.cell (j := 0) (u := .int .i64 f) rfl
          have c1 := BX.out.cell (j := 1) (u := .int .i64 t) rfl
          have c2 := BX.out.cell (j := 2) (u := .int .i64 s) rfl
          have c3 := BX.out.cell (j := 3) (u := .int .i64 x) rfl
          have f0 := BX.out.free 0
          have f1 := BX.out.free 1
          have HOx := Lib.hid (ownTxn_set (j := 1) (u := .int .i64 (2 * x6 + 1)) (ownTxn_set (j := 0) (u := .int .i64 (2 * x6)) HO.out (show g ≠ q by omega)) (show g ≠ q by omega))
          have HGx := Lib.hid (gr_set (gr_set HG.out (show w.heap.size ≤ q by omega) 0 (.int .i64 (2 * x6))) (show w.heap.size ≤ q by omega) 1 (.int .i64 (2 * x6 + 1)))
          have HRx := Lib.hid ((HR.out.set (show r < q by omega) 0 (.int .i64 (2 * x6))).set (show r < q by omega) 1 (.int .i64 (2 * x6 + 1)))
          have hzx : w.heap.size ≤ ((w6.setCell ⟨q, 0, none⟩ (.int .i64 (2 * x6))).setCell ⟨q, 1, none⟩ (.int .i64 (2 * x6 + 1))).heap.size := HGx.out.size
          go_wp2_with (at_builtin; refine appendTxn (by rfl) _ _ (by rfl) _ w.heap.size _ bs ⟨2 * x6, 2 * x6 + 1, s, x⟩ (by rfl) HOx.out (by simp [Act.eval]) hle hzx ?_; intro g9 c9 w9 own9 hg9; rw [HL.out] at own9 ⊢)
          have O9 := Lib.hid own9
          have hge := HOx.out.base_le
          have G9 := Lib.hid (gr_own HGx.out hg9 hge)
          have R9 := Lib.hid (HRx.out.grown hg9 (fun q hq => by have := hge q hq; omega))
          clear own9 hg9 hge
          go_wp2_with fail
          go_roundw
          case rel => exact ⟨k + 1, g9, c9, bs ++ [⟨2 * x6, 2 * x6 + 1, s, x⟩], by go_num, by omega, by have := HL.out; simp; omega, rfl, O9.out, R9.out.mono (by omega), G9.out⟩
          case measure => simp [intOf]; omega
        · have c0 := BX.out.cell (j := 0) (u := .int .i64 f) rfl
          have c1 := BX.out.cell (j := 1) (u := .int .i64 t) rfl
          have c2 := BX.out.cell (j := 2) (u := .int .i64 s) rfl
          have c3 := BX.out.cell (j := 3) (u := .int .i64 x) rfl
          have HOx := HO
          have HGx := HG
          have HRx := HR
          have hzx := HG.out.size
          go_wp2_with (at_builtin; refine appendTxn (by rfl) _ _ (by rfl) _ w.heap.size _ bs ⟨f, t, s, x⟩ (by rfl) HOx.out (by simp [Act.eval]) hle hzx ?_; intro g9 c9 w9 own9 hg9; rw [HL.out] at own9 ⊢)
          have O9 := Lib.hid own9
          have hge := HOx.out.base_le
          have G9 := Lib.hid (gr_own HGx.out hg9 hge)
          have R9 := Lib.hid (HRx.out.grown hg9 (fun q hq => by have := hge q hq; omega))
          clear own9 hg9 hge
          go_wp2_with fail
          go_roundw
          case rel => exact ⟨k + 1, g9, c9, bs ++ [⟨f, t, s, x⟩], by go_num, by omega, by have := HL.out; simp; omega, rfl, O9.out, R9.out.mono (by omega), G9.out⟩
          case measure => simp [intOf]; omega
      · have e : k = n := by omega
        subst e
        go_wp2_with fail
        go_ret
        exact ⟨g, c, bs, ret_slice HL.out.symm, by have := HL.out; omega, HO.out.up.2.1, HR.out.mono (by omega), HG.out⟩
  · have hb2 : (x2 == 0) = false := by simp [h2]
    clear h2
    obtain ⟨n, rfl⟩ : ∃ n : Nat, x1 = (n : Int) := ⟨x1.toNat, by omega⟩
    have hn17 : n ≤ 17 := by omega
    go_wp2_with fail
    go_loopw [3, 5] (fun v i wr => ∃ (k g c : Nat) (bs : List VTxn), i = .int .i64 k ∧ k ≤ n ∧ bs.length = k ∧ v = .slice (some ⟨g, 0, none⟩) k c ∧ OwnTxn wr w.heap.size v bs ∧ RdAt wr B r (P + 3 + 8 * k) ∧ w.grownBy wr (some r)) (fun _ i _ => n - (intOf i).toNat)
    case atStart => exact ⟨0, w.heap.size, 0, [], rfl, Nat.zero_le _, rfl, rfl, O0.out, H.out.mono (by omega), G0.out⟩
    case round =>
      clear O0 H G0
      obtain ⟨k, g, c, bs, rfl, hk, hl, rfl, ho, hr, hg⟩ := hrel
      have HL := Lib.hid hl
      have HO := Lib.hid ho
      have HG := Lib.hid hg
      have HR := Lib.hid hr
      clear hl ho hg hr
      by_cases hlt : k < n
      · go_wp2_with fail
        refine (s_l92Txn _ B r _ HR.out (by omega)).mono ?_
        rintro e w4 ⟨f, t, s, x, rfl, hr4, hg4⟩
        replace HO := Lib.hid (HO.out.kept hg4 (fun q hq => by injection hq; omega))
        replace HG := Lib.hid (HG.out.trans hg4)
        replace HR := Lib.hid hr4
        have hz4 := HG.out.size
        have hgl := Own.lt HO.out g rfl
        clear hg4 hr4
        have ba := allocB w4 (.cells #[.int .i64 f, .int .i64 t, .int .i64 s, .int .i64 x] 46)
        replace HO := Lib.hid (HO.out.alloc (.cells #[.int .i64 f, .int .i64 t, .int .i64 s, .int .i64 x] 46))
        replace HG := Lib.hid (gr_alloc HG.out (.cells #[.int .i64 f, .int .i64 t, .int .i64 s, .int .i64 x] 46))
        replace HR := Lib.hid (HR.out.carry ba)
        have BX := Lib.hid (Box.new w4 #[.int .i64 f, .int .i64 t, .int .i64 s, .int .i64 x] 46)
        have hle : bs.length ≤ 10000000 := by have := HL.out; omega
        clear ba
        go_wp2_with fail
        generalize w4.alloc (.cells #[.int .i64 f, .int .i64 t, .int .i64 s, .int .i64 x] 46) = w4b at HO HG HR BX ⊢
        obtain ⟨q, hq⟩ : ∃ q, q = w4.heap.size := ⟨_, rfl⟩
        rw [← hq] at hz4 hgl BX ⊢
        clear hq
        refine (pick_any _ B r _ 3 HR.out (by omega)).mono ?_
        rintro e w5 ⟨x5, rfl, hx5, _, hn5, hr5, hg5, hs5⟩
        have hl5 := hn5 (by omega)
        replace HO := Lib.hid (HO.out.kept hg5 (fun q hq => by injection hq; omega))
        replace HG := Lib.hid (HG.out.trans hg5)
        replace HR := Lib.hid hr5
        replace BX := Lib.hid (BX.out.grown hg5 (fun k hk => by injection hk; omega))
        clear hn5 hs5 hg5 hr5
        by_cases h0 : 0 < x5
        · go_wp2_with fail
          refine (pick_any _ B r _ 3 HR.out (by omega)).mono ?_
          rintro e w6 ⟨x6, rfl, hx6, _, hn6, hr6, hg6, hs6⟩
          have hl6 := hn6 (by omega)
          replace HO := Lib.hid (HO.out.kept hg6 (fun q hq => by injection hq; omega))
          replace HG := Lib.hid (HG.out.trans hg6)
          replace HR := Lib.hid hr6
          replace BX := Lib.hid (BX.out.grown hg6 (fun k hk => by injection hk; omega))
          clear hn6 hs6 hg6 hr6
          have c0 := BX.out.cell (j := 0) (u := .int .i64 f) rfl
          have c1 := BX.out.cell (j := 1) (u := .int .i64 t) rfl
          have c2 := BX.out.cell (j := 2) (u := .int .i64 s) rfl
          have c3 := BX.out.cell (j := 3) (u := .int .i64 x) rfl
          have f0 := BX.out.free 0
          have f1 := BX.out.free 1
          have HOx := Lib.hid (ownTxn_set (j := 1) (u := .int .i64 (2 * x6 + 1)) (ownTxn_set (j := 0) (u := .int .i64 (2 * x6)) HO.out (show g ≠ q by omega)) (show g ≠ q by omega))
          have HGx := Lib.hid (gr_set (gr_set HG.out (show w.heap.size ≤ q by omega) 0 (.int .i64 (2 * x6))) (show w.heap.size ≤ q by omega) 1 (.int .i64 (2 * x6 + 1)))
          have HRx := Lib.hid ((HR.out.set (show r < q by omega) 0 (.int .i64 (2 * x6))).set (show r < q by omega) 1 (.int .i64 (2 * x6 + 1)))
          have hzx : w.heap.size ≤ ((w6.setCell ⟨q, 0, none⟩ (.int .i64 (2 * x6))).setCell ⟨q, 1, none⟩ (.int .i64 (2 * x6 + 1))).heap.size := HGx.out.size
          go_wp2_with (at_builtin; refine appendTxn (by rfl) _ _ (by rfl) _ w.heap.size _ bs ⟨2 * x6, 2 * x6 + 1, s, x⟩ (by rfl) HOx.out (by simp [Act.eval]) hle hzx ?_; intro g9 c9 w9 own9 hg9; rw [HL.out] at own9 ⊢)
          have O9 := Lib.hid own9
          have hge := HOx.out.base_le
          have G9 := Lib.hid (gr_own HGx.out hg9 hge)
          have R9 := Lib.hid (HRx.out.grown hg9 (fun q hq => by have := hge q hq; omega))
          clear own9 hg9 hge
          go_wp2_with fail
          go_roundw
          case rel => exact ⟨k + 1, g9, c9, bs ++ [⟨2 * x6, 2 * x6 + 1, s, x⟩], by go_num, by omega, by have := HL.out; simp; omega, rfl, O9.out, R9.out.mono (by omega), G9.out⟩
          case measure => simp [intOf]; omega
        · have c0 := BX.out.cell (j := 0) (u := .int .i64 f) rfl
          have c1 := BX.out.cell (j := 1) (u := .int .i64 t) rfl
          have c2 := BX.out.cell (j := 2) (u := .int .i64 s) rfl
          have c3 := BX.out.cell (j := 3) (u := .int .i64 x) rfl
          have HOx := HO
          have HGx := HG
          have HRx := HR
          have hzx := HG.out.size
          go_wp2_with (at_builtin; refine appendTxn (by rfl) _ _ (by rfl) _ w.heap.size _ bs ⟨f, t, s, x⟩ (by rfl) HOx.out (by simp [Act.eval]) hle hzx ?_; intro g9 c9 w9 own9 hg9; rw [HL.out] at own9 ⊢)
          have O9 := Lib.hid own9
          have hge := HOx.out.base_le
          have G9 := Lib.hid (gr_own HGx.out hg9 hge)
          have R9 := Lib.hid (HRx.out.grown hg9 (fun q hq => by have := hge q hq; omega))
          clear own9 hg9 hge
          go_wp2_with fail
          go_roundw
          case rel => exact ⟨k + 1, g9, c9, bs ++ [⟨f, t, s, x⟩], by go_num, by omega, by have := HL.out; simp; omega, rfl, O9.out, R9.out.mono (by omega), G9.out⟩
          case measure => simp [intOf]; omega
      · have e : k = n := by omega
        subst e
        go_wp2_with fail
        go_ret
        exact ⟨g, c, bs, ret_slice HL.out.symm, by have := HL.out; omega, HO.out.up.2.1, HR.out.mono (by omega), HG.out⟩
set_option maxHeartbeats 2000000 in
theorem s_DrawLanesOf (A : Option Addr) (c : Nat) (zs : List Int) (w : World) (h : Bytes w w.heap.size A zs) (hc : zs.length ≤ c) (hn : zs.length ≤ 1048576) :
    Calls Try.prog 24 #[.slice A zs.length c] w fun e w' => ∃ (g c : Nat) (bs : List VTxn), e = .returned (.slice (some ⟨g, 0, none⟩) bs.length c) ∧ bs.length ≤ 17 ∧ LstUpTxn w' w.heap.size (some ⟨g, 0, none⟩) bs ∧ Below w.heap.size w w' := by
  go_enter Try.func24, Try.ntmps24
  go_wp2_with fail
  refine (l6Open_any A c zs w h hc hn).mono ?_
  rintro e w1 ⟨rfl, hr, hb, hs⟩
  have HR := Lib.hid hr
  have HB := Lib.hid hb
  have hz := hb.size
  clear hr hb h hs
  go_wp2_with fail
  refine (s_l92Txns _ _ _ _ HR.out (by omega)).mono ?_
  rintro e w2 ⟨g, c2, bs, rfl, hl, hu, hr2, hg2⟩
  have HU := Lib.hid (hu.less hz)
  have HB2 := Lib.hid (HB.out.trans (gr_to_below hg2 (Nat.le_refl _) hz))
  clear hu hr2 hg2
  go_wp2_with fail
  go_ret
  exact ⟨g, c2, bs, rfl, hl, HU.out, HB2.out⟩
set_option maxHeartbeats 2000000 in
theorem s_DrawLanesDepth (A : Option Addr) (c : Nat) (zs : List Int) (w : World) (h : Bytes w w.heap.size A zs) (hc : zs.length ≤ c) (hn : zs.length ≤ 1048576) :
    Calls Try.prog 22 #[.slice A zs.length c] w fun e w' => ∃ (g c : Nat) (bs : List VTxn), e = .returned (.slice (some ⟨g, 0, none⟩) bs.length c) ∧ bs.length ≤ 17 ∧ LstUpTxn w' w.heap.size (some ⟨g, 0, none⟩) bs ∧ Below w.heap.size w w' := by
  go_enter Try.func22, Try.ntmps22
  go_wp2_with fail
  refine (l6Open_any A c zs w h hc hn).mono ?_
  rintro e w1 ⟨rfl, hr, hb, hs⟩
  have HR := Lib.hid hr
  have HB := Lib.hid hb
  have hz := hb.size
  clear hr hb h hs
  go_wp2_with fail
  refine (s_l92Txns _ _ _ _ HR.out (by omega)).mono ?_
  rintro e w2 ⟨g, c2, bs, rfl, hl, hu, hr2, hg2⟩
  have HU := Lib.hid (hu.less hz)
  have HB2 := Lib.hid (HB.out.trans (gr_to_below hg2 (Nat.le_refl _) hz))
  clear hu hr2 hg2
  go_wp2_with fail
  go_ret
  exact ⟨g, c2, bs, rfl, hl, HU.out, HB2.out⟩
end Go.Proofs.Ytdleibkkjnodlaa
