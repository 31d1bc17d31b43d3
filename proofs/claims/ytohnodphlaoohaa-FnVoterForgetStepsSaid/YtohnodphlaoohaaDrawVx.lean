/- The contract of the reference's l92Voter: it hands back a voter of at most 59 votes, its list nil or made by the call; of the old memory only the reader changes. -/
import Derived.Test.YtohnodphlaoohaaVoSt
import Derived.Test.YtohnodphlaoohaaVoSame
import Derived.Test.YtohnodphlaoohaaDraw6
import Derived.Deep.RegionHeld3
import Derived.Deep.DeepCutAuto
namespace Go.Proofs.Ytohnodphlaoohaa
open Go.RowKit
set_option linter.unusedVariables false
set_option linter.unusedSimpArgs false

/-- The two cells of the voter's box. -/
def TwoX (x : Nat) (f : Int) (A : Option Addr) (n c : Nat) (W : World) : Prop := W.cell? ⟨x, 0, none⟩ = some (.int .i64 f) ∧ W.cell? ⟨x, 1, none⟩ = some (.slice A n c)
theorem Vo.two {w W : World} {B r P x : Nat} {f : Int} {A : Option Addr} {c : Nat} {bs : List VVote} (h : Vo w B r P x f A c bs W) : TwoX x f A bs.length c W := ⟨h.xb.cell rfl, h.xb.cell rfl⟩
set_option maxHeartbeats 16000000 in
set_option maxRecDepth 100000 in
theorem s_l92Voter (w : World) (B r P : Nat) (h : RdAt w B r P) (hP : P ≤ 800000) :
    Calls Try.prog 85 #[.pointer (some ⟨r, 0, none⟩)] w (DrawnVoter w B r (P + 300)) := by
  have hrl := h.lt
  have H := Lib.hid h
  clear h
  go_enter Try.func85, Try.ntmps85
  go_wp2_with fail
  refine (pick_any _ B r _ 3 (H.out.carry (allocB _ _)) (by omega)).mono ?_
  rintro e w1 ⟨x1, rfl, hx1, _, hn1, hr1, hg1, hs1⟩
  have hl1 := hn1 (by omega)
  have b1 := (Box.new w #[.int .i64 0, .slice none 0 0] 50).grown hg1 (fun k hk => by injection hk; omega)
  have g1 := (gr_alloc (gr_refl w r) (.cells #[.int .i64 0, .slice none 0 0] 50)).trans hg1
  have z1 : w.heap.size + 1 ≤ w1.heap.size := by have := hg1.size; simpa using this
  have R1 := Lib.hid hr1
  have B1 := Lib.hid b1
  have G1 := Lib.hid g1
  clear hn1 hs1 hg1 hr1 b1 g1
  go_wp2_with fail
  refine (pick_any _ B r _ 2 R1.out (by omega)).mono ?_
  rintro e w2 ⟨x2, rfl, hx2, _, hn2, hr2, hg2, hs2⟩
  have hl2 := hn2 (by omega)
  have hm2 : x1 * x2 = 0 ∨ x1 * x2 = x1 := by
    rcases (show x2 = 0 ∨ x2 = 1 by omega) with e | e
    · subst e; simp
    · subst e; simp
  have b2 := B1.out.grown hg2 (fun k hk => by injection hk; omega)
  have g2 := G1.out.trans hg2
  have z2 : w.heap.size + 1 ≤ w2.heap.size := Nat.le_trans z1 hg2.size
  have hwm : IntKind.i64.wrap (x1 * x2) = x1 * x2 := IntWalk.i64_in _ (by omega)
  obtain ⟨f, hf⟩ : ∃ f, x1 * x2 = f := ⟨_, rfl⟩
  have S2 := Lib.hid (show Vo w B r (P + 2) (w2.heap.size + 1) f (some ⟨w2.heap.size, 0, none⟩) 0 [] ((w2.alloc (.cells #[] 35)).alloc (.cells #[.int .i64 f, .slice (some ⟨w2.heap.size, 0, none⟩) 0 0] 50)) from
    ⟨hr2.carry (allocB2 w2 _ _), gr_alloc (gr_alloc g2 _) _, b2.carry (allocB2 w2 _ _), by have := Box.new (w2.alloc (.cells #[] 35)) #[.int .i64 f, .slice (some ⟨w2.heap.size, 0, none⟩) 0 0] 50; simpa using this, .inr ((OwnVote.start z2).alloc _), by omega, hrl⟩)
  rw [hf] at hwm
  have HF := Lib.hid hf
  have hfb : 0 ≤ f ∧ f ≤ 2 := by omega
  clear hn2 hs2 hg2 hr2 b2 g2 R1 B1 G1 hm2 hf
  go_wp2_with fail
  rw [HF.out, show wrap64 f = f from by unfold wrap64; omega]
  have hx3 : w.heap.size < w2.heap.size + 1 := by omega
  generalize ((w2.alloc (.cells #[] 35)).alloc (.cells #[.int .i64 f, .slice (some ⟨w2.heap.size, 0, none⟩) 0 0] 50)) = w3 at S2 ⊢
  generalize w2.heap.size + 1 = x at S2 hx3 ⊢
  refine (pick_any _ B r _ 14 S2.out.rd (by omega)).mono ?_
  rintro e w4 ⟨n, rfl, hx4, _, hn4, hr4, hg4, hs4⟩
  have hl4 := hn4 (by omega)
  have S4 := Lib.hid (S2.out.grown hg4 hr4)
  clear hn4 hs4 hg4 hr4 S2
  go_wp2_with fail
  refine (pick_any _ B r _ 12 S4.out.rd (by omega)).mono ?_
  rintro e w5 ⟨x5, rfl, hx5, _, hn5, hr5, hg5, hs5⟩
  have S5 := Lib.hid (S4.out.grown hg5 hr5)
  clear hn5 hs5 hg5 hr5 S4
  by_cases h5 : x5 = 0
  · have hb5 : (x5 == 0) = true := by simp [h5]
    clear h5
    go_wp2_with fail
    go_loopw [5] (fun i wr => ∃ (g c : Nat) (bs : List VVote), i = .int .i64 bs.length ∧ bs.length ≤ 40 ∧ Vo w B r (P + 4) x f (some ⟨g, 0, none⟩) c bs wr) (fun i _ => 40 - (intOf i).toNat)
    case atStart => exact ⟨_, 0, [], rfl, by simp, S5.out⟩
    case round =>
      clear S5
      obtain ⟨g, c, bs, rfl, hk, hst⟩ := hrel
      have ST := Lib.hid hst
      have hown : OwnVote wr (w.heap.size + 1) (.slice (some ⟨g, 0, none⟩) bs.length c) bs := by
        rcases hst.own with ⟨e, _⟩ | h
        · cases e
        · exact h
      have HO := Lib.hid hown
      have hz := Nat.le_trans (Nat.succ_le_of_lt hst.lo) (Nat.le_of_lt hst.xb.lt)
      have p0 := hst.xb.cell (j := 0) (u := .int .i64 f) rfl
      have p1 := hst.xb.cell (j := 1) (u := .slice (some ⟨g, 0, none⟩) bs.length c) rfl
      have hl7 : bs.length ≤ 10000000 := by omega
      clear hst hown
      by_cases hlt : bs.length < 40
      · have hlti : (bs.length : Int) < 40 := by omega
        have hd : decide ((bs.length : Int) < 40) = true := by simp; omega
        have hdn : decide (bs.length < 40) = true := by simp; omega
        go_wp2_with (at_builtin; refine appendVote (by rfl) _ _ (by rfl) wr (w.heap.size + 1) _ bs ⟨f + (bs.length : Int) / 7, (bs.length : Int) % 7, bs.length⟩ (by rfl) HO.out (by rfl) hl7 hz ?_; intro g6 cap6 w6 own6 hg6; obtain ⟨v6, q0, q1, qf, ql⟩ := ST.out.app own6 hg6; have V6 := Lib.hid v6; have HL6 := Lib.hid ql; clear own6 hg6 v6 ql p0 p1)
        go_wp2_with fail
        go_roundw
        case rel => exact ⟨g6, cap6, _, by (try rw [← HL6.out]); go_num, by rw [← HL6.out]; omega, V6.out⟩
        case measure => simp [intOf]; omega
      · have hd : decide ((bs.length : Int) < 40) = false := by simp; omega
        have hdn : decide (bs.length < 40) = false := by simp; omega
        clear p0 p1 HO
        go_wp2_with fail
        refine (pick_any _ B r _ 2 ST.out.rd (by omega)).mono ?_
        rintro e w9 ⟨n2, rfl, hx9, _, hn9, hr9, hg9, hs9⟩
        have hl9 := hn9 (by omega)
        have S9 := Lib.hid (ST.out.grown hg9 hr9)
        have hbs := hk
        clear hn9 hs9 hg9 hr9 ST
        go_wp2_with fail
        go_loopw [6] (fun i wr => ∃ (k : Nat) (A : Option Addr) (c : Nat) (bs : List VVote), i = .int .i64 k ∧ k ≤ 14 ∧ bs.length ≤ 40 ∧ Vo w B r (P + 6 + 15 * k) x f A c bs wr) (fun i _ => 15 - (intOf i).toNat)
        case atStart => exact ⟨0, _, _, _, rfl, by omega, hbs, S9.out.mono (by omega)⟩
        case round =>
          clear S9
          obtain ⟨k, A, c, bs, rfl, hk, hbl, hst⟩ := hrel
          have ST := Lib.hid hst
          have p0 := hst.xb.cell (j := 0) (u := .int .i64 f) rfl
          have p1 := hst.xb.cell (j := 1) (u := .slice A bs.length c) rfl
          clear hst
          by_cases hlt : (k : Int) < n2
          · have hd : decide ((k : Int) < n2) = true := by simpa using hlt
            go_wp2_with fail
            have hS0 : TwoX x f A bs.length c ({ wr with drawn := wr.drawn + 1 } : World) := ⟨p0, p1⟩
            have S0 := Lib.hid (show Vo w B r (P + 6 + 15 * k) x f A c bs ({ wr with drawn := wr.drawn + 1 } : World) from ST.out.carry (Below.refl _ _).drew)
            refine wp_region_held (S := TwoX x f A bs.length c) (by kernel_rfl) ?_
            clear p0 p1 ST
            generalize ({ wr with drawn := wr.drawn + 1 } : World) = v0 at hS0 S0 ⊢
            refine wpAnyH_take (i := 0) (v := ?vq13) rfl (by kernel_rfl) (by kernel_rfl) (by kernel_rfl) (fun _ _ _ h => h) (Or.inl ⟨by rfl, ?hyq13⟩) hS0 ?restq13
            case hyq13 =>
              intro W hW
              have c0 := hW.1
              have c1 := hW.2
              go_simp
              try with_reducible rfl
            try simp only [Act.put, List.setIfInBounds_toArray, List.set_cons_zero, List.set_cons_succ]
            refine wpAnyH_take (i := 1) (v := ?vq14) rfl (by kernel_rfl) (by kernel_rfl) (by kernel_rfl) (fun _ _ _ h => h) (Or.inl ⟨by rfl, ?hyq14⟩) hS0 ?restq14
            case hyq14 =>
              intro W hW
              go_simp
              try with_reducible rfl
            try simp only [Act.put, List.setIfInBounds_toArray, List.set_cons_zero, List.set_cons_succ]
            refine wpAnyH_ready (rs := [2, 7]) (by kernel_rfl) (by simp) ?_
            refine AllReadyH.cons rfl (fun K hK => ?_) (AllReadyH.cons rfl (fun K hK => ?_) AllReadyH.nil)
            · go_simp
              refine (s_l92Vote _ B r _ S0.out.rd (by omega)).mono ?_
              rintro e v1 ⟨X, rfl, hr1, hg1⟩
              have S1 := Lib.hid (S0.out.grown hg1 hr1)
              have hS1 := S1.out.two
              clear hr1 hg1 S0 hS0
              dsimp only
              refine hK.out _ _ hS1 (fun _ => ?_)
              clear hK K
              try simp only [Act.put, List.setIfInBounds_toArray, List.set_cons_zero, List.set_cons_succ]
              refine wpAnyH_ready (rs := [3, 7]) (by kernel_rfl) (by simp) ?_
              refine AllReadyH.cons rfl (fun K hK => ?_) (AllReadyH.cons rfl (fun K hK => ?_) AllReadyH.nil)
              · go_simp
                refine (s_VoterSign f A c bs X _ S1.out.own.lst S1.out.own.form (by omega)).mono ?_
                rintro e v2 ⟨f2, A2, c2, ks, q, rfl, hkl, hno, b2⟩
                have hz2 := Nat.lt_trans S1.out.lo S1.out.xb.lt
                have NO := Lib.hid (hno.lower (Nat.succ_le_of_lt hz2))
                have S2 := Lib.hid (S1.out.carry b2)
                have hS2 := S2.out.two
                clear hno b2 S1 hS1
                dsimp only
                refine hK.out _ _ hS2 (fun _ => ?_)
                clear hK K
                try simp only [Act.put, List.setIfInBounds_toArray, List.set_cons_zero, List.set_cons_succ]
                refine wpAnyH_take (i := 4) (v := ?vq1) rfl (by kernel_rfl) (by kernel_rfl) (by kernel_rfl) (fun _ _ _ h => h) (Or.inl ⟨by rfl, ?hyq1⟩) hS2 ?restq1
                case hyq1 =>
                  intro W hW
                  go_simp
                  try with_reducible rfl
                try simp only [Act.put, List.setIfInBounds_toArray, List.set_cons_zero, List.set_cons_succ]
                refine wpAnyH_take (i := 5) (v := ?vq2) rfl (by kernel_rfl) (by kernel_rfl) (by kernel_rfl) (fun _ _ _ h => h) (Or.inl ⟨by rfl, ?hyq2⟩) hS2 ?restq2
                case hyq2 =>
                  intro W hW
                  go_simp
                  try with_reducible rfl
                try simp only [Act.put, List.setIfInBounds_toArray, List.set_cons_zero, List.set_cons_succ]
                refine wpAnyH_take (i := 6) (v := ?vq3) rfl (by kernel_rfl) (by kernel_rfl) (by kernel_rfl) (fun _ _ _ h => h) (Or.inl ⟨by rfl, ?hyq3⟩) hS2 ?restq3
                case hyq3 =>
                  intro W hW
                  go_simp
                  try with_reducible rfl
                try simp only [Act.put, List.setIfInBounds_toArray, List.set_cons_zero, List.set_cons_succ]
                refine wpAnyH_ready (rs := [7]) (by kernel_rfl) (by simp) ?_
                refine AllReadyH.cons rfl (fun K hK => ?_) AllReadyH.nil
                go_simp
                refine hK.out _ _ (Vo.two (S2.out.carry (allocB v2 _))) (fun _ => ?_)
                clear hK K
                try simp only [Act.put, List.setIfInBounds_toArray, List.set_cons_zero, List.set_cons_succ]
                refine wpAnyH_ready (rs := [8]) (by kernel_rfl) (by simp) ?_
                refine AllReadyH.cons rfl (fun K hK => ?_) AllReadyH.nil
                go_simp
                have ba := allocB v2 (.cells #[.int .i64 f2, .slice A2 ks.length c2] 50)
                have S7 := Lib.hid (S2.out.carry ba)
                have YB := Lib.hid (Box.new v2 #[.int .i64 f2, .slice A2 ks.length c2] 50)
                replace NO := Lib.hid (NO.out.carry ba)
                have hS7 := S7.out.two
                refine hK.out _ _ hS7 (fun _ => ?_)
                clear hK K ba S2 hS2
                try simp only [Act.put, List.setIfInBounds_toArray, List.set_cons_zero, List.set_cons_succ]
                refine wpAnyH_take (i := 9) (v := ?vq4) rfl (by kernel_rfl) (by kernel_rfl) (by kernel_rfl) (fun _ _ _ h => h) (Or.inl ⟨by rfl, ?hyq4⟩) hS7 ?restq4
                case hyq4 =>
                  intro W hW
                  go_simp
                  try with_reducible rfl
                try simp only [Act.put, List.setIfInBounds_toArray, List.set_cons_zero, List.set_cons_succ]
                refine wpAnyH_done (by kernel_rfl) ?_ _
                clear hS7
                have y0 := YB.out.cell (j := 0) (u := .int .i64 f2) rfl
                have y1 := YB.out.cell (j := 1) (u := .slice A2 ks.length c2) rfl
                go_wp2_with fail
                refine (s_VoterValid f2 A2 c2 ks _ NO.out.lst (by omega)).mono ?_
                rintro e v8 ⟨rfl, b8⟩
                have S8 := Lib.hid (S7.out.carry b8)
                replace YB := Lib.hid (YB.out.carry b8)
                replace NO := Lib.hid (NO.out.carry b8)
                clear b8 S7 y0 y1
                have y0 := YB.out.cell (j := 0) (u := .int .i64 f2) rfl
                have y1 := YB.out.cell (j := 1) (u := .slice A2 ks.length c2) rfl
                have p0 := S8.out.xb.cell (j := 0) (u := .int .i64 f) rfl
                have p1 := S8.out.xb.cell (j := 1) (u := .slice A bs.length c) rfl
                have pf0 := S8.out.xb.free 0
                have pf1 := S8.out.xb.free 1
                rcases hv : voterB f2 ks with _ | _
                · go_wp2_with fail
                  go_roundw
                  case rel => exact ⟨k + 1, A, c, bs, by go_num, by omega, hbl, S8.out.mono (by omega)⟩
                  case measure => simp [intOf]; omega
                · have h40 := (voter_good hv).2.1
                  clear hv
                  by_cases hff : f2 = f
                  · have hfb2 : (f2 == f) = true := by simp [hff]
                    have hfe := hff
                    clear hff
                    go_wp2_with fail
                    go_roundw
                    case rel => exact ⟨k + 1, A2, c2, ks, by go_num, by omega, h40, by have h := S8.out.put (v := f2) NO.out; rw [hfe] at h; first | exact h.mono (by omega) | (rw [← hfe] at h ⊢; exact h.mono (by omega))⟩
                    case measure => simp [intOf]; omega
                  · have hfb2 : (f2 == f) = false := by simp [hff]
                    clear hff
                    go_wp2_with fail
                    go_roundw
                    case rel => exact ⟨k + 1, A, c, bs, by go_num, by omega, hbl, S8.out.mono (by omega)⟩
                    case measure => simp [intOf]; omega
              · go_simp
                have ba := allocB v1 (.cells #[.int .i64 0, .slice none 0 0] 50)
                have S3 := Lib.hid (S1.out.carry ba)
                have ZB := Lib.hid (Box.new v1 #[.int .i64 0, .slice none 0 0] 50)
                have hzx := S1.out.xb.lt
                have hS3 := S3.out.two
                refine hK.out _ _ hS3 (fun _ => ?_)
                clear hK K ba S1 hS1
                generalize v1.heap.size = y at ZB hzx ⊢
                generalize v1.alloc (.cells #[.int .i64 0, .slice none 0 0] 50) = v3 at S3 ZB hS3 ⊢
                try simp only [Act.put, List.setIfInBounds_toArray, List.set_cons_zero, List.set_cons_succ]
                refine wpAnyH_ready (rs := [3]) (by kernel_rfl) (by simp) ?_
                refine AllReadyH.cons rfl (fun K hK => ?_) AllReadyH.nil
                go_simp
                refine (s_VoterSign f A c bs X _ S3.out.own.lst S3.out.own.form (by omega)).mono ?_
                rintro e v4 ⟨f2, A2, c2, ks, q, rfl, hkl, hno, b4⟩
                have hz4 := Nat.lt_trans S3.out.lo S3.out.xb.lt
                have NO := Lib.hid (hno.lower (Nat.succ_le_of_lt hz4))
                have S4 := Lib.hid (S3.out.carry b4)
                replace ZB := Lib.hid (ZB.out.carry b4)
                have hS4 := S4.out.two
                clear hno b4 S3 hS3
                dsimp only
                refine hK.out _ _ hS4 (fun _ => ?_)
                clear hK K
                try simp only [Act.put, List.setIfInBounds_toArray, List.set_cons_zero, List.set_cons_succ]
                refine wpAnyH_take (i := 4) (v := ?vq5) rfl (by kernel_rfl) (by kernel_rfl) (by kernel_rfl) (fun _ _ _ h => h) (Or.inl ⟨by rfl, ?hyq5⟩) hS4 ?restq5
                case hyq5 =>
                  intro W hW
                  go_simp
                  try with_reducible rfl
                try simp only [Act.put, List.setIfInBounds_toArray, List.set_cons_zero, List.set_cons_succ]
                refine wpAnyH_take (i := 5) (v := ?vq6) rfl (by kernel_rfl) (by kernel_rfl) (by kernel_rfl) (fun _ _ _ h => h) (Or.inl ⟨by rfl, ?hyq6⟩) hS4 ?restq6
                case hyq6 =>
                  intro W hW
                  go_simp
                  try with_reducible rfl
                try simp only [Act.put, List.setIfInBounds_toArray, List.set_cons_zero, List.set_cons_succ]
                refine wpAnyH_take (i := 6) (v := ?vq7) rfl (by kernel_rfl) (by kernel_rfl) (by kernel_rfl) (fun _ _ _ h => h) (Or.inl ⟨by rfl, ?hyq7⟩) hS4 ?restq7
                case hyq7 =>
                  intro W hW
                  go_simp
                  try with_reducible rfl
                try simp only [Act.put, List.setIfInBounds_toArray, List.set_cons_zero, List.set_cons_succ]
                refine wpAnyH_ready (rs := [8]) (by kernel_rfl) (by simp) ?_
                refine AllReadyH.cons rfl (fun K hK => ?_) AllReadyH.nil
                have z0 := ZB.out.cell (j := 0) (u := .int .i64 0) rfl
                have z1 := ZB.out.cell (j := 1) (u := .slice none 0 0) rfl
                have zf0 := ZB.out.free 0
                have zf1 := ZB.out.free 1
                go_simp
                have hlo := S4.out.lo
                have S7 := Lib.hid ((S4.out.far (j := 0) (u := .int .i64 f2) ZB.out (by decide) (by omega) (by omega)).far (j := 1) (u := .slice A2 ks.length c2) (ZB.out.set 0 _) (by decide) (by omega) (by omega))
                have YB := Lib.hid (show Box _ y 50 #[.int .i64 f2, .slice A2 ks.length c2] from (ZB.out.set 0 (.int .i64 f2)).set 1 (.slice A2 ks.length c2))
                replace NO := Lib.hid ((NO.out.box (j := 0) (u := .int .i64 f2) ZB.out (by decide)).box (j := 1) (u := .slice A2 ks.length c2) (ZB.out.set 0 _) (by decide))
                have hS7 := S7.out.two
                refine hK.out _ _ hS7 (fun _ => ?_)
                clear hK K z0 z1 zf0 zf1 S4 hS4 ZB
                try simp only [Act.put, List.setIfInBounds_toArray, List.set_cons_zero, List.set_cons_succ]
                refine wpAnyH_take (i := 9) (v := ?vq8) rfl (by kernel_rfl) (by kernel_rfl) (by kernel_rfl) (fun _ _ _ h => h) (Or.inl ⟨by rfl, ?hyq8⟩) hS7 ?restq8
                case hyq8 =>
                  intro W hW
                  go_simp
                  try with_reducible rfl
                try simp only [Act.put, List.setIfInBounds_toArray, List.set_cons_zero, List.set_cons_succ]
                refine wpAnyH_done (by kernel_rfl) ?_ _
                clear hS7
                have y0 := YB.out.cell (j := 0) (u := .int .i64 f2) rfl
                have y1 := YB.out.cell (j := 1) (u := .slice A2 ks.length c2) rfl
                go_wp2_with fail
                refine (s_VoterValid f2 A2 c2 ks _ NO.out.lst (by omega)).mono ?_
                rintro e v8 ⟨rfl, b8⟩
                have S8 := Lib.hid (S7.out.carry b8)
                replace YB := Lib.hid (YB.out.carry b8)
                replace NO := Lib.hid (NO.out.carry b8)
                clear b8 S7 y0 y1
                have y0 := YB.out.cell (j := 0) (u := .int .i64 f2) rfl
                have y1 := YB.out.cell (j := 1) (u := .slice A2 ks.length c2) rfl
                have p0 := S8.out.xb.cell (j := 0) (u := .int .i64 f) rfl
                have p1 := S8.out.xb.cell (j := 1) (u := .slice A bs.length c) rfl
                have pf0 := S8.out.xb.free 0
                have pf1 := S8.out.xb.free 1
                rcases hv : voterB f2 ks with _ | _
                · go_wp2_with fail
                  go_roundw
                  case rel => exact ⟨k + 1, A, c, bs, by go_num, by omega, hbl, S8.out.mono (by omega)⟩
                  case measure => simp [intOf]; omega
                · have h40 := (voter_good hv).2.1
                  clear hv
                  by_cases hff : f2 = f
                  · have hfb2 : (f2 == f) = true := by simp [hff]
                    have hfe := hff
                    clear hff
                    go_wp2_with fail
                    go_roundw
                    case rel => exact ⟨k + 1, A2, c2, ks, by go_num, by omega, h40, by have h := S8.out.put (v := f2) NO.out; rw [hfe] at h; first | exact h.mono (by omega) | (rw [← hfe] at h ⊢; exact h.mono (by omega))⟩
                    case measure => simp [intOf]; omega
                  · have hfb2 : (f2 == f) = false := by simp [hff]
                    clear hff
                    go_wp2_with fail
                    go_roundw
                    case rel => exact ⟨k + 1, A, c, bs, by go_num, by omega, hbl, S8.out.mono (by omega)⟩
                    case measure => simp [intOf]; omega
            · go_simp
              have ba := allocB v0 (.cells #[.int .i64 0, .slice none 0 0] 50)
              have S5 := Lib.hid (S0.out.carry ba)
              have ZB := Lib.hid (Box.new v0 #[.int .i64 0, .slice none 0 0] 50)
              have hzx := S0.out.xb.lt
              have hS5 := S5.out.two
              refine hK.out _ _ hS5 (fun _ => ?_)
              clear hK K ba S0 hS0
              generalize v0.heap.size = y at ZB hzx ⊢
              generalize v0.alloc (.cells #[.int .i64 0, .slice none 0 0] 50) = v5 at S5 ZB hS5 ⊢
              try simp only [Act.put, List.setIfInBounds_toArray, List.set_cons_zero, List.set_cons_succ]
              refine wpAnyH_ready (rs := [2]) (by kernel_rfl) (by simp) ?_
              refine AllReadyH.cons rfl (fun K hK => ?_) AllReadyH.nil
              go_simp
              refine (s_l92Vote _ B r _ S5.out.rd (by omega)).mono ?_
              rintro e v6 ⟨X, rfl, hr6, hg6⟩
              have S6 := Lib.hid (S5.out.grown hg6 hr6)
              replace ZB := Lib.hid (ZB.out.grown hg6 (fun k hk => by injection hk with hk; have := S6.out.hr; have := S6.out.lo; omega))
              have hS6 := S6.out.two
              clear hr6 hg6 S5 hS5
              dsimp only
              refine hK.out _ _ hS6 (fun _ => ?_)
              clear hK K
              try simp only [Act.put, List.setIfInBounds_toArray, List.set_cons_zero, List.set_cons_succ]
              refine wpAnyH_ready (rs := [3]) (by kernel_rfl) (by simp) ?_
              refine AllReadyH.cons rfl (fun K hK => ?_) AllReadyH.nil
              go_simp
              refine (s_VoterSign f A c bs X _ S6.out.own.lst S6.out.own.form (by omega)).mono ?_
              rintro e v4 ⟨f2, A2, c2, ks, q, rfl, hkl, hno, b4⟩
              have hz4 := Nat.lt_trans S6.out.lo S6.out.xb.lt
              have NO := Lib.hid (hno.lower (Nat.succ_le_of_lt hz4))
              have S4 := Lib.hid (S6.out.carry b4)
              replace ZB := Lib.hid (ZB.out.carry b4)
              have hS4 := S4.out.two
              clear hno b4 S6 hS6
              dsimp only
              refine hK.out _ _ hS4 (fun _ => ?_)
              clear hK K
              try simp only [Act.put, List.setIfInBounds_toArray, List.set_cons_zero, List.set_cons_succ]
              refine wpAnyH_take (i := 4) (v := ?vq9) rfl (by kernel_rfl) (by kernel_rfl) (by kernel_rfl) (fun _ _ _ h => h) (Or.inl ⟨by rfl, ?hyq9⟩) hS4 ?restq9
              case hyq9 =>
                intro W hW
                go_simp
                try with_reducible rfl
              try simp only [Act.put, List.setIfInBounds_toArray, List.set_cons_zero, List.set_cons_succ]
              refine wpAnyH_take (i := 5) (v := ?vq10) rfl (by kernel_rfl) (by kernel_rfl) (by kernel_rfl) (fun _ _ _ h => h) (Or.inl ⟨by rfl, ?hyq10⟩) hS4 ?restq10
              case hyq10 =>
                intro W hW
                go_simp
                try with_reducible rfl
              try simp only [Act.put, List.setIfInBounds_toArray, List.set_cons_zero, List.set_cons_succ]
              refine wpAnyH_take (i := 6) (v := ?vq11) rfl (by kernel_rfl) (by kernel_rfl) (by kernel_rfl) (fun _ _ _ h => h) (Or.inl ⟨by rfl, ?hyq11⟩) hS4 ?restq11
              case hyq11 =>
                intro W hW
                go_simp
                try with_reducible rfl
              try simp only [Act.put, List.setIfInBounds_toArray, List.set_cons_zero, List.set_cons_succ]
              refine wpAnyH_ready (rs := [8]) (by kernel_rfl) (by simp) ?_
              refine AllReadyH.cons rfl (fun K hK => ?_) AllReadyH.nil
              have z0 := ZB.out.cell (j := 0) (u := .int .i64 0) rfl
              have z1 := ZB.out.cell (j := 1) (u := .slice none 0 0) rfl
              have zf0 := ZB.out.free 0
              have zf1 := ZB.out.free 1
              go_simp
              have hlo := S4.out.lo
              have S7 := Lib.hid ((S4.out.far (j := 0) (u := .int .i64 f2) ZB.out (by decide) (by omega) (by omega)).far (j := 1) (u := .slice A2 ks.length c2) (ZB.out.set 0 _) (by decide) (by omega) (by omega))
              have YB := Lib.hid (show Box _ y 50 #[.int .i64 f2, .slice A2 ks.length c2] from (ZB.out.set 0 (.int .i64 f2)).set 1 (.slice A2 ks.length c2))
              replace NO := Lib.hid ((NO.out.box (j := 0) (u := .int .i64 f2) ZB.out (by decide)).box (j := 1) (u := .slice A2 ks.length c2) (ZB.out.set 0 _) (by decide))
              have hS7 := S7.out.two
              refine hK.out _ _ hS7 (fun _ => ?_)
              clear hK K z0 z1 zf0 zf1 S4 hS4 ZB
              try simp only [Act.put, List.setIfInBounds_toArray, List.set_cons_zero, List.set_cons_succ]
              refine wpAnyH_take (i := 9) (v := ?vq12) rfl (by kernel_rfl) (by kernel_rfl) (by kernel_rfl) (fun _ _ _ h => h) (Or.inl ⟨by rfl, ?hyq12⟩) hS7 ?restq12
              case hyq12 =>
                intro W hW
                go_simp
                try with_reducible rfl
              try simp only [Act.put, List.setIfInBounds_toArray, List.set_cons_zero, List.set_cons_succ]
              refine wpAnyH_done (by kernel_rfl) ?_ _
              clear hS7
              have y0 := YB.out.cell (j := 0) (u := .int .i64 f2) rfl
              have y1 := YB.out.cell (j := 1) (u := .slice A2 ks.length c2) rfl
              go_wp2_with fail
              refine (s_VoterValid f2 A2 c2 ks _ NO.out.lst (by omega)).mono ?_
              rintro e v8 ⟨rfl, b8⟩
              have S8 := Lib.hid (S7.out.carry b8)
              replace YB := Lib.hid (YB.out.carry b8)
              replace NO := Lib.hid (NO.out.carry b8)
              clear b8 S7 y0 y1
              have y0 := YB.out.cell (j := 0) (u := .int .i64 f2) rfl
              have y1 := YB.out.cell (j := 1) (u := .slice A2 ks.length c2) rfl
              have p0 := S8.out.xb.cell (j := 0) (u := .int .i64 f) rfl
              have p1 := S8.out.xb.cell (j := 1) (u := .slice A bs.length c) rfl
              have pf0 := S8.out.xb.free 0
              have pf1 := S8.out.xb.free 1
              rcases hv : voterB f2 ks with _ | _
              · go_wp2_with fail
                go_roundw
                case rel => exact ⟨k + 1, A, c, bs, by go_num, by omega, hbl, S8.out.mono (by omega)⟩
                case measure => simp [intOf]; omega
              · have h40 := (voter_good hv).2.1
                clear hv
                by_cases hff : f2 = f
                · have hfb2 : (f2 == f) = true := by simp [hff]
                  have hfe := hff
                  clear hff
                  go_wp2_with fail
                  go_roundw
                  case rel => exact ⟨k + 1, A2, c2, ks, by go_num, by omega, h40, by have h := S8.out.put (v := f2) NO.out; rw [hfe] at h; first | exact h.mono (by omega) | (rw [← hfe] at h ⊢; exact h.mono (by omega))⟩
                  case measure => simp [intOf]; omega
                · have hfb2 : (f2 == f) = false := by simp [hff]
                  clear hff
                  go_wp2_with fail
                  go_roundw
                  case rel => exact ⟨k + 1, A, c, bs, by go_num, by omega, hbl, S8.out.mono (by omega)⟩
                  case measure => simp [intOf]; omega
          · have hd : decide ((k : Int) < n2) = false := by simpa using hlt
            clear p0 p1
            go_wp2_with fail
            refine (pick_any _ B r _ 16 ST.out.rd (by omega)).mono ?_
            rintro e w6 ⟨x6, rfl, hx6, _, hn6, hr6, hg6, hs6⟩
            have S6 := Lib.hid (ST.out.grown hg6 hr6)
            clear hn6 hs6 hg6 hr6 ST
            by_cases h6 : x6 = 0
            · have hb6 : (x6 == 0) = true := by simp [h6]
              clear h6
              go_wp2_with fail
              refine (pick_any _ B r _ 35 S6.out.rd (by omega)).mono ?_
              rintro e w7 ⟨x7, rfl, hx7, _, hn7, hr7, hg7, hs7⟩
              have hl7 := hn7 (by omega)
              have hw7 : IntKind.i64.wrap (x7 - 1) = x7 - 1 := IntWalk.i64_in _ (by omega)
              have S7 := Lib.hid (S6.out.grown hg7 hr7)
              clear hn7 hs7 hg7 hr7 S6
              have S8 := Lib.hid (S7.out.floor (x7 - 1))
              have p0 := S7.out.xb.cell (j := 0) (u := .int .i64 f) rfl
              have p1 := S7.out.xb.cell (j := 1) (u := .slice A bs.length c) rfl
              have pf0 := S7.out.xb.free 0
              have o0 := S7.out.ob.cell (j := 0) (u := .int .i64 0) rfl
              have o1 := S7.out.ob.cell (j := 1) (u := .slice none 0 0) rfl
              have of0 := S7.out.ob.free 0
              have of1 := S7.out.ob.free 1
              have hlo := S7.out.lo
              have hne : x ≠ w.heap.size := by omega
              have hne2 : w.heap.size ≠ x := by omega
              go_wp2_with fail
              have D := S8.out.drawn (by omega)
              obtain ⟨f9, A9, c9, bs9, e9, l9, n9, r9, g9⟩ := D
              exact bodyPost_ret (v := .agg #[.int .i64 (x7 - 1), .slice A bs.length c]) (by simp [results, Try.results85, go_sem, *]) rfl ⟨f9, A9, c9, bs9, e9, l9, n9, r9.mono (by omega), g9⟩
            by_cases h61 : x6 = 1
            · have hb6 : (x6 == 0) = false := by simp [h6]
              have hb61 : (x6 == 1) = true := by simp [h61]
              clear h6 h61
              go_wp2_with fail
              have S0 := Lib.hid (show Vo w B r (P + 6 + 15 * k + 1) x f A c bs ({ w6 with drawn := w6.drawn + 1 } : World) from S6.out.carry (Below.refl _ _).drew)
              refine wp_region_held (S := fun _ => True) (by kernel_rfl) ?_
              clear S6
              generalize ({ w6 with drawn := w6.drawn + 1 } : World) = v0 at S0 ⊢
              refine wpAnyH_take (i := 0) (v := ?vq15) rfl (by kernel_rfl) (by kernel_rfl) (by kernel_rfl) (fun _ _ _ h => h) (Or.inl ⟨by rfl, ?hyq15⟩) trivial ?restq15
              case hyq15 =>
                intro W hW
                go_simp
                try with_reducible rfl
              try simp only [Act.put, List.setIfInBounds_toArray, List.set_cons_zero, List.set_cons_succ]
              refine wpAnyH_take (i := 2) (v := ?vq16) rfl (by kernel_rfl) (by kernel_rfl) (by kernel_rfl) (fun _ _ _ h => h) (Or.inl ⟨by rfl, ?hyq16⟩) trivial ?restq16
              case hyq16 =>
                intro W hW
                go_simp
                try with_reducible rfl
              try simp only [Act.put, List.setIfInBounds_toArray, List.set_cons_zero, List.set_cons_succ]
              refine wpAnyH_ready (rs := [1, 3]) (by kernel_rfl) (by simp) ?_
              refine AllReadyH.cons rfl (fun K hK => ?_) (AllReadyH.cons rfl (fun K hK => ?_) AllReadyH.nil)
              · have c1 := S0.out.xb.cell (j := 1) (u := .slice A bs.length c) rfl
                go_simp
                refine hK.out _ _ trivial (fun _ => ?_)
                clear hK K c1
                try simp only [Act.put, List.setIfInBounds_toArray, List.set_cons_zero, List.set_cons_succ]
                refine wpAnyH_ready (rs := [3]) (by kernel_rfl) (by simp) ?_
                refine AllReadyH.cons rfl (fun K hK => ?_) AllReadyH.nil
                go_simp
                refine (s_l92Vote _ B r _ S0.out.rd (by omega)).mono ?_
                rintro e v1 ⟨X, rfl, hr1, hg1⟩
                have S1 := Lib.hid (S0.out.grown hg1 hr1)
                clear hr1 hg1 S0
                dsimp only
                refine hK.out _ _ trivial (fun _ => ?_)
                clear hK K
                try simp only [Act.put, List.setIfInBounds_toArray, List.set_cons_zero, List.set_cons_succ]
                refine wpAnyH_ready (rs := [4]) (by kernel_rfl) (by simp) ?_
                refine AllReadyH.cons rfl (fun K hK => ?_) AllReadyH.nil
                go_simp
                have ba := allocB v1 (.cells #[.int .i64 X.r, .int .i64 X.a, .int .i64 X.d] 35)
                have S2 := Lib.hid (S1.out.carry ba)
                have XB := Lib.hid (Box.new v1 #[.int .i64 X.r, .int .i64 X.a, .int .i64 X.d] 35)
                have hzx := S1.out.xb.lt
                have hlo := S1.out.lo
                refine hK.out _ _ trivial (fun _ => ?_)
                clear hK K ba S1
                generalize v1.heap.size = y at XB hzx ⊢
                generalize v1.alloc (.cells #[.int .i64 X.r, .int .i64 X.a, .int .i64 X.d] 35) = v2 at S2 XB ⊢
                have hyl := XB.out.lt
                try simp only [Act.put, List.setIfInBounds_toArray, List.set_cons_zero, List.set_cons_succ]
                refine wpAnyH_ready (rs := [5]) (by kernel_rfl) (by simp) ?_
                refine AllReadyH.cons rfl (fun K hK => ?_) AllReadyH.nil
                refine stepRow elem_Vote (by omega) (by omega) (by rfl) (.tmp 74) (.tmp 77) (by rfl) _ (w.heap.size + 1) _ bs.length (cellsVote bs) (by rfl) S2.out.own.row (y + 1) (some ⟨y, 0, none⟩) 1 1 X.cells (by omega) (by rfl) rfl (row_of_box XB.out (by omega)) (voteCells_one X) (by omega) (by omega) ?_
                intro g6 cap6 w9 own6 hg6
                have own7 : OwnVote w9 (w.heap.size + 1) (.slice (some ⟨g6, 0, none⟩) (bs.length + 1) cap6) (bs ++ [X]) := by unfold OwnVote; rw [cellsVote_snoc, List.length_append]; exact own6
                obtain ⟨V6, q0, q1, qf, ql⟩ := S2.out.appAny own7 hg6
                have V7 := Lib.hid V6
                have V8 := Lib.hid ql
                clear V6 ql own6 own7 hg6 S2 XB
                refine hK.out _ _ trivial (fun _ => ?_)
                clear hK K
                try simp only [Act.put, List.setIfInBounds_toArray, List.set_cons_zero, List.set_cons_succ]
                refine wpAnyH_take (i := 6) (v := ?vq17) rfl (by kernel_rfl) (by kernel_rfl) (by kernel_rfl) (fun _ _ _ h => h) (Or.inl ⟨by rfl, ?hyq17⟩) trivial ?restq17
                case hyq17 =>
                  intro W hW
                  go_simp
                  try with_reducible rfl
                try simp only [Act.put, List.setIfInBounds_toArray, List.set_cons_zero, List.set_cons_succ]
                refine wpAnyH_ready (rs := [7]) (by kernel_rfl) (by simp) ?_
                refine AllReadyH.cons rfl (fun K hK => ?_) AllReadyH.nil
                go_simp
                refine hK.out _ _ trivial (fun _ => ?_)
                clear hK K
                try simp only [Act.put, List.setIfInBounds_toArray, List.set_cons_zero, List.set_cons_succ]
                refine wpAnyH_done (by kernel_rfl) ?_ _
                have hbs9 : (bs ++ [X]).length ≤ 41 := by rw [List.length_append]; simp; omega
                generalize w9.setCell ⟨x, 1, none⟩ (.slice (some ⟨g6, 0, none⟩) (bs.length + 1) cap6) = wz at V7 ⊢
                rw [V8.out]
                clear q0 q1 qf
                have p0 := V7.out.xb.cell (j := 0) (u := .int .i64 f) rfl
                have p1 := V7.out.xb.cell (j := 1) (u := .slice (some ⟨g6, 0, none⟩) (bs ++ [X]).length cap6) rfl
                have o0 := V7.out.ob.cell (j := 0) (u := .int .i64 0) rfl
                have o1 := V7.out.ob.cell (j := 1) (u := .slice none 0 0) rfl
                have of0 := V7.out.ob.free 0
                have of1 := V7.out.ob.free 1
                have D := V7.out.drawn (by omega)
                rw [show (bs ++ [X]).length = bs.length + 1 by simp] at D
                obtain ⟨f9, A9, c9, bs9, e9, l9, n9, r9, g9⟩ := D
                go_wp2_with fail
                exact bodyPost_ret (v := .agg #[.int .i64 f, .slice (some ⟨g6, 0, none⟩) (bs.length + 1) cap6]) (by simp [results, Try.results85, go_sem, *]) rfl ⟨f9, A9, c9, bs9, e9, l9, n9, r9.mono (by omega), g9⟩
              · go_simp
                refine (s_l92Vote _ B r _ S0.out.rd (by omega)).mono ?_
                rintro e v1 ⟨X, rfl, hr1, hg1⟩
                have S1 := Lib.hid (S0.out.grown hg1 hr1)
                clear hr1 hg1 S0
                dsimp only
                refine hK.out _ _ trivial (fun _ => ?_)
                clear hK K
                try simp only [Act.put, List.setIfInBounds_toArray, List.set_cons_zero, List.set_cons_succ]
                refine wpAnyH_ready (rs := [1, 4]) (by kernel_rfl) (by simp) ?_
                refine AllReadyH.cons rfl (fun K hK => ?_) (AllReadyH.cons rfl (fun K hK => ?_) AllReadyH.nil)
                · have c1 := S1.out.xb.cell (j := 1) (u := .slice A bs.length c) rfl
                  go_simp
                  refine hK.out _ _ trivial (fun _ => ?_)
                  clear hK K c1
                  try simp only [Act.put, List.setIfInBounds_toArray, List.set_cons_zero, List.set_cons_succ]
                  refine wpAnyH_ready (rs := [4]) (by kernel_rfl) (by simp) ?_
                  refine AllReadyH.cons rfl (fun K hK => ?_) AllReadyH.nil
                  go_simp
                  have ba := allocB v1 (.cells #[.int .i64 X.r, .int .i64 X.a, .int .i64 X.d] 35)
                  have S2 := Lib.hid (S1.out.carry ba)
                  have XB := Lib.hid (Box.new v1 #[.int .i64 X.r, .int .i64 X.a, .int .i64 X.d] 35)
                  have hzx := S1.out.xb.lt
                  have hlo := S1.out.lo
                  refine hK.out _ _ trivial (fun _ => ?_)
                  clear hK K ba S1
                  generalize v1.heap.size = y at XB hzx ⊢
                  generalize v1.alloc (.cells #[.int .i64 X.r, .int .i64 X.a, .int .i64 X.d] 35) = v2 at S2 XB ⊢
                  have hyl := XB.out.lt
                  try simp only [Act.put, List.setIfInBounds_toArray, List.set_cons_zero, List.set_cons_succ]
                  refine wpAnyH_ready (rs := [5]) (by kernel_rfl) (by simp) ?_
                  refine AllReadyH.cons rfl (fun K hK => ?_) AllReadyH.nil
                  refine stepRow elem_Vote (by omega) (by omega) (by rfl) (.tmp 74) (.tmp 77) (by rfl) _ (w.heap.size + 1) _ bs.length (cellsVote bs) (by rfl) S2.out.own.row (y + 1) (some ⟨y, 0, none⟩) 1 1 X.cells (by omega) (by rfl) rfl (row_of_box XB.out (by omega)) (voteCells_one X) (by omega) (by omega) ?_
                  intro g6 cap6 w9 own6 hg6
                  have own7 : OwnVote w9 (w.heap.size + 1) (.slice (some ⟨g6, 0, none⟩) (bs.length + 1) cap6) (bs ++ [X]) := by unfold OwnVote; rw [cellsVote_snoc, List.length_append]; exact own6
                  obtain ⟨V6, q0, q1, qf, ql⟩ := S2.out.appAny own7 hg6
                  have V7 := Lib.hid V6
                  have V8 := Lib.hid ql
                  clear V6 ql own6 own7 hg6 S2 XB
                  refine hK.out _ _ trivial (fun _ => ?_)
                  clear hK K
                  try simp only [Act.put, List.setIfInBounds_toArray, List.set_cons_zero, List.set_cons_succ]
                  refine wpAnyH_take (i := 6) (v := ?vq18) rfl (by kernel_rfl) (by kernel_rfl) (by kernel_rfl) (fun _ _ _ h => h) (Or.inl ⟨by rfl, ?hyq18⟩) trivial ?restq18
                  case hyq18 =>
                    intro W hW
                    go_simp
                    try with_reducible rfl
                  try simp only [Act.put, List.setIfInBounds_toArray, List.set_cons_zero, List.set_cons_succ]
                  refine wpAnyH_ready (rs := [7]) (by kernel_rfl) (by simp) ?_
                  refine AllReadyH.cons rfl (fun K hK => ?_) AllReadyH.nil
                  go_simp
                  refine hK.out _ _ trivial (fun _ => ?_)
                  clear hK K
                  try simp only [Act.put, List.setIfInBounds_toArray, List.set_cons_zero, List.set_cons_succ]
                  refine wpAnyH_done (by kernel_rfl) ?_ _
                  have hbs9 : (bs ++ [X]).length ≤ 41 := by rw [List.length_append]; simp; omega
                  generalize w9.setCell ⟨x, 1, none⟩ (.slice (some ⟨g6, 0, none⟩) (bs.length + 1) cap6) = wz at V7 ⊢
                  rw [V8.out]
                  clear q0 q1 qf
                  have p0 := V7.out.xb.cell (j := 0) (u := .int .i64 f) rfl
                  have p1 := V7.out.xb.cell (j := 1) (u := .slice (some ⟨g6, 0, none⟩) (bs ++ [X]).length cap6) rfl
                  have o0 := V7.out.ob.cell (j := 0) (u := .int .i64 0) rfl
                  have o1 := V7.out.ob.cell (j := 1) (u := .slice none 0 0) rfl
                  have of0 := V7.out.ob.free 0
                  have of1 := V7.out.ob.free 1
                  have D := V7.out.drawn (by omega)
                  rw [show (bs ++ [X]).length = bs.length + 1 by simp] at D
                  obtain ⟨f9, A9, c9, bs9, e9, l9, n9, r9, g9⟩ := D
                  go_wp2_with fail
                  exact bodyPost_ret (v := .agg #[.int .i64 f, .slice (some ⟨g6, 0, none⟩) (bs.length + 1) cap6]) (by simp [results, Try.results85, go_sem, *]) rfl ⟨f9, A9, c9, bs9, e9, l9, n9, r9.mono (by omega), g9⟩
                · go_simp
                  have ba := allocB v1 (.cells #[.int .i64 X.r, .int .i64 X.a, .int .i64 X.d] 35)
                  have S2 := Lib.hid (S1.out.carry ba)
                  have XB := Lib.hid (Box.new v1 #[.int .i64 X.r, .int .i64 X.a, .int .i64 X.d] 35)
                  have hzx := S1.out.xb.lt
                  have hlo := S1.out.lo
                  refine hK.out _ _ trivial (fun _ => ?_)
                  clear hK K ba S1
                  generalize v1.heap.size = y at XB hzx ⊢
                  generalize v1.alloc (.cells #[.int .i64 X.r, .int .i64 X.a, .int .i64 X.d] 35) = v2 at S2 XB ⊢
                  have hyl := XB.out.lt
                  try simp only [Act.put, List.setIfInBounds_toArray, List.set_cons_zero, List.set_cons_succ]
                  refine wpAnyH_ready (rs := [1]) (by kernel_rfl) (by simp) ?_
                  refine AllReadyH.cons rfl (fun K hK => ?_) AllReadyH.nil
                  have c1 := S2.out.xb.cell (j := 1) (u := .slice A bs.length c) rfl
                  go_simp
                  refine hK.out _ _ trivial (fun _ => ?_)
                  clear hK K c1
                  try simp only [Act.put, List.setIfInBounds_toArray, List.set_cons_zero, List.set_cons_succ]
                  refine wpAnyH_ready (rs := [5]) (by kernel_rfl) (by simp) ?_
                  refine AllReadyH.cons rfl (fun K hK => ?_) AllReadyH.nil
                  refine stepRow elem_Vote (by omega) (by omega) (by rfl) (.tmp 74) (.tmp 77) (by rfl) _ (w.heap.size + 1) _ bs.length (cellsVote bs) (by rfl) S2.out.own.row (y + 1) (some ⟨y, 0, none⟩) 1 1 X.cells (by omega) (by rfl) rfl (row_of_box XB.out (by omega)) (voteCells_one X) (by omega) (by omega) ?_
                  intro g6 cap6 w9 own6 hg6
                  have own7 : OwnVote w9 (w.heap.size + 1) (.slice (some ⟨g6, 0, none⟩) (bs.length + 1) cap6) (bs ++ [X]) := by unfold OwnVote; rw [cellsVote_snoc, List.length_append]; exact own6
                  obtain ⟨V6, q0, q1, qf, ql⟩ := S2.out.appAny own7 hg6
                  have V7 := Lib.hid V6
                  have V8 := Lib.hid ql
                  clear V6 ql own6 own7 hg6 S2 XB
                  refine hK.out _ _ trivial (fun _ => ?_)
                  clear hK K
                  try simp only [Act.put, List.setIfInBounds_toArray, List.set_cons_zero, List.set_cons_succ]
                  refine wpAnyH_take (i := 6) (v := ?vq19) rfl (by kernel_rfl) (by kernel_rfl) (by kernel_rfl) (fun _ _ _ h => h) (Or.inl ⟨by rfl, ?hyq19⟩) trivial ?restq19
                  case hyq19 =>
                    intro W hW
                    go_simp
                    try with_reducible rfl
                  try simp only [Act.put, List.setIfInBounds_toArray, List.set_cons_zero, List.set_cons_succ]
                  refine wpAnyH_ready (rs := [7]) (by kernel_rfl) (by simp) ?_
                  refine AllReadyH.cons rfl (fun K hK => ?_) AllReadyH.nil
                  go_simp
                  refine hK.out _ _ trivial (fun _ => ?_)
                  clear hK K
                  try simp only [Act.put, List.setIfInBounds_toArray, List.set_cons_zero, List.set_cons_succ]
                  refine wpAnyH_done (by kernel_rfl) ?_ _
                  have hbs9 : (bs ++ [X]).length ≤ 41 := by rw [List.length_append]; simp; omega
                  generalize w9.setCell ⟨x, 1, none⟩ (.slice (some ⟨g6, 0, none⟩) (bs.length + 1) cap6) = wz at V7 ⊢
                  rw [V8.out]
                  clear q0 q1 qf
                  have p0 := V7.out.xb.cell (j := 0) (u := .int .i64 f) rfl
                  have p1 := V7.out.xb.cell (j := 1) (u := .slice (some ⟨g6, 0, none⟩) (bs ++ [X]).length cap6) rfl
                  have o0 := V7.out.ob.cell (j := 0) (u := .int .i64 0) rfl
                  have o1 := V7.out.ob.cell (j := 1) (u := .slice none 0 0) rfl
                  have of0 := V7.out.ob.free 0
                  have of1 := V7.out.ob.free 1
                  have D := V7.out.drawn (by omega)
                  rw [show (bs ++ [X]).length = bs.length + 1 by simp] at D
                  obtain ⟨f9, A9, c9, bs9, e9, l9, n9, r9, g9⟩ := D
                  go_wp2_with fail
                  exact bodyPost_ret (v := .agg #[.int .i64 f, .slice (some ⟨g6, 0, none⟩) (bs.length + 1) cap6]) (by simp [results, Try.results85, go_sem, *]) rfl ⟨f9, A9, c9, bs9, e9, l9, n9, r9.mono (by omega), g9⟩
            · have hb6 : (x6 == 0) = false := by simp [h6]
              have hb61 : (x6 == 1) = false := by simp [h61]
              clear h6 h61
              have p0 := S6.out.xb.cell (j := 0) (u := .int .i64 f) rfl
              have p1 := S6.out.xb.cell (j := 1) (u := .slice A bs.length c) rfl
              have o0 := S6.out.ob.cell (j := 0) (u := .int .i64 0) rfl
              have o1 := S6.out.ob.cell (j := 1) (u := .slice none 0 0) rfl
              have of0 := S6.out.ob.free 0
              have of1 := S6.out.ob.free 1
              go_wp2_with fail
              have D := S6.out.drawn (by omega)
              obtain ⟨f9, A9, c9, bs9, e9, l9, n9, r9, g9⟩ := D
              exact bodyPost_ret (v := .agg #[.int .i64 f, .slice A bs.length c]) (by simp [results, Try.results85, go_sem, *]) rfl ⟨f9, A9, c9, bs9, e9, l9, n9, r9.mono (by omega), g9⟩
  · have hb5 : (x5 == 0) = false := by simp [h5]
    have S9 := S5
    have hbs : ([] : List VVote).length ≤ 40 := by simp
    clear h5 S5
    go_wp2_with fail
    go_loopw [6] (fun i wr => ∃ (k : Nat) (A : Option Addr) (c : Nat) (bs : List VVote), i = .int .i64 k ∧ k ≤ 14 ∧ bs.length ≤ 40 ∧ Vo w B r (P + 6 + 15 * k) x f A c bs wr) (fun i _ => 15 - (intOf i).toNat)
    case atStart => exact ⟨0, _, _, _, rfl, by omega, hbs, S9.out.mono (by omega)⟩
    case round =>
      clear S9
      obtain ⟨k, A, c, bs, rfl, hk, hbl, hst⟩ := hrel
      have ST := Lib.hid hst
      have p0 := hst.xb.cell (j := 0) (u := .int .i64 f) rfl
      have p1 := hst.xb.cell (j := 1) (u := .slice A bs.length c) rfl
      clear hst
      by_cases hlt : (k : Int) < n
      · have hd : decide ((k : Int) < n) = true := by simpa using hlt
        go_wp2_with fail
        have hS0 : TwoX x f A bs.length c ({ wr with drawn := wr.drawn + 1 } : World) := ⟨p0, p1⟩
        have S0 := Lib.hid (show Vo w B r (P + 6 + 15 * k) x f A c bs ({ wr with drawn := wr.drawn + 1 } : World) from ST.out.carry (Below.refl _ _).drew)
        refine wp_region_held (S := TwoX x f A bs.length c) (by kernel_rfl) ?_
        clear p0 p1 ST
        generalize ({ wr with drawn := wr.drawn + 1 } : World) = v0 at hS0 S0 ⊢
        refine wpAnyH_take (i := 0) (v := ?v13) rfl (by kernel_rfl) (by kernel_rfl) (by kernel_rfl) (fun _ _ _ h => h) (Or.inl ⟨by rfl, ?hy13⟩) hS0 ?rest13
        case hy13 =>
          intro W hW
          have c0 := hW.1
          have c1 := hW.2
          go_simp
          try with_reducible rfl
        try simp only [Act.put, List.setIfInBounds_toArray, List.set_cons_zero, List.set_cons_succ]
        refine wpAnyH_take (i := 1) (v := ?v14) rfl (by kernel_rfl) (by kernel_rfl) (by kernel_rfl) (fun _ _ _ h => h) (Or.inl ⟨by rfl, ?hy14⟩) hS0 ?rest14
        case hy14 =>
          intro W hW
          go_simp
          try with_reducible rfl
        try simp only [Act.put, List.setIfInBounds_toArray, List.set_cons_zero, List.set_cons_succ]
        refine wpAnyH_ready (rs := [2, 7]) (by kernel_rfl) (by simp) ?_
        refine AllReadyH.cons rfl (fun K hK => ?_) (AllReadyH.cons rfl (fun K hK => ?_) AllReadyH.nil)
        · go_simp
          refine (s_l92Vote _ B r _ S0.out.rd (by omega)).mono ?_
          rintro e v1 ⟨X, rfl, hr1, hg1⟩
          have S1 := Lib.hid (S0.out.grown hg1 hr1)
          have hS1 := S1.out.two
          clear hr1 hg1 S0 hS0
          dsimp only
          refine hK.out _ _ hS1 (fun _ => ?_)
          clear hK K
          try simp only [Act.put, List.setIfInBounds_toArray, List.set_cons_zero, List.set_cons_succ]
          refine wpAnyH_ready (rs := [3, 7]) (by kernel_rfl) (by simp) ?_
          refine AllReadyH.cons rfl (fun K hK => ?_) (AllReadyH.cons rfl (fun K hK => ?_) AllReadyH.nil)
          · go_simp
            refine (s_VoterSign f A c bs X _ S1.out.own.lst S1.out.own.form (by omega)).mono ?_
            rintro e v2 ⟨f2, A2, c2, ks, q, rfl, hkl, hno, b2⟩
            have hz2 := Nat.lt_trans S1.out.lo S1.out.xb.lt
            have NO := Lib.hid (hno.lower (Nat.succ_le_of_lt hz2))
            have S2 := Lib.hid (S1.out.carry b2)
            have hS2 := S2.out.two
            clear hno b2 S1 hS1
            dsimp only
            refine hK.out _ _ hS2 (fun _ => ?_)
            clear hK K
            try simp only [Act.put, List.setIfInBounds_toArray, List.set_cons_zero, List.set_cons_succ]
            refine wpAnyH_take (i := 4) (v := ?v1) rfl (by kernel_rfl) (by kernel_rfl) (by kernel_rfl) (fun _ _ _ h => h) (Or.inl ⟨by rfl, ?hy1⟩) hS2 ?rest1
            case hy1 =>
              intro W hW
              go_simp
              try with_reducible rfl
            try simp only [Act.put, List.setIfInBounds_toArray, List.set_cons_zero, List.set_cons_succ]
            refine wpAnyH_take (i := 5) (v := ?v2) rfl (by kernel_rfl) (by kernel_rfl) (by kernel_rfl) (fun _ _ _ h => h) (Or.inl ⟨by rfl, ?hy2⟩) hS2 ?rest2
            case hy2 =>
              intro W hW
              go_simp
              try with_reducible rfl
            try simp only [Act.put, List.setIfInBounds_toArray, List.set_cons_zero, List.set_cons_succ]
            refine wpAnyH_take (i := 6) (v := ?v3) rfl (by kernel_rfl) (by kernel_rfl) (by kernel_rfl) (fun _ _ _ h => h) (Or.inl ⟨by rfl, ?hy3⟩) hS2 ?rest3
            case hy3 =>
              intro W hW
              go_simp
              try with_reducible rfl
            try simp only [Act.put, List.setIfInBounds_toArray, List.set_cons_zero, List.set_cons_succ]
            refine wpAnyH_ready (rs := [7]) (by kernel_rfl) (by simp) ?_
            refine AllReadyH.cons rfl (fun K hK => ?_) AllReadyH.nil
            go_simp
            refine hK.out _ _ (Vo.two (S2.out.carry (allocB v2 _))) (fun _ => ?_)
            clear hK K
            try simp only [Act.put, List.setIfInBounds_toArray, List.set_cons_zero, List.set_cons_succ]
            refine wpAnyH_ready (rs := [8]) (by kernel_rfl) (by simp) ?_
            refine AllReadyH.cons rfl (fun K hK => ?_) AllReadyH.nil
            go_simp
            have ba := allocB v2 (.cells #[.int .i64 f2, .slice A2 ks.length c2] 50)
            have S7 := Lib.hid (S2.out.carry ba)
            have YB := Lib.hid (Box.new v2 #[.int .i64 f2, .slice A2 ks.length c2] 50)
            replace NO := Lib.hid (NO.out.carry ba)
            have hS7 := S7.out.two
            refine hK.out _ _ hS7 (fun _ => ?_)
            clear hK K ba S2 hS2
            try simp only [Act.put, List.setIfInBounds_toArray, List.set_cons_zero, List.set_cons_succ]
            refine wpAnyH_take (i := 9) (v := ?v4) rfl (by kernel_rfl) (by kernel_rfl) (by kernel_rfl) (fun _ _ _ h => h) (Or.inl ⟨by rfl, ?hy4⟩) hS7 ?rest4
            case hy4 =>
              intro W hW
              go_simp
              try with_reducible rfl
            try simp only [Act.put, List.setIfInBounds_toArray, List.set_cons_zero, List.set_cons_succ]
            refine wpAnyH_done (by kernel_rfl) ?_ _
            clear hS7
            have y0 := YB.out.cell (j := 0) (u := .int .i64 f2) rfl
            have y1 := YB.out.cell (j := 1) (u := .slice A2 ks.length c2) rfl
            go_wp2_with fail
            refine (s_VoterValid f2 A2 c2 ks _ NO.out.lst (by omega)).mono ?_
            rintro e v8 ⟨rfl, b8⟩
            have S8 := Lib.hid (S7.out.carry b8)
            replace YB := Lib.hid (YB.out.carry b8)
            replace NO := Lib.hid (NO.out.carry b8)
            clear b8 S7 y0 y1
            have y0 := YB.out.cell (j := 0) (u := .int .i64 f2) rfl
            have y1 := YB.out.cell (j := 1) (u := .slice A2 ks.length c2) rfl
            have p0 := S8.out.xb.cell (j := 0) (u := .int .i64 f) rfl
            have p1 := S8.out.xb.cell (j := 1) (u := .slice A bs.length c) rfl
            have pf0 := S8.out.xb.free 0
            have pf1 := S8.out.xb.free 1
            rcases hv : voterB f2 ks with _ | _
            · go_wp2_with fail
              go_roundw
              case rel => exact ⟨k + 1, A, c, bs, by go_num, by omega, hbl, S8.out.mono (by omega)⟩
              case measure => simp [intOf]; omega
            · have h40 := (voter_good hv).2.1
              clear hv
              by_cases hff : f2 = f
              · have hfb2 : (f2 == f) = true := by simp [hff]
                have hfe := hff
                clear hff
                go_wp2_with fail
                go_roundw
                case rel => exact ⟨k + 1, A2, c2, ks, by go_num, by omega, h40, by have h := S8.out.put (v := f2) NO.out; rw [hfe] at h; first | exact h.mono (by omega) | (rw [← hfe] at h ⊢; exact h.mono (by omega))⟩
                case measure => simp [intOf]; omega
              · have hfb2 : (f2 == f) = false := by simp [hff]
                clear hff
                go_wp2_with fail
                go_roundw
                case rel => exact ⟨k + 1, A, c, bs, by go_num, by omega, hbl, S8.out.mono (by omega)⟩
                case measure => simp [intOf]; omega
          · go_simp
            have ba := allocB v1 (.cells #[.int .i64 0, .slice none 0 0] 50)
            have S3 := Lib.hid (S1.out.carry ba)
            have ZB := Lib.hid (Box.new v1 #[.int .i64 0, .slice none 0 0] 50)
            have hzx := S1.out.xb.lt
            have hS3 := S3.out.two
            refine hK.out _ _ hS3 (fun _ => ?_)
            clear hK K ba S1 hS1
            generalize v1.heap.size = y at ZB hzx ⊢
            generalize v1.alloc (.cells #[.int .i64 0, .slice none 0 0] 50) = v3 at S3 ZB hS3 ⊢
            try simp only [Act.put, List.setIfInBounds_toArray, List.set_cons_zero, List.set_cons_succ]
            refine wpAnyH_ready (rs := [3]) (by kernel_rfl) (by simp) ?_
            refine AllReadyH.cons rfl (fun K hK => ?_) AllReadyH.nil
            go_simp
            refine (s_VoterSign f A c bs X _ S3.out.own.lst S3.out.own.form (by omega)).mono ?_
            rintro e v4 ⟨f2, A2, c2, ks, q, rfl, hkl, hno, b4⟩
            have hz4 := Nat.lt_trans S3.out.lo S3.out.xb.lt
            have NO := Lib.hid (hno.lower (Nat.succ_le_of_lt hz4))
            have S4 := Lib.hid (S3.out.carry b4)
            replace ZB := Lib.hid (ZB.out.carry b4)
            have hS4 := S4.out.two
            clear hno b4 S3 hS3
            dsimp only
            refine hK.out _ _ hS4 (fun _ => ?_)
            clear hK K
            try simp only [Act.put, List.setIfInBounds_toArray, List.set_cons_zero, List.set_cons_succ]
            refine wpAnyH_take (i := 4) (v := ?v5) rfl (by kernel_rfl) (by kernel_rfl) (by kernel_rfl) (fun _ _ _ h => h) (Or.inl ⟨by rfl, ?hy5⟩) hS4 ?rest5
            case hy5 =>
              intro W hW
              go_simp
              try with_reducible rfl
            try simp only [Act.put, List.setIfInBounds_toArray, List.set_cons_zero, List.set_cons_succ]
            refine wpAnyH_take (i := 5) (v := ?v6) rfl (by kernel_rfl) (by kernel_rfl) (by kernel_rfl) (fun _ _ _ h => h) (Or.inl ⟨by rfl, ?hy6⟩) hS4 ?rest6
            case hy6 =>
              intro W hW
              go_simp
              try with_reducible rfl
            try simp only [Act.put, List.setIfInBounds_toArray, List.set_cons_zero, List.set_cons_succ]
            refine wpAnyH_take (i := 6) (v := ?v7) rfl (by kernel_rfl) (by kernel_rfl) (by kernel_rfl) (fun _ _ _ h => h) (Or.inl ⟨by rfl, ?hy7⟩) hS4 ?rest7
            case hy7 =>
              intro W hW
              go_simp
              try with_reducible rfl
            try simp only [Act.put, List.setIfInBounds_toArray, List.set_cons_zero, List.set_cons_succ]
            refine wpAnyH_ready (rs := [8]) (by kernel_rfl) (by simp) ?_
            refine AllReadyH.cons rfl (fun K hK => ?_) AllReadyH.nil
            have z0 := ZB.out.cell (j := 0) (u := .int .i64 0) rfl
            have z1 := ZB.out.cell (j := 1) (u := .slice none 0 0) rfl
            have zf0 := ZB.out.free 0
            have zf1 := ZB.out.free 1
            go_simp
            have hlo := S4.out.lo
            have S7 := Lib.hid ((S4.out.far (j := 0) (u := .int .i64 f2) ZB.out (by decide) (by omega) (by omega)).far (j := 1) (u := .slice A2 ks.length c2) (ZB.out.set 0 _) (by decide) (by omega) (by omega))
            have YB := Lib.hid (show Box _ y 50 #[.int .i64 f2, .slice A2 ks.length c2] from (ZB.out.set 0 (.int .i64 f2)).set 1 (.slice A2 ks.length c2))
            replace NO := Lib.hid ((NO.out.box (j := 0) (u := .int .i64 f2) ZB.out (by decide)).box (j := 1) (u := .slice A2 ks.length c2) (ZB.out.set 0 _) (by decide))
            have hS7 := S7.out.two
            refine hK.out _ _ hS7 (fun _ => ?_)
            clear hK K z0 z1 zf0 zf1 S4 hS4 ZB
            try simp only [Act.put, List.setIfInBounds_toArray, List.set_cons_zero, List.set_cons_succ]
            refine wpAnyH_take (i := 9) (v := ?v8) rfl (by kernel_rfl) (by kernel_rfl) (by kernel_rfl) (fun _ _ _ h => h) (Or.inl ⟨by rfl, ?hy8⟩) hS7 ?rest8
            case hy8 =>
              intro W hW
              go_simp
              try with_reducible rfl
            try simp only [Act.put, List.setIfInBounds_toArray, List.set_cons_zero, List.set_cons_succ]
            refine wpAnyH_done (by kernel_rfl) ?_ _
            clear hS7
            have y0 := YB.out.cell (j := 0) (u := .int .i64 f2) rfl
            have y1 := YB.out.cell (j := 1) (u := .slice A2 ks.length c2) rfl
            go_wp2_with fail
            refine (s_VoterValid f2 A2 c2 ks _ NO.out.lst (by omega)).mono ?_
            rintro e v8 ⟨rfl, b8⟩
            have S8 := Lib.hid (S7.out.carry b8)
            replace YB := Lib.hid (YB.out.carry b8)
            replace NO := Lib.hid (NO.out.carry b8)
            clear b8 S7 y0 y1
            have y0 := YB.out.cell (j := 0) (u := .int .i64 f2) rfl
            have y1 := YB.out.cell (j := 1) (u := .slice A2 ks.length c2) rfl
            have p0 := S8.out.xb.cell (j := 0) (u := .int .i64 f) rfl
            have p1 := S8.out.xb.cell (j := 1) (u := .slice A bs.length c) rfl
            have pf0 := S8.out.xb.free 0
            have pf1 := S8.out.xb.free 1
            rcases hv : voterB f2 ks with _ | _
            · go_wp2_with fail
              go_roundw
              case rel => exact ⟨k + 1, A, c, bs, by go_num, by omega, hbl, S8.out.mono (by omega)⟩
              case measure => simp [intOf]; omega
            · have h40 := (voter_good hv).2.1
              clear hv
              by_cases hff : f2 = f
              · have hfb2 : (f2 == f) = true := by simp [hff]
                have hfe := hff
                clear hff
                go_wp2_with fail
                go_roundw
                case rel => exact ⟨k + 1, A2, c2, ks, by go_num, by omega, h40, by have h := S8.out.put (v := f2) NO.out; rw [hfe] at h; first | exact h.mono (by omega) | (rw [← hfe] at h ⊢; exact h.mono (by omega))⟩
                case measure => simp [intOf]; omega
              · have hfb2 : (f2 == f) = false := by simp [hff]
                clear hff
                go_wp2_with fail
                go_roundw
                case rel => exact ⟨k + 1, A, c, bs, by go_num, by omega, hbl, S8.out.mono (by omega)⟩
                case measure => simp [intOf]; omega
        · go_simp
          have ba := allocB v0 (.cells #[.int .i64 0, .slice none 0 0] 50)
          have S5 := Lib.hid (S0.out.carry ba)
          have ZB := Lib.hid (Box.new v0 #[.int .i64 0, .slice none 0 0] 50)
          have hzx := S0.out.xb.lt
          have hS5 := S5.out.two
          refine hK.out _ _ hS5 (fun _ => ?_)
          clear hK K ba S0 hS0
          generalize v0.heap.size = y at ZB hzx ⊢
          generalize v0.alloc (.cells #[.int .i64 0, .slice none 0 0] 50) = v5 at S5 ZB hS5 ⊢
          try simp only [Act.put, List.setIfInBounds_toArray, List.set_cons_zero, List.set_cons_succ]
          refine wpAnyH_ready (rs := [2]) (by kernel_rfl) (by simp) ?_
          refine AllReadyH.cons rfl (fun K hK => ?_) AllReadyH.nil
          go_simp
          refine (s_l92Vote _ B r _ S5.out.rd (by omega)).mono ?_
          rintro e v6 ⟨X, rfl, hr6, hg6⟩
          have S6 := Lib.hid (S5.out.grown hg6 hr6)
          replace ZB := Lib.hid (ZB.out.grown hg6 (fun k hk => by injection hk with hk; have := S6.out.hr; have := S6.out.lo; omega))
          have hS6 := S6.out.two
          clear hr6 hg6 S5 hS5
          dsimp only
          refine hK.out _ _ hS6 (fun _ => ?_)
          clear hK K
          try simp only [Act.put, List.setIfInBounds_toArray, List.set_cons_zero, List.set_cons_succ]
          refine wpAnyH_ready (rs := [3]) (by kernel_rfl) (by simp) ?_
          refine AllReadyH.cons rfl (fun K hK => ?_) AllReadyH.nil
          go_simp
          refine (s_VoterSign f A c bs X _ S6.out.own.lst S6.out.own.form (by omega)).mono ?_
          rintro e v4 ⟨f2, A2, c2, ks, q, rfl, hkl, hno, b4⟩
          have hz4 := Nat.lt_trans S6.out.lo S6.out.xb.lt
          have NO := Lib.hid (hno.lower (Nat.succ_le_of_lt hz4))
          have S4 := Lib.hid (S6.out.carry b4)
          replace ZB := Lib.hid (ZB.out.carry b4)
          have hS4 := S4.out.two
          clear hno b4 S6 hS6
          dsimp only
          refine hK.out _ _ hS4 (fun _ => ?_)
          clear hK K
          try simp only [Act.put, List.setIfInBounds_toArray, List.set_cons_zero, List.set_cons_succ]
          refine wpAnyH_take (i := 4) (v := ?v9) rfl (by kernel_rfl) (by kernel_rfl) (by kernel_rfl) (fun _ _ _ h => h) (Or.inl ⟨by rfl, ?hy9⟩) hS4 ?rest9
          case hy9 =>
            intro W hW
            go_simp
            try with_reducible rfl
          try simp only [Act.put, List.setIfInBounds_toArray, List.set_cons_zero, List.set_cons_succ]
          refine wpAnyH_take (i := 5) (v := ?v10) rfl (by kernel_rfl) (by kernel_rfl) (by kernel_rfl) (fun _ _ _ h => h) (Or.inl ⟨by rfl, ?hy10⟩) hS4 ?rest10
          case hy10 =>
            intro W hW
            go_simp
            try with_reducible rfl
          try simp only [Act.put, List.setIfInBounds_toArray, List.set_cons_zero, List.set_cons_succ]
          refine wpAnyH_take (i := 6) (v := ?v11) rfl (by kernel_rfl) (by kernel_rfl) (by kernel_rfl) (fun _ _ _ h => h) (Or.inl ⟨by rfl, ?hy11⟩) hS4 ?rest11
          case hy11 =>
            intro W hW
            go_simp
            try with_reducible rfl
          try simp only [Act.put, List.setIfInBounds_toArray, List.set_cons_zero, List.set_cons_succ]
          refine wpAnyH_ready (rs := [8]) (by kernel_rfl) (by simp) ?_
          refine AllReadyH.cons rfl (fun K hK => ?_) AllReadyH.nil
          have z0 := ZB.out.cell (j := 0) (u := .int .i64 0) rfl
          have z1 := ZB.out.cell (j := 1) (u := .slice none 0 0) rfl
          have zf0 := ZB.out.free 0
          have zf1 := ZB.out.free 1
          go_simp
          have hlo := S4.out.lo
          have S7 := Lib.hid ((S4.out.far (j := 0) (u := .int .i64 f2) ZB.out (by decide) (by omega) (by omega)).far (j := 1) (u := .slice A2 ks.length c2) (ZB.out.set 0 _) (by decide) (by omega) (by omega))
          have YB := Lib.hid (show Box _ y 50 #[.int .i64 f2, .slice A2 ks.length c2] from (ZB.out.set 0 (.int .i64 f2)).set 1 (.slice A2 ks.length c2))
          replace NO := Lib.hid ((NO.out.box (j := 0) (u := .int .i64 f2) ZB.out (by decide)).box (j := 1) (u := .slice A2 ks.length c2) (ZB.out.set 0 _) (by decide))
          have hS7 := S7.out.two
          refine hK.out _ _ hS7 (fun _ => ?_)
          clear hK K z0 z1 zf0 zf1 S4 hS4 ZB
          try simp only [Act.put, List.setIfInBounds_toArray, List.set_cons_zero, List.set_cons_succ]
          refine wpAnyH_take (i := 9) (v := ?v12) rfl (by kernel_rfl) (by kernel_rfl) (by kernel_rfl) (fun _ _ _ h => h) (Or.inl ⟨by rfl, ?hy12⟩) hS7 ?rest12
          case hy12 =>
            intro W hW
            go_simp
            try with_reducible rfl
          try simp only [Act.put, List.setIfInBounds_toArray, List.set_cons_zero, List.set_cons_succ]
          refine wpAnyH_done (by kernel_rfl) ?_ _
          clear hS7
          have y0 := YB.out.cell (j := 0) (u := .int .i64 f2) rfl
          have y1 := YB.out.cell (j := 1) (u := .slice A2 ks.length c2) rfl
          go_wp2_with fail
          refine (s_VoterValid f2 A2 c2 ks _ NO.out.lst (by omega)).mono ?_
          rintro e v8 ⟨rfl, b8⟩
          have S8 := Lib.hid (S7.out.carry b8)
          replace YB := Lib.hid (YB.out.carry b8)
          replace NO := Lib.hid (NO.out.carry b8)
          clear b8 S7 y0 y1
          have y0 := YB.out.cell (j := 0) (u := .int .i64 f2) rfl
          have y1 := YB.out.cell (j := 1) (u := .slice A2 ks.length c2) rfl
          have p0 := S8.out.xb.cell (j := 0) (u := .int .i64 f) rfl
          have p1 := S8.out.xb.cell (j := 1) (u := .slice A bs.length c) rfl
          have pf0 := S8.out.xb.free 0
          have pf1 := S8.out.xb.free 1
          rcases hv : voterB f2 ks with _ | _
          · go_wp2_with fail
            go_roundw
            case rel => exact ⟨k + 1, A, c, bs, by go_num, by omega, hbl, S8.out.mono (by omega)⟩
            case measure => simp [intOf]; omega
          · have h40 := (voter_good hv).2.1
            clear hv
            by_cases hff : f2 = f
            · have hfb2 : (f2 == f) = true := by simp [hff]
              have hfe := hff
              clear hff
              go_wp2_with fail
              go_roundw
              case rel => exact ⟨k + 1, A2, c2, ks, by go_num, by omega, h40, by have h := S8.out.put (v := f2) NO.out; rw [hfe] at h; first | exact h.mono (by omega) | (rw [← hfe] at h ⊢; exact h.mono (by omega))⟩
              case measure => simp [intOf]; omega
            · have hfb2 : (f2 == f) = false := by simp [hff]
              clear hff
              go_wp2_with fail
              go_roundw
              case rel => exact ⟨k + 1, A, c, bs, by go_num, by omega, hbl, S8.out.mono (by omega)⟩
              case measure => simp [intOf]; omega
      · have hd : decide ((k : Int) < n) = false := by simpa using hlt
        clear p0 p1
        go_wp2_with fail
        refine (pick_any _ B r _ 16 ST.out.rd (by omega)).mono ?_
        rintro e w6 ⟨x6, rfl, hx6, _, hn6, hr6, hg6, hs6⟩
        have S6 := Lib.hid (ST.out.grown hg6 hr6)
        clear hn6 hs6 hg6 hr6 ST
        by_cases h6 : x6 = 0
        · have hb6 : (x6 == 0) = true := by simp [h6]
          clear h6
          go_wp2_with fail
          refine (pick_any _ B r _ 35 S6.out.rd (by omega)).mono ?_
          rintro e w7 ⟨x7, rfl, hx7, _, hn7, hr7, hg7, hs7⟩
          have hl7 := hn7 (by omega)
          have hw7 : IntKind.i64.wrap (x7 - 1) = x7 - 1 := IntWalk.i64_in _ (by omega)
          have S7 := Lib.hid (S6.out.grown hg7 hr7)
          clear hn7 hs7 hg7 hr7 S6
          have S8 := Lib.hid (S7.out.floor (x7 - 1))
          have p0 := S7.out.xb.cell (j := 0) (u := .int .i64 f) rfl
          have p1 := S7.out.xb.cell (j := 1) (u := .slice A bs.length c) rfl
          have pf0 := S7.out.xb.free 0
          have o0 := S7.out.ob.cell (j := 0) (u := .int .i64 0) rfl
          have o1 := S7.out.ob.cell (j := 1) (u := .slice none 0 0) rfl
          have of0 := S7.out.ob.free 0
          have of1 := S7.out.ob.free 1
          have hlo := S7.out.lo
          have hne : x ≠ w.heap.size := by omega
          have hne2 : w.heap.size ≠ x := by omega
          go_wp2_with fail
          have D := S8.out.drawn (by omega)
          obtain ⟨f9, A9, c9, bs9, e9, l9, n9, r9, g9⟩ := D
          exact bodyPost_ret (v := .agg #[.int .i64 (x7 - 1), .slice A bs.length c]) (by simp [results, Try.results85, go_sem, *]) rfl ⟨f9, A9, c9, bs9, e9, l9, n9, r9.mono (by omega), g9⟩
        by_cases h61 : x6 = 1
        · have hb6 : (x6 == 0) = false := by simp [h6]
          have hb61 : (x6 == 1) = true := by simp [h61]
          clear h6 h61
          go_wp2_with fail
          have S0 := Lib.hid (show Vo w B r (P + 6 + 15 * k + 1) x f A c bs ({ w6 with drawn := w6.drawn + 1 } : World) from S6.out.carry (Below.refl _ _).drew)
          refine wp_region_held (S := fun _ => True) (by kernel_rfl) ?_
          clear S6
          generalize ({ w6 with drawn := w6.drawn + 1 } : World) = v0 at S0 ⊢
          refine wpAnyH_take (i := 0) (v := ?v15) rfl (by kernel_rfl) (by kernel_rfl) (by kernel_rfl) (fun _ _ _ h => h) (Or.inl ⟨by rfl, ?hy15⟩) trivial ?rest15
          case hy15 =>
            intro W hW
            go_simp
            try with_reducible rfl
          try simp only [Act.put, List.setIfInBounds_toArray, List.set_cons_zero, List.set_cons_succ]
          refine wpAnyH_take (i := 2) (v := ?v16) rfl (by kernel_rfl) (by kernel_rfl) (by kernel_rfl) (fun _ _ _ h => h) (Or.inl ⟨by rfl, ?hy16⟩) trivial ?rest16
          case hy16 =>
            intro W hW
            go_simp
            try with_reducible rfl
          try simp only [Act.put, List.setIfInBounds_toArray, List.set_cons_zero, List.set_cons_succ]
          refine wpAnyH_ready (rs := [1, 3]) (by kernel_rfl) (by simp) ?_
          refine AllReadyH.cons rfl (fun K hK => ?_) (AllReadyH.cons rfl (fun K hK => ?_) AllReadyH.nil)
          · have c1 := S0.out.xb.cell (j := 1) (u := .slice A bs.length c) rfl
            go_simp
            refine hK.out _ _ trivial (fun _ => ?_)
            clear hK K c1
            try simp only [Act.put, List.setIfInBounds_toArray, List.set_cons_zero, List.set_cons_succ]
            refine wpAnyH_ready (rs := [3]) (by kernel_rfl) (by simp) ?_
            refine AllReadyH.cons rfl (fun K hK => ?_) AllReadyH.nil
            go_simp
            refine (s_l92Vote _ B r _ S0.out.rd (by omega)).mono ?_
            rintro e v1 ⟨X, rfl, hr1, hg1⟩
            have S1 := Lib.hid (S0.out.grown hg1 hr1)
            clear hr1 hg1 S0
            dsimp only
            refine hK.out _ _ trivial (fun _ => ?_)
            clear hK K
            try simp only [Act.put, List.setIfInBounds_toArray, List.set_cons_zero, List.set_cons_succ]
            refine wpAnyH_ready (rs := [4]) (by kernel_rfl) (by simp) ?_
            refine AllReadyH.cons rfl (fun K hK => ?_) AllReadyH.nil
            go_simp
            have ba := allocB v1 (.cells #[.int .i64 X.r, .int .i64 X.a, .int .i64 X.d] 35)
            have S2 := Lib.hid (S1.out.carry ba)
            have XB := Lib.hid (Box.new v1 #[.int .i64 X.r, .int .i64 X.a, .int .i64 X.d] 35)
            have hzx := S1.out.xb.lt
            have hlo := S1.out.lo
            refine hK.out _ _ trivial (fun _ => ?_)
            clear hK K ba S1
            generalize v1.heap.size = y at XB hzx ⊢
            generalize v1.alloc (.cells #[.int .i64 X.r, .int .i64 X.a, .int .i64 X.d] 35) = v2 at S2 XB ⊢
            have hyl := XB.out.lt
            try simp only [Act.put, List.setIfInBounds_toArray, List.set_cons_zero, List.set_cons_succ]
            refine wpAnyH_ready (rs := [5]) (by kernel_rfl) (by simp) ?_
            refine AllReadyH.cons rfl (fun K hK => ?_) AllReadyH.nil
            refine stepRow elem_Vote (by omega) (by omega) (by rfl) (.tmp 74) (.tmp 77) (by rfl) _ (w.heap.size + 1) _ bs.length (cellsVote bs) (by rfl) S2.out.own.row (y + 1) (some ⟨y, 0, none⟩) 1 1 X.cells (by omega) (by rfl) rfl (row_of_box XB.out (by omega)) (voteCells_one X) (by omega) (by omega) ?_
            intro g6 cap6 w9 own6 hg6
            have own7 : OwnVote w9 (w.heap.size + 1) (.slice (some ⟨g6, 0, none⟩) (bs.length + 1) cap6) (bs ++ [X]) := by unfold OwnVote; rw [cellsVote_snoc, List.length_append]; exact own6
            obtain ⟨V6, q0, q1, qf, ql⟩ := S2.out.appAny own7 hg6
            have V7 := Lib.hid V6
            have V8 := Lib.hid ql
            clear V6 ql own6 own7 hg6 S2 XB
            refine hK.out _ _ trivial (fun _ => ?_)
            clear hK K
            try simp only [Act.put, List.setIfInBounds_toArray, List.set_cons_zero, List.set_cons_succ]
            refine wpAnyH_take (i := 6) (v := ?v17) rfl (by kernel_rfl) (by kernel_rfl) (by kernel_rfl) (fun _ _ _ h => h) (Or.inl ⟨by rfl, ?hy17⟩) trivial ?rest17
            case hy17 =>
              intro W hW
              go_simp
              try with_reducible rfl
            try simp only [Act.put, List.setIfInBounds_toArray, List.set_cons_zero, List.set_cons_succ]
            refine wpAnyH_ready (rs := [7]) (by kernel_rfl) (by simp) ?_
            refine AllReadyH.cons rfl (fun K hK => ?_) AllReadyH.nil
            go_simp
            refine hK.out _ _ trivial (fun _ => ?_)
            clear hK K
            try simp only [Act.put, List.setIfInBounds_toArray, List.set_cons_zero, List.set_cons_succ]
            refine wpAnyH_done (by kernel_rfl) ?_ _
            have hbs9 : (bs ++ [X]).length ≤ 41 := by rw [List.length_append]; simp; omega
            generalize w9.setCell ⟨x, 1, none⟩ (.slice (some ⟨g6, 0, none⟩) (bs.length + 1) cap6) = wz at V7 ⊢
            rw [V8.out]
            clear q0 q1 qf
            have p0 := V7.out.xb.cell (j := 0) (u := .int .i64 f) rfl
            have p1 := V7.out.xb.cell (j := 1) (u := .slice (some ⟨g6, 0, none⟩) (bs ++ [X]).length cap6) rfl
            have o0 := V7.out.ob.cell (j := 0) (u := .int .i64 0) rfl
            have o1 := V7.out.ob.cell (j := 1) (u := .slice none 0 0) rfl
            have of0 := V7.out.ob.free 0
            have of1 := V7.out.ob.free 1
            have D := V7.out.drawn (by omega)
            rw [show (bs ++ [X]).length = bs.length + 1 by simp] at D
            obtain ⟨f9, A9, c9, bs9, e9, l9, n9, r9, g9⟩ := D
            go_wp2_with fail
            exact bodyPost_ret (v := .agg #[.int .i64 f, .slice (some ⟨g6, 0, none⟩) (bs.length + 1) cap6]) (by simp [results, Try.results85, go_sem, *]) rfl ⟨f9, A9, c9, bs9, e9, l9, n9, r9.mono (by omega), g9⟩
          · go_simp
            refine (s_l92Vote _ B r _ S0.out.rd (by omega)).mono ?_
            rintro e v1 ⟨X, rfl, hr1, hg1⟩
            have S1 := Lib.hid (S0.out.grown hg1 hr1)
            clear hr1 hg1 S0
            dsimp only
            refine hK.out _ _ trivial (fun _ => ?_)
            clear hK K
            try simp only [Act.put, List.setIfInBounds_toArray, List.set_cons_zero, List.set_cons_succ]
            refine wpAnyH_ready (rs := [1, 4]) (by kernel_rfl) (by simp) ?_
            refine AllReadyH.cons rfl (fun K hK => ?_) (AllReadyH.cons rfl (fun K hK => ?_) AllReadyH.nil)
            · have c1 := S1.out.xb.cell (j := 1) (u := .slice A bs.length c) rfl
              go_simp
              refine hK.out _ _ trivial (fun _ => ?_)
              clear hK K c1
              try simp only [Act.put, List.setIfInBounds_toArray, List.set_cons_zero, List.set_cons_succ]
              refine wpAnyH_ready (rs := [4]) (by kernel_rfl) (by simp) ?_
              refine AllReadyH.cons rfl (fun K hK => ?_) AllReadyH.nil
              go_simp
              have ba := allocB v1 (.cells #[.int .i64 X.r, .int .i64 X.a, .int .i64 X.d] 35)
              have S2 := Lib.hid (S1.out.carry ba)
              have XB := Lib.hid (Box.new v1 #[.int .i64 X.r, .int .i64 X.a, .int .i64 X.d] 35)
              have hzx := S1.out.xb.lt
              have hlo := S1.out.lo
              refine hK.out _ _ trivial (fun _ => ?_)
              clear hK K ba S1
              generalize v1.heap.size = y at XB hzx ⊢
              generalize v1.alloc (.cells #[.int .i64 X.r, .int .i64 X.a, .int .i64 X.d] 35) = v2 at S2 XB ⊢
              have hyl := XB.out.lt
              try simp only [Act.put, List.setIfInBounds_toArray, List.set_cons_zero, List.set_cons_succ]
              refine wpAnyH_ready (rs := [5]) (by kernel_rfl) (by simp) ?_
              refine AllReadyH.cons rfl (fun K hK => ?_) AllReadyH.nil
              refine stepRow elem_Vote (by omega) (by omega) (by rfl) (.tmp 74) (.tmp 77) (by rfl) _ (w.heap.size + 1) _ bs.length (cellsVote bs) (by rfl) S2.out.own.row (y + 1) (some ⟨y, 0, none⟩) 1 1 X.cells (by omega) (by rfl) rfl (row_of_box XB.out (by omega)) (voteCells_one X) (by omega) (by omega) ?_
              intro g6 cap6 w9 own6 hg6
              have own7 : OwnVote w9 (w.heap.size + 1) (.slice (some ⟨g6, 0, none⟩) (bs.length + 1) cap6) (bs ++ [X]) := by unfold OwnVote; rw [cellsVote_snoc, List.length_append]; exact own6
              obtain ⟨V6, q0, q1, qf, ql⟩ := S2.out.appAny own7 hg6
              have V7 := Lib.hid V6
              have V8 := Lib.hid ql
              clear V6 ql own6 own7 hg6 S2 XB
              refine hK.out _ _ trivial (fun _ => ?_)
              clear hK K
              try simp only [Act.put, List.setIfInBounds_toArray, List.set_cons_zero, List.set_cons_succ]
              refine wpAnyH_take (i := 6) (v := ?v18) rfl (by kernel_rfl) (by kernel_rfl) (by kernel_rfl) (fun _ _ _ h => h) (Or.inl ⟨by rfl, ?hy18⟩) trivial ?rest18
              case hy18 =>
                intro W hW
                go_simp
                try with_reducible rfl
              try simp only [Act.put, List.setIfInBounds_toArray, List.set_cons_zero, List.set_cons_succ]
              refine wpAnyH_ready (rs := [7]) (by kernel_rfl) (by simp) ?_
              refine AllReadyH.cons rfl (fun K hK => ?_) AllReadyH.nil
              go_simp
              refine hK.out _ _ trivial (fun _ => ?_)
              clear hK K
              try simp only [Act.put, List.setIfInBounds_toArray, List.set_cons_zero, List.set_cons_succ]
              refine wpAnyH_done (by kernel_rfl) ?_ _
              have hbs9 : (bs ++ [X]).length ≤ 41 := by rw [List.length_append]; simp; omega
              generalize w9.setCell ⟨x, 1, none⟩ (.slice (some ⟨g6, 0, none⟩) (bs.length + 1) cap6) = wz at V7 ⊢
              rw [V8.out]
              clear q0 q1 qf
              have p0 := V7.out.xb.cell (j := 0) (u := .int .i64 f) rfl
              have p1 := V7.out.xb.cell (j := 1) (u := .slice (some ⟨g6, 0, none⟩) (bs ++ [X]).length cap6) rfl
              have o0 := V7.out.ob.cell (j := 0) (u := .int .i64 0) rfl
              have o1 := V7.out.ob.cell (j := 1) (u := .slice none 0 0) rfl
              have of0 := V7.out.ob.free 0
              have of1 := V7.out.ob.free 1
              have D := V7.out.drawn (by omega)
              rw [show (bs ++ [X]).length = bs.length + 1 by simp] at D
              obtain ⟨f9, A9, c9, bs9, e9, l9, n9, r9, g9⟩ := D
              go_wp2_with fail
              exact bodyPost_ret (v := .agg #[.int .i64 f, .slice (some ⟨g6, 0, none⟩) (bs.length + 1) cap6]) (by simp [results, Try.results85, go_sem, *]) rfl ⟨f9, A9, c9, bs9, e9, l9, n9, r9.mono (by omega), g9⟩
            · go_simp
              have ba := allocB v1 (.cells #[.int .i64 X.r, .int .i64 X.a, .int .i64 X.d] 35)
              have S2 := Lib.hid (S1.out.carry ba)
              have XB := Lib.hid (Box.new v1 #[.int .i64 X.r, .int .i64 X.a, .int .i64 X.d] 35)
              have hzx := S1.out.xb.lt
              have hlo := S1.out.lo
              refine hK.out _ _ trivial (fun _ => ?_)
              clear hK K ba S1
              generalize v1.heap.size = y at XB hzx ⊢
              generalize v1.alloc (.cells #[.int .i64 X.r, .int .i64 X.a, .int .i64 X.d] 35) = v2 at S2 XB ⊢
              have hyl := XB.out.lt
              try simp only [Act.put, List.setIfInBounds_toArray, List.set_cons_zero, List.set_cons_succ]
              refine wpAnyH_ready (rs := [1]) (by kernel_rfl) (by simp) ?_
              refine AllReadyH.cons rfl (fun K hK => ?_) AllReadyH.nil
              have c1 := S2.out.xb.cell (j := 1) (u := .slice A bs.length c) rfl
              go_simp
              refine hK.out _ _ trivial (fun _ => ?_)
              clear hK K c1
              try simp only [Act.put, List.setIfInBounds_toArray, List.set_cons_zero, List.set_cons_succ]
              refine wpAnyH_ready (rs := [5]) (by kernel_rfl) (by simp) ?_
              refine AllReadyH.cons rfl (fun K hK => ?_) AllReadyH.nil
              refine stepRow elem_Vote (by omega) (by omega) (by rfl) (.tmp 74) (.tmp 77) (by rfl) _ (w.heap.size + 1) _ bs.length (cellsVote bs) (by rfl) S2.out.own.row (y + 1) (some ⟨y, 0, none⟩) 1 1 X.cells (by omega) (by rfl) rfl (row_of_box XB.out (by omega)) (voteCells_one X) (by omega) (by omega) ?_
              intro g6 cap6 w9 own6 hg6
              have own7 : OwnVote w9 (w.heap.size + 1) (.slice (some ⟨g6, 0, none⟩) (bs.length + 1) cap6) (bs ++ [X]) := by unfold OwnVote; rw [cellsVote_snoc, List.length_append]; exact own6
              obtain ⟨V6, q0, q1, qf, ql⟩ := S2.out.appAny own7 hg6
              have V7 := Lib.hid V6
              have V8 := Lib.hid ql
              clear V6 ql own6 own7 hg6 S2 XB
              refine hK.out _ _ trivial (fun _ => ?_)
              clear hK K
              try simp only [Act.put, List.setIfInBounds_toArray, List.set_cons_zero, List.set_cons_succ]
              refine wpAnyH_take (i := 6) (v := ?v19) rfl (by kernel_rfl) (by kernel_rfl) (by kernel_rfl) (fun _ _ _ h => h) (Or.inl ⟨by rfl, ?hy19⟩) trivial ?rest19
              case hy19 =>
                intro W hW
                go_simp
                try with_reducible rfl
              try simp only [Act.put, List.setIfInBounds_toArray, List.set_cons_zero, List.set_cons_succ]
              refine wpAnyH_ready (rs := [7]) (by kernel_rfl) (by simp) ?_
              refine AllReadyH.cons rfl (fun K hK => ?_) AllReadyH.nil
              go_simp
              refine hK.out _ _ trivial (fun _ => ?_)
              clear hK K
              try simp only [Act.put, List.setIfInBounds_toArray, List.set_cons_zero, List.set_cons_succ]
              refine wpAnyH_done (by kernel_rfl) ?_ _
              have hbs9 : (bs ++ [X]).length ≤ 41 := by rw [List.length_append]; simp; omega
              generalize w9.setCell ⟨x, 1, none⟩ (.slice (some ⟨g6, 0, none⟩) (bs.length + 1) cap6) = wz at V7 ⊢
              rw [V8.out]
              clear q0 q1 qf
              have p0 := V7.out.xb.cell (j := 0) (u := .int .i64 f) rfl
              have p1 := V7.out.xb.cell (j := 1) (u := .slice (some ⟨g6, 0, none⟩) (bs ++ [X]).length cap6) rfl
              have o0 := V7.out.ob.cell (j := 0) (u := .int .i64 0) rfl
              have o1 := V7.out.ob.cell (j := 1) (u := .slice none 0 0) rfl
              have of0 := V7.out.ob.free 0
              have of1 := V7.out.ob.free 1
              have D := V7.out.drawn (by omega)
              rw [show (bs ++ [X]).length = bs.length + 1 by simp] at D
              obtain ⟨f9, A9, c9, bs9, e9, l9, n9, r9, g9⟩ := D
              go_wp2_with fail
              exact bodyPost_ret (v := .agg #[.int .i64 f, .slice (some ⟨g6, 0, none⟩) (bs.length + 1) cap6]) (by simp [results, Try.results85, go_sem, *]) rfl ⟨f9, A9, c9, bs9, e9, l9, n9, r9.mono (by omega), g9⟩
        · have hb6 : (x6 == 0) = false := by simp [h6]
          have hb61 : (x6 == 1) = false := by simp [h61]
          clear h6 h61
          have p0 := S6.out.xb.cell (j := 0) (u := .int .i64 f) rfl
          have p1 := S6.out.xb.cell (j := 1) (u := .slice A bs.length c) rfl
          have o0 := S6.out.ob.cell (j := 0) (u := .int .i64 0) rfl
          have o1 := S6.out.ob.cell (j := 1) (u := .slice none 0 0) rfl
          have of0 := S6.out.ob.free 0
          have of1 := S6.out.ob.free 1
          go_wp2_with fail
          have D := S6.out.drawn (by omega)
          obtain ⟨f9, A9, c9, bs9, e9, l9, n9, r9, g9⟩ := D
          exact bodyPost_ret (v := .agg #[.int .i64 f, .slice A bs.length c]) (by simp [results, Try.results85, go_sem, *]) rfl ⟨f9, A9, c9, bs9, e9, l9, n9, r9.mono (by omega), g9⟩
end Go.Proofs.Ytohnodphlaoohaa
