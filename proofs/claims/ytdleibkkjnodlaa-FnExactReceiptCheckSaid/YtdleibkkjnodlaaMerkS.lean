/- Proofs in trees of digests: the reference's MerkleCheck by its contract. -/
import Derived.Test.YtdleibkkjnodlaaMerkP
import Derived.Outline
namespace Go.Proofs.Ytdleibkkjnodlaa
open Go.RowKit
set_option linter.unusedVariables false

theorem Ints.tail {w : World} {B b off : Nat} {p : Int} {qs : List Int} (h : Ints w B (some ⟨b, off, none⟩) (p :: qs)) : Ints w B (some ⟨b, off + 1, none⟩) qs := by
  obtain ⟨b', off', e, hb, hc⟩ := h.at_ (k := 0) (by simp)
  injection e with e
  injection e with e1 e2
  subst e1; subst e2
  refine Ints.mk hb fun j hj => ?_
  have := hc (j + 1) (by simp; omega)
  rw [show off + 1 + j = off + (j + 1) by omega, this]
  simp [nth]
set_option maxHeartbeats 4000000 in
theorem s_MerkleCheck (root size i leaf : Int) (A : Option Addr) (c : Nat) (ps : List Int) (w : World) (h : Ints w w.heap.size A ps) (hn : ps.length ≤ 1048576) (hc : ps.length ≤ c) (hc9 : c ≤ 9223372036854775807) :
    Calls Try.prog 41 #[.int .i64 root, .int .i64 size, .int .i64 i, .int .i64 leaf, .slice A ps.length c] w fun e w' => e = .returned (.bool (checkB root size i leaf ps)) ∧ w = w' := by
  have H := Lib.hid h
  clear h
  rcases h1 : inB size 1 16 with _ | _
  · rw [show checkB root size i leaf ps = false by simp [checkB, h1]]
    go_enter Try.func41, Try.ntmps41
    go_wp2_with fail
    refine (l6In_any _ _ _ _).mono ?_
    rw [h1]
    rintro e w' ⟨rfl, rfl⟩
    go_wp2_with fail
    go_ret
    exact ⟨rfl, rfl⟩
  have g1 := inB_iff.1 h1
  rcases h2 : inB i 0 (size - 1) with _ | _
  · rw [show checkB root size i leaf ps = false by simp [checkB, h1, h2]]
    go_enter Try.func41, Try.ntmps41
    go_wp2_with fail
    refine (l6In_any _ _ _ _).mono ?_
    rw [h1]
    rintro e w' ⟨rfl, rfl⟩
    go_wp2_with fail
    refine (l6In_any _ _ _ _).mono ?_
    rw [h2]
    rintro e w' ⟨rfl, rfl⟩
    go_wp2_with fail
    go_ret
    exact ⟨rfl, rfl⟩
  have g2 := inB_iff.1 h2
  rcases h3 : digB leaf with _ | _
  · rw [show checkB root size i leaf ps = false by simp [checkB, h1, h2, h3]]
    go_enter Try.func41, Try.ntmps41
    go_wp2_with fail
    refine (l6In_any _ _ _ _).mono ?_
    rw [h1]
    rintro e w' ⟨rfl, rfl⟩
    go_wp2_with fail
    refine (l6In_any _ _ _ _).mono ?_
    rw [h2]
    rintro e w' ⟨rfl, rfl⟩
    go_wp2_with fail
    refine (s_l2Digest _ _).mono ?_
    rw [h3]
    rintro e w' ⟨rfl, rfl⟩
    go_wp2_with fail
    go_ret
    exact ⟨rfl, rfl⟩
  obtain ⟨sz, rfl⟩ : ∃ m : Nat, size = (m : Int) := ⟨size.toNat, by omega⟩
  obtain ⟨k0, rfl⟩ : ∃ m : Nat, i = (m : Int) := ⟨i.toNat, by omega⟩
  obtain ⟨R, hR⟩ : ∃ R, mck sz sz k0 leaf ps = R := ⟨_, rfl⟩
  have hW : Walk R sz k0 leaf ps := hR ▸ Walk.start (by omega) (by omega) (by omega) h3
  have hfin : checkB root sz k0 leaf ps = mfin root R := by simp [checkB, h1, h2, h3, hR]
  have HF := Lib.hid hfin
  have HW := Lib.hid hW
  clear hfin hW hR
  go_enter Try.func41, Try.ntmps41
  go_wp2_with fail
  refine (l6In_any _ _ _ _).mono ?_
  rw [h1]
  rintro e w' ⟨rfl, rfl⟩
  go_wp2_with fail
  refine (l6In_any _ _ _ _).mono ?_
  rw [h2]
  rintro e w' ⟨rfl, rfl⟩
  go_wp2_with fail
  refine (s_l2Digest _ _).mono ?_
  rw [h3]
  rintro e w' ⟨rfl, rfl⟩
  clear h1 h2 h3 g1 g2
  go_wp2_with fail
  go_loop [1, 2, 4, 11] (fun zz ii pv nn => ∃ (s k c' : Nat) (A' : Option Addr) (qs : List Int) (m : Int), zz = .int .i64 s ∧ ii = .int .i64 k ∧ pv = .slice A' qs.length c' ∧ nn = .int .i64 m ∧ Ints w w.heap.size A' qs ∧ qs.length ≤ c' ∧ c' ≤ 9223372036854775807 ∧ qs.length ≤ 1048576 ∧ Walk R s k m qs) (fun zz _ _ _ => (intOf zz).toNat)
  case atStart => exact ⟨sz, k0, c, A, ps, leaf, rfl, rfl, rfl, rfl, H.out, hc, hc9, hn, HW.out⟩
  case round =>
    clear H HW hn hc hc9
    obtain ⟨s, k, c', A', qs, m, rfl, rfl, rfl, rfl, hq, hc, hc9, hn, hW⟩ := hrel
    have HQ := Lib.hid hq
    have HW := Lib.hid hW
    clear hq
    have hs1 := hW.1
    have hs16 := hW.2.1
    have hks := hW.2.2.1
    have hm := inB_iff.1 hW.2.2.2.1
    clear hW
    by_cases hlt : 1 < s
    · by_cases hp : k % 2 = 0
      · have hp2 : (k : Int) % 2 = 0 := by omega
        have HP := Lib.hid hp
        clear hp
        by_cases hb : k + 1 < s
        · have hsib : sib k < s := by have := HP.out; simp [sib, this]; omega
          have HB := Lib.hid hsib
          clear hsib
          rcases qs with _ | ⟨p, qs⟩
          · have HN := Lib.hid (HW.out.none hlt HB.out)
            go_wp2_with fail
            go_ret
            exact ⟨ret_bool (by rw [HF.out, HN.out]; rfl), rfl⟩
          · obtain ⟨b, off, rfl, hbb, hcc⟩ := HQ.out.at_ (k := 0) (by simp)
            have hc0 := hcc 0 (by simp)
            rw [show nth (p :: qs) 0 = p from rfl] at hc0
            rw [Nat.add_zero] at hc0
            have hl1 : (p :: qs).length = qs.length + 1 := rfl
            rw [hl1] at hc hn
            have HT := Lib.hid HQ.out.tail
            have hl0 : ((qs.length + 1 : Nat) : Int) ≠ 0 := by omega
            simp only [hl1]
            clear hcc hl1
            rcases hd : digB p with _ | _
            · have HN := Lib.hid (HW.out.bad hlt HB.out hd)
              go_wp2_with fail
              refine (s_l2Digest _ _).mono ?_
              rw [hd]
              rintro e w' ⟨rfl, rfl⟩
              go_wp2_with fail
              go_ret
              exact ⟨ret_bool (by rw [HF.out, HN.out]; rfl), rfl⟩
            · have hp9 := inB_iff.1 hd
              have HW2 := Lib.hid (HW.out.even hlt HB.out hd HP.out)
              go_wp2_with fail
              refine (s_l2Digest _ _).mono ?_
              rw [hd]
              rintro e w' ⟨rfl, rfl⟩
              clear hd
              go_wp2_with fail
              refine (s_l2Pair _ _ _ (by omega) (by omega) (by omega) (by omega)).mono ?_
              rintro e w' ⟨rfl, rfl⟩
              by_cases hcap : c' = 1
              · obtain rfl : qs = [] := List.length_eq_zero_iff.1 (by omega)
                subst hcap
                go_wp2_with fail
                go_round
                case rel => exact ⟨(s + 1) / 2, k / 2, _, _, [], _, by go_num, by go_num, rfl, rfl, Ints.nil _ _ _, by simp, by omega, by simp, HW2.out⟩
                case measure => simp [intOf]; omega
              · have hcap2 : (1 : Int) < (c' : Int) := by omega
                go_wp2_with fail
                go_round
                case rel => exact ⟨(s + 1) / 2, k / 2, c' - 1, _, qs, _, by go_num, by go_num, by first | rfl | (congr 1 <;> omega), rfl, HT.out, by omega, by omega, by omega, HW2.out⟩
                case measure => simp [intOf]; omega
        · have hsib : ¬ sib k < s := by have := HP.out; simp [sib, this]; omega
          have HB := Lib.hid hsib
          clear hsib
          have HW2 := Lib.hid (HW.out.skip hlt HB.out)
          go_wp2_with fail
          go_round
          case rel => exact ⟨(s + 1) / 2, k / 2, c', _, qs, m, by go_num, by go_num, rfl, rfl, HQ.out, hc, hc9, hn, HW2.out⟩
          case measure => simp [intOf]; omega
      · have hp2 : (k : Int) % 2 = 1 := by omega
        have hk0 : (1 : Int) ≤ (k : Int) := by omega
        have HP := Lib.hid hp
        clear hp
        have hsib : sib k < s := by have := HP.out; simp [sib, this]; omega
        have HB := Lib.hid hsib
        clear hsib
        rcases qs with _ | ⟨p, qs⟩
        · have HN := Lib.hid (HW.out.none hlt HB.out)
          go_wp2_with fail
          go_ret
          exact ⟨ret_bool (by rw [HF.out, HN.out]; rfl), rfl⟩
        · obtain ⟨b, off, rfl, hbb, hcc⟩ := HQ.out.at_ (k := 0) (by simp)
          have hc0 := hcc 0 (by simp)
          rw [show nth (p :: qs) 0 = p from rfl] at hc0
          rw [Nat.add_zero] at hc0
          have hl1 : (p :: qs).length = qs.length + 1 := rfl
          rw [hl1] at hc hn
          have HT := Lib.hid HQ.out.tail
          have hl0 : ((qs.length + 1 : Nat) : Int) ≠ 0 := by omega
          simp only [hl1]
          clear hcc hl1
          rcases hd : digB p with _ | _
          · have HN := Lib.hid (HW.out.bad hlt HB.out hd)
            go_wp2_with fail
            refine (s_l2Digest _ _).mono ?_
            rw [hd]
            rintro e w' ⟨rfl, rfl⟩
            go_wp2_with fail
            go_ret
            exact ⟨ret_bool (by rw [HF.out, HN.out]; rfl), rfl⟩
          · have hp9 := inB_iff.1 hd
            have HW2 := Lib.hid (HW.out.odd hlt HB.out hd HP.out)
            go_wp2_with fail
            refine (s_l2Digest _ _).mono ?_
            rw [hd]
            rintro e w' ⟨rfl, rfl⟩
            clear hd
            go_wp2_with fail
            refine (s_l2Pair _ _ _ (by omega) (by omega) (by omega) (by omega)).mono ?_
            rintro e w' ⟨rfl, rfl⟩
            by_cases hcap : c' = 1
            · obtain rfl : qs = [] := List.length_eq_zero_iff.1 (by omega)
              subst hcap
              go_wp2_with fail
              go_round
              case rel => exact ⟨(s + 1) / 2, k / 2, _, _, [], _, by go_num, by go_num, rfl, rfl, Ints.nil _ _ _, by simp, by omega, by simp, HW2.out⟩
              case measure => simp [intOf]; omega
            · have hcap2 : (1 : Int) < (c' : Int) := by omega
              go_wp2_with fail
              go_round
              case rel => exact ⟨(s + 1) / 2, k / 2, c' - 1, _, qs, _, by go_num, by go_num, by first | rfl | (congr 1 <;> omega), rfl, HT.out, by omega, by omega, by omega, HW2.out⟩
              case measure => simp [intOf]; omega
    · have HN := Lib.hid (HW.out.fin hlt)
      have hs : s = 1 := by omega
      subst hs
      clear hlt
      rcases qs with _ | ⟨p, qs⟩
      · go_wp2_with fail
        go_ret
        exact ⟨ret_bool (by rw [HF.out, HN.out]; simp [mfin]; exact Bool.beq_eq_decide_eq _ _), rfl⟩
      · have hl1 : (p :: qs).length = qs.length + 1 := rfl
        simp only [hl1]
        clear hl1
        go_wp2_with fail
        go_ret
        exact ⟨ret_bool (by rw [HF.out, HN.out]; rfl), rfl⟩
end Go.Proofs.Ytdleibkkjnodlaa
