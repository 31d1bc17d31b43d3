/- Certificates: keys, the examination, the check, each function by its contract. -/
import Derived.Test.YtohnodphlaoohaaCmt3
import Derived.Test.YtohnodphlaoohaaStrs2
import Derived.Test.YtohnodphlaoohaaDraw5
namespace Go.Proofs.Ytohnodphlaoohaa
open Go.RowKit
set_option linter.unusedVariables false

def keyOk (ks : List Int) (j : Nat) : Bool := inB (nth ks j) 1 996
def keysB (zs ks : List Int) : Bool := validB zs && (decide (ks.length = zs.length) && allTo (keyOk ks) ks.length)
theorem keysB_iff {zs ks : List Int} : keysB zs ks = true ↔ validB zs = true ∧ ks.length = zs.length ∧ ∀ j, j < ks.length → 1 ≤ nth ks j ∧ nth ks j ≤ 996 := by
  simp only [keysB, Bool.and_eq_true, decide_eq_true_eq, allTo_iff, keyOk, inB_iff]
set_option maxHeartbeats 400000 in
theorem i_inGroup (v : Int) (w : World) : Calls Try.prog 107 #[.int .i64 v] w fun e w' => e = .returned (.bool (inB v 1 996)) ∧ w = w' := by
  by_cases h1 : 1 ≤ v
  · by_cases h2 : v < 997
    · go_enter Try.func107, Try.ntmps107
      go_wp2
      go_ret
      exact ⟨ret_bool (by rw [inB_iff.2 (by omega)]), rfl⟩
    · go_enter Try.func107, Try.ntmps107
      go_wp2
      go_ret
      exact ⟨ret_bool (by rw [inB_no.2 (by omega)]), rfl⟩
  · go_enter Try.func107, Try.ntmps107
    go_wp2
    go_ret
    exact ⟨ret_bool (by rw [inB_no.2 (by omega)]), rfl⟩
theorem s_l4Key (v : Int) (w : World) : Calls Try.prog 105 #[.int .i64 v] w fun e w' => e = .returned (.bool (inB v 1 996)) ∧ w = w' := by
  go_enter Try.func105, Try.ntmps105
  go_wp2_with (go_at_call 79; refine (l6In_any _ _ _ _).mono ?_; rintro e w' ⟨rfl, rfl⟩)
  go_ret
  exact ⟨rfl, rfl⟩
set_option maxHeartbeats 2000000 in
theorem i_keysFit (A A' : Option Addr) (c c' : Nat) (zs ks : List Int) (w : World) (B : Nat) (h : Ints w B A zs) (h' : Ints w B A' ks) (hn : zs.length ≤ 1048576) (hm : ks.length ≤ 1048576) :
    Calls Try.prog 61 #[.slice A zs.length c, .slice A' ks.length c'] w fun e w' => e = .returned (.bool (keysB zs ks)) ∧ w = w' := by
  have H := Lib.hid h
  have H' := Lib.hid h'
  clear h h'
  rcases hv : validB zs with _ | _
  · have hr : keysB zs ks = false := by simp [keysB, hv]
    rw [hr]
    clear hr
    go_enter Try.func61, Try.ntmps61
    go_wp2_with fail
    refine (i_CommitteeValid _ _ _ _ _ H.out hn).mono ?_
    rw [hv]
    rintro e w' ⟨rfl, rfl⟩
    go_wp2_with fail
    go_ret
    exact ⟨rfl, rfl⟩
  by_cases hl : ks.length = zs.length
  · have hl' : ((ks.length : Int) != (zs.length : Int)) = false := by simp [hl]
    have HL := Lib.hid hl
    have HV := Lib.hid hv
    clear hl hv
    go_enter Try.func61, Try.ntmps61
    go_wp2_with fail
    refine (i_CommitteeValid _ _ _ _ _ H.out hn).mono ?_
    rw [HV.out]
    rintro e w' ⟨rfl, rfl⟩
    go_wp2_with fail
    go_loop [19] (fun i => ∃ k : Nat, k ≤ ks.length ∧ i = .int .i64 k ∧ allTo (keyOk ks) k = true) (fun i => ks.length - (intOf i).toNat)
    case atStart => exact ⟨0, Nat.zero_le _, rfl, rfl⟩
    case round =>
      obtain ⟨k, hk, rfl, ha⟩ := hrel
      have HA := Lib.hid ha
      clear ha
      by_cases hlt : k < ks.length
      · have hd : decide (k < ks.length) = true := by simpa using hlt
        obtain ⟨b, off, rfl, hbb, hc⟩ := H'.out.at_ hlt
        have hck := hc k hlt
        have hi0 : (0 : Int) ≤ (k : Int) := by omega
        have hi1 : (k : Int) < (ks.length : Int) := by omega
        clear hc
        rcases hx : keyOk ks k with _ | _
        · have hx' : inB (nth ks k) 1 996 = false := hx
          have HX := Lib.hid hx
          clear hx
          go_wp2_with fail
          refine (i_inGroup _ _).mono ?_
          rw [hx']
          rintro e w' ⟨rfl, rfl⟩
          clear hx'
          go_wp2_with fail
          go_ret
          exact ⟨ret_bool (by simp [keysB, HV.out, allTo_bad hlt HX.out]), rfl⟩
        · have hx' : inB (nth ks k) 1 996 = true := hx
          have HX := Lib.hid hx
          clear hx
          go_wp2_with fail
          refine (i_inGroup _ _).mono ?_
          rw [hx']
          rintro e w' ⟨rfl, rfl⟩
          clear hx'
          go_wp2_with fail
          go_round
          case rel => exact ⟨k + 1, by omega, by go_num, allTo_step HA.out HX.out⟩
          case measure => simp [intOf]; omega
      · have hd : decide (k < ks.length) = false := by simpa using hlt
        have e : k = ks.length := by omega
        have hr : keysB zs ks = true := by
          have ha := HA.out; rw [e] at ha
          rw [keysB, HV.out, ha]; simpa using HL.out
        have HR := Lib.hid hr
        clear e hr
        go_wp2_with fail
        go_ret
        exact ⟨ret_bool HR.out.symm, rfl⟩
  · have hr : keysB zs ks = false := by simp [keysB, hl]
    rw [hr]
    have hl' : ((ks.length : Int) != (zs.length : Int)) = true := by simp; omega
    clear hr hl
    go_enter Try.func61, Try.ntmps61
    go_wp2_with fail
    refine (i_CommitteeValid _ _ _ _ _ H.out hn).mono ?_
    rw [hv]
    rintro e w' ⟨rfl, rfl⟩
    clear hv
    go_wp2_with fail
    go_ret
    exact ⟨rfl, rfl⟩
set_option maxHeartbeats 2000000 in
theorem s_l4Keys (A A' : Option Addr) (c c' : Nat) (zs ks : List Int) (w : World) (B : Nat) (h : Ints w B A zs) (h' : Ints w B A' ks) (hn : zs.length ≤ 1048576) (hm : ks.length ≤ 1048576) :
    Calls Try.prog 56 #[.slice A zs.length c, .slice A' ks.length c'] w fun e w' => e = .returned (.bool (keysB zs ks)) ∧ w = w' := by
  have H := Lib.hid h
  have H' := Lib.hid h'
  clear h h'
  go_enter Try.func56, Try.ntmps56
  go_wp2_with fail
  go_loop [5] (fun i => ∃ k : Nat, k ≤ ks.length ∧ i = .int .i64 k ∧ allTo (keyOk ks) k = true) (fun i => ks.length - (intOf i).toNat)
  case atStart => exact ⟨0, Nat.zero_le _, rfl, rfl⟩
  case round =>
    obtain ⟨k, hk, rfl, ha⟩ := hrel
    have HA := Lib.hid ha
    clear ha
    by_cases hlt : k < ks.length
    · have hd : decide (k < ks.length) = true := by simpa using hlt
      obtain ⟨b, off, rfl, hbb, hc⟩ := H'.out.at_ hlt
      have hck := hc k hlt
      have hi0 : (0 : Int) ≤ (k : Int) := by omega
      have hi1 : (k : Int) < (ks.length : Int) := by omega
      clear hc
      rcases hx : keyOk ks k with _ | _
      · have hx' : inB (nth ks k) 1 996 = false := hx
        have HX := Lib.hid hx
        clear hx
        go_wp2_with fail
        refine (s_l4Key _ _).mono ?_
        rw [hx']
        rintro e w' ⟨rfl, rfl⟩
        clear hx'
        go_wp2_with fail
        go_ret
        exact ⟨ret_bool (by simp [keysB, allTo_bad hlt HX.out]), rfl⟩
      · have hx' : inB (nth ks k) 1 996 = true := hx
        have HX := Lib.hid hx
        clear hx
        go_wp2_with fail
        refine (s_l4Key _ _).mono ?_
        rw [hx']
        rintro e w' ⟨rfl, rfl⟩
        clear hx'
        go_wp2_with fail
        go_round
        case rel => exact ⟨k + 1, by omega, by go_num, allTo_step HA.out HX.out⟩
        case measure => simp [intOf]; omega
    · have hd : decide (k < ks.length) = false := by simpa using hlt
      have e : k = ks.length := by omega
      have hr : keysB zs ks = (validB zs && decide (ks.length = zs.length)) := by
        have := HA.out; rw [e] at this; simp [keysB, this]
      have HR := Lib.hid hr
      clear e hr
      rcases hv : validB zs with _ | _
      · go_wp2_with fail
        refine (s_CommitteeValid _ _ _ _ _ H.out hn).mono ?_
        rw [hv]
        rintro e w' ⟨rfl, rfl⟩
        go_wp2_with fail
        go_ret
        exact ⟨ret_bool (by rw [HR.out, hv]; rfl), rfl⟩
      · by_cases hl : ks.length = zs.length
        · have hl' : ((ks.length : Int) == (zs.length : Int)) = true := by simp [hl]
          have HL := Lib.hid hl
          clear hl
          go_wp2_with fail
          refine (s_CommitteeValid _ _ _ _ _ H.out hn).mono ?_
          rw [hv]
          rintro e w' ⟨rfl, rfl⟩
          go_wp2_with fail
          go_ret
          exact ⟨ret_bool (by rw [HR.out, hv]; simp [HL.out]), rfl⟩
        · have hl' : ((ks.length : Int) == (zs.length : Int)) = false := by simp; omega
          have HL := Lib.hid hl
          clear hl
          go_wp2_with fail
          refine (s_CommitteeValid _ _ _ _ _ H.out hn).mono ?_
          rw [hv]
          rintro e w' ⟨rfl, rfl⟩
          go_wp2_with fail
          go_ret
          exact ⟨ret_bool (by rw [HR.out, hv]; simp [HL.out]), rfl⟩
/-- The sum of the signers' keys, the remainder taken at each step. -/
def pubTo (ks ss : List Int) : Nat → Int
  | 0 => 0
  | k + 1 => (pubTo ks ss k + nth ks (nth ss k).toNat) % 997
def keyAt (ks ss : List Int) (j : Nat) : Int := nth ks (nth ss j).toNat
theorem pubTo_sum (ks ss : List Int) (k : Nat) : pubTo ks ss k = sumTo (keyAt ks ss) k % 997 := by
  induction k with
  | zero => rfl
  | succ k ih => simp only [pubTo, sumTo, ih, keyAt]; omega
theorem pubTo_bd (ks ss : List Int) (k : Nat) : 0 ≤ pubTo ks ss k ∧ pubTo ks ss k ≤ 996 := by rw [pubTo_sum]; omega
def examB (zs ks ss : List Int) (d s : Int) : Bool := keysB zs ks && (digB d && (inB s 0 996 && (memB zs.length ss && decide (quorum zs ≤ weight zs ss))))
def certB (zs ks ss : List Int) (d s : Int) : Bool := examB zs ks ss d s && decide (s * 5 % 997 = pubTo ks ss ss.length * (d + 1) % 997)
theorem keysB_valid {zs ks : List Int} (h : keysB zs ks = true) : validB zs = true := (keysB_iff.1 h).1
theorem weight_low {zs ss : List Int} (hv : validB zs = true) : decide (cWeight zs ss < cQuorum zs) = !(memB zs.length ss && decide (quorum zs ≤ weight zs ss)) := by
  have hb := total_bd hv
  rcases hm : memB zs.length ss with _ | _
  · have : cWeight zs ss = -1 := by simp [cWeight, membersB, hv, hm]
    rw [this, cQuorum, if_pos hv]
    unfold quorum
    simp; omega
  · have : cWeight zs ss = weight zs ss := by simp [cWeight, membersB, hv, hm]
    rw [this, cQuorum, if_pos hv]
    by_cases h : quorum zs ≤ weight zs ss
    · simp [h]
    · simp [h]; omega
set_option maxHeartbeats 4000000 in
theorem i_examine_no (d s : Int) (A A' A2 : Option Addr) (c c' c2 : Nat) (zs ks ss : List Int) (w : World) (h : Ints w w.heap.size A zs) (h' : Ints w w.heap.size A' ks) (h2 : Ints w w.heap.size A2 ss) (hn : zs.length ≤ 1048576) (hm : ks.length ≤ 1048576) (hs : ss.length ≤ 1048576) (hx : examB zs ks ss d s = false) :
    Calls Try.prog 91 #[.slice A zs.length c, .slice A' ks.length c', .agg #[.int .i64 d, .slice A2 ss.length c2, .int .i64 s]] w fun e w' => e = .returned (.iface 113 (.agg #[.int .i64 d, .slice A2 ss.length c2, .int .i64 s])) ∧ Below w.heap.size w w' := by
  have b := allocB w (.cells #[.int .i64 d, .slice A2 ss.length c2, .int .i64 s] 24)
  have H := Lib.hid (h.carry b)
  have H' := Lib.hid (h'.carry b)
  have H2 := Lib.hid (h2.carry b)
  clear h h' h2 b
  rcases hk : keysB zs ks with _ | _
  · clear hx
    go_enter Try.func91, Try.ntmps91
    go_wp2_with fail
    refine (i_keysFit _ _ _ _ _ _ _ _ H.out H'.out hn hm).mono ?_
    rw [hk]
    rintro e w' ⟨rfl, rfl⟩
    clear hk
    go_wp2_with fail
    go_ret
    exact ⟨rfl, allocB w _⟩
  have hv := keysB_valid hk
  have HV := Lib.hid hv
  clear hv
  rcases hd : digB d with _ | _
  · clear hx
    go_enter Try.func91, Try.ntmps91
    go_wp2_with fail
    refine (i_keysFit _ _ _ _ _ _ _ _ H.out H'.out hn hm).mono ?_
    rw [hk]
    rintro e w' ⟨rfl, rfl⟩
    clear hk
    go_wp2_with fail
    refine (i_isDigest _ _).mono ?_
    rw [hd]
    rintro e w' ⟨rfl, rfl⟩
    clear hd
    go_wp2_with fail
    go_ret
    exact ⟨rfl, allocB w _⟩
  by_cases h0 : s < 0
  · clear hx
    go_enter Try.func91, Try.ntmps91
    go_wp2_with fail
    refine (i_keysFit _ _ _ _ _ _ _ _ H.out H'.out hn hm).mono ?_
    rw [hk]
    rintro e w' ⟨rfl, rfl⟩
    clear hk
    go_wp2_with fail
    refine (i_isDigest _ _).mono ?_
    rw [hd]
    rintro e w' ⟨rfl, rfl⟩
    clear hd
    go_wp2_with fail
    go_ret
    exact ⟨rfl, allocB w _⟩
  by_cases h9 : 997 ≤ s
  · clear hx
    go_enter Try.func91, Try.ntmps91
    go_wp2_with fail
    refine (i_keysFit _ _ _ _ _ _ _ _ H.out H'.out hn hm).mono ?_
    rw [hk]
    rintro e w' ⟨rfl, rfl⟩
    clear hk
    go_wp2_with fail
    refine (i_isDigest _ _).mono ?_
    rw [hd]
    rintro e w' ⟨rfl, rfl⟩
    clear hd
    go_wp2_with fail
    go_ret
    exact ⟨rfl, allocB w _⟩
  have hw : decide (cWeight zs ss < cQuorum zs) = true := by
    rw [weight_low HV.out]
    have hi : inB s 0 996 = true := inB_iff.2 (by omega)
    simp only [examB, hk, hd, hi, Bool.true_and] at hx
    rw [hx]; rfl
  clear hx
  go_enter Try.func91, Try.ntmps91
  go_wp2_with fail
  refine (i_keysFit _ _ _ _ _ _ _ _ H.out H'.out hn hm).mono ?_
  rw [hk]
  rintro e w' ⟨rfl, rfl⟩
  clear hk
  go_wp2_with fail
  refine (i_isDigest _ _).mono ?_
  rw [hd]
  rintro e w' ⟨rfl, rfl⟩
  clear hd
  go_wp2_with fail
  refine (i_MembersWeight _ _ _ _ _ _ _ _ H.out H2.out hn hs).mono ?_
  rintro e w' ⟨rfl, rfl⟩
  go_wp2_with fail
  refine (i_CommitteeQuorum _ _ _ _ _ H.out hn).mono ?_
  rintro e w' ⟨rfl, rfl⟩
  go_wp2_with fail
  go_ret
  exact ⟨rfl, allocB w _⟩
set_option maxHeartbeats 4000000 in
theorem i_examine_yes (d s : Int) (A A' A2 : Option Addr) (c c' c2 : Nat) (zs ks ss : List Int) (w : World) (h : Ints w w.heap.size A zs) (h' : Ints w w.heap.size A' ks) (h2 : Ints w w.heap.size A2 ss) (hn : zs.length ≤ 1048576) (hm : ks.length ≤ 1048576) (hs : ss.length ≤ 1048576) (hx : examB zs ks ss d s = true) :
    Calls Try.prog 91 #[.slice A zs.length c, .slice A' ks.length c', .agg #[.int .i64 d, .slice A2 ss.length c2, .int .i64 s]] w fun e w' => e = .returned (.iface 111 (.agg #[.int .i64 d, .slice A2 ss.length c2, .int .i64 s, .int .i64 (pubTo ks ss ss.length)])) ∧ Below w.heap.size w w' := by
  have b := allocB w (.cells #[.int .i64 d, .slice A2 ss.length c2, .int .i64 s] 24)
  have H := Lib.hid (h.carry b)
  have H' := Lib.hid (h'.carry b)
  have H2 := Lib.hid (h2.carry b)
  clear h h' h2 b
  have hx2 := hx
  simp only [examB, Bool.and_eq_true, inB_iff, decide_eq_true_eq] at hx2
  obtain ⟨hk, hd, ⟨h0, h9⟩, hmb, hq⟩ := hx2
  have hkk := keysB_iff.1 hk
  have HK := Lib.hid hkk
  have HM := Lib.hid hmb
  have hw : decide (cWeight zs ss < cQuorum zs) = false := by
    rw [weight_low hkk.1, hmb]; simp [hq]
  clear hx hkk hmb hq
  go_enter Try.func91, Try.ntmps91
  go_wp2_with fail
  refine (i_keysFit _ _ _ _ _ _ _ _ H.out H'.out hn hm).mono ?_
  rw [hk]
  rintro e w' ⟨rfl, rfl⟩
  clear hk
  go_wp2_with fail
  refine (i_isDigest _ _).mono ?_
  rw [hd]
  rintro e w' ⟨rfl, rfl⟩
  clear hd
  go_wp2_with fail
  refine (i_MembersWeight _ _ _ _ _ _ _ _ H.out H2.out hn hs).mono ?_
  rintro e w' ⟨rfl, rfl⟩
  go_wp2_with fail
  refine (i_CommitteeQuorum _ _ _ _ _ H.out hn).mono ?_
  rintro e w' ⟨rfl, rfl⟩
  go_wp2_with fail
  go_loop [7, 46] (fun v i => ∃ k : Nat, k ≤ ss.length ∧ i = .int .i64 k ∧ v = .int .i64 (pubTo ks ss k)) (fun _ i => ss.length - (intOf i).toNat)
  case atStart => exact ⟨0, Nat.zero_le _, rfl, rfl⟩
  case round =>
    obtain ⟨k, hk, rfl, rfl⟩ := hrel
    have hp := pubTo_bd ks ss k
    by_cases hlt : k < ss.length
    · have hd : decide (k < ss.length) = true := by simpa using hlt
      obtain ⟨b, off, rfl, hbb, hc⟩ := H2.out.at_ hlt
      have hck := hc k hlt
      have hin := memB_in HM.out hlt
      have hkl := HK.out.2.1
      obtain ⟨b', off', rfl, hbb', hc'⟩ := H'.out.at_ (k := (nth ss k).toNat) (by omega)
      have hcw := hc' (nth ss k).toNat (by omega)
      have he := HK.out.2.2 (nth ss k).toNat (by omega)
      have hi0 : (0 : Int) ≤ (k : Int) := by omega
      have hi1 : (k : Int) < (ss.length : Int) := by omega
      have hj1 : nth ss k < (ks.length : Int) := by omega
      clear hc hc' hkl
      go_wp2_with fail
      go_round
      case rel => exact ⟨k + 1, by omega, by go_num, rfl⟩
      case measure => simp [intOf]; omega
    · have hd : decide (k < ss.length) = false := by simpa using hlt
      have e : k = ss.length := by omega
      subst e
      go_wp2_with fail
      go_ret
      exact ⟨rfl, allocB w _⟩
theorem info_well : (Try.prog.info? 111).map (fun i => i.zero) = some (some (.agg #[.int .i64 0, .slice none 0 0, .int .i64 0, .int .i64 0])) := by kernel_rfl
theorem ta_hit1 (v : Value) (w : World) : (Instr.typeAssert (.iface 111 v) 108 111 true).run Try.prog w = .ok (.tuple #[v, .bool true]) w := by
  simp [Instr.typeAssert, run_underlying Try.underlying111]
theorem ta_hit2 (v : Value) (w : World) : (Instr.typeAssert (.iface 113 v) 108 113 true).run Try.prog w = .ok (.tuple #[v, .bool true]) w := by
  simp [Instr.typeAssert, run_underlying Try.underlying113]
theorem ta_miss (v : Value) (w : World) : (Instr.typeAssert (.iface 113 v) 108 111 true).run Try.prog w = .ok (.tuple #[.agg #[.int .i64 0, .slice none 0 0, .int .i64 0, .int .i64 0], .bool false]) w := by
  obtain ⟨j, hj, hz⟩ := Option.map_eq_some_iff.1 info_well
  simp [Instr.typeAssert, run_underlying Try.underlying111, zeroValue, typeInfo, hj, hz]
set_option maxHeartbeats 4000000 in
set_option maxRecDepth 100000 in
theorem i_CertCheck (d s : Int) (A A' A2 : Option Addr) (c c' c2 : Nat) (zs ks ss : List Int) (w : World) (h : Ints w w.heap.size A zs) (h' : Ints w w.heap.size A' ks) (h2 : Ints w w.heap.size A2 ss) (hn : zs.length ≤ 1048576) (hm : ks.length ≤ 1048576) (hs : ss.length ≤ 1048576) :
    Calls Try.prog 43 #[.slice A zs.length c, .slice A' ks.length c', .agg #[.int .i64 d, .slice A2 ss.length c2, .int .i64 s]] w fun e w' => e = .returned (.bool (certB zs ks ss d s)) ∧ Below w.heap.size w w' := by
  have b := allocB w (.cells #[.int .i64 d, .slice A2 ss.length c2, .int .i64 s] 24)
  have H := Lib.hid (h.carry b)
  have H' := Lib.hid (h'.carry b)
  have H2 := Lib.hid (h2.carry b)
  have BB := Lib.hid b
  clear h h' h2 b
  rcases hx : examB zs ks ss d s with _ | _
  · have hr : certB zs ks ss d s = false := by simp [certB, hx]
    rw [hr]
    clear hr
    go_enter Try.func43, Try.ntmps43
    go_wp2_with fail
    refine (i_examine_no _ _ _ _ _ _ _ _ _ _ _ _ H.out H'.out H2.out hn hm hs hx).mono ?_
    rintro e w1 ⟨rfl, b1⟩
    replace BB := Lib.hid (next BB.out b1)
    clear hx b1
    have t1 := ta_miss (.agg #[.int .i64 d, .slice A2 ss.length c2, .int .i64 s]) w1
    have t2 := ta_hit2 (.agg #[.int .i64 d, .slice A2 ss.length c2, .int .i64 s]) w1
    go_wp2_with fail
    go_ret
    exact ⟨rfl, next BB.out (allocB _ _)⟩
  · have hx2 := hx
    simp only [examB, Bool.and_eq_true, inB_iff, decide_eq_true_eq, digB] at hx2
    obtain ⟨_, ⟨hd0, hd9⟩, ⟨h0, h9⟩, _, _⟩ := hx2
    have hp := pubTo_bd ks ss ss.length
    have hr : certB zs ks ss d s = decide (s * 5 % 997 = pubTo ks ss ss.length * (d + 1) % 997) := by simp [certB, hx]
    have hm0 : 0 ≤ pubTo ks ss ss.length * (d + 1) := Int.mul_nonneg hp.1 (by omega)
    have hm9 : pubTo ks ss ss.length * (d + 1) ≤ 996 * 991 := Int.mul_le_mul hp.2 (show d + 1 ≤ 991 by omega) (by omega) (by omega : (0 : Int) ≤ 996)
    rw [hr]
    clear hr
    go_enter Try.func43, Try.ntmps43
    go_wp2_with fail
    refine (i_examine_yes _ _ _ _ _ _ _ _ _ _ _ _ H.out H'.out H2.out hn hm hs hx).mono ?_
    rintro e w1 ⟨rfl, b1⟩
    replace BB := Lib.hid (next BB.out b1)
    clear hx b1
    have t1 := ta_hit1 (.agg #[.int .i64 d, .slice A2 ss.length c2, .int .i64 s, .int .i64 (pubTo ks ss ss.length)]) w1
    generalize hpp : pubTo ks ss ss.length = pp at *
    have HPP := Lib.hid hpp
    clear hpp
    go_wp2_with fail
    go_ret
    exact ⟨ret_bool (by rw [HPP.out, Bool.eq_iff_iff]; simp), next BB.out (allocB _ _)⟩
set_option maxHeartbeats 1000000 in
theorem s_l4Check (p d s : Int) (w : World) (hp0 : 0 ≤ p) (hp9 : p ≤ 996) (hd0 : 0 ≤ d) (hd9 : d ≤ 990) (h0 : 0 ≤ s) (h9 : s ≤ 996) :
    Calls Try.prog 90 #[.int .i64 p, .int .i64 d, .int .i64 s] w fun e w' => e = .returned (.bool (decide (s * 5 % 997 = p * (d + 1) % 997))) ∧ w = w' := by
  have hm0 : 0 ≤ p * (d + 1) := Int.mul_nonneg hp0 (by omega)
  have hm9 : p * (d + 1) ≤ 996 * 991 := Int.mul_le_mul hp9 (show d + 1 ≤ 991 by omega) (by omega) (by omega : (0 : Int) ≤ 996)
  go_enter Try.func90, Try.ntmps90
  go_wp2_with fail
  go_ret
  exact ⟨ret_bool (by first | rfl | (rw [Bool.eq_iff_iff]; simp)), rfl⟩
set_option maxHeartbeats 8000000 in
theorem s_CertCheck (d s : Int) (A A' A2 : Option Addr) (c c' c2 : Nat) (zs ks ss : List Int) (w : World) (h : Ints w w.heap.size A zs) (h' : Ints w w.heap.size A' ks) (h2 : Ints w w.heap.size A2 ss) (hn : zs.length ≤ 1048576) (hm : ks.length ≤ 1048576) (hs : ss.length ≤ 1048576) :
    Calls Try.prog 41 #[.slice A zs.length c, .slice A' ks.length c', .agg #[.int .i64 d, .slice A2 ss.length c2, .int .i64 s]] w fun e w' => e = .returned (.bool (certB zs ks ss d s)) ∧ Below w.heap.size w w' := by
  have b := allocB w (.cells #[.int .i64 d, .slice A2 ss.length c2, .int .i64 s] 24)
  have H := Lib.hid (h.carry b)
  have H' := Lib.hid (h'.carry b)
  have H2 := Lib.hid (h2.carry b)
  have BB := Lib.hid b
  clear h h' h2 b
  rcases hk : keysB zs ks with _ | _
  · have HR := Lib.hid (show certB zs ks ss d s = false by simp [certB, examB, hk])
    go_enter Try.func41, Try.ntmps41
    go_wp2_with fail
    refine (s_l4Keys _ _ _ _ _ _ _ _ H.out H'.out hn hm).mono ?_
    rw [hk]
    rintro e w' ⟨rfl, rfl⟩
    clear hk
    go_wp2_with fail
    go_ret
    exact ⟨ret_bool HR.out.symm, BB.out⟩
  rcases hd : digB d with _ | _
  · have HR := Lib.hid (show certB zs ks ss d s = false by simp [certB, examB, hd])
    go_enter Try.func41, Try.ntmps41
    go_wp2_with fail
    refine (s_l4Keys _ _ _ _ _ _ _ _ H.out H'.out hn hm).mono ?_
    rw [hk]
    rintro e w' ⟨rfl, rfl⟩
    clear hk
    go_wp2_with fail
    refine (s_l2Digest _ _).mono ?_
    rw [hd]
    rintro e w' ⟨rfl, rfl⟩
    clear hd
    go_wp2_with fail
    go_ret
    exact ⟨ret_bool HR.out.symm, BB.out⟩
  rcases hmb : memB zs.length ss with _ | _
  · have HR := Lib.hid (show certB zs ks ss d s = false by simp [certB, examB, hmb])
    go_enter Try.func41, Try.ntmps41
    go_wp2_with fail
    refine (s_l4Keys _ _ _ _ _ _ _ _ H.out H'.out hn hm).mono ?_
    rw [hk]
    rintro e w' ⟨rfl, rfl⟩
    clear hk
    go_wp2_with fail
    refine (s_l2Digest _ _).mono ?_
    rw [hd]
    rintro e w' ⟨rfl, rfl⟩
    clear hd
    go_wp2_with fail
    refine (s_l1Members _ _ _ _ _ _ _ _ H2.out hn hs).mono ?_
    rw [hmb]
    rintro e w2 ⟨rfl, q2⟩
    have b2 := q2.below w.heap.size
    have b3 := q2.below (w.alloc (.cells #[.int .i64 d, .slice A2 ss.length c2, .int .i64 s] 24)).heap.size
    have x0 := keepc (b := w.heap.size) (off := 0) (v := .int .i64 d) b3 (by simp)
    have x1 := keepc (b := w.heap.size) (off := 1) (v := .slice A2 ss.length c2) b3 (by simp)
    have x2 := keepc (b := w.heap.size) (off := 2) (v := .int .i64 s) b3 (by simp)
    replace H := Lib.hid (H.out.carry b3)
    replace H' := Lib.hid (H'.out.carry b3)
    replace H2 := Lib.hid (H2.out.carry b3)
    replace BB := Lib.hid (BB.out.trans b2)
    clear hmb q2 b2 b3
    go_wp2_with fail
    go_ret
    exact ⟨ret_bool HR.out.symm, BB.out⟩
  rcases hi : inB s 0 996 with _ | _
  · have HR := Lib.hid (show certB zs ks ss d s = false by simp [certB, examB, hi])
    go_enter Try.func41, Try.ntmps41
    go_wp2_with fail
    refine (s_l4Keys _ _ _ _ _ _ _ _ H.out H'.out hn hm).mono ?_
    rw [hk]
    rintro e w' ⟨rfl, rfl⟩
    clear hk
    go_wp2_with fail
    refine (s_l2Digest _ _).mono ?_
    rw [hd]
    rintro e w' ⟨rfl, rfl⟩
    clear hd
    go_wp2_with fail
    refine (s_l1Members _ _ _ _ _ _ _ _ H2.out hn hs).mono ?_
    rw [hmb]
    rintro e w2 ⟨rfl, q2⟩
    have b2 := q2.below w.heap.size
    have b3 := q2.below (w.alloc (.cells #[.int .i64 d, .slice A2 ss.length c2, .int .i64 s] 24)).heap.size
    have x0 := keepc (b := w.heap.size) (off := 0) (v := .int .i64 d) b3 (by simp)
    have x1 := keepc (b := w.heap.size) (off := 1) (v := .slice A2 ss.length c2) b3 (by simp)
    have x2 := keepc (b := w.heap.size) (off := 2) (v := .int .i64 s) b3 (by simp)
    replace H := Lib.hid (H.out.carry b3)
    replace H' := Lib.hid (H'.out.carry b3)
    replace H2 := Lib.hid (H2.out.carry b3)
    replace BB := Lib.hid (BB.out.trans b2)
    clear hmb q2 b2 b3
    go_wp2_with fail
    refine (l6In_any _ _ _ _).mono ?_
    rw [hi]
    rintro e w' ⟨rfl, rfl⟩
    clear hi
    go_wp2_with fail
    go_ret
    exact ⟨ret_bool HR.out.symm, BB.out⟩
  have HV := Lib.hid (keysB_valid hk)
  have HM := Lib.hid hmb
  by_cases hq : weight zs ss < quorum zs
  · have hqd : decide (weight zs ss < quorum zs) = true := by simpa using hq
    have hq2 : ¬ quorum zs ≤ weight zs ss := by omega
    have HR := Lib.hid (show certB zs ks ss d s = false by simp [certB, examB, hq2])
    clear hq2
    go_enter Try.func41, Try.ntmps41
    go_wp2_with fail
    refine (s_l4Keys _ _ _ _ _ _ _ _ H.out H'.out hn hm).mono ?_
    rw [hk]
    rintro e w' ⟨rfl, rfl⟩
    clear hk
    go_wp2_with fail
    refine (s_l2Digest _ _).mono ?_
    rw [hd]
    rintro e w' ⟨rfl, rfl⟩
    clear hd
    go_wp2_with fail
    refine (s_l1Members _ _ _ _ _ _ _ _ H2.out hn hs).mono ?_
    rw [hmb]
    rintro e w2 ⟨rfl, q2⟩
    have b2 := q2.below w.heap.size
    have b3 := q2.below (w.alloc (.cells #[.int .i64 d, .slice A2 ss.length c2, .int .i64 s] 24)).heap.size
    have x0 := keepc (b := w.heap.size) (off := 0) (v := .int .i64 d) b3 (by simp)
    have x1 := keepc (b := w.heap.size) (off := 1) (v := .slice A2 ss.length c2) b3 (by simp)
    have x2 := keepc (b := w.heap.size) (off := 2) (v := .int .i64 s) b3 (by simp)
    replace H := Lib.hid (H.out.carry b3)
    replace H' := Lib.hid (H'.out.carry b3)
    replace H2 := Lib.hid (H2.out.carry b3)
    replace BB := Lib.hid (BB.out.trans b2)
    clear hmb q2 b2 b3
    go_wp2_with fail
    refine (l6In_any _ _ _ _).mono ?_
    rw [hi]
    rintro e w' ⟨rfl, rfl⟩
    clear hi
    go_wp2_with fail
    refine (s_l1Weight _ _ _ _ _ _ _ _ H.out H2.out HV.out HM.out hs).mono ?_
    rintro e w' ⟨rfl, rfl⟩
    go_wp2_with fail
    refine (s_l1Quorum _ _ _ _ _ H.out HV.out).mono ?_
    rintro e w' ⟨rfl, rfl⟩
    go_wp2_with fail
    go_ret
    exact ⟨ret_bool HR.out.symm, BB.out⟩
  have hqd : decide (weight zs ss < quorum zs) = false := by simpa using hq
  have hq2 : quorum zs ≤ weight zs ss := by omega
  have hd0 : 0 ≤ d ∧ d ≤ 990 := inB_iff.1 hd
  have hs0 : 0 ≤ s ∧ s ≤ 996 := inB_iff.1 hi
  have HR := Lib.hid (show certB zs ks ss d s = decide (s * 5 % 997 = sumTo (keyAt ks ss) ss.length % 997 * (d + 1) % 997) by simp [certB, examB, hk, hd, hmb, hi, hq2, pubTo_sum])
  have HK := Lib.hid (keysB_iff.1 hk)
  clear hq2
  go_enter Try.func41, Try.ntmps41
  go_wp2_with fail
  refine (s_l4Keys _ _ _ _ _ _ _ _ H.out H'.out hn hm).mono ?_
  rw [hk]
  rintro e w' ⟨rfl, rfl⟩
  clear hk
  go_wp2_with fail
  refine (s_l2Digest _ _).mono ?_
  rw [hd]
  rintro e w' ⟨rfl, rfl⟩
  clear hd
  go_wp2_with fail
  refine (s_l1Members _ _ _ _ _ _ _ _ H2.out hn hs).mono ?_
  rw [hmb]
  rintro e w2 ⟨rfl, q2⟩
  have b2 := q2.below w.heap.size
  have b3 := q2.below (w.alloc (.cells #[.int .i64 d, .slice A2 ss.length c2, .int .i64 s] 24)).heap.size
  have x0 := keepc (b := w.heap.size) (off := 0) (v := .int .i64 d) b3 (by simp)
  have x1 := keepc (b := w.heap.size) (off := 1) (v := .slice A2 ss.length c2) b3 (by simp)
  have x2 := keepc (b := w.heap.size) (off := 2) (v := .int .i64 s) b3 (by simp)
  replace H := Lib.hid (H.out.carry b3)
  replace H' := Lib.hid (H'.out.carry b3)
  replace H2 := Lib.hid (H2.out.carry b3)
  replace BB := Lib.hid (BB.out.trans b2)
  clear hmb q2 b2 b3
  go_wp2_with fail
  refine (l6In_any _ _ _ _).mono ?_
  rw [hi]
  rintro e w' ⟨rfl, rfl⟩
  clear hi
  go_wp2_with fail
  refine (s_l1Weight _ _ _ _ _ _ _ _ H.out H2.out HV.out HM.out hs).mono ?_
  rintro e w' ⟨rfl, rfl⟩
  go_wp2_with fail
  refine (s_l1Quorum _ _ _ _ _ H.out HV.out).mono ?_
  rintro e w' ⟨rfl, rfl⟩
  go_wp2_with fail
  go_loop [7, 8] (fun v i => ∃ k : Nat, k ≤ ss.length ∧ i = .int .i64 k ∧ v = .int .i64 (sumTo (keyAt ks ss) k)) (fun _ i => ss.length - (intOf i).toNat)
  case atStart => exact ⟨0, Nat.zero_le _, rfl, rfl⟩
  case round =>
    obtain ⟨k, hk, rfl, rfl⟩ := hrel
    have hp := sumTo_bd (f := keyAt ks ss) (lo := 1) (hi := 996) (n := k) (fun j hj => by
      have hin := memB_in HM.out (j := j) (by omega)
      have hkl := HK.out.2.1
      exact HK.out.2.2 (nth ss j).toNat (by omega))
    have hp0 : 0 ≤ sumTo (keyAt ks ss) k := by omega
    have hp9 : sumTo (keyAt ks ss) k ≤ 1100000000 := by omega
    by_cases hlt : k < ss.length
    · have hd : decide (k < ss.length) = true := by simpa using hlt
      clear hp
      obtain ⟨b, off, rfl, hbb, hc⟩ := H2.out.at_ hlt
      have hck := hc k hlt
      have hin := memB_in HM.out hlt
      have hkl := HK.out.2.1
      obtain ⟨b', off', rfl, hbb', hc'⟩ := H'.out.at_ (k := (nth ss k).toNat) (by omega)
      have hcw := hc' (nth ss k).toNat (by omega)
      have he := HK.out.2.2 (nth ss k).toNat (by omega)
      have hi0 : (0 : Int) ≤ (k : Int) := by omega
      have hi1 : (k : Int) < (ss.length : Int) := by omega
      have hj1 : nth ss k < (ks.length : Int) := by omega
      clear hc hc' hkl
      go_wp2_with fail
      go_round
      case rel => exact ⟨k + 1, by omega, by go_num, rfl⟩
      case measure => simp [intOf]; omega
    · have hd : decide (k < ss.length) = false := by simpa using hlt
      have e : k = ss.length := by omega
      subst e
      clear hp
      go_wp2_with fail
      refine (s_l4Check _ _ _ _ (by omega) (by omega) (by omega) (by omega) (by omega) (by omega)).mono ?_
      rintro e w' ⟨rfl, rfl⟩
      go_wp2_with fail
      go_ret
      exact ⟨ret_bool HR.out.symm, BB.out⟩
end Go.Proofs.Ytohnodphlaoohaa
