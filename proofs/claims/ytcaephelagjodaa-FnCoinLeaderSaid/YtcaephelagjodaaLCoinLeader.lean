/- The law FnCoinLeader holds for every input: a leader is drawn by weight. -/
import Derived.Test.YtcaephelagjodaaCoin
import Derived.Test.YtcaephelagjodaaSets
import Derived.Test.YtcaephelagjodaaDraw3
import Derived.Test.YtcaephelagjodaaArgs
namespace Go.Proofs.Ytcaephelagjodaa.lawCoinLeader
open Go.ChangeShapes Go.WideShapes Go.ChangeAt Go.RowKit
set_option linter.unusedVariables false

/-- How many of the first k numbers p selects. -/
def cntTo (p : Nat → Bool) : Nat → Nat
  | 0 => 0
  | k + 1 => if p k = true then cntTo p k + 1 else cntTo p k
theorem cntTo_le (p : Nat → Bool) (k : Nat) : cntTo p k ≤ k := by
  induction k with
  | zero => simp [cntTo]
  | succ k ih => unfold cntTo; split <;> omega
theorem cntTo_range {p : Nat → Bool} {a b : Int} (ha : 0 ≤ a) (hab : a ≤ b) (hp : ∀ v : Nat, p v = true ↔ a ≤ (v : Int) ∧ (v : Int) < b) :
    ∀ k : Nat, ((k : Int) ≤ a → cntTo p k = 0) ∧ (a ≤ k → (k : Int) ≤ b → (cntTo p k : Int) = k - a) ∧ (b ≤ (k : Int) → (cntTo p k : Int) = b - a) := by
  intro k
  induction k with
  | zero => refine ⟨fun _ => rfl, fun h1 _ => ?_, fun h1 => ?_⟩ <;> simp only [cntTo] <;> omega
  | succ k ih =>
    obtain ⟨i1, i2, i3⟩ := ih
    by_cases h : p k = true
    · have hk := (hp k).1 h
      have e : cntTo p (k + 1) = cntTo p k + 1 := by rw [cntTo, if_pos h]
      rw [e]
      have h2 := i2 hk.1 (by omega)
      exact ⟨fun h1 => by omega, fun _ _ => by omega, fun _ => by omega⟩
    · have hk : ¬ (a ≤ (k : Int) ∧ (k : Int) < b) := fun hh => h ((hp k).2 hh)
      have e : cntTo p (k + 1) = cntTo p k := by rw [cntTo, if_neg h]
      rw [e]
      refine ⟨fun h1 => i1 (by omega), fun h1 h3 => ?_, fun h1 => ?_⟩
      · have := i1 (by omega); omega
      · by_cases hb : b ≤ (k : Int)
        · exact i3 hb
        · have := i1 (by omega); omega
theorem sum_mono {zs : List Int} (hv : validB zs = true) {i j : Nat} (hij : i ≤ j) (hj : j ≤ zs.length) : sumTo (nth zs) i ≤ sumTo (nth zs) j := by
  induction j with
  | zero => have : i = 0 := by omega
            subst this; omega
  | succ j ih =>
    by_cases e : i = j + 1
    · subst e; omega
    · have := ih (by omega) (by omega)
      have := validB_at hv (j := j) (by omega)
      simp only [sumTo]; omega
theorem lead_spec {zs : List Int} (hv : validB zs = true) {n : Int} (h0 : 0 ≤ n) (hn : n < total zs) :
    leadOf zs n < zs.length ∧ sumTo (nth zs) (leadOf zs n) ≤ n ∧ n < sumTo (nth zs) (leadOf zs n + 1) := by
  have hex : ∀ k, k ≤ zs.length → n < sumTo (nth zs) k → ∃ r, r < k ∧ sumTo (nth zs) r ≤ n ∧ n < sumTo (nth zs) (r + 1) := by
    intro k
    induction k with
    | zero => intro _ h; simp [sumTo] at h; omega
    | succ k ih =>
      intro hk h
      by_cases hh : n < sumTo (nth zs) k
      · obtain ⟨r, a, b, c⟩ := ih (by omega) hh
        exact ⟨r, by omega, b, c⟩
      · exact ⟨k, by omega, by omega, h⟩
  obtain ⟨r, hr, h1, h2⟩ := hex zs.length (Nat.le_refl _) hn
  have e := leadOf_eq (zs := zs) (n := n) (r := r) (fun j hj => by have := sum_mono hv (i := j + 1) (j := r) (by omega) (by omega); omega) h2 hr
  rw [e]
  exact ⟨hr, h1, h2⟩
theorem lead_iff {zs : List Int} (hv : validB zs = true) {n : Int} (h0 : 0 ≤ n) (hn : n < total zs) {m : Nat} (hm : m < zs.length) :
    leadOf zs n = m ↔ sumTo (nth zs) m ≤ n ∧ n < sumTo (nth zs) (m + 1) := by
  constructor
  · intro e
    have := lead_spec hv h0 hn
    rw [e] at this
    exact this.2
  · rintro ⟨h1, h2⟩
    exact leadOf_eq (fun j hj => by have := sum_mono hv (i := j + 1) (j := m) (by omega) (by omega); omega) h2 hm
theorem coin_small {zs : List Int} (hv : validB zs = true) {v : Nat} (h : (v : Int) < total zs) : coin zs v = (leadOf zs v : Int) := by
  have hb := total_bd hv
  have hi : inB (v : Int) 0 250 = true := inB_iff.2 (by omega)
  simp only [coin, hv, hi, and_self, if_true]
  rw [Int.emod_eq_of_lt (by omega) h]
def hitB (zs : List Int) (m : Nat) (v : Nat) : Bool := decide (coin zs (v : Int) = (m : Int))
theorem count_all {zs : List Int} (hv : validB zs = true) {m : Nat} (hm : m < zs.length) {t : Nat} (ht : (t : Int) = total zs) : (cntTo (hitB zs m) t : Int) = nth zs m := by
  have hb := total_bd hv
  have hnn := total_to hv (k := m) (by omega)
  have hle := sum_mono hv (i := m + 1) (j := zs.length) (by omega) (Nat.le_refl _)
  have hT : sumTo (nth zs) zs.length = total zs := rfl
  have hs : sumTo (nth zs) (m + 1) = sumTo (nth zs) m + nth zs m := rfl
  have hm1 := validB_at hv hm
  -- below the total a number draws m just where its place lies in m's part
  have hc : cntTo (hitB zs m) t = cntTo (fun v => decide (sumTo (nth zs) m ≤ (v : Int) ∧ (v : Int) < sumTo (nth zs) (m + 1))) t := by
    have h : ∀ k, k ≤ t → cntTo (hitB zs m) k = cntTo (fun v => decide (sumTo (nth zs) m ≤ (v : Int) ∧ (v : Int) < sumTo (nth zs) (m + 1))) k := by
      intro k
      induction k with
      | zero => intro _; rfl
      | succ k ih =>
        intro hk
        have e : hitB zs m k = decide (sumTo (nth zs) m ≤ (k : Int) ∧ (k : Int) < sumTo (nth zs) (m + 1)) := by
          unfold hitB
          rw [coin_small hv (by omega)]
          have hl := lead_iff hv (n := (k : Int)) (by omega) (by omega) hm
          by_cases hh : leadOf zs (k : Int) = m
          · rw [decide_eq_true (by omega), decide_eq_true (hl.1 hh)]
          · rw [decide_eq_false (by omega), decide_eq_false (fun x => hh (hl.2 x))]
        simp only [cntTo]
        rw [e, ih (by omega)]
    exact h t (Nat.le_refl _)
  rw [hc, (cntTo_range (p := fun v => decide (sumTo (nth zs) m ≤ (v : Int) ∧ (v : Int) < sumTo (nth zs) (m + 1))) (a := sumTo (nth zs) m) (b := sumTo (nth zs) (m + 1)) (by omega) (by omega) (fun v => by simp) t).2.2 (by omega)]
  omega
theorem coin_shift {zs : List Int} (hv : validB zs = true) {x : Int} (h0 : 0 ≤ x) (h1 : x + cTotal zs < 251) : coin zs (x + cTotal zs) = coin zs x := by
  have hb := total_bd hv
  rw [cTotal_eq hv] at h1 ⊢
  have hi : inB x 0 250 = true := inB_iff.2 (by omega)
  have hi2 : inB (x + total zs) 0 250 = true := inB_iff.2 (by omega)
  simp only [coin, hv, hi, hi2, and_self, if_true]
  rw [Int.add_emod_right]
theorem coin_ge {zs : List Int} {x : Int} (hv : validB zs = true) (hx : inB x 0 250 = true) : 0 ≤ coin zs x := by
  simp only [coin, hv, hx, and_self, if_true]; omega

set_option maxHeartbeats 4000000 in
theorem walk (a0 : Option Addr) (c0 : Nat) (z0 : List Int) (w : World) (h0 : Bytes w w.heap.size a0 z0 ∧ z0.length ≤ c0) :
    Calls Try.prog 10 #[.slice a0 z0.length c0] w fun e w' => e = .returned (.bool true) ∧ Below w.heap.size w w' := by
  by_cases hbig0 : (1048576 : Int) < z0.length
  · go_enter Try.func10, Try.ntmps10
    go_wp2_with fail
    go_ret
    exact ⟨rfl, Below.refl _ _⟩
  have hn0 : z0.length ≤ 1048576 := by omega
  have H0 := Lib.hid h0
  clear h0
  go_enter Try.func10, Try.ntmps10
  go_wp2_with fail
  refine (s_DrawCoinLeader _ _ _ _ H0.out.1 H0.out.2 hn0).mono ?_
  rintro e w1 ⟨g1, c1', zs, x, rfl, u1, l1, lc1, hx0, hx1, b1⟩
  have U1 := Lib.hid u1
  have B1 := Lib.hid b1
  clear u1 b1
  go_wp2_with fail
  refine (i_CoinLeader _ _ _ _ _ _ U1.out.ints (by omega)).mono ?_
  rintro e w' ⟨rfl, rfl⟩
  go_wp2_with fail
  refine (s_CoinLeader _ _ _ _ _ _ U1.out.ints (by omega)).mono ?_
  rintro e w' ⟨rfl, rfl⟩
  have hne : (coin zs x != coin zs x) = false := by simp
  have heq : (coin zs x == coin zs x) = true := by simp
  rcases hv : validB zs with _ | _
  · have hneg : coin zs x < 0 := by simp [coin, hv]
    clear hv
    go_wp2_with fail
    go_ret
    exact ⟨rfl, B1.out⟩
  rcases hi : inB x 0 250 with _ | _
  · have hneg : coin zs x < 0 := by simp [coin, hi]
    clear hv hi
    go_wp2_with fail
    go_ret
    exact ⟨rfl, B1.out⟩
  have hge := coin_ge hv hi
  have hxb := inB_iff.1 hi
  have hT := (nums hv).1
  have HV := Lib.hid hv
  clear hv hi
  obtain ⟨t, ht⟩ : ∃ t : Nat, (t : Int) = cTotal zs := ⟨(cTotal zs).toNat, by omega⟩
  have HT := Lib.hid ht
  have htb : t ≤ 63 := by omega
  clear ht
  go_wp2_with fail
  refine (i_CommitteeTotal _ _ _ _ _ U1.out.ints (by omega)).mono ?_
  rw [← HT.out]
  rintro e w' ⟨rfl, rfl⟩
  go_wp2_with fail
  go_loop [8] (fun i => ∃ m : Nat, m ≤ zs.length ∧ i = .int .i64 m) (fun i => zs.length - (intOf i).toNat)
  case atStart => exact ⟨0, Nat.zero_le _, rfl⟩
  case round =>
    obtain ⟨m, hm, rfl⟩ := hrel
    by_cases hlt : m < zs.length
    · obtain ⟨b, off, hA, hbb, hc⟩ := U1.out.ints.at_ hlt
      injection hA with hA
      injection hA with hA1 hA2
      subst hA1 hA2
      have hck := hc m hlt
      rw [Nat.zero_add] at hck
      clear hc
      go_wp2_with fail
      go_loop [9, 10] (fun n v => ∃ k : Nat, k ≤ t ∧ v = .int .i64 k ∧ n = .int .i64 (cntTo (hitB zs m) k : Int)) (fun _ v => t - (intOf v).toNat)
      case atStart => exact ⟨0, Nat.zero_le _, rfl, rfl⟩
      case round =>
        obtain ⟨k, hk, rfl, rfl⟩ := hrel
        have hcl := cntTo_le (hitB zs m) k
        by_cases hkt : k < t
        · by_cases hh : coin zs (k : Int) = (m : Int)
          · have hb1 : (coin zs (k : Int) == (m : Int)) = true := by simp [hh]
            have hhit : hitB zs m k = true := by simp [hitB, hh]
            have HH := Lib.hid hhit
            clear hh hhit
            go_wp2_with (go_at_call 39; refine (i_CoinLeader _ _ _ _ _ _ U1.out.ints (by omega)).mono ?_; rintro e w' ⟨rfl, rfl⟩)
            go_round
            case rel => exact ⟨k + 1, by omega, by go_num, by rw [cntTo, if_pos HH.out]; go_num⟩
            case measure => simp [intOf]; omega
          · have hb1 : (coin zs (k : Int) == (m : Int)) = false := by simp [hh]
            have hhit : hitB zs m k = false := by simp [hitB, hh]
            have HH := Lib.hid hhit
            clear hh hhit
            go_wp2_with (go_at_call 39; refine (i_CoinLeader _ _ _ _ _ _ U1.out.ints (by omega)).mono ?_; rintro e w' ⟨rfl, rfl⟩)
            go_round
            case rel => exact ⟨k + 1, by omega, by go_num, by rw [cntTo, if_neg (by simp [HH.out])]⟩
            case measure => simp [intOf]; omega
        · have hkt' : k = t := by omega
          have hcnt : ((cntTo (hitB zs m) k : Int) != nth zs m) = false := by
            rw [hkt', count_all HV.out hlt (by rw [HT.out, cTotal_eq HV.out])]; simp
          clear hkt'
          go_wp2_with fail
          go_round
          case rel => exact ⟨m + 1, by omega, by go_num⟩
          case measure => simp [intOf]; omega
    · by_cases hF : (251 : Int) ≤ x + (t : Int)
      · go_wp2_with fail
        go_ret
        exact ⟨rfl, B1.out⟩
      · have hsh : (coin zs (x + (t : Int)) == coin zs x) = true := by
          rw [HT.out] at hF ⊢
          rw [coin_shift HV.out (by omega) (by omega)]; simp
        go_wp2_with (go_at_call 39; refine (i_CoinLeader _ _ _ _ _ _ U1.out.ints (by omega)).mono ?_; rintro e w' ⟨rfl, rfl⟩)
        go_ret
        exact ⟨rfl, B1.out⟩

set_option maxRecDepth 100000 in
theorem lifted (os : Os) (started : os.Started) (H : Type) (enc : TypeId × Value → H) :
    ReturnsInHanded {} Try.checked os 10 .any (Rows.fnCoinLeaderSpec.pre6 enc Try.prog Try.f10 Rows.fnCoinLeaderRow.domain false) (Rows.fnCoinLeaderSpec.post enc Try.prog Try.f10 false true false false) := by
  refine returnsInHanded_of_change (C := Try.checked) own started (by kernel_rfl) Try.func10
    (ChangeSpec.witness6 (enc := enc) (C := Try.checked) false ⟨#[], #[.slice none 0 0], []⟩ 8 (by kernel_rfl) (by kernel_rfl) (by kernel_rfl) (by kernel_rfl)) ?_
  intro W base args ds gs before hval0 hW hcnd _
  have hval : ∀ (j : Nat) t v, Try.f10.params[j]? = some t → args[j]? = some v → Value.okWide Try.prog W .any base t v := hval0
  have hW' := hW
  obtain ⟨p, q, hA0, hV, rfl, hfz, hnd⟩ := hW
  have hA : DataW.TrodAll enc Try.prog W 0 (fun _ => true) true Try.f10.params.toList args.toList ds p := hA0
  rw [Try.params10] at hA hval
  obtain ⟨v0, vs0, d0, ds0, p0, q0, hargs, rfl, rfl, h0, r0⟩ := trodAll_cons hA
  obtain ⟨rfl, rfl, rfl⟩ := trodAll_nil r0
  obtain rfl : args = #[v0] := by cases args; simp_all
  obtain ⟨rfl, rfl⟩ := trodVars_none hV
  obtain ⟨a0, len0, c0, rfl⟩ := okWide_slice Try.underlying22 (hval 0 22 v0 rfl rfl)
  have k0 := h0
  have lt0 : ∀ x ∈ p0, x.block < W.heap.size := by obtain ⟨m, hm⟩ := k0; exact DataW.trod_lt m _ _ _ hm
  obtain ⟨z0, rfl, w0⟩ := bytes_of_trod h0
  clear hA0 hval0
  refine (walk a0 c0 z0 W w0).mono fun e W' ⟨he, bel⟩ => ?_
  subst he
  exact ⟨_, rfl, _, _, _, [], _, [], hW', trodAll_mk1 (shut_bool Try.underlying4 _), (trodAll_cons_mk (Below.trod laidOut (by kernel_rfl) (of_decide_eq_true (by kernel_rfl)) k0 bel lt0) trodAll_mk0), rfl, bel.frame _, fun h => by cases h⟩

theorem over : Rows.fnCoinLeaderRow.holds Try.pinned (OpenSpec.ofChange Rows.fnCoinLeaderSpec) :=
  OpenClaim.holds_of_wide 10 Try.f10 rfl rfl rfl rfl rfl rfl rfl ⟨rfl, rfl, rfl, rfl, rfl⟩ rfl rfl rfl rfl rfl (by kernel_rfl) Try.func10 (by kernel_rfl)
    (of_decide_eq_true (by kernel_rfl)) (by unfold Func.isWrapper; first | (rw [if_pos (by decide +kernel)]; kernel_rfl) | (rw [if_neg (by decide +kernel)]; exact ⟨rfl, rfl⟩))
    (fun os started H enc _ => lifted os started H enc)

/-- The given statement. -/
theorem proved : Rows.FnCoinLeaderSaid := over
#print axioms proved
end Go.Proofs.Ytcaephelagjodaa.lawCoinLeader
