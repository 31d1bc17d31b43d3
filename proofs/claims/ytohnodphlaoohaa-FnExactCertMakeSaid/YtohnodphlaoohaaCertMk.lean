/- CertMake: signatures are combined, in the program and in the reference. -/
import Derived.Test.YtohnodphlaoohaaCert
import Derived.Test.YtohnodphlaoohaaForgetVoter
namespace Go.Proofs.Ytohnodphlaoohaa
open Go.RowKit
set_option linter.unusedVariables false

/-- A signature that fits its key and its digest. -/
def sigB (p d s : Int) : Bool := inB p 1 996 && (digB d && (inB s 1 996 && decide (s * 5 % 997 = p * (d + 1) % 997)))
def sigAt (ks ss : List Int) (d : Int) (j : Nat) : Bool := decide (nth ss j = 0) || sigB (nth ks j) d (nth ss j)
def signTo (ss : List Int) : Nat → List Int
  | 0 => []
  | k + 1 => if nth ss k = 0 then signTo ss k else signTo ss k ++ [(k : Int)]
def ssumTo (ss : List Int) : Nat → Int
  | 0 => 0
  | k + 1 => if nth ss k = 0 then ssumTo ss k else (ssumTo ss k + nth ss k) % 997
theorem signTo_no {ss : List Int} {k : Nat} (h : nth ss k = 0) : signTo ss (k + 1) = signTo ss k := by rw [signTo, if_pos h]
theorem signTo_yes {ss : List Int} {k : Nat} (h : nth ss k ≠ 0) : signTo ss (k + 1) = signTo ss k ++ [(k : Int)] := by rw [signTo, if_neg h]
theorem ssumTo_no {ss : List Int} {k : Nat} (h : nth ss k = 0) : ssumTo ss (k + 1) = ssumTo ss k := by rw [ssumTo, if_pos h]
theorem ssumTo_yes {ss : List Int} {k : Nat} (h : nth ss k ≠ 0) : ssumTo ss (k + 1) = (ssumTo ss k + nth ss k) % 997 := by rw [ssumTo, if_neg h]
theorem ssumTo_bd (ss : List Int) (k : Nat) : 0 ≤ ssumTo ss k ∧ ssumTo ss k ≤ 996 := by
  induction k with
  | zero => simp [ssumTo]
  | succ k ih => unfold ssumTo; split <;> omega
theorem signTo_len (ss : List Int) (k : Nat) : (signTo ss k).length ≤ k := by
  induction k with
  | zero => simp [signTo]
  | succ k ih => unfold signTo; split
                 · omega
                 · rw [List.length_append]; simp; omega
theorem signTo_lt {ss : List Int} {k : Nat} : ∀ x, x ∈ signTo ss k → 0 ≤ x ∧ x < k := by
  induction k with
  | zero => intro x hx; simp [signTo] at hx
  | succ k ih =>
    intro x hx
    unfold signTo at hx
    split at hx
    · have := ih x hx; omega
    · rcases List.mem_append.1 hx with h | h
      · have := ih x h; omega
      · simp at h; omega
theorem nth_snoc_lt {xs : List Int} {z : Int} {j : Nat} (h : j < xs.length) : nth (xs ++ [z]) j = nth xs j := by
  simp [nth, List.getElem?_append_left h]
theorem nth_snoc_eq {xs : List Int} {z : Int} : nth (xs ++ [z]) xs.length = z := by simp [nth]
theorem nth_mem' {xs : List Int} {j : Nat} (h : j < xs.length) : nth xs j ∈ xs := by rw [nth_eq h]; exact List.getElem_mem h
theorem signTo_mem {ss : List Int} {n k : Nat} (hk : k ≤ n) : memB n (signTo ss k) = true := by
  induction k with
  | zero => simp [signTo, memB, allTo]
  | succ k ih =>
    have ih := ih (by omega)
    unfold signTo
    split
    · exact ih
    · unfold memB at ih ⊢
      rw [allTo_iff] at ih ⊢
      intro j hj
      rw [List.length_append] at hj
      have hj : j < (signTo ss k).length + 1 := hj
      by_cases h : j < (signTo ss k).length
      · have := ih j h
        unfold memOk at this ⊢
        rw [nth_snoc_lt h]
        by_cases h0 : 0 < j
        · rw [nth_snoc_lt (by omega)]; exact this
        · have : j = 0 := by omega
          subst this
          simpa using this
      · have e : j = (signTo ss k).length := by omega
        subst e
        unfold memOk
        rw [nth_snoc_eq]
        have hi : inB (k : Int) 0 (n - 1) = true := inB_iff.2 (by omega)
        rw [hi]
        by_cases h0 : 0 < (signTo ss k).length
        · rw [nth_snoc_lt (by omega)]
          have := signTo_lt (ss := ss) (k := k) _ (nth_mem' (xs := signTo ss k) (j := (signTo ss k).length - 1) (by omega))
          have hd : decide ((k : Int) ≤ nth (signTo ss k) ((signTo ss k).length - 1)) = false := by simp; omega
          rw [hd]; simp
        · simp [h0]
/-- Whether the certificate is made. -/
def makeB (zs ks ss : List Int) (d : Int) : Bool := keysB zs ks && (decide (ss.length = zs.length) && (digB d && (allTo (sigAt ks ss d) zs.length && decide (quorum zs ≤ weight zs (signTo ss zs.length)))))
/-- What is handed back: nothing, or a certificate in new memory. -/
def MadeC (w : World) (zs ks ss : List Int) (d : Int) (e : Ending) (w' : World) : Prop :=
  (makeB zs ks ss d = false → e = .returned (.tuple #[.agg #[.int .i64 0, .slice none 0 0, .int .i64 0], .bool false])) ∧
  (makeB zs ks ss d = true → ∃ g cap : Nat, e = .returned (.tuple #[.agg #[.int .i64 d, .slice (some ⟨g, 0, none⟩) (signTo ss zs.length).length cap, .int .i64 (ssumTo ss zs.length)], .bool true]) ∧ OwnI w' w.heap.size (.slice (some ⟨g, 0, none⟩) (signTo ss zs.length).length cap) (signTo ss zs.length)) ∧
  Below w.heap.size w w'
theorem MadeC.no {w w' : World} {zs ks ss : List Int} {d : Int} {e : Ending} (hm : makeB zs ks ss d = false) (he : e = .returned (.tuple #[.agg #[.int .i64 0, .slice none 0 0, .int .i64 0], .bool false])) (hb : Below w.heap.size w w') : MadeC w zs ks ss d e w' :=
  ⟨fun _ => he, fun h => absurd (hm.symm.trans h) (by simp), hb⟩
theorem MadeC.yes {w w' : World} {zs ks ss : List Int} {d : Int} {e : Ending} {g cap : Nat} (hm : makeB zs ks ss d = true) (he : e = .returned (.tuple #[.agg #[.int .i64 d, .slice (some ⟨g, 0, none⟩) (signTo ss zs.length).length cap, .int .i64 (ssumTo ss zs.length)], .bool true])) (ho : OwnI w' w.heap.size (.slice (some ⟨g, 0, none⟩) (signTo ss zs.length).length cap) (signTo ss zs.length)) (hb : Below w.heap.size w w') : MadeC w zs ks ss d e w' :=
  ⟨fun h => absurd (hm.symm.trans h) (by simp), fun _ => ⟨g, cap, he, ho⟩, hb⟩
/-- The check of the weight at the end. -/
theorem low_made {zs ks ss : List Int} {d : Int} (hk : keysB zs ks = true) (hl : ss.length = zs.length) (hd : digB d = true) (ha : allTo (sigAt ks ss d) zs.length = true) :
    decide (cWeight zs (signTo ss zs.length) < cQuorum zs) = !(makeB zs ks ss d) := by
  rw [weight_low (keysB_valid hk), signTo_mem (Nat.le_refl _)]
  simp [makeB, hk, hl, hd, ha]
theorem low_made2 {zs ks ss : List Int} {d : Int} (hk : keysB zs ks = true) (hl : ss.length = zs.length) (hd : digB d = true) (ha : allTo (sigAt ks ss d) zs.length = true) :
    decide (weight zs (signTo ss zs.length) < quorum zs) = !(makeB zs ks ss d) := by
  simp [makeB, hk, hl, hd, ha]
  rw [Bool.eq_iff_iff]; simp
theorem sig_mul {p d : Int} (hp0 : 1 ≤ p) (hp9 : p ≤ 996) (hd0 : 0 ≤ d) (hd9 : d ≤ 990) : 0 ≤ p * (d + 1) ∧ p * (d + 1) ≤ 996 * 991 :=
  ⟨Int.mul_nonneg (by omega) (by omega), Int.mul_le_mul hp9 (show d + 1 ≤ 991 by omega) (by omega) (by omega : (0 : Int) ≤ 996)⟩
theorem below_set3 {w W : World} (h : Below w.heap.size w W) (j0 j1 j2 : Nat) (u0 u1 u2 : Value) : Below w.heap.size w (((W.setCell ⟨w.heap.size, j0, none⟩ u0).setCell ⟨w.heap.size, j1, none⟩ u1).setCell ⟨w.heap.size, j2, none⟩ u2) :=
  ((h.setCell (p := ⟨w.heap.size, j0, none⟩) (Nat.le_refl _) _).setCell (p := ⟨w.heap.size, j1, none⟩) (Nat.le_refl _) _).setCell (p := ⟨w.heap.size, j2, none⟩) (Nat.le_refl _) _
theorem below_set2 {w W : World} {F : Nat} (h : Below w.heap.size w W) (hF : w.heap.size ≤ F) (j0 j1 : Nat) (u0 u1 : Value) : Below w.heap.size w ((W.setCell ⟨F, j0, none⟩ u0).setCell ⟨F, j1, none⟩ u1) :=
  (h.setCell (p := ⟨F, j0, none⟩) hF _).setCell (p := ⟨F, j1, none⟩) hF _
set_option maxHeartbeats 2000000 in
theorem i_SignCheck (p d s : Int) (w : World) : Calls Try.prog 63 #[.int .i64 p, .int .i64 d, .int .i64 s] w fun e w' => e = .returned (.bool (sigB p d s)) ∧ w = w' := by
  rcases hp : inB p 1 996 with _ | _
  · rw [show sigB p d s = false from by simp [sigB, hp]]
    go_enter Try.func63, Try.ntmps63
    go_wp2_with (go_at_call 107; refine (i_inGroup _ _).mono ?_; rw [hp]; rintro e w' ⟨rfl, rfl⟩)
    go_ret
    exact ⟨rfl, rfl⟩
  rcases hd : digB d with _ | _
  · rw [show sigB p d s = false from by simp [sigB, hd]]
    go_enter Try.func63, Try.ntmps63
    go_wp2_with fail
    refine (i_inGroup _ _).mono ?_
    rw [hp]
    rintro e w' ⟨rfl, rfl⟩
    go_wp2_with fail
    refine (i_isDigest _ _).mono ?_
    rw [hd]
    rintro e w' ⟨rfl, rfl⟩
    go_wp2_with fail
    go_ret
    exact ⟨rfl, rfl⟩
  rcases hs : inB s 1 996 with _ | _
  · rw [show sigB p d s = false from by simp [sigB, hs]]
    go_enter Try.func63, Try.ntmps63
    go_wp2_with fail
    refine (i_inGroup _ _).mono ?_
    rw [hp]
    rintro e w' ⟨rfl, rfl⟩
    go_wp2_with fail
    refine (i_isDigest _ _).mono ?_
    rw [hd]
    rintro e w' ⟨rfl, rfl⟩
    go_wp2_with fail
    refine (i_inGroup _ _).mono ?_
    rw [hs]
    rintro e w' ⟨rfl, rfl⟩
    go_wp2_with fail
    go_ret
    exact ⟨rfl, rfl⟩
  have hr : sigB p d s = decide (s * 5 % 997 = p * (d + 1) % 997) := by simp [sigB, hp, hd, hs]
  have hp2 := inB_iff.1 hp
  have hs2 := inB_iff.1 hs
  have hd2 := inB_iff.1 (show inB d 0 990 = true from hd)
  obtain ⟨hm0, hm9⟩ := sig_mul hp2.1 hp2.2 hd2.1 hd2.2
  rw [hr]
  clear hr
  go_enter Try.func63, Try.ntmps63
  go_wp2_with fail
  refine (i_inGroup _ _).mono ?_
  rw [hp]
  rintro e w' ⟨rfl, rfl⟩
  go_wp2_with fail
  refine (i_isDigest _ _).mono ?_
  rw [hd]
  rintro e w' ⟨rfl, rfl⟩
  go_wp2_with fail
  refine (i_inGroup _ _).mono ?_
  rw [hs]
  rintro e w' ⟨rfl, rfl⟩
  go_wp2_with fail
  go_ret
  exact ⟨ret_bool (by first | rfl | (rw [Bool.eq_iff_iff]; simp)), rfl⟩
set_option maxHeartbeats 2000000 in
theorem s_SignCheck (p d s : Int) (w : World) : Calls Try.prog 58 #[.int .i64 p, .int .i64 d, .int .i64 s] w fun e w' => e = .returned (.bool (sigB p d s)) ∧ w = w' := by
  rcases hp : inB p 1 996 with _ | _
  · rw [show sigB p d s = false from by simp [sigB, hp]]
    go_enter Try.func58, Try.ntmps58
    go_wp2_with (go_at_call 105; refine (s_l4Key _ _).mono ?_; rw [hp]; rintro e w' ⟨rfl, rfl⟩)
    go_ret
    exact ⟨rfl, rfl⟩
  rcases hd : digB d with _ | _
  · rw [show sigB p d s = false from by simp [sigB, hd]]
    go_enter Try.func58, Try.ntmps58
    go_wp2_with fail
    refine (s_l4Key _ _).mono ?_
    rw [hp]
    rintro e w' ⟨rfl, rfl⟩
    go_wp2_with fail
    refine (s_l2Digest _ _).mono ?_
    rw [hd]
    rintro e w' ⟨rfl, rfl⟩
    go_wp2_with fail
    go_ret
    exact ⟨rfl, rfl⟩
  rcases hs : inB s 1 996 with _ | _
  · rw [show sigB p d s = false from by simp [sigB, hs]]
    go_enter Try.func58, Try.ntmps58
    go_wp2_with fail
    refine (s_l4Key _ _).mono ?_
    rw [hp]
    rintro e w' ⟨rfl, rfl⟩
    go_wp2_with fail
    refine (s_l2Digest _ _).mono ?_
    rw [hd]
    rintro e w' ⟨rfl, rfl⟩
    go_wp2_with fail
    refine (s_l4Key _ _).mono ?_
    rw [hs]
    rintro e w' ⟨rfl, rfl⟩
    go_wp2_with fail
    go_ret
    exact ⟨rfl, rfl⟩
  have hr : sigB p d s = decide (s * 5 % 997 = p * (d + 1) % 997) := by simp [sigB, hp, hd, hs]
  have hp2 := inB_iff.1 hp
  have hs2 := inB_iff.1 hs
  have hd2 := inB_iff.1 (show inB d 0 990 = true from hd)
  rw [hr]
  clear hr
  go_enter Try.func58, Try.ntmps58
  go_wp2_with fail
  refine (s_l4Key _ _).mono ?_
  rw [hp]
  rintro e w' ⟨rfl, rfl⟩
  go_wp2_with fail
  refine (s_l2Digest _ _).mono ?_
  rw [hd]
  rintro e w' ⟨rfl, rfl⟩
  go_wp2_with fail
  refine (s_l4Key _ _).mono ?_
  rw [hs]
  rintro e w' ⟨rfl, rfl⟩
  go_wp2_with fail
  refine (s_l4Check _ _ _ _ (by omega) hp2.2 hd2.1 hd2.2 (by omega) hs2.2).mono ?_
  rintro e w' ⟨rfl, rfl⟩
  go_wp2_with fail
  go_ret
  exact ⟨rfl, rfl⟩
set_option maxHeartbeats 8000000 in
theorem i_CertMake (A A' A2 : Option Addr) (c c' c2 : Nat) (zs ks ss : List Int) (d : Int) (w : World) (h : Ints w w.heap.size A zs) (h' : Ints w w.heap.size A' ks) (h2 : Ints w w.heap.size A2 ss) (hn : zs.length ≤ 1048576) (hm : ks.length ≤ 1048576) (hs : ss.length ≤ 1048576) :
    Calls Try.prog 15 #[.slice A zs.length c, .slice A' ks.length c', .int .i64 d, .slice A2 ss.length c2] w (MadeC w zs ks ss d) := by
  have b := allocB w (.cells #[.int .i64 0, .slice none 0 0, .int .i64 0] 24)
  have H := Lib.hid (h.carry b)
  have H' := Lib.hid (h'.carry b)
  have H2 := Lib.hid h2
  have RB := Lib.hid (Box.new w #[.int .i64 0, .slice none 0 0, .int .i64 0] 24)
  have BB := Lib.hid b
  have H0 := Lib.hid h
  have H1 := Lib.hid h'
  clear h h' h2 b
  rcases hk : keysB zs ks with _ | _
  · have hr : makeB zs ks ss d = false := by simp [makeB, hk]
    have HR := Lib.hid hr
    clear hr
    go_enter Try.func15, Try.ntmps15
    go_wp2_with fail
    refine (i_keysFit _ _ _ _ _ _ _ _ H.out H'.out hn hm).mono ?_
    rw [hk]
    rintro e w' ⟨rfl, rfl⟩
    clear hk
    have c0 := RB.out.cell (j := 0) (u := .int .i64 0) rfl
    have c1 := RB.out.cell (j := 1) (u := .slice none 0 0) rfl
    have c2 := RB.out.cell (j := 2) (u := .int .i64 0) rfl
    have f0 := RB.out.free 0
    have f1 := RB.out.free 1
    have f2 := RB.out.free 2
    go_wp2_with fail
    refine bodyPost_ret (v := .tuple #[.agg #[.int .i64 0, .slice none 0 0, .int .i64 0], .bool false]) (by simp [results, Try.results15, go_sem, *]) rfl (MadeC.no HR.out rfl ?_)
    first | exact below_set3 BB.out _ _ _ _ _ _ | exact BB.out | exact allocB _ _
  have HKB := Lib.hid hk
  by_cases hl : ss.length = zs.length
  rotate_left
  · have hr : makeB zs ks ss d = false := by simp [makeB, hl]
    have hl' : ((ss.length : Int) != (zs.length : Int)) = true := by simp; omega
    have HR := Lib.hid hr
    clear hr hl
    go_enter Try.func15, Try.ntmps15
    go_wp2_with fail
    refine (i_keysFit _ _ _ _ _ _ _ _ H.out H'.out hn hm).mono ?_
    rw [hk]
    rintro e w' ⟨rfl, rfl⟩
    clear hk
    have c0 := RB.out.cell (j := 0) (u := .int .i64 0) rfl
    have c1 := RB.out.cell (j := 1) (u := .slice none 0 0) rfl
    have c2 := RB.out.cell (j := 2) (u := .int .i64 0) rfl
    have f0 := RB.out.free 0
    have f1 := RB.out.free 1
    have f2 := RB.out.free 2
    go_wp2_with fail
    refine bodyPost_ret (v := .tuple #[.agg #[.int .i64 0, .slice none 0 0, .int .i64 0], .bool false]) (by simp [results, Try.results15, go_sem, *]) rfl (MadeC.no HR.out rfl ?_)
    first | exact below_set3 BB.out _ _ _ _ _ _ | exact BB.out | exact allocB _ _
  have hl' : ((ss.length : Int) != (zs.length : Int)) = false := by simp [hl]
  have HL := Lib.hid hl
  rcases hd : digB d with _ | _
  · have hr : makeB zs ks ss d = false := by simp [makeB, hd]
    have HR := Lib.hid hr
    clear hr
    go_enter Try.func15, Try.ntmps15
    go_wp2_with fail
    refine (i_keysFit _ _ _ _ _ _ _ _ H.out H'.out hn hm).mono ?_
    rw [hk]
    rintro e w' ⟨rfl, rfl⟩
    clear hk
    go_wp2_with fail
    refine (i_isDigest _ _).mono ?_
    rw [hd]
    rintro e w' ⟨rfl, rfl⟩
    clear hd
    have c0 := RB.out.cell (j := 0) (u := .int .i64 0) rfl
    have c1 := RB.out.cell (j := 1) (u := .slice none 0 0) rfl
    have c2 := RB.out.cell (j := 2) (u := .int .i64 0) rfl
    have f0 := RB.out.free 0
    have f1 := RB.out.free 1
    have f2 := RB.out.free 2
    go_wp2_with fail
    refine bodyPost_ret (v := .tuple #[.agg #[.int .i64 0, .slice none 0 0, .int .i64 0], .bool false]) (by simp [results, Try.results15, go_sem, *]) rfl (MadeC.no HR.out rfl ?_)
    first | exact below_set3 BB.out _ _ _ _ _ _ | exact BB.out | exact allocB _ _
  have HDB := Lib.hid hd
  go_enter Try.func15, Try.ntmps15
  go_wp2_with fail
  refine (i_keysFit _ _ _ _ _ _ _ _ H.out H'.out hn hm).mono ?_
  rw [hk]
  rintro e w' ⟨rfl, rfl⟩
  clear hk
  go_wp2_with fail
  refine (i_isDigest _ _).mono ?_
  rw [hd]
  rintro e w' ⟨rfl, rfl⟩
  clear hd
  have ba := allocB2 (w.alloc (.cells #[.int .i64 0, .slice none 0 0, .int .i64 0] 24)) (.cells #[] 3) (.cells #[.int .i64 d, .slice (some ⟨w.heap.size + 1, 0, none⟩) 0 0, .int .i64 0] 24)
  have KB := Lib.hid (show Box (((w.alloc (.cells #[.int .i64 0, .slice none 0 0, .int .i64 0] 24)).alloc (.cells #[] 3)).alloc (.cells #[.int .i64 d, .slice (some ⟨w.heap.size + 1, 0, none⟩) 0 0, .int .i64 0] 24)) (w.heap.size + 2) 24 #[.int .i64 d, .slice (some ⟨w.heap.size + 1, 0, none⟩) 0 0, .int .i64 0] from by
    have := Box.new ((w.alloc (.cells #[.int .i64 0, .slice none 0 0, .int .i64 0] 24)).alloc (.cells #[] 3)) #[.int .i64 d, .slice (some ⟨w.heap.size + 1, 0, none⟩) 0 0, .int .i64 0] 24
    simpa using this)
  have OB := Lib.hid (show OwnI (((w.alloc (.cells #[.int .i64 0, .slice none 0 0, .int .i64 0] 24)).alloc (.cells #[] 3)).alloc (.cells #[.int .i64 d, .slice (some ⟨w.heap.size + 1, 0, none⟩) 0 0, .int .i64 0] 24)) w.heap.size (.slice (some ⟨w.heap.size + 1, 0, none⟩) 0 0) [] from by
    have := (OwnI.start (w := w.alloc (.cells #[.int .i64 0, .slice none 0 0, .int .i64 0] 24)) (base := w.heap.size) (by simp)).alloc (.cells #[.int .i64 d, .slice (some ⟨w.heap.size + 1, 0, none⟩) 0 0, .int .i64 0] 24)
    simpa using this)
  replace RB := Lib.hid (RB.out.carry ba)
  replace BB := Lib.hid (next BB.out ba)
  clear ba
  go_wp2_with fail
  go_loopw [35] (fun i wr => ∃ (k g cap : Nat), k ≤ ss.length ∧ i = .int .i64 k ∧ OwnI wr w.heap.size (.slice (some ⟨g, 0, none⟩) (signTo ss k).length cap) (signTo ss k) ∧ Box wr (w.heap.size + 2) 24 #[.int .i64 d, .slice (some ⟨g, 0, none⟩) (signTo ss k).length cap, .int .i64 (ssumTo ss k)] ∧ Box wr w.heap.size 24 #[.int .i64 0, .slice none 0 0, .int .i64 0] ∧ Below w.heap.size w wr ∧ allTo (sigAt ks ss d) k = true) (fun i _ => ss.length - (intOf i).toNat)
  case atStart => exact ⟨0, w.heap.size + 1, 0, Nat.zero_le _, rfl, OB.out, KB.out, RB.out, BB.out, rfl⟩
  case round =>
    obtain ⟨k, g, cap, hk, rfl, hown, hK, hR, hbel, hall⟩ := hrel
    have hgF := Own.ne_box hown hK (by decide)
    have hgR := Own.ne_box hown hR (by decide)
    have HO := Lib.hid hown
    have HK := Lib.hid hK
    have HRB := Lib.hid hR
    have HB := Lib.hid hbel
    have HALL := Lib.hid hall
    have hsz := hbel.size
    have hFl := hK.lt
    have hRl := hR.lt
    have hlen := signTo_len ss k
    have hsb := ssumTo_bd ss k
    clear hown hK hR hall
    by_cases hlt : k < ss.length
    · have hkk : k < ks.length := by have := (keysB_iff.1 HKB.out).2.1; have := HL.out; omega
      have hkz : k < zs.length := by have := HL.out; omega
      have hi0 : (0 : Int) ≤ (k : Int) := by omega
      have hi1 : (k : Int) < (ss.length : Int) := by omega
      have hi2 : (k : Int) < (ks.length : Int) := by omega
      obtain ⟨b2, off2, rfl, hb2, hc2⟩ := (H2.out.below hbel).at_ hlt
      have s0 := hc2 k hlt
      clear hc2
      by_cases hz : nth ss k = 0
      · have hs1 := Lib.hid (signTo_no hz)
        have hs2 := Lib.hid (ssumTo_no hz)
        have hs3 := Lib.hid (show sigAt ks ss d k = true by simp [sigAt, hz])
        have hz' : (nth ss k == 0) = true := by simp [hz]
        clear hz hbel
        go_wp2_with fail
        go_roundw
        case rel => exact ⟨k + 1, g, cap, by omega, by go_num, by rw [hs1.out]; exact HO.out, by rw [hs1.out, hs2.out]; exact HK.out, HRB.out, HB.out, allTo_step HALL.out hs3.out⟩
        case measure => simp [intOf]; omega
      · have hz' : (nth ss k == 0) = false := by simp [hz]
        have hs1 := Lib.hid (signTo_yes hz)
        have hs2 := Lib.hid (ssumTo_yes hz)
        obtain ⟨b1, off1, rfl, hb1, hc1⟩ := (H1.out.below hbel).at_ hkk
        have p0 := hc1 k hkk
        clear hc1 hbel
        rcases hsig : sigB (nth ks k) d (nth ss k) with _ | _
        · have hr : makeB zs ks ss d = false := by
            have : sigAt ks ss d k = false := by simp [sigAt, hsig, hz]
            simp [makeB, allTo_bad hkz this]
          have HR := Lib.hid hr
          clear hr hz
          go_wp2_with fail
          refine (i_SignCheck _ _ _ _).mono ?_
          rw [hsig]
          rintro e w' ⟨rfl, rfl⟩
          clear hsig
          have c0 := HRB.out.cell (j := 0) (u := .int .i64 0) rfl
          have c1 := HRB.out.cell (j := 1) (u := .slice none 0 0) rfl
          have c2 := HRB.out.cell (j := 2) (u := .int .i64 0) rfl
          have f0 := HRB.out.free 0
          have f1 := HRB.out.free 1
          have f2 := HRB.out.free 2
          go_wp2_with fail
          refine bodyPost_ret (v := .tuple #[.agg #[.int .i64 0, .slice none 0 0, .int .i64 0], .bool false]) (by simp [results, Try.results15, go_sem, *]) rfl (MadeC.no HR.out rfl ?_)
          first | exact below_set3 HB.out _ _ _ _ _ _ | exact HB.out | exact allocB _ _
        · have hsb2 : 1 ≤ nth ss k ∧ nth ss k ≤ 996 := by
            simp only [sigB, Bool.and_eq_true] at hsig
            exact inB_iff.1 hsig.2.2.1
          have hs3 := Lib.hid (show sigAt ks ss d k = true by simp [sigAt, hsig])
          clear hz
          go_wp2_with fail
          refine (i_SignCheck _ _ _ _).mono ?_
          rw [hsig]
          rintro e w' ⟨rfl, rfl⟩
          clear hsig
          have q1 := HK.out.cell (j := 1) (u := .slice (some ⟨g, 0, none⟩) (signTo ss k).length cap) rfl
          have hl1 : (signTo ss k).length ≤ 10000000 := by omega
          go_wp2_with (at_builtin; refine appendInt (by rfl) _ _ (by rfl) wr w.heap.size _ (signTo ss k) (k : Int) (by rfl) HO.out (by simp [Act.eval]) hl1 hsz ?_; intro g1 cap1 w4 own4 hg4; have K4 := HK.out.grown hg4 (own_ne hgF); have R4 := HRB.out.grown hg4 (own_ne hgR); have B4 := below_own HB.out HO.out (Nat.le_refl _) hg4; have hne := Own.ne_box (show Own w4 w.heap.size 3 1 (.slice (some ⟨g1, 0, none⟩) ((signTo ss k).length + 1) cap1) ((signTo ss k).length + 1) ((signTo ss k ++ [(k : Int)]).map (Value.int .i64)) from (by have := own4; unfold OwnI at this; rw [List.length_append] at this; exact this)) K4 (by decide); have t4 := K4.cell (j := 1) (u := .slice (some ⟨g, 0, none⟩) (signTo ss k).length cap) rfl; have tf := K4.free 1; have t5 := K4.cell (j := 2) (u := .int .i64 (ssumTo ss k)) rfl; have tf2 := K4.free 2; have s4 := (H2.out.below B4).at_ hlt; have K5 := Lib.hid K4; have R5 := Lib.hid R4; have B5 := Lib.hid B4; have O5 := Lib.hid own4; clear K4 R4 B4 own4 hg4)
          all_goals
            go_wp2_with fail
            go_roundw
            case rel =>
              refine ⟨k + 1, g1, cap1, by omega, by go_num, ?_, ?_, ?_, ?_, allTo_step HALL.out hs3.out⟩
              · have hl2 : (signTo ss (k + 1)).length = (signTo ss k).length + 1 := by rw [hs1.out, List.length_append]; rfl
                have o6 : Own w4 w.heap.size 3 1 (.slice (some ⟨g1, 0, none⟩) ((signTo ss k).length + 1) cap1) ((signTo ss k).length + 1) ((signTo ss k ++ [(k : Int)]).map (Value.int .i64)) := by have := O5.out; unfold OwnI at this; rw [List.length_append] at this; exact this
                have := Own.setOther (F := w.heap.size + 2) (j := 2) (u := .int .i64 ((ssumTo ss k + nth ss k) % 997)) (Own.setOther (F := w.heap.size + 2) (j := 1) (u := .slice (some ⟨g1, 0, none⟩) ((signTo ss k).length + 1) cap1) o6 hne) hne
                unfold OwnI
                rw [hl2, hs1.out]
                exact this
              · have hl2 : (signTo ss (k + 1)).length = (signTo ss k).length + 1 := by rw [hs1.out, List.length_append]; rfl
                rw [hl2, hs2.out]
                have := (K5.out.set 1 (.slice (some ⟨g1, 0, none⟩) ((signTo ss k).length + 1) cap1)).set 2 (.int .i64 ((ssumTo ss k + nth ss k) % 997))
                exact this
              · have := (R5.out.other (g' := w.heap.size + 2) (by omega) 1 (.slice (some ⟨g1, 0, none⟩) ((signTo ss k).length + 1) cap1)).other (g' := w.heap.size + 2) (by omega) 2 (.int .i64 ((ssumTo ss k + nth ss k) % 997))
                exact this
              · have := below_set2 (F := w.heap.size + 2) B5.out (by omega) 1 2 (.slice (some ⟨g1, 0, none⟩) ((signTo ss k).length + 1) cap1) (.int .i64 ((ssumTo ss k + nth ss k) % 997))
                first | exact this | exact this.drew
            case measure => simp [intOf]; omega
    · have e : k = zs.length := by have := HL.out; omega
      subst e
      have q1 := HK.out.cell (j := 1) (u := .slice (some ⟨g, 0, none⟩) (signTo ss zs.length).length cap) rfl
      have hu := HO.out.up.2.1.ints
      have HU := Lib.hid hu
      have HZ := Lib.hid ((H0.out.below hbel).more hsz)
      have hsl : (signTo ss zs.length).length ≤ 1048576 := by omega
      clear hu hbel
      rcases hmk : makeB zs ks ss d with _ | _
      · have HR := Lib.hid hmk
        have hw : decide (cWeight zs (signTo ss zs.length) < cQuorum zs) = true := by rw [low_made HKB.out HL.out HDB.out HALL.out, hmk]; rfl
        clear hmk
        go_wp2_with fail
        refine (i_MembersWeight _ _ _ _ _ _ _ _ HZ.out HU.out hn hsl).mono ?_
        rintro e w' ⟨rfl, rfl⟩
        go_wp2_with fail
        refine (i_CommitteeQuorum _ _ _ _ _ HZ.out hn).mono ?_
        rintro e w' ⟨rfl, rfl⟩
        have c0 := HRB.out.cell (j := 0) (u := .int .i64 0) rfl
        have c1 := HRB.out.cell (j := 1) (u := .slice none 0 0) rfl
        have c2 := HRB.out.cell (j := 2) (u := .int .i64 0) rfl
        have f0 := HRB.out.free 0
        have f1 := HRB.out.free 1
        have f2 := HRB.out.free 2
        go_wp2_with fail
        refine bodyPost_ret (v := .tuple #[.agg #[.int .i64 0, .slice none 0 0, .int .i64 0], .bool false]) (by simp [results, Try.results15, go_sem, *]) rfl (MadeC.no HR.out rfl ?_)
        first | exact below_set3 HB.out _ _ _ _ _ _ | exact HB.out | exact allocB _ _
      · have HR := Lib.hid hmk
        have hw : decide (cWeight zs (signTo ss zs.length) < cQuorum zs) = false := by rw [low_made HKB.out HL.out HDB.out HALL.out, hmk]; rfl
        clear hmk
        go_wp2_with fail
        refine (i_MembersWeight _ _ _ _ _ _ _ _ HZ.out HU.out hn hsl).mono ?_
        rintro e w' ⟨rfl, rfl⟩
        go_wp2_with fail
        refine (i_CommitteeQuorum _ _ _ _ _ HZ.out hn).mono ?_
        rintro e w' ⟨rfl, rfl⟩
        have q0 := HK.out.cell (j := 0) (u := .int .i64 d) rfl
        have q2 := HK.out.cell (j := 2) (u := .int .i64 (ssumTo ss zs.length)) rfl
        have c0 := HRB.out.cell (j := 0) (u := .int .i64 0) rfl
        have c1 := HRB.out.cell (j := 1) (u := .slice none 0 0) rfl
        have c2 := HRB.out.cell (j := 2) (u := .int .i64 0) rfl
        have f0 := HRB.out.free 0
        have f1 := HRB.out.free 1
        have f2 := HRB.out.free 2
        have hne1 : w.heap.size + 2 ≠ w.heap.size := by omega
        go_wp2_with fail
        refine bodyPost_ret (v := .tuple #[.agg #[.int .i64 d, .slice (some ⟨g, 0, none⟩) (signTo ss zs.length).length cap, .int .i64 (ssumTo ss zs.length)], .bool true]) (by simp [results, Try.results15, go_sem, *]) rfl (MadeC.yes HR.out rfl ?_ ?_)
        · exact Own.setOther (Own.setOther (Own.setOther HO.out hgR) hgR) hgR
        · exact below_set3 HB.out _ _ _ _ _ _
set_option maxHeartbeats 8000000 in
theorem s_CertMake (A A' A2 : Option Addr) (c c' c2 : Nat) (zs ks ss : List Int) (d : Int) (w : World) (h : Ints w w.heap.size A zs) (h' : Ints w w.heap.size A' ks) (h2 : Ints w w.heap.size A2 ss) (hn : zs.length ≤ 1048576) (hm : ks.length ≤ 1048576) (hs : ss.length ≤ 1048576) :
    Calls Try.prog 13 #[.slice A zs.length c, .slice A' ks.length c', .int .i64 d, .slice A2 ss.length c2] w (MadeC w zs ks ss d) := by
  have b := allocB3 w (.cells #[.int .i64 0, .slice none 0 0, .int .i64 0] 24) (.cells #[] 3) (.cells #[.int .i64 d, .slice (some ⟨w.heap.size + 1, 0, none⟩) 0 0, .int .i64 0] 24)
  have H := Lib.hid (h.carry b)
  have H' := Lib.hid (h'.carry b)
  have H2 := Lib.hid h2
  have RB := Lib.hid (((Box.new w #[.int .i64 0, .slice none 0 0, .int .i64 0] 24).carry (allocB _ (.cells #[] 3))).carry (allocB _ (.cells #[.int .i64 d, .slice (some ⟨w.heap.size + 1, 0, none⟩) 0 0, .int .i64 0] 24)))
  have BB := Lib.hid b
  have KB := Lib.hid (show Box (((w.alloc (.cells #[.int .i64 0, .slice none 0 0, .int .i64 0] 24)).alloc (.cells #[] 3)).alloc (.cells #[.int .i64 d, .slice (some ⟨w.heap.size + 1, 0, none⟩) 0 0, .int .i64 0] 24)) (w.heap.size + 2) 24 #[.int .i64 d, .slice (some ⟨w.heap.size + 1, 0, none⟩) 0 0, .int .i64 0] from by
    have := Box.new ((w.alloc (.cells #[.int .i64 0, .slice none 0 0, .int .i64 0] 24)).alloc (.cells #[] 3)) #[.int .i64 d, .slice (some ⟨w.heap.size + 1, 0, none⟩) 0 0, .int .i64 0] 24
    simpa using this)
  have OB := Lib.hid (show OwnI (((w.alloc (.cells #[.int .i64 0, .slice none 0 0, .int .i64 0] 24)).alloc (.cells #[] 3)).alloc (.cells #[.int .i64 d, .slice (some ⟨w.heap.size + 1, 0, none⟩) 0 0, .int .i64 0] 24)) w.heap.size (.slice (some ⟨w.heap.size + 1, 0, none⟩) 0 0) [] from by
    have := (OwnI.start (w := w.alloc (.cells #[.int .i64 0, .slice none 0 0, .int .i64 0] 24)) (base := w.heap.size) (by simp)).alloc (.cells #[.int .i64 d, .slice (some ⟨w.heap.size + 1, 0, none⟩) 0 0, .int .i64 0] 24)
    simpa using this)
  have H0 := Lib.hid h
  have H1 := Lib.hid h'
  clear h h' h2 b
  rcases hk : keysB zs ks with _ | _
  · have hr : makeB zs ks ss d = false := by simp [makeB, hk]
    have HR := Lib.hid hr
    clear hr
    go_enter Try.func13, Try.ntmps13
    go_wp2_with fail
    refine (s_l4Keys _ _ _ _ _ _ _ _ H.out H'.out hn hm).mono ?_
    rw [hk]
    rintro e w' ⟨rfl, rfl⟩
    clear hk
    have c0 := RB.out.cell (j := 0) (u := .int .i64 0) rfl
    have c1 := RB.out.cell (j := 1) (u := .slice none 0 0) rfl
    have c2 := RB.out.cell (j := 2) (u := .int .i64 0) rfl
    have f0 := RB.out.free 0
    have f1 := RB.out.free 1
    have f2 := RB.out.free 2
    go_wp2_with fail
    refine bodyPost_ret (v := .tuple #[.agg #[.int .i64 0, .slice none 0 0, .int .i64 0], .bool false]) (by simp [results, Try.results13, go_sem, *]) rfl (MadeC.no HR.out rfl ?_)
    first | exact below_set3 BB.out _ _ _ _ _ _ | exact BB.out | exact allocB _ _
  have HKB := Lib.hid hk
  rcases hd : digB d with _ | _
  · have hr : makeB zs ks ss d = false := by simp [makeB, hd]
    have HR := Lib.hid hr
    clear hr
    go_enter Try.func13, Try.ntmps13
    go_wp2_with fail
    refine (s_l4Keys _ _ _ _ _ _ _ _ H.out H'.out hn hm).mono ?_
    rw [hk]
    rintro e w' ⟨rfl, rfl⟩
    clear hk
    go_wp2_with fail
    refine (s_l2Digest _ _).mono ?_
    rw [hd]
    rintro e w' ⟨rfl, rfl⟩
    clear hd
    have c0 := RB.out.cell (j := 0) (u := .int .i64 0) rfl
    have c1 := RB.out.cell (j := 1) (u := .slice none 0 0) rfl
    have c2 := RB.out.cell (j := 2) (u := .int .i64 0) rfl
    have f0 := RB.out.free 0
    have f1 := RB.out.free 1
    have f2 := RB.out.free 2
    go_wp2_with fail
    refine bodyPost_ret (v := .tuple #[.agg #[.int .i64 0, .slice none 0 0, .int .i64 0], .bool false]) (by simp [results, Try.results13, go_sem, *]) rfl (MadeC.no HR.out rfl ?_)
    first | exact below_set3 BB.out _ _ _ _ _ _ | exact BB.out | exact allocB _ _
  by_cases hl : ss.length = zs.length
  rotate_left
  · have hr : makeB zs ks ss d = false := by simp [makeB, hl]
    have hl' : ((ss.length : Int) != (zs.length : Int)) = true := by simp; omega
    have HR := Lib.hid hr
    clear hr hl
    go_enter Try.func13, Try.ntmps13
    go_wp2_with fail
    refine (s_l4Keys _ _ _ _ _ _ _ _ H.out H'.out hn hm).mono ?_
    rw [hk]
    rintro e w' ⟨rfl, rfl⟩
    clear hk
    go_wp2_with fail
    refine (s_l2Digest _ _).mono ?_
    rw [hd]
    rintro e w' ⟨rfl, rfl⟩
    clear hd
    have c0 := RB.out.cell (j := 0) (u := .int .i64 0) rfl
    have c1 := RB.out.cell (j := 1) (u := .slice none 0 0) rfl
    have c2 := RB.out.cell (j := 2) (u := .int .i64 0) rfl
    have f0 := RB.out.free 0
    have f1 := RB.out.free 1
    have f2 := RB.out.free 2
    go_wp2_with fail
    refine bodyPost_ret (v := .tuple #[.agg #[.int .i64 0, .slice none 0 0, .int .i64 0], .bool false]) (by simp [results, Try.results13, go_sem, *]) rfl (MadeC.no HR.out rfl ?_)
    first | exact below_set3 BB.out _ _ _ _ _ _ | exact BB.out | exact allocB _ _
  have hl' : ((ss.length : Int) != (zs.length : Int)) = false := by simp [hl]
  have HL := Lib.hid hl
  have HDB := Lib.hid hd
  go_enter Try.func13, Try.ntmps13
  go_wp2_with fail
  refine (s_l4Keys _ _ _ _ _ _ _ _ H.out H'.out hn hm).mono ?_
  rw [hk]
  rintro e w' ⟨rfl, rfl⟩
  clear hk
  go_wp2_with fail
  refine (s_l2Digest _ _).mono ?_
  rw [hd]
  rintro e w' ⟨rfl, rfl⟩
  clear hd
  go_wp2_with fail
  go_loopw [11] (fun i wr => ∃ (k g cap : Nat), k ≤ ss.length ∧ i = .int .i64 k ∧ OwnI wr w.heap.size (.slice (some ⟨g, 0, none⟩) (signTo ss k).length cap) (signTo ss k) ∧ Box wr (w.heap.size + 2) 24 #[.int .i64 d, .slice (some ⟨g, 0, none⟩) (signTo ss k).length cap, .int .i64 (ssumTo ss k)] ∧ Box wr w.heap.size 24 #[.int .i64 0, .slice none 0 0, .int .i64 0] ∧ Below w.heap.size w wr ∧ allTo (sigAt ks ss d) k = true) (fun i _ => ss.length - (intOf i).toNat)
  case atStart => exact ⟨0, w.heap.size + 1, 0, Nat.zero_le _, rfl, OB.out, KB.out, RB.out, BB.out, rfl⟩
  case round =>
    obtain ⟨k, g, cap, hk, rfl, hown, hK, hR, hbel, hall⟩ := hrel
    have hgF := Own.ne_box hown hK (by decide)
    have hgR := Own.ne_box hown hR (by decide)
    have HO := Lib.hid hown
    have HK := Lib.hid hK
    have HRB := Lib.hid hR
    have HB := Lib.hid hbel
    have HALL := Lib.hid hall
    have hsz := hbel.size
    have hFl := hK.lt
    have hRl := hR.lt
    have hlen := signTo_len ss k
    have hsb := ssumTo_bd ss k
    clear hown hK hR hall
    by_cases hlt : k < ss.length
    · have hkk : k < ks.length := by have := (keysB_iff.1 HKB.out).2.1; have := HL.out; omega
      have hkz : k < zs.length := by have := HL.out; omega
      have hi0 : (0 : Int) ≤ (k : Int) := by omega
      have hi1 : (k : Int) < (ss.length : Int) := by omega
      have hi2 : (k : Int) < (ks.length : Int) := by omega
      obtain ⟨b2, off2, rfl, hb2, hc2⟩ := (H2.out.below hbel).at_ hlt
      have s0 := hc2 k hlt
      clear hc2
      by_cases hz : nth ss k = 0
      · have hs1 := Lib.hid (signTo_no hz)
        have hs2 := Lib.hid (ssumTo_no hz)
        have hs3 := Lib.hid (show sigAt ks ss d k = true by simp [sigAt, hz])
        have hz' : (nth ss k == 0) = true := by simp [hz]
        clear hz hbel
        go_wp2_with fail
        go_roundw
        case rel => exact ⟨k + 1, g, cap, by omega, by go_num, by rw [hs1.out]; exact HO.out, by rw [hs1.out, hs2.out]; exact HK.out, HRB.out, HB.out, allTo_step HALL.out hs3.out⟩
        case measure => simp [intOf]; omega
      · have hz' : (nth ss k == 0) = false := by simp [hz]
        have hs1 := Lib.hid (signTo_yes hz)
        have hs2 := Lib.hid (ssumTo_yes hz)
        obtain ⟨b1, off1, rfl, hb1, hc1⟩ := (H1.out.below hbel).at_ hkk
        have p0 := hc1 k hkk
        clear hc1 hbel
        rcases hsig : sigB (nth ks k) d (nth ss k) with _ | _
        · have hr : makeB zs ks ss d = false := by
            have : sigAt ks ss d k = false := by simp [sigAt, hsig, hz]
            simp [makeB, allTo_bad hkz this]
          have HR := Lib.hid hr
          clear hr hz
          go_wp2_with fail
          have hsq := fun m : Nat => quiet_same (s_SignCheck (nth ks k) d (nth ss k) (wr.drewN m))
          simp only [hsig] at hsq
          go_quiet ((go_at_call 58; exact hsq _))
          clear hsq hsig
          replace HO := Lib.hid (show OwnI (wr.drewN nq) _ _ _ from HO.out)
          replace HK := Lib.hid (show Box (wr.drewN nq) _ _ _ from HK.out)
          replace HRB := Lib.hid (show Box (wr.drewN nq) _ _ _ from HRB.out)
          replace HB := Lib.hid (below_drewN HB.out nq)
          replace hsz : w.heap.size ≤ (wr.drewN nq).heap.size := hsz
          replace hFl : w.heap.size + 2 < (wr.drewN nq).heap.size := hFl
          replace hRl : w.heap.size < (wr.drewN nq).heap.size := hRl
          generalize wr.drewN nq = wr at HO HK HRB HB hsz hFl hRl ⊢
          have c0 := HRB.out.cell (j := 0) (u := .int .i64 0) rfl
          have c1 := HRB.out.cell (j := 1) (u := .slice none 0 0) rfl
          have c2 := HRB.out.cell (j := 2) (u := .int .i64 0) rfl
          have f0 := HRB.out.free 0
          have f1 := HRB.out.free 1
          have f2 := HRB.out.free 2
          go_wp2_with fail
          refine bodyPost_ret (v := .tuple #[.agg #[.int .i64 0, .slice none 0 0, .int .i64 0], .bool false]) (by simp [results, Try.results13, go_sem, *]) rfl (MadeC.no HR.out rfl ?_)
          first | exact below_set3 HB.out _ _ _ _ _ _ | exact HB.out | exact allocB _ _
        · have hsb2 : 1 ≤ nth ss k ∧ nth ss k ≤ 996 := by
            simp only [sigB, Bool.and_eq_true] at hsig
            exact inB_iff.1 hsig.2.2.1
          have hs3 := Lib.hid (show sigAt ks ss d k = true by simp [sigAt, hsig])
          clear hz
          go_wp2_with fail
          have hsq := fun m : Nat => quiet_same (s_SignCheck (nth ks k) d (nth ss k) (wr.drewN m))
          simp only [hsig] at hsq
          go_quiet ((go_at_call 58; exact hsq _))
          clear hsq hsig
          replace HO := Lib.hid (show OwnI (wr.drewN nq) _ _ _ from HO.out)
          replace HK := Lib.hid (show Box (wr.drewN nq) _ _ _ from HK.out)
          replace HRB := Lib.hid (show Box (wr.drewN nq) _ _ _ from HRB.out)
          replace HB := Lib.hid (below_drewN HB.out nq)
          replace hsz : w.heap.size ≤ (wr.drewN nq).heap.size := hsz
          replace hFl : w.heap.size + 2 < (wr.drewN nq).heap.size := hFl
          replace hRl : w.heap.size < (wr.drewN nq).heap.size := hRl
          generalize wr.drewN nq = wr at HO HK HRB HB hsz hFl hRl ⊢
          have q1 := HK.out.cell (j := 1) (u := .slice (some ⟨g, 0, none⟩) (signTo ss k).length cap) rfl
          have hl1 : (signTo ss k).length ≤ 10000000 := by omega
          go_wp2_with (at_builtin; refine appendInt (by rfl) _ _ (by rfl) wr w.heap.size _ (signTo ss k) (k : Int) (by rfl) HO.out (by simp [Act.eval]) hl1 hsz ?_; intro g1 cap1 w4 own4 hg4; have K4 := HK.out.grown hg4 (own_ne hgF); have R4 := HRB.out.grown hg4 (own_ne hgR); have B4 := below_own HB.out HO.out (Nat.le_refl _) hg4; have hne := Own.ne_box (show Own w4 w.heap.size 3 1 (.slice (some ⟨g1, 0, none⟩) ((signTo ss k).length + 1) cap1) ((signTo ss k).length + 1) ((signTo ss k ++ [(k : Int)]).map (Value.int .i64)) from (by have := own4; unfold OwnI at this; rw [List.length_append] at this; exact this)) K4 (by decide); have t4 := K4.cell (j := 1) (u := .slice (some ⟨g, 0, none⟩) (signTo ss k).length cap) rfl; have tf := K4.free 1; have t5 := K4.cell (j := 2) (u := .int .i64 (ssumTo ss k)) rfl; have tf2 := K4.free 2; have s4 := (H2.out.below B4).at_ hlt; have K5 := Lib.hid K4; have R5 := Lib.hid R4; have B5 := Lib.hid B4; have O5 := Lib.hid own4; clear K4 R4 B4 own4 hg4)
          obtain ⟨b3, off3, e3, hb3, hc3⟩ := s4
          simp only [Option.some.injEq, Addr.mk.injEq, and_true] at e3
          obtain ⟨rfl, rfl⟩ := e3
          have s4 := hc3 k hlt
          have hbn : b2 ≠ w.heap.size + 2 := by omega
          clear hc3
          go_wp2_with fail
          go_region
          all_goals
            go_wp2_with fail
            go_roundw
            case rel =>
              refine ⟨k + 1, g1, cap1, by omega, by go_num, ?_, ?_, ?_, ?_, allTo_step HALL.out hs3.out⟩
              · have hl2 : (signTo ss (k + 1)).length = (signTo ss k).length + 1 := by rw [hs1.out, List.length_append]; rfl
                have o6 : Own w4 w.heap.size 3 1 (.slice (some ⟨g1, 0, none⟩) ((signTo ss k).length + 1) cap1) ((signTo ss k).length + 1) ((signTo ss k ++ [(k : Int)]).map (Value.int .i64)) := by have := O5.out; unfold OwnI at this; rw [List.length_append] at this; exact this
                have := Own.setOther (F := w.heap.size + 2) (j := 2) (u := .int .i64 ((ssumTo ss k + nth ss k) % 997)) (Own.setOther (F := w.heap.size + 2) (j := 1) (u := .slice (some ⟨g1, 0, none⟩) ((signTo ss k).length + 1) cap1) o6 hne) hne
                unfold OwnI
                rw [hl2, hs1.out]
                exact this
              · have hl2 : (signTo ss (k + 1)).length = (signTo ss k).length + 1 := by rw [hs1.out, List.length_append]; rfl
                rw [hl2, hs2.out]
                have := (K5.out.set 1 (.slice (some ⟨g1, 0, none⟩) ((signTo ss k).length + 1) cap1)).set 2 (.int .i64 ((ssumTo ss k + nth ss k) % 997))
                exact this
              · have := (R5.out.other (g' := w.heap.size + 2) (by omega) 1 (.slice (some ⟨g1, 0, none⟩) ((signTo ss k).length + 1) cap1)).other (g' := w.heap.size + 2) (by omega) 2 (.int .i64 ((ssumTo ss k + nth ss k) % 997))
                exact this
              · have := below_set2 (F := w.heap.size + 2) B5.out (by omega) 1 2 (.slice (some ⟨g1, 0, none⟩) ((signTo ss k).length + 1) cap1) (.int .i64 ((ssumTo ss k + nth ss k) % 997))
                first | exact this | exact this.drew
            case measure => simp [intOf]; omega
    · have e : k = zs.length := by have := HL.out; omega
      subst e
      have q1 := HK.out.cell (j := 1) (u := .slice (some ⟨g, 0, none⟩) (signTo ss zs.length).length cap) rfl
      have hu := HO.out.up.2.1.ints
      have HU := Lib.hid hu
      have HZ := Lib.hid ((H0.out.below hbel).more hsz)
      have hsl : (signTo ss zs.length).length ≤ 1048576 := by omega
      clear hu hbel
      rcases hmk : makeB zs ks ss d with _ | _
      · have HR := Lib.hid hmk
        have hw : decide (weight zs (signTo ss zs.length) < quorum zs) = true := by rw [low_made2 HKB.out HL.out HDB.out HALL.out, hmk]; rfl
        clear hmk
        go_wp2_with fail
        refine (s_l1Weight _ _ _ _ _ _ _ _ HZ.out HU.out (keysB_valid HKB.out) (signTo_mem (Nat.le_refl _)) hsl).mono ?_
        rintro e w' ⟨rfl, rfl⟩
        go_wp2_with fail
        refine (s_l1Quorum _ _ _ _ _ HZ.out (keysB_valid HKB.out)).mono ?_
        rintro e w' ⟨rfl, rfl⟩
        have c0 := HRB.out.cell (j := 0) (u := .int .i64 0) rfl
        have c1 := HRB.out.cell (j := 1) (u := .slice none 0 0) rfl
        have c2 := HRB.out.cell (j := 2) (u := .int .i64 0) rfl
        have f0 := HRB.out.free 0
        have f1 := HRB.out.free 1
        have f2 := HRB.out.free 2
        go_wp2_with fail
        refine bodyPost_ret (v := .tuple #[.agg #[.int .i64 0, .slice none 0 0, .int .i64 0], .bool false]) (by simp [results, Try.results13, go_sem, *]) rfl (MadeC.no HR.out rfl ?_)
        first | exact below_set3 HB.out _ _ _ _ _ _ | exact HB.out | exact allocB _ _
      · have HR := Lib.hid hmk
        have hw : decide (weight zs (signTo ss zs.length) < quorum zs) = false := by rw [low_made2 HKB.out HL.out HDB.out HALL.out, hmk]; rfl
        clear hmk
        go_wp2_with fail
        refine (s_l1Weight _ _ _ _ _ _ _ _ HZ.out HU.out (keysB_valid HKB.out) (signTo_mem (Nat.le_refl _)) hsl).mono ?_
        rintro e w' ⟨rfl, rfl⟩
        go_wp2_with fail
        refine (s_l1Quorum _ _ _ _ _ HZ.out (keysB_valid HKB.out)).mono ?_
        rintro e w' ⟨rfl, rfl⟩
        have q0 := HK.out.cell (j := 0) (u := .int .i64 d) rfl
        have q2 := HK.out.cell (j := 2) (u := .int .i64 (ssumTo ss zs.length)) rfl
        have c0 := HRB.out.cell (j := 0) (u := .int .i64 0) rfl
        have c1 := HRB.out.cell (j := 1) (u := .slice none 0 0) rfl
        have c2 := HRB.out.cell (j := 2) (u := .int .i64 0) rfl
        have f0 := HRB.out.free 0
        have f1 := HRB.out.free 1
        have f2 := HRB.out.free 2
        have hne1 : w.heap.size + 2 ≠ w.heap.size := by omega
        go_wp2_with fail
        refine bodyPost_ret (v := .tuple #[.agg #[.int .i64 d, .slice (some ⟨g, 0, none⟩) (signTo ss zs.length).length cap, .int .i64 (ssumTo ss zs.length)], .bool true]) (by simp [results, Try.results13, go_sem, *]) rfl (MadeC.yes HR.out rfl ?_ ?_)
        · exact Own.setOther (Own.setOther (Own.setOther HO.out hgR) hgR) hgR
        · exact below_set3 HB.out _ _ _ _ _ _
end Go.Proofs.Ytohnodphlaoohaa
