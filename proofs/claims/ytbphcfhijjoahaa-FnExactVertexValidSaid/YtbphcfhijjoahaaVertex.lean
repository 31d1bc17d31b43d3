/- Vertices: whether they are valid, each function by its contract. -/
import Derived.Test.YtbphcfhijjoahaaStrs2
import Derived.Test.YtbphcfhijjoahaaCmt3
namespace Go.Proofs.Ytbphcfhijjoahaa
open Go.RowKit
set_option linter.unusedVariables false

def vtxB (zs ps : List Int) (r a d : Int) : Bool := membersB zs ps && (inB r 0 30 && (inB a 0 ((zs.length : Int) - 1) && (digB d && (if r = 0 then decide (ps.length = 0) else decide (quorum zs ≤ weight zs ps)))))
theorem vtx_zero {zs ps : List Int} {r a d : Int} (hv : membersB zs ps = true) (h1 : inB r 0 30 = true) (h2 : inB a 0 ((zs.length : Int) - 1) = true) (h3 : digB d = true) (hr : r = 0) : vtxB zs ps r a d = decide (ps.length = 0) := by
  simp only [vtxB, hv, h1, h2, h3, Bool.true_and]; rw [if_pos hr]
theorem vtx_pos {zs ps : List Int} {r a d : Int} (hv : membersB zs ps = true) (h1 : inB r 0 30 = true) (h2 : inB a 0 ((zs.length : Int) - 1) = true) (h3 : digB d = true) (hr : ¬ r = 0) : vtxB zs ps r a d = decide (quorum zs ≤ weight zs ps) := by
  simp only [vtxB, hv, h1, h2, h3, Bool.true_and]; rw [if_neg hr]
set_option maxHeartbeats 2000000 in
theorem i_VertexValid (r a d : Int) (A A' : Option Addr) (c c' : Nat) (zs ps : List Int) (w : World) (h : Ints w w.heap.size A zs) (h' : Ints w w.heap.size A' ps) (hn : zs.length ≤ 1048576) (hm : ps.length ≤ 1048576) :
    Calls Try.prog 33 #[.slice A zs.length c, .agg #[.int .i64 r, .int .i64 a, .slice A' ps.length c', .int .i64 d]] w fun e w' => e = .returned (.bool (vtxB zs ps r a d)) ∧ Below w.heap.size w w' := by
  have BB := Lib.hid (allocB w (.cells #[.int .i64 r, .int .i64 a, .slice A' ps.length c', .int .i64 d] 58))
  have H := Lib.hid (h.carry BB.out)
  have H' := Lib.hid (h'.carry BB.out)
  clear h h'
  rcases hv : membersB zs ps with _ | _
  · go_enter Try.func33, Try.ntmps33
    go_wp2_with fail
    refine (i_MembersValid _ _ _ _ _ _ _ _ H.out H'.out hn hm).mono ?_
    rw [hv]
    rintro e w' ⟨rfl, rfl⟩
    go_wp2_with fail
    go_ret
    exact ⟨ret_bool (by simp [vtxB, hv]), BB.out⟩
  rcases h1 : inB r 0 30 with _ | _
  · go_enter Try.func33, Try.ntmps33
    go_wp2_with fail
    refine (i_MembersValid _ _ _ _ _ _ _ _ H.out H'.out hn hm).mono ?_
    rw [hv]
    rintro e w' ⟨rfl, rfl⟩
    go_wp2_with fail
    refine (i_isRound _ _).mono ?_
    rw [h1]
    rintro e w' ⟨rfl, rfl⟩
    go_wp2_with fail
    go_ret
    exact ⟨ret_bool (by simp [vtxB, hv, h1]), BB.out⟩
  rcases h2 : inB a 0 ((zs.length : Int) - 1) with _ | _
  · go_enter Try.func33, Try.ntmps33
    go_wp2_with fail
    refine (i_MembersValid _ _ _ _ _ _ _ _ H.out H'.out hn hm).mono ?_
    rw [hv]
    rintro e w' ⟨rfl, rfl⟩
    go_wp2_with fail
    refine (i_isRound _ _).mono ?_
    rw [h1]
    rintro e w' ⟨rfl, rfl⟩
    go_wp2_with fail
    refine (i_has _ _ _ _ _ hn).mono ?_
    rw [h2]
    rintro e w' ⟨rfl, rfl⟩
    go_wp2_with fail
    go_ret
    exact ⟨ret_bool (by simp [vtxB, hv, h1, h2]), BB.out⟩
  rcases h3 : digB d with _ | _
  · go_enter Try.func33, Try.ntmps33
    go_wp2_with fail
    refine (i_MembersValid _ _ _ _ _ _ _ _ H.out H'.out hn hm).mono ?_
    rw [hv]
    rintro e w' ⟨rfl, rfl⟩
    go_wp2_with fail
    refine (i_isRound _ _).mono ?_
    rw [h1]
    rintro e w' ⟨rfl, rfl⟩
    go_wp2_with fail
    refine (i_has _ _ _ _ _ hn).mono ?_
    rw [h2]
    rintro e w' ⟨rfl, rfl⟩
    go_wp2_with fail
    refine (i_isDigest _ _).mono ?_
    rw [h3]
    rintro e w' ⟨rfl, rfl⟩
    go_wp2_with fail
    go_ret
    exact ⟨ret_bool (by simp [vtxB, hv, h1, h2, h3]), BB.out⟩
  have hmm : validB zs = true ∧ memB zs.length ps = true := by simpa only [membersB, Bool.and_eq_true] using hv
  have HT := Lib.hid hmm
  clear hmm
  have hwb := weight_to HT.out.1 HT.out.2 (Nat.le_refl _)
  have htb := total_bd HT.out.1
  have hq : cQuorum zs = quorum zs := by simp [cQuorum, HT.out.1]
  have hwe : cWeight zs ps = weight zs ps := by simp [cWeight, hv]
  have HQ := Lib.hid hq
  have HW := Lib.hid hwe
  clear hq hwe
  by_cases hr0 : r = 0
  · have hb : (r == 0) = true := by simp [hr0]
    have HR := Lib.hid hr0
    clear hr0
    by_cases hp : ps.length = 0
    · have hb2 : ((ps.length : Int) == 0) = true := by simp [hp]
      have HP := Lib.hid hp
      clear hp
      go_enter Try.func33, Try.ntmps33
      go_wp2_with fail
      refine (i_MembersValid _ _ _ _ _ _ _ _ H.out H'.out hn hm).mono ?_
      rw [hv]
      rintro e w' ⟨rfl, rfl⟩
      go_wp2_with fail
      refine (i_isRound _ _).mono ?_
      rw [h1]
      rintro e w' ⟨rfl, rfl⟩
      go_wp2_with fail
      refine (i_has _ _ _ _ _ hn).mono ?_
      rw [h2]
      rintro e w' ⟨rfl, rfl⟩
      go_wp2_with fail
      refine (i_isDigest _ _).mono ?_
      rw [h3]
      rintro e w' ⟨rfl, rfl⟩
      go_wp2_with fail
      go_ret
      exact ⟨ret_bool (by rw [vtx_zero hv h1 h2 h3 HR.out, decide_eq_true HP.out]), BB.out⟩
    · have hb2 : ((ps.length : Int) == 0) = false := beq_eq_false_iff_ne.2 (by omega)
      have HP := Lib.hid hp
      clear hp
      go_enter Try.func33, Try.ntmps33
      go_wp2_with fail
      refine (i_MembersValid _ _ _ _ _ _ _ _ H.out H'.out hn hm).mono ?_
      rw [hv]
      rintro e w' ⟨rfl, rfl⟩
      go_wp2_with fail
      refine (i_isRound _ _).mono ?_
      rw [h1]
      rintro e w' ⟨rfl, rfl⟩
      go_wp2_with fail
      refine (i_has _ _ _ _ _ hn).mono ?_
      rw [h2]
      rintro e w' ⟨rfl, rfl⟩
      go_wp2_with fail
      refine (i_isDigest _ _).mono ?_
      rw [h3]
      rintro e w' ⟨rfl, rfl⟩
      go_wp2_with fail
      go_ret
      exact ⟨ret_bool (by rw [vtx_zero hv h1 h2 h3 HR.out, decide_eq_false HP.out]), BB.out⟩
  have hb : (r == 0) = false := by simp [hr0]
  have HR := Lib.hid hr0
  clear hr0
  by_cases hge : quorum zs ≤ weight zs ps
  · go_enter Try.func33, Try.ntmps33
    go_wp2_with fail
    refine (i_MembersValid _ _ _ _ _ _ _ _ H.out H'.out hn hm).mono ?_
    rw [hv]
    rintro e w' ⟨rfl, rfl⟩
    go_wp2_with fail
    refine (i_isRound _ _).mono ?_
    rw [h1]
    rintro e w' ⟨rfl, rfl⟩
    go_wp2_with fail
    refine (i_has _ _ _ _ _ hn).mono ?_
    rw [h2]
    rintro e w' ⟨rfl, rfl⟩
    go_wp2_with fail
    refine (i_isDigest _ _).mono ?_
    rw [h3]
    rintro e w' ⟨rfl, rfl⟩
    go_wp2_with fail
    refine (i_MembersWeight _ _ _ _ _ _ _ _ H.out H'.out hn hm).mono ?_
    rw [HW.out]
    rintro e w' ⟨rfl, rfl⟩
    go_wp2_with fail
    refine (i_CommitteeQuorum _ _ _ _ _ H.out hn).mono ?_
    rw [HQ.out]
    rintro e w' ⟨rfl, rfl⟩
    go_wp2_with fail
    go_ret
    exact ⟨ret_bool (by rw [vtx_pos hv h1 h2 h3 HR.out]; first | done | rfl | (simp; omega)), BB.out⟩
  · go_enter Try.func33, Try.ntmps33
    go_wp2_with fail
    refine (i_MembersValid _ _ _ _ _ _ _ _ H.out H'.out hn hm).mono ?_
    rw [hv]
    rintro e w' ⟨rfl, rfl⟩
    go_wp2_with fail
    refine (i_isRound _ _).mono ?_
    rw [h1]
    rintro e w' ⟨rfl, rfl⟩
    go_wp2_with fail
    refine (i_has _ _ _ _ _ hn).mono ?_
    rw [h2]
    rintro e w' ⟨rfl, rfl⟩
    go_wp2_with fail
    refine (i_isDigest _ _).mono ?_
    rw [h3]
    rintro e w' ⟨rfl, rfl⟩
    go_wp2_with fail
    refine (i_MembersWeight _ _ _ _ _ _ _ _ H.out H'.out hn hm).mono ?_
    rw [HW.out]
    rintro e w' ⟨rfl, rfl⟩
    go_wp2_with fail
    refine (i_CommitteeQuorum _ _ _ _ _ H.out hn).mono ?_
    rw [HQ.out]
    rintro e w' ⟨rfl, rfl⟩
    go_wp2_with fail
    go_ret
    exact ⟨ret_bool (by rw [vtx_pos hv h1 h2 h3 HR.out]; first | done | rfl | (simp; omega)), BB.out⟩
set_option maxHeartbeats 2000000 in
theorem s_l11Vertex (r a d : Int) (A A' : Option Addr) (c c' : Nat) (zs ps : List Int) (w : World) (h : Ints w w.heap.size A zs) (h' : Ints w w.heap.size A' ps) (hn : zs.length ≤ 1048576) (hm : ps.length ≤ 1048576) (hvz : validB zs = true) :
    Calls Try.prog 83 #[.slice A zs.length c, .agg #[.int .i64 r, .int .i64 a, .slice A' ps.length c', .int .i64 d]] w fun e w' => e = .returned (.bool (vtxB zs ps r a d)) ∧ Below w.heap.size w w' := by
  have BB := Lib.hid (allocB w (.cells #[.int .i64 r, .int .i64 a, .slice A' ps.length c', .int .i64 d] 58))
  have H := Lib.hid (h.carry BB.out)
  have H' := Lib.hid (h'.carry BB.out)
  clear h h'
  have hvm : membersB zs ps = memB zs.length ps := by simp [membersB, hvz]
  have HVM := Lib.hid hvm
  clear hvm
  rcases h1 : inB r 0 30 with _ | _
  · go_enter Try.func83, Try.ntmps83
    go_wp2_with fail
    refine (l6In_any _ _ _ _).mono ?_
    rw [h1]
    rintro e w' ⟨rfl, rfl⟩
    go_wp2_with fail
    go_ret
    exact ⟨ret_bool (by simp [vtxB, HVM.out, h1]), BB.out⟩
  rcases h2 : inB a 0 ((zs.length : Int) - 1) with _ | _
  · go_enter Try.func83, Try.ntmps83
    go_wp2_with fail
    refine (l6In_any _ _ _ _).mono ?_
    rw [h1]
    rintro e w' ⟨rfl, rfl⟩
    go_wp2_with fail
    refine (l6In_any _ _ _ _).mono ?_
    rw [h2]
    rintro e w' ⟨rfl, rfl⟩
    go_wp2_with fail
    go_ret
    exact ⟨ret_bool (by simp [vtxB, HVM.out, h1, h2]), BB.out⟩
  rcases hmb : memB zs.length ps with _ | _
  · go_enter Try.func83, Try.ntmps83
    go_wp2_with fail
    refine (l6In_any _ _ _ _).mono ?_
    rw [h1]
    rintro e w' ⟨rfl, rfl⟩
    go_wp2_with fail
    refine (l6In_any _ _ _ _).mono ?_
    rw [h2]
    rintro e w' ⟨rfl, rfl⟩
    go_wp2_with fail
    refine (s_l1Members _ _ _ _ _ _ _ _ H'.out hn hm).mono ?_
    rw [hmb]
    rintro e w2 ⟨rfl, b2⟩
    replace H := Lib.hid (H.out.carry (b2.below _))
    replace H' := Lib.hid (H'.out.carry (b2.below _))
    replace BB := Lib.hid (next BB.out (b2.below _))
    have x0 := keepc (b := w.heap.size) (off := 0) (v := .int .i64 r) (b2.below _) (by simp)
    have x1 := keepc (b := w.heap.size) (off := 1) (v := .int .i64 a) (b2.below _) (by simp)
    have x2 := keepc (b := w.heap.size) (off := 2) (v := .slice A' ps.length c') (b2.below _) (by simp)
    have x3 := keepc (b := w.heap.size) (off := 3) (v := .int .i64 d) (b2.below _) (by simp)
    clear b2
    go_wp2_with fail
    go_ret
    exact ⟨ret_bool (by simp [vtxB, HVM.out, h1, h2, hmb]), BB.out⟩
  rcases h3 : digB d with _ | _
  · go_enter Try.func83, Try.ntmps83
    go_wp2_with fail
    refine (l6In_any _ _ _ _).mono ?_
    rw [h1]
    rintro e w' ⟨rfl, rfl⟩
    go_wp2_with fail
    refine (l6In_any _ _ _ _).mono ?_
    rw [h2]
    rintro e w' ⟨rfl, rfl⟩
    go_wp2_with fail
    refine (s_l1Members _ _ _ _ _ _ _ _ H'.out hn hm).mono ?_
    rw [hmb]
    rintro e w2 ⟨rfl, b2⟩
    replace H := Lib.hid (H.out.carry (b2.below _))
    replace H' := Lib.hid (H'.out.carry (b2.below _))
    replace BB := Lib.hid (next BB.out (b2.below _))
    have x0 := keepc (b := w.heap.size) (off := 0) (v := .int .i64 r) (b2.below _) (by simp)
    have x1 := keepc (b := w.heap.size) (off := 1) (v := .int .i64 a) (b2.below _) (by simp)
    have x2 := keepc (b := w.heap.size) (off := 2) (v := .slice A' ps.length c') (b2.below _) (by simp)
    have x3 := keepc (b := w.heap.size) (off := 3) (v := .int .i64 d) (b2.below _) (by simp)
    clear b2
    go_wp2_with fail
    refine (s_l2Digest _ _).mono ?_
    rw [h3]
    rintro e w' ⟨rfl, rfl⟩
    go_wp2_with fail
    go_ret
    exact ⟨ret_bool (by simp [vtxB, HVM.out, h1, h2, hmb, h3]), BB.out⟩
  have hv : membersB zs ps = true := by rw [HVM.out, hmb]
  have HT := Lib.hid (And.intro hvz hmb)
  have hwb := weight_to HT.out.1 HT.out.2 (Nat.le_refl _)
  have htb := total_bd HT.out.1
  by_cases hr0 : r = 0
  · have hb : (r == 0) = true := by simp [hr0]
    have HR := Lib.hid hr0
    clear hr0
    by_cases hp : ps.length = 0
    · have hb2 : ((ps.length : Int) == 0) = true := by simp [hp]
      have HP := Lib.hid hp
      clear hp
      go_enter Try.func83, Try.ntmps83
      go_wp2_with fail
      refine (l6In_any _ _ _ _).mono ?_
      rw [h1]
      rintro e w' ⟨rfl, rfl⟩
      go_wp2_with fail
      refine (l6In_any _ _ _ _).mono ?_
      rw [h2]
      rintro e w' ⟨rfl, rfl⟩
      go_wp2_with fail
      refine (s_l1Members _ _ _ _ _ _ _ _ H'.out hn hm).mono ?_
      rw [hmb]
      rintro e w2 ⟨rfl, b2⟩
      replace H := Lib.hid (H.out.carry (b2.below _))
      replace H' := Lib.hid (H'.out.carry (b2.below _))
      replace BB := Lib.hid (next BB.out (b2.below _))
      have x0 := keepc (b := w.heap.size) (off := 0) (v := .int .i64 r) (b2.below _) (by simp)
      have x1 := keepc (b := w.heap.size) (off := 1) (v := .int .i64 a) (b2.below _) (by simp)
      have x2 := keepc (b := w.heap.size) (off := 2) (v := .slice A' ps.length c') (b2.below _) (by simp)
      have x3 := keepc (b := w.heap.size) (off := 3) (v := .int .i64 d) (b2.below _) (by simp)
      clear b2
      go_wp2_with fail
      refine (s_l2Digest _ _).mono ?_
      rw [h3]
      rintro e w' ⟨rfl, rfl⟩
      go_wp2_with fail
      go_ret
      exact ⟨ret_bool (by rw [vtx_zero hv h1 h2 h3 HR.out, decide_eq_true HP.out]), BB.out⟩
    · have hb2 : ((ps.length : Int) == 0) = false := beq_eq_false_iff_ne.2 (by omega)
      have HP := Lib.hid hp
      clear hp
      go_enter Try.func83, Try.ntmps83
      go_wp2_with fail
      refine (l6In_any _ _ _ _).mono ?_
      rw [h1]
      rintro e w' ⟨rfl, rfl⟩
      go_wp2_with fail
      refine (l6In_any _ _ _ _).mono ?_
      rw [h2]
      rintro e w' ⟨rfl, rfl⟩
      go_wp2_with fail
      refine (s_l1Members _ _ _ _ _ _ _ _ H'.out hn hm).mono ?_
      rw [hmb]
      rintro e w2 ⟨rfl, b2⟩
      replace H := Lib.hid (H.out.carry (b2.below _))
      replace H' := Lib.hid (H'.out.carry (b2.below _))
      replace BB := Lib.hid (next BB.out (b2.below _))
      have x0 := keepc (b := w.heap.size) (off := 0) (v := .int .i64 r) (b2.below _) (by simp)
      have x1 := keepc (b := w.heap.size) (off := 1) (v := .int .i64 a) (b2.below _) (by simp)
      have x2 := keepc (b := w.heap.size) (off := 2) (v := .slice A' ps.length c') (b2.below _) (by simp)
      have x3 := keepc (b := w.heap.size) (off := 3) (v := .int .i64 d) (b2.below _) (by simp)
      clear b2
      go_wp2_with fail
      refine (s_l2Digest _ _).mono ?_
      rw [h3]
      rintro e w' ⟨rfl, rfl⟩
      go_wp2_with fail
      go_ret
      exact ⟨ret_bool (by rw [vtx_zero hv h1 h2 h3 HR.out, decide_eq_false HP.out]), BB.out⟩
  have hb : (r == 0) = false := by simp [hr0]
  have HR := Lib.hid hr0
  clear hr0
  by_cases hge : quorum zs ≤ weight zs ps
  · go_enter Try.func83, Try.ntmps83
    go_wp2_with fail
    refine (l6In_any _ _ _ _).mono ?_
    rw [h1]
    rintro e w' ⟨rfl, rfl⟩
    go_wp2_with fail
    refine (l6In_any _ _ _ _).mono ?_
    rw [h2]
    rintro e w' ⟨rfl, rfl⟩
    go_wp2_with fail
    refine (s_l1Members _ _ _ _ _ _ _ _ H'.out hn hm).mono ?_
    rw [hmb]
    rintro e w2 ⟨rfl, b2⟩
    replace H := Lib.hid (H.out.carry (b2.below _))
    replace H' := Lib.hid (H'.out.carry (b2.below _))
    replace BB := Lib.hid (next BB.out (b2.below _))
    have x0 := keepc (b := w.heap.size) (off := 0) (v := .int .i64 r) (b2.below _) (by simp)
    have x1 := keepc (b := w.heap.size) (off := 1) (v := .int .i64 a) (b2.below _) (by simp)
    have x2 := keepc (b := w.heap.size) (off := 2) (v := .slice A' ps.length c') (b2.below _) (by simp)
    have x3 := keepc (b := w.heap.size) (off := 3) (v := .int .i64 d) (b2.below _) (by simp)
    clear b2
    go_wp2_with fail
    refine (s_l2Digest _ _).mono ?_
    rw [h3]
    rintro e w' ⟨rfl, rfl⟩
    go_wp2_with fail
    refine (s_l1Weight _ _ _ _ _ _ _ _ H.out H'.out HT.out.1 HT.out.2 hm).mono ?_
    rintro e w' ⟨rfl, rfl⟩
    go_wp2_with fail
    refine (s_l1Quorum _ _ _ _ _ H.out HT.out.1).mono ?_
    rintro e w' ⟨rfl, rfl⟩
    go_wp2_with fail
    go_ret
    exact ⟨ret_bool (by rw [vtx_pos hv h1 h2 h3 HR.out]; first | done | rfl | (simp; omega)), BB.out⟩
  · go_enter Try.func83, Try.ntmps83
    go_wp2_with fail
    refine (l6In_any _ _ _ _).mono ?_
    rw [h1]
    rintro e w' ⟨rfl, rfl⟩
    go_wp2_with fail
    refine (l6In_any _ _ _ _).mono ?_
    rw [h2]
    rintro e w' ⟨rfl, rfl⟩
    go_wp2_with fail
    refine (s_l1Members _ _ _ _ _ _ _ _ H'.out hn hm).mono ?_
    rw [hmb]
    rintro e w2 ⟨rfl, b2⟩
    replace H := Lib.hid (H.out.carry (b2.below _))
    replace H' := Lib.hid (H'.out.carry (b2.below _))
    replace BB := Lib.hid (next BB.out (b2.below _))
    have x0 := keepc (b := w.heap.size) (off := 0) (v := .int .i64 r) (b2.below _) (by simp)
    have x1 := keepc (b := w.heap.size) (off := 1) (v := .int .i64 a) (b2.below _) (by simp)
    have x2 := keepc (b := w.heap.size) (off := 2) (v := .slice A' ps.length c') (b2.below _) (by simp)
    have x3 := keepc (b := w.heap.size) (off := 3) (v := .int .i64 d) (b2.below _) (by simp)
    clear b2
    go_wp2_with fail
    refine (s_l2Digest _ _).mono ?_
    rw [h3]
    rintro e w' ⟨rfl, rfl⟩
    go_wp2_with fail
    refine (s_l1Weight _ _ _ _ _ _ _ _ H.out H'.out HT.out.1 HT.out.2 hm).mono ?_
    rintro e w' ⟨rfl, rfl⟩
    go_wp2_with fail
    refine (s_l1Quorum _ _ _ _ _ H.out HT.out.1).mono ?_
    rintro e w' ⟨rfl, rfl⟩
    go_wp2_with fail
    go_ret
    exact ⟨ret_bool (by rw [vtx_pos hv h1 h2 h3 HR.out]; first | done | rfl | (simp; omega)), BB.out⟩
set_option maxHeartbeats 2000000 in
theorem s_VertexValid (r a d : Int) (A A' : Option Addr) (c c' : Nat) (zs ps : List Int) (w : World) (h : Ints w w.heap.size A zs) (h' : Ints w w.heap.size A' ps) (hn : zs.length ≤ 1048576) (hm : ps.length ≤ 1048576) :
    Calls Try.prog 31 #[.slice A zs.length c, .agg #[.int .i64 r, .int .i64 a, .slice A' ps.length c', .int .i64 d]] w fun e w' => e = .returned (.bool (vtxB zs ps r a d)) ∧ Below w.heap.size w w' := by
  have BB := Lib.hid (allocB w (.cells #[.int .i64 r, .int .i64 a, .slice A' ps.length c', .int .i64 d] 58))
  have H := Lib.hid (h.carry BB.out)
  have H' := Lib.hid (h'.carry BB.out)
  clear h h'
  rcases hv : validB zs with _ | _
  · go_enter Try.func31, Try.ntmps31
    go_wp2_with fail
    refine (s_CommitteeValid _ _ _ _ _ H.out hn).mono ?_
    rw [hv]
    rintro e w' ⟨rfl, rfl⟩
    go_wp2_with fail
    go_ret
    exact ⟨ret_bool (by simp [vtxB, membersB, hv]), BB.out⟩
  go_enter Try.func31, Try.ntmps31
  go_wp2_with fail
  refine (s_CommitteeValid _ _ _ _ _ H.out hn).mono ?_
  rw [hv]
  rintro e w' ⟨rfl, rfl⟩
  go_wp2_with fail
  refine (s_l11Vertex r a d _ _ _ _ zs ps _ H.out H'.out hn hm hv).mono ?_
  rintro e w2 ⟨rfl, b2⟩
  replace H := Lib.hid (H.out.carry b2)
  replace H' := Lib.hid (H'.out.carry b2)
  replace BB := Lib.hid (next BB.out b2)
  have x0 := keepc (b := w.heap.size) (off := 0) (v := .int .i64 r) b2 (by simp)
  have x1 := keepc (b := w.heap.size) (off := 1) (v := .int .i64 a) b2 (by simp)
  have x2 := keepc (b := w.heap.size) (off := 2) (v := .slice A' ps.length c') b2 (by simp)
  have x3 := keepc (b := w.heap.size) (off := 3) (v := .int .i64 d) b2 (by simp)
  clear b2
  go_wp2_with fail
  go_ret
  exact ⟨ret_bool (by rfl), BB.out⟩
end Go.Proofs.Ytbphcfhijjoahaa
