/- Trees of digests: the program's root: a range over the levels. -/
import Derived.Test.YtdleibkkjnodlaaMerkR
import Derived.Test.YtdleibkkjnodlaaMerkI
namespace Go.Proofs.Ytdleibkkjnodlaa
open Go.RowKit Go.Shelf
set_option linter.unusedVariables false
attribute [local go_sem] Oper.semAt_some

set_option maxHeartbeats 4000000 in
theorem clone_ints (b off c : Nat) (xs : List Int) (w : World) (h : Ints w w.heap.size (some ⟨b, off, none⟩) xs) (hn : xs.length ≤ 1048576) :
    Calls Try.prog 80 #[.slice (some ⟨b, off, none⟩) xs.length c] w (MadeI w xs) := by
  have O1 := Lib.hid (OwnI.start (w := w) (base := w.heap.size) (Nat.le_refl _))
  have B1 := Lib.hid (allocB w (.cells #[] 3))
  have H := Lib.hid (h.carry B1.out)
  clear h
  have hnil := fun W : World => Lib.run_eql_slice_nil (P := Try.prog) W 24 3 (some ⟨b, off, none⟩) xs.length c 0 0 Try.underlying24
  go_enter Try.func80, Try.ntmps80
  go_wp2_with (at_builtin; refine appendInts (by rfl) _ _ (by rfl) _ w.heap.size _ [] (by rfl) O1.out _ _ _ _ xs (by rfl) rfl H.out (by simp; omega) (by simp) ?_; intro g1 cap1 w4 own4 hg4)
  have O4 := Lib.hid own4
  have B4 := Lib.hid (below_own B1.out O1.out (Nat.le_refl _) hg4)
  clear own4 hg4
  go_wp2_with fail
  go_ret
  have hu := O4.out.up
  rw [List.nil_append] at hu
  exact ⟨g1, cap1, ret_slice (by simp), hu.2.1, hu.2.2, B4.out⟩
set_option maxHeartbeats 1000000 in
theorem i_levels (A : Option Addr) (n c : Nat) (w : World) :
    Calls Try.prog 63 #[.slice A n c] w fun e w' => e = .returned (.func (.func 79) #[] #[.pointer (some ⟨w.heap.size, 0, none⟩)]) ∧ w.alloc (.cells #[.slice A n c] 24) = w' := by
  go_enter Try.func63, Try.ntmps63
  go_wp2
  go_ret
  exact ⟨rfl, rfl⟩
theorem gr_one' {w w1 : World} {g : Nat} (h : w.grownBy w1 (some g)) (j : Nat) (u : Value) : w.grownBy (w1.setCell ⟨g, j, none⟩ u) (some g) :=
  ⟨h.os, h.tape, h.output, by simpa [World.setCell] using h.size, fun i hi hne => (Below.heap_setCell w1 _ u i (by intro e; exact hne (by rw [e]))).trans (h.block i hi hne)⟩
/-- The boxes: the root found so far, the leaves. -/
structure Lv (w : World) (V : Value) (r : Int) (W : World) : Prop where
  br : Box W w.heap.size 3 #[.int .i64 r]
  bl : Box W (w.heap.size + 1) 24 #[V]
  be : Below w.heap.size w W
theorem IntsUp.putObj {W : World} {L l : Nat} {A : Option Addr} {zs : List Int} {o o' : Obj} (h : IntsUp W L A zs) (hl : W.heap[l]? = some o) (ho : o.isCells = false) : IntsUp (W.putObj l o') L A zs := fun hz => by
  obtain ⟨b, off, e, h1, h2, h3⟩ := h hz
  exact ⟨b, off, e, h1, by simpa using h2, fun j hj => cell_kept (h3 j hj) (grownBy_putObj' W l o') (fun r e => by cases e; exact ⟨o, hl, ho⟩)⟩
section
variable {w : World} {V : Value} {r : Int} {W : World}
theorem Lv.calm (h : Lv w V r W) {B l : Nat} {o o' : Obj} (hB : w.heap.size ≤ B) (hl : B ≤ l) (hg : W.heap[l]? = some o) (ho : o.isCells = false) : Lv w V r (W.putObj l o') :=
  ⟨h.br.putObj hg ho, h.bl.putObj hg ho, below_putObj h.be (Nat.le_refl _) (by omega)⟩
theorem Lv.root (h : Lv w V r W) (z : Int) : Lv w V z (W.setCell ⟨w.heap.size, 0, none⟩ (.int .i64 z)) :=
  ⟨h.br.set 0 _, h.bl.other (by omega) _ _, h.be.setCell (by show w.heap.size ≤ w.heap.size; omega) _⟩
theorem Lv.carry {W' : World} (h : Lv w V r W) (hb : Below W.heap.size W W') : Lv w V r W' := ⟨h.br.carry hb, h.bl.carry hb, next h.be hb⟩
theorem IntsUp.setOther {W : World} {L F : Nat} {A : Option Addr} {zs : List Int} {u : Value} (h : IntsUp W L A zs) (hF : F < L) : IntsUp (W.setCell ⟨F, 0, none⟩ u) L A zs := h.grown (gr_one' (gr_refl W F) 0 u) hF
end
/-- Before a round at the level v; behind it; behind the loop. -/
def LJ (w : World) (V : Value) (R : Int) (v : Value) (W : World) : Prop :=
  ∃ (A' : Option Addr) (c' : Nat) (ys : List Int) (r : Int), v = .slice A' ys.length c' ∧ ys.length ≤ 1048576 ∧ Lv w V r W ∧ IntsUp W (w.heap.size + 1) A' ys ∧ Reach R ys
def LJ' (w : World) (V : Value) (R : Int) (v : Value) (W : World) : Prop :=
  ∃ (A' : Option Addr) (c' : Nat) (ys : List Int), v = .slice A' ys.length c' ∧ ys.length ≤ 1048576 ∧ Lv w V (nth ys 0) W ∧ IntsUp W (w.heap.size + 1) A' ys ∧ Reach R ys
def LE (w : World) (V : Value) (R : Int) (W : World) : Prop := Lv w V R W
theorem LJ.calm {w : World} {V : Value} {R : Int} {B : Nat} (hB : w.heap.size ≤ B) (v : Value) : Calm B (LJ w V R v) := fun W l o o' hl hg ho ⟨A', c', ys, r, e, hn, h, hu, hr⟩ => ⟨A', c', ys, r, e, hn, h.calm hB hl hg ho, hu.putObj hg ho, hr⟩
theorem LJ'.calm {w : World} {V : Value} {R : Int} {B : Nat} (hB : w.heap.size ≤ B) (v : Value) : Calm B (LJ' w V R v) := fun W l o o' hl hg ho ⟨A', c', ys, e, hn, h, hu, hr⟩ => ⟨A', c', ys, e, hn, h.calm hB hl hg ho, hu.putObj hg ho, hr⟩
theorem LE.calm {w : World} {V : Value} {R : Int} {B : Nat} (hB : w.heap.size ≤ B) : Calm B (LE w V R) := fun W l o o' hl hg ho h => Lv.calm h hB hl hg ho
theorem keeps_below {W W' : World} (hb : Below W.heap.size W W') : KeepsOthers W W' :=
  KeepsOthers.of_grownBy (row := none) ⟨hb.os, hb.tape, hb.output, hb.size, fun i hi _ => hb.block i hi⟩ (fun j o e => by cases e)
set_option maxHeartbeats 4000000 in
theorem levels_iter (w : World) (b off c : Nat) (xs : List Int) (r0 : Int) (R : Int) (n : Nat) (hn : 1 ≤ n) (hx : xs.length ≤ 1048576) (hI : Ints w w.heap.size (some ⟨b, off, none⟩) xs) (hR : Reach R xs) :
    Iter Try.prog n 79 #[.pointer (some ⟨w.heap.size + 1, 0, none⟩)] (fun W => Lv w (.slice (some ⟨b, off, none⟩) xs.length c) r0 W) (LE w (.slice (some ⟨b, off, none⟩) xs.length c) R) (fun _ => False) (LJ w (.slice (some ⟨b, off, none⟩) xs.length c) R) (LJ' w (.slice (some ⟨b, off, none⟩) xs.length c) R) := by
  intro l Fr Fx hFr hFx hY W hF hJ
  refine callsIn_of_wp Try.func79 rfl trivial ?_ rfl
  simp only [Try.ntmps79, List.size_toArray, List.length_cons, List.length_nil, Nat.reduceAdd, Nat.reduceSub, Array.replicate_succ, Array.replicate_zero, List.push_toArray, List.append_toArray, List.nil_append, List.cons_append]
  have l0 := hJ.bl.cell (j := 0) (u := .slice (some ⟨b, off, none⟩) xs.length c) rfl
  have HI := Lib.hid ((hI.below hJ.be).more hJ.be.size)
  have HJ := Lib.hid hJ
  have hls := hJ.bl.lt
  have HR := Lib.hid hR
  have HF := Lib.hid hF
  clear hI hJ hR hF
  gi_wp2
  refine ⟨trivial, ?_⟩
  refine (callsIn_wide.2 (clone_ints _ _ _ xs _ HI.out hx)).mono ?_
  rintro e w1 ⟨g1, cap1, rfl, iu1, hc1, b1⟩
  have hf1 := hFr _ _ (keeps_below b1) HF.out
  have HF1 := Lib.hid hf1
  have HJ1 := Lib.hid (HJ.out.carry b1)
  have HU1 := Lib.hid (iu1.less (show w.heap.size + 1 ≤ W.heap.size by omega))
  clear hf1 b1 iu1 l0 HJ HI HF
  have hls1 := HJ1.out.bl.lt
  gi_wp2
  gi_loopw [3] (fun v wr => Fr wr ∧ ∃ (A' : Option Addr) (c' : Nat) (ys : List Int) (r : Int), v = .slice A' ys.length c' ∧ ys.length ≤ 1048576 ∧ Lv w (.slice (some ⟨b, off, none⟩) xs.length c) r wr ∧ IntsUp wr (w.heap.size + 1) A' ys ∧ Reach R ys) (fun v _ => match v with | .slice _ n _ => n | _ => 0)
  case atStart => exact ⟨HF1.out, _, cap1, xs, r0, rfl, hx, HJ1.out, HU1.out, HR.out⟩
  case round =>
    clear HF1 HJ1 HU1 HR hls hls1
    obtain ⟨hf, A', c', ys, r, rfl, hyn, hlv, hu, hr⟩ := hrel
    obtain ⟨fn, tmps, assign, body, hy, hRR⟩ := hY _ wr hf ⟨A', c', ys, r, rfl, hyn, hlv, hu, hr⟩
    have hy1 := hr.1
    have HRe := Lib.hid hr
    clear hlv hu hr hf
    gi_wp2
    refine hRR.mono ?_
    rintro e W2 (⟨rfl, hf2, A2, c2, zs, hv, hzn, hlv, hu, hr⟩ | ⟨rfl, hx2, hno⟩)
    · have hls2 := hlv.bl.lt
      have HF2 := Lib.hid hf2
      have HL2 := Lib.hid hlv
      have HU2 := Lib.hid hu
      have HR2 := Lib.hid hr
      have hz1 := hr.1
      obtain ⟨rfl, hlen, rfl⟩ : A' = A2 ∧ ys.length = zs.length ∧ c' = c2 := by injection hv with a b c; exact ⟨a, b, c⟩
      have HLen := Lib.hid hlen
      clear hv hf2 hlv hu hr hRR hy hlen
      by_cases hlt : 1 < ys.length
      · have hlu := up_len zs
        have HLU := Lib.hid hlu
        clear hlu
        gi_wp2
        refine ⟨trivial, ?_⟩
        have hcl : Calls Try.prog 81 #[.slice A' ys.length c'] W2 (MadeI W2 (up zs)) := by rw [HLen.out]; exact i_up _ _ zs _ HU2.out.ints hzn HR2.out.2.1
        refine (callsIn_wide.2 hcl).mono ?_
        clear hcl
        rintro e w3 ⟨g3, cap3, rfl, iu3, hc3, b3⟩
        have hf3 := hFr _ _ (keeps_below b3) HF2.out
        have HF3 := Lib.hid hf3
        have HL3 := Lib.hid (HL2.out.carry b3)
        have HU3 := Lib.hid (iu3.less (show w.heap.size + 1 ≤ W2.heap.size by omega))
        clear hf3 b3 iu3
        gi_wp2
        go_roundw
        case rel => exact ⟨HF3.out, _, cap3, up zs, _, rfl, by have := HLU.out; omega, HL3.out, HU3.out, HR2.out.up (by have := HLen.out; omega)⟩
        case measure => have := HLU.out; have := HLen.out; simp; omega
      · gi_wp2
        go_end0
        have e := HR2.out.fin (by have := HLen.out; omega)
        exact ⟨⟨_, rfl⟩, .inl ⟨HF2.out, by have h := HL2.out; rw [e] at h; exact h⟩⟩
    · exact hno.elim
set_option maxRecDepth 100000 in
set_option maxHeartbeats 4000000 in
theorem i_MerkleRoot (A : Option Addr) (c : Nat) (xs : List Int) (w : World) (h : Ints w w.heap.size A xs) (hn : xs.length ≤ 1048576) :
    Calls Try.prog 35 #[.slice A xs.length c] w fun e w' => e = .returned (.int .i64 (rootZ xs)) ∧ Below w.heap.size w w' := by
  rcases hl : leavesB xs with _ | _
  · rw [show rootZ xs = -1 by simp [rootZ, hl]]
    go_enter Try.func35, Try.ntmps35
    go_wp2_with fail
    refine (i_leaves _ _ xs _ h hn).mono ?_
    rw [hl]
    rintro e w' ⟨rfl, rfl⟩
    go_wp2_with fail
    go_ret
    exact ⟨rfl, Below.refl _ _⟩
  obtain ⟨hd, h1, h16⟩ := leavesB_iff.1 hl
  obtain ⟨b, off, rfl, hbb, _⟩ := h.at_ (k := 0) (by omega)
  obtain ⟨R, hR⟩ : ∃ R, rootOf xs = R := ⟨_, rfl⟩
  have hz : rootZ xs = R := by rw [rootZ, if_pos hl, hR]
  have HZ := Lib.hid hz
  have HR := Lib.hid (hR ▸ Reach.start h1 hd)
  have H := Lib.hid h
  have HLL := Lib.hid hl
  clear hz hR hd h
  have lv0 : Lv w (.slice (some ⟨b, off, none⟩) xs.length c) (-1) ((w.alloc (.cells #[.int .i64 (-1)] 3)).alloc (.cells #[.slice (some ⟨b, off, none⟩) xs.length c] 24)) := by
    refine ⟨(Box.new w _ _).carry (allocB _ _), ?_, allocB2 w _ _⟩
    have := Box.new (w.alloc (.cells #[.int .i64 (-1)] 3)) #[.slice (some ⟨b, off, none⟩) xs.length c] 24
    rw [World.size_alloc] at this
    exact this
  have L0 := Lib.hid lv0
  clear lv0
  refine (callsIn_wide (n := 3)).1 ?_
  refine callsIn_of_wp_marks Try.func35 rfl trivial ?_ rfl
  simp only [Try.ntmps35, List.size_toArray, List.length_cons, List.length_nil, Nat.reduceAdd, Nat.reduceSub, Array.replicate_succ, Array.replicate_zero, List.push_toArray, List.append_toArray, List.nil_append, List.cons_append]
  gi_wp2_with (first | (refine ⟨trivial, ?_⟩; gi_at_call 62; refine (callsIn_wide.2 (i_leaves _ _ xs _ H.out hn)).mono ?_; rw [hl]; rintro e w' ⟨rfl, rfl⟩) | (refine ⟨trivial, ?_⟩; gi_at_call 63; refine (callsIn_wide.2 (i_levels _ _ _ _)).mono ?_; rintro e w' ⟨rfl, rfl⟩))
  have hsz : w.heap.size ≤ ((w.alloc (.cells #[.int .i64 (-1)] 3)).alloc (.cells #[.slice (some ⟨b, off, none⟩) xs.length c] 24)).heap.size := by simp; omega
  generalize ((w.alloc (.cells #[.int .i64 (-1)] 3)).alloc (.cells #[.slice (some ⟨b, off, none⟩) xs.length c] 24)) = W0 at hsz L0 ⊢
  clear hl
  refine range_own (gf := 79) (lb := #[.pointer (some ⟨w.heap.size + 1, 0, none⟩)]) rfl (enters_of Try.func79 (by kernel_rfl) rfl) rfl (levels_iter w b off c xs (-1) R (3 - 1) (by omega) hn H.out HR.out)
    (LJ.calm hsz) (LJ'.calm hsz) (fun _ _ _ _ _ _ _ hh => hh) (LE.calm hsz) (fun o o' => (L0.out.carry (allocB _ o)).carry (allocB _ o')) ?round ?done ?stop
  case round =>
    rintro l v W W' K ⟨A1, c1, ys1, r1, rfl, -⟩ ⟨A2, c2, ys, r, hv, hyn, hlv, hu, hr⟩ hK
    have HK := Lib.hid hK
    clear hK
    gi_wp2
    refine HK.out _ ?_
    clear HK K W
    obtain ⟨rfl, hlen, rfl⟩ : A1 = A2 ∧ ys1.length = ys.length ∧ c1 = c2 := by injection hv with a b c; exact ⟨a, b, c⟩
    have hy1 := hr.1
    obtain ⟨g, o2, rfl, hge, hgl, hcc⟩ := hu (by intro e; subst e; simp at hy1)
    have hc0 := hcc 0 (by omega)
    rw [Nat.add_zero] at hc0
    have s0 := hlv.br.cell (j := 0) (u := .int .i64 r) rfl
    have f0 := hlv.br.free 0
    have hi1 : (0 : Int) < (ys1.length : Int) := by omega
    have HL := Lib.hid hlv
    have HU := Lib.hid hu
    have HRe := Lib.hid hr
    have HV := Lib.hid hv
    clear hlv hu hr hv hcc
    gi_wp2
    exact ⟨KeepsOthers.setCell _ _ _, some ⟨g, o2, none⟩, c1, ys, HV.out, hyn, HL.out.root _, HU.out.setOther (by omega), HRe.out⟩
  case done =>
    rintro D W hD hlv hK
    have s0 := hlv.br.cell (j := 0) (u := .int .i64 R) rfl
    have HL := Lib.hid hlv
    have KK := Lib.hid hK
    clear hlv hK
    gi_wp2
    have st2 := Lv.calm HL.out (B := w.heap.size) (o' := .deferred none) (Nat.le_refl _) (by omega) KK.out rfl
    refine ⟨by simp, .inl ⟨_, _, rfl, run_takeDeferred KK.out, ?_⟩⟩
    exact ⟨.int .i64 R, by simp [results, Try.results35, go_sem], ret_int HZ.out.symm, st2.be⟩
  case stop =>
    rintro D W hD hno hK
    exact hno.elim
end Go.Proofs.Ytdleibkkjnodlaa
