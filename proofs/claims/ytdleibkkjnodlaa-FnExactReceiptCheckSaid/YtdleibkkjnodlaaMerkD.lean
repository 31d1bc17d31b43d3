/- Proofs in trees of digests: the program's MerkleCheck where the proof is one of digests. -/
import Derived.Test.YtdleibkkjnodlaaMerkC
import Derived.Shelf.RegionOpen
namespace Go.Proofs.Ytdleibkkjnodlaa
open Go.RowKit Go.Shelf
set_option linter.unusedVariables false
attribute [local go_sem] Oper.semAt_some

/-- The world is as it was (a word that the walk does not look into). -/
def Eqw (a b : World) : Prop := a = b
theorem Eqw.refl (a : World) : Eqw a a := rfl
theorem Eqw.out {a b : World} (h : Eqw a b) : a = b := h
section
variable {w : World} {A : Option Addr} {c : Nat} {ps : List Int} {R : Option (Int × List Int)} {B : Nat}
theorem WJ.calm (hB : w.heap.size ≤ B) (v : Value) : Calm B (WJ w A c ps R v) := fun W l o o' hl hg ho ⟨s, k, u, m, e, h, r⟩ => ⟨s, k, u, m, e, h.calm hB hl hg ho, r⟩
theorem WJ'.calm (hB : w.heap.size ≤ B) (v : Value) : Calm B (WJ' w A c ps R v) := fun W l o o' hl hg ho ⟨s, k, u, m, e, h1, h2, h, r⟩ => ⟨s, k, u, m, e, h1, h2, h.calm hB hl hg ho, r⟩
theorem WE.calm (hB : w.heap.size ≤ B) : Calm B (WE w A c ps R) := fun W l o o' hl hg ho ⟨k, u, m, h, r⟩ => ⟨k, u, m, h.calm hB hl hg ho, r⟩
theorem WX.calm (hB : w.heap.size ≤ B) : Calm B (WX w A c ps R) := fun W l o o' hl hg ho ⟨k, u, s, m, h, r⟩ => ⟨k, u, s, m, h.calm hB hl hg ho, r⟩
theorem St.alloc {n : Nat} {r : Bool} {k m u s : Int} {W : World} (h : St w A n c r k m u s W) (o : Obj) : St w A n c r k m u s (W.alloc o) :=
  have b := allocB W o
  ⟨h.bi.carry b, h.bp.carry b, h.br.carry b, h.bn.carry b, h.bu.carry b, h.bs.carry b, h.be.alloc h.be.size _⟩
end
/-- A round that used a number of the proof. -/
theorem close_used {w W : World} {A : Option Addr} {c : Nat} {ps : List Int} {R : Option (Int × List Int)} {s k u : Nat} {m m' : Int} (h1 : 1 < s) (hs16 : s ≤ 16) (st : St w A ps.length c false (k : Int) m (u : Int) (s : Int) W) (hu : u < ps.length) (hw : Walk R ((s + 1) / 2) (k / 2) m' (ps.drop (u + 1))) :
    KeepsOthers W (((W.setCell ⟨w.heap.size + 3, 0, none⟩ (.int .i64 m')).setCell ⟨w.heap.size + 4, 0, none⟩ (.int .i64 ((u : Int) + 1))).setCell ⟨w.heap.size, 0, none⟩ (.int .i64 ((k : Int) / 2))).drew ∧
      WJ' w A c ps R (.int .i64 (s : Int)) (((W.setCell ⟨w.heap.size + 3, 0, none⟩ (.int .i64 m')).setCell ⟨w.heap.size + 4, 0, none⟩ (.int .i64 ((u : Int) + 1))).setCell ⟨w.heap.size, 0, none⟩ (.int .i64 ((k : Int) / 2))).drew := by
  refine ⟨(((KeepsOthers.setCell _ _ _).trans (KeepsOthers.setCell _ _ _)).trans (KeepsOthers.setCell _ _ _)).trans (KeepsOthers.drew _), s, k / 2, u + 1, m', rfl, by omega, hs16, ?_, by omega, fun _ => hw, fun h => by omega⟩
  have := (((st.node m').used ((u : Int) + 1)).index ((k : Int) / 2)).drew
  have e1 : ((k / 2 : Nat) : Int) = (k : Int) / 2 := by omega
  have e2 : ((u + 1 : Nat) : Int) = (u : Int) + 1 := by omega
  rw [e1, e2]
  exact this
theorem close_skip {w W : World} {A : Option Addr} {c : Nat} {ps : List Int} {R : Option (Int × List Int)} {s k u : Nat} {m : Int} (h1 : 1 ≤ s) (hs16 : s ≤ 16) (st : St w A ps.length c false (k : Int) m (u : Int) (s : Int) W) (hu : u ≤ ps.length) (hw : Walk R s k m (ps.drop u)) (hb : ¬ sib k < s) :
    KeepsOthers W (W.setCell ⟨w.heap.size, 0, none⟩ (.int .i64 ((k : Int) / 2))) ∧ WJ' w A c ps R (.int .i64 (s : Int)) (W.setCell ⟨w.heap.size, 0, none⟩ (.int .i64 ((k : Int) / 2))) := by
  refine ⟨KeepsOthers.setCell _ _ _, s, k / 2, u, m, rfl, h1, hs16, ?_, hu, fun h => hw.skip h hb, fun h => hw.fin (by omega)⟩
  have := st.index ((k : Int) / 2)
  have e1 : ((k / 2 : Nat) : Int) = (k : Int) / 2 := by omega
  rw [e1]
  exact this
theorem sib_one {k s : Nat} (h : k < s) (hb : sib k < s) : 1 < s := by unfold sib at hb; split at hb <;> omega
theorem drop_cons {ps : List Int} {u : Nat} (h : u < ps.length) : ps.drop u = nth ps u :: ps.drop (u + 1) := by rw [nth_eq h]; exact List.drop_eq_getElem_cons h
theorem St.start (w : World) (A : Option Addr) (n c : Nat) (k m s : Int) : St w A n c false k m 0 s ((((((w.alloc (.cells #[.int .i64 k] 3)).alloc (.cells #[.slice A n c] 24)).alloc (.cells #[.bool false] 4)).alloc (.cells #[.int .i64 m] 3)).alloc (.cells #[.int .i64 0] 3)).alloc (.cells #[.int .i64 s] 3)) := by
  refine ⟨?_, ?_, ?_, ?_, ?_, ?_, ?_⟩
  · exact (((((Box.new w _ _).carry (allocB _ _)).carry (allocB _ _)).carry (allocB _ _)).carry (allocB _ _)).carry (allocB _ _)
  · have := ((((Box.new (w.alloc (.cells #[.int .i64 k] 3)) #[.slice A n c] 24).carry (allocB _ (.cells #[.bool false] 4))).carry (allocB _ (.cells #[.int .i64 m] 3))).carry (allocB _ (.cells #[.int .i64 0] 3))).carry (allocB _ (.cells #[.int .i64 s] 3))
    rw [World.size_alloc] at this
    exact this
  · have := (((Box.new ((w.alloc (.cells #[.int .i64 k] 3)).alloc (.cells #[.slice A n c] 24)) #[.bool false] 4).carry (allocB _ (.cells #[.int .i64 m] 3))).carry (allocB _ (.cells #[.int .i64 0] 3))).carry (allocB _ (.cells #[.int .i64 s] 3))
    rw [World.size_alloc, World.size_alloc] at this
    exact this
  · have := ((Box.new (((w.alloc (.cells #[.int .i64 k] 3)).alloc (.cells #[.slice A n c] 24)).alloc (.cells #[.bool false] 4)) #[.int .i64 m] 3).carry (allocB _ (.cells #[.int .i64 0] 3))).carry (allocB _ (.cells #[.int .i64 s] 3))
    rw [World.size_alloc, World.size_alloc, World.size_alloc] at this
    exact this
  · have := (Box.new ((((w.alloc (.cells #[.int .i64 k] 3)).alloc (.cells #[.slice A n c] 24)).alloc (.cells #[.bool false] 4)).alloc (.cells #[.int .i64 m] 3)) #[.int .i64 0] 3).carry (allocB _ (.cells #[.int .i64 s] 3))
    rw [World.size_alloc, World.size_alloc, World.size_alloc, World.size_alloc] at this
    exact this
  · have := Box.new (((((w.alloc (.cells #[.int .i64 k] 3)).alloc (.cells #[.slice A n c] 24)).alloc (.cells #[.bool false] 4)).alloc (.cells #[.int .i64 m] 3)).alloc (.cells #[.int .i64 0] 3)) #[.int .i64 s] 3
    rw [World.size_alloc, World.size_alloc, World.size_alloc, World.size_alloc, World.size_alloc] at this
    exact this
  · exact (((allocB3 w _ _ _).alloc (by simp; omega) _).alloc (by simp; omega) _).alloc (by simp; omega) _
set_option maxRecDepth 100000 in
set_option maxHeartbeats 8000000 in
theorem i_MerkleCheck_ok (root size i leaf : Int) (A : Option Addr) (c : Nat) (ps : List Int) (w : World) (h : Ints w w.heap.size A ps) (hn : ps.length ≤ 1048576) (h1 : inB size 1 16 = true) (h2 : inB i 0 (size - 1) = true) (h3 : digB leaf = true) (hb : digsB ps = true) :
    Calls Try.prog 44 #[.int .i64 root, .int .i64 size, .int .i64 i, .int .i64 leaf, .slice A ps.length c] w fun e w' => e = .returned (.bool (checkB root size i leaf ps)) ∧ Below w.heap.size w w' := by
  have B1 := Lib.hid (allocB3 w (.cells #[.int .i64 i] 3) (.cells #[.slice A ps.length c] 24) (.cells #[.bool false] 4))
  have H := Lib.hid (h.below (B1.out))
  have g1 := inB_iff.1 h1
  have g2 := inB_iff.1 h2
  have HB := Lib.hid hb
  obtain ⟨sz, rfl⟩ : ∃ m : Nat, size = (m : Int) := ⟨size.toNat, by omega⟩
  obtain ⟨k0, rfl⟩ : ∃ m : Nat, i = (m : Int) := ⟨i.toNat, by omega⟩
  obtain ⟨R, hR⟩ : ∃ R, mck sz sz k0 leaf ps = R := ⟨_, rfl⟩
  have hW : Walk R sz k0 leaf ps := hR ▸ Walk.start (by omega) (by omega) (by omega) h3
  have hfin : checkB root sz k0 leaf ps = mfin root R := by simp [checkB, h1, h2, h3, hR]
  have HF := Lib.hid hfin
  have HW := Lib.hid hW
  have HD := Lib.hid h3
  have H0 := Lib.hid h
  have d1 : decide ((sz : Int) < 1) = false := by simp; omega
  have d2 : decide ((16 : Int) < (sz : Int)) = false := by simp; omega
  have d4 : decide (sz ≤ k0) = false := by simp; omega
  have d3 : decide ((k0 : Int) < 0) = false := by simp
  clear h hb h1 h2 hfin hW hR
  refine (callsIn_wide (n := 3)).1 ?_
  refine callsIn_of_wp_marks Try.func44 rfl trivial ?_ rfl
  simp only [Try.ntmps44, List.size_toArray, List.length_cons, List.length_nil, Nat.reduceAdd, Nat.reduceSub, Array.replicate_succ, Array.replicate_zero, List.push_toArray, List.append_toArray, List.nil_append, List.cons_append]
  gi_wp2_with (refine ⟨trivial, ?_⟩; gi_at_call 69; refine (callsIn_wide.2 (i_isDigest _ _)).mono ?_; rw [h3]; rintro e w' ⟨rfl, rfl⟩)
  clear h3
  gi_loopw [38] (fun j wr => ∃ k : Nat, k ≤ ps.length ∧ j = .int .i64 k ∧ Eqw (((w.alloc (.cells #[.int .i64 (k0 : Int)] 3)).alloc (.cells #[.slice A ps.length c] 24)).alloc (.cells #[.bool false] 4)) wr) (fun j _ => ps.length - (intOf j).toNat)
  case atStart => exact ⟨0, Nat.zero_le _, rfl, Eqw.refl _⟩
  case round =>
    obtain ⟨k, hk, rfl, hw⟩ := hrel
    obtain rfl := Eqw.out hw
    clear hw
    by_cases hlt : k < ps.length
    · obtain ⟨b, off, rfl, hbb, hc⟩ := H.out.at_ hlt
      have hck := hc k hlt
      have hd := digsB_at HB.out hlt
      clear hc
      gi_wp2_with (refine ⟨trivial, ?_⟩; gi_at_call 69; refine (callsIn_wide.2 (i_isDigest _ _)).mono ?_; rw [hd]; rintro e w' ⟨rfl, rfl⟩)
      go_roundw
      case rel => exact ⟨k + 1, by omega, by go_num, Eqw.refl _⟩
      case measure => simp [intOf]; omega
    · gi_wp2_with (refine ⟨trivial, ?_⟩; gi_at_call 70; refine (callsIn_wide.2 (i_widths _ _)).mono ?_; rintro e w' ⟨rfl, rfl⟩)
      clear d1 d2 d3 d4
      have hS0 := St.start w A ps.length c (k0 : Int) leaf (sz : Int)
      generalize ((((((w.alloc (.cells #[.int .i64 (k0 : Int)] 3)).alloc (.cells #[.slice A ps.length c] 24)).alloc (.cells #[.bool false] 4)).alloc (.cells #[.int .i64 leaf] 3)).alloc (.cells #[.int .i64 0] 3)).alloc (.cells #[.int .i64 (sz : Int)] 3)) = W0 at hS0 ⊢
      have hsz := hS0.be.size
      have S0 := Lib.hid hS0
      clear hS0
      refine range_own (gf := 82) (lb := #[.pointer (some ⟨w.heap.size + 5, 0, none⟩)]) rfl (enters_of Try.func82 (by kernel_rfl) rfl) rfl (widths_iter w A c ps R (3 - 1) sz (by omega))
        (WJ.calm hsz) (WJ'.calm hsz) (WX.calm hsz) (WE.calm hsz) (fun o o' => ⟨sz, k0, 0, leaf, rfl, (S0.out.alloc o).alloc o', Nat.zero_le _, HW.out⟩) ?round ?done ?stop
      case round =>
        rintro l v W W' K ⟨s, k, u, m, rfl, hst1, hu1, hw1⟩ ⟨s', k', u', m', hv, hst, hu, hw⟩ hK
        clear hst1 hu1 hw1 u m k
        obtain rfl : s = s' := by injection hv with _ hv; omega
        clear hv
        have HK := Lib.hid hK
        clear hK
        gi_wp2
        refine HK.out _ ?_
        clear HK K W
        have hs1 := hw.1
        have hs16 := hw.2.1
        have hks := hw.2.2.1
        have hm9 := inB_iff.1 hw.2.2.2.1
        have hx := xor_one (k := k') (by omega)
        have i0 := hst.bi.cell (j := 0) (u := .int .i64 (k' : Int)) rfl
        have p0 := hst.bp.cell (j := 0) (u := .slice A ps.length c) rfl
        have n0 := hst.bn.cell (j := 0) (u := .int .i64 m') rfl
        have v0 := hst.bu.cell (j := 0) (u := .int .i64 (u' : Int)) rfl
        have if0 := hst.bi.free 0
        have rf0 := hst.br.free 0
        have nf0 := hst.bn.free 0
        have vf0 := hst.bu.free 0
        have r0 := hst.br.cell (j := 0) (u := .bool false) rfl
        have ST := Lib.hid hst
        have HW2 := Lib.hid hw
        clear hst hw
        by_cases hb : sib k' < s
        · have HB2 := Lib.hid hb
          by_cases huL : u' = ps.length
          · subst huL
            gi_wp2
            have hn0 : R = none := by have := HW2.out; rw [List.drop_length] at this; exact this.none (sib_one hks HB2.out) HB2.out
            exact ⟨KeepsOthers.setCell _ _ _, k', ps.length, s, m', ST.out.res false, hn0⟩
          · have huL' : ((u' : Int) == (ps.length : Int)) = false := by simp; omega
            have hul : u' < ps.length := by omega
            obtain ⟨b, off, rfl, hbb, hc⟩ := (H0.out.below ST.out.be).at_ hul
            have hcu := hc u' hul
            clear hc huL
            by_cases hp : k' % 2 = 0
            · have hp2 : (k' : Int) % 2 = 0 := by omega
              have hdg := digsB_at HB.out hul
              have hpd := Lib.hid hdg
              have hmx : Try.prog.follows .mixedOrders = true := by kernel_rfl
              have hi0 : (0 : Int) ≤ (u' : Int) := by omega
              have hi1 : (u' : Int) < (ps.length : Int) := by omega
              have HP := Lib.hid hp
              clear hdg hp
              gi_wp2
              gi_region_with_o (refine ⟨trivial, ?_⟩; gi_at_call 61; refine (CallsIn.inRound l (callsIn_wide.2 (i_HashPair _ _ _ HW2.out.2.2.2.1 hpd.out))).mono ?_; rintro e w' ⟨rfl, rfl⟩)
              all_goals gi_wp2
              all_goals exact close_used (sib_one hks HB2.out) hs16 ST.out hul (by have := HW2.out; rw [drop_cons hul] at this; exact this.even (sib_one hks HB2.out) HB2.out hpd.out HP.out)
            · have hp2 : (k' : Int) % 2 = 1 := by omega
              have hdg := digsB_at HB.out hul
              have hpd := Lib.hid hdg
              have hmx : Try.prog.follows .mixedOrders = true := by kernel_rfl
              have hi0 : (0 : Int) ≤ (u' : Int) := by omega
              have hi1 : (u' : Int) < (ps.length : Int) := by omega
              have HP := Lib.hid hp
              clear hdg hp
              gi_wp2
              gi_region_with_o (refine ⟨trivial, ?_⟩; gi_at_call 61; refine (CallsIn.inRound l (callsIn_wide.2 (i_HashPair _ _ _ hpd.out HW2.out.2.2.2.1))).mono ?_; rintro e w' ⟨rfl, rfl⟩)
              all_goals gi_wp2
              all_goals exact close_used (sib_one hks HB2.out) hs16 ST.out hul (by have := HW2.out; rw [drop_cons hul] at this; exact this.odd (sib_one hks HB2.out) HB2.out hpd.out HP.out)
        · have HB2 := Lib.hid hb
          gi_wp2
          exact close_skip hs1 hs16 ST.out hu HW2.out HB2.out
      case done =>
        rintro D W hD ⟨k', u', m', hst, hu, hR⟩ hK
        have p0 := hst.bp.cell (j := 0) (u := .slice A ps.length c) rfl
        have n0 := hst.bn.cell (j := 0) (u := .int .i64 m') rfl
        have v0 := hst.bu.cell (j := 0) (u := .int .i64 (u' : Int)) rfl
        have rf0 := hst.br.free 0
        have r0 := hst.br.cell (j := 0) (u := .bool false) rfl
        have ST := Lib.hid hst
        have HR := Lib.hid hR
        have KK := Lib.hid hK
        clear hst hR hK
        by_cases huL : u' = ps.length
        · subst huL
          gi_wp2
          have hk2 : (W.setCell ⟨w.heap.size + 1 + 1, 0, none⟩ (.bool (m' == root))).heap[D]? = some (.deferred (some [])) := (KeepsOthers.setCell _ _ _).same D _ KK.out rfl
          have st2 := (ST.out.res (m' == root)).calm (B := w.heap.size) (o' := .deferred none) (Nat.le_refl _) (by omega) hk2 rfl
          have c2 := st2.br.cell (j := 0) (u := .bool (m' == root)) rfl
          refine ⟨by simp, .inl ⟨_, _, rfl, run_takeDeferred hk2, ?_⟩⟩
          exact ⟨.bool (m' == root), by simp [results, Try.results44, go_sem, c2], ret_bool (by rw [HF.out, HR.out, List.drop_length]; simp [mfin]; exact Bool.beq_eq_decide_eq _ _), st2.be⟩
        · have huL' : ((u' : Int) == (ps.length : Int)) = false := by simp; omega
          gi_wp2
          have hk2 : (W.setCell ⟨w.heap.size + 1 + 1, 0, none⟩ (.bool false)).heap[D]? = some (.deferred (some [])) := (KeepsOthers.setCell _ _ _).same D _ KK.out rfl
          have st2 := (ST.out.res false).calm (B := w.heap.size) (o' := .deferred none) (Nat.le_refl _) (by omega) hk2 rfl
          have c2 := st2.br.cell (j := 0) (u := .bool false) rfl
          refine ⟨by simp, .inl ⟨_, _, rfl, run_takeDeferred hk2, ?_⟩⟩
          exact ⟨.bool false, by simp [results, Try.results44, go_sem, c2], ret_bool (by rw [HF.out, HR.out]; rw [drop_cons (show u' < ps.length by omega)]; rfl), st2.be⟩
      case stop =>
        rintro D W hD ⟨k', u', s, m', hst, hR⟩ hK
        have ST := Lib.hid hst
        have HR := Lib.hid hR
        have KK := Lib.hid hK
        clear hst hR hK
        gi_wp2
        have hk2 : W.heap[D]? = some (.deferred (some [])) := KK.out
        have st2 := ST.out.calm (B := w.heap.size) (o' := .deferred none) (Nat.le_refl _) (by omega) hk2 rfl
        have c2 := st2.br.cell (j := 0) (u := .bool false) rfl
        refine ⟨by simp, .inl ⟨_, _, rfl, run_takeDeferred hk2, ?_⟩⟩
        exact ⟨.bool false, by simp [results, Try.results44, go_sem, c2], ret_bool (by rw [HF.out, HR.out]; rfl), st2.be⟩
end Go.Proofs.Ytdleibkkjnodlaa
