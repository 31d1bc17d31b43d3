/- How the arguments of a law that are lists of structs are read. -/
import Derived.Test.YtdleibkkjnodlaaArgT
import Derived.Test.YtdleibkkjnodlaaLstTxn
import Derived.Test.YtdleibkkjnodlaaLstReceipt
import Derived.Deep.Slices
import Derived.Deep.Fields
import Derived.ChangeSame
namespace Go.Proofs.Ytdleibkkjnodlaa
open Go.ChangeShapes Go.WideShapes Go.ChangeAt Go.RowKit Go.Joins Go.Deep
set_option linter.unusedVariables false

/-- The cells of a slice of structs with k one-cell fields: each element's field reads by itself. -/
theorem slice_fields {H : Type} {enc : TypeId × Value → H} {W : World} {t e : TypeId} {fs : Array Field} {fuel : Nat} {v : Value} {x : DataW H × List MemPlace} (ht : Try.prog.underlying t = some (.slice e)) (he : Try.prog.underlying e = some (.struct fs))
    (hone : oneCellFields Try.prog fs = true) (hC : Try.prog.cellsOf e = fs.size) (h : DataW.trod enc Try.prog W 0 (fun _ => true) true fuel t [v] = some x) :
    v = .slice none 0 0 ∨ ∃ (a : Addr) (len cap : Nat), v = .slice (some a) len cap ∧ len ≤ cap ∧ cap ≤ maxLen ∧
      ∀ i, i < len → ∃ n, ∀ (j : Nat) (f : Field), fs[j]? = some f → ∃ (u : Value) (y : DataW H × List MemPlace), W.cell? (a.add (i * fs.size + j)) = some u ∧ DataW.trod enc Try.prog W 0 (fun _ => true) true n f.type [u] = some y := by
  rcases open_slice ht h with h0 | ⟨a, len, cap, m, n, D, Pl, hcs, hb, hl, hm, hmm, hx, hi⟩
  · exact .inl (by simpa using h0.1)
  · refine .inr ⟨a, len, cap, by simpa using hcs, hl, hm, fun i him => ?_⟩
    simp only [if_true] at hmm
    obtain ⟨cs', hc, ht'⟩ := hi i (by omega)
    rw [hC] at hc
    obtain ⟨ys, n', hn', hy, hlen, hyl, hf⟩ := DataW.trod_struct he ht'
    obtain ⟨_, hcl, hat⟩ := World.cells?_some hc
    refine ⟨n', fun j f hj => ?_⟩
    obtain ⟨ho, hk⟩ := hone_of hone j f hj
    have hjl : j < fs.size := (Array.getElem?_eq_some_iff.1 hj).1
    have hcell := hat j hjl
    have hv : cs'[j]? = some (cs'[j]'(by omega)) := List.getElem?_eq_getElem (by omega)
    have h1 := hf j f hj
    rw [ho, hk] at h1
    have hone' : (cs'.drop j).take 1 = [cs'[j]'(by omega)] := by
      rw [List.drop_eq_getElem_cons (by omega)]
      rfl
    rw [hone'] at h1
    have hys : ys[j]? = some (ys[j]'(by omega)) := List.getElem?_eq_getElem (by omega)
    refine ⟨_, _, ?_, h1.trans hys⟩
    rw [← Go.Deep.add_add, hcell, hv]
theorem add_off {b off j : Nat} : (⟨b, off, none⟩ : Addr).add j = ⟨b, off + j, none⟩ := by unfold Addr.add; split <;> simp_all
theorem lstTxn_of {H : Type} {enc : TypeId × Value → H} {W : World} {n : Nat} {v : Value} {y : DataW H × List MemPlace} (h : DataW.trod enc Try.prog W 0 (fun _ => true) true n 31 [v] = some y) :
    ∃ (A : Option Addr) (cap : Nat) (bs : List VTxn), v = .slice A bs.length cap ∧ LstTxn W W.heap.size A bs ∧ bs.length ≤ cap ∧ bs.length ≤ 9223372036854775807 := by
  rcases slice_fields Try.underlying31 Try.underlying65 (by kernel_rfl) (by kernel_rfl) h with rfl | ⟨a, len, cap, rfl, hl, hm, hi⟩
  · exact ⟨none, 0, [], rfl, fun hh => absurd rfl hh, Nat.le_refl _, by simp⟩
  · have hex : ∀ i, ∃ x : VTxn, i < len → W.cell? (a.add (i * 4)) = some (.int .i64 x.f) ∧ W.cell? (a.add (i * 4 + 1)) = some (.int .i64 x.t) ∧ W.cell? (a.add (i * 4 + 2)) = some (.int .i64 x.s) ∧ W.cell? (a.add (i * 4 + 3)) = some (.int .i64 x.e) := by
      intro i
      by_cases hlt : i < len
      · obtain ⟨m, hf⟩ := hi i hlt
        obtain ⟨u0, y0, c0, t0⟩ := hf 0 _ rfl
        obtain ⟨z0, e0, _, _⟩ := DataW.trod_int Try.underlying3 t0
        simp at e0
        subst e0
        obtain ⟨u1, y1, c1, t1⟩ := hf 1 _ rfl
        obtain ⟨z1, e1, _, _⟩ := DataW.trod_int Try.underlying3 t1
        simp at e1
        subst e1
        obtain ⟨u2, y2, c2, t2⟩ := hf 2 _ rfl
        obtain ⟨z2, e2, _, _⟩ := DataW.trod_int Try.underlying3 t2
        simp at e2
        subst e2
        obtain ⟨u3, y3, c3, t3⟩ := hf 3 _ rfl
        obtain ⟨z3, e3, _, _⟩ := DataW.trod_int Try.underlying3 t3
        simp at e3
        subst e3
        exact ⟨⟨z0, z1, z2, z3⟩, fun _ => ⟨c0, c1, c2, c3⟩⟩
      · exact ⟨VTxn.zero, fun hh => absurd hh hlt⟩
    obtain ⟨F, hF⟩ := Classical.axiomOfChoice hex
    have hnth : ∀ i, i < len → nthTxn ((List.range len).map F) i = F i := fun i hlt => by rw [nthTxn_eq (by simpa using hlt)]; simp
    refine ⟨some a, cap, (List.range len).map F, by simp, fun hne => ?_, by simpa using hl, by unfold maxLen at hm; simp; omega⟩
    have hpos : 0 < len := by
      rcases Nat.eq_zero_or_pos len with e0 | e0
      · subst e0; simp at hne
      · exact e0
    obtain ⟨b, off, spot⟩ := a
    have hc0 := (hF 0 hpos).1
    have hspot : spot = none := by simpa [Addr.add] using World.cell?_spot hc0
    subst hspot
    refine ⟨b, off, rfl, ?_, fun i hlt => ?_⟩
    · rw [add_off] at hc0; exact lt_of_cell hc0
    · have hlt' : i < len := by simpa using hlt
      rw [hnth i hlt']
      have := hF i hlt'
      simp only [add_off, ← Nat.add_assoc] at this
      exact this
theorem lstReceipt_of {H : Type} {enc : TypeId × Value → H} {W : World} {n : Nat} {v : Value} {y : DataW H × List MemPlace} (h : DataW.trod enc Try.prog W 0 (fun _ => true) true n 47 [v] = some y) :
    ∃ (A : Option Addr) (cap : Nat) (bs : List VReceipt), v = .slice A bs.length cap ∧ LstReceipt W W.heap.size A bs ∧ bs.length ≤ cap ∧ bs.length ≤ 9223372036854775807 := by
  rcases slice_fields Try.underlying47 Try.underlying23 (by kernel_rfl) (by kernel_rfl) h with rfl | ⟨a, len, cap, rfl, hl, hm, hi⟩
  · exact ⟨none, 0, [], rfl, fun hh => absurd rfl hh, Nat.le_refl _, by simp⟩
  · have hex : ∀ i, ∃ x : VReceipt, i < len → W.cell? (a.add (i * 3)) = some (.int .i64 x.i) ∧ W.cell? (a.add (i * 3 + 1)) = some (.bool x.b) ∧ W.cell? (a.add (i * 3 + 2)) = some (.int .i64 x.d) := by
      intro i
      by_cases hlt : i < len
      · obtain ⟨m, hf⟩ := hi i hlt
        obtain ⟨u0, y0, c0, t0⟩ := hf 0 _ rfl
        obtain ⟨z0, e0, _, _⟩ := DataW.trod_int Try.underlying3 t0
        simp at e0
        subst e0
        obtain ⟨u1, y1, c1, t1⟩ := hf 1 _ rfl
        obtain ⟨z1, e1, _⟩ := DataW.trod_bool Try.underlying4 t1
        simp at e1
        subst e1
        obtain ⟨u2, y2, c2, t2⟩ := hf 2 _ rfl
        obtain ⟨z2, e2, _, _⟩ := DataW.trod_int Try.underlying3 t2
        simp at e2
        subst e2
        exact ⟨⟨z0, z1, z2⟩, fun _ => ⟨c0, c1, c2⟩⟩
      · exact ⟨VReceipt.zero, fun hh => absurd hh hlt⟩
    obtain ⟨F, hF⟩ := Classical.axiomOfChoice hex
    have hnth : ∀ i, i < len → nthReceipt ((List.range len).map F) i = F i := fun i hlt => by rw [nthReceipt_eq (by simpa using hlt)]; simp
    refine ⟨some a, cap, (List.range len).map F, by simp, fun hne => ?_, by simpa using hl, by unfold maxLen at hm; simp; omega⟩
    have hpos : 0 < len := by
      rcases Nat.eq_zero_or_pos len with e0 | e0
      · subst e0; simp at hne
      · exact e0
    obtain ⟨b, off, spot⟩ := a
    have hc0 := (hF 0 hpos).1
    have hspot : spot = none := by simpa [Addr.add] using World.cell?_spot hc0
    subst hspot
    refine ⟨b, off, rfl, ?_, fun i hlt => ?_⟩
    · rw [add_off] at hc0; exact lt_of_cell hc0
    · have hlt' : i < len := by simpa using hlt
      rw [hnth i hlt']
      have := hF i hlt'
      simp only [add_off, ← Nat.add_assoc] at this
      exact this
structure XLTxn where
  A : Option Addr
  c : Nat
  bs : List VTxn
def XLTxn.val (x : XLTxn) : Value := .slice x.A x.bs.length x.c
def XLTxn.Good (x : XLTxn) (W : World) : Prop := LstTxn W W.heap.size x.A x.bs ∧ x.bs.length ≤ 9223372036854775807
theorem open_txns {H : Type} {enc : TypeId × Value → H} {W : World} {r : Reach} {b0 : Nat} {v : Value} {d : DataW H} {p : List MemPlace}
    (hv : Value.okWide Try.prog W r b0 31 v) (h : DataW.Trod enc Try.prog W 0 (fun _ => true) true 31 v d p) :
    ∃ x : XLTxn, v = x.val ∧ x.Good W := by
  obtain ⟨a, len, c, rfl⟩ := okWide_slice Try.underlying31 hv
  obtain ⟨n, hn⟩ := h
  obtain ⟨A, cap, bs, e1, hL, _, hm⟩ := lstTxn_of (v := .slice a len c) (y := (d, p)) (by simpa [Value.cells] using hn)
  exact ⟨⟨A, cap, bs⟩, e1, hL, hm⟩
structure XLReceipt where
  A : Option Addr
  c : Nat
  bs : List VReceipt
def XLReceipt.val (x : XLReceipt) : Value := .slice x.A x.bs.length x.c
def XLReceipt.Good (x : XLReceipt) (W : World) : Prop := LstReceipt W W.heap.size x.A x.bs ∧ x.bs.length ≤ 9223372036854775807
theorem open_receipts {H : Type} {enc : TypeId × Value → H} {W : World} {r : Reach} {b0 : Nat} {v : Value} {d : DataW H} {p : List MemPlace}
    (hv : Value.okWide Try.prog W r b0 47 v) (h : DataW.Trod enc Try.prog W 0 (fun _ => true) true 47 v d p) :
    ∃ x : XLReceipt, v = x.val ∧ x.Good W := by
  obtain ⟨a, len, c, rfl⟩ := okWide_slice Try.underlying47 hv
  obtain ⟨n, hn⟩ := h
  obtain ⟨A, cap, bs, e1, hL, _, hm⟩ := lstReceipt_of (v := .slice a len c) (y := (d, p)) (by simpa [Value.cells] using hn)
  exact ⟨⟨A, cap, bs⟩, e1, hL, hm⟩
end Go.Proofs.Ytdleibkkjnodlaa
