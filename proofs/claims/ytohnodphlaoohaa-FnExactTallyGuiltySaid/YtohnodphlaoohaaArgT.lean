/- How the arguments of a law that are structs with a list of numbers are read. -/
import Derived.Test.YtohnodphlaoohaaArgs
import Derived.Lib.SmallJoins
namespace Go.Proofs.Ytohnodphlaoohaa
open Go.ChangeShapes Go.WideShapes Go.ChangeAt Go.RowKit Go.Joins
set_option linter.unusedVariables false

theorem slice_of {H : Type} {enc : TypeId × Value → H} {W : World} {n : Nat} {v : Value} {y : DataW H × List MemPlace} (h : DataW.trod enc Try.prog W 0 (fun _ => true) true n 22 [v] = some y) :
    ∃ (A : Option Addr) (len cap : Nat), v = .slice A len cap ∧ ∃ zs : List Int, len = zs.length ∧ Ints W W.heap.size A zs ∧ zs.length ≤ 9223372036854775807 := by
  rcases open_ints Try.underlying22 Try.underlying3 (by kernel_rfl) h with ⟨hcs, _⟩ | ⟨x, l, c, zs, hcs, _, hl, hm, _⟩
  · have e : v = .slice none 0 0 := by simpa using hcs
    exact ⟨none, 0, 0, e, [], rfl, Ints.nil _ _ _, by simp⟩
  · have e : v = .slice (some x) l c := by simpa using hcs
    subst e
    have ht : DataW.Trod enc Try.prog W 0 (fun _ => true) true 22 (.slice (some x) l c) y.1 y.2 := ⟨n, by simpa [Value.cells] using h⟩
    obtain ⟨zs', h1, h2⟩ := ints_of_trod ht
    exact ⟨some x, l, c, rfl, zs', h1, h2, by unfold maxLen at hm; omega⟩
/-- A tally as it comes in. -/
structure XTally where
  r : Int
  a : Int
  d : Int
  A : Option Addr
  c : Nat
  zs : List Int
def XTally.val (x : XTally) : Value := .agg #[.int .i64 x.r, .int .i64 x.a, .int .i64 x.d, .slice x.A x.zs.length x.c]
def XTally.Good (x : XTally) (W : World) : Prop := Ints W W.heap.size x.A x.zs ∧ x.zs.length ≤ 9223372036854775807
theorem pair_of {α : Type} {xs : List α} (h : xs.length = 2) : ∃ a b, xs = [a, b] := by
  match xs, h with
  | [a, b], _ => exact ⟨a, b, rfl⟩
theorem triple_of {α : Type} {xs : List α} (h : xs.length = 3) : ∃ a b c, xs = [a, b, c] := by
  match xs, h with
  | [a, b, c], _ => exact ⟨a, b, c, rfl⟩
theorem cells_vote : Try.prog.cellsOf 59 = 3 := by kernel_rfl
theorem cells_int : Try.prog.cellsOf 3 = 1 := by kernel_rfl
theorem cells_ints : Try.prog.cellsOf 22 = 1 := by kernel_rfl
theorem cells_tally : Try.prog.cellsOf 61 = 4 := by kernel_rfl
set_option maxRecDepth 100000 in
theorem open_tally {H : Type} {enc : TypeId × Value → H} {W : World} {r : Reach} {b0 : Nat} {v : Value} {d : DataW H} {p : List MemPlace}
    (hv : Value.okWide Try.prog W r b0 61 v) (h : DataW.Trod enc Try.prog W 0 (fun _ => true) true 61 v d p) :
    ∃ x : XTally, v = x.val ∧ x.Good W := by
  obtain ⟨cs, rfl, hsz⟩ := okWide_struct Try.underlying61 hv
  obtain ⟨u0, u1, u2, u3, rfl⟩ := array4 (hsz.trans cells_tally)
  obtain ⟨fuel, hf⟩ := h
  obtain ⟨xs, n, _, _, _, hlen, hg⟩ := DataW.trod_struct Try.underlying61 hf
  obtain ⟨y0, y1, rfl⟩ := pair_of hlen
  have g0 := hg 0 _ rfl
  have g1 := hg 1 _ rfl
  simp [Value.cells, cells_vote, cells_ints] at g0 g1
  obtain ⟨ys, m, _, _, _, hl2, hk⟩ := DataW.trod_struct Try.underlying59 g0
  obtain ⟨z0, z1, z2, rfl⟩ := triple_of hl2
  have k0 := hk 0 _ rfl
  have k1 := hk 1 _ rfl
  have k2 := hk 2 _ rfl
  simp [cells_int] at k0 k1 k2
  obtain ⟨a0, e0, _, _⟩ := DataW.trod_int Try.underlying3 k0
  obtain ⟨a1, e1, _, _⟩ := DataW.trod_int Try.underlying3 k1
  obtain ⟨a2, e2, _, _⟩ := DataW.trod_int Try.underlying3 k2
  obtain ⟨A, len, cap, e3, zs, hl, hI, hm⟩ := slice_of g1
  simp at e0 e1 e2
  subst e0 e1 e2 e3 hl
  exact ⟨⟨a0, a1, a2, A, cap, zs⟩, rfl, hI, hm⟩
/-- A cert as it comes in. -/
structure XCert where
  d : Int
  s : Int
  A : Option Addr
  c : Nat
  zs : List Int
def XCert.val (x : XCert) : Value := .agg #[.int .i64 x.d, .slice x.A x.zs.length x.c, .int .i64 x.s]
def XCert.Good (x : XCert) (W : World) : Prop := Ints W W.heap.size x.A x.zs ∧ x.zs.length ≤ 9223372036854775807
set_option maxRecDepth 100000 in
theorem open_cert {H : Type} {enc : TypeId × Value → H} {W : World} {r : Reach} {b0 : Nat} {v : Value} {d : DataW H} {p : List MemPlace}
    (hv : Value.okWide Try.prog W r b0 67 v) (h : DataW.Trod enc Try.prog W 0 (fun _ => true) true 67 v d p) :
    ∃ x : XCert, v = x.val ∧ x.Good W := by
  obtain ⟨v0, v1, v2, y0, y1, y2, n, rfl, _, _, h0, h1, h2⟩ := open_agg3 Try.underlying67 (by kernel_rfl) (by kernel_rfl) hv h
  obtain ⟨a0, e0, _, _⟩ := DataW.trod_int Try.underlying3 h0
  obtain ⟨A, len, cap, e1, zs, hl, hI, hm⟩ := slice_of h1
  obtain ⟨a2, e2, _, _⟩ := DataW.trod_int Try.underlying3 h2
  simp at e0 e2
  subst e0 e2
  subst e1 hl
  exact ⟨⟨a0, a2, A, cap, zs⟩, rfl, hI, hm⟩
end Go.Proofs.Ytohnodphlaoohaa
