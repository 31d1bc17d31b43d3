/- The reader of a code: opening it and picking a number. -/
import Derived.Test.YtohnodphlaoohaaBase
namespace Go.Proofs.Ytohnodphlaoohaa
open Go.RowKit
set_option linter.unusedVariables false

/-- Block r is a reader that has picked at most P times; its bytes lie below block B. -/
def RdAt (w : World) (B r P : Nat) : Prop :=
  ∃ (A : Option Addr) (c : Nat) (zs : List Int) (p : Nat), w.heap[r]? = some (.cells #[.slice A zs.length c, .int .i64 p] 123 (0, 0)) ∧ p ≤ P ∧ Bytes w B A zs ∧ zs.length ≤ 2000 ∧ B ≤ r

theorem RdAt.lt {w : World} {B r P : Nat} (h : RdAt w B r P) : r < w.heap.size := by
  obtain ⟨A, c, zs, p, hb, _⟩ := h
  rcases Nat.lt_or_ge r w.heap.size with hlt | hge
  · exact hlt
  · rw [Array.getElem?_eq_none hge] at hb; cases hb
theorem RdAt.keep {w w' : World} {B r P P' : Nat} (h : RdAt w B r P) (hP : P ≤ P') (hr : w'.heap[r]? = w.heap[r]?) (hb : ∀ k, k < B → w'.heap[k]? = w.heap[k]?) : RdAt w' B r P' := by
  obtain ⟨A, c, zs, p, h1, h2, h3, h4, h5⟩ := h
  exact ⟨A, c, zs, p, hr.trans h1, by omega, h3.keep (fun q hq => World.cell?_of_block (hb q.block hq)), h4, h5⟩
theorem RdAt.mono {w : World} {B r P P' : Nat} (h : RdAt w B r P) (hP : P ≤ P') : RdAt w B r P' := h.keep hP rfl (fun _ _ => rfl)
theorem RdAt.le {w : World} {B r P : Nat} (h : RdAt w B r P) : B ≤ r := by obtain ⟨A, c, zs, p, h1, h2, h3, h4, h5⟩ := h; exact h5
theorem RdAt.below {w w' : World} {B r P : Nat} (h : RdAt w B r P) (hb : Below (r + 1) w w') : RdAt w' B r P :=
  h.keep (Nat.le_refl _) (hb.block r (by omega)) (fun k hk => hb.block k (by have := h.le; omega))
theorem RdAt.carry {w w' : World} {B r P : Nat} (h : RdAt w B r P) (hb : Below w.heap.size w w') : RdAt w' B r P := h.below (hb.mono h.lt)
theorem RdAt.grown {w w' : World} {B r P : Nat} {row : Option Nat} (h : RdAt w B r P) (hg : w.grownBy w' row) (hr : ∀ g, row = some g → r < g) : RdAt w' B r P :=
  h.keep (Nat.le_refl _) (hg.block r h.lt (fun e => by have := hr _ e.symm; omega)) (fun k hk => hg.block k (by have := h.le; have := h.lt; omega) (fun e => by have := hr _ e.symm; have := h.le; omega))

theorem xor_nonneg (x : Int) (h0 : 0 ≤ x) (h1 : x ≤ 1000000000) : 0 ≤ bits .xor .i64 x (x / 64) := by
  obtain ⟨a, rfl⟩ := Int.eq_ofNat_of_zero_le h0
  have hb : ((a : Int) / 64) = ((a / 64 : Nat) : Int) := by omega
  have ha : (BitVec.ofInt 64 (a : Int)).toNat = a := by rw [BitVec.ofInt_natCast, BitVec.toNat_ofNat]; exact Nat.mod_eq_of_lt (by omega)
  have hc : (BitVec.ofInt 64 ((a / 64 : Nat) : Int)).toNat = a / 64 := by rw [BitVec.ofInt_natCast, BitVec.toNat_ofNat]; exact Nat.mod_eq_of_lt (by omega)
  have hx : a ^^^ (a / 64) < 2 ^ 63 := Nat.xor_lt_two_pow (by omega) (by omega)
  rw [hb]
  show 0 ≤ IntKind.i64.wrap ((BitVec.ofInt 64 (a : Int) ^^^ BitVec.ofInt 64 ((a / 64 : Nat) : Int)).toNat : Int)
  rw [BitVec.toNat_xor, ha, hc, IntKind.wrap_i64]
  omega

/-- What a pick leaves: a number below n (0, if n is below 1); nothing has turned but the reader. -/
def Picked (w : World) (B r P : Nat) (n : Int) (e : Ending) (w' : World) : Prop :=
  ∃ x : Int, e = .returned (.int .i64 x) ∧ 0 ≤ x ∧ (n < 1 → x = 0) ∧ (1 ≤ n → x < n) ∧ RdAt w' B r (P + 1) ∧ w.grownBy w' (some r) ∧ w'.heap.size = w.heap.size

theorem picked_after {w : World} {B r P p c : Nat} {A : Option Addr} {zs : List Int} (hb : w.heap[r]? = some (.cells #[.slice A zs.length c, .int .i64 p] 123 (0, 0))) (hp : p ≤ P) (hby : Bytes w B A zs) (hz : zs.length ≤ 2000) (hB : B ≤ r) (m : Nat) :
    RdAt ((w.setCell ⟨r, 1, none⟩ (.int .i64 ((p : Int) + 1))).drewN m) B r (P + 1) ∧ w.grownBy ((w.setCell ⟨r, 1, none⟩ (.int .i64 ((p : Int) + 1))).drewN m) (some r) ∧ ((w.setCell ⟨r, 1, none⟩ (.int .i64 ((p : Int) + 1))).drewN m).heap.size = w.heap.size := by
  refine ⟨⟨A, c, zs, p + 1, ?_, by omega, hby.keep (fun q hq => ?_), hz, hB⟩, ⟨rfl, rfl, rfl, ?_, fun k hk hne => ?_⟩, ?_⟩
  · show (w.setCell ⟨r, 1, none⟩ (.int .i64 ((p : Int) + 1))).heap[r]? = _
    simp [World.setCell, Array.getElem?_modify, hb]
  · show (w.setCell ⟨r, 1, none⟩ (.int .i64 ((p : Int) + 1))).cell? q = _
    exact World.cell?_of_block (Below.heap_setCell w _ _ _ (by show q.block ≠ r; omega))
  · simp [World.setCell]
  · exact Below.heap_setCell w _ _ _ (by intro e; exact hne (by rw [e]))
  · simp [World.setCell]

set_option maxHeartbeats 4000000 in
set_option maxRecDepth 100000 in
theorem pick_any (w : World) (B r P : Nat) (n : Int) (h : RdAt w B r P) (hP : P ≤ 1000000) :
    Calls Try.prog 69 #[.pointer (some ⟨r, 0, none⟩), .int .i64 n] w (Picked w B r P n) := by
  obtain ⟨A, c, zs, p, hb, hp, hby, hz, hBr⟩ := h
  have hfin := picked_after hb hp hby hz hBr
  have HF := Lib.hid hfin
  clear hfin
  have c0 : w.cell? ⟨r, 0, none⟩ = some (.slice A zs.length c) := by rw [cell_of_row w r 0 _ _ _ hb]; rfl
  have c1 : w.cell? ⟨r, 1, none⟩ = some (.int .i64 p) := by rw [cell_of_row w r 1 _ _ _ hb]; rfl
  have f1 : w.frozen? ⟨r, 1, none⟩ = false := by simp [World.frozen?, hb]
  clear hb
  by_cases hn : n < 1
  · go_enter Try.func69, Try.ntmps69
    go_wp2
    go_ret
    exact ⟨0, rfl, by omega, fun _ => rfl, fun h => absurd h (by omega), HF.out 0⟩
  by_cases hz0 : zs.length = 0
  · have hd : ((zs.length : Int) == 0) = true := by simp [hz0]
    have HZ := Lib.hid hz0
    clear hz0
    go_enter Try.func69, Try.ntmps69
    go_wp2
    go_ret
    exact ⟨0, rfl, by omega, fun _ => rfl, fun h => by omega, HF.out 0⟩
  have hd : ((zs.length : Int) == 0) = false := beq_eq_false_iff_ne.2 (by omega)
  have hd' : (n == 0) = false := by simp; omega
  by_cases hlt : p < zs.length
  · obtain ⟨b, off, rfl, hbB, hc⟩ := hby.at_ hlt
    have hbd := hby.bd hlt
    have hck : (w.setCell ⟨r, 1, none⟩ (.int .i64 ((p : Int) + 1))).cell? ⟨b, off + p, none⟩ = some (.int .u8 (nth zs p)) :=
      (World.cell?_setCell_other w _ _ _ (fun e => by injection e with e1; omega)).trans (hc p hlt)
    clear hc hby
    go_enter Try.func69, Try.ntmps69
    go_wp2
    go_ret
    exact ⟨nth zs p % n, rfl, Int.emod_nonneg _ (by omega), fun h => absurd h (by omega), fun _ => Int.emod_lt_of_pos _ (by omega), HF.out 0⟩
  · have hL : 0 < zs.length := by omega
    obtain ⟨b, off, rfl, hbB, hc⟩ := hby.at_ hL
    obtain ⟨j1, hj1⟩ : ∃ j1, j1 = p % zs.length := ⟨_, rfl⟩
    obtain ⟨j2, hj2⟩ : ∃ j2, j2 = (p * 7 + 3) % zs.length := ⟨_, rfl⟩
    obtain ⟨q, hq⟩ : ∃ q, q = p / zs.length := ⟨_, rfl⟩
    have hm1 : j1 < zs.length := by rw [hj1]; exact Nat.mod_lt _ hL
    have hm2 : j2 < zs.length := by rw [hj2]; exact Nat.mod_lt _ hL
    have hqp : q ≤ p := by rw [hq]; exact Nat.div_le_self _ _
    have e1 : ((p : Int)).tmod (zs.length : Int) = (j1 : Int) := by rw [hj1]; exact (Int.ofNat_tmod p zs.length).symm
    have e2 : ((p : Int) * 7 + 3).tmod (zs.length : Int) = (j2 : Int) := by rw [hj2]; exact (Int.ofNat_tmod (p * 7 + 3) zs.length).symm
    have e3 : ((p : Int)).tdiv (zs.length : Int) = (q : Int) := by rw [hq]; exact (Int.ofNat_tdiv p zs.length).symm
    have hi1 : (j1 : Int) < (zs.length : Int) := by omega
    have hi2 : (j2 : Int) < (zs.length : Int) := by omega
    obtain ⟨y1, hy1⟩ : ∃ y, y = nth zs j1 := ⟨_, rfl⟩
    obtain ⟨y2, hy2⟩ : ∃ y, y = nth zs j2 := ⟨_, rfl⟩
    have hb1 : 0 ≤ y1 ∧ y1 ≤ 255 := by rw [hy1]; exact hby.bd hm1
    have hb2 : 0 ≤ y2 ∧ y2 ≤ 255 := by rw [hy2]; exact hby.bd hm2
    have hc1 : (w.setCell ⟨r, 1, none⟩ (.int .i64 ((p : Int) + 1))).cell? ⟨b, off + j1, none⟩ = some (.int .u8 y1) := by
      rw [hy1]; exact (World.cell?_setCell_other w _ _ _ (fun e => by injection e with e1; omega)).trans (hc _ hm1)
    have hc2 : (w.setCell ⟨r, 1, none⟩ (.int .i64 ((p : Int) + 1))).cell? ⟨b, off + j2, none⟩ = some (.int .u8 y2) := by
      rw [hy2]; exact (World.cell?_setCell_other w _ _ _ (fun e => by injection e with e1; omega)).trans (hc _ hm2)
    clear hc hby hj1 hj2 hq hy1 hy2
    have hd2 : (zs.length : Int) ≠ 0 := by omega
    go_enter Try.func69, Try.ntmps69
    go_wp2
    have w1 : IntKind.i64.wrap y1 = y1 := IntWalk.i64_in _ (by omega)
    have w2 : IntKind.i64.wrap y2 = y2 := IntWalk.i64_in _ (by omega)
    have w3 : IntKind.i64.wrap (y1 * 131) = y1 * 131 := IntWalk.i64_in _ (by omega)
    have w4 : IntKind.i64.wrap (y2 * 1117) = y2 * 1117 := IntWalk.i64_in _ (by omega)
    have w5 : IntKind.i64.wrap ((p : Int) * 7) = (p : Int) * 7 := IntWalk.i64_in _ (by omega)
    have w6 : IntKind.i64.wrap ((p : Int) * 7 + 3) = (p : Int) * 7 + 3 := IntWalk.i64_in _ (by omega)
    have w7 : IntKind.i64.wrap (y1 * 131 + y2 * 1117) = y1 * 131 + y2 * 1117 := IntWalk.i64_in _ (by omega)
    have w8 : IntKind.i64.wrap ((p : Int) * 29) = (p : Int) * 29 := IntWalk.i64_in _ (by omega)
    have w9 : IntKind.i64.wrap (y1 * 131 + y2 * 1117 + (p : Int) * 29) = y1 * 131 + y2 * 1117 + (p : Int) * 29 := IntWalk.i64_in _ (by omega)
    have w10 : IntKind.i64.wrap ((q : Int)) = (q : Int) := IntWalk.i64_in _ (by omega)
    have w11 : IntKind.i64.wrap ((q : Int) * 53) = (q : Int) * 53 := IntWalk.i64_in _ (by omega)
    have w12 : IntKind.i64.wrap (y1 * 131 + y2 * 1117 + (p : Int) * 29 + (q : Int) * 53) = y1 * 131 + y2 * 1117 + (p : Int) * 29 + (q : Int) * 53 := IntWalk.i64_in _ (by omega)
    go_quiet (fail)
    clear w1 w2 w3 w4 w5 w6 w7 w8 w9 w10 w11 w12 e1 e2 e3 hc1 hc2
    have hx0 : 0 ≤ y1 * 131 + y2 * 1117 + (p : Int) * 29 + (q : Int) * 53 := by omega
    have hx1 : y1 * 131 + y2 * 1117 + (p : Int) * 29 + (q : Int) * 53 ≤ 1000000000 := by omega
    have hxor := xor_nonneg _ hx0 hx1
    have HX := Lib.hid hxor
    clear hxor
    go_wp2
    go_ret
    exact ⟨_, rfl, Int.tmod_nonneg _ HX.out, fun h => absurd h (by omega), fun _ => Int.tmod_lt_of_pos _ (by omega), HF.out nq⟩

set_option maxHeartbeats 1000000 in
theorem l6Open_any (A : Option Addr) (c : Nat) (zs : List Int) (w : World) (h : Bytes w w.heap.size A zs) (hc : zs.length ≤ c) (hn : zs.length ≤ 1048576) :
    Calls Try.prog 66 #[.slice A zs.length c] w fun e w' => e = .returned (.pointer (some ⟨w.heap.size, 0, none⟩)) ∧ RdAt w' w.heap.size w.heap.size 0 ∧ Below w.heap.size w w' ∧ w'.heap.size = w.heap.size + 1 := by
  have HH := Lib.hid h
  clear h
  by_cases hbig : (2000 : Int) < zs.length
  · have hi : (2000 : Int) ≤ (c : Int) := by omega
    go_enter Try.func66, Try.ntmps66
    go_wp2
    go_ret
    refine ⟨rfl, ⟨A, c, zs.take 2000, 0, ?_, Nat.le_refl _, ?_, ?_, Nat.le_refl _⟩, (Below.refl _ _).alloc (Nat.le_refl _) _, by simp⟩
    · rw [List.length_take, Nat.min_eq_left (by omega)]; exact heap_alloc_new w _
    · exact (HH.out.take 2000).keep (fun q hq => World.cell?_alloc_lt w _ q hq)
    · rw [List.length_take]; omega
  · go_enter Try.func66, Try.ntmps66
    go_wp2
    go_ret
    refine ⟨rfl, ⟨A, c, zs, 0, ?_, Nat.le_refl _, ?_, ?_, Nat.le_refl _⟩, (Below.refl _ _).alloc (Nat.le_refl _) _, by simp⟩
    · exact heap_alloc_new w _
    · exact HH.out.keep (fun q hq => World.cell?_alloc_lt w _ q hq)
    · omega
end Go.Proofs.Ytohnodphlaoohaa
