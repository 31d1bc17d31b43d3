/- append(v, make([]int, 15)...): fifteen zeros behind a row of the call's own. -/
import Derived.Test.YtohnodphlaoohaaOwn
namespace Go.Proofs.Ytohnodphlaoohaa
open Go.RowKit
set_option linter.unusedVariables false

def z15 : List Int := List.replicate 15 0
def v15 : List Value := z15.map (Value.int .i64)
theorem zero15 : Builtin.zeroCells #[Value.int .i64 0] 15 = v15.toArray := by kernel_rfl
theorem len15 : v15.length = 15 := by kernel_rfl
theorem wrap15 : IntKind.i64.wrap 15 = 15 := by decide
theorem one15 : ∀ u ∈ v15, u.oneCell' = true := ints_oneCell _ _
theorem run_make_room (ty : TypeId) (w : World) (i : TypeInfo) (hi : Try.prog.info? 3 = some i) (hz : i.zero = some (.int .i64 0)) (h1 : i.size = 1) (h8 : i.bytes = 8)
    (g n cap : Nat) (cur : Array Value) (hg : w.heap[g]? = some (.cells cur 3 (0, 0))) (hroom : n + 15 ≤ cap) (hfit : n + 15 ≤ cur.size) :
    (Builtin.append_ #[22, 3] ty #[.slice (some ⟨g, 0, none⟩) n cap, .int .i64 15]).run Try.prog w =
      .ok (.slice (some ⟨g, 0, none⟩) (n + 15) cap) (w.setRow g (cur.toList.take n ++ v15 ++ cur.toList.drop (n + 15)).toArray) := by
  have hst := run_storeCells_at Try.prog g n 3 v15 0 cur w hg (by rw [len15]; simpa using hfit) one15
  simp only [Nat.add_zero, len15] at hst
  have ha : ∀ w' : World, (asInt (.int .i64 15)).run Try.prog w' = .ok 15 w' := fun _ => rfl
  simp [Builtin.append_, run_underlying Try.underlying22, run_underlying Try.underlying3, sizeOf, typeInfo, hi, h1, h8, ha, wrap15, hroom, zeroValue, hz, Value.cells, zero15, Addr.add_lit, hst]
set_option maxRecDepth 100000 in
theorem run_make_grow (ty : TypeId) (w : World) (i : TypeInfo) (hi : Try.prog.info? 3 = some i) (hz : i.zero = some (.int .i64 0)) (h1 : i.size = 1) (h8 : i.bytes = 8)
    (g n cap : Nat) (olds : List Value) (hlo : olds.length = n) (holds : ∀ j v, olds[j]? = some v → w.cell? ((⟨g, 0, none⟩ : Addr).add j) = some v) (hroom : cap < n + 15) (hn : n ≤ 1000000) :
    (Builtin.append_ #[22, 3] ty #[.slice (some ⟨g, 0, none⟩) n cap, .int .i64 15]).run Try.prog w =
      .ok (.slice (some ⟨w.heap.size, 0, none⟩) (n + 15) (grownCap w (n + 15) cap 3)) (w.drew.alloc (.cells (olds.toArray ++ v15.toArray ++ Builtin.zeroCells #[.int .i64 0] (grownCap w (n + 15) cap 3 - (n + 15))) 3)) := by
  have hn' : ¬ (n + 15 ≤ cap) := by omega
  have h63' : ¬ (9223372036854775807 < ((n : Int) + max 15 0)) := by omega
  have h48' : ¬ (281474976710656 < Builtin.nextslicecap (n + 15) cap * 8) := by have := growslice_fits (need := n + 15) (old := cap) (bytes := 8) (by omega) (by omega); omega
  have hfo := run_firstCells_some (P := Try.prog) w.drew 1 n ⟨g, 0, none⟩ n cap olds (by omega) (by simpa using holds)
  have ha : ∀ w' : World, (asInt (.int .i64 15)).run Try.prog w' = .ok 15 w' := fun _ => rfl
  simp [Builtin.append_, run_underlying Try.underlying22, run_underlying Try.underlying3, sizeOf, typeInfo, hi, h1, h8, ha, wrap15, hn', h63', h48', zeroValue, hz, Value.cells, zero15, Question.forced, hfo, newRow, grownCap]
  congr 2
  apply Array.ext'
  simp [List.append_assoc]

set_option maxRecDepth 100000 in
theorem appendMake {ops : Array Oper} {rest : List Oper} {o : Oper} {a : Act} {Q : Exit → Act → World → Prop} (hgd : o.guard = none) (s : Operand)
    (ho : o.op = .call { callee := .builtin .append, args := #[s, .const (.int .i64 15)], argTypes := #[22, 3] }) (w : World)
    (base : Nat) (v : Value) (zs : List Int) (hs : a.eval s = v) (hown : OwnI w base v zs) (hn : zs.length ≤ 1000000) (hbase : base ≤ w.heap.size)
    (h : ∀ g cap w', OwnI w' base (.slice (some ⟨g, 0, none⟩) (zs.length + 15) cap) (zs ++ z15) → w.grownBy w' v.ownBlock → wpList Try.prog ops Q rest (a.put o.dst (.slice (some ⟨g, 0, none⟩) (zs.length + 15) cap)) w') :
    wpList Try.prog ops Q (o :: rest) a w := by
  refine wpList_plain hgd fun _ hK => ?_
  obtain ⟨i, hi, hz, h1, h8⟩ := info_parts info_int
  have hx : a.eval (.const (.int .i64 15)) = .int .i64 15 := rfl
  obtain ⟨ho1, g0, cap0, rfl⟩ := hown
  have hl : (zs ++ z15).length = zs.length + 15 := by rw [List.length_append]; rfl
  have hm : (zs ++ z15).map (Value.int .i64) = zs.map (Value.int .i64) ++ v15 := by rw [List.map_append]; rfl
  have hlz : (zs.map (Value.int .i64)).length = zs.length := by simp
  have hown := ho1
  rcases hown.2 with ⟨h', _⟩ | ⟨g, cap, cur, h', hbg, hg, hnc, hcm, hcs, htake⟩
  · cases h'
  · simp only [Value.slice.injEq, Option.some.injEq, Addr.mk.injEq, and_true, true_and] at h'
    obtain ⟨rfl, rfl⟩ := h'
    have fin : ∀ (g cap : Nat) (w' : World), w'.ownsRow base 3 1 (.slice (some ⟨g, 0, none⟩) (zs.length + 15) cap) (zs.length + 15) (zs.map (Value.int .i64) ++ v15) → OwnI w' base (.slice (some ⟨g, 0, none⟩) (zs.length + 15) cap) (zs ++ z15) := by
      intro g cap w' hh
      unfold OwnI
      rw [hl, hm]
      exact ⟨hh, _, _, rfl⟩
    by_cases hroom : zs.length + 15 ≤ cap0
    · have hr := run_make_room o.type w i hi hz h1 h8 g0 zs.length cap0 cur hg hroom (by omega)
      unfold Oper.wp execOp
      simp only [ho, resolve, invoke, builtin, Sem.run_bind, Sem.run_pure, Result.andThen_ok, List.map_toArray, List.map_cons, List.map_nil, hs, hx, hr]
      refine hK _ _ (h g0 cap0 _ (fin _ _ _ ⟨by rw [List.length_append, len15, hlz]; omega, .inr ⟨g0, cap0, _, rfl, hbg, setRow_heap w g0 cur _ 3 _ hg, hroom, hcm, ?_, ?_⟩⟩) ⟨rfl, rfl, rfl, by simp, fun k _ hk => setRow_other w g0 k _ (fun e => hk (by simp [Value.ownBlock, e]))⟩)
      · simp only [List.size_toArray, List.length_append, List.length_take, List.length_drop, Array.length_toList, len15]
        omega
      · have ht : cur.toList.take zs.length = zs.map (Value.int .i64) := by simpa using htake
        rw [ht, show (zs.length + 15) * 1 = (zs.map (Value.int .i64) ++ v15).length from by rw [List.length_append, len15, hlz]; omega]
        exact List.take_left
    · have hr := run_make_grow o.type w i hi hz h1 h8 g0 zs.length cap0 (zs.map (Value.int .i64)) hlz (hown.cells (g := g0) rfl) (by omega) hn
      unfold Oper.wp execOp
      simp only [ho, resolve, invoke, builtin, Sem.run_bind, Sem.run_pure, Result.andThen_ok, List.map_toArray, List.map_cons, List.map_nil, hs, hx, hr]
      have hge := grownCap_ge w (zs.length + 15) cap0 3
      have hcm' : grownCap w (zs.length + 15) cap0 3 ≤ maxLen := grownCap_le_maxLen w (zs.length + 15) cap0 3 (by unfold maxLen; omega)
      refine hK _ _ (h _ _ _ (fin _ _ _ ⟨by rw [List.length_append, len15, hlz]; omega, .inr ⟨w.heap.size, _, _, rfl, hbase, heap_alloc_new w.drew _, hge, hcm', ?_, ?_⟩⟩) ⟨rfl, rfl, rfl, by simp, fun k hk _ => heap_alloc_old w.drew _ hk⟩)
      · simp only [Array.size_append, List.size_toArray, size_zeroCells, hlz, len15]
        simp
        omega
      · simp only [Array.toList_append]
        rw [show (zs.length + 15) * 1 = (zs.map (Value.int .i64) ++ v15).length from by rw [List.length_append, len15, hlz]; omega]
        exact List.take_left
end Go.Proofs.Ytohnodphlaoohaa
