/- Voters that the reference draws, beside a floor. -/
import Derived.Test.YtohnodphlaoohaaDrawVx
import Derived.Test.YtohnodphlaoohaaDrawVp
import Derived.Test.YtohnodphlaoohaaDraw6
namespace Go.Proofs.Ytohnodphlaoohaa
open Go.RowKit
set_option linter.unusedVariables false
set_option linter.unusedSimpArgs false
/-- A voter that was drawn, in its box at x; the zero voter of the result; the reader. -/
structure Vx (w : World) (r P x : Nat) (f : Int) (A : Option Addr) (c : Nat) (bs : List VVote) (W : World) : Prop where
  rd : RdAt W r r P
  be : Below w.heap.size w W
  zb : Box W w.heap.size 50 #[.int .i64 0, .slice none 0 0]
  xb : Box W x 50 #[.int .i64 f, .slice A bs.length c]
  own : NilOr W (r + 1) A c bs
  hr : w.heap.size < r
  hx : r < x
section
variable {w W W' : World} {r P P' x : Nat} {f : Int} {A : Option Addr} {c : Nat} {bs : List VVote}
theorem Vx.grown (h : Vx w r P x f A c bs W) (hg : W.grownBy W' (some r)) (hr : RdAt W' r r P') : Vx w r P' x f A c bs W' := by
  have h1 := h.hr
  have h2 := h.hx
  have h3 := h.be.size
  exact ⟨hr, h.be.trans (gr_to_below hg (by omega) h3), h.zb.grown hg (fun k hk => by injection hk; omega), h.xb.grown hg (fun k hk => by injection hk; omega), h.own.kept hg (fun k hk => by injection hk; omega), h.hr, h.hx⟩
theorem Vx.carry (h : Vx w r P x f A c bs W) (hb : Below W.heap.size W W') : Vx w r P x f A c bs W' :=
  ⟨h.rd.carry hb, next h.be hb, h.zb.carry hb, h.xb.carry hb, h.own.carry hb, h.hr, h.hx⟩
theorem Vx.cells (h : Vx w r P x f A c bs W) : W.cell? ⟨x, 0, none⟩ = some (.int .i64 f) ∧ W.cell? ⟨x, 1, none⟩ = some (.slice A bs.length c) := ⟨h.xb.cell rfl, h.xb.cell rfl⟩
theorem Two.set2 {q r x j j' : Nat} {v0 v1 u u' : Value} {W : World} (h : W.cell? ⟨x, 0, none⟩ = some v0 ∧ W.cell? ⟨x, 1, none⟩ = some v1) (hq : q < r) (hx : r < x) :
    ((W.setCell ⟨q, j, none⟩ u).setCell ⟨q, j', none⟩ u').cell? ⟨x, 0, none⟩ = some v0 ∧ ((W.setCell ⟨q, j, none⟩ u).setCell ⟨q, j', none⟩ u').cell? ⟨x, 1, none⟩ = some v1 :=
  ⟨cell_oth2 (by omega) h.1, cell_oth2 (by omega) h.2⟩
theorem Vx.zero (h : Vx w r P x f A c bs W) : (W.cell? ⟨w.heap.size, 0, none⟩ = some (.int .i64 0) ∧ W.frozen? ⟨w.heap.size, 0, none⟩ = false) ∧ W.cell? ⟨w.heap.size, 1, none⟩ = some (.slice none 0 0) ∧ W.frozen? ⟨w.heap.size, 1, none⟩ = false := ⟨⟨h.zb.cell rfl, h.zb.free 0⟩, h.zb.cell rfl, h.zb.free 1⟩
theorem Vx.start {w1 w2 : World} (hz : Box w1 w.heap.size 50 #[.int .i64 0, .slice none 0 0]) (hb : Below w.heap.size w w1) (hr : w.heap.size < r) (h1 : r < w1.heap.size)
    (ho : NilOr w2 (w1.heap.size + 1) A c bs) (hrd : RdAt w2 r r P) (hg : w1.grownBy w2 (some r)) :
    Vx w r P w2.heap.size f A c bs (w2.alloc (.cells #[.int .i64 f, .slice A bs.length c] 50)) := by
  have h2 := hg.size
  have h3 := hb.size
  have b2 := hb.trans (gr_to_below hg (by omega) h3)
  exact ⟨hrd.carry (allocB _ _), next b2 (allocB _ _), (hz.grown hg (fun k hk => by injection hk; omega)).carry (allocB _ _), Box.new _ _ _, (ho.lower (by omega)).carry (allocB _ _), hr, by omega⟩
theorem Vx.fin (h : Vx w r P x f A c bs W) (hl : bs.length ≤ 60) (n : Int) :
    DrawnVF w (.returned (.tuple #[.agg #[.int .i64 f, .slice A bs.length c], .int .i64 n])) ((W.setCell ⟨w.heap.size, 0, none⟩ (.int .i64 f)).setCell ⟨w.heap.size, 1, none⟩ (.slice A bs.length c)) := by
  have h1 := h.hr
  exact ⟨f, A, c, bs, n, rfl, hl, ((h.own.low (by omega)).low (by omega)).lst, (h.be.setCell (Nat.le_refl _) _).setCell (Nat.le_refl _) _⟩
end
set_option maxHeartbeats 8000000 in
theorem s_DrawVoterForget (A : Option Addr) (c : Nat) (zs : List Int) (w : World) (h : Bytes w w.heap.size A zs) (hc : zs.length ≤ c) (hn : zs.length ≤ 1048576) :
    Calls Try.prog 31 #[.slice A zs.length c] w (DrawnVF w) := by
  have H := Lib.hid h
  clear h
  go_enter Try.func31, Try.ntmps31
  go_wp2_with fail
  refine (l6Open_any _ _ _ _ ((H.out.below (allocB w _)).more (by simp)) hc hn).mono ?_
  rintro e w1 ⟨rfl, r1, b1, s1⟩
  have o1 := (Box.new w #[.int .i64 0, .slice none 0 0] 50).carry b1
  have bw := (allocB w _).trans (b1.mono (by simp))
  have hs1 : w.heap.size + 1 < w1.heap.size := by simp at s1; omega
  simp at r1
  have R1 := Lib.hid r1
  have O1 := Lib.hid o1
  have BW := Lib.hid bw
  clear r1 b1 s1 o1 bw
  go_wp2_with fail
  refine (s_l92Voter _ _ _ _ R1.out (by omega)).mono ?_
  rintro e w2 ⟨f, A2, c2, bs, rfl, hl, ho, r2, g2⟩
  have S2 := Lib.hid (Vx.start (f := f) O1.out BW.out (by omega) hs1 ho r2 g2)
  clear ho r2 g2 R1 O1 BW
  go_wp2_with fail
  have hxr := S2.out.hr
  have hxx := S2.out.hx
  generalize w2.alloc (.cells #[.int .i64 f, .slice A2 bs.length c2] 50) = w3 at S2 ⊢
  generalize w2.heap.size = x at S2 hxx ⊢
  have hS0 : TwoX x f A2 bs.length c2 ({ w3 with drawn := w3.drawn + 1 } : World) := (S2.out.carry (Below.refl w3.heap.size w3).drew).cells
  have S0 := Lib.hid (show Vx w (w.heap.size + 1) (0 + 300) x f A2 c2 bs ({ w3 with drawn := w3.drawn + 1 } : World) from S2.out.carry (Below.refl w3.heap.size w3).drew)
  refine wp_region_held (S := TwoX x f A2 bs.length c2) (by kernel_rfl) ?_
  clear S2
  generalize ({ w3 with drawn := w3.drawn + 1 } : World) = v0 at hS0 S0 ⊢
  refine wpAnyH_take (i := 0) (v := ?v20) rfl (by kernel_rfl) (by kernel_rfl) (by kernel_rfl) (fun _ _ _ h => h) (Or.inl ⟨by rfl, ?hy20⟩) hS0 ?rest20
  case hy20 =>
    intro W hW
    have c0 := hW.1
    have c1 := hW.2
    go_simp
    try with_reducible rfl
  try simp only [Act.put, List.setIfInBounds_toArray, List.set_cons_zero, List.set_cons_succ]
  refine wpAnyH_take (i := 1) (v := ?v21) rfl (by kernel_rfl) (by kernel_rfl) (by kernel_rfl) (fun _ _ _ h => h) (Or.inl ⟨by rfl, ?hy21⟩) hS0 ?rest21
  case hy21 =>
    intro W hW
    go_simp
    try with_reducible rfl
  try simp only [Act.put, List.setIfInBounds_toArray, List.set_cons_zero, List.set_cons_succ]
  refine wpAnyH_take (i := 2) (v := ?v22) rfl (by kernel_rfl) (by kernel_rfl) (by kernel_rfl) (fun _ _ _ h => h) (Or.inl ⟨by rfl, ?hy22⟩) hS0 ?rest22
  case hy22 =>
    intro W hW
    have c0 := hW.1
    have c1 := hW.2
    go_simp
    try with_reducible rfl
  try simp only [Act.put, List.setIfInBounds_toArray, List.set_cons_zero, List.set_cons_succ]
  refine wpAnyH_take (i := 3) (v := ?v23) rfl (by kernel_rfl) (by kernel_rfl) (by kernel_rfl) (fun _ _ _ h => h) (Or.inl ⟨by rfl, ?hy23⟩) hS0 ?rest23
  case hy23 =>
    intro W hW
    go_simp
    try with_reducible rfl
  try simp only [Act.put, List.setIfInBounds_toArray, List.set_cons_zero, List.set_cons_succ]
  refine wpAnyH_take (i := 6) (v := ?v24) rfl (by kernel_rfl) (by kernel_rfl) (by kernel_rfl) (fun _ _ _ h => h) (Or.inl ⟨by rfl, ?hy24⟩) hS0 ?rest24
  case hy24 =>
    intro W hW
    go_simp
    try with_reducible rfl
  try simp only [Act.put, List.setIfInBounds_toArray, List.set_cons_zero, List.set_cons_succ]
  refine wpAnyH_take (i := 11) (v := ?v25) rfl (by kernel_rfl) (by kernel_rfl) (by kernel_rfl) (fun _ _ _ h => h) (Or.inl ⟨by rfl, ?hy25⟩) hS0 ?rest25
  case hy25 =>
    intro W hW
    go_simp
    try with_reducible rfl
  try simp only [Act.put, List.setIfInBounds_toArray, List.set_cons_zero, List.set_cons_succ]
  refine wpAnyH_ready (rs := [4]) (by kernel_rfl) (by simp) ?_
  refine AllReadyH.cons rfl (fun K hK => ?_) AllReadyH.nil
  go_simp
  refine (pick_any _ _ _ _ 6 S0.out.rd (by omega)).mono ?_
  rintro e v1 ⟨q1, rfl, _, _, _, hr1, hg1, _⟩
  have S1 := Lib.hid (S0.out.grown hg1 hr1)
  have hS1 : TwoX x f A2 bs.length c2 v1 := S1.out.cells
  clear hr1 hg1 S0 hS0
  dsimp only
  refine hK.out _ _ hS1 (fun _ => ?_)
  clear hK K
  try simp only [Act.put, List.setIfInBounds_toArray, List.set_cons_zero, List.set_cons_succ]
  refine wpAnyH_take (i := 5) (v := ?v26) rfl (by kernel_rfl) (by kernel_rfl) (by kernel_rfl) (fun _ _ _ h => h) (Or.inl ⟨by rfl, ?hy26⟩) hS1 ?rest26
  case hy26 =>
    intro W hW
    go_simp
    try with_reducible rfl
  try simp only [Act.put, List.setIfInBounds_toArray, List.set_cons_zero, List.set_cons_succ]
  refine wpAnyH_ready (rs := [7]) (by kernel_rfl) (by simp) ?_
  refine AllReadyH.cons rfl (fun K hK => ?_) AllReadyH.nil
  go_simp
  refine (pick_any _ _ _ _ 12 S1.out.rd (by omega)).mono ?_
  rintro e v2 ⟨q2, rfl, _, _, _, hr2, hg2, _⟩
  have S2 := Lib.hid (S1.out.grown hg2 hr2)
  have hS2 : TwoX x f A2 bs.length c2 v2 := S2.out.cells
  clear hr2 hg2 S1 hS1
  dsimp only
  refine hK.out _ _ hS2 (fun _ => ?_)
  clear hK K
  try simp only [Act.put, List.setIfInBounds_toArray, List.set_cons_zero, List.set_cons_succ]
  refine wpAnyH_take (i := 8) (v := ?v27) rfl (by kernel_rfl) (by kernel_rfl) (by kernel_rfl) (fun _ _ _ h => h) (Or.inl ⟨by rfl, ?hy27⟩) hS2 ?rest27
  case hy27 =>
    intro W hW
    go_simp
    try with_reducible rfl
  try simp only [Act.put, List.setIfInBounds_toArray, List.set_cons_zero, List.set_cons_succ]
  refine wpAnyH_take (i := 9) (v := ?v28) rfl (by kernel_rfl) (by kernel_rfl) (by kernel_rfl) (fun _ _ _ h => h) (Or.inl ⟨by rfl, ?hy28⟩) hS2 ?rest28
  case hy28 =>
    intro W hW
    go_simp
    try with_reducible rfl
  try simp only [Act.put, List.setIfInBounds_toArray, List.set_cons_zero, List.set_cons_succ]
  refine wpAnyH_take (i := 10) (v := ?v29) rfl (by kernel_rfl) (by kernel_rfl) (by kernel_rfl) (fun _ _ _ h => h) (Or.inl ⟨by rfl, ?hy29⟩) hS2 ?rest29
  case hy29 =>
    intro W hW
    go_simp
    try with_reducible rfl
  try simp only [Act.put, List.setIfInBounds_toArray, List.set_cons_zero, List.set_cons_succ]
  refine wpAnyH_ready (rs := [12]) (by kernel_rfl) (by simp) ?_
  refine AllReadyH.cons rfl (fun K hK => ?_) AllReadyH.nil
  go_simp
  refine (pick_any _ _ _ _ 20 S2.out.rd (by omega)).mono ?_
  rintro e v3 ⟨q3, rfl, _, _, _, hr3, hg3, _⟩
  have S3 := Lib.hid (S2.out.grown hg3 hr3)
  have hS3 : TwoX x f A2 bs.length c2 v3 := S3.out.cells
  clear hr3 hg3 S2 hS2
  dsimp only
  refine hK.out _ _ hS3 (fun _ => ?_)
  clear hK K
  try simp only [Act.put, List.setIfInBounds_toArray, List.set_cons_zero, List.set_cons_succ]
  refine wpAnyH_take (i := 13) (v := ?v30) rfl (by kernel_rfl) (by kernel_rfl) (by kernel_rfl) (fun _ _ _ h => h) (Or.inl ⟨by rfl, ?hy30⟩) hS3 ?rest30
  case hy30 =>
    intro W hW
    go_simp
    try with_reducible rfl
  try simp only [Act.put, List.setIfInBounds_toArray, List.set_cons_zero, List.set_cons_succ]
  refine wpAnyH_take (i := 14) (v := ?v31) rfl (by kernel_rfl) (by kernel_rfl) (by kernel_rfl) (fun _ _ _ h => h) (Or.inl ⟨by rfl, ?hy31⟩) hS3 ?rest31
  case hy31 =>
    intro W hW
    go_simp
    try with_reducible rfl
  try simp only [Act.put, List.setIfInBounds_toArray, List.set_cons_zero, List.set_cons_succ]
  refine wpAnyH_take (i := 15) (v := ?v32) rfl (by kernel_rfl) (by kernel_rfl) (by kernel_rfl) (fun _ _ _ h => h) (Or.inl ⟨by rfl, ?hy32⟩) hS3 ?rest32
  case hy32 =>
    intro W hW
    go_simp
    try with_reducible rfl
  try simp only [Act.put, List.setIfInBounds_toArray, List.set_cons_zero, List.set_cons_succ]
  obtain ⟨⟨z0, zf0⟩, z1, zf1⟩ := S3.out.zero
  refine wpAnyH_ready (rs := [16]) (by kernel_rfl) (by simp) ?_
  refine AllReadyH.cons rfl (fun K hK => ?_) AllReadyH.nil
  go_simp
  have hS4 : TwoX x f A2 bs.length c2 ((v3.setCell ⟨w.heap.size, 0, none⟩ (.int .i64 f)).setCell ⟨w.heap.size, 1, none⟩ (.slice A2 bs.length c2)) := Two.set2 S3.out.cells hxr hxx
  refine hK.out _ _ hS4 (fun _ => ?_)
  clear hK K
  try simp only [Act.put, List.setIfInBounds_toArray, List.set_cons_zero, List.set_cons_succ]
  refine wpAnyH_take (i := 17) (v := ?v33) rfl (by kernel_rfl) (by kernel_rfl) (by kernel_rfl) (fun _ _ _ h => h) (Or.inl ⟨by rfl, ?hy33⟩) hS4 ?rest33
  case hy33 =>
    intro W hW
    go_simp
    try with_reducible rfl
  try simp only [Act.put, List.setIfInBounds_toArray, List.set_cons_zero, List.set_cons_succ]
  simp only [Act.put, List.getElem_toArray, List.getElem_cons_succ, List.getElem_cons_zero, List.setIfInBounds_toArray, List.set_cons_zero, List.set_cons_succ]
  refine wpAnyH_done (by kernel_rfl) ?_ _
  have y0 : ((v3.setCell ⟨w.heap.size, 0, none⟩ (.int .i64 f)).setCell ⟨w.heap.size, 1, none⟩ (.slice A2 bs.length c2)).cell? ⟨w.heap.size, 0, none⟩ = some (.int .i64 f) := by go_simp
  have y1 : ((v3.setCell ⟨w.heap.size, 0, none⟩ (.int .i64 f)).setCell ⟨w.heap.size, 1, none⟩ (.slice A2 bs.length c2)).cell? ⟨w.heap.size, 1, none⟩ = some (.slice A2 bs.length c2) := by go_simp
  go_wp2_with fail
  exact bodyPost_ret (v := .tuple #[.agg #[.int .i64 f, .slice A2 bs.length c2], .int .i64 (IntKind.i64.wrap (IntKind.i64.wrap (IntKind.i64.wrap (f + q1) - IntKind.i64.wrap (IntKind.i64.wrap (q2.tdiv 11) * 3)) + IntKind.i64.wrap (IntKind.i64.wrap (q3.tdiv 19) * 30)))]) (by simp [results, Try.results31, go_sem, *]) rfl (S3.out.fin (by omega) _)
end Go.Proofs.Ytohnodphlaoohaa
