/- VoterSign of the reference, by a weak contract. -/
import Derived.Test.YtohnodphlaoohaaSignS
import Derived.Test.YtohnodphlaoohaaVoterV
namespace Go.Proofs.Ytohnodphlaoohaa
open Go.RowKit
set_option linter.unusedVariables false

/-- A list that is nil or lies in the call's own memory. -/
def NilOr (w : World) (base : Nat) (A : Option Addr) (c : Nat) (ks : List VVote) : Prop := (A = none ∧ ks = [] ∧ c = 0) ∨ OwnVote w base (.slice A ks.length c) ks
/-- What VoterSign hands back: a voter whose list is nil or in new memory. -/
def SignV (w : World) (bs : List VVote) (e : Ending) (w' : World) : Prop :=
  ∃ (f : Int) (A : Option Addr) (c : Nat) (ks : List VVote) (q : Bool), e = .returned (.tuple #[.agg #[.int .i64 f, .slice A ks.length c], .bool q]) ∧ ks.length ≤ bs.length + 1 ∧ NilOr w' w.heap.size A c ks ∧ Below w.heap.size w w'
set_option maxHeartbeats 16000000 in
set_option maxRecDepth 100000 in
theorem s_VoterSign (f : Int) (A : Option Addr) (c : Nat) (bs : List VVote) (b : VVote) (w : World) (h : LstVote w w.heap.size A bs) (hA : (A = none ∧ bs = [] ∧ c = 0) ∨ ∃ ga, A = some ⟨ga, 0, none⟩ ∧ bs.length ≤ c) (hn : bs.length ≤ 60) :
    Calls Try.prog 120 #[.agg #[.int .i64 f, .slice A bs.length c], .agg #[.int .i64 b.r, .int .i64 b.a, .int .i64 b.d]] w (SignV w bs) := by
  have ba := allocB3 w (.cells #[.int .i64 f, .slice A bs.length c] 50) (.cells #[.int .i64 b.r, .int .i64 b.a, .int .i64 b.d] 35) (.cells #[.int .i64 0, .slice none 0 0] 50)
  have XB := Lib.hid (((Box.new w #[.int .i64 f, .slice A bs.length c] 50).carry (allocB _ (.cells #[.int .i64 b.r, .int .i64 b.a, .int .i64 b.d] 35))).carry (allocB _ (.cells #[.int .i64 0, .slice none 0 0] 50)))
  have YB := Lib.hid (show Box (((w.alloc (.cells #[.int .i64 f, .slice A bs.length c] 50)).alloc (.cells #[.int .i64 b.r, .int .i64 b.a, .int .i64 b.d] 35)).alloc (.cells #[.int .i64 0, .slice none 0 0] 50)) (w.heap.size + 1) 35 #[.int .i64 b.r, .int .i64 b.a, .int .i64 b.d] from by
    have := (Box.new (w.alloc (.cells #[.int .i64 f, .slice A bs.length c] 50)) #[.int .i64 b.r, .int .i64 b.a, .int .i64 b.d] 35).carry (allocB _ (.cells #[.int .i64 0, .slice none 0 0] 50))
    simpa using this)
  have OB := Lib.hid (show Box (((w.alloc (.cells #[.int .i64 f, .slice A bs.length c] 50)).alloc (.cells #[.int .i64 b.r, .int .i64 b.a, .int .i64 b.d] 35)).alloc (.cells #[.int .i64 0, .slice none 0 0] 50)) (w.heap.size + 2) 50 #[.int .i64 0, .slice none 0 0] from by
    have := Box.new ((w.alloc (.cells #[.int .i64 f, .slice A bs.length c] 50)).alloc (.cells #[.int .i64 b.r, .int .i64 b.a, .int .i64 b.d] 35)) #[.int .i64 0, .slice none 0 0] 50
    simpa using this)
  have HP := Lib.hid (h.carry ba)
  have BB := Lib.hid ba
  have HA := Lib.hid hA
  clear h ba hA
  rcases hv : voterB f bs with _ | _
  · go_enter Try.func120, Try.ntmps120
    go_wp2_with fail
    refine (s_VoterValid _ _ _ bs _ HP.out (by omega)).mono ?_
    rw [hv]
    rintro e w1 ⟨rfl, b1⟩
    replace XB := Lib.hid (XB.out.carry b1)
    replace YB := Lib.hid (YB.out.carry b1)
    replace OB := Lib.hid (OB.out.carry b1)
    replace HP := Lib.hid (HP.out.carry b1)
    replace BB := Lib.hid (next BB.out b1)
    clear b1
    have o0 := OB.out.cell (j := 0) (u := .int .i64 0) rfl
    have o1 := OB.out.cell (j := 1) (u := .slice none 0 0) rfl
    have of0 := OB.out.free 0
    have of1 := OB.out.free 1
    go_wp2_with fail
    refine bodyPost_ret (v := .tuple #[.agg #[.int .i64 0, .slice none 0 0], .bool false]) (by simp [results, Try.results120, go_sem, *]) rfl ⟨0, none, 0, [], false, rfl, by simp, .inl ⟨rfl, rfl, rfl⟩, ?_⟩
    exact (BB.out.setCell (by show w.heap.size ≤ w.heap.size + 2; omega) _).setCell (by show w.heap.size ≤ w.heap.size + 2; omega) _
  rcases hb : voteB b.r b.a b.d with _ | _
  · go_enter Try.func120, Try.ntmps120
    go_wp2_with fail
    refine (s_VoterValid _ _ _ bs _ HP.out (by omega)).mono ?_
    rw [hv]
    rintro e w1 ⟨rfl, b1⟩
    replace XB := Lib.hid (XB.out.carry b1)
    replace YB := Lib.hid (YB.out.carry b1)
    replace OB := Lib.hid (OB.out.carry b1)
    replace HP := Lib.hid (HP.out.carry b1)
    replace BB := Lib.hid (next BB.out b1)
    clear b1
    have y0 := YB.out.cell (j := 0) (u := .int .i64 b.r) rfl
    have y1 := YB.out.cell (j := 1) (u := .int .i64 b.a) rfl
    have y2 := YB.out.cell (j := 2) (u := .int .i64 b.d) rfl
    go_wp2_with fail
    refine (s_l12Vote _ _ _ _).mono ?_
    rw [show voteB b.r b.a b.d = false from hb]
    rintro e w2 ⟨rfl, b2⟩
    clear y0 y1 y2
    replace XB := Lib.hid (XB.out.carry b2)
    replace YB := Lib.hid (YB.out.carry b2)
    replace OB := Lib.hid (OB.out.carry b2)
    replace HP := Lib.hid (HP.out.carry b2)
    replace BB := Lib.hid (next BB.out b2)
    clear b2
    have o0 := OB.out.cell (j := 0) (u := .int .i64 0) rfl
    have o1 := OB.out.cell (j := 1) (u := .slice none 0 0) rfl
    have of0 := OB.out.free 0
    have of1 := OB.out.free 1
    go_wp2_with fail
    refine bodyPost_ret (v := .tuple #[.agg #[.int .i64 0, .slice none 0 0], .bool false]) (by simp [results, Try.results120, go_sem, *]) rfl ⟨0, none, 0, [], false, rfl, by simp, .inl ⟨rfl, rfl, rfl⟩, ?_⟩
    exact (BB.out.setCell (by show w.heap.size ≤ w.heap.size + 2; omega) _).setCell (by show w.heap.size ≤ w.heap.size + 2; omega) _
  go_enter Try.func120, Try.ntmps120
  go_wp2_with fail
  refine (s_VoterValid _ _ _ bs _ HP.out (by omega)).mono ?_
  rw [hv]
  rintro e w1 ⟨rfl, b1⟩
  replace XB := Lib.hid (XB.out.carry b1)
  replace YB := Lib.hid (YB.out.carry b1)
  replace OB := Lib.hid (OB.out.carry b1)
  replace HP := Lib.hid (HP.out.carry b1)
  replace BB := Lib.hid (next BB.out b1)
  clear b1
  have y0 := YB.out.cell (j := 0) (u := .int .i64 b.r) rfl
  have y1 := YB.out.cell (j := 1) (u := .int .i64 b.a) rfl
  have y2 := YB.out.cell (j := 2) (u := .int .i64 b.d) rfl
  go_wp2_with fail
  refine (s_l12Vote _ _ _ _).mono ?_
  rw [show voteB b.r b.a b.d = true from hb]
  rintro e w2 ⟨rfl, b2⟩
  clear y0 y1 y2
  replace XB := Lib.hid (XB.out.carry b2)
  replace YB := Lib.hid (YB.out.carry b2)
  replace OB := Lib.hid (OB.out.carry b2)
  replace HP := Lib.hid (HP.out.carry b2)
  replace BB := Lib.hid (next BB.out b2)
  clear b2
  have y0 := YB.out.cell (j := 0) (u := .int .i64 b.r) rfl
  have y1 := YB.out.cell (j := 1) (u := .int .i64 b.a) rfl
  have y2 := YB.out.cell (j := 2) (u := .int .i64 b.d) rfl
  have x0 := XB.out.cell (j := 0) (u := .int .i64 f) rfl
  have x1 := XB.out.cell (j := 1) (u := .slice A bs.length c) rfl
  rcases HA.out with ⟨rfl, rfl, rfl⟩ | ⟨ga, rfl, hcl⟩
  · have HS := Lib.hid (s_l12Sign_nil f b w2)
    go_wp2_with fail
    refine HS.out.mono ?_
    rintro e w3 ⟨g, cap, ks, q, rfl, hkl, ho, b3⟩
    have hz := BB.out.size
    replace OB := Lib.hid (OB.out.carry b3)
    replace BB := Lib.hid (next BB.out b3)
    have HO := Lib.hid ho
    have hzo := hz
    clear ho b3 x0 x1 y0 y1 y2 HS
    have hne := Own.ne_box HO.out OB.out (by decide)
    have o0 := OB.out.cell (j := 0) (u := .int .i64 0) rfl
    have o1 := OB.out.cell (j := 1) (u := .slice none 0 0) rfl
    have of0 := OB.out.free 0
    have of1 := OB.out.free 1
    go_wp2_with fail
    refine bodyPost_ret (v := .tuple #[.agg #[.int .i64 f, .slice (some ⟨g, 0, none⟩) ks.length cap], .bool q]) (by simp [results, Try.results120, go_sem, *]) rfl ⟨f, some ⟨g, 0, none⟩, cap, ks, q, rfl, by (try simp only [List.length_nil] at hkl ⊢); omega, .inr ?_, ?_⟩
    · exact Own.setOther (Own.setOther (Own.lower HO.out hz) hne) hne
    · exact (BB.out.setCell (by show w.heap.size ≤ w.heap.size + 2; omega) _).setCell (by show w.heap.size ≤ w.heap.size + 2; omega) _
  · have HS := Lib.hid (s_l12Sign f ga c bs b w2 HP.out hcl hn)
    go_wp2_with fail
    refine HS.out.mono ?_
    rintro e w3 ⟨g, cap, ks, q, rfl, hkl, ho, b3⟩
    have hz := BB.out.size
    replace OB := Lib.hid (OB.out.carry b3)
    replace BB := Lib.hid (next BB.out b3)
    have HO := Lib.hid ho
    have hzo := hz
    clear ho b3 x0 x1 y0 y1 y2 HS
    have hne := Own.ne_box HO.out OB.out (by decide)
    have o0 := OB.out.cell (j := 0) (u := .int .i64 0) rfl
    have o1 := OB.out.cell (j := 1) (u := .slice none 0 0) rfl
    have of0 := OB.out.free 0
    have of1 := OB.out.free 1
    go_wp2_with fail
    refine bodyPost_ret (v := .tuple #[.agg #[.int .i64 f, .slice (some ⟨g, 0, none⟩) ks.length cap], .bool q]) (by simp [results, Try.results120, go_sem, *]) rfl ⟨f, some ⟨g, 0, none⟩, cap, ks, q, rfl, by (try simp only [List.length_nil] at hkl ⊢); omega, .inr ?_, ?_⟩
    · exact Own.setOther (Own.setOther (Own.lower HO.out hz) hne) hne
    · exact (BB.out.setCell (by show w.heap.size ≤ w.heap.size + 2; omega) _).setCell (by show w.heap.size ≤ w.heap.size + 2; omega) _
end Go.Proofs.Ytohnodphlaoohaa
