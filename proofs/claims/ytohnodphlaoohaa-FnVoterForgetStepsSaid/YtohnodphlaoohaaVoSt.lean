/- A voter under way in the reference's drawing: its list is nil or own. -/
import Derived.Test.YtohnodphlaoohaaVoSign
import Derived.Test.YtohnodphlaoohaaDrawV
namespace Go.Proofs.Ytohnodphlaoohaa
open Go.RowKit
set_option linter.unusedVariables false

section
variable {w W W' : World} {base base' : Nat} {A : Option Addr} {c : Nat} {ks : List VVote}
theorem NilOr.form (h : NilOr w base A c ks) : (A = none ∧ ks = [] ∧ c = 0) ∨ ∃ g, A = some ⟨g, 0, none⟩ ∧ ks.length ≤ c := by
  rcases h with h | h
  · exact .inl h
  · obtain ⟨g, cap, e⟩ := h.2
    simp only [Value.slice.injEq] at e
    obtain ⟨rfl, _, rfl⟩ := e
    exact .inr ⟨g, rfl, h.up.2.2⟩
theorem NilOr.carry (h : NilOr W base A c ks) (hb : Below W.heap.size W W') : NilOr W' base A c ks := h.imp id fun h => h.carry hb
theorem NilOr.kept {row : Option Nat} (h : NilOr W base A c ks) (hg : W.grownBy W' row) (hne : ∀ g, row = some g → g < base) : NilOr W' base A c ks := h.imp id fun h => h.kept hg hne
theorem NilOr.lower (h : NilOr W base A c ks) (hb : base' ≤ base) : NilOr W base' A c ks := h.imp id fun h => Own.lower h hb
theorem NilOr.lst (h : NilOr W base A c ks) : LstVote W W.heap.size A ks := by
  rcases h.form with ⟨_, rfl, _⟩ | ⟨g, rfl, _⟩
  · exact fun hn => absurd rfl hn
  · rcases h with ⟨h, _⟩ | h
    · cases h
    · exact h.up.2.1.lst
theorem NilOr.box {F j : Nat} {t : TypeId} {vs : Array Value} {u : Value} (h : NilOr W base A c ks) (hb : Box W F t vs) (hne : 35 ≠ t) : NilOr (W.setCell ⟨F, j, none⟩ u) base A c ks := by
  rcases h with h | h
  · exact .inl h
  · rcases (NilOr.form (.inr h)) with ⟨rfl, _, _⟩ | ⟨g, rfl, _⟩
    · obtain ⟨_, _, e⟩ := h.2; simp at e
    · exact .inr (Own.setOther h (Own.ne_box h hb hne))
theorem NilOr.low {F j : Nat} {u : Value} (h : NilOr W base A c ks) (hF : F < base) : NilOr (W.setCell ⟨F, j, none⟩ u) base A c ks := by
  rcases h with h | h
  · exact .inl h
  · rcases (NilOr.form (.inr h)) with ⟨rfl, _, _⟩ | ⟨g, rfl, _⟩
    · obtain ⟨_, _, e⟩ := h.2; simp at e
    · have := Own.base_le h g rfl
      exact .inr (Own.setOther h (by omega))
theorem NilOr.row (h : NilOr W base A c ks) : W.ownsRow base 35 3 (.slice A ks.length c) ks.length (cellsVote ks) := by
  rcases h with ⟨rfl, rfl, rfl⟩ | h
  · exact ⟨rfl, .inl ⟨rfl, rfl⟩⟩
  · exact h.1
end
/-- An append of something to a row that may be nil, at a step of a region that draws its order. -/
theorem stepRow {t e : TypeId} {size bytes : Nat} (hE : Elem t e size bytes) (hsz : 0 < size) (hby : bytes ≤ 64)
    {ops : Array Oper} {o : Oper} {a : Act} {K : Act → World → Prop} {Q : Exit → Act → World → Prop} {E : Prop} (hgd : o.guard = none) (s x : Operand)
    (ho : o.op = .call { callee := .builtin .append, args := #[s, x], argTypes := #[t, t] }) (w : World)
    (base : Nat) (v : Value) (n : Nat) (xs : List Value) (hs : a.eval s = v) (hown : w.ownsRow base e size v n xs)
    (B : Nat) (A : Option Addr) (m c : Nat) (news : List Value) (h0 : 0 < m) (hx : a.eval x = .slice A m c) (hl : news.length = m * size) (hr : Row w B A news) (h1 : ∀ u ∈ news, u.oneCell' = true)
    (hn : n + m ≤ 10000000) (hbase : base ≤ w.heap.size)
    (h : ∀ g cap w', Own w' base e size (.slice (some ⟨g, 0, none⟩) (n + m) cap) (n + m) (xs ++ news) → w.grownBy w' v.ownBlock → K (a.put o.dst (.slice (some ⟨g, 0, none⟩) (n + m) cap)) w') :
    if Region.wanted o (yielded ops a.tmps) = true then Oper.wp Try.prog o a w K Q else E := by
  have hw : Region.wanted o (yielded ops a.tmps) = true := by simp [Region.wanted, hgd]
  rw [if_pos hw]
  obtain ⟨ht, i, z, hi, hz, hs1, hb1, hzs⟩ := hE
  have hbytes : (n + m) * bytes ≤ 140737488355328 := by
    have h2 : (n + m) * bytes ≤ (n + m) * 64 := Nat.mul_le_mul_left _ hby
    omega
  have hne : news ≠ [] := by intro e0; subst e0; simp at hl; have : 0 < m * size := Nat.mul_pos h0 hsz; omega
  obtain ⟨b, off, rfl, hbB, hc⟩ := hr hne
  refine wp_append_lies w s x t ho base e i z size bytes ht hi hz hs1 hb1 hzs hsz _ n xs hs hown ⟨b, off, none⟩ m c news hx hl (fun j u hu => ?_) h1 h0 (by unfold maxLen; omega) hbytes hbase _ rfl ?_
  · have := hc j u hu
    unfold Addr.add
    by_cases e0 : j = 0
    · subst e0; simpa using this
    · simpa [e0] using this
  · intro g cap w' h2 h3 _ _
    exact h g cap w' ⟨h2, _, _, rfl⟩ h3
/-- The voter under way: its box at block x, its list; the result's box; the reader. -/
structure Vo (w : World) (B r P x : Nat) (f : Int) (A : Option Addr) (c : Nat) (bs : List VVote) (W : World) : Prop where
  rd : RdAt W B r P
  gr : w.grownBy W (some r)
  ob : Box W w.heap.size 50 #[.int .i64 0, .slice none 0 0]
  xb : Box W x 50 #[.int .i64 f, .slice A bs.length c]
  own : NilOr W (w.heap.size + 1) A c bs
  lo : w.heap.size < x
  hr : r < w.heap.size
section
variable {w W W' : World} {B r P P' x : Nat} {f : Int} {A : Option Addr} {c : Nat} {bs : List VVote}
theorem Vo.grown (h : Vo w B r P x f A c bs W) (hg : W.grownBy W' (some r)) (hr : RdAt W' B r P') : Vo w B r P' x f A c bs W' :=
  ⟨hr, h.gr.trans hg, h.ob.grown hg (fun k hk => by injection hk with hk; have := h.hr; omega), h.xb.grown hg (fun k hk => by injection hk with hk; have := h.hr; have := h.lo; omega), h.own.kept hg (fun k hk => by injection hk with hk; have := h.hr; omega), h.lo, h.hr⟩
theorem Vo.carry (h : Vo w B r P x f A c bs W) (hb : Below W.heap.size W W') : Vo w B r P x f A c bs W' :=
  ⟨h.rd.carry hb, gr_below h.gr hb, h.ob.carry hb, h.xb.carry hb, h.own.carry hb, h.lo, h.hr⟩
theorem Vo.mono (h : Vo w B r P x f A c bs W) (hP : P ≤ P') : Vo w B r P' x f A c bs W := ⟨h.rd.mono hP, h.gr, h.ob, h.xb, h.own, h.lo, h.hr⟩
theorem Vo.size (h : Vo w B r P x f A c bs W) : w.heap.size ≤ W.heap.size := h.gr.size
theorem Vo.floor (h : Vo w B r P x f A c bs W) (v : Int) : Vo w B r P x v A c bs (W.setCell ⟨x, 0, none⟩ (.int .i64 v)) :=
  ⟨h.rd.set (by have := h.hr; have := h.lo; omega) _ _, gr_set h.gr (by have := h.lo; omega) _ _, h.ob.other (by have := h.lo; omega) _ _, h.xb.set 0 _, h.own.box h.xb (by decide), h.lo, h.hr⟩
theorem Vo.list {A' : Option Addr} {c' : Nat} {bs' : List VVote} (h : Vo w B r P x f A c bs W) (ho : NilOr W (w.heap.size + 1) A' c' bs') : Vo w B r P x f A' c' bs' (W.setCell ⟨x, 1, none⟩ (.slice A' bs'.length c')) :=
  ⟨h.rd.set (by have := h.hr; have := h.lo; omega) _ _, gr_set h.gr (by have := h.lo; omega) _ _, h.ob.other (by have := h.lo; omega) _ _, h.xb.set 1 _, ho.box h.xb (by decide), h.lo, h.hr⟩
theorem Vo.put {A' : Option Addr} {c' : Nat} {v : Int} {bs' : List VVote} (h : Vo w B r P x f A c bs W) (ho : NilOr W (w.heap.size + 1) A' c' bs') : Vo w B r P x v A' c' bs' ((W.setCell ⟨x, 0, none⟩ (.int .i64 v)).setCell ⟨x, 1, none⟩ (.slice A' bs'.length c')) :=
  (h.floor v).list (ho.box h.xb (by decide))
/-- A store into a block made later, that is no list of votes. -/
theorem Vo.far {q j : Nat} {t : TypeId} {vs : Array Value} {u : Value} (h : Vo w B r P x f A c bs W) (hq : Box W q t vs) (ht : 35 ≠ t) (h1 : q ≠ x) (h3 : w.heap.size < q) : Vo w B r P x f A c bs (W.setCell ⟨q, j, none⟩ u) :=
  ⟨h.rd.set (by have := h.hr; omega) _ _, gr_set h.gr (by omega) _ _, h.ob.other (by omega) _ _, h.xb.other h1 _ _, h.own.box hq ht, h.lo, h.hr⟩
theorem voteCells_one (b : VVote) : ∀ u ∈ b.cells, u.oneCell' = true := by
  intro u hu
  simp only [VVote.cells, List.mem_cons, List.not_mem_nil, or_false] at hu
  rcases hu with rfl | rfl | rfl <;> rfl
/-- Behind an append to the list of x: what the store of the new list wants, and what it leaves. -/
theorem Vo.app {g g' c' n : Nat} {bs' : List VVote} (h : Vo w B r P x f (some ⟨g, 0, none⟩) c bs W) (ho : OwnVote W' (w.heap.size + 1) (.slice (some ⟨g', 0, none⟩) n c') bs') (hg : W.grownBy W' (Value.slice (some ⟨g, 0, none⟩) bs.length c).ownBlock) :
    Vo w B r P x f (some ⟨g', 0, none⟩) c' bs' (W'.setCell ⟨x, 1, none⟩ (.slice (some ⟨g', 0, none⟩) n c')) ∧ W'.cell? ⟨x, 0, none⟩ = some (.int .i64 f) ∧ W'.cell? ⟨x, 1, none⟩ = some (.slice (some ⟨g, 0, none⟩) bs.length c) ∧ W'.frozen? ⟨x, 1, none⟩ = false ∧ n = bs'.length := by
  have hown : OwnVote W (w.heap.size + 1) (.slice (some ⟨g, 0, none⟩) bs.length c) bs := by
    rcases h.own with ⟨e, _⟩ | h
    · cases e
    · exact h
  have hbl := Own.base_le hown g rfl
  have hgx : g ≠ x := Own.ne_box hown h.xb (by decide)
  have hr := h.hr
  have hx : Box W' x 50 #[.int .i64 f, .slice (some ⟨g, 0, none⟩) bs.length c] := h.xb.grown hg (own_ne hgx)
  have hz : Box W' w.heap.size 50 #[.int .i64 0, .slice none 0 0] := h.ob.grown hg (own_ne (by omega))
  have hrd : RdAt W' B r P := h.rd.grown hg (fun q hq => by
    have e : g = q := by injection hq
    omega)
  have hgr : w.grownBy W' (some r) := gr_own h.gr hg (fun q hq => by
    have e : g = q := by injection hq
    omega)
  have e := ho.up.1
  subst e
  have hne : g' ≠ x := Own.ne_box ho hx (by decide)
  have hlo := h.lo
  exact ⟨⟨hrd.set (by omega) _ _, gr_set hgr (by omega) _ _, hz.other (by omega) _ _, hx.set 1 _, .inr (Own.setOther ho hne), h.lo, h.hr⟩, hx.cell rfl, hx.cell rfl, hx.free 1, rfl⟩
theorem Vo.appAny {g' c' n : Nat} {bs' : List VVote} (h : Vo w B r P x f A c bs W) (ho : OwnVote W' (w.heap.size + 1) (.slice (some ⟨g', 0, none⟩) n c') bs') (hg : W.grownBy W' (Value.slice A bs.length c).ownBlock) :
    Vo w B r P x f (some ⟨g', 0, none⟩) c' bs' (W'.setCell ⟨x, 1, none⟩ (.slice (some ⟨g', 0, none⟩) n c')) ∧ W'.cell? ⟨x, 0, none⟩ = some (.int .i64 f) ∧ W'.cell? ⟨x, 1, none⟩ = some (.slice A bs.length c) ∧ W'.frozen? ⟨x, 1, none⟩ = false ∧ n = bs'.length := by
  rcases h.own.form with ⟨rfl, rfl, rfl⟩ | ⟨g, rfl, _⟩
  · have hr := h.hr
    have hno : ∀ q, (Value.slice none ([] : List VVote).length 0).ownBlock = some q → False := fun q hq => by cases hq
    have hx : Box W' x 50 #[.int .i64 f, .slice none 0 0] := h.xb.grown hg (fun k hk => (hno k hk).elim)
    have hz : Box W' w.heap.size 50 #[.int .i64 0, .slice none 0 0] := h.ob.grown hg (fun k hk => (hno k hk).elim)
    have hrd : RdAt W' B r P := h.rd.grown hg (fun q hq => (hno q hq).elim)
    have hgr : w.grownBy W' (some r) := gr_own h.gr hg (fun q hq => (hno q hq).elim)
    have e := ho.up.1
    subst e
    have hne : g' ≠ x := Own.ne_box ho hx (by decide)
    have hlo := h.lo
    exact ⟨⟨hrd.set (by omega) _ _, gr_set hgr (by omega) _ _, hz.other (by omega) _ _, hx.set 1 _, .inr (Own.setOther ho hne), h.lo, h.hr⟩, hx.cell rfl, hx.cell rfl, hx.free 1, rfl⟩
  · exact h.app ho hg
end
/-- A voter was drawn. -/
def DrawnVoter (w : World) (B r P : Nat) (e : Ending) (w' : World) : Prop :=
  ∃ (f : Int) (A : Option Addr) (c : Nat) (bs : List VVote), e = .returned (.agg #[.int .i64 f, .slice A bs.length c]) ∧ bs.length ≤ 59 ∧ NilOr w' (w.heap.size + 1) A c bs ∧ RdAt w' B r P ∧ w.grownBy w' (some r)
theorem Vo.drawn {w W : World} {B r P x : Nat} {f : Int} {A : Option Addr} {c : Nat} {bs : List VVote} (h : Vo w B r P x f A c bs W) (hl : bs.length ≤ 59) : DrawnVoter w B r P (.returned (.agg #[.int .i64 f, .slice A bs.length c])) ((W.setCell ⟨w.heap.size, 0, none⟩ (.int .i64 f)).setCell ⟨w.heap.size, 1, none⟩ (.slice A bs.length c)) :=
  ⟨f, A, c, bs, rfl, hl, (h.own.low (by omega)).low (by omega), (h.rd.set h.hr _ _).set h.hr _ _, gr_set (gr_set h.gr (Nat.le_refl _) _ _) (Nat.le_refl _) _ _⟩
end Go.Proofs.Ytohnodphlaoohaa
