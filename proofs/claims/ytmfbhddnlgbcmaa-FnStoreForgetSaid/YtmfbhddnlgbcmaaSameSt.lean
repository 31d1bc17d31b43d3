/- Comparing two stores that are one. -/
import Derived.Test.YtmfbhddnlgbcmaaPutI
namespace Go.Proofs.Ytmfbhddnlgbcmaa
open Go.RowKit
set_option linter.unusedVariables false
theorem lst_cells {w : World} {B ga : Nat} {bs : List VBatch} (h : LstBatch w B (some ⟨ga, 0, none⟩) bs) {i : Nat} (hi : i < bs.length) : w.cell? ⟨ga, i * 4, none⟩ = some (.int .i64 (nthBatch bs i).d) ∧ w.cell? ⟨ga, i * 4 + 2, none⟩ = some (.int .i64 (nthBatch bs i).r) := by
  obtain ⟨b, off, e, hB, hc⟩ := h.at_ hi
  injection e with e
  injection e with e1 e2
  subst e1 e2
  have := hc i hi
  rw [Nat.zero_add] at this
  exact ⟨this.1, this.2.2.1⟩
set_option maxHeartbeats 4000000 in
theorem sameStore_same (f : Int) (A A' : Option Addr) (c c' : Nat) (bs : List VBatch) (w : World) (h : LstBatch w w.heap.size A bs) (h' : LstBatch w w.heap.size A' bs) (hn : bs.length ≤ 1048576) :
    Calls Try.prog 17 #[.agg #[.int .i64 f, .slice A bs.length c], .agg #[.int .i64 f, .slice A' bs.length c']] w fun e w' => e = .returned (.bool true) ∧ Below w.heap.size w w' := by
  have hff : (f != f) = false := by simp
  have hl' : ((bs.length : Int) != (bs.length : Int)) = false := by simp
  have XB := Lib.hid ((Box.new w #[.int .i64 f, .slice A bs.length c] 25).carry (allocB _ (.cells #[.int .i64 f, .slice A' bs.length c'] 25)))
  have YB := Lib.hid (show Box ((w.alloc (.cells #[.int .i64 f, .slice A bs.length c] 25)).alloc (.cells #[.int .i64 f, .slice A' bs.length c'] 25)) (w.heap.size + 1) 25 #[.int .i64 f, .slice A' bs.length c'] from by
    have := Box.new (w.alloc (.cells #[.int .i64 f, .slice A bs.length c] 25)) #[.int .i64 f, .slice A' bs.length c'] 25
    simpa using this)
  have H := Lib.hid h
  have H' := Lib.hid h'
  clear h h'
  go_enter Try.func17, Try.ntmps17
  go_wp2_with fail
  go_loopw [5] (fun i wr => ∃ k : Nat, k ≤ bs.length ∧ i = .int .i64 k ∧ Box wr w.heap.size 25 #[.int .i64 f, .slice A bs.length c] ∧ Box wr (w.heap.size + 1) 25 #[.int .i64 f, .slice A' bs.length c'] ∧ Below w.heap.size w wr) (fun i _ => bs.length - (intOf i).toNat)
  case atStart => exact ⟨0, Nat.zero_le _, rfl, XB.out, YB.out, allocB2 w _ _⟩
  case round =>
    obtain ⟨k, hk, rfl, hx, hy, hbel⟩ := hrel
    have p1 := hx.cell (j := 1) (u := .slice A bs.length c) rfl
    have q1 := hy.cell (j := 1) (u := .slice A' bs.length c') rfl
    have HX := Lib.hid hx
    have HY := Lib.hid hy
    have HB := Lib.hid hbel
    clear XB YB
    by_cases hlt : k < bs.length
    · have hd : decide (k < bs.length) = true := by simpa using hlt
      obtain ⟨b, off, rfl, hbb, hc⟩ := (H.out.below hbel).at_ hlt
      obtain ⟨b', off', rfl, hbb', hc'⟩ := (H'.out.below hbel).at_ hlt
      obtain ⟨x, hx⟩ : ∃ x, x = nthBatch bs k := ⟨_, rfl⟩
      obtain ⟨x0, x1, x2, x3⟩ := hc k hlt
      obtain ⟨y0, y1, y2, y3⟩ := hc' k hlt
      rw [← hx] at x0 x1 x2 x3 y0 y1 y2 y3
      have hi0 : (0 : Int) ≤ (k : Int) := by omega
      have hi1 : (k : Int) < (bs.length : Int) := by omega
      clear hx hbel hc hc' hy
      go_wp2_with fail
      go_quiet (fail)
      go_wp2_with fail
      go_roundw
      case rel => exact ⟨k + 1, by omega, by go_num, HX.out, HY.out, below_drewN HB.out _⟩
      case measure => simp [intOf]; omega
    · have hd : decide (k < bs.length) = false := by simpa using hlt
      clear hx hy hbel
      go_wp2_with fail
      go_ret
      exact ⟨rfl, HB.out⟩
/-- What putting hands back, as a law reads it. -/
def PutR (w : World) (v : Int) (ks : List VBatch) (k : Int) (e : Ending) (w' : World) : Prop :=
  ∃ (A : Option Addr) (cap : Nat), e = .returned (.tuple #[.agg #[.int .i64 v, .slice A ks.length cap], .int .i64 k]) ∧ LstBatch w' w'.heap.size A ks ∧ Below w.heap.size w w'
theorem Put.read {w w' : World} {f : Int} {bs : List VBatch} {b : VBatch} {e : Ending} {v k : Int} {ks : List VBatch} (h : Put w f bs b e w') (hk : putCode f bs b = k) (hv : putFloor f bs b = v) (hl : putList f bs b = ks) : PutR w v ks k e w' := by
  subst hk hv hl
  obtain ⟨A, cap, he, ho, hb⟩ := h
  refine ⟨A, cap, he, ?_, hb⟩
  by_cases h4 : putCode f bs b = 4
  · have : putList f bs b = [] := by rw [putList, if_pos h4]
    rw [this]
    exact fun hn => absurd rfl hn
  · obtain ⟨g, rfl, own⟩ := ho h4
    exact own.up.2.1.lst
theorem put1_rest {f : Int} {bs : List VBatch} {b : VBatch} (h : putCode f bs b = 1) : putFloor f bs b = f ∧ putList f bs b = bs :=
  ⟨by rw [putFloor, if_neg (by rw [h]; decide)], list_same h (by decide) (by decide)⟩
theorem i_put (f : Int) (A : Option Addr) (c : Nat) (bs : List VBatch) (b : VBatch) (w : World) (h : LstBatch w w.heap.size A bs) (hn : bs.length ≤ 1048576) {v k : Int} {ks : List VBatch} (hk : putCode f bs b = k) (hv : putFloor f bs b = v) (hl : putList f bs b = ks) :
    Calls Try.prog 15 #[.agg #[.int .i64 f, .slice A bs.length c], .agg #[.int .i64 b.d, .int .i64 b.a, .int .i64 b.r, .int .i64 b.s]] w (PutR w v ks k) := by
  refine Calls.mono (?_ : Calls _ _ _ w (Put w f bs b)) fun _ _ hp => hp.read hk hv hl
  rcases hs : storeB f bs with _ | _
  · exact i_StorePut_no f A c bs b w h hn (.inl hs)
  · rcases hb : batchB b with _ | _
    · exact i_StorePut_no f A c bs b w h hn (.inr hb)
    · exact i_StorePut_yes f A c bs b w h hn hs hb
theorem s_put (f : Int) (ga c : Nat) (bs : List VBatch) (b : VBatch) (w : World) (h : LstBatch w w.heap.size (some ⟨ga, 0, none⟩) bs) (hc : bs.length ≤ c) (hn : bs.length ≤ 1048576) {v k : Int} {ks : List VBatch} (hk : putCode f bs b = k) (hv : putFloor f bs b = v) (hl : putList f bs b = ks) :
    Calls Try.prog 16 #[.agg #[.int .i64 f, .slice (some ⟨ga, 0, none⟩) bs.length c], .agg #[.int .i64 b.d, .int .i64 b.a, .int .i64 b.r, .int .i64 b.s]] w (PutR w v ks k) := by
  refine Calls.mono (?_ : Calls _ _ _ w (Put w f bs b)) fun _ _ hp => hp.read hk hv hl
  rcases hs : storeB f bs with _ | _
  · exact s_StorePut_no f ga c bs b w h hc hn (.inl hs)
  · rcases hb : batchB b with _ | _
    · exact s_StorePut_no f ga c bs b w h hc hn (.inr hb)
    · exact s_StorePut_yes f ga c bs b w h hc hn hs hb
end Go.Proofs.Ytmfbhddnlgbcmaa
