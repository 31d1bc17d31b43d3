/- StorePut of the program, by its contract. -/
import Derived.Test.YtmfbhddnlgbcmaaPutL
import Derived.Test.YtmfbhddnlgbcmaaPutS
import Derived.Test.YtmfbhddnlgbcmaaShelfI
import Derived.RegionTactic
namespace Go.Proofs.Ytmfbhddnlgbcmaa
open Go.RowKit
set_option linter.unusedVariables false

theorem known_first {f : Int} {bs : List VBatch} {dg : Int} {k : Nat} (hv : storeB f bs = true) (hk : FirstAt bs dg k) : knownB bs dg = decide (k < bs.length) := by
  have hg := store_good hv
  by_cases hlt : k < bs.length
  · rcases hkn : knownB bs dg with _ | _
    · have := (known_no hg.2.2.1).1 hkn _ (List.getElem_mem hlt)
      have e := hk.2.2 hlt
      rw [nthBatch_eq hlt] at e
      exact absurd e this
    · simp [hlt]
  · rw [(known_no hg.2.2.1).2 (fun x hx => by
      obtain ⟨j, hj, rfl⟩ := List.getElem_of_mem hx
      have := hk.2.1 j (by omega)
      rwa [nthBatch_eq hj] at this)]
    simp [hlt]
theorem kept_store {f : Int} {bs : List VBatch} (hv : storeB f bs = true) : kept f bs = bs := kept_same fun x hx => ((store_good hv).2.2.2.1 x hx).2
theorem kept_ins {f : Int} {bs : List VBatch} {b : VBatch} (h : putCode f bs b = 0) : kept f (inserted bs b) = inserted bs b := by
  rw [inserted_eq]; exact kept_store (good_store (put0_can.1 h).good)
set_option maxHeartbeats 8000000 in
theorem i_StorePut_no (f : Int) (A : Option Addr) (c : Nat) (bs : List VBatch) (b : VBatch) (w : World) (h : LstBatch w w.heap.size A bs) (hn : bs.length ≤ 1048576) (h4 : storeB f bs = false ∨ batchB b = false) :
    Calls Try.prog 15 #[.agg #[.int .i64 f, .slice A bs.length c], .agg #[.int .i64 b.d, .int .i64 b.a, .int .i64 b.r, .int .i64 b.s]] w (Put w f bs b) := by
  have ba := allocB3 w (.cells #[.int .i64 f, .slice A bs.length c] 25) (.cells #[.int .i64 b.d, .int .i64 b.a, .int .i64 b.r, .int .i64 b.s] 27) (.cells #[.int .i64 0, .slice none 0 0] 25)
  have XB := Lib.hid (((Box.new w #[.int .i64 f, .slice A bs.length c] 25).carry (allocB _ (.cells #[.int .i64 b.d, .int .i64 b.a, .int .i64 b.r, .int .i64 b.s] 27))).carry (allocB _ (.cells #[.int .i64 0, .slice none 0 0] 25)))
  have YB := Lib.hid (show Box (((w.alloc (.cells #[.int .i64 f, .slice A bs.length c] 25)).alloc (.cells #[.int .i64 b.d, .int .i64 b.a, .int .i64 b.r, .int .i64 b.s] 27)).alloc (.cells #[.int .i64 0, .slice none 0 0] 25)) (w.heap.size + 1) 27 #[.int .i64 b.d, .int .i64 b.a, .int .i64 b.r, .int .i64 b.s] from by
    have := (Box.new (w.alloc (.cells #[.int .i64 f, .slice A bs.length c] 25)) #[.int .i64 b.d, .int .i64 b.a, .int .i64 b.r, .int .i64 b.s] 27).carry (allocB _ (.cells #[.int .i64 0, .slice none 0 0] 25))
    simpa using this)
  have OB := Lib.hid (show Box (((w.alloc (.cells #[.int .i64 f, .slice A bs.length c] 25)).alloc (.cells #[.int .i64 b.d, .int .i64 b.a, .int .i64 b.r, .int .i64 b.s] 27)).alloc (.cells #[.int .i64 0, .slice none 0 0] 25)) (w.heap.size + 2) 25 #[.int .i64 0, .slice none 0 0] from by
    have := Box.new ((w.alloc (.cells #[.int .i64 f, .slice A bs.length c] 25)).alloc (.cells #[.int .i64 b.d, .int .i64 b.a, .int .i64 b.r, .int .i64 b.s] 27)) #[.int .i64 0, .slice none 0 0] 25
    simpa using this)
  have HP := Lib.hid (h.carry ba)
  have BB := Lib.hid ba
  clear h ba
  have H4 := Lib.hid (put4 h4)
  rcases hv : storeB f bs with _ | _
  · go_enter Try.func15, Try.ntmps15
    go_wp2_with fail
    refine (i_StoreValid _ _ _ bs _ HP.out hn).mono ?_
    rw [hv]
    rintro e w1 ⟨rfl, b1⟩
    replace XB := Lib.hid (XB.out.carry b1)
    replace YB := Lib.hid (YB.out.carry b1)
    replace OB := Lib.hid (OB.out.carry b1)
    replace HP := Lib.hid (HP.out.carry b1)
    replace BB := Lib.hid (next BB.out b1)
    clear b1
    have o0 := OB.out.cell (j := 0) (u := .int .i64 0) rfl
    have o1 := OB.out.cell (j := 1) (u := .slice none 0 0) rfl
    have of0 := OB.out.free 0
    have of1 := OB.out.free 1
    go_wp2_with fail
    refine bodyPost_ret (v := .tuple #[.agg #[.int .i64 0, .slice none 0 0], .int .i64 4]) (by simp [results, Try.results15, go_sem, *]) rfl (put_4 H4.out rfl ?_)
    exact (BB.out.setCell (by show w.heap.size ≤ w.heap.size + 2; omega) _).setCell (by show w.heap.size ≤ w.heap.size + 2; omega) _
  · have hb : batchB b = false := by simpa [hv] using h4
    go_enter Try.func15, Try.ntmps15
    go_wp2_with fail
    refine (i_StoreValid _ _ _ bs _ HP.out hn).mono ?_
    rw [hv]
    rintro e w1 ⟨rfl, b1⟩
    replace XB := Lib.hid (XB.out.carry b1)
    replace YB := Lib.hid (YB.out.carry b1)
    replace OB := Lib.hid (OB.out.carry b1)
    replace HP := Lib.hid (HP.out.carry b1)
    replace BB := Lib.hid (next BB.out b1)
    clear b1
    have y0 := YB.out.cell (j := 0) (u := .int .i64 b.d) rfl
    have y1 := YB.out.cell (j := 1) (u := .int .i64 b.a) rfl
    have y2 := YB.out.cell (j := 2) (u := .int .i64 b.r) rfl
    have y3 := YB.out.cell (j := 3) (u := .int .i64 b.s) rfl
    go_wp2_with fail
    refine (i_Batch_valid _ _ _ _ _).mono ?_
    rw [show batchB ⟨b.d, b.a, b.r, b.s⟩ = false from hb]
    rintro e w2 ⟨rfl, b2⟩
    clear y0 y1 y2 y3
    replace XB := Lib.hid (XB.out.carry b2)
    replace YB := Lib.hid (YB.out.carry b2)
    replace OB := Lib.hid (OB.out.carry b2)
    replace HP := Lib.hid (HP.out.carry b2)
    replace BB := Lib.hid (next BB.out b2)
    clear b2
    have o0 := OB.out.cell (j := 0) (u := .int .i64 0) rfl
    have o1 := OB.out.cell (j := 1) (u := .slice none 0 0) rfl
    have of0 := OB.out.free 0
    have of1 := OB.out.free 1
    go_wp2_with fail
    refine bodyPost_ret (v := .tuple #[.agg #[.int .i64 0, .slice none 0 0], .int .i64 4]) (by simp [results, Try.results15, go_sem, *]) rfl (put_4 H4.out rfl ?_)
    exact (BB.out.setCell (by show w.heap.size ≤ w.heap.size + 2; omega) _).setCell (by show w.heap.size ≤ w.heap.size + 2; omega) _
set_option maxRecDepth 100000 in
set_option maxHeartbeats 8000000 in
theorem i_StorePut_yes (f : Int) (A : Option Addr) (c : Nat) (bs : List VBatch) (b : VBatch) (w : World) (h : LstBatch w w.heap.size A bs) (hn : bs.length ≤ 1048576) (hv : storeB f bs = true) (hb : batchB b = true) :
    Calls Try.prog 15 #[.agg #[.int .i64 f, .slice A bs.length c], .agg #[.int .i64 b.d, .int .i64 b.a, .int .i64 b.r, .int .i64 b.s]] w (Put w f bs b) := by
  have ba := allocB3 w (.cells #[.int .i64 f, .slice A bs.length c] 25) (.cells #[.int .i64 b.d, .int .i64 b.a, .int .i64 b.r, .int .i64 b.s] 27) (.cells #[.int .i64 0, .slice none 0 0] 25)
  have XB := Lib.hid (((Box.new w #[.int .i64 f, .slice A bs.length c] 25).carry (allocB _ (.cells #[.int .i64 b.d, .int .i64 b.a, .int .i64 b.r, .int .i64 b.s] 27))).carry (allocB _ (.cells #[.int .i64 0, .slice none 0 0] 25)))
  have YB := Lib.hid (show Box (((w.alloc (.cells #[.int .i64 f, .slice A bs.length c] 25)).alloc (.cells #[.int .i64 b.d, .int .i64 b.a, .int .i64 b.r, .int .i64 b.s] 27)).alloc (.cells #[.int .i64 0, .slice none 0 0] 25)) (w.heap.size + 1) 27 #[.int .i64 b.d, .int .i64 b.a, .int .i64 b.r, .int .i64 b.s] from by
    have := (Box.new (w.alloc (.cells #[.int .i64 f, .slice A bs.length c] 25)) #[.int .i64 b.d, .int .i64 b.a, .int .i64 b.r, .int .i64 b.s] 27).carry (allocB _ (.cells #[.int .i64 0, .slice none 0 0] 25))
    simpa using this)
  have OB := Lib.hid (show Box (((w.alloc (.cells #[.int .i64 f, .slice A bs.length c] 25)).alloc (.cells #[.int .i64 b.d, .int .i64 b.a, .int .i64 b.r, .int .i64 b.s] 27)).alloc (.cells #[.int .i64 0, .slice none 0 0] 25)) (w.heap.size + 2) 25 #[.int .i64 0, .slice none 0 0] from by
    have := Box.new ((w.alloc (.cells #[.int .i64 f, .slice A bs.length c] 25)).alloc (.cells #[.int .i64 b.d, .int .i64 b.a, .int .i64 b.r, .int .i64 b.s] 27)) #[.int .i64 0, .slice none 0 0] 25
    simpa using this)
  have HP := Lib.hid (h.carry ba)
  have BB := Lib.hid ba
  clear h ba
  go_enter Try.func15, Try.ntmps15
  go_wp2_with fail
  refine (i_StoreValid _ _ _ bs _ HP.out hn).mono ?_
  rw [hv]
  rintro e w1 ⟨rfl, b1⟩
  replace XB := Lib.hid (XB.out.carry b1)
  replace YB := Lib.hid (YB.out.carry b1)
  replace OB := Lib.hid (OB.out.carry b1)
  replace HP := Lib.hid (HP.out.carry b1)
  replace BB := Lib.hid (next BB.out b1)
  clear b1
  have y0 := YB.out.cell (j := 0) (u := .int .i64 b.d) rfl
  have y1 := YB.out.cell (j := 1) (u := .int .i64 b.a) rfl
  have y2 := YB.out.cell (j := 2) (u := .int .i64 b.r) rfl
  have y3 := YB.out.cell (j := 3) (u := .int .i64 b.s) rfl
  go_wp2_with fail
  refine (i_Batch_valid _ _ _ _ _).mono ?_
  rw [show batchB ⟨b.d, b.a, b.r, b.s⟩ = true from hb]
  rintro e w2 ⟨rfl, b2⟩
  clear y0 y1 y2 y3
  replace XB := Lib.hid (XB.out.carry b2)
  replace YB := Lib.hid (YB.out.carry b2)
  replace OB := Lib.hid (OB.out.carry b2)
  replace HP := Lib.hid (HP.out.carry b2)
  replace BB := Lib.hid (next BB.out b2)
  clear b2
  have x0 := XB.out.cell (j := 0) (u := .int .i64 f) rfl
  have x1 := XB.out.cell (j := 1) (u := .slice A bs.length c) rfl
  have hl12 := store_len hv
  have hub := store_used hv hn b.a
  have hsb := (batchB_bd hb).2.2.2
  have hw30 : IntKind.i64.wrap (usedW bs b.a bs.length + b.s) = usedW bs b.a bs.length + b.s := IntWalk.i64_in _ (by rw [hub.1]; omega)
  have HW30 := Lib.hid hw30
  have hKB := kept_store hv
  have HKB := Lib.hid hKB
  clear hw30 hub hKB
  have hz2 := BB.out.size
  have hl2 : w.heap.size + 2 < w2.heap.size := OB.out.lt
  go_wp2_with fail
  refine (i_shelfOf _ _ bs _ HP.out hn).mono ?_
  rintro e w3 ⟨gs, rfl, s3, b3⟩
  clear x0 x1
  have b3s := b3.size
  replace XB := Lib.hid (XB.out.carry b3)
  replace YB := Lib.hid (YB.out.carry b3)
  replace OB := Lib.hid (OB.out.carry b3)
  replace HP := Lib.hid (HP.out.carry b3)
  replace BB := Lib.hid (next BB.out b3)
  clear b3
  have S3 := Lib.hid (s3.less (L' := w2.heap.size) (by omega))
  clear s3
  have y0 := YB.out.cell (j := 0) (u := .int .i64 b.d) rfl
  have y1 := YB.out.cell (j := 1) (u := .int .i64 b.a) rfl
  have y2 := YB.out.cell (j := 2) (u := .int .i64 b.r) rfl
  have y3 := YB.out.cell (j := 3) (u := .int .i64 b.s) rfl
  go_wp2_with fail
  refine (i_find _ gs bs _ _ S3.out).mono ?_
  rintro e w' ⟨k, hf, rfl, rfl⟩
  have HKN := Lib.hid (known_first hv hf)
  have hgl := S3.out.len
  clear hf y0 y1 y2 y3
  by_cases hk : k < bs.length
  · have HC := Lib.hid (put1 hv hb (HKN.out.trans (by simpa using hk)))
    rw [ptr_at (by omega)]
    generalize nthg gs k = q
    have hGS := hgl
    clear HKN hgl hGS hk
    have dS := S3.out.carry (Below.refl w3.heap.size w3).drew
    have dO : Box w3.drew (w.heap.size + 2) 25 #[.int .i64 0, .slice none 0 0] := OB.out
    have dx0 : w3.drew.cell? ⟨w.heap.size, 0, none⟩ = some (.int .i64 f) := XB.out.cell (j := 0) (u := .int .i64 f) rfl
    have dB := Lib.hid BB.out.drew
    have x0 := XB.out.cell (j := 0) (u := .int .i64 f) rfl
    go_wp2_with fail
    clear x0
    go_region_with (go_at_call 43; refine (i_batches _ gs bs f _ dS (by omega)).mono ?_; rw [HKB.out]; rintro e w9 ⟨g9, cap9, rfl, o9, b9⟩; have ex0 := keepc b9 dx0; have O9 := Lib.hid o9; have R9 := Lib.hid (dO.carry b9); have B9 := Lib.hid (next dB.out b9); have hlow := o9.base_le g9 rfl; have hR9 := (dO.carry b9).lt; have hg9 := Own.ne_box o9 (dO.carry b9) (by decide); have o0 := R9.out.cell (j := 0) (u := .int .i64 0) rfl; have o1 := R9.out.cell (j := 1) (u := .slice none 0 0) rfl; have of0 := R9.out.free 0; have of1 := R9.out.free 1; clear b9 o9)
    all_goals
      go_wp2_with fail
      refine bodyPost_ret (v := .tuple #[.agg #[.int .i64 f, .slice (some ⟨g9, 0, none⟩) bs.length cap9], .int .i64 1]) (by simp [results, Try.results15, go_sem, *]) rfl (put_k HC.out (by decide) (list_same HC.out (by decide) (by decide)) rfl ?_ ?_)
      · exact Own.setOther (Own.setOther (Own.lower O9.out BB.out.size) hg9) hg9
      · exact (B9.out.setCell (by show w.heap.size ≤ w.heap.size + 2; omega) _).setCell (by show w.heap.size ≤ w.heap.size + 2; omega) _
  · rw [ptr_end (by omega)]
    have HK := Lib.hid (HKN.out.trans (show decide (k < bs.length) = false by simpa using hk))
    clear HKN hgl
    by_cases hr : b.r < f
    · have HC := Lib.hid (put2 hv hb HK.out hr)
      have y2 := YB.out.cell (j := 2) (u := .int .i64 b.r) rfl
      have dS := S3.out.carry (Below.refl w3.heap.size w3).drew
      have dO : Box w3.drew (w.heap.size + 2) 25 #[.int .i64 0, .slice none 0 0] := OB.out
      have dx0 : w3.drew.cell? ⟨w.heap.size, 0, none⟩ = some (.int .i64 f) := XB.out.cell (j := 0) (u := .int .i64 f) rfl
      have dB := Lib.hid BB.out.drew
      have x0 := XB.out.cell (j := 0) (u := .int .i64 f) rfl
      go_wp2_with fail
      clear x0
      go_region_with (go_at_call 43; refine (i_batches _ gs bs f _ dS (by omega)).mono ?_; rw [HKB.out]; rintro e w9 ⟨g9, cap9, rfl, o9, b9⟩; have ex0 := keepc b9 dx0; have O9 := Lib.hid o9; have R9 := Lib.hid (dO.carry b9); have B9 := Lib.hid (next dB.out b9); have hlow := o9.base_le g9 rfl; have hR9 := (dO.carry b9).lt; have hg9 := Own.ne_box o9 (dO.carry b9) (by decide); have o0 := R9.out.cell (j := 0) (u := .int .i64 0) rfl; have o1 := R9.out.cell (j := 1) (u := .slice none 0 0) rfl; have of0 := R9.out.free 0; have of1 := R9.out.free 1; clear b9 o9)
      all_goals
        go_wp2_with fail
        refine bodyPost_ret (v := .tuple #[.agg #[.int .i64 f, .slice (some ⟨g9, 0, none⟩) bs.length cap9], .int .i64 2]) (by simp [results, Try.results15, go_sem, *]) rfl (put_k HC.out (by decide) (list_same HC.out (by decide) (by decide)) rfl ?_ ?_)
        · exact Own.setOther (Own.setOther (Own.lower O9.out BB.out.size) hg9) hg9
        · exact (B9.out.setCell (by show w.heap.size ≤ w.heap.size + 2; omega) _).setCell (by show w.heap.size ≤ w.heap.size + 2; omega) _
    · by_cases h12 : bs.length = 12
      · have HC := Lib.hid (put3 hv hb HK.out hr (by simp [fullB]; omega))
        have hd12 : ((bs.length : Int) == 12) = true := by simp; omega
        clear h12
        have y0 := YB.out.cell (j := 0) (u := .int .i64 b.d) rfl
        have y1 := YB.out.cell (j := 1) (u := .int .i64 b.a) rfl
        have y2 := YB.out.cell (j := 2) (u := .int .i64 b.r) rfl
        have y3 := YB.out.cell (j := 3) (u := .int .i64 b.s) rfl
        have x0 := XB.out.cell (j := 0) (u := .int .i64 f) rfl
        have x1 := XB.out.cell (j := 1) (u := .slice A bs.length c) rfl
        go_wp2_with fail
        go_quiet ((go_at_call 41; exact quiet_same (i_used _ gs bs _ _ (S3.out.carry (below_drewN (Below.refl w3.heap.size w3) _)))))
        have dS := fun m : Nat => S3.out.carry (below_drewN (Below.refl w3.heap.size w3) m)
        have dO : ∀ m : Nat, Box (w3.drewN m) (w.heap.size + 2) 25 #[.int .i64 0, .slice none 0 0] := fun m => OB.out
        have dx0 : ∀ m : Nat, (w3.drewN m).cell? ⟨w.heap.size, 0, none⟩ = some (.int .i64 f) := fun m => XB.out.cell (j := 0) (u := .int .i64 f) rfl
        have dB := Lib.hid (fun m : Nat => below_drewN BB.out m)
        go_wp2_with fail
        go_region_with (go_at_call 43; refine (i_batches _ gs bs f _ (dS _) (by omega)).mono ?_; rw [HKB.out]; rintro e w9 ⟨g9, cap9, rfl, o9, b9⟩; have ex0 := keepc b9 (dx0 _); have O9 := Lib.hid o9; have R9 := Lib.hid ((dO _).carry b9); have B9 := Lib.hid (next (dB.out _) b9); have hlow := o9.base_le g9 rfl; have hR9 := ((dO _).carry b9).lt; have hg9 := Own.ne_box o9 ((dO _).carry b9) (by decide); have o0 := R9.out.cell (j := 0) (u := .int .i64 0) rfl; have o1 := R9.out.cell (j := 1) (u := .slice none 0 0) rfl; have of0 := R9.out.free 0; have of1 := R9.out.free 1; clear b9 o9)
        all_goals
          go_wp2_with fail
          refine bodyPost_ret (v := .tuple #[.agg #[.int .i64 f, .slice (some ⟨g9, 0, none⟩) bs.length cap9], .int .i64 3]) (by simp [results, Try.results15, go_sem, *]) rfl (put_k HC.out (by decide) (list_same HC.out (by decide) (by decide)) rfl ?_ ?_)
          · exact Own.setOther (Own.setOther (Own.lower O9.out BB.out.size) hg9) hg9
          · exact (B9.out.setCell (by show w.heap.size ≤ w.heap.size + 2; omega) _).setCell (by show w.heap.size ≤ w.heap.size + 2; omega) _
      · have hd12 : ((bs.length : Int) == 12) = false := by simp; omega
        have hw30 := HW30.out
        by_cases hu : 30 < usedW bs b.a bs.length + b.s
        · have HC := Lib.hid (put3 hv hb HK.out hr (by simp [fullB, hu]))
          have hdu : decide (30 < usedW bs b.a bs.length + b.s) = true := by simpa using hu
          have y0 := YB.out.cell (j := 0) (u := .int .i64 b.d) rfl
          have y1 := YB.out.cell (j := 1) (u := .int .i64 b.a) rfl
          have y2 := YB.out.cell (j := 2) (u := .int .i64 b.r) rfl
          have y3 := YB.out.cell (j := 3) (u := .int .i64 b.s) rfl
          have x0 := XB.out.cell (j := 0) (u := .int .i64 f) rfl
          have x1 := XB.out.cell (j := 1) (u := .slice A bs.length c) rfl
          go_wp2_with fail
          go_quiet ((go_at_call 41; exact quiet_same (i_used _ gs bs _ _ (S3.out.carry (below_drewN (Below.refl w3.heap.size w3) _)))))
          clear hw30 hdu hu hd12
          have dS := fun m : Nat => S3.out.carry (below_drewN (Below.refl w3.heap.size w3) m)
          have dO : ∀ m : Nat, Box (w3.drewN m) (w.heap.size + 2) 25 #[.int .i64 0, .slice none 0 0] := fun m => OB.out
          have dx0 : ∀ m : Nat, (w3.drewN m).cell? ⟨w.heap.size, 0, none⟩ = some (.int .i64 f) := fun m => XB.out.cell (j := 0) (u := .int .i64 f) rfl
          have dB := Lib.hid (fun m : Nat => below_drewN BB.out m)
          go_wp2_with fail
          go_region_with (go_at_call 43; refine (i_batches _ gs bs f _ (dS _) (by omega)).mono ?_; rw [HKB.out]; rintro e w9 ⟨g9, cap9, rfl, o9, b9⟩; have ex0 := keepc b9 (dx0 _); have O9 := Lib.hid o9; have R9 := Lib.hid ((dO _).carry b9); have B9 := Lib.hid (next (dB.out _) b9); have hlow := o9.base_le g9 rfl; have hR9 := ((dO _).carry b9).lt; have hg9 := Own.ne_box o9 ((dO _).carry b9) (by decide); have o0 := R9.out.cell (j := 0) (u := .int .i64 0) rfl; have o1 := R9.out.cell (j := 1) (u := .slice none 0 0) rfl; have of0 := R9.out.free 0; have of1 := R9.out.free 1; clear b9 o9)
          all_goals
            go_wp2_with fail
            refine bodyPost_ret (v := .tuple #[.agg #[.int .i64 f, .slice (some ⟨g9, 0, none⟩) bs.length cap9], .int .i64 3]) (by simp [results, Try.results15, go_sem, *]) rfl (put_k HC.out (by decide) (list_same HC.out (by decide) (by decide)) rfl ?_ ?_)
            · exact Own.setOther (Own.setOther (Own.lower O9.out BB.out.size) hg9) hg9
            · exact (B9.out.setCell (by show w.heap.size ≤ w.heap.size + 2; omega) _).setCell (by show w.heap.size ≤ w.heap.size + 2; omega) _
        · have HC := Lib.hid (put0 hv hb HK.out hr (by simp [fullB, hu]; omega))
          have hdu : decide (30 < usedW bs b.a bs.length + b.s) = false := by simpa using hu
          have HKI := Lib.hid (kept_ins HC.out)
          have hil : (inserted bs b).length ≤ 13 := by rw [inserted_len]; omega
          have y0 := YB.out.cell (j := 0) (u := .int .i64 b.d) rfl
          have y1 := YB.out.cell (j := 1) (u := .int .i64 b.a) rfl
          have y2 := YB.out.cell (j := 2) (u := .int .i64 b.r) rfl
          have y3 := YB.out.cell (j := 3) (u := .int .i64 b.s) rfl
          have x0 := XB.out.cell (j := 0) (u := .int .i64 f) rfl
          have x1 := XB.out.cell (j := 1) (u := .slice A bs.length c) rfl
          go_wp2_with fail
          go_quiet ((go_at_call 41; exact quiet_same (i_used _ gs bs _ _ (S3.out.carry (below_drewN (Below.refl w3.heap.size w3) _)))))
          go_wp2_with fail
          refine (i_insert w2.heap.size gs bs b _ (S3.out.carry (below_drewN (Below.refl w3.heap.size w3) _)) (by simp; omega)).mono ?_
          rintro e w5 ⟨gs', rfl, s5, b5⟩
          have S5 := Lib.hid s5
          have xb5 := Box.below (w' := w5) (B := w2.heap.size) (show Box (w3.drewN _) w.heap.size 25 #[.int .i64 f, .slice A bs.length c] from XB.out) b5 (by omega)
          have ob5 := Box.below (w' := w5) (B := w2.heap.size) (show Box (w3.drewN _) (w.heap.size + 2) 25 #[.int .i64 0, .slice none 0 0] from OB.out) b5 (by omega)
          have bb5 := (below_drewN BB.out _).trans (b5.mono (by omega))
          clear y0 y1 y2 y3 x0 x1 hw30 hdu hu hd12 s5 b5
          replace XB := Lib.hid xb5
          replace OB := Lib.hid ob5
          replace BB := Lib.hid bb5
          clear xb5 ob5 bb5
          have dS := S5.out.carry (Below.refl w5.heap.size w5).drew
          have dO : Box w5.drew (w.heap.size + 2) 25 #[.int .i64 0, .slice none 0 0] := OB.out
          have dx0 : w5.drew.cell? ⟨w.heap.size, 0, none⟩ = some (.int .i64 f) := XB.out.cell (j := 0) (u := .int .i64 f) rfl
          have dB := Lib.hid BB.out.drew
          have x0 := XB.out.cell (j := 0) (u := .int .i64 f) rfl
          go_wp2_with fail
          clear x0
          go_region_with (go_at_call 43; refine (i_batches _ gs' (inserted bs b) f _ dS (by omega)).mono ?_; rw [HKI.out]; rintro e w9 ⟨g9, cap9, rfl, o9, b9⟩; have ex0 := keepc b9 dx0; have O9 := Lib.hid o9; have R9 := Lib.hid (dO.carry b9); have B9 := Lib.hid (next dB.out b9); have hlow := o9.base_le g9 rfl; have hR9 := (dO.carry b9).lt; have hg9 := Own.ne_box o9 (dO.carry b9) (by decide); have o0 := R9.out.cell (j := 0) (u := .int .i64 0) rfl; have o1 := R9.out.cell (j := 1) (u := .slice none 0 0) rfl; have of0 := R9.out.free 0; have of1 := R9.out.free 1; clear b9 o9)
          all_goals
            go_wp2_with fail
            refine bodyPost_ret (v := .tuple #[.agg #[.int .i64 f, .slice (some ⟨g9, 0, none⟩) (inserted bs b).length cap9], .int .i64 0]) (by simp [results, Try.results15, go_sem, *]) rfl (put_k HC.out (by decide) (list_in HC.out) rfl ?_ ?_)
            · exact Own.setOther (Own.setOther (Own.lower O9.out BB.out.size) hg9) hg9
            · exact (B9.out.setCell (by show w.heap.size ≤ w.heap.size + 2; omega) _).setCell (by show w.heap.size ≤ w.heap.size + 2; omega) _
end Go.Proofs.Ytmfbhddnlgbcmaa
