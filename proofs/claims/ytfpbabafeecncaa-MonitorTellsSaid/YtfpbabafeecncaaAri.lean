/-
  Arenas that change: the least free slab taken.
-/
import Derived.Test.YtfpbabafeecncaaArg
import Derived.Test.YtfpbabafeecncaaArh
set_option linter.unusedSimpArgs false
set_option linter.unusedVariables false
namespace Go.Proofs.Ytfpbabafeecncaa
open Go Go.RowKit
attribute [local go_sem] Oper.semAt_some via_cell via_frozen

theorem HandAt.past {w w' : World} {gh gs n : Nat} {xs : List (Int × Int)} (h : HandAt w gh gs n xs) (hg : w'.heap[gh]? = w.heap[gh]?) (ys : List (Int × Int)) (hy : ys.length = n) (hr : RowAt w' gs 47 (Cs encE ys).toArray) : HandAt w' gh gs n ys := ⟨hy, h.ne, hg.trans h.box, hr⟩

theorem Past.after {k m : Nat} {a b c : World} (h : Past k a b) (hb : Below m b c) (hk : k ≤ m) (ha : a.heap.size ≤ m) : Past k a c :=
  ⟨h.below.trans (hb.mono hk), fun j hj hl => (hb.block j (by omega)).trans (h.block j hj hl), Nat.le_trans h.size hb.size⟩

/-- What taking comes to. -/
def TakeRes (W : World) (gh gs n : Nat) (xs : List (Int × Int)) (e : Ending) (W' : World) : Prop :=
  (ents xs 0 = [] ∧ e = .panicked (errX 6) ∧ Below W.heap.size W W') ∨ (∃ x r, ents xs 0 = x :: r ∧ e = .returned (.agg #[.int .i64 x.1, .int .u64 x.2]) ∧ HandAt W' gh gs n (put1 1 xs x) ∧ Past gs W W')

/-- Ahead of the first round. -/
def TkI (go_ : Nat) (pre : List (Int × Int)) (W : World) : Prop := pre = [] ∧ RowAt W go_ 43 #[.int .i64 0, .int .u64 0] ∧ RowAt W (go_ + 1) 4 #[.bool false]
/-- Behind it. -/
def TkX (go_ id : Nat) (c : Code) (pre : List (Int × Int)) (W : World) : Prop := c = .exit id ∧ ∃ x, pre = [x] ∧ RowAt W go_ 43 #[.int .i64 x.1, .int .u64 x.2] ∧ RowAt W (go_ + 1) 4 #[.bool true]
theorem TkI.stays (g : Nat) : Stays (TkI g) := fun _ _ _ ⟨h0, h1, h2⟩ hl => ⟨h0, h1.lie hl, h2.lie hl⟩
theorem TkX.stays (g id : Nat) (c : Code) : Stays (TkX g id c) := fun _ _ _ ⟨h0, x, h1, h2, h3⟩ hl => ⟨h0, x, h1, h2.lie hl, h3.lie hl⟩

set_option maxHeartbeats 1000000 in
theorem take_any (gh gs n : Nat) (xs : List (Int × Int)) (W : World) (h : HandAt W gh gs n xs) (hn : n ≤ 4096) :
    Calls Try.prog 90 #[.pointer (some ⟨gh, 0, none⟩)] W (TakeRes W gh gs n xs) := by
  refine calls_of_wp_marks Try.func90 rfl ?_
  simp only [Try.ntmps90, List.size_toArray, List.length_cons, List.length_nil, Nat.reduceAdd, Nat.reduceSub, Array.replicate_succ, Array.replicate_zero, List.push_toArray, List.append_toArray, List.nil_append, List.cons_append]
  go_wp2_with fail
  go_step3
  go_wp2_with fail
  obtain ⟨w1, hw1⟩ : ∃ w1, W.alloc (.cells #[.int .i64 0, .int .u64 0] 43) = w1 := ⟨_, rfl⟩
  obtain ⟨w2, hw2⟩ : ∃ w2, w1.alloc (.cells #[.int .i64 0, .int .u64 0] 43) = w2 := ⟨_, rfl⟩
  obtain ⟨w3, hw3⟩ : ∃ w3, w2.alloc (.cells #[.bool false] 4) = w3 := ⟨_, rfl⟩
  have s1 : w1.heap.size = W.heap.size + 1 := by rw [← hw1]; simp
  have s2 : w2.heap.size = W.heap.size + 1 + 1 := by rw [← hw2]; simp [s1]
  have s3 : w3.heap.size = W.heap.size + 1 + 1 + 1 := by rw [← hw3]; simp [s2]
  have b1 : Below W.heap.size W w1 := by rw [← hw1]; exact (Below.refl _ _).alloc (Nat.le_refl _) _
  have b2 : Below w1.heap.size w1 w2 := by rw [← hw2]; exact (Below.refl _ _).alloc (Nat.le_refl _) _
  have b3 : Below w2.heap.size w2 w3 := by rw [← hw3]; exact (Below.refl _ _).alloc (Nat.le_refl _) _
  have r1 : RowAt w3 W.heap.size 43 #[.int .i64 0, .int .u64 0] := by have h := RowAt.new W 43 #[.int .i64 0, .int .u64 0]; rw [hw1] at h; exact (h.below b2).below b3
  have r2 : RowAt w3 (W.heap.size + 1) 43 #[.int .i64 0, .int .u64 0] := by have h := RowAt.new w1 43 #[.int .i64 0, .int .u64 0]; rw [hw2, s1] at h; exact h.below b3
  have r3 : RowAt w3 (W.heap.size + 1 + 1) 4 #[.bool false] := by have h := RowAt.new w2 4 #[.bool false]; rw [hw3, s2] at h; exact h
  have hb0 : Below W.heap.size W w3 := (b1.trans (b2.mono b1.size)).trans (b3.mono (by omega))
  have HH := hide (h.below hb0)
  have HB := hide hb0
  have R1 := hide r1
  have R2 := hide r2
  have R3 := hide r3
  have hx0 := row1 HH.out.box
  have hl1 := HH.out.box.lt
  have hghW := h.box.lt
  have hgsW := h.row.lt
  rw [hw1, hw2, hw3]
  clear b1 b2 b3 hb0 r1 r2 r3
  clear hw1 hw2 hw3 s1 s2
  go_step3
  go_wp2_with fail
  refine (tagged_any (some ⟨gs, 0, none⟩) n n 0 w3).mono ?_
  rintro e w5 ⟨rfl, hra, hrt, hb⟩
  have HH5 := hide (HH.out.below hb)
  have HB5 := hide (HB.out.trans (hb.mono HB.out.size))
  have R1 := hide (R1.out.below hb)
  have R2 := hide (R2.out.below hb)
  have R3 := hide (R3.out.below hb)
  have hla := hra.lt
  have hlt := hrt.lt
  have hseq := tagged_seq (fun j => (j < W.heap.size + 1 ∨ W.heap.size + 1 + 1 < j) ∧ j < w5.heap.size) w3.heap.size (w3.heap.size + 1) (some ⟨gs, 0, none⟩) n 0 xs w5 (by rw [HH5.out.len]; exact row1 hra) (row1 hrt) hla hlt ⟨by omega, hlt⟩ (fun j hj => hj.2) (by rw [HH5.out.len]; exact HH5.out.rd) (fun p hp hpos => by
    injection hp with hp
    subst hp
    exact ⟨by show gs < _ ∨ _; omega, HH5.out.row.lt⟩) (by rw [HH5.out.len]; omega)
  rw [s3] at hseq hla hlt ⊢
  have HLEN := hide HH5.out.len
  clear hb hra hrt hx0 HH
  go_wp2_with fail
  refine wp_range (gf := 96) (lb := #[.pointer (some ⟨W.heap.size + 1 + 1 + 1, 0, none⟩), .pointer (some ⟨W.heap.size + 1 + 1 + 1 + 1, 0, none⟩)]) rfl (enters_of Try.func96 (by kernel_rfl) rfl) hseq (W.heap.size + 1) (by omega) (fun j hj => hj.2) (Below.refl _ _) (fun _ => rfl)
    (TkI (W.heap.size + 1)) (TkX (W.heap.size + 1) 0) (TkI.stays _) (TkX.stays _ 0) ⟨rfl, R2.out, R3.out⟩
    (fun T x a' W2 => BoxAct W.heap.size #[12] (encEv x) 5 43 #[.int .i64 x.1, .int .u64 x.2] T a' W2) (fun T a' => BoxAct.stays W.heap.size #[12] encEv 5 43 (fun x => #[.int .i64 x.1, .int .u64 x.2]) T a') ?assign ?body ?done ?stop ?panic
  case assign =>
    intro l pre x W2 R hI hb hs hlen hR
    dsimp only [encEv] at hR ⊢
    gi_wp2
    refine hR _ _ (KeepsOthers.alloc _ _) ((Below.refl _ _).alloc (by omega) _) (fun j hj => Below.heap_alloc _ _ _ (by have := hj.2; omega)) (TkI.stays _ _ _ _ hI (CellsLie.of_below ((Below.refl _ _).alloc (Nat.le_refl _) _))) ⟨W2.heap.size, RowAt.new W2 43 _, by omega, by simp [encEv]⟩
  case body =>
    rintro l pre x a' W2 ⟨rfl, hr2, hr3⟩ ⟨Bx, hbx, hkx, rfl⟩ hb hs hlen
    dsimp only [encEv]
    have hbx' : RowAt W2 Bx 43 #[.int .i64 x.1, .int .u64 x.2] := hbx
    have e0 := row20 hbx'
    have e1 := row21 hbx'
    have HR2 := hide hr2
    have HR3 := hide hr3
    have p0 := hr2.cell 0
    have p1 := hr2.cell 1
    have f0 := hr2.frozen 0
    have f1 := hr2.frozen 1
    have q0 := row1 hr3
    have g0 := hr3.frozen 0
    simp only [List.getElem?_toArray, List.getElem?_cons_succ, List.getElem?_cons_zero] at p0 p1
    have l2 := hr2.lt
    have l3 := hr3.lt
    have lx := hbx'.lt
    clear hr2 hr3 hbx
    gi_wp2
    refine ⟨((KeepsOthers.setCell _ _ _).trans (KeepsOthers.setCell _ _ _)).trans (KeepsOthers.setCell _ _ _), (((Below.refl (W.heap.size + 1) W2).setCell (p := ⟨W.heap.size + 1, 0, none⟩) (Nat.le_refl _) _).setCell (p := ⟨W.heap.size + 1, 1, none⟩) (Nat.le_refl _) _).setCell (p := ⟨W.heap.size + 1 + 1, 0, none⟩) (by simp) _, rfl, x, rfl, ?_, ?_⟩
    · exact (((HR2.out.set 0 (.int .i64 x.1)).set 1 (.int .u64 x.2))).setNe (by omega)
    · exact ((HR3.out.setNe (by omega)).setNe (by omega)).set 0 (.bool true)
  case done =>
    rintro ys W2 hys ⟨rfl, hr2, hr3⟩ hb hs hD
    have q0 := row1 hr3
    have l3 := hr3.lt
    have HD := hide hD
    have HBF := hide (HB5.out.trans (hb.mono (by omega)))
    have HYS := hide hys
    clear hr2 hr3 hb hD hys
    unfold marked
    go_wp2_with fail
    refine (need_no 6 _).mono ?_
    rintro e w6 ⟨rfl, rfl⟩
    go_wp2_with fail
    refine ⟨by simp, .inl ⟨_, _, rfl, run_takeDeferred HD.out, ?_⟩⟩
    exact .inl ⟨HYS.out.symm, rfl, HBF.out.trans (below_putObj (o := .deferred (some [])) _ (by have := HB5.out.size; omega))⟩
  case stop =>
    rintro c pre W2 ⟨r, hr⟩ ⟨rfl, x, rfl, hr2, hr3⟩ hb hs hD
    have HH2 : Hid (HandAt W2 gh gs n xs) := hide ⟨HLEN.out, HH5.out.ne, (hb.block gh (by omega)).trans HH5.out.box, (hb.block gs (by omega)).trans HH5.out.row⟩
    have q0 := row1 hr3
    have l3 := hr3.lt
    have p0 := row20 hr2
    have p1 := row21 hr2
    have l2 := hr2.lt
    have HR1 := hide ((hb.block W.heap.size (by omega)).trans R1.out)
    have HD := hide hD
    have HBF := hide (HB5.out.trans (hb.mono (by omega)))
    have HYS := hide hr
    obtain ⟨x0, x1, hxk⟩ := ents_mem (show x ∈ ents xs 0 by rw [← hr]; simp)
    obtain ⟨t, g⟩ := x
    dsimp only at x0 x1 hxk p0 p1
    obtain ⟨k, rfl⟩ := Int.eq_ofNat_of_zero_le x0
    have hkn : k < n := by have := HLEN.out; omega
    have hkI : (k : Int) < (n : Int) := by omega
    have hx0 := row1 HH2.out.box
    have hlg := HH2.out.box.lt
    have hlr := HH2.out.row.lt
    have HXK := hide hxk
    clear hb hr2 hr3 hr hD x1 hxk
    unfold marked
    go_wp2_with fail
    refine (need_ok 6 _).mono ?_
    rintro e w6 ⟨rfl, rfl⟩
    go_wp2_with fail
    refine wp_region_tail 9 (by kernel_rfl) (by kernel_rfl) ?_
    simp only [List.take_succ_cons, List.take_zero, List.drop_succ_cons, List.drop_zero]
    repeat (go_big_quiet_step (fail))
    refine tail_out fun w2 hb2 => ?_
    have HH3 := hide (HH2.out.below hb2)
    have c0 := HH3.out.row.cell (k * 2)
    have f0 := HH3.out.row.frozen (k * 2)
    have l0 := HH3.out.row.lt
    have P0 := hide (kept hb2 p0)
    have P1 := hide (kept hb2 p1)
    have HR1 := hide (RowAt.below HR1.out hb2)
    have HD2 := hide ((hb2.block _ hs).trans HD.out)
    have HBF2 := hide (HBF.out.trans (hb2.mono HBF.out.size))
    have hsz2 := hb2.size
    clear hb2 p0 p1 q0 hx0
    have c1 := HH3.out.cell0 hkn
    have m0 := P0.out
    have m1 := P1.out
    have z0 := HR1.out.cell 0
    have z1 := HR1.out.cell 1
    have y0 := HR1.out.frozen 0
    have y1 := HR1.out.frozen 1
    simp only [List.getElem?_toArray, List.getElem?_cons_succ, List.getElem?_cons_zero] at z0 z1
    have n1 : ¬ gs = W.heap.size + 1 := by omega
    have n2 : ¬ W.heap.size + 1 = gs := by omega
    have n3 : ¬ gs = W.heap.size := by omega
    have n4 : ¬ W.heap.size = gs := by omega
    have l4 : W.heap.size + 1 < w2.heap.size := by omega
    have l5 : W.heap.size < w2.heap.size := by omega
    clear c0
    go_wp2_with fail
    rw [Exit.noGoto_ret]
    have hD9 : (((w2.setCell ⟨gs, k * 2, none⟩ (.int .i64 1)).setCell ⟨W.heap.size, 0, none⟩ (.int .i64 (k : Int))).setCell ⟨W.heap.size, 1, none⟩ (.int .u64 g)).heap[w5.heap.size]? = some (.deferred (some [])) := by
      have := HB5.out.size
      rw [heap_setCell_ne _ _ _ _ (by simp; omega), heap_setCell_ne _ _ _ _ (by simp; omega), heap_setCell_ne _ _ _ _ (by simp; omega)]
      exact HD2.out
    have hP7 : Past gs W (w2.setCell ⟨gs, k * 2, none⟩ (.int .i64 1)) := (Past.of_below hgsW HBF2.out).trans (Past.set _ _)
    have hB9 : Below W.heap.size (w2.setCell ⟨gs, k * 2, none⟩ (.int .i64 1)) ((((w2.setCell ⟨gs, k * 2, none⟩ (.int .i64 1)).setCell ⟨W.heap.size, 0, none⟩ (.int .i64 (k : Int))).setCell ⟨W.heap.size, 1, none⟩ (.int .u64 g)).putObj w5.heap.size (.deferred none)) :=
      (((Below.refl _ _).setCell (p := ⟨W.heap.size, 0, none⟩) (Nat.le_refl _) _).setCell (p := ⟨W.heap.size, 1, none⟩) (Nat.le_refl _) _).trans (below_putObj (o := .deferred (some [])) _ (by have := HB5.out.size; omega))
    have hrow7 : RowAt (w2.setCell ⟨gs, k * 2, none⟩ (.int .i64 1)) gs 47 (Cs encE (put1 1 xs ((k : Int), g))).toArray := by
      have h := HH3.out.row.set (k * 2) (.int .i64 1)
      rw [List.setIfInBounds_toArray, Cs_set0 xs k 1 (by rw [HLEN.out]; exact hkn)] at h
      have hg : (xs.getD k (0, 0)).2 = g := by
        have := HXK.out
        simp only [Int.toNat_natCast] at this
        rw [List.getD_eq_getElem?_getD, this]; rfl
      rw [hg] at h
      simpa [put1] using h
    refine ⟨by simp, .inl ⟨_, _, rfl, run_takeDeferred hD9, ?_⟩⟩
    have hr9 : RowAt ((((w2.setCell ⟨gs, k * 2, none⟩ (.int .i64 1)).setCell ⟨W.heap.size, 0, none⟩ (.int .i64 (k : Int))).setCell ⟨W.heap.size, 1, none⟩ (.int .u64 g)).putObj w5.heap.size (.deferred none)) W.heap.size 43 #[.int .i64 (k : Int), .int .u64 g] :=
      RowAt.lie (((HR1.out.setNe (by omega)).set 0 (.int .i64 (k : Int))).set 1 (.int .u64 g)) (CellsLie.putObj _ hD9 rfl)
    generalize ((((w2.setCell ⟨gs, k * 2, none⟩ (.int .i64 1)).setCell ⟨W.heap.size, 0, none⟩ (.int .i64 (k : Int))).setCell ⟨W.heap.size, 1, none⟩ (.int .u64 g)).putObj w5.heap.size (.deferred none)) = w9 at *
    refine ⟨.agg #[.int .i64 (k : Int), .int .u64 g], by simp [results, Try.results90, go_sem, row20 hr9, row21 hr9, hr9.lt], .inr ⟨_, r, HYS.out.symm, rfl, ⟨by rw [put1_length, HLEN.out], HH5.out.ne, ?_, ?_⟩, hP7.after hB9 (by omega) (Nat.le_refl _)⟩⟩
    · exact (hB9.block gh (by omega)).trans (HH3.out.box.setNe (Ne.symm HH5.out.ne))
    · exact (hB9.block gs (by omega)).trans hrow7
  case panic =>
    rintro pre W h
    exact h.elim
end Go.Proofs.Ytfpbabafeecncaa
