/-
  Something done with a directory of tables; the error by which it leaves.
-/
import Derived.Test.YtjlbnegdiabglaaDii
set_option linter.unusedSimpArgs false
set_option linter.unusedVariables false
namespace Go.Proofs.Ytjlbnegdiabglaa
open Go Go.RowKit
attribute [local go_sem] via_cell via_frozen

/-- The hand of what changes: a row of its own. -/
structure HandO (w : World) (gh base : Nat) (dep : Int) (A : Option Addr) (c : Nat) (es : List En) : Prop where
  hand : RowAt w gh 71 #[.int .i64 dep, .slice A es.length c]
  own : w.ownsRow base 31 2 (.slice A es.length c) es.length (Cs encE es)
/-- What a closure comes to over the hand. -/
def DoesOk (gs gh : Nat) (d : Int) (es : List En) (w : World) (e : Ending) (w' : World) : Prop := e = .returned (.tuple #[]) ∧ (∃ A c, HandO w' gh gs d A c es) ∧ Below gs w w'
def DoesNo (gs : Nat) (k : Int) (w : World) (e : Ending) (w' : World) : Prop := e = .panicked (errX k) ∧ Below gs w w'
def DoesO (gs gh : Nat) (w : World) : Except Int (Int × List En) → Ending → World → Prop
  | .ok x => DoesOk gs gh x.1 x.2 w
  | .error k => DoesNo gs k w
theorem tries_no (A : Option Addr) (c g : Nat) (lb : Array Value) (dep : Int) (es : List En) (W : World) (h : DirAt W W.heap.size A c es) (hm : mayB dep es = false) :
    Calls Try.prog 50 #[.agg #[.int .i64 dep, .slice A es.length c], .func (.func g) #[] lb] W (DirO W (.error 310)) := by
  go_enter_defers Try.func50, Try.ntmps50
  go_wp2_with fail
  obtain ⟨w1, hw1⟩ : ∃ w1, W.alloc (.cells #[.int .i64 dep, .slice A es.length c] 24) = w1 := ⟨_, rfl⟩
  obtain ⟨w2, hw2⟩ : ∃ w2, w1.alloc (.cells #[.int .i64 0, .slice none 0 0] 24) = w2 := ⟨_, rfl⟩
  obtain ⟨w3, hw3⟩ : ∃ w3, w2.alloc (.cells #[.int .i64 0] 34) = w3 := ⟨_, rfl⟩
  have s1 : w1.heap.size = W.heap.size + 1 := by rw [← hw1]; simp
  have s2 : w2.heap.size = W.heap.size + 1 + 1 := by rw [← hw2]; simp [s1]
  have b1 : Below W.heap.size W w1 := by rw [← hw1]; exact (Below.refl _ _).alloc (Nat.le_refl _) _
  have b2 : Below w1.heap.size w1 w2 := by rw [← hw2]; exact (Below.refl _ _).alloc (Nat.le_refl _) _
  have b3 : Below w2.heap.size w2 w3 := by rw [← hw3]; exact (Below.refl _ _).alloc (Nat.le_refl _) _
  have r2 : RowAt w3 (W.heap.size + 1) 24 #[.int .i64 0, .slice none 0 0] := by have h := RowAt.new w1 24 #[.int .i64 0, .slice none 0 0]; rw [hw2, s1] at h; exact h.below b3
  have r3 : RowAt w3 (W.heap.size + 1 + 1) 34 #[.int .i64 0] := by have h := RowAt.new w2 34 #[.int .i64 0]; rw [hw3, s2] at h; exact h
  have hb0 : Below W.heap.size W w3 := (b1.trans (b2.mono b1.size)).trans (b3.mono (by omega))
  rw [hw1, hw2, hw3]
  have HC := hide (check_any W.heap.size A c dep es w3 (h.below hb0) hb0.size 310 (by rw [hm]; rfl))
  have HB := hide hb0
  have R2 := hide r2
  have R3 := hide r3
  clear hw1 hw2 hw3 b1 b2 b3 hb0 r2 r3 h hm s1 s2
  refine HC.out.mono ?_
  rintro e w4 ⟨rfl, hb⟩
  have R2 := hide (R2.out.below hb)
  have R3 := hide (R3.out.below hb)
  have HB := hide (HB.out.trans (hb.mono HB.out.size))
  clear hb
  go_wp2_with fail
  refine (need_no 310 _).mono ?_
  rintro e w5 ⟨rfl, rfl⟩
  dsimp only
  refine leaves_cons (f := 66) (args := #[.pointer (some ⟨W.heap.size + 1, 0, none⟩), .pointer (some ⟨W.heap.size + 1 + 1, 0, none⟩)]) (by simp) (by simp [go_sem]) ?_
  refine (catch_err (W.heap.size + 1) (W.heap.size + 1 + 1) 310 w4 R2.out R3.out (by omega)).mono ?_
  rintro e u' w'' ⟨rfl, rfl, rfl⟩
  obtain ⟨hr2, hr3, hb2⟩ := catchW_facts (k := 310) R2.out R3.out (by omega)
  have hfin := HB.out.trans (hb2 W.heap.size (by omega) (by omega))
  clear hb2
  generalize catchW (W.heap.size + 1) (W.heap.size + 1 + 1) 310 w4 = w9 at *
  simp [Leaves, settle, results, Try.results50, go_sem, row20 hr2, row21 hr2, row1 hr3, hr2.lt, hr3.lt]
  exact ⟨rfl, hfin⟩
set_option maxHeartbeats 4000000 in
theorem tries_yes (A : Option Addr) (c g : Nat) (lb : Array Value) (dep : Int) (es : List En) (W : World) (hg : ∀ args w, (callFunc g args).run Try.prog w = .ok (.enter g args) w) (h : DirAt W W.heap.size A c es) (hm : mayB dep es = true) (o : Except Int (Int × List En))
    (HC : ∀ w gh gs A c, HandO w gh gs dep A c es → Below W.heap.size W w → W.heap.size < gs → gs < gh → Calls Try.prog g (#[.pointer (some ⟨gh, 0, none⟩)] ++ lb) w (DoesO gs gh w o)) :
    Calls Try.prog 50 #[.agg #[.int .i64 dep, .slice A es.length c], .func (.func g) #[] lb] W (DirO W o) := by
  have hmm := hm
  rw [mayB_all] at hm
  simp only [Bool.and_eq_true] at hm
  have hsh := hm.1.1
  simp [dirShape] at hsh
  obtain ⟨⟨hd0, hd5⟩, hlen⟩ := hsh
  have hn : es.length ≤ 32 := by have := (pow_small dep hd0 hd5).2; omega
  have hn1 : 1 ≤ es.length := by have := (pow_small dep hd0 hd5).1; omega
  clear hm hlen
  obtain ⟨n, hnn⟩ : ∃ n, es.length = n := ⟨_, rfl⟩
  obtain ⟨i0, hi0, hz0, hz1, hz2⟩ := info_parts elE.info
  have hmk := fun w => run_make_rowN (P := Try.prog) 22 31 i0 _ Try.underlying22 hi0 hz0 .i64 .i64 n n (Nat.le_refl _) (by rw [hz2]; omega) (by omega) w
  rw [hz1] at hmk
  have HCL := hide HC
  have H := hide h
  have HM := hide hmm
  rw [hnn] at hn hn1 ⊢
  have HN := hide hnn
  clear hi0 hz0 hz1 hz2 HC h hnn hmm
  go_enter_defers Try.func50, Try.ntmps50
  go_wp2_with fail
  obtain ⟨w1, hw1⟩ : ∃ w1, W.alloc (.cells #[.int .i64 dep, .slice A n c] 24) = w1 := ⟨_, rfl⟩
  obtain ⟨w2, hw2⟩ : ∃ w2, w1.alloc (.cells #[.int .i64 0, .slice none 0 0] 24) = w2 := ⟨_, rfl⟩
  obtain ⟨w3, hw3⟩ : ∃ w3, w2.alloc (.cells #[.int .i64 0] 34) = w3 := ⟨_, rfl⟩
  have s1 : w1.heap.size = W.heap.size + 1 := by rw [← hw1]; simp
  have s2 : w2.heap.size = W.heap.size + 1 + 1 := by rw [← hw2]; simp [s1]
  have b1 : Below W.heap.size W w1 := by rw [← hw1]; exact (Below.refl _ _).alloc (Nat.le_refl _) _
  have b2 : Below w1.heap.size w1 w2 := by rw [← hw2]; exact (Below.refl _ _).alloc (Nat.le_refl _) _
  have b3 : Below w2.heap.size w2 w3 := by rw [← hw3]; exact (Below.refl _ _).alloc (Nat.le_refl _) _
  have r1 : RowAt w3 W.heap.size 24 #[.int .i64 dep, .slice A n c] := by have h := RowAt.new W 24 #[.int .i64 dep, .slice A n c]; rw [hw1] at h; exact (h.below b2).below b3
  have r2 : RowAt w3 (W.heap.size + 1) 24 #[.int .i64 0, .slice none 0 0] := by have h := RowAt.new w1 24 #[.int .i64 0, .slice none 0 0]; rw [hw2, s1] at h; exact h.below b3
  have r3 : RowAt w3 (W.heap.size + 1 + 1) 34 #[.int .i64 0] := by have h := RowAt.new w2 34 #[.int .i64 0]; rw [hw3, s2] at h; exact h
  have hb0 : Below W.heap.size W w3 := (b1.trans (b2.mono b1.size)).trans (b3.mono (by omega))
  rw [hw1, hw2, hw3]
  have HC := hide (check_any W.heap.size A c dep es w3 (H.out.below hb0) hb0.size 0 (by rw [HM.out]; rfl))
  rw [HN.out] at HC
  have HB := hide hb0
  have R1 := hide r1
  have R2 := hide r2
  have R3 := hide r3
  clear hw1 hw2 hw3 b1 b2 b3 hb0 r1 r2 r3 s1 s2
  refine HC.out.mono ?_
  rintro e w4 ⟨rfl, hb⟩
  have R1 := hide (R1.out.below hb)
  have R2 := hide (R2.out.below hb)
  have R3 := hide (R3.out.below hb)
  have HB := hide (HB.out.trans (hb.mono HB.out.size))
  clear hb HC
  have a0 := row20 R1.out
  have a1 := row21 R1.out
  have la := R1.out.lt
  go_wp2_with fail
  refine (need_ok 310 _).mono ?_
  rintro e w5 ⟨rfl, rfl⟩
  dsimp only
  go_upto_region 3 with (fail)
  go_region
  obtain ⟨gs, hgs⟩ : ∃ gs, w4.heap.size = gs := ⟨_, rfl⟩
  obtain ⟨M, hM⟩ : ∃ M, madeCells #[.int .i64 0, .int .u64 0] (n * 2) = M := ⟨_, rfl⟩
  have hMs : M.size = n * 2 := by rw [← hM]; simp [madeCells]
  have hgsW : W.heap.size + 1 + 1 < gs := by rw [← hgs]; exact R3.out.lt
  rw [hM]
  obtain ⟨w5, hw5⟩ : ∃ w5, w4.alloc (.cells M 31) = w5 := ⟨_, rfl⟩
  have s5 : w5.heap.size = gs + 1 := by rw [← hw5]; simp [hgs]
  have b5 : Below w4.heap.size w4 w5 := by rw [← hw5]; exact (Below.refl _ _).alloc (Nat.le_refl _) _
  rw [hgs, hw5]
  obtain ⟨w6, hw6⟩ : ∃ w6, (w5.alloc (.cells #[.int .i64 dep, .slice (some ⟨gs, 0, none⟩) n n] 71)).drew = w6 := ⟨_, rfl⟩
  have s6 : w6.heap.size = gs + 1 + 1 := by rw [← hw6]; show (w5.alloc _).heap.size = _; simp [s5]
  have b6 : Below w5.heap.size w5 w6 := by rw [← hw6]; exact ((Below.refl _ _).alloc (Nat.le_refl _) _).drew
  have r5 : RowAt w6 gs 31 M := by have h := RowAt.new w4 31 M; rw [hw5, hgs] at h; exact h.below b6
  have r6 : RowAt w6 (gs + 1) 71 #[.int .i64 dep, .slice (some ⟨gs, 0, none⟩) n n] := by have h := (RowAt.new w5 71 #[.int .i64 dep, .slice (some ⟨gs, 0, none⟩) n n]).drew; rw [hw6, s5] at h; exact h
  have b46 : Below w4.heap.size w4 w6 := b5.trans (b6.mono b5.size)
  have R1 := hide (R1.out.below b46)
  have R2 := hide (R2.out.below b46)
  have R3 := hide (R3.out.below b46)
  have HB := hide (HB.out.trans (b46.mono HB.out.size))
  rw [hw6]
  clear a0 a1 la
  have a0 := row20 R1.out
  have a1 := row21 R1.out
  have x0 := row20 r6
  have x1 := row21 r6
  have la := R1.out.lt
  have lx := r6.lt
  have HR5 := hide r5
  have HR6 := hide r6
  have HRD := hide ((H.out.rd).below HB.out)
  rw [HN.out] at HRD
  clear hw5 hw6 s5 s6 hgs b5 b6 b46 r5 r6 hmk hM
  go_upto_region 4 with (fail)
  refine wp_region_tail 7 (by kernel_rfl) (by kernel_rfl) ?_
  simp only [List.take_succ_cons, List.take_zero, List.drop_succ_cons, List.drop_zero]
  repeat (go_big_quiet_step (fail))
  refine tail_out fun w7 hb7 => ?_
  have hl7 := hb7.size
  refine wpList_copyRow rfl _ _ 22 22 rfl 31 2 Try.underlying22 (by kernel_rfl) gs n n c W.heap.size A rfl rfl (by omega) M 31 (HR5.out.below hb7) (Cs encE es) (HRD.out.below (hb7.mono HB.out.size)) (by rw [HRD.out.1, hMs]) (Cs_one_cell encE_one _) ?_
  intro w8 hrow8 hp8
  have hsz8 := hp8.size
  have hx6 : RowAt w8 (gs + 1) 71 #[.int .i64 dep, .slice (some ⟨gs, 0, none⟩) n n] := (hp8.block _ (by omega) (by omega)).trans (HR6.out.below hb7)
  have HH8 := hide (show HandO w8 (gs + 1) gs dep (some ⟨gs, 0, none⟩) n es from by
    refine ⟨by rw [HN.out]; exact hx6, ?_⟩
    rw [HN.out]
    exact ⟨by rw [Cs_length encE_len, HN.out], .inr ⟨gs, n, (Cs encE es).toArray, rfl, Nat.le_refl _, hrow8, Nat.le_refl _, by unfold maxLen; omega, by simp [Cs_length encE_len, HN.out], by
      rw [List.toList_toArray]
      exact List.take_of_length_le (by rw [Cs_length encE_len, HN.out]; exact Nat.le_refl _)⟩⟩)
  have R2 := hide (show RowAt w8 (W.heap.size + 1) 24 #[.int .i64 0, .slice none 0 0] from (hp8.block _ (by omega) (by omega)).trans (R2.out.below hb7))
  have R3 := hide (show RowAt w8 (W.heap.size + 1 + 1) 34 #[.int .i64 0] from (hp8.block _ (by omega) (by omega)).trans (R3.out.below hb7))
  have HB := hide ((HB.out.trans (hb7.mono HB.out.size)).trans (hp8.below.mono (by omega)))
  have HCC := hide (HCL.out w8 (gs + 1) gs _ _ HH8.out HB.out (by omega) (by omega))
  have hs8 : W.heap.size + 1 + 1 < w8.heap.size := R3.out.lt
  clear a0 a1 x0 x1 la lx HR5 HR6 HRD hb7 hrow8 hp8 hx6 R1 HCL hl7
  go_wp2_with fail
  cases o with
  | error k =>
    refine HCC.out.mono ?_
    rintro e w9 ⟨rfl, hb9⟩
    have R2 := hide (show RowAt w9 (W.heap.size + 1) 24 #[.int .i64 0, .slice none 0 0] from (hb9.block _ (by omega)).trans R2.out)
    have R3 := hide (show RowAt w9 (W.heap.size + 1 + 1) 34 #[.int .i64 0] from (hb9.block _ (by omega)).trans R3.out)
    have HB := hide (HB.out.trans (hb9.mono (by omega)))
    clear hb9
    dsimp only
    refine leaves_cons (f := 66) (args := #[.pointer (some ⟨W.heap.size + 1, 0, none⟩), .pointer (some ⟨W.heap.size + 1 + 1, 0, none⟩)]) (by simp) (by simp [go_sem]) ?_
    refine (catch_err (W.heap.size + 1) (W.heap.size + 1 + 1) k w9 R2.out R3.out (by omega)).mono ?_
    rintro e u' w'' ⟨rfl, rfl, rfl⟩
    obtain ⟨hr2, hr3, hb2⟩ := catchW_facts (k := k) R2.out R3.out (by omega)
    have hfin := HB.out.trans (hb2 W.heap.size (by omega) (by omega))
    clear hb2
    generalize catchW (W.heap.size + 1) (W.heap.size + 1 + 1) k w9 = wF at *
    simp [Leaves, settle, results, Try.results50, go_sem, row20 hr2, row21 hr2, row1 hr3, hr2.lt, hr3.lt]
    exact ⟨rfl, hfin⟩
  | ok y =>
    obtain ⟨d2, es2⟩ := y
    refine HCC.out.mono ?_
    rintro e w9 ⟨rfl, ⟨A2, c2, hh9⟩, hb9⟩
    have R2 := hide (show RowAt w9 (W.heap.size + 1) 24 #[.int .i64 0, .slice none 0 0] from (hb9.block _ (by omega)).trans R2.out)
    have R3 := hide (show RowAt w9 (W.heap.size + 1 + 1) 34 #[.int .i64 0] from (hb9.block _ (by omega)).trans R3.out)
    have HB := hide (HB.out.trans (hb9.mono (by omega)))
    have HH9 := hide hh9
    obtain ⟨n2, hn2⟩ : ∃ n, es2.length = n := ⟨_, rfl⟩
    have HN2 := hide hn2
    have d0 := row20 hh9.hand
    have d1 := row21 hh9.hand
    dsimp only at d0 d1
    rw [hn2] at d1
    have dl := hh9.hand.lt
    have c20 := row20 R2.out
    have c21 := row21 R2.out
    have c3 := row1 R3.out
    have l2 := R2.out.lt
    have l3 := R3.out.lt
    have f20 := R2.out.frozen 0
    have f21 := R2.out.frozen 1
    have f3 := R3.out.frozen 0
    clear hb9 hh9 hn2
    go_wp2_with fail
    refine leaves_cons (f := 66) (args := #[.pointer (some ⟨W.heap.size + 1, 0, none⟩), .pointer (some ⟨W.heap.size + 1 + 1, 0, none⟩)]) (by simp) (by simp [go_sem]) ?_
    refine (catch_idle ⟨W.heap.size + 1, 0, none⟩ ⟨W.heap.size + 1 + 1, 0, none⟩ _).mono ?_
    rintro e u' w'' ⟨rfl, rfl, rfl⟩
    have hr2 := ((R2.out.set 0 (.int .i64 d2)).set 1 (.slice A2 n2 c2)).setNe (g2 := W.heap.size + 1 + 1) (o := 0) (v := .int .i64 0) (by omega)
    have hr3 := ((R3.out.setNe (g2 := W.heap.size + 1) (o := 0) (v := .int .i64 d2) (by omega)).setNe (g2 := W.heap.size + 1) (o := 1) (v := .slice A2 n2 c2) (by omega)).set 0 (.int .i64 0)
    have hfin := ((HB.out.setCell (p := ⟨W.heap.size + 1, 0, none⟩) (by simp) (.int .i64 d2)).setCell (p := ⟨W.heap.size + 1, 1, none⟩) (by simp) (.slice A2 n2 c2)).setCell (p := ⟨W.heap.size + 1 + 1, 0, none⟩) (by simp; omega) (.int .i64 0)
    have hown := ownsRow_base (base' := W.heap.size) (own_other2 (w' := ((w9.setCell ⟨W.heap.size + 1, 0, none⟩ (.int .i64 d2)).setCell ⟨W.heap.size + 1, 1, none⟩ (.slice A2 n2 c2)).setCell ⟨W.heap.size + 1 + 1, 0, none⟩ (.int .i64 0)) HH9.out.own (fun g hg _ => by
      rw [heap_setCell_ne _ _ _ _ (by simp; omega), heap_setCell_ne _ _ _ _ (by simp; omega), heap_setCell_ne _ _ _ _ (by simp; omega)])) (by omega)
    generalize ((w9.setCell ⟨W.heap.size + 1, 0, none⟩ (.int .i64 d2)).setCell ⟨W.heap.size + 1, 1, none⟩ (.slice A2 n2 c2)).setCell ⟨W.heap.size + 1 + 1, 0, none⟩ (.int .i64 0) = wF at *
    simp only [List.setIfInBounds_toArray, List.set_cons_succ, List.set_cons_zero] at hr2 hr3
    simp [Leaves, settle, results, Try.results50, go_sem, row20 hr2, row21 hr2, row1 hr3, hr2.lt, hr3.lt]
    exact ⟨A2, c2, by rw [HN2.out], hown, hfin⟩
/-- Something done with any directory. -/
theorem tries_any (A : Option Addr) (c g : Nat) (lb : Array Value) (dep : Int) (es : List En) (W : World) (hg : ∀ args w, (callFunc g args).run Try.prog w = .ok (.enter g args) w) (h : DirAt W W.heap.size A c es) (o : Except Int (Int × List En))
    (HC : mayB dep es = true → ∀ w gh gs A c, HandO w gh gs dep A c es → Below W.heap.size W w → W.heap.size < gs → gs < gh → Calls Try.prog g (#[.pointer (some ⟨gh, 0, none⟩)] ++ lb) w (DoesO gs gh w o)) :
    Calls Try.prog 50 #[.agg #[.int .i64 dep, .slice A es.length c], .func (.func g) #[] lb] W (DirO W (if mayB dep es then o else .error 310)) := by
  by_cases hm : mayB dep es = true
  · rw [if_pos hm]
    exact tries_yes A c g lb dep es W hg h hm o (HC hm)
  · rw [if_neg hm]
    exact tries_no A c g lb dep es W h (by simpa using hm)
end Go.Proofs.Ytjlbnegdiabglaa
