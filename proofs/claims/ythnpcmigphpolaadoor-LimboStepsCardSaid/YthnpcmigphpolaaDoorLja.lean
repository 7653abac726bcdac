/-
  Limbos: Take.
-/
import Derived.Test.YthnpcmigphpolaaDoorLiz
set_option linter.unusedSimpArgs false
set_option linter.unusedVariables false
namespace Go.Proofs.YthnpcmigphpolaaDoor
open Go Go.RowKit
attribute [local go_sem] via_cell via_frozen
attribute [local go_sem] wpmf

abbrev entC (x : Ent) : Array Value := #[.int .i64 x.1, .int .u64 x.2]
def TakG (l l' : Lim) : Prop := ∃ x, doTake l = .ok (l', x)
def TakX (l : Lim) (kl : Nat) (l' : Lim) (w : World) : Prop := ∃ x, doTake l = .ok (l', x) ∧ RowAt w kl 34 (entC x)
theorem tak1_any (kl gx : Nat) (l : Lim) (A : Nat → Option Addr) (n c : Nat → Nat) (w : World) (h : ChAt w gx (gx + 1) l A n c) (hb : RowAt w kl 34 (entC (0, 0))) (hkl : kl < gx) (ho : l.ok = true) :
    Calls Tryd.prog 43 #[.pointer (some ⟨gx, 0, none⟩), .pointer (some ⟨kl, 0, none⟩)] w (DoesRes kl gx (gx + 1) (TakG l) (fun k w' => doTake l = .error k ∧ RowAt w' kl 34 (entC (0, 0)))
      (TakX l kl) w) := by
  have HC := hide (take_any gx l A n c w h ho)
  have H := hide h
  have HR := hide hb
  clear h hb
  go_enter Tryd.func43, Tryd.ntmps43
  go_wp2_with fail
  with_reducible refine HC.out.mono ?_
  rintro e w1 (⟨l', ⟨s, g⟩, rfl, hl', A', n', c', hch, hfr⟩ | ⟨k, rfl, hk, hp⟩)
  · have HCH := hide hch
    have HP := hide (hfr.past kl H.out)
    have HL := hide hl'
    have hr1 : RowAt w1 kl 34 (entC (0, 0)) := (hfr.block kl HR.out.lt (by omega) (fun k p hk hp => by have := ((H.out.own.own k hk).fresh hp).1; omega)).trans HR.out
    have HR1 := hide hr1
    have q0 := row20 hr1
    have q1 := row21 hr1
    have ql := hr1.lt
    have f0 := hr1.frozen 0
    have f1 := hr1.frozen 1
    clear hch hfr hl' hr1
    unfold entV
    dsimp only
    go_wp2_with fail
    go_end0
    refine ⟨(HP.out.trans (PastK.setKl 0 _)).trans (PastK.setKl 1 _), .inl ⟨rfl, l', A', n', c', ⟨(HCH.out.row.setNe (by omega)).setNe (by omega), HCH.out.own.other (fun j h1 _ => by rw [heap_setCell_ne _ _ _ _ (by show j ≠ kl; omega), heap_setCell_ne _ _ _ _ (by show j ≠ kl; omega)]), by omega⟩, ⟨_, HL.out⟩, (s, g), HL.out, ?_⟩⟩
    have h := (HR1.out.set 0 (.int .i64 s)).set 1 (.int .u64 g)
    simpa using h
  · exact ⟨rfl, ⟨hp.os, hp.tape, hp.output, hp.size, fun j h1 h2 h3 => hp.block j h1 (by omega) h3⟩, .inr ⟨k, rfl, hk, (hp.block kl hkl (by omega) HR.out.lt).trans HR.out⟩⟩
def takR (l : Lim) : Except Int (Lim × Ent) := if l.ok then doTake l else .error 240
def OutResT (W : World) (r : Except Int (Lim × Ent)) (e : Ending) (W' : World) : Prop :=
  Below W.heap.size W W' ∧ ((∃ l' x A' n' c', r = .ok (l', x) ∧ e = .returned (.tuple #[.agg (limC l'.E A' n' c'), .agg (entC x), .int .i64 0]) ∧ LimOwn W' W.heap.size A' n' c' l'.r) ∨
    (∃ k, r = .error k ∧ e = .returned (.tuple #[.agg zeroC, .agg (entC (0, 0)), .int .i64 k])))
/-- What the call of tries comes to, as Take has it. -/
def TakTr (l : Lim) (kl : Nat) (W : World) (e : Ending) (W' : World) : Prop :=
  PastK kl W.heap.size W W' ∧ ((∃ l' x A' n' c', takR l = .ok (l', x) ∧ e = .returned (.tuple #[.agg (limC l'.E A' n' c'), .int .i64 0]) ∧ LimOwn W' W.heap.size A' n' c' l'.r ∧ RowAt W' kl 34 (entC x)) ∨
    (∃ k, takR l = .error k ∧ e = .returned (.tuple #[.agg zeroC, .int .i64 k]) ∧ RowAt W' kl 34 (entC (0, 0))))
theorem takTr_any (B : Nat) (A : Nat → Option Addr) (n c : Nat → Nat) (l : Lim) (kl : Nat) (w : World) (h : LimRd w B A n l.r) (hE : l.E < 18446744073709551616) (hB : B ≤ w.heap.size) (hm : ∀ k, k < 3 → n k ≤ 4096)
    (hg : ∀ k, k < 3 → ∀ e ∈ l.r k, 0 ≤ e.2 ∧ e.2 < 18446744073709551616) (hr : RowAt w kl 34 (entC (0, 0))) :
    Calls Tryd.prog 32 #[.agg (limC l.E A n c), .func (.func 43) #[] #[.pointer (some ⟨kl, 0, none⟩)]] w (TakTr l kl w) := by
  have hkl := hr.lt
  rcases Bool.eq_false_or_eq_true l.ok with hok | hok
  · have hR : takR l = doTake l := by unfold takR; rw [hok, if_pos rfl]
    unfold TakTr
    rw [hR]
    refine (tries_yes kl B A n c l 43 _ w (enters_of Tryd.func43 (by kernel_rfl) rfl) h hB hm hg hok (TakG l) (fun k w' => doTake l = .error k ∧ RowAt w' kl 34 (entC (0, 0)))
      (TakX l kl) (fun l' w1 w2 hx hk => by obtain ⟨x, h1, h2⟩ := hx; exact ⟨x, h1, (hk kl (by omega) (by omega) h2.lt).trans h2⟩) (fun k w1 w2 hx hk => ⟨hx.1, (hk kl (by omega) (by omega) hx.2.lt).trans hx.2⟩) (by omega)
      (fun w' gx A' c' hch hb hgx => by rw [app1]; exact tak1_any kl gx l A' n c' w' hch (hr.below hb) (by omega) hok)).mono ?_
    rintro e w' ⟨hp, (⟨l', A', n', c', rfl, hown, hG, x, hx, hrow⟩ | ⟨k, rfl, hF⟩)⟩
    · exact ⟨hp, .inl ⟨l', x, A', n', c', hx, rfl, hown, hrow⟩⟩
    · exact ⟨hp, .inr ⟨k, hF.1, rfl, hF.2⟩⟩
  · refine (tries_no B A n c l 43 _ w h hE hB hm hg hok).mono ?_
    rintro e w' ⟨rfl, hb⟩
    exact ⟨PastK.of_below hb (Nat.le_refl _), .inr ⟨240, by unfold takR; rw [hok]; rfl, rfl, hr.below hb⟩⟩
/-- Two results have been laid into their boxes. -/
def LaidT (W w : World) (C D : Array Value) (w' : World) : Prop :=
  (RowAt w' (W.heap.size + 1) 26 C ∧ RowAt w' (W.heap.size + 1 + 1) 34 D) ∧ (∀ j, j ≠ W.heap.size + 1 → j ≠ W.heap.size + 1 + 1 → w'.heap[j]? = w.heap[j]?) ∧ Below (W.heap.size + 1) w w'
theorem laidT_of {W w : World} {C : Array Value} {v0 v1 v2 v3 : Value} {e0 e1 : Value} (h : RowAt w (W.heap.size + 1) 26 C) (hC : C.size = 4) (h2 : RowAt w (W.heap.size + 1 + 1) 34 (entC (0, 0))) :
    LaidT W w #[v0, v1, v2, v3] #[e0, e1] ((((((w.setCell ⟨W.heap.size + 1, 0, none⟩ v0).setCell ⟨W.heap.size + 1, 1, none⟩ v1).setCell ⟨W.heap.size + 1, 2, none⟩ v2).setCell ⟨W.heap.size + 1, 3, none⟩ v3).setCell ⟨W.heap.size + 1 + 1, 0, none⟩ e0).setCell ⟨W.heap.size + 1 + 1, 1, none⟩ e1) := by
  have hL := laidL_of (v0 := v0) (v1 := v1) (v2 := v2) (v3 := v3) h hC
  generalize (((w.setCell ⟨W.heap.size + 1, 0, none⟩ v0).setCell ⟨W.heap.size + 1, 1, none⟩ v1).setCell ⟨W.heap.size + 1, 2, none⟩ v2).setCell ⟨W.heap.size + 1, 3, none⟩ v3 = w7 at *
  have h3 : RowAt w7 (W.heap.size + 1 + 1) 34 (entC (0, 0)) := (hL.block _ (by omega)).trans h2
  refine ⟨⟨(hL.row.setNe (by omega)).setNe (by omega), ?_⟩, fun j h1 h2 => by rw [heap_setCell_ne _ _ _ _ h2, heap_setCell_ne _ _ _ _ h2]; exact hL.block j h1, (hL.below.setCell (p := ⟨W.heap.size + 1 + 1, 0, none⟩) (by simp) _).setCell (p := ⟨W.heap.size + 1 + 1, 1, none⟩) (by simp) _⟩
  have h4 := (h3.set 0 e0).set 1 e1
  simpa using h4
set_option maxHeartbeats 4000000 in
theorem Take_any (B : Nat) (A : Nat → Option Addr) (n c : Nat → Nat) (l : Lim) (W : World) (h : LimRd W B A n l.r) (hE : l.E < 18446744073709551616) (hB : B ≤ W.heap.size) (hm : ∀ k, k < 3 → n k ≤ 4096)
    (hg : ∀ k, k < 3 → ∀ e ∈ l.r k, 0 ≤ e.2 ∧ e.2 < 18446744073709551616) :
    Calls Tryd.prog 17 #[.agg (limC l.E A n c)] W (OutResT W (takR l)) := by
  obtain ⟨w1, hw1⟩ : ∃ w1, W.alloc (.cells (limC l.E A n c) 26) = w1 := ⟨_, rfl⟩
  obtain ⟨w2, hw2⟩ : ∃ w2, w1.alloc (.cells zeroC 26) = w2 := ⟨_, rfl⟩
  obtain ⟨w3, hw3⟩ : ∃ w3, w2.alloc (.cells #[.int .i64 0, .int .u64 0] 34) = w3 := ⟨_, rfl⟩
  obtain ⟨w4, hw4⟩ : ∃ w4, w3.alloc (.cells #[.int .i64 0, .int .u64 0] 34) = w4 := ⟨_, rfl⟩
  have s1 : w1.heap.size = W.heap.size + 1 := by rw [← hw1]; simp
  have s2 : w2.heap.size = W.heap.size + 1 + 1 := by rw [← hw2]; simp [s1]
  have s3 : w3.heap.size = W.heap.size + 1 + 1 + 1 := by rw [← hw3]; simp [s2]
  have s4 : w4.heap.size = W.heap.size + 1 + 1 + 1 + 1 := by rw [← hw4]; simp [s3]
  have b1 : Below W.heap.size W w1 := by rw [← hw1]; exact (Below.refl _ _).alloc (Nat.le_refl _) _
  have b2 : Below w1.heap.size w1 w2 := by rw [← hw2]; exact (Below.refl _ _).alloc (Nat.le_refl _) _
  have b3 : Below w2.heap.size w2 w3 := by rw [← hw3]; exact (Below.refl _ _).alloc (Nat.le_refl _) _
  have b4 : Below w3.heap.size w3 w4 := by rw [← hw4]; exact (Below.refl _ _).alloc (Nat.le_refl _) _
  have r2 : RowAt w4 (W.heap.size + 1) 26 zeroC := by have h := RowAt.new w1 26 zeroC; rw [hw2, s1] at h; exact (h.below b3).below b4
  have r3 : RowAt w4 (W.heap.size + 1 + 1) 34 (entC (0, 0)) := by have h := RowAt.new w2 34 (entC (0, 0)); rw [hw3, s2] at h; exact h.below b4
  have r4 : RowAt w4 (W.heap.size + 1 + 1 + 1) 34 (entC (0, 0)) := by have h := RowAt.new w3 34 (entC (0, 0)); rw [hw4, s3] at h; exact h
  have hb0 : Below W.heap.size W w4 := ((b1.trans (b2.mono b1.size)).trans (b3.mono (by omega))).trans (b4.mono (by omega))
  have HTR := hide (takTr_any B A n c l (W.heap.size + 1 + 1 + 1) w4 (h.below (hb0.mono hB)) hE (Nat.le_trans hB hb0.size) hm hg r4)
  have HB := hide hb0
  have R2 := hide r2
  have R3 := hide r3
  have S4 := hide s4
  clear b1 b2 b3 b4 r2 r3 r4 hb0 s1 s2 s3 s4 h hm hg hE
  subst hw4
  subst hw3
  subst hw2
  subst hw1
  go_enter Tryd.func17, Tryd.ntmps17
  go_wp2_with fail
  generalize (((W.alloc (.cells (limC l.E A n c) 26)).alloc (.cells zeroC 26)).alloc (.cells #[.int .i64 0, .int .u64 0] 34)).alloc (.cells #[.int .i64 0, .int .u64 0] 34) = w4 at *
  have hs4 := S4.out
  with_reducible refine HTR.out.mono ?_
  rintro e w5 ⟨hp5, hres⟩
  have hs5 := hp5.size
  have R2 := hide (show RowAt w5 (W.heap.size + 1) 26 zeroC from (hp5.block _ (by omega) (by omega) (by omega)).trans R2.out)
  have R3 := hide (show RowAt w5 (W.heap.size + 1 + 1) 34 (entC (0, 0)) from (hp5.block _ (by omega) (by omega) (by omega)).trans R3.out)
  have HB5 := hide (show Below W.heap.size W w5 from HB.out.trans ⟨hp5.os, hp5.tape, hp5.output, hp5.size, fun j hj => hp5.block j (by omega) (by omega) (by omega)⟩)
  clear hp5 HB HTR
  rcases hres with ⟨l', ⟨s, g⟩, A', n', c', hr, rfl, hown, hrow⟩ | ⟨k, hr, rfl, hrow⟩
  · have HO := hide hown
    have HRR := hide hr
    have HRK := hide hrow
    have HRN := hide (RowAt.new w5 26 (limC l'.E A' n' c'))
    have HBN := hide (show Below w5.heap.size w5 (w5.alloc (.cells (limC l'.E A' n' c') 26)) from (Below.refl _ _).alloc (Nat.le_refl _) _)
    clear hown hr hrow
    go_wp2_with fail
    generalize w5.alloc (.cells #[.int .u64 (l'.E : Int), .slice (A' 0) (n' 0) (c' 0), .slice (A' 1) (n' 1) (c' 1), .slice (A' 2) (n' 2) (c' 2)] 26) = w6 at *
    have R2 := hide (R2.out.below HBN.out)
    have R3 := hide (R3.out.below HBN.out)
    have HRK := hide (HRK.out.below HBN.out)
    have HB6 := hide (HB5.out.trans (HBN.out.mono HB5.out.size))
    have x0 : w6.cell? ⟨w5.heap.size, 0, none⟩ = some (.int .u64 (l'.E : Int)) := by have := HRN.out.cell 0; simpa [limC] using this
    have x1 : w6.cell? ⟨w5.heap.size, 1, none⟩ = some (.slice (A' 0) (n' 0) (c' 0)) := by have := HRN.out.cell 1; simpa [limC] using this
    have x2 : w6.cell? ⟨w5.heap.size, 2, none⟩ = some (.slice (A' 1) (n' 1) (c' 1)) := by have := HRN.out.cell 2; simpa [limC] using this
    have x3 : w6.cell? ⟨w5.heap.size, 3, none⟩ = some (.slice (A' 2) (n' 2) (c' 2)) := by have := HRN.out.cell 3; simpa [limC] using this
    have xl := HRN.out.lt
    have z0 : w6.cell? ⟨W.heap.size + 1, 0, none⟩ = some (.int .u64 0) := by have := R2.out.cell 0; simpa using this
    have z1 : w6.cell? ⟨W.heap.size + 1, 1, none⟩ = some (.slice none 0 0) := by have := R2.out.cell 1; simpa using this
    have z2 : w6.cell? ⟨W.heap.size + 1, 2, none⟩ = some (.slice none 0 0) := by have := R2.out.cell 2; simpa using this
    have z3 : w6.cell? ⟨W.heap.size + 1, 3, none⟩ = some (.slice none 0 0) := by have := R2.out.cell 3; simpa using this
    have zl := R2.out.lt
    have f0 := R2.out.frozen 0
    have f1 := R2.out.frozen 1
    have f2 := R2.out.frozen 2
    have f3 := R2.out.frozen 3
    have y0 := row20 R3.out
    have y1 := row21 R3.out
    have yl := R3.out.lt
    have g0 := R3.out.frozen 0
    have g1 := R3.out.frozen 1
    have k0 := row20 HRK.out
    have k1 := row21 HRK.out
    have kl := HRK.out.lt
    have hne : ¬ w5.heap.size = W.heap.size + 1 := by omega
    have hne2 : ¬ w5.heap.size = W.heap.size + 1 + 1 := by omega
    dsimp only at k0 k1
    go_region
    all_goals
      have HLD : Hid (LaidT W w6 (limC l'.E A' n' c') (entC (s, g)) ((((((w6.setCell ⟨W.heap.size + 1, 0, none⟩ (.int .u64 (l'.E : Int))).setCell ⟨W.heap.size + 1, 1, none⟩ (.slice (A' 0) (n' 0) (c' 0))).setCell ⟨W.heap.size + 1, 2, none⟩ (.slice (A' 1) (n' 1) (c' 1))).setCell ⟨W.heap.size + 1, 3, none⟩ (.slice (A' 2) (n' 2) (c' 2))).setCell ⟨W.heap.size + 1 + 1, 0, none⟩ (.int .i64 s)).setCell ⟨W.heap.size + 1 + 1, 1, none⟩ (.int .u64 g))) := hide (laidT_of R2.out rfl R3.out)
      generalize (((((w6.setCell ⟨W.heap.size + 1, 0, none⟩ (.int .u64 (l'.E : Int))).setCell ⟨W.heap.size + 1, 1, none⟩ (.slice (A' 0) (n' 0) (c' 0))).setCell ⟨W.heap.size + 1, 2, none⟩ (.slice (A' 1) (n' 1) (c' 1))).setCell ⟨W.heap.size + 1, 3, none⟩ (.slice (A' 2) (n' 2) (c' 2))).setCell ⟨W.heap.size + 1 + 1, 0, none⟩ (.int .i64 s)).setCell ⟨W.heap.size + 1 + 1, 1, none⟩ (.int .u64 g) = w7 at *
      have HLD : Hid (LaidT W w6 (limC l'.E A' n' c') (entC (s, g)) w7.drew) := hide ⟨⟨HLD.out.1.1.drew, HLD.out.1.2.drew⟩, HLD.out.2.1, HLD.out.2.2.drew⟩
      clear x0 x1 x2 x3 xl z0 z1 z2 z3 zl f0 f1 f2 f3 y0 y1 yl g0 g1 k0 k1 kl hne hne2
      generalize w7.drew = w8 at *
      go_wp2_with fail
      have c0 : w8.cell? ⟨W.heap.size + 1, 0, none⟩ = some (.int .u64 (l'.E : Int)) := by have := HLD.out.1.1.cell 0; simpa [limC] using this
      have c1 : w8.cell? ⟨W.heap.size + 1, 1, none⟩ = some (.slice (A' 0) (n' 0) (c' 0)) := by have := HLD.out.1.1.cell 1; simpa [limC] using this
      have c2 : w8.cell? ⟨W.heap.size + 1, 2, none⟩ = some (.slice (A' 1) (n' 1) (c' 1)) := by have := HLD.out.1.1.cell 2; simpa [limC] using this
      have c3 : w8.cell? ⟨W.heap.size + 1, 3, none⟩ = some (.slice (A' 2) (n' 2) (c' 2)) := by have := HLD.out.1.1.cell 3; simpa [limC] using this
      have d0 := row20 HLD.out.1.2
      have d1 := row21 HLD.out.1.2
      have cl := HLD.out.1.1.lt
      have dl := HLD.out.1.2.lt
      refine bodyPost_ret (v := .tuple #[.agg (limC l'.E A' n' c'), .agg (entC (s, g)), .int .i64 0]) (by simp [results, Tryd.results17, go_sem, c0, c1, c2, c3, cl, d0, d1, dl]) rfl ?_
      exact ⟨HB6.out.trans (HLD.out.2.2.mono (by omega)), .inl ⟨l', (s, g), A', n', c', HRR.out, rfl, ((HO.out.keepB HBN.out).other (fun j h1 h2 => (HLD.out.2.1 j (by omega) (by omega)))).lower (by omega)⟩⟩
  · have HRR := hide hr
    have HRK := hide hrow
    have HRN := hide (RowAt.new w5 26 zeroC)
    have HBN := hide (show Below w5.heap.size w5 (w5.alloc (.cells zeroC 26)) from (Below.refl _ _).alloc (Nat.le_refl _) _)
    clear hr hrow
    go_wp2_with fail
    generalize w5.alloc (.cells #[.int .u64 0, .slice none 0 0, .slice none 0 0, .slice none 0 0] 26) = w6 at *
    have R2 := hide (R2.out.below HBN.out)
    have R3 := hide (R3.out.below HBN.out)
    have HRK := hide (HRK.out.below HBN.out)
    have HB6 := hide (HB5.out.trans (HBN.out.mono HB5.out.size))
    have x0 : w6.cell? ⟨w5.heap.size, 0, none⟩ = some (.int .u64 0) := by have := HRN.out.cell 0; simpa using this
    have x1 : w6.cell? ⟨w5.heap.size, 1, none⟩ = some (.slice none 0 0) := by have := HRN.out.cell 1; simpa using this
    have x2 : w6.cell? ⟨w5.heap.size, 2, none⟩ = some (.slice none 0 0) := by have := HRN.out.cell 2; simpa using this
    have x3 : w6.cell? ⟨w5.heap.size, 3, none⟩ = some (.slice none 0 0) := by have := HRN.out.cell 3; simpa using this
    have xl := HRN.out.lt
    have z0 : w6.cell? ⟨W.heap.size + 1, 0, none⟩ = some (.int .u64 0) := by have := R2.out.cell 0; simpa using this
    have z1 : w6.cell? ⟨W.heap.size + 1, 1, none⟩ = some (.slice none 0 0) := by have := R2.out.cell 1; simpa using this
    have z2 : w6.cell? ⟨W.heap.size + 1, 2, none⟩ = some (.slice none 0 0) := by have := R2.out.cell 2; simpa using this
    have z3 : w6.cell? ⟨W.heap.size + 1, 3, none⟩ = some (.slice none 0 0) := by have := R2.out.cell 3; simpa using this
    have zl := R2.out.lt
    have f0 := R2.out.frozen 0
    have f1 := R2.out.frozen 1
    have f2 := R2.out.frozen 2
    have f3 := R2.out.frozen 3
    have y0 := row20 R3.out
    have y1 := row21 R3.out
    have yl := R3.out.lt
    have g0 := R3.out.frozen 0
    have g1 := R3.out.frozen 1
    have k0 := row20 HRK.out
    have k1 := row21 HRK.out
    have kl := HRK.out.lt
    have hne : ¬ w5.heap.size = W.heap.size + 1 := by omega
    have hne2 : ¬ w5.heap.size = W.heap.size + 1 + 1 := by omega
    dsimp only at k0 k1
    go_region
    all_goals
      have HLD : Hid (LaidT W w6 zeroC (entC (0, 0)) ((((((w6.setCell ⟨W.heap.size + 1, 0, none⟩ (.int .u64 0)).setCell ⟨W.heap.size + 1, 1, none⟩ (.slice none 0 0)).setCell ⟨W.heap.size + 1, 2, none⟩ (.slice none 0 0)).setCell ⟨W.heap.size + 1, 3, none⟩ (.slice none 0 0)).setCell ⟨W.heap.size + 1 + 1, 0, none⟩ (.int .i64 0)).setCell ⟨W.heap.size + 1 + 1, 1, none⟩ (.int .u64 0))) := hide (laidT_of R2.out rfl R3.out)
      generalize (((((w6.setCell ⟨W.heap.size + 1, 0, none⟩ (.int .u64 0)).setCell ⟨W.heap.size + 1, 1, none⟩ (.slice none 0 0)).setCell ⟨W.heap.size + 1, 2, none⟩ (.slice none 0 0)).setCell ⟨W.heap.size + 1, 3, none⟩ (.slice none 0 0)).setCell ⟨W.heap.size + 1 + 1, 0, none⟩ (.int .i64 0)).setCell ⟨W.heap.size + 1 + 1, 1, none⟩ (.int .u64 0) = w7 at *
      have HLD : Hid (LaidT W w6 zeroC (entC (0, 0)) w7.drew) := hide ⟨⟨HLD.out.1.1.drew, HLD.out.1.2.drew⟩, HLD.out.2.1, HLD.out.2.2.drew⟩
      clear x0 x1 x2 x3 xl z0 z1 z2 z3 zl f0 f1 f2 f3 y0 y1 yl g0 g1 k0 k1 kl hne hne2
      generalize w7.drew = w8 at *
      go_wp2_with fail
      have c0 : w8.cell? ⟨W.heap.size + 1, 0, none⟩ = some (.int .u64 0) := by have := HLD.out.1.1.cell 0; simpa using this
      have c1 : w8.cell? ⟨W.heap.size + 1, 1, none⟩ = some (.slice none 0 0) := by have := HLD.out.1.1.cell 1; simpa using this
      have c2 : w8.cell? ⟨W.heap.size + 1, 2, none⟩ = some (.slice none 0 0) := by have := HLD.out.1.1.cell 2; simpa using this
      have c3 : w8.cell? ⟨W.heap.size + 1, 3, none⟩ = some (.slice none 0 0) := by have := HLD.out.1.1.cell 3; simpa using this
      have d0 := row20 HLD.out.1.2
      have d1 := row21 HLD.out.1.2
      have cl := HLD.out.1.1.lt
      have dl := HLD.out.1.2.lt
      refine bodyPost_ret (v := .tuple #[.agg zeroC, .agg (entC (0, 0)), .int .i64 k]) (by simp [results, Tryd.results17, go_sem, c0, c1, c2, c3, cl, d0, d1, dl]) rfl ?_
      exact ⟨HB6.out.trans (HLD.out.2.2.mono (by omega)), .inr ⟨k, HRR.out, rfl⟩⟩
end Go.Proofs.YthnpcmigphpolaaDoor
