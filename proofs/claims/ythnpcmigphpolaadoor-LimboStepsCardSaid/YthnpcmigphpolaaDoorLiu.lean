/-
  Since when a slab waits: the program's.
-/
import Derived.Test.YthnpcmigphpolaaDoorLit
set_option linter.unusedSimpArgs false
set_option linter.unusedVariables false
namespace Go.Proofs.YthnpcmigphpolaaDoor
open Go Go.RowKit
attribute [local go_sem] via_cell via_frozen
attribute [local go_sem] Oper.semAt_some

/-- In which epoch what waits of a slab was retired. -/
def whenR (l : Lim) (s : Int) : Int × Bool :=
  if l.ok then (match whenP l.each s with | none => (0, false) | some a => ((l.E : Int) - (a : Int), true)) else (0, false)
structure WhB (g : Nat) (L : Array Value) (s : Int) (a : Int) (b : Bool) (W : World) : Prop where
  lim : RowAt W g 26 L
  slab : RowAt W (g + 1) 3 #[.int .i64 s]
  at_ : RowAt W (g + 1 + 1) 22 #[.int .u64 a]
  some_ : RowAt W (g + 1 + 1 + 1) 4 #[.bool b]
theorem WhB.lie {g : Nat} {L : Array Value} {s a : Int} {b : Bool} {A B : World} (h : WhB g L s a b A) (hl : CellsLie A B) : WhB g L s a b B := ⟨h.lim.lie hl, h.slab.lie hl, h.at_.lie hl, h.some_.lie hl⟩
theorem WhB.below {g : Nat} {L : Array Value} {s a : Int} {b : Bool} {A B : World} (h : WhB g L s a b A) (hb : Below A.heap.size A B) : WhB g L s a b B := ⟨h.lim.below hb, h.slab.below hb, h.at_.below hb, h.some_.below hb⟩
theorem WhB.store {g : Nat} {L : Array Value} {s a a' : Int} {b b' : Bool} {A : World} (h : WhB g L s a b A) : WhB g L s a' b' ((A.setCell ⟨g + 1 + 1, 0, none⟩ (.int .u64 a')).setCell ⟨g + 1 + 1 + 1, 0, none⟩ (.bool b')) :=
  ⟨(h.lim.setNe (by omega)).setNe (by omega), (h.slab.setNe (by omega)).setNe (by omega), (h.at_.set 0 (.int .u64 a')).setNe (by omega), (h.some_.setNe (by omega)).set 0 (.bool b')⟩
def WhI (g : Nat) (L : Array Value) (s : Int) (pre : List (Nat × Ent)) (W : World) : Prop := WhB g L s 0 false W ∧ ∀ p ∈ pre, p.2.1 ≠ s
def WhX (g : Nat) (L : Array Value) (s : Int) (E : Nat) (c : Code) (pre : List (Nat × Ent)) (W : World) : Prop := c = .ret ∧ ∃ p x, pre = p ++ [x] ∧ (∀ y ∈ p, y.2.1 ≠ s) ∧ x.2.1 = s ∧ WhB g L s ((E : Int) - (x.1 : Int)) true W
theorem WhI.stays (g : Nat) (L : Array Value) (s : Int) : Stays (WhI g L s) := fun _ _ _ h hl => ⟨h.1.lie hl, h.2⟩
theorem WhX.stays (g : Nat) (L : Array Value) (s : Int) (E : Nat) (c : Code) : Stays (WhX g L s E c) := fun _ _ _ ⟨h0, p, x, h1, h2, h3, h4⟩ hl => ⟨h0, p, x, h1, h2, h3, h4.lie hl⟩
set_option maxHeartbeats 4000000 in
theorem when_any (B : Nat) (A : Nat → Option Addr) (n c : Nat → Nat) (l : Lim) (s : Int) (W : World) (h : LimRd W B A n l.r) (hE : l.E < 18446744073709551616) (hB : B ≤ W.heap.size) (hm : ∀ k, k < 3 → n k ≤ 4096)
    (hg : ∀ k, k < 3 → ∀ e ∈ l.r k, 0 ≤ e.2 ∧ e.2 < 18446744073709551616) (at_ : Int) (is : Bool) (hr : whenR l s = (at_, is)) :
    Calls Tryd.prog 24 #[.agg (limC l.E A n c), .int .i64 s] W fun e W' => e = .returned (.tuple #[.int .u64 at_, .bool is]) ∧ Below W.heap.size W W' := by
  have HR := hide hr
  have H := hide h
  have HM := hide hm
  have HLEN := hide (each_len l n h.len hm)
  obtain ⟨w1, hw1⟩ : ∃ w1, W.alloc (.cells (limC l.E A n c) 26) = w1 := ⟨_, rfl⟩
  obtain ⟨w2, hw2⟩ : ∃ w2, w1.alloc (.cells #[.int .i64 s] 3) = w2 := ⟨_, rfl⟩
  obtain ⟨w3, hw3⟩ : ∃ w3, w2.alloc (.cells #[.int .u64 0] 22) = w3 := ⟨_, rfl⟩
  obtain ⟨w4, hw4⟩ : ∃ w4, w3.alloc (.cells #[.bool false] 4) = w4 := ⟨_, rfl⟩
  have s1 : w1.heap.size = W.heap.size + 1 := by rw [← hw1]; simp
  have s2 : w2.heap.size = W.heap.size + 1 + 1 := by rw [← hw2]; simp [s1]
  have s3 : w3.heap.size = W.heap.size + 1 + 1 + 1 := by rw [← hw3]; simp [s2]
  have b1 : Below W.heap.size W w1 := by rw [← hw1]; exact (Below.refl _ _).alloc (Nat.le_refl _) _
  have b2 : Below w1.heap.size w1 w2 := by rw [← hw2]; exact (Below.refl _ _).alloc (Nat.le_refl _) _
  have b3 : Below w2.heap.size w2 w3 := by rw [← hw3]; exact (Below.refl _ _).alloc (Nat.le_refl _) _
  have b4 : Below w3.heap.size w3 w4 := by rw [← hw4]; exact (Below.refl _ _).alloc (Nat.le_refl _) _
  have r1 : RowAt w1 W.heap.size 26 (limC l.E A n c) := by have h := RowAt.new W 26 (limC l.E A n c); rw [hw1] at h; exact h
  have r2 : RowAt w2 (W.heap.size + 1) 3 #[.int .i64 s] := by have h := RowAt.new w1 3 #[.int .i64 s]; rw [hw2, s1] at h; exact h
  have r3 : RowAt w3 (W.heap.size + 1 + 1) 22 #[.int .u64 0] := by have h := RowAt.new w2 22 #[.int .u64 0]; rw [hw3, s2] at h; exact h
  have r4 : RowAt w4 (W.heap.size + 1 + 1 + 1) 4 #[.bool false] := by have h := RowAt.new w3 4 #[.bool false]; rw [hw4, s3] at h; exact h
  have HI4 := hide (show WhB W.heap.size (limC l.E A n c) s 0 false w4 from ⟨((r1.below b2).below b3).below b4, (r2.below b3).below b4, r3.below b4, r4⟩)
  have HB4 := hide (((b1.trans (b2.mono b1.size)).trans (b3.mono (by omega))).trans (b4.mono (by omega)))
  clear b1 b2 b3 b4 r1 r2 r3 r4 s1 s2 s3
  have HC := hide (fun r hr => check_any B A n c l w4 (h.below (HB4.out.mono hB)) hE (Nat.le_trans hB HB4.out.size) hm hg r hr)
  subst hw4
  subst hw3
  subst hw2
  subst hw1
  clear h hr hm
  rcases Bool.eq_false_or_eq_true l.ok with hok | hok
  · have HC := hide (HC.out 0 (by rw [hok]; rfl))
    have HL := hide (ok_out hok).1
    have HOK := hide hok
    clear hok
    refine calls_of_wp_marks Tryd.func24 rfl ?_
    simp only [Tryd.ntmps24, List.size_toArray, List.length_cons, List.length_nil, Nat.reduceAdd, Nat.reduceSub, Array.replicate_succ, Array.replicate_zero, List.push_toArray, List.append_toArray, List.nil_append, List.cons_append]
    go_wp2_with fail
    generalize (((W.alloc (.cells (limC l.E A n c) 26)).alloc (.cells #[.int .i64 s] 3)).alloc (.cells #[.int .u64 0] 22)).alloc (.cells #[.bool false] 4) = w4 at *
    with_reducible refine HC.out.mono ?_
    rintro e w5 ⟨rfl, hb5⟩
    have HI5 := hide (HI4.out.below hb5)
    have HB5 := hide (HB4.out.trans (hb5.mono HB4.out.size))
    have q0 : w5.cell? ⟨W.heap.size, 0, none⟩ = some (.int .u64 (l.E : Int)) := by have := HI5.out.lim.cell 0; simpa [limC] using this
    have q1 : w5.cell? ⟨W.heap.size, 1, none⟩ = some (.slice (A 0) (n 0) (c 0)) := by have := HI5.out.lim.cell 1; simpa [limC] using this
    have q2 : w5.cell? ⟨W.heap.size, 2, none⟩ = some (.slice (A 1) (n 1) (c 1)) := by have := HI5.out.lim.cell 2; simpa [limC] using this
    have q3 : w5.cell? ⟨W.heap.size, 3, none⟩ = some (.slice (A 2) (n 2) (c 2)) := by have := HI5.out.lim.cell 3; simpa [limC] using this
    have ql := HI5.out.lim.lt
    clear hb5 HC
    go_wp2_with fail
    refine (each_any l.E A n c w5).mono ?_
    rintro e w6 ⟨rfl, hrow, hb⟩
    have HI6 := hide (HI5.out.below hb)
    have HB6 := hide (HB5.out.trans (hb.mono HB5.out.size))
    have hlb := hrow.lt
    have hs5 : W.heap.size + 1 + 1 + 1 < w5.heap.size := HI5.out.some_.lt
    have hseq := each_seq B w5.heap.size (w6.heap.size + 2) (fun j => j < B ∨ j = w6.heap.size + 2) A n c l w6 hrow (H.out.below (HB6.out.mono hB)) HL.out (Nat.le_trans hB HB6.out.size) HM.out (fun j hj => .inl hj) (.inr rfl)
    have hs6 : W.heap.size + 1 + 1 + 1 + 1 < w6.heap.size := by omega
    clear hrow hb q0 q1 q2 q3 ql
    generalize w5.heap.size = gi at *
    go_wp2_with fail
    refine wp_range6 (gf := 48) (lb := #[.pointer (some ⟨gi, 0, none⟩)]) rfl (enters_of Tryd.func48 (by kernel_rfl) rfl) hseq W.heap.size (by omega) (fun j hj => by have hj : j < B ∨ j = w6.heap.size + 2 := hj; omega) (Below.refl _ _) (fun _ => rfl)
      (WhI W.heap.size (limC l.E A n c) s) (WhX W.heap.size (limC l.E A n c) s l.E) (WhI.stays _ _ _) (WhX.stays _ _ _ _) (fun _ _ _ h hb => ⟨h.1.below hb, h.2⟩) (fun _ _ _ _ h hb => by obtain ⟨h0, p, x, h1, h2, h3, h4⟩ := h; exact ⟨h0, p, x, h1, h2, h3, h4.below hb⟩) ⟨HI6.out, fun _ h => by cases h⟩
      (fun T x a' W2 => EntBox (W.heap.size + 1 + 1 + 1 + 1) x (fun gb => { tmps := (((#[13, 14].zip (encP x)).foldl (fun t (p, v) => t.setIfInBounds p v) T).setIfInBounds 6 (.int .u64 (x.1 : Int))).setIfInBounds 7 (.pointer (some ⟨gb, 0, none⟩)), defers := [] }) a' W2) (fun T a' x => fun _ _ h hl => by obtain ⟨gb, h1, h2, h3⟩ := h; exact ⟨gb, h1, h2.lie hl, h3⟩) ?assign ?body ?done ?stop ?panic
    case assign =>
      intro lo pre x W2 R hI hb hs hlen hV hn2 hR
      dsimp only [encP] at hR ⊢
      have HBX := hide (show Below W2.heap.size W2 (W2.alloc (.cells #[.int .i64 x.2.1, .int .u64 x.2.2] 34)) from (Below.refl _ _).alloc (Nat.le_refl _) _)
      have HRX := hide (RowAt.new W2 34 #[.int .i64 x.2.1, .int .u64 x.2.2])
      gi_wp2
      refine hR _ _ (KeepsOthers.alloc _ _) (HBX.out.mono (by omega)) (fun j _ hj => HBX.out.block j hj) ⟨hI.1.below HBX.out, hI.2⟩ ⟨W2.heap.size, by simp [encP], HRX.out, by omega⟩
    case body =>
      rintro lo pre x a' W2 ⟨hI, hno⟩ ⟨gb, hpa, hbox, hgb⟩ hb hs hlen hV hn2
      subst hpa
      have hago := (okP_mem (ok_out HOK.out).2 _ hV).1
      obtain ⟨ago, s2, gen⟩ := x
      dsimp only [encP] at hbox hago ⊢
      have hago2 : (ago : Int) ≤ (l.E : Int) := by omega
      have hE2 : (l.E : Int) ≤ 4611686018427387904 := by have := HL.out; unfold LAST at this; omega
      have e0 := row20 hbox
      have e1 := row21 hbox
      have el := hbox.lt
      have p0 := row1 hI.slab
      have pl := hI.slab.lt
      have q0 : W2.cell? ⟨W.heap.size, 0, none⟩ = some (.int .u64 (l.E : Int)) := by have := hI.lim.cell 0; simpa [limC] using this
      have ql := hI.lim.lt
      have r0 := row1 hI.at_
      have rl := hI.at_.lt
      have rf := hI.at_.frozen 0
      have t0 := row1 hI.some_
      have tl := hI.some_.lt
      have tf := hI.some_.frozen 0
      have HI := hide hI
      have HNO := hide hno
      clear hI hno hV hbox
      by_cases he : s2 = s
      · subst he
        have hd : (s2 == s2) = true := by simp
        have hag0 : (0 : Int) ≤ (ago : Int) := by omega
        gi_wp2
        refine ⟨(KeepsOthers.setCell _ _ _).trans (KeepsOthers.setCell _ _ _), ((Below.refl _ _).setCell (p := ⟨W.heap.size + 1 + 1, 0, none⟩) (by simp; omega) _).setCell (p := ⟨W.heap.size + 1 + 1 + 1, 0, none⟩) (by simp; omega) _, rfl, pre, (ago, (s2, gen)), rfl, HNO.out, rfl, ?_⟩
        exact HI.out.store
      · have hd : (s2 == s) = false := by simpa using he
        gi_wp2
        exact ⟨KeepsOthers.refl _, Below.refl _ _, fun j hj hl => rfl, HI.out, fun p hp => by
          rcases List.mem_append.1 hp with hp | hp
          · exact HNO.out p hp
          · obtain rfl : p = (ago, (s2, gen)) := by simpa using hp
            exact he⟩
    case done =>
      rintro ys W2 rfl ⟨hI, hno⟩ hb hs hD
      have HRR := hide (show (at_, is) = ((0 : Int), false) from by
        rw [← HR.out]; unfold whenR; rw [HOK.out, whenP_none hno]; rfl)
      have hIS := hI.store (a' := 0) (b' := false)
      have r0 := row1 hI.at_
      have rl := hI.at_.lt
      have rf := hI.at_.frozen 0
      have t0 := row1 hI.some_
      have tl := hI.some_.lt
      have tf := hI.some_.frozen 0
      have HD := hide hD
      have HBF := hide (HB6.out.trans (hb.mono (by omega)))
      clear hI hno hb hD
      unfold marked
      go_wp2_with fail
      have hbs : Below W.heap.size W2 ((W2.setCell ⟨W.heap.size + 1 + 1, 0, none⟩ (.int .u64 0)).setCell ⟨W.heap.size + 1 + 1 + 1, 0, none⟩ (.bool false)) := ((Below.refl _ _).setCell (p := ⟨W.heap.size + 1 + 1, 0, none⟩) (by simp; omega) _).setCell (p := ⟨W.heap.size + 1 + 1 + 1, 0, none⟩) (by simp; omega) _
      have hD9 : ((W2.setCell ⟨W.heap.size + 1 + 1, 0, none⟩ (.int .u64 0)).setCell ⟨W.heap.size + 1 + 1 + 1, 0, none⟩ (.bool false)).heap[w6.heap.size]? = some (.deferred (some [])) := by
        rw [heap_setCell_ne _ _ _ _ (by show w6.heap.size ≠ W.heap.size + 1 + 1 + 1; omega), heap_setCell_ne _ _ _ _ (by show w6.heap.size ≠ W.heap.size + 1 + 1; omega)]; exact HD.out
      generalize (W2.setCell ⟨W.heap.size + 1 + 1, 0, none⟩ (.int .u64 0)).setCell ⟨W.heap.size + 1 + 1 + 1, 0, none⟩ (.bool false) = w8 at *
      have h9 := hIS.lie (CellsLie.putObj (.deferred none) hD9 rfl)
      have hfin : Below W.heap.size W (w8.putObj w6.heap.size (.deferred none)) := (HBF.out.trans hbs).trans (below_putObj (o := .deferred (some [])) _ (by omega))
      refine ⟨by simp, .inl ⟨_, _, rfl, run_takeDeferred hD9, ?_⟩⟩
      generalize w8.putObj w6.heap.size (.deferred none) = w9 at *
      have c9 := row1 h9.at_
      have l9 := h9.at_.lt
      have d9 := row1 h9.some_
      have m9 := h9.some_.lt
      have he := HRR.out
      injection he with he1 he2
      subst he1; subst he2
      exact ⟨_, by simp [results, Tryd.results24, go_sem, c9, l9, d9, m9], rfl, hfin⟩
    case stop =>
      rintro c2 pre W2 ⟨rr, hr2⟩ ⟨rfl, p, x, rfl, hno, hxs, hI⟩ hb hs hD
      have HRR := hide (show (at_, is) = ((l.E : Int) - (x.1 : Int), true) from by
        rw [← HR.out]; unfold whenR; rw [HOK.out, ← hr2, List.append_assoc, whenP_append_none hno]
        simp [whenP, hxs])
      have HI := hide hI
      have HD := hide hD
      have HBF := hide (HB6.out.trans (hb.mono (by omega)))
      clear hI hno hb hD hr2
      unfold marked
      go_wp2_with fail
      have h9 := HI.out.lie (CellsLie.putObj (.deferred none) HD.out rfl)
      have hfin : Below W.heap.size W (W2.putObj w6.heap.size (.deferred none)) := HBF.out.trans (below_putObj (o := .deferred (some [])) _ (by omega))
      refine ⟨by simp, .inl ⟨_, _, rfl, run_takeDeferred HD.out, ?_⟩⟩
      generalize W2.putObj w6.heap.size (.deferred none) = w9 at *
      have c9 := row1 h9.at_
      have l9 := h9.at_.lt
      have d9 := row1 h9.some_
      have m9 := h9.some_.lt
      have he := HRR.out
      injection he with he1 he2
      subst he1; subst he2
      exact ⟨_, by simp [results, Tryd.results24, go_sem, c9, l9, d9, m9], rfl, hfin⟩
    case panic =>
      rintro pre W2 h
      exact h.elim
  · have HC := hide (HC.out 240 (by rw [hok]; rfl))
    have HRR := hide (show (at_, is) = ((0 : Int), false) from by
        rw [← HR.out]; unfold whenR; rw [hok]; rfl)
    clear hok
    go_enter Tryd.func24, Tryd.ntmps24
    go_wp2_with fail
    generalize (((W.alloc (.cells (limC l.E A n c) 26)).alloc (.cells #[.int .i64 s] 3)).alloc (.cells #[.int .u64 0] 22)).alloc (.cells #[.bool false] 4) = w4 at *
    with_reducible refine HC.out.mono ?_
    rintro e w5 ⟨rfl, hb5⟩
    have HI5 := hide (HI4.out.below hb5)
    have HB5 := hide (HB4.out.trans (hb5.mono HB4.out.size))
    have r0 := row1 HI5.out.at_
    have rl := HI5.out.at_.lt
    have rf := HI5.out.at_.frozen 0
    have t0 := row1 HI5.out.some_
    have tl := HI5.out.some_.lt
    have tf := HI5.out.some_.frozen 0
    clear hb5
    go_wp2_with fail
    have h9 := HI5.out.store (a' := 0) (b' := false)
    have hbs : Below W.heap.size w5 ((w5.setCell ⟨W.heap.size + 1 + 1, 0, none⟩ (.int .u64 0)).setCell ⟨W.heap.size + 1 + 1 + 1, 0, none⟩ (.bool false)) := ((Below.refl _ _).setCell (p := ⟨W.heap.size + 1 + 1, 0, none⟩) (by simp; omega) _).setCell (p := ⟨W.heap.size + 1 + 1 + 1, 0, none⟩) (by simp; omega) _
    have hfin := HB5.out.trans hbs
    generalize (w5.setCell ⟨W.heap.size + 1 + 1, 0, none⟩ (.int .u64 0)).setCell ⟨W.heap.size + 1 + 1 + 1, 0, none⟩ (.bool false) = w9 at *
    have c9 := row1 h9.at_
    have l9 := h9.at_.lt
    have d9 := row1 h9.some_
    have m9 := h9.some_.lt
    have he := HRR.out
    injection he with he1 he2
    subst he1; subst he2
    exact bodyPost_ret (by simp [results, Tryd.results24, go_sem, c9, l9, d9, m9]) rfl ⟨rfl, hfin⟩
end Go.Proofs.YthnpcmigphpolaaDoor
