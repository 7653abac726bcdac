/-
  The first row of clear steps within a look's: the program's.
-/
import Derived.Test.YtegnppmmcchmgaaDoorGuf
import Derived.Test.YtegnppmmcchmgaaDoorGug
set_option linter.unusedSimpArgs false
set_option linter.unusedVariables false
namespace Go.Proofs.YtegnppmmcchmgaaDoor
open Go Go.RowKit
attribute [local go_sem] via_cell via_frozen
attribute [local go_sem] Oper.semAt_some

theorem edg_le {a : Int} {l : List Sec} (ha0 : 0 ≤ a) (h : chk a l = true) : ∀ e ∈ edg l, e ≤ MAX := by
  induction l generalizing a with
  | nil => intro e he; cases he
  | cons t r ih =>
    obtain ⟨c0, c1, c2, c3, c4⟩ := chk_cons ha0 h
    intro e he
    rw [edg_cons, List.mem_append] at he
    rcases he with he | he
    · unfold edgS at he
      split at he
      · simp at he; omega
      · simp at he; rcases he with rfl | rfl <;> omega
    · exact ih c0 c4 e he
abbrev lookV (x : Int × Int) : Value := .agg #[.int .i64 x.1, .int .i64 x.2]
def SpnI (gt gf go_ : Nat) (f to : Int) (pre : List Int) (W : World) : Prop := RowAt W gt 3 #[.int .i64 to] ∧ RowAt W gf 3 #[.int .i64 f] ∧ RowAt W go_ 23 #[.int .i64 f, .int .i64 to] ∧ ∀ e ∈ pre, e ≤ f
def SpnX (go_ : Nat) (f to : Int) (c : Code) (pre : List Int) (W : World) : Prop := c = .exit 0 ∧ ∃ p e, pre = p ++ [e] ∧ f < e ∧ (∀ x ∈ p, x ≤ f) ∧ RowAt W go_ 23 #[.int .i64 f, .int .i64 (min to (e - 1))]
theorem SpnI.stays (gt gf go_ : Nat) (f to : Int) : Stays (SpnI gt gf go_ f to) := fun _ _ _ ⟨h1, h2, h3, h4⟩ hl => ⟨h1.lie hl, h2.lie hl, h3.lie hl, h4⟩
theorem SpnX.stays (go_ : Nat) (f to : Int) (c : Code) : Stays (SpnX go_ f to c) := fun _ _ _ ⟨h0, p, e, h1, h2, h3, h4⟩ hl => ⟨h0, p, e, h1, h2, h3, h4.lie hl⟩
theorem find_none {l : List Int} {f : Int} (h : ∀ e ∈ l, e ≤ f) : l.find? (fun e => decide (f < e)) = none := by
  rw [List.find?_eq_none]
  intro e he
  have := h e he
  simp; omega
theorem find_stop {p r : List Int} {e f : Int} (h : ∀ x ∈ p, x ≤ f) (he : f < e) : (p ++ [e] ++ r).find? (fun x => decide (f < x)) = some e := by
  rw [List.append_assoc, List.find?_append, find_none h]
  simp [he]
set_option maxHeartbeats 2000000 in
theorem span_any (B : Nat) (A : Option Addr) (c m : Nat) (l : List Sec) (a b : Int) (W : World) (h : Rd W B 2 A m (Cs encS l)) (hx : l.length = m) (hB : B ≤ W.heap.size) (hm : m ≤ 4096) (hc : chk 0 l = true) (r : Int × Int) (hr : spn l a b = r) :
    Calls Tryd.prog 39 #[.slice A m c, .int .i64 a, .int .i64 b] W fun e W' => e = .returned (lookV r) ∧ Below W.heap.size W W' := by
  have HR := hide hr
  have H := hide h
  have HCK := hide hc
  obtain ⟨w1, hw1⟩ : ∃ w1, W.alloc (.cells #[.int .i64 b] 3) = w1 := ⟨_, rfl⟩
  obtain ⟨w2, hw2⟩ : ∃ w2, w1.alloc (.cells #[.int .i64 0, .int .i64 0] 23) = w2 := ⟨_, rfl⟩
  have s1 : w1.heap.size = W.heap.size + 1 := by rw [← hw1]; simp
  have s2 : w2.heap.size = W.heap.size + 1 + 1 := by rw [← hw2]; simp [s1]
  have b1 : Below W.heap.size W w1 := by rw [← hw1]; exact (Below.refl _ _).alloc (Nat.le_refl _) _
  have b2 : Below w1.heap.size w1 w2 := by rw [← hw2]; exact (Below.refl _ _).alloc (Nat.le_refl _) _
  have r1 : RowAt w2 W.heap.size 3 #[.int .i64 b] := by have h := RowAt.new W 3 #[.int .i64 b]; rw [hw1] at h; exact h.below b2
  have r2 : RowAt w2 (W.heap.size + 1) 23 #[.int .i64 0, .int .i64 0] := by have h := RowAt.new w1 23 #[.int .i64 0, .int .i64 0]; rw [hw2, s1] at h; exact h
  have HB0 := hide (b1.trans (b2.mono b1.size))
  have R1 := hide r1
  have R2 := hide r2
  have S2 := hide s2
  obtain ⟨f, hf⟩ : ∃ f, nxt l a = f := ⟨_, rfl⟩
  have HN := hide (next_any B A c m l a w2 (h.below (HB0.out.mono hB)) hx (Nat.le_trans hB HB0.out.size) hm hc f hf)
  have HFE := hide hf
  clear b1 b2 r1 r2 s1 s2 h hr hc hf
  subst hw2
  subst hw1
  by_cases hlt : b < f
  · have HF := hide (show (0, 0) = r from by rw [← HR.out]; unfold spn; rw [HFE.out, if_pos hlt])
    go_enter Tryd.func39, Tryd.ntmps39
    go_wp2_with fail
    generalize (W.alloc (.cells #[.int .i64 b] 3)).alloc (.cells #[.int .i64 0, .int .i64 0] 23) = w2 at *
    with_reducible refine HN.out.mono ?_
    rintro e w3 ⟨rfl, hb3⟩
    have HB3 := hide (HB0.out.trans (hb3.mono HB0.out.size))
    have r1 := R1.out.below hb3
    have r2 := R2.out.below hb3
    have q0 := row1 r1
    have p0 := row20 r2
    have p1 := row21 r2
    have l1 := r1.lt
    have l2 := r2.lt
    have f0 := r2.frozen 0
    have f1 := r2.frozen 1
    have HRR := hide r2
    clear r1 r2 hb3
    go_wp2_with fail
    have hr9 : RowAt (((w3.setCell ⟨W.heap.size + 1, 0, none⟩ (.int .i64 0)).setCell ⟨W.heap.size + 1, 1, none⟩ (.int .i64 0)).alloc (.cells #[.int .i64 f] 3)) (W.heap.size + 1) 23 #[.int .i64 0, .int .i64 0] :=
      ((HRR.out.set 0 (.int .i64 0)).set 1 (.int .i64 0)).below ((Below.refl _ _).alloc (Nat.le_refl _) _)
    have hb9 : Below W.heap.size W (((w3.setCell ⟨W.heap.size + 1, 0, none⟩ (.int .i64 0)).setCell ⟨W.heap.size + 1, 1, none⟩ (.int .i64 0)).alloc (.cells #[.int .i64 f] 3)) :=
      HB3.out.trans ((((Below.refl W.heap.size w3).setCell (p := ⟨W.heap.size + 1, 0, none⟩) (by simp) _).setCell (p := ⟨W.heap.size + 1, 1, none⟩) (by simp) _).alloc (by simp; exact HB3.out.size) _)
    refine bodyPost_ret (results_cell_row Tryd.results39 _ _ (W.heap.size + 1) 23 #[.int .i64 0, .int .i64 0] (0, 0) _ rfl hr9 Tryd.underlying23 rfl (by kernel_rfl)) rfl ?_
    exact ⟨by rw [← HF.out], hb9⟩
  · have hfb : f ≤ b := by omega
    refine calls_of_wp_marks Tryd.func39 rfl ?_
    simp only [Tryd.ntmps39, List.size_toArray, List.length_cons, List.length_nil, Nat.reduceAdd, Nat.reduceSub, Array.replicate_succ, Array.replicate_zero, List.push_toArray, List.append_toArray, List.nil_append, List.cons_append]
    go_wp2_with fail
    generalize (W.alloc (.cells #[.int .i64 b] 3)).alloc (.cells #[.int .i64 0, .int .i64 0] 23) = w2 at *
    with_reducible refine HN.out.mono ?_
    rintro e w3 ⟨rfl, hb3⟩
    have HB3 := hide (HB0.out.trans (hb3.mono HB0.out.size))
    have r1 := R1.out.below hb3
    have r2 := R2.out.below hb3
    have q0 := row1 r1
    have l1 := r1.lt
    have HR1 := hide r1
    have HR2 := hide r2
    obtain ⟨w4, hw4⟩ : ∃ w4, w3.alloc (.cells #[.int .i64 f] 3) = w4 := ⟨_, rfl⟩
    obtain ⟨w5, hw5⟩ : ∃ w5, w4.alloc (.cells #[.int .i64 f, .int .i64 b] 23) = w5 := ⟨_, rfl⟩
    have s4 : w4.heap.size = w3.heap.size + 1 := by rw [← hw4]; simp
    have s5 : w5.heap.size = w3.heap.size + 1 + 1 := by rw [← hw5]; simp [s4]
    have b4 : Below w3.heap.size w3 w4 := by rw [← hw4]; exact (Below.refl _ _).alloc (Nat.le_refl _) _
    have b5 : Below w4.heap.size w4 w5 := by rw [← hw5]; exact (Below.refl _ _).alloc (Nat.le_refl _) _
    have b35 : Below w3.heap.size w3 w5 := b4.trans (b5.mono b4.size)
    have r3 : RowAt w5 w3.heap.size 3 #[.int .i64 f] := by have h := RowAt.new w3 3 #[.int .i64 f]; rw [hw4] at h; exact h.below b5
    have r4 : RowAt w5 (w3.heap.size + 1) 23 #[.int .i64 f, .int .i64 b] := by have h := RowAt.new w4 23 #[.int .i64 f, .int .i64 b]; rw [hw5, s4] at h; exact h
    replace HR1 := hide (HR1.out.below b35)
    replace HR2 := hide (HR2.out.below b35)
    have HR3 := hide r3
    have HR4 := hide r4
    have HB5 := hide (HB3.out.trans (b35.mono HB3.out.size))
    have S5 := hide s5
    have hW3 : W.heap.size + 1 + 1 ≤ w3.heap.size := by have := S2.out; have := hb3.size; omega
    clear b4 b5 b35 r1 r2 r3 r4 s4 s5 hb3
    subst hw5
    subst hw4
    go_wp2_with fail
    generalize (w3.alloc (.cells #[.int .i64 f] 3)).alloc (.cells #[.int .i64 f, .int .i64 b] 23) = w5 at *
    refine (edges_any A c m w5).mono ?_
    rintro e w6 ⟨rfl, hrow, hb6⟩
    have hlb := hrow.lt
    have s5 := S5.out
    have HB6 := hide (HB5.out.trans (hb6.mono HB5.out.size))
    replace HR1 := hide (HR1.out.below hb6)
    replace HR2 := hide (HR2.out.below hb6)
    replace HR3 := hide (HR3.out.below hb6)
    replace HR4 := hide (HR4.out.below hb6)
    have hseq := edges_seq B w5.heap.size (w6.heap.size + 2) (fun j => j < B ∨ w6.heap.size + 2 ≤ j) A c m l w6 hrow (H.out.below (HB6.out.mono hB)) hx (Nat.le_trans hB HB6.out.size) hm (fun j hj => .inl hj) (fun j hj => .inr hj)
    have hs6 : w3.heap.size + 1 + 1 < w6.heap.size := by omega
    rw [s5]
    rw [s5] at hseq
    clear hrow hb6 hlb s5 q0 l1
    go_wp2_with fail
    refine wp_range5 (gf := 44) (lb := #[.pointer (some ⟨w3.heap.size + 1 + 1, 0, none⟩)]) rfl (enters_of Tryd.func44 (by kernel_rfl) rfl) hseq w3.heap.size (by omega) (fun j hj => by have hj : j < B ∨ w6.heap.size + 2 ≤ j := hj; omega) (Below.refl _ _) (fun _ => rfl)
      (SpnI W.heap.size w3.heap.size (w3.heap.size + 1) f b) (SpnX (w3.heap.size + 1) f b) (SpnI.stays _ _ _ _ _) (SpnX.stays _ _ _) (fun _ _ _ h hb => ⟨h.1.belowB (by omega) hb, h.2.1.belowB (by omega) hb, h.2.2.1.belowB (by omega) hb, h.2.2.2⟩)
      (fun _ _ _ _ h hb => by obtain ⟨h0, p, e, h1, h2, h3, h4⟩ := h; exact ⟨h0, p, e, h1, h2, h3, h4.belowB (by omega) hb⟩) ⟨HR1.out, HR3.out, HR4.out, fun _ h => by cases h⟩
      (fun T x a' W2 => RoundAct #[22] (encE x) 9 (.int .i64 x) T a') (fun T a' => fun _ _ _ h _ => h) ?assign ?body ?done ?stop ?panic
    case assign =>
      intro l pre x W2 R hI hb hs hlen hV hR
      dsimp only [encE] at hR ⊢
      gi_wp2
      exact hR _ _ (KeepsOthers.refl _) (Below.refl _ _) (fun j hj => rfl) hI (by simp [RoundAct])
    case body =>
      rintro lo pre x a' W2 ⟨hra, hrf, hro, hle⟩ hpa hb hs hlen hV
      have hpa : a' = _ := hpa
      subst hpa
      dsimp only [encE]
      have q0 := row1 hra
      have f0 := row1 hrf
      have p0 := row20 hro
      have p1 := row21 hro
      have ql := hra.lt
      have fl := hrf.lt
      have pl := hro.lt
      have pf := hro.frozen 1
      have HA := hide hra
      have HFB := hide hrf
      have HO := hide hro
      have HLE := hide hle
      have hx0 := edg_gt (Int.le_refl 0) HCK.out x hV
      have hx1 : x ≤ 1073741824 := edg_le (Int.le_refl 0) HCK.out x hV
      clear hra hrf hro hle hV
      by_cases hlt : f < x
      · have HLT := hide hlt
        have hmin : ∀ v, v = min b (x - 1) → RowAt (W2.setCell ⟨w3.heap.size + 1, 1, none⟩ (.int .i64 v)) (w3.heap.size + 1) 23 #[.int .i64 f, .int .i64 (min b (x - 1))] := fun v hv => by
          subst hv
          exact HO.out.set 1 (.int .i64 (min b (x - 1)))
        have HMIN := hide hmin
        clear hmin
        by_cases hmb : b ≤ x - 1
        · have HE := hide (show b = min b (x - 1) from by omega)
          gi_wp2
          exact ⟨KeepsOthers.setCell _ _ _, (Below.refl _ _).setCell (p := ⟨w3.heap.size + 1, 1, none⟩) (by simp) _, rfl, pre, x, rfl, HLT.out, HLE.out, HMIN.out _ (by omega)⟩
        · have HE := hide (show x - 1 = min b (x - 1) from by omega)
          gi_wp2
          exact ⟨KeepsOthers.setCell _ _ _, (Below.refl _ _).setCell (p := ⟨w3.heap.size + 1, 1, none⟩) (by simp) _, rfl, pre, x, rfl, HLT.out, HLE.out, HMIN.out _ (by omega)⟩
      · have HALL := hide (show ∀ e ∈ pre ++ [x], e ≤ f from fun e he => by
          rcases List.mem_append.1 he with he | he
          · exact HLE.out e he
          · obtain rfl : e = x := by simpa using he
            omega)
        gi_wp2
        exact ⟨KeepsOthers.refl _, Below.refl _ _, fun _ _ => rfl, HA.out, HFB.out, HO.out, HALL.out⟩
    case done =>
      rintro ys W2 rfl ⟨hra, hrf, hro, hle⟩ hb hs hD
      have HRR := hide (show (f, b) = r from by rw [← HR.out]; unfold spn; rw [HFE.out, if_neg (by omega), find_none hle])
      have hr2 := HR2.out.belowB (by omega) hb
      have p0 := row20 hro
      have p1 := row21 hro
      have pl := hro.lt
      have z0 := row20 hr2
      have z1 := row21 hr2
      have zl := hr2.lt
      have y0 := hr2.frozen 0
      have y1 := hr2.frozen 1
      have HRZ := hide hr2
      have HD := hide hD
      have HBF := hide (HB6.out.trans (hb.mono (by omega)))
      have hsz := HBF.out.size
      clear hra hrf hro hle hb hD hr2
      unfold marked
      go_wp2_with fail
      have hD9 : ((W2.setCell ⟨W.heap.size + 1, 0, none⟩ (.int .i64 f)).setCell ⟨W.heap.size + 1, 1, none⟩ (.int .i64 b)).heap[w6.heap.size]? = some (.deferred (some [])) := by
        rw [heap_setCell_ne _ _ _ _ (by simp; omega), heap_setCell_ne _ _ _ _ (by simp; omega)]
        exact HD.out
      have hr9 : RowAt (((W2.setCell ⟨W.heap.size + 1, 0, none⟩ (.int .i64 f)).setCell ⟨W.heap.size + 1, 1, none⟩ (.int .i64 b)).putObj w6.heap.size (.deferred none)) (W.heap.size + 1) 23 #[.int .i64 f, .int .i64 b] :=
        RowAt.lie ((HRZ.out.set 0 (.int .i64 f)).set 1 (.int .i64 b)) (CellsLie.putObj _ hD9 rfl)
      refine ⟨by simp, .inl ⟨_, _, rfl, run_takeDeferred hD9, ?_⟩⟩
      refine ⟨_, results_cell_row Tryd.results39 _ _ (W.heap.size + 1) 23 #[.int .i64 f, .int .i64 b] (0, 0) _ rfl hr9 Tryd.underlying23 rfl (by kernel_rfl), by rw [← HRR.out], ?_⟩
      exact (HBF.out.trans (((Below.refl _ _).setCell (p := ⟨W.heap.size + 1, 0, none⟩) (by simp) _).setCell (p := ⟨W.heap.size + 1, 1, none⟩) (by simp) _)).trans (below_putObj (o := .deferred (some [])) _ (by omega))
    case stop =>
      rintro c2 pre W2 ⟨rr, hr2⟩ ⟨rfl, p, e, rfl, hlt2, hle, hro⟩ hb hs hD
      have HRR := hide (show (f, min b (e - 1)) = r from by rw [← HR.out]; unfold spn; rw [HFE.out, if_neg (by omega), ← hr2, find_stop hle hlt2])
      generalize min b (e - 1) = q at *
      have hr2 := HR2.out.belowB (by omega) hb
      have p0 := row20 hro
      have p1 := row21 hro
      have pl := hro.lt
      have z0 := row20 hr2
      have z1 := row21 hr2
      have zl := hr2.lt
      have y0 := hr2.frozen 0
      have y1 := hr2.frozen 1
      have HRZ := hide hr2
      have HD := hide hD
      have HBF := hide (HB6.out.trans (hb.mono (by omega)))
      have hsz := HBF.out.size
      clear hro hle hb hD hr2
      unfold marked
      go_wp2_with fail
      have hD9 : ((W2.setCell ⟨W.heap.size + 1, 0, none⟩ (.int .i64 f)).setCell ⟨W.heap.size + 1, 1, none⟩ (.int .i64 q)).heap[w6.heap.size]? = some (.deferred (some [])) := by
        rw [heap_setCell_ne _ _ _ _ (by simp; omega), heap_setCell_ne _ _ _ _ (by simp; omega)]
        exact HD.out
      have hr9 : RowAt (((W2.setCell ⟨W.heap.size + 1, 0, none⟩ (.int .i64 f)).setCell ⟨W.heap.size + 1, 1, none⟩ (.int .i64 q)).putObj w6.heap.size (.deferred none)) (W.heap.size + 1) 23 #[.int .i64 f, .int .i64 q] :=
        RowAt.lie ((HRZ.out.set 0 (.int .i64 f)).set 1 (.int .i64 q)) (CellsLie.putObj _ hD9 rfl)
      refine ⟨by simp, .inl ⟨_, _, rfl, run_takeDeferred hD9, ?_⟩⟩
      refine ⟨_, results_cell_row Tryd.results39 _ _ (W.heap.size + 1) 23 #[.int .i64 f, .int .i64 q] (0, 0) _ rfl hr9 Tryd.underlying23 rfl (by kernel_rfl), by rw [← HRR.out], ?_⟩
      exact (HBF.out.trans (((Below.refl _ _).setCell (p := ⟨W.heap.size + 1, 0, none⟩) (by simp) _).setCell (p := ⟨W.heap.size + 1, 1, none⟩) (by simp) _)).trans (below_putObj (o := .deferred (some [])) _ (by omega))
    case panic =>
      rintro pre W2 h
      exact h.elim
end Go.Proofs.YtegnppmmcchmgaaDoor
