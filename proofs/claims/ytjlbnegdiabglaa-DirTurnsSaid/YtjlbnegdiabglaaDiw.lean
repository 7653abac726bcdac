/-
  The reaches of a directory's tables, outside.
-/
import Derived.Test.YtjlbnegdiabglaaDin
import Derived.Test.YtjlbnegdiabglaaRange8
set_option linter.unusedSimpArgs false
set_option linter.unusedVariables false
namespace Go.Proofs.Ytjlbnegdiabglaa
open Go Go.RowKit
attribute [local go_sem] via_cell via_frozen
attribute [local go_sem] Oper.semAt_some

theorem own_at {w w' : World} {base : Nat} {e : TypeId} {sz n : Nat} {v : Value} {xs : List Value} (h : w.ownsRow base e sz v n xs) (hk : ∀ g, v.ownBlock = some g → w'.heap[g]? = w.heap[g]?) : w'.ownsRow base e sz v n xs := by
  obtain ⟨h0, (⟨h1, h2⟩ | ⟨g, cap, cur, hv, hge, hh, h3⟩)⟩ := h
  · exact ⟨h0, .inl ⟨h1, h2⟩⟩
  · refine ⟨h0, .inr ⟨g, cap, cur, hv, hge, (hk g (by rw [hv]; rfl)).trans hh, h3⟩⟩
theorem own_blk {w : World} {base : Nat} {e : TypeId} {sz n : Nat} {v : Value} {xs : List Value} (h : w.ownsRow base e sz v n xs) {g : Nat} (hg : v.ownBlock = some g) : base ≤ g ∧ g < w.heap.size := by
  obtain ⟨h0, (⟨h1, h2⟩ | ⟨g', cap, cur, hv, hge, hh, h3⟩)⟩ := h
  · rw [h1] at hg; cases hg
  · rw [hv] at hg
    injection hg with hg
    have hg : g' = g := hg
    subst hg
    exact ⟨hge, (Array.getElem?_eq_some_iff.1 hh).1⟩
/-- While the reaches are gathered: the row, its box at ko; all below s. -/
def SpnI (ko b0 : Nat) (pre : List Rc) (s : Nat) (W : World) : Prop := ∃ v, RowAt W ko 28 #[v] ∧ W.ownsRow b0 33 6 v pre.length (Cs encR pre) ∧ (∀ g, v.ownBlock = some g → g < s) ∧ ko < s
theorem SpnI.lie {ko b0 s : Nat} {pre : List Rc} {A B : World} (h : SpnI ko b0 pre s A) (hl : CellsLie A B) : SpnI ko b0 pre s B := by
  obtain ⟨v, h1, h2, h3⟩ := h
  exact ⟨v, h1.lie hl, own_lie h2 hl, h3⟩
theorem SpnI.later {ko b0 s : Nat} {pre : List Rc} {A B : World} (h : SpnI ko b0 pre s A) (hb : Below s A B) : SpnI ko b0 pre s B := by
  obtain ⟨v, h1, h2, h3, h4⟩ := h
  exact ⟨v, h1.belowB h4 hb, own_at h2 (fun g hg => hb.block g (h3 g hg)), h3, h4⟩
theorem SpnI.mono {ko b0 s s' : Nat} {pre : List Rc} {A : World} (h : SpnI ko b0 pre s A) (hs : s ≤ s') : SpnI ko b0 pre s' A := by
  obtain ⟨v, h1, h2, h3, h4⟩ := h
  exact ⟨v, h1, h2, fun g hg => Nat.lt_of_lt_of_le (h3 g hg) hs, by omega⟩
/-- A row of reaches answered. -/
def RowR (W : World) (xs : List Rc) (e : Ending) (W' : World) : Prop := ∃ A c, e = .returned (.slice A xs.length c) ∧ W'.ownsRow W.heap.size 33 6 (.slice A xs.length c) xs.length (Cs encR xs) ∧ Below W.heap.size W W'
set_option maxHeartbeats 4000000 in
theorem Spans_any (B : Nat) (A : Option Addr) (c : Nat) (dep : Int) (es : List En) (W : World) (h : DirAt W B A c es) (hB : B ≤ W.heap.size) (ys : List Rc) (hy : spansX dep es = ys) :
    Calls Try.prog 10 #[.agg #[.int .i64 dep, .slice A es.length c]] W (RowR W ys) := by
  obtain ⟨r, hr⟩ : ∃ r, mayB dep es = r := ⟨_, rfl⟩
  have HY := hide (show (if r then (runs es).map (rc dep) else []) = ys from by rw [← hy, ← hr]; rfl)
  obtain ⟨w1, hw1⟩ : ∃ w1, W.alloc (.cells #[.int .i64 dep, .slice A es.length c] 24) = w1 := ⟨_, rfl⟩
  have s1 : w1.heap.size = W.heap.size + 1 := by rw [← hw1]; simp
  have b1 : Below W.heap.size W w1 := by rw [← hw1]; exact (Below.refl _ _).alloc (Nat.le_refl _) _
  have r1 : RowAt w1 W.heap.size 24 #[.int .i64 dep, .slice A es.length c] := by have h := RowAt.new W 24 #[.int .i64 dep, .slice A es.length c]; rw [hw1] at h; exact h
  have HC := hide (check_any B A c dep es w1 (h.below (b1.mono hB)) (Nat.le_trans hB b1.size) (if r then 0 else 310) (by rw [hr]))
  have HB1 := hide b1
  have R1 := hide r1
  have HD := hide h
  have HR := hide hr
  have S1 := hide s1
  clear h hy hr b1 r1 s1
  refine calls_of_wp_marks Try.func10 rfl ?_
  simp only [Try.ntmps10, List.size_toArray, List.length_cons, List.length_nil, Nat.reduceAdd, Nat.reduceSub, Array.replicate_succ, Array.replicate_zero, List.push_toArray, List.append_toArray, List.nil_append, List.cons_append]
  go_upto_region 1 with (fail)
  clear hw1
  have q0 := row20 R1.out
  have q1 := row21 R1.out
  have ql := R1.out.lt
  go_wp2_with fail
  with_reducible refine HC.out.mono ?_
  rintro e w2 ⟨rfl, hb2⟩
  have HB2 := hide (HB1.out.trans (hb2.mono HB1.out.size))
  have R2 := hide (R1.out.below hb2)
  have S2 := hide (show W.heap.size < w2.heap.size from by have h1 := S1.out; have h2 := hb2.size; omega)
  clear hb2 q0 q1 ql HB1 R1 HC S1
  cases r
  · obtain rfl : [] = ys := HY.out
    simp only [Bool.false_eq_true, if_false]
    go_wp2_with fail
    exact ⟨_, by simp [results, Try.results10, go_sem], none, 0, rfl, ⟨rfl, .inl ⟨rfl, rfl⟩⟩, HB2.out⟩
  · obtain rfl : (runs es).map (rc dep) = ys := HY.out
    simp only [if_true]
    obtain ⟨hd0, hd5, hl32, -⟩ := may_shape HR.out
    have q0 := row20 R2.out
    have q1 := row21 R2.out
    have ql := R2.out.lt
    obtain ⟨ko, hko⟩ : ∃ g, w2.heap.size = g := ⟨_, rfl⟩
    obtain ⟨w3, hw3⟩ : ∃ w3, w2.alloc (.cells #[.slice none 0 0] 28) = w3 := ⟨_, rfl⟩
    obtain ⟨w4, hw4⟩ : ∃ w4, w3.alloc (.cells #[.int .i64 dep, .slice A es.length c] 71) = w4 := ⟨_, rfl⟩
    have s3 : w3.heap.size = ko + 1 := by rw [← hw3]; simp [hko]
    have s4 : w4.heap.size = ko + 1 + 1 := by rw [← hw4]; simp [s3]
    have b3 : Below w2.heap.size w2 w3 := by rw [← hw3]; exact (Below.refl _ _).alloc (Nat.le_refl _) _
    have b4 : Below w3.heap.size w3 w4 := by rw [← hw4]; exact (Below.refl _ _).alloc (Nat.le_refl _) _
    have R3 : Hid (RowAt w4 ko 28 #[.slice none 0 0]) := hide (by have h := RowAt.new w2 28 #[.slice none 0 0]; rw [hw3, hko] at h; exact h.below b4)
    have R4 : Hid (RowAt w4 (ko + 1) 71 #[.int .i64 dep, .slice A es.length c]) := hide (by have h := RowAt.new w3 71 #[.int .i64 dep, .slice A es.length c]; rw [hw4, s3] at h; exact h)
    have HB4 := hide (HB2.out.trans ((b3.trans (b4.mono b3.size)).mono HB2.out.size))
    have S4 := hide s4
    have HKO := hide (show W.heap.size < ko from by have := S2.out; omega)
    have HKE := hide hko
    have hw34 := hide hw4
    have hw33 := hide hw3
    clear s3 s4 b3 b4 hko hw3 hw4
    go_wp2_with fail
    rw [HKE.out, hw33.out, hw34.out]
    refine (spans_any (ko + 1) w4).mono ?_
    rintro e w5 ⟨rfl, hrow, hb⟩
    have hlb := hrow.lt
    have HB5 := hide (HB4.out.trans (hb.mono HB4.out.size))
    have R3 := hide (R3.out.below hb)
    have R4 := hide (R4.out.below hb)
    have hko := HKO.out
    have s4 := S4.out
    have hD5 := HD.out.below (HB5.out.mono hB)
    have hseq := spans_seq8 B w4.heap.size (ko + 1) (w5.heap.size + 2) dep A c es w5 ⟨hrow, R4.out, hD5.rd⟩ (Nat.le_trans hB HB5.out.size) hl32 hd0 hd5 hD5.cap hD5.max
    have hs5 : ko + 1 + 1 < w5.heap.size := by omega
    have HL := hide (show ((runs es).map (rc dep)).length ≤ 32 from by rw [List.length_map]; exact Nat.le_trans (runs_len es) hl32)
    rw [s4] at hseq
    rw [s4]
    clear hrow hb hlb s4 HB4 hw33 hw34 q0 q1 ql hD5 S4
    go_wp2_with fail
    refine wp_range8 (gf := 59) (lb := #[.pointer (some ⟨ko + 1 + 1, 0, none⟩)]) rfl (enters_of Try.func59 (by kernel_rfl) rfl) hseq W.heap.size (by omega) (fun j hj => by have hj : j < B ∨ j = ko + 1 + 1 ∨ j = ko + 1 := hj; omega) (Below.refl _ _) (fun _ => rfl)
      (SpnI ko w5.heap.size) (fun _ _ _ => False) (fun _ _ _ _ h hl => h.lie hl) (fun _ _ _ _ h _ => h) (fun _ _ _ _ h hb => h.later hb) (fun _ _ _ _ h hs => h.mono hs) (fun _ _ _ _ h _ => h) ⟨_, R3.out, World.ownsRow_nil _ _ _ _, (fun g hg => by cases hg), by omega⟩
      (RcA #[12] 4 (ko + 1 + 1)) (fun T a' => RcA.stays _ _ _ T a') ?assign ?body ?done ?stop ?panic
    case assign =>
      intro lo pre x s W2 R hI hsW hb hs hs2 hlen hV hn2 hR
      dsimp only [encRv, rC] at hR ⊢
      have HBN := hide (show Below W2.heap.size W2 (W2.alloc (.cells (rC x) 33)) from (Below.refl _ _).alloc (Nat.le_refl _) _)
      have HRN := hide (RowAt.new W2 33 (rC x))
      gi_wp2
      refine hR _ _ (KeepsOthers.alloc _ _) (HBN.out.mono (by omega)) (fun j _ hj => HBN.out.block j hj) (hI.later (HBN.out.mono hsW)) ⟨W2.heap.size, by simp [encRv], HRN.out, by omega⟩
    case body =>
      rintro lo pre x s a' W2 ⟨v, hrow, hown, hvb, hks⟩ hsW ⟨gb, hpa, hbox, hgb⟩ hb hs hs2 hlen hV hn2
      subst hpa
      obtain ⟨e, D, P, a, m⟩ := x
      dsimp only [encRv, rC] at hbox ⊢
      have e0 := hbox.cell 0
      have e1 := hbox.cell 1
      have e2 := hbox.cell 2
      have e3 := hbox.cell 3
      have e4 := hbox.cell 4
      have e5 := hbox.cell 5
      have el := hbox.lt
      have d1 := row1 hrow
      have HR9 := hide hrow
      have hWs : ko < W2.heap.size := hrow.lt
      have hpl : pre.length < 32 := by have := HL.out; omega
      have HOW := hide hown
      clear hrow hbox
      gi_wp2_with (gi_at_builtin; refine wpListIn_app elR rfl _ _ rfl rfl (HOW.out.alloc _) rfl (Rd.new W2 (rC ⟨e, D, P, a, m⟩) 33 6 1 rfl) (by simp [Value.oneCell']) (by omega) (by rw [World.size_alloc]; omega) ?_; intro v2 w3 hown3 hb3 hg3 hv3; obtain ⟨g2, cap2, rfl, hge2, hlt2⟩ := hown3.form (by omega); have hr3 : RowAt w3 ko 28 #[v] := (HR9.out.below ((Below.refl _ _).alloc (Nat.le_refl _) _)).belowB (by omega) hb3; have HR3 := hide hr3; have d3 := row1 hr3; have f3 := hr3.frozen 0; clear hr3)
      have hka : KeepsOthers W2 w3 := (KeepsOthers.alloc W2 _).trans (KeepsOthers.of_grownBy hg3 (fun j o hj ho => by
        obtain ⟨o', ho', hc'⟩ := own_cells (hown.alloc (.cells (rC ⟨e, D, P, a, m⟩) 33)) hj
        rw [ho'] at ho
        injection ho with ho
        rw [← ho]; exact hc'))
      have hkj : ∀ j, (keep3 B (ko + 1 + 1) (ko + 1) j ∨ s ≤ j) → some j ≠ v.ownBlock ∧ j ≠ ko := by
        intro j hj
        have hj : (j < B ∨ j = ko + 1 + 1 ∨ j = ko + 1) ∨ s ≤ j := hj
        refine ⟨fun e => ?_, by omega⟩
        have h1 := (own_blk hown e.symm).1
        have h2 := hvb j e.symm
        omega
      refine ⟨hka.trans (KeepsOthers.setCell _ _ _), (((Below.refl W.heap.size W2).alloc (by omega) _).trans (hb3.mono (by omega))).setCell (p := ⟨ko, 0, none⟩) (by simp; omega) _, fun j hj hl => ?_, w3.heap.size, ?_, by simp, _, HR3.out.set 0 _, ?_, ?_, ?_⟩
      · obtain ⟨h1, h2⟩ := hkj j hj
        rw [heap_setCell_ne _ _ _ _ h2, hg3.block j (by rw [World.size_alloc]; omega) h1, Below.heap_alloc _ _ _ (by omega)]
      · have := hg3.size; rw [World.size_alloc] at this; omega
      · have h := own_at (w' := w3.setCell ⟨ko, 0, none⟩ (.slice (some ⟨g2, 0, none⟩) (pre.length + 1) cap2)) hown3 (fun g hg => heap_setCell_ne _ _ _ _ (by have := (own_blk hown3 hg).1; simp; omega))
        simp only [List.length_append, List.length_cons, List.length_nil, Cs_append, Cs_one]
        exact h
      · intro g hg
        exact (own_blk hown3 hg).2
      · have := hg3.size; rw [World.size_alloc] at this; omega
    case done =>
      rintro ys s W2 rfl ⟨v, hrow, hown, -, -⟩ hb hs hD9
      have d0 := row1 hrow
      have HO := hide hown
      have hD' := hide hD9
      have hlk := hrow.lt
      have hfin := hide (HB5.out.trans (hb.mono (Nat.le_refl _)))
      clear hrow hown hD9 hb
      unfold marked
      go_wp2_with fail
      refine ⟨by simp, .inl ⟨_, _, rfl, run_takeDeferred hD'.out, ?_⟩⟩
      obtain ⟨A', c', rfl, hc, hcm⟩ := own_form2 HO.out
      refine ⟨.slice A' ((runs es).map (rc dep)).length c', by simp [results, Try.results10, go_sem], A', c', rfl, ?_, ?_⟩
      · exact ownsRow_base (base := w5.heap.size) (own_lie HO.out (CellsLie.putObj (.deferred none) hD'.out rfl)) (by omega)
      · exact hfin.out.trans (below_putObj (o := .deferred (some [])) _ (by omega))
    case stop =>
      rintro c2 pre W2 _ h
      exact h.elim
    case panic =>
      rintro pre s W2 h
      exact h.elim
end Go.Proofs.Ytjlbnegdiabglaa
