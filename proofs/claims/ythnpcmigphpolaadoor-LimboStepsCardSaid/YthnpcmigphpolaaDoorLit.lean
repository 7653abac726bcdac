/-
  What waits, and what is ready: the program's.
-/
import Derived.Test.YthnpcmigphpolaaDoorLis
set_option linter.unusedSimpArgs false
set_option linter.unusedVariables false
namespace Go.Proofs.YthnpcmigphpolaaDoor
open Go Go.RowKit
attribute [local go_sem] via_cell via_frozen
attribute [local go_sem] Oper.semAt_some

def selL (p : Nat × Ent → Bool) (l : List (Nat × Ent)) : List Ent := (l.filter p).map (·.2)
theorem selL_yes {p : Nat × Ent → Bool} (l : List (Nat × Ent)) {x : Nat × Ent} (h : p x = true) : selL p (l ++ [x]) = selL p l ++ [x.2] := by
  unfold selL; rw [List.filter_append, List.map_append]; simp [h]
theorem selL_no {p : Nat × Ent → Bool} (l : List (Nat × Ent)) {x : Nat × Ent} (h : p x = false) : selL p (l ++ [x]) = selL p l := by
  unfold selL; rw [List.filter_append, List.map_append]; simp [h]
theorem selL_len (p : Nat × Ent → Bool) (l : List (Nat × Ent)) : (selL p l).length ≤ l.length := by
  unfold selL; rw [List.length_map]; exact List.length_filter_le _ _
def pAll (_ : Nat × Ent) : Bool := true
def pOld (x : Nat × Ent) : Bool := x.1 == 2
theorem sel_held (l : Lim) : selL pAll l.each = l.held := by
  unfold selL pAll
  rw [List.filter_eq_self.2 (fun _ _ => rfl), each_held]
theorem sel_tag (a : Nat) (l : List Ent) : (tag a l).filter pOld = if a = 2 then tag a l else [] := by
  by_cases h : a = 2
  · rw [if_pos h]; exact List.filter_eq_self.2 (fun x hx => by
      unfold tag at hx; obtain ⟨e, _, rfl⟩ := List.mem_map.1 hx; simp [pOld, h])
  · rw [if_neg h]; exact List.filter_eq_nil_iff.2 (fun x hx => by
      unfold tag at hx; obtain ⟨e, _, rfl⟩ := List.mem_map.1 hx; simp [pOld, h])
theorem sel_ready (l : Lim) : selL pOld l.each = l.at 2 := by
  unfold selL Lim.each
  rw [List.filter_append, List.filter_append, sel_tag, sel_tag, sel_tag]
  simp [tag_snd]
/-- While entries are gathered. -/
def SelI (p : Nat × Ent → Bool) (ko base : Nat) (pre : List (Nat × Ent)) (W : World) : Prop :=
  ∃ v, RowAt W ko 23 #[v] ∧ W.ownsRow base 34 2 v (selL p pre).length (Cs encE (selL p pre))
theorem SelI.stays (p : Nat × Ent → Bool) (ko base : Nat) : Stays (SelI p ko base) := fun _ _ _ ⟨v, h1, h2⟩ hl => ⟨v, h1.lie hl, own_lie h2 hl⟩
theorem SelI.later {p : Nat × Ent → Bool} {ko base : Nat} {pre : List (Nat × Ent)} {A B : World} (h : SelI p ko base pre A) (hb : Below A.heap.size A B) : SelI p ko base pre B := by
  obtain ⟨v, h1, h2⟩ := h
  exact ⟨v, h1.below hb, own_keepB h2 hb⟩
/-- The box of the entry that a round is about. -/
def EntBox (base : Nat) (x : Nat × Ent) (mk : Nat → Act) (a' : Act) (W : World) : Prop := ∃ gb, a' = mk gb ∧ RowAt W gb 34 #[.int .i64 x.2.1, .int .u64 x.2.2] ∧ base ≤ gb
theorem ite_or {p : Prop} [Decidable p] {a b : List Ent} : (if p then a else b) = a ∧ p ∨ (if p then a else b) = b ∧ ¬ p := by
  by_cases h : p
  · exact .inl ⟨if_pos h, h⟩
  · exact .inr ⟨if_neg h, h⟩

set_option maxHeartbeats 2000000 in
theorem held_any (B : Nat) (A : Nat → Option Addr) (n c : Nat → Nat) (l : Lim) (W : World) (h : LimRd W B A n l.r) (hE : l.E < 18446744073709551616) (hB : B ≤ W.heap.size) (hm : ∀ k, k < 3 → n k ≤ 4096)
    (hg : ∀ k, k < 3 → ∀ e ∈ l.r k, 0 ≤ e.2 ∧ e.2 < 18446744073709551616) (xs : List Ent) (hx : (if l.ok then l.held else []) = xs) :
    Calls Tryd.prog 9 #[.agg (limC l.E A n c)] W fun e W' => ∃ v, e = .returned v ∧ W'.ownsRow W.heap.size 34 2 v xs.length (Cs encE xs) ∧ Below W.heap.size W W' := by
  have HBN := hide (show Below W.heap.size W (W.alloc (.cells (limC l.E A n c) 26)) from (Below.refl _ _).alloc (Nat.le_refl _) _)
  have HRN := hide (RowAt.new W 26 (limC l.E A n c))
  have H := hide h
  have HM := hide hm
  have HLEN := hide (each_len l n h.len hm)
  rcases Bool.eq_false_or_eq_true l.ok with hok | hok
  · rw [hok, if_pos rfl] at hx
    have HC := hide (check_any B A n c l (W.alloc (.cells (limC l.E A n c) 26)) (h.below (HBN.out.mono hB)) hE (Nat.le_trans hB HBN.out.size) hm hg 0 (by rw [hok]; rfl))
    have HL := hide (ok_out hok).1
    subst hx
    clear h hg hm hok
    refine calls_of_wp_marks Tryd.func9 rfl ?_
    simp only [Tryd.ntmps9, List.size_toArray, List.length_cons, List.length_nil, Nat.reduceAdd, Nat.reduceSub, Array.replicate_succ, Array.replicate_zero, List.push_toArray, List.append_toArray, List.nil_append, List.cons_append]
    go_wp2_with fail
    with_reducible refine HC.out.mono ?_
    rintro e w1 ⟨rfl, hb1⟩
    have HR1 := hide (HRN.out.below hb1)
    have HB1 := hide (HBN.out.trans (hb1.mono HBN.out.size))
    have q0 : w1.cell? ⟨W.heap.size, 0, none⟩ = some (.int .u64 (l.E : Int)) := by have := HR1.out.cell 0; simpa [limC] using this
    have q1 : w1.cell? ⟨W.heap.size, 1, none⟩ = some (.slice (A 0) (n 0) (c 0)) := by have := HR1.out.cell 1; simpa [limC] using this
    have q2 : w1.cell? ⟨W.heap.size, 2, none⟩ = some (.slice (A 1) (n 1) (c 1)) := by have := HR1.out.cell 2; simpa [limC] using this
    have q3 : w1.cell? ⟨W.heap.size, 3, none⟩ = some (.slice (A 2) (n 2) (c 2)) := by have := HR1.out.cell 3; simpa [limC] using this
    have ql := HR1.out.lt
    clear hb1 HC
    go_wp2_with fail
    obtain ⟨ko, hko⟩ : ∃ ko, w1.heap.size = ko := ⟨_, rfl⟩
    have hRK := RowAt.new w1 23 #[.slice none 0 0]
    have hsk : (w1.alloc (.cells #[.slice none 0 0] 23)).heap.size = ko + 1 := by simp [hko]
    have HBK := hide (show Below W.heap.size W (w1.alloc (.cells #[.slice none 0 0] 23)) from HB1.out.alloc HB1.out.size _)
    rw [hko] at hRK ql ⊢
    clear q0 q1 q2 q3
    generalize w1.alloc (.cells #[.slice none 0 0] 23) = w2 at *
    refine (each_any l.E A n c w2).mono ?_
    rintro e w5 ⟨rfl, hrow, hb⟩
    have hlb := hrow.lt
    have hrow0 : RowAt w5 ko 23 #[.slice none 0 0] := hRK.below hb
    have HB5 := hide (HBK.out.trans (hb.mono HBK.out.size))
    have hseq := each_seq B w2.heap.size (w5.heap.size + 2) (fun j => j < B ∨ j = w5.heap.size + 2) A n c l w5 hrow (H.out.below (HB5.out.mono hB)) HL.out (Nat.le_trans hB HB5.out.size) HM.out (fun j hj => .inl hj) (.inr rfl)
    have hs5 : ko + 1 < w5.heap.size := by omega
    have HR0 := hide hrow0
    rw [hsk] at hseq ⊢
    clear hrow hb hlb hrow0 hRK hsk hko
    go_wp2_with fail
    refine wp_range6 (gf := 48) (lb := #[.pointer (some ⟨ko + 1, 0, none⟩)]) rfl (enters_of Tryd.func48 (by kernel_rfl) rfl) hseq ko (by omega) (fun j hj => by have hj : j < B ∨ j = w5.heap.size + 2 := hj; omega) (Below.refl _ _) (fun _ => rfl)
      (SelI pAll ko (w5.heap.size + 3)) (fun _ _ _ => False) (SelI.stays _ _ _) (fun _ _ _ _ h _ => h) (fun _ _ _ h hb => h.later hb) (fun _ _ _ _ h _ => h) ⟨_, HR0.out, World.ownsRow_nil _ _ _ _⟩
      (fun T x a' W2 => EntBox ko x (fun gb => { tmps := (((#[11, 12].zip (encP x)).foldl (fun t (p, v) => t.setIfInBounds p v) T)).setIfInBounds 5 (.pointer (some ⟨gb, 0, none⟩)), defers := [] }) a' W2) (fun T a' x => fun _ _ h hl => by obtain ⟨gb, h1, h2, h3⟩ := h; exact ⟨gb, h1, h2.lie hl, h3⟩) ?assign ?body ?done ?stop ?panic
    case assign =>
      intro lo pre x W2 R hI hb hs hlen hV hn2 hR
      dsimp only [encP] at hR ⊢
      have HBX := hide (show Below W2.heap.size W2 (W2.alloc (.cells #[.int .i64 x.2.1, .int .u64 x.2.2] 34)) from (Below.refl _ _).alloc (Nat.le_refl _) _)
      have HRX := hide (RowAt.new W2 34 #[.int .i64 x.2.1, .int .u64 x.2.2])
      gi_wp2
      refine hR _ _ (KeepsOthers.alloc _ _) (HBX.out.mono (by omega)) (fun j _ hj => HBX.out.block j hj) (hI.later HBX.out) ⟨W2.heap.size, by simp [encP], HRX.out, by omega⟩
    case body =>
      rintro lo pre x a' W2 ⟨v, hrow, hown⟩ ⟨gb, hpa, hbox, hgb⟩ hb hs hlen hV hn2
      subst hpa
      obtain ⟨ago, s, gen⟩ := x
      dsimp only [encP] at hbox ⊢
      have e0 := row20 hbox
      have e1 := row21 hbox
      have el := hbox.lt
      have d1 := row1 hrow
      have HR := hide hrow
      have hWs : ko < W2.heap.size := hrow.lt
      have hpl : (selL pAll pre).length < 12288 := by have := selL_len pAll pre; have := HLEN.out; omega
      clear hrow hbox
      have HSY := hide (selL_yes (p := pAll) pre (x := (ago, (s, gen))) rfl)
      dsimp only at HSY
      gi_wp2_with (gi_at_builtin; refine wpListIn_app elE rfl _ _ rfl rfl (hown.alloc _) rfl (Rd.new W2 #[.int .i64 s, .int .u64 gen] 34 2 1 rfl) (by simp [Value.oneCell']) (by omega) (by rw [World.size_alloc]; omega) ?_; intro v2 w3 hown3 hb3 hg3 _; obtain ⟨g2, cap2, rfl, hge2, hlt2⟩ := hown3.form (by omega); have hr3 : RowAt w3 ko 23 #[v] := (HR.out.below ((Below.refl _ _).alloc (Nat.le_refl _) _)).belowB (by omega) hb3; have HR3 := hide hr3; have d3 := row1 hr3; have f3 := hr3.frozen 0; have l3 := hr3.lt; clear hr3)
      have hka : KeepsOthers W2 w3 := (KeepsOthers.alloc W2 _).trans (KeepsOthers.of_grownBy hg3 (fun j o hj ho => by
        obtain ⟨o', ho', hc'⟩ := own_cells (hown.alloc (.cells #[.int .i64 s, .int .u64 gen] 34)) hj
        rw [ho'] at ho
        injection ho with ho
        rw [← ho]; exact hc'))
      refine ⟨hka.trans (KeepsOthers.setCell _ _ _), ((Below.refl ko W2).alloc (by omega) _).trans ((hb3.mono (show ko ≤ w5.heap.size + 3 by omega)).setCell (Nat.le_refl _) _), fun j hj hl => ?_, ⟨_, HR3.out.set 0 _, ?_⟩⟩
      · have hj : j < B ∨ j = w5.heap.size + 2 := hj
        rw [heap_setCell_ne _ _ _ _ (by show j ≠ ko; omega), hb3.block j (by omega), Below.heap_alloc _ _ _ hl]
      · have h := own_other (w' := w3.setCell ⟨ko, 0, none⟩ (.slice (some ⟨g2, 0, none⟩) ((selL pAll pre).length + 1) cap2)) hown3 (fun g hg => heap_setCell_ne _ _ _ _ (by simp; omega))
        rw [HSY.out]
        simp only [List.length_append, List.length_cons, List.length_nil, Cs_append, Cs_one]
        exact h
    case done =>
      rintro ys W2 rfl ⟨v, hrow, hown⟩ hb hs hD
      have d0 := row1 hrow
      have HO := hide hown
      have HD := hide hD
      have hlk := hrow.lt
      have hfin := hide (HB5.out.trans (hb.mono (by omega)))
      clear hrow hown hD hb
      unfold marked
      go_wp2_with fail
      refine ⟨by simp, .inl ⟨_, _, rfl, run_takeDeferred HD.out, ?_⟩⟩
      obtain ⟨A', c', rfl, hc, hcm⟩ := own_form2 HO.out
      refine ⟨.slice A' (selL pAll l.each).length c', by simp [results, Tryd.results9, go_sem], _, rfl, ?_, ?_⟩
      · have h := own_lie HO.out (CellsLie.putObj (.deferred none) HD.out rfl)
        rw [sel_held] at h ⊢
        exact ownsRow_base h (by omega)
      · exact hfin.out.trans (below_putObj (o := .deferred (some [])) _ (by omega))
    case stop =>
      rintro c2 pre W2 _ h
      exact h.elim
    case panic =>
      rintro pre W2 h
      exact h.elim
  · rw [hok, if_neg (by simp)] at hx
    subst hx
    have HC := hide (check_any B A n c l (W.alloc (.cells (limC l.E A n c) 26)) (h.below (HBN.out.mono hB)) hE (Nat.le_trans hB HBN.out.size) hm hg 240 (by rw [hok]; rfl))
    clear h hg hm hok
    go_enter Tryd.func9, Tryd.ntmps9
    go_wp2_with fail
    with_reducible refine HC.out.mono ?_
    rintro e w1 ⟨rfl, hb1⟩
    have HB1 := hide (HBN.out.trans (hb1.mono HBN.out.size))
    clear hb1
    go_wp2_with fail
    go_ret
    exact ⟨_, rfl, World.ownsRow_nil _ _ _ _, HB1.out⟩

set_option maxHeartbeats 2000000 in
theorem ready_any (B : Nat) (A : Nat → Option Addr) (n c : Nat → Nat) (l : Lim) (W : World) (h : LimRd W B A n l.r) (hE : l.E < 18446744073709551616) (hB : B ≤ W.heap.size) (hm : ∀ k, k < 3 → n k ≤ 4096)
    (hg : ∀ k, k < 3 → ∀ e ∈ l.r k, 0 ≤ e.2 ∧ e.2 < 18446744073709551616) (xs : List Ent) (hx : (if l.ok then l.at 2 else []) = xs) :
    Calls Tryd.prog 25 #[.agg (limC l.E A n c)] W fun e W' => ∃ v, e = .returned v ∧ W'.ownsRow W.heap.size 34 2 v xs.length (Cs encE xs) ∧ Below W.heap.size W W' := by
  have HBN := hide (show Below W.heap.size W (W.alloc (.cells (limC l.E A n c) 26)) from (Below.refl _ _).alloc (Nat.le_refl _) _)
  have HRN := hide (RowAt.new W 26 (limC l.E A n c))
  have H := hide h
  have HM := hide hm
  have HLEN := hide (each_len l n h.len hm)
  rcases Bool.eq_false_or_eq_true l.ok with hok | hok
  · rw [hok, if_pos rfl] at hx
    have HC := hide (check_any B A n c l (W.alloc (.cells (limC l.E A n c) 26)) (h.below (HBN.out.mono hB)) hE (Nat.le_trans hB HBN.out.size) hm hg 0 (by rw [hok]; rfl))
    have HL := hide (ok_out hok).1
    subst hx
    clear h hg hm hok
    refine calls_of_wp_marks Tryd.func25 rfl ?_
    simp only [Tryd.ntmps25, List.size_toArray, List.length_cons, List.length_nil, Nat.reduceAdd, Nat.reduceSub, Array.replicate_succ, Array.replicate_zero, List.push_toArray, List.append_toArray, List.nil_append, List.cons_append]
    go_wp2_with fail
    with_reducible refine HC.out.mono ?_
    rintro e w1 ⟨rfl, hb1⟩
    have HR1 := hide (HRN.out.below hb1)
    have HB1 := hide (HBN.out.trans (hb1.mono HBN.out.size))
    have q0 : w1.cell? ⟨W.heap.size, 0, none⟩ = some (.int .u64 (l.E : Int)) := by have := HR1.out.cell 0; simpa [limC] using this
    have q1 : w1.cell? ⟨W.heap.size, 1, none⟩ = some (.slice (A 0) (n 0) (c 0)) := by have := HR1.out.cell 1; simpa [limC] using this
    have q2 : w1.cell? ⟨W.heap.size, 2, none⟩ = some (.slice (A 1) (n 1) (c 1)) := by have := HR1.out.cell 2; simpa [limC] using this
    have q3 : w1.cell? ⟨W.heap.size, 3, none⟩ = some (.slice (A 2) (n 2) (c 2)) := by have := HR1.out.cell 3; simpa [limC] using this
    have ql := HR1.out.lt
    clear hb1 HC
    go_wp2_with fail
    obtain ⟨ko, hko⟩ : ∃ ko, w1.heap.size = ko := ⟨_, rfl⟩
    have hRK := RowAt.new w1 23 #[.slice none 0 0]
    have hsk : (w1.alloc (.cells #[.slice none 0 0] 23)).heap.size = ko + 1 := by simp [hko]
    have HBK := hide (show Below W.heap.size W (w1.alloc (.cells #[.slice none 0 0] 23)) from HB1.out.alloc HB1.out.size _)
    rw [hko] at hRK ql ⊢
    clear q0 q1 q2 q3
    generalize w1.alloc (.cells #[.slice none 0 0] 23) = w2 at *
    refine (each_any l.E A n c w2).mono ?_
    rintro e w5 ⟨rfl, hrow, hb⟩
    have hlb := hrow.lt
    have hrow0 : RowAt w5 ko 23 #[.slice none 0 0] := hRK.below hb
    have HB5 := hide (HBK.out.trans (hb.mono HBK.out.size))
    have hseq := each_seq B w2.heap.size (w5.heap.size + 2) (fun j => j < B ∨ j = w5.heap.size + 2) A n c l w5 hrow (H.out.below (HB5.out.mono hB)) HL.out (Nat.le_trans hB HB5.out.size) HM.out (fun j hj => .inl hj) (.inr rfl)
    have hs5 : ko + 1 < w5.heap.size := by omega
    have HR0 := hide hrow0
    rw [hsk] at hseq ⊢
    clear hrow hb hlb hrow0 hRK hsk hko
    go_wp2_with fail
    refine wp_range6 (gf := 48) (lb := #[.pointer (some ⟨ko + 1, 0, none⟩)]) rfl (enters_of Tryd.func48 (by kernel_rfl) rfl) hseq ko (by omega) (fun j hj => by have hj : j < B ∨ j = w5.heap.size + 2 := hj; omega) (Below.refl _ _) (fun _ => rfl)
      (SelI pOld ko (w5.heap.size + 3)) (fun _ _ _ => False) (SelI.stays _ _ _) (fun _ _ _ _ h _ => h) (fun _ _ _ h hb => h.later hb) (fun _ _ _ _ h _ => h) ⟨_, HR0.out, World.ownsRow_nil _ _ _ _⟩
      (fun T x a' W2 => EntBox ko x (fun gb => { tmps := (((#[11, 12].zip (encP x)).foldl (fun t (p, v) => t.setIfInBounds p v) T).setIfInBounds 4 (.int .u64 (x.1 : Int))).setIfInBounds 5 (.pointer (some ⟨gb, 0, none⟩)), defers := [] }) a' W2) (fun T a' x => fun _ _ h hl => by obtain ⟨gb, h1, h2, h3⟩ := h; exact ⟨gb, h1, h2.lie hl, h3⟩) ?assign ?body ?done ?stop ?panic
    case assign =>
      intro lo pre x W2 R hI hb hs hlen hV hn2 hR
      dsimp only [encP] at hR ⊢
      have HBX := hide (show Below W2.heap.size W2 (W2.alloc (.cells #[.int .i64 x.2.1, .int .u64 x.2.2] 34)) from (Below.refl _ _).alloc (Nat.le_refl _) _)
      have HRX := hide (RowAt.new W2 34 #[.int .i64 x.2.1, .int .u64 x.2.2])
      gi_wp2
      refine hR _ _ (KeepsOthers.alloc _ _) (HBX.out.mono (by omega)) (fun j _ hj => HBX.out.block j hj) (hI.later HBX.out) ⟨W2.heap.size, by simp [encP], HRX.out, by omega⟩
    case body =>
      rintro lo pre x a' W2 ⟨v, hrow, hown⟩ ⟨gb, hpa, hbox, hgb⟩ hb hs hlen hV hn2
      subst hpa
      obtain ⟨ago, s, gen⟩ := x
      dsimp only [encP] at hbox ⊢
      have e0 := row20 hbox
      have e1 := row21 hbox
      have el := hbox.lt
      have d1 := row1 hrow
      have HR := hide hrow
      have hWs : ko < W2.heap.size := hrow.lt
      have hpl : (selL pOld pre).length < 12288 := by have := selL_len pOld pre; have := HLEN.out; omega
      clear hrow hbox
      by_cases h2 : ago = 2
      · have hd : (((ago : Nat) : Int) == 2) = true := by simp; omega
        have HSY := hide (selL_yes (p := pOld) pre (x := (ago, (s, gen))) (by simp [pOld, h2]))
        dsimp only at HSY
        clear h2
        gi_wp2_with (gi_at_builtin; refine wpListIn_app elE rfl _ _ rfl rfl (hown.alloc _) rfl (Rd.new W2 #[.int .i64 s, .int .u64 gen] 34 2 1 rfl) (by simp [Value.oneCell']) (by omega) (by rw [World.size_alloc]; omega) ?_; intro v2 w3 hown3 hb3 hg3 _; obtain ⟨g2, cap2, rfl, hge2, hlt2⟩ := hown3.form (by omega); have hr3 : RowAt w3 ko 23 #[v] := (HR.out.below ((Below.refl _ _).alloc (Nat.le_refl _) _)).belowB (by omega) hb3; have HR3 := hide hr3; have d3 := row1 hr3; have f3 := hr3.frozen 0; have l3 := hr3.lt; clear hr3)
        have hka : KeepsOthers W2 w3 := (KeepsOthers.alloc W2 _).trans (KeepsOthers.of_grownBy hg3 (fun j o hj ho => by
          obtain ⟨o', ho', hc'⟩ := own_cells (hown.alloc (.cells #[.int .i64 s, .int .u64 gen] 34)) hj
          rw [ho'] at ho
          injection ho with ho
          rw [← ho]; exact hc'))
        refine ⟨hka.trans (KeepsOthers.setCell _ _ _), ((Below.refl ko W2).alloc (by omega) _).trans ((hb3.mono (show ko ≤ w5.heap.size + 3 by omega)).setCell (Nat.le_refl _) _), fun j hj hl => ?_, ⟨_, HR3.out.set 0 _, ?_⟩⟩
        · have hj : j < B ∨ j = w5.heap.size + 2 := hj
          rw [heap_setCell_ne _ _ _ _ (by show j ≠ ko; omega), hb3.block j (by omega), Below.heap_alloc _ _ _ hl]
        · have h := own_other (w' := w3.setCell ⟨ko, 0, none⟩ (.slice (some ⟨g2, 0, none⟩) ((selL pOld pre).length + 1) cap2)) hown3 (fun g hg => heap_setCell_ne _ _ _ _ (by simp; omega))
          rw [HSY.out]
          simp only [List.length_append, List.length_cons, List.length_nil, Cs_append, Cs_one]
          exact h
      · have hd : (((ago : Nat) : Int) == 2) = false := by simp; omega
        have HSN := hide (selL_no (p := pOld) pre (x := (ago, (s, gen))) (by simp [pOld, h2]))
        gi_wp2
        exact ⟨KeepsOthers.refl _, Below.refl _ _, fun j hj hl => rfl, by rw [SelI, HSN.out]; exact ⟨_, HR.out, hown⟩⟩
    case done =>
      rintro ys W2 rfl ⟨v, hrow, hown⟩ hb hs hD
      have d0 := row1 hrow
      have HO := hide hown
      have HD := hide hD
      have hlk := hrow.lt
      have hfin := hide (HB5.out.trans (hb.mono (by omega)))
      clear hrow hown hD hb
      unfold marked
      go_wp2_with fail
      refine ⟨by simp, .inl ⟨_, _, rfl, run_takeDeferred HD.out, ?_⟩⟩
      obtain ⟨A', c', rfl, hc, hcm⟩ := own_form2 HO.out
      refine ⟨.slice A' (selL pOld l.each).length c', by simp [results, Tryd.results25, go_sem], _, rfl, ?_, ?_⟩
      · have h := own_lie HO.out (CellsLie.putObj (.deferred none) HD.out rfl)
        rw [sel_ready] at h ⊢
        exact ownsRow_base h (by omega)
      · exact hfin.out.trans (below_putObj (o := .deferred (some [])) _ (by omega))
    case stop =>
      rintro c2 pre W2 _ h
      exact h.elim
    case panic =>
      rintro pre W2 h
      exact h.elim
  · rw [hok, if_neg (by simp)] at hx
    subst hx
    have HC := hide (check_any B A n c l (W.alloc (.cells (limC l.E A n c) 26)) (h.below (HBN.out.mono hB)) hE (Nat.le_trans hB HBN.out.size) hm hg 240 (by rw [hok]; rfl))
    clear h hg hm hok
    go_enter Tryd.func25, Tryd.ntmps25
    go_wp2_with fail
    with_reducible refine HC.out.mono ?_
    rintro e w1 ⟨rfl, hb1⟩
    have HB1 := hide (HBN.out.trans (hb1.mono HBN.out.size))
    clear hb1
    go_wp2_with fail
    go_ret
    exact ⟨_, rfl, World.ownsRow_nil _ _ _ _, HB1.out⟩
end Go.Proofs.YthnpcmigphpolaaDoor
