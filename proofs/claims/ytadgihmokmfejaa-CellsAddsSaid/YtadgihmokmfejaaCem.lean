/-
  The program's: the last mark of a cell; what the cell held.
-/
import Derived.Test.YtadgihmokmfejaaCel
set_option linter.unusedSimpArgs false
set_option linter.unusedVariables false
namespace Go.Proofs.Ytadgihmokmfejaa
open Go Go.RowKit
attribute [local go_sem] Oper.semAt_some

/-- The boxes of the last one. -/
def LastSt (g : Nat) (pre : List Mk) (W : World) : Prop := RowAt W g 3 #[.int .i64 (lastP pre).1] ∧ RowAt W (g + 1) 4 #[.bool (lastP pre).2]
theorem LastSt.stays (g : Nat) : Stays (LastSt g) := fun _ _ _ h hl => ⟨h.1.lie hl, h.2.lie hl⟩
def mkA (x : Mk) : Array Value := #[.int .i64 x.1, .int .i64 x.2.1, .int .u64 x.2.2.1, .int .u64 x.2.2.2]

set_option maxHeartbeats 2000000 in
theorem plast_any (A : Option Addr) (c n : Nat) (ms : List Mk) (at_ : Int) (W : World) (h : Rd W W.heap.size 4 A n (Cs encM ms)) (hx : ms.length = n) (hl : n ≤ 4096) (r : Int × Bool) (hr : lastX ms at_ = r) :
    Calls Try.prog 30 #[.slice A n c, .int .i64 at_] W fun e W' => e = .returned (.tuple #[.int .i64 r.1, .bool r.2]) ∧ Below W.heap.size W W' := by
  have HR := hide h
  have HX := hide hx
  have HV := hide hr
  clear h hx hr
  obtain ⟨g, hg⟩ : ∃ g, W.heap.size = g := ⟨_, rfl⟩
  have b13 : Below W.heap.size W ((W.alloc (.cells #[.int .i64 0] 3)).alloc (.cells #[.bool false] 4)) := ((Below.refl _ _).alloc (Nat.le_refl _) _).alloc (by simp) _
  have r2 : RowAt ((W.alloc (.cells #[.int .i64 0] 3)).alloc (.cells #[.bool false] 4)) g 3 #[.int .i64 0] := by
    have h := RowAt.new W 3 #[.int .i64 0]
    rw [hg] at h
    exact h.below ((Below.refl _ _).alloc (Nat.le_refl _) _)
  have r3 : RowAt ((W.alloc (.cells #[.int .i64 0] 3)).alloc (.cells #[.bool false] 4)) (g + 1) 4 #[.bool false] := by
    have h := RowAt.new (W.alloc (.cells #[.int .i64 0] 3)) 4 #[.bool false]
    rw [World.size_alloc, hg] at h
    exact h
  have hs3 : ((W.alloc (.cells #[.int .i64 0] 3)).alloc (.cells #[.bool false] 4)).heap.size = g + 1 + 1 := by simp [hg]
  have HG := hide hg
  have HB := hide b13
  have R2 := hide r2
  have R3 := hide r3
  have HS3 := hide hs3
  clear b13 r2 r3 hs3 hg
  refine calls_of_wp_marks Try.func30 rfl ?_
  simp only [Try.ntmps30, List.size_toArray, List.length_cons, List.length_nil, Nat.reduceAdd, Nat.reduceSub, Array.replicate_succ, Array.replicate_zero, List.push_toArray, List.append_toArray, List.nil_append, List.cons_append]
  go_wp2_with fail
  rw [HG.out]
  generalize ((W.alloc (.cells #[.int .i64 0] 3)).alloc (.cells #[.bool false] 4)) = w3 at *
  refine (of_any A c n at_ w3).mono ?_
  rintro x w5 ⟨rfl, hra, hrt, hb⟩
  have HB5 := hide (HB.out.trans (hb.mono HB.out.size))
  replace R2 := hide (R2.out.below hb)
  replace R3 := hide (R3.out.below hb)
  have hla := hra.lt
  have hlt := hrt.lt
  have hr5 := (HR.out.below HB5.out).more HB5.out.size
  have hWg := HG.out
  have hseq := of_seq (fun j => (j < g ∨ g + 1 < j) ∧ j < w5.heap.size) w3.heap.size (w3.heap.size + 1) A c ms at_ w5 (by rw [HX.out]; exact hra) hrt (fun j hj => hj.2) (by rw [HX.out]; exact hr5) (fun p hp hpos => by
    subst hp
    obtain ⟨b, off, e, hb1, _⟩ := HR.out.2 (by rw [← HX.out]; exact hpos)
    injection e with e
    subst e
    exact ⟨by show b < _ ∨ _; omega, by show b < _; have := HB5.out.size; omega⟩) ⟨by rw [HS3.out]; omega, hlt⟩ (by rw [HX.out]; exact hl)
  rw [HS3.out] at hseq hla hlt ⊢
  clear hb hra hrt hr5
  go_wp2_with fail
  refine wp_range (gf := 48) (lb := #[.pointer (some ⟨g + 1 + 1, 0, none⟩), .pointer (some ⟨g + 1 + 1 + 1, 0, none⟩)]) rfl (enters_of Try.func48 (by kernel_rfl) rfl) hseq g (by omega) (fun j hj => hj.2) (Below.refl _ _) (fun _ => rfl)
    (LastSt g) (fun _ _ _ => False) (LastSt.stays _) (fun _ _ _ _ h _ => h) ⟨R2.out, R3.out⟩
    (fun T x a' W2 => BoxAct (g + 1) #[12] (encK x) 8 57 (mkA x) T a' W2) (fun T a' => BoxAct.stays (g + 1) #[12] encK 8 57 mkA T a') ?assign ?body ?done ?stop ?panic
  case assign =>
    intro l pre x W2 R hI hb hs hlen hR
    dsimp only [encK, mkA] at hR ⊢
    gi_wp2
    refine hR _ _ (KeepsOthers.alloc _ _) ((Below.refl _ _).alloc (by omega) _) (fun j hj => Below.heap_alloc _ _ _ (by have := hj.2; omega)) (LastSt.stays _ _ _ _ hI (CellsLie.of_below ((Below.refl _ _).alloc (Nat.le_refl _) _))) ⟨W2.heap.size, RowAt.new W2 57 _, by omega, by simp⟩
  case body =>
    rintro l pre x a' W2 ⟨hr2, hr3⟩ ⟨Bx, hbx, hkx, rfl⟩ hb hs hlen
    dsimp only [encK, mkA] at hbx ⊢
    have hbx' : RowAt W2 Bx 57 #[.int .i64 x.1, .int .i64 x.2.1, .int .u64 x.2.2.1, .int .u64 x.2.2.2] := hbx
    have e0 : W2.cell? ⟨Bx, 0, none⟩ = some (.int .i64 x.1) := hbx'.cell 0
    have HSN := hide (lastP_snoc pre x)
    have R2' := hide hr2
    have R3' := hide hr3
    have z2 := row1 hr2
    have z3 := row1 hr3
    have y2 := hr2.frozen 0
    have y3 := hr3.frozen 0
    have l2 := hr2.lt
    have l3 := hr3.lt
    have lx := hbx'.lt
    clear hr2 hr3 hbx hbx'
    gi_wp2
    refine ⟨(KeepsOthers.setCell _ _ _).trans (KeepsOthers.setCell _ _ _), ((Below.refl g W2).setCell (p := ⟨g, 0, none⟩) (Nat.le_refl _) _).setCell (p := ⟨g + 1, 0, none⟩) (by simp) _, fun j hj => ?_, ?_⟩
    · rw [heap_setCell_ne _ _ _ _ (by have := hj.1; simp; omega), heap_setCell_ne _ _ _ _ (by have := hj.1; simp; omega)]
    · unfold LastSt
      rw [HSN.out]
      exact ⟨(R2'.out.set 0 _).setNe (by omega), (R3'.out.setNe (by omega)).set 0 _⟩
  case done =>
    rintro ys W2 rfl ⟨hr2, hr3⟩ hb hs hD
    rw [lastP_all, HV.out] at hr2 hr3
    have z2 := row1 hr2
    have z3 := row1 hr3
    have l2 := hr2.lt
    have l3 := hr3.lt
    have HD := hide hD
    have HBF := hide (HB5.out.trans (hb.mono (by omega)))
    clear hr2 hr3 hb hD
    unfold marked
    go_wp2_with fail
    go_quiet (fail)
    go_wp2_with fail
    refine ⟨by simp, .inl ⟨_, _, rfl, run_takeDeferred HD.out, ?_⟩⟩
    refine ⟨_, by simp [results, Try.results30, go_sem], rfl, ?_⟩
    exact (below_drewN HBF.out _).trans (below_putObj (o := .deferred (some [])) _ (by have := HB5.out.size; omega))
  case stop =>
    rintro c pre W2 _ h
    exact h.elim
  case panic =>
    rintro pre W2 h
    exact h.elim

/-- A box that gathers what a cell held. -/
def HeldSt (ko base : Nat) (pre : List Mk) (W : World) : Prop := ∃ v, RowAt W ko 22 #[v] ∧ W.ownsRow base 31 1 v (heldP pre).length (Cs encW (heldP pre))
theorem HeldSt.stays (ko base : Nat) : Stays (HeldSt ko base) := fun _ _ _ ⟨v, h1, h2⟩ hl => ⟨v, h1.lie hl, own_lie h2 hl⟩
theorem app_keeps {W w3 : World} {base n sz : Nat} {e t : TypeId} {v : Value} {xs : List Value} {cs : Array Value} (hown : W.ownsRow base e sz v n xs) (hg : (W.alloc (.cells cs t)).grownBy w3 v.ownBlock) : KeepsOthers W w3 :=
  (KeepsOthers.alloc W _).trans (KeepsOthers.of_grownBy hg (fun j o hj ho => by
    obtain ⟨o', ho', hc'⟩ := own_cells (hown.alloc (.cells cs t)) hj
    rw [ho'] at ho
    injection ho with ho
    rw [← ho]; exact hc'))
theorem Rd.newS (w : World) (p : Addr) (v u : Value) (t : TypeId) : Rd ((w.setCell p v).alloc (.cells #[u] t)) (w.heap.size + 1) 1 (some ⟨w.heap.size, 0, none⟩) 1 [u] := by
  have h := Rd.new (w.setCell p v) #[u] t 1 1 rfl
  rw [World.size_setCell] at h
  exact h

theorem own_ne {w : World} {base n sz g : Nat} {e t : TypeId} {v : Value} {xs : List Value} {cs : Array Value} (h : w.ownsRow base e sz v n xs) (hr : RowAt w g t cs) (hne : t ≠ e) : some g ≠ v.ownBlock := by
  rcases h.2 with ⟨rfl, _⟩ | ⟨g', cap, cur, rfl, _, hh, _⟩
  · simp [Value.ownBlock]
  · intro he
    simp only [Value.ownBlock, Option.some.injEq] at he
    subst he
    unfold RowAt at hr
    rw [hh] at hr
    injection hr with hr
    injection hr with h1 h2 h3
    exact hne h2.symm

set_option maxHeartbeats 2000000 in
theorem pheld_any (A : Option Addr) (c n : Nat) (ms : List Mk) (at_ : Int) (W : World) (h : Rd W W.heap.size 4 A n (Cs encM ms)) (hx : ms.length = n) (hl : n ≤ 1000) (Y : List Int) (hY : heldX ms at_ = Y) :
    Calls Try.prog 32 #[.slice A n c, .int .i64 at_] W fun e W' => ∃ A' c', e = .returned (.slice A' Y.length c') ∧ Y.length ≤ c' ∧ c' ≤ 9223372036854775807 ∧ Rd W' W'.heap.size 1 A' Y.length (Cs encW Y) ∧ Below W.heap.size W W' := by
  have HH := hide h
  have HX := hide hx
  have HV := hide hY
  clear h hx hY
  obtain ⟨ko, hko⟩ : ∃ g, W.heap.size = g := ⟨_, rfl⟩
  have HKO := hide hko
  have b1 : Below W.heap.size W (W.alloc (.cells #[.slice none 0 0] 22)) := (Below.refl _ _).alloc (Nat.le_refl _) _
  have r1 : RowAt (W.alloc (.cells #[.slice none 0 0] 22)) ko 22 #[.slice none 0 0] := by
    have h := RowAt.new W 22 #[.slice none 0 0]
    rw [hko] at h
    exact h
  have HS1 := hide (show (W.alloc (.cells #[.slice none 0 0] 22)).heap.size = ko + 1 by simp [hko])
  have HB := hide b1
  have R1 := hide r1
  clear hko b1 r1
  refine calls_of_wp_marks Try.func32 rfl ?_
  simp only [Try.ntmps32, List.size_toArray, List.length_cons, List.length_nil, Nat.reduceAdd, Nat.reduceSub, Array.replicate_succ, Array.replicate_zero, List.push_toArray, List.append_toArray, List.nil_append, List.cons_append]
  go_wp2_with fail
  rw [HKO.out]
  generalize (W.alloc (.cells #[.slice none 0 0] 22)) = w3 at *
  refine (of_any A c n at_ w3).mono ?_
  rintro e w5 ⟨rfl, hra, hrt, hb⟩
  have HB5 := hide (HB.out.trans (hb.mono HB.out.size))
  have hrow0 := R1.out.below hb
  have hla := hra.lt
  have hlt := hrt.lt
  have hWk := HKO.out
  have hs5 := hb.size
  rw [HS1.out] at hs5
  have hseq := of_seq (fun j => j ≠ ko ∧ j < w5.heap.size) w3.heap.size (w3.heap.size + 1) A c ms at_ w5 (by rw [HX.out]; exact hra) hrt (fun j hj => hj.2) (by rw [HX.out]; exact (HH.out.below HB5.out).more HB5.out.size) (fun p hp hpos => by
    subst hp
    obtain ⟨b, off, e, hb1, _⟩ := HH.out.2 (by rw [← HX.out]; exact hpos)
    injection e with e
    subst e
    exact ⟨by show b ≠ ko; omega, by show b < _; have := HB5.out.size; omega⟩) ⟨by rw [HS1.out]; omega, hlt⟩ (by rw [HX.out]; omega)
  rw [HS1.out] at hseq hla hlt ⊢
  clear hb hra hrt
  go_wp2_with fail
  refine wp_range (gf := 48) (lb := #[.pointer (some ⟨ko + 1, 0, none⟩), .pointer (some ⟨ko + 1 + 1, 0, none⟩)]) rfl (enters_of Try.func48 (by kernel_rfl) rfl) hseq ko (by omega) (fun j hj => hj.2) (Below.refl _ _) (fun _ => rfl)
    (HeldSt ko w5.heap.size) (fun _ _ _ => False) (HeldSt.stays ko w5.heap.size) (fun _ _ _ _ h _ => h) ⟨_, hrow0, World.ownsRow_nil _ _ _ _⟩
    (fun T x a' W2 => BoxAct ko #[10] (encK x) 6 57 (mkA x) T a' W2) (fun T a' => BoxAct.stays ko #[10] encK 6 57 mkA T a') ?assign ?body ?done ?stop ?panic
  case assign =>
    intro l pre x W2 R hI hb hs hlen hR
    dsimp only [encK, mkA] at hR ⊢
    gi_wp2
    refine hR _ _ (KeepsOthers.alloc _ _) ((Below.refl _ _).alloc (by omega) _) (fun j hj => Below.heap_alloc _ _ _ (by have := hj.2; omega)) (HeldSt.stays _ _ _ _ _ hI (CellsLie.of_below ((Below.refl _ _).alloc (Nat.le_refl _) _))) ⟨W2.heap.size, RowAt.new W2 57 _, by omega, by simp⟩
  case body =>
    rintro l pre x a' W2 ⟨v, hrow, hown⟩ ⟨Bx, hbx, hkx, rfl⟩ hb hs hlen
    dsimp only [encK, mkA] at hbx ⊢
    have hbx' : RowAt W2 Bx 57 #[.int .i64 x.1, .int .i64 x.2.1, .int .u64 x.2.2.1, .int .u64 x.2.2.2] := hbx
    have e2 : W2.cell? ⟨Bx, 2, none⟩ = some (.int .u64 x.2.2.1) := hbx'.cell 2
    have e3 : W2.cell? ⟨Bx, 3, none⟩ = some (.int .u64 x.2.2.2) := hbx'.cell 3
    have HBX := hide hbx'
    have d1 := row1 hrow
    have y1 := hrow.frozen 0
    have HR := hide hrow
    have hWs : ko < W2.heap.size := hrow.lt
    have hWx : Bx < W2.heap.size := hbx'.lt
    have HSN := hide (heldP_snoc pre x)
    have hpl : (heldP pre).length ≤ 2 * pre.length := heldP_length pre
    have hpl2 : pre.length < 1000 := by have := HX.out; omega
    generalize heldP pre = L at *
    obtain ⟨A0, c0, rfl, hc0, hcm0⟩ := own_form2 hown
    clear hrow hbx hbx'
    by_cases hz : L.length = 0
    · obtain rfl := List.eq_nil_of_length_eq_zero hz
      have hl1 : held1P [] x = [x.2.2.1] ++ [x.2.2.2] := rfl
      rw [hl1] at HSN
      clear hl1 hz hpl
      gi_wp2_with (first
        | (gi_at_builtin; refine wpListIn_app elW rfl _ _ rfl rfl (hown.alloc _) rfl (Rd.new W2 #[.int .u64 x.2.2.1] 31 1 1 rfl) (by simp [Value.oneCell']) (by simp) (by rw [World.size_alloc]; omega) ?_; intro v2 w3 hown3 hb3 hg3 _; obtain ⟨g2, cap2, rfl, hge2, hlt2⟩ := hown3.form (by simp); have hr3 : RowAt w3 ko 22 #[.slice A0 0 c0] := (HR.out.below ((Below.refl _ _).alloc (Nat.le_refl _) _)).belowB (by omega) hb3; have HR3 := hide hr3; have d3 := row1 hr3; have f3 := hr3.frozen 0; have l3 := hr3.lt; have hbx3 : RowAt w3 Bx 57 #[.int .i64 x.1, .int .i64 x.2.1, .int .u64 x.2.2.1, .int .u64 x.2.2.2] := (HBX.out.below ((Below.refl _ _).alloc (Nat.le_refl _) _)).heap (hg3.block Bx (by simp; omega) (own_ne (hown.alloc (.cells #[.int .u64 x.2.2.1] 31)) (HBX.out.below ((Below.refl _ _).alloc (Nat.le_refl _) _)) (by decide))); have e33 : w3.cell? ⟨Bx, 3, none⟩ = some (.int .u64 x.2.2.2) := hbx3.cell 3; have lx3 := hbx3.lt; have hne : ¬ Bx = ko := (by omega); clear hr3)
        | (gi_at_builtin; refine wpListIn_app elW rfl _ _ rfl rfl ((own_other (w' := w3.setCell ⟨ko, 0, none⟩ (.slice (some ⟨g2, 0, none⟩) 1 cap2)) hown3 (fun g hg => heap_setCell_ne _ _ _ _ (by simp; omega))).alloc _) rfl (Rd.newS w3 ⟨ko, 0, none⟩ (.slice (some ⟨g2, 0, none⟩) 1 cap2) (.int .u64 x.2.2.2) 31) (by simp [Value.oneCell']) (by simp) (by rw [World.size_alloc, World.size_setCell]; omega) ?_; intro v4 w6 hown6 hb6 hg6 _; obtain ⟨g4, cap4, rfl, hge4, hlt4⟩ := hown6.form (by simp); have HR6 : Hid (RowAt w6 ko 22 _) := hide (((HR3.out.set 0 (.slice (some ⟨g2, 0, none⟩) 1 cap2)).below ((Below.refl _ _).alloc (Nat.le_refl _) _)).belowB (by omega) hb6); have d6 := row1 HR6.out; have f6 := HR6.out.frozen 0; have l6 := HR6.out.lt))
      have hka1 := app_keeps hown hg3
      have hown3s := own_other (w' := w3.setCell ⟨ko, 0, none⟩ (.slice (some ⟨g2, 0, none⟩) 1 cap2)) hown3 (fun g hg => heap_setCell_ne _ _ _ _ (by simp; omega))
      have hka2 := app_keeps hown3s hg6
      have hs3 := hb3.size
      refine ⟨((hka1.trans (KeepsOthers.setCell _ _ _)).trans hka2).trans (KeepsOthers.setCell _ _ _), ((((Below.refl ko W2).alloc (by omega) _).trans ((hb3.mono (show ko ≤ w5.heap.size by omega)).setCell (p := ⟨ko, 0, none⟩) (Nat.le_refl _) (.slice (some ⟨g2, 0, none⟩) 1 cap2))).trans (((Below.refl ko _).alloc (by rw [World.size_setCell]; omega) _).trans (hb6.mono (show ko ≤ w5.heap.size by omega)))).setCell (Nat.le_refl _) _, fun j hj => ?_, ⟨_, HR6.out.set 0 _, ?_⟩⟩
      · have h1 := hj.1
        have h2 := hj.2
        have hw2 : j < W2.heap.size := by omega
        have hw3 : j < w3.heap.size := by have := hb3.size; rw [World.size_alloc] at this; omega
        rw [heap_setCell_ne _ _ _ _ (by simpa using h1), hb6.block j (by omega), Below.heap_alloc _ _ _ (by rw [World.size_setCell]; omega), heap_setCell_ne _ _ _ _ (by simpa using h1), hb3.block j (by omega), Below.heap_alloc _ _ _ (by omega)]
      · have h := own_other (w' := w6.setCell ⟨ko, 0, none⟩ (.slice (some ⟨g4, 0, none⟩) 2 cap4)) hown6 (fun g hg => heap_setCell_ne _ _ _ _ (by simp; omega))
        rw [HSN.out]
        exact h
    · have hz2 : ((L.length : Int) == 0) = false := by rw [beq_eq_false_iff_ne]; omega
      have hl1 : held1P L x = L ++ [x.2.2.2] := by unfold held1P; rw [if_neg hz]
      rw [hl1] at HSN
      gi_wp2_with (gi_at_builtin; refine wpListIn_app elW rfl _ _ rfl rfl (hown.alloc _) rfl (Rd.new W2 #[.int .u64 x.2.2.2] 31 1 1 rfl) (by simp [Value.oneCell']) (by omega) (by rw [World.size_alloc]; omega) ?_; intro v2 w3 hown3 hb3 hg3 _; obtain ⟨g2, cap2, rfl, hge2, hlt2⟩ := hown3.form (by omega); have hr3 : RowAt w3 ko 22 #[.slice A0 L.length c0] := (HR.out.below ((Below.refl _ _).alloc (Nat.le_refl _) _)).belowB (by omega) hb3; have HR3 := hide hr3; have d3 := row1 hr3; have f3 := hr3.frozen 0; clear hr3)
      have hka := app_keeps hown hg3
      refine ⟨hka.trans (KeepsOthers.setCell _ _ _), ((Below.refl ko W2).alloc (by omega) _).trans ((hb3.mono (show ko ≤ w5.heap.size by omega)).setCell (Nat.le_refl _) _), fun j hj => ?_, ⟨_, HR3.out.set 0 _, ?_⟩⟩
      · have h1 := hj.1
        have h2 := hj.2
        rw [heap_setCell_ne _ _ _ _ (by simpa using h1), hb3.block j (by omega), Below.heap_alloc _ _ _ (by omega)]
      · have h := own_other (w' := w3.setCell ⟨ko, 0, none⟩ (.slice (some ⟨g2, 0, none⟩) (L.length + 1) cap2)) hown3 (fun g hg => heap_setCell_ne _ _ _ _ (by simp; omega))
        rw [HSN.out]
        simp only [List.length_append, List.length_cons, List.length_nil, Cs_append]
        exact h
  case done =>
    rintro ys W2 rfl ⟨v, hrow, hown⟩ hb hs hD
    rw [heldP_all, HV.out] at hown
    obtain ⟨A0, c0, rfl, hc0, hcm0⟩ := own_form2 hown
    have d0 := row1 hrow
    have HO := hide hown
    have hD' := hide hD
    have hlk := hrow.lt
    have hfin := hide (HB5.out.trans (hb.mono (by omega)))
    clear hrow hown hD hb
    unfold marked
    go_wp2_with fail
    refine ⟨by simp, .inl ⟨_, _, rfl, run_takeDeferred hD'.out, ?_⟩⟩
    refine ⟨.slice A0 Y.length c0, by simp [results, Try.results32, go_sem], A0, c0, rfl, hc0, hcm0, ?_, ?_⟩
    · exact Rd.of_own (own_lie HO.out (CellsLie.putObj (.deferred none) hD'.out rfl))
    · exact hfin.out.trans (below_putObj (o := .deferred (some [])) _ (by have := HB5.out.size; omega))
  case stop =>
    rintro c pre W2 _ h
    exact h.elim
  case panic =>
    rintro pre W2 h
    exact h.elim
end Go.Proofs.Ytadgihmokmfejaa
