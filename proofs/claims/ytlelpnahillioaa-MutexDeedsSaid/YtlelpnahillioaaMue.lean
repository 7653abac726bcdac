/-
  For which mutex a goroutine waits; new mutexes; the same ones; which one has.
-/
import Derived.Test.YtlelpnahillioaaMud
set_option linter.unusedSimpArgs false
set_option linter.unusedVariables false
namespace Go.Proofs.Ytlelpnahillioaa
open Go Go.RowKit
attribute [local go_sem] via_cell via_frozen
attribute [local go_sem] Oper.semAt_some

structure WtI (g : Int) (gb : Nat) (pre : List Wt) (W : World) : Prop where
  no : ∀ x ∈ pre, x.2 ≠ g
  box : RowAt W gb 3 #[.int .i64 g]
  res : RowAt W (gb + 1) 3 #[.int .i64 0]
structure WtXs (g : Int) (gb : Nat) (c : Code) (pre : List Wt) (W : World) : Prop where
  code : c = .ret
  found : ∃ pre0 k, pre = pre0 ++ [(k, g)] ∧ (∀ x ∈ pre0, x.2 ≠ g) ∧ RowAt W (gb + 1) 3 #[.int .i64 k]
theorem WtI.stays (g : Int) (gb : Nat) : Stays (WtI g gb) := fun _ _ _ h hl => ⟨h.no, h.box.lie hl, h.res.lie hl⟩
theorem WtXs.stays (g : Int) (gb : Nat) (c : Code) : Stays (WtXs g gb c) := fun _ _ _ h hl => ⟨h.code, by obtain ⟨p, k, h1, h2, h3⟩ := h.found; exact ⟨p, k, h1, h2, h3.lie hl⟩⟩
theorem WtI.later {g : Int} {gb : Nat} {pre : List Wt} {A B : World} (h : WtI g gb pre A) (hb : Below A.heap.size A B) : WtI g gb pre B := ⟨h.no, h.box.below hb, h.res.below hb⟩
set_option maxHeartbeats 4000000 in
theorem waits_any (B : Nat) (A : Option Addr) (c m : Nat) (ts : List Mm) (g : Int) (W : World) (h : RM W B A m ts) (hs : SmallM ts) (hB : B ≤ W.heap.size) (r : Int) (hr : waitsX (mus ts) g = r) :
    Calls Try.prog 42 #[.agg #[.slice A m c], .int .i64 g] W fun e W' => e = .returned (.int .i64 r) ∧ Below W.heap.size W W' := by
  have HR := hide hr
  have H := hide h
  have HS := hide hs
  clear h hr hs
  obtain ⟨w1, hw1⟩ : ∃ w1, W.alloc (.cells #[.slice A m c] 64) = w1 := ⟨_, rfl⟩
  obtain ⟨w2, hw2⟩ : ∃ w2, w1.alloc (.cells #[.int .i64 g] 3) = w2 := ⟨_, rfl⟩
  obtain ⟨w3, hw3⟩ : ∃ w3, w2.alloc (.cells #[.int .i64 0] 3) = w3 := ⟨_, rfl⟩
  have s1 : w1.heap.size = W.heap.size + 1 := by rw [← hw1]; simp
  have s2 : w2.heap.size = W.heap.size + 1 + 1 := by rw [← hw2]; simp [s1]
  have b1 : Below W.heap.size W w1 := by rw [← hw1]; exact (Below.refl _ _).alloc (Nat.le_refl _) _
  have b2 : Below w1.heap.size w1 w2 := by rw [← hw2]; exact (Below.refl _ _).alloc (Nat.le_refl _) _
  have b3 : Below w2.heap.size w2 w3 := by rw [← hw3]; exact (Below.refl _ _).alloc (Nat.le_refl _) _
  have r1 : RowAt w3 W.heap.size 64 #[.slice A m c] := by have h := RowAt.new W 64 #[.slice A m c]; rw [hw1] at h; exact (h.below b2).below b3
  have r2 : RowAt w3 (W.heap.size + 1) 3 #[.int .i64 g] := by have h := RowAt.new w1 3 #[.int .i64 g]; rw [hw2, s1] at h; exact h.below b3
  have r3 : RowAt w3 (W.heap.size + 1 + 1) 3 #[.int .i64 0] := by have h := RowAt.new w2 3 #[.int .i64 0]; rw [hw3, s2] at h; exact h
  have HB3 := hide ((b1.trans (b2.mono b1.size)).trans (b3.mono (by omega)))
  have HI3 := hide (show WtI g (W.heap.size + 1) [] w3 from ⟨by simp, r2, r3⟩)
  have R1 := hide r1
  have S3 : Hid (w3.heap.size = W.heap.size + 1 + 1 + 1) := hide (by rw [← hw3]; simp [s2])
  clear b1 b2 b3 r1 r2 r3 s1 s2
  subst hw3
  subst hw2
  subst hw1
  refine calls_of_wp_marks Try.func42 rfl ?_
  simp only [Try.ntmps42, List.size_toArray, List.length_cons, List.length_nil, Nat.reduceAdd, Nat.reduceSub, Array.replicate_succ, Array.replicate_zero, List.push_toArray, List.append_toArray, List.nil_append, List.cons_append]
  go_upto_region 1 with (fail)
  generalize ((W.alloc (.cells #[.slice A m c] 64)).alloc (.cells #[.int .i64 g] 3)).alloc (.cells #[.int .i64 0] 3) = w3 at *
  have q0 := row1 R1.out
  have ql := R1.out.lt
  go_wp2_with fail
  refine (waiting_any A m c w3).mono ?_
  rintro e w4 ⟨rfl, hrow, hb⟩
  have hlb := hrow.lt
  have HB4 := hide (HB3.out.trans (hb.mono HB3.out.size))
  have HI4 := hide (HI3.out.later hb)
  have hseq := waiting_seq B w3.heap.size (w4.heap.size + 2) A m c ts w4 hrow (H.out.below (HB4.out.mono hB)) (Nat.le_trans hB HB4.out.size) HS.out
  have hs3 := S3.out
  have hs4 : W.heap.size + 1 + 1 < w4.heap.size := by omega
  clear hrow hb hlb hs3 HI3 HB3 S3 q0 ql R1
  go_wp2_with fail
  refine wp_range6 (gf := 57) (lb := #[.pointer (some ⟨w3.heap.size, 0, none⟩)]) rfl (enters_of Try.func57 (by kernel_rfl) rfl) hseq W.heap.size (by omega) (fun j hj => by have hj : j < B := hj; omega) (Below.refl _ _) (fun _ => rfl)
    (WtI g (W.heap.size + 1)) (WtXs g (W.heap.size + 1)) (WtI.stays _ _) (WtXs.stays _ _) (fun _ _ _ h hb => h.later hb) (fun _ _ _ _ h hb => ⟨h.code, by obtain ⟨p, k, h1, h2, h3⟩ := h.found; exact ⟨p, k, h1, h2, h3.below hb⟩⟩) HI4.out
    (fun T x a' _ => a' = { tmps := (((#[10, 11].zip (encW x)).foldl (fun t (p, v) => t.setIfInBounds p v) T).setIfInBounds 5 (.int .i64 x.1)).setIfInBounds 6 (.int .i64 x.2), defers := [] }) (fun T a' x => fun _ _ h hl => h) ?assign ?body ?done ?stop ?panic
  case assign =>
    intro lo pre x W2 R hI hb hs hlen hV hn2 hR
    dsimp only [encW] at hR ⊢
    gi_wp2
    exact hR _ _ (KeepsOthers.refl _) (Below.refl _ _) (fun j _ hj => rfl) hI (by simp [encW])
  case body =>
    rintro lo pre x a' W2 hI rfl hb hs hlen hV hn2
    obtain ⟨wh, y⟩ := x
    dsimp only [encW]
    have HIh := hide hI
    have b0 := row1 hI.box
    have bl := hI.box.lt
    have rl := hI.res.lt
    have rf := hI.res.frozen 0
    have r0 := row1 hI.res
    clear hI hV
    by_cases hyg : y = g
    · subst hyg
      have hd : (y == y) = true := by simp
      have HX := hide (show WtXs y (W.heap.size + 1) .ret (pre ++ [(wh, y)]) (W2.setCell ⟨W.heap.size + 1 + 1, 0, none⟩ (.int .i64 wh)) from ⟨rfl, pre, wh, rfl, HIh.out.no, HIh.out.res.set 0 (.int .i64 wh)⟩)
      gi_wp2
      exact ⟨KeepsOthers.setCell _ _ _, (Below.refl _ _).setCell (p := ⟨W.heap.size + 1 + 1, 0, none⟩) (by simp; omega) _, HX.out⟩
    · have hd : (y == g) = false := by simpa using hyg
      have HN := hide (show WtI g (W.heap.size + 1) (pre ++ [(wh, y)]) W2 from ⟨fun x hx => by
        rcases List.mem_append.1 hx with hx | hx
        · exact HIh.out.no x hx
        · rw [List.mem_singleton] at hx; subst hx; exact hyg, HIh.out.box, HIh.out.res⟩)
      gi_wp2
      exact ⟨KeepsOthers.refl _, Below.refl _ _, fun j hj hl => rfl, HN.out⟩
  case done =>
    rintro ys W2 rfl hI hb hs hD
    have HRR := hide (show r = -1 from by rw [← HR.out]; exact waits_done hI.no)
    have q0 := row1 hI.res
    have ql := hI.res.lt
    have qf := hI.res.frozen 0
    have HD := hide hD
    have HBF := hide (HB4.out.trans (hb.mono (Nat.le_refl _)))
    have hRZ := (hI.res.set 0 (.int .i64 (-1)))
    clear hb hD hI
    unfold marked
    go_wp2_with fail
    have hD9 : (W2.setCell ⟨W.heap.size + 1 + 1, 0, none⟩ (.int .i64 (-1))).heap[w4.heap.size]? = some (.deferred (some [])) := (heap_setCell_ne _ _ _ _ (by show w4.heap.size ≠ W.heap.size + 1 + 1; omega)).trans HD.out
    have hr9 : RowAt ((W2.setCell ⟨W.heap.size + 1 + 1, 0, none⟩ (.int .i64 (-1))).putObj w4.heap.size (.deferred none)) (W.heap.size + 1 + 1) 3 #[.int .i64 (-1)] := RowAt.lie hRZ (CellsLie.putObj _ hD9 rfl)
    have c9 := row1 hr9
    have l9 := hr9.lt
    refine ⟨by simp, .inl ⟨_, _, rfl, run_takeDeferred hD9, ?_⟩⟩
    rw [HRR.out]
    have hfin : Below W.heap.size W ((W2.setCell ⟨W.heap.size + 1 + 1, 0, none⟩ (.int .i64 (-1))).putObj w4.heap.size (.deferred none)) := (HBF.out.trans ((Below.refl _ _).setCell (p := ⟨W.heap.size + 1 + 1, 0, none⟩) (by simp; omega) _)).trans (below_putObj (o := .deferred (some [])) _ (by omega))
    generalize (W2.setCell ⟨W.heap.size + 1 + 1, 0, none⟩ (.int .i64 (-1))).putObj w4.heap.size (.deferred none) = w9 at *
    exact ⟨_, by simp [results, Try.results42, go_sem, c9, l9], rfl, hfin⟩
  case stop =>
    rintro c2 pre W2 ⟨rr, hr2⟩ ⟨rfl, pre0, k, rfl, hno, herr⟩ hb hs hD
    have HRR := hide (show r = k from by
      rw [← HR.out]
      exact waits_stop (r := rr) hno (by rw [← hr2, List.append_assoc]; rfl))
    have HE9 := hide herr
    have HD := hide hD
    have HBF := hide (HB4.out.trans (hb.mono (Nat.le_refl _)))
    clear hb hD herr hno hr2
    unfold marked
    go_wp2_with fail
    have hr9 : RowAt (W2.putObj w4.heap.size (.deferred none)) (W.heap.size + 1 + 1) 3 #[.int .i64 k] := RowAt.lie HE9.out (CellsLie.putObj _ HD.out rfl)
    have c9 := row1 hr9
    have l9 := hr9.lt
    have hfin : Below W.heap.size W (W2.putObj w4.heap.size (.deferred none)) := HBF.out.trans (below_putObj (o := .deferred (some [])) _ (by omega))
    refine ⟨by simp, .inl ⟨_, _, rfl, run_takeDeferred HD.out, ?_⟩⟩
    rw [HRR.out]
    generalize W2.putObj w4.heap.size (.deferred none) = w9 at *
    exact ⟨_, by simp [results, Try.results42, go_sem, c9, l9], rfl, hfin⟩
  case panic =>
    rintro pre W2 h
    exact h.elim
theorem Waits_any (B : Nat) (A : Option Addr) (c m : Nat) (ts : List Mm) (g : Int) (W : World) (h : RM W B A m ts) (hs : SmallM ts) (hB : B ≤ W.heap.size) (z : Int) (b : Bool) (hz : (if rightM (mus ts) then max (waitsX (mus ts) g) 0 else 0) = z) (hb : (rightM (mus ts) && decide (0 ≤ waitsX (mus ts) g)) = b) :
    Calls Try.prog 25 #[.slice A m c, .int .i64 g] W fun e W' => e = .returned (.tuple #[.int .i64 z, .bool b]) ∧ Below W.heap.size W W' := by
  obtain ⟨r, hr⟩ : ∃ r, rightM (mus ts) = r := ⟨_, rfl⟩
  obtain ⟨x, hx⟩ : ∃ x, waitsX (mus ts) g = x := ⟨_, rfl⟩
  rw [hr, hx] at hz hb
  have HC := hide (check_any B A c m ts W h hs hB (errM r) (by rw [hr]))
  have HW := hide (fun w (hb : Below W.heap.size W w) => waits_any B A c m ts g w (h.below (hb.mono hB)) hs (Nat.le_trans hB hb.size) x hx)
  clear h hs hr hx
  cases r
  · have hd : ((150 : Int) != 0) = true := by decide
    obtain rfl : 0 = z := hz
    obtain rfl : false = b := hb
    go_enter Try.func25, Try.ntmps25
    go_wp2_with fail
    with_reducible refine HC.out.mono ?_
    rintro e w1 ⟨rfl, hb⟩
    have HB := hide hb
    clear hb
    dsimp only [errM]
    simp only [Bool.false_eq_true, if_false]
    go_wp2_with fail
    go_ret2
    exact ⟨rfl, HB.out⟩
  · obtain rfl : max x 0 = z := hz
    have HBB := hide (show decide (0 ≤ x) = b from by rw [← hb]; simp)
    clear hb
    go_enter Try.func25, Try.ntmps25
    go_wp2_with fail
    with_reducible refine HC.out.mono ?_
    rintro e w1 ⟨rfl, hb⟩
    have HB := hide hb
    clear hb
    simp only [errM, if_true]
    go_wp2_with fail
    with_reducible refine (HW.out _ HB.out).mono ?_
    rintro e w2 ⟨rfl, hb⟩
    have HB2 := hide (HB.out.trans (hb.mono HB.out.size))
    clear hb
    go_wp2_with fail
    go_ret2
    exact ⟨by first | rfl | (rw [← HBB.out]; rfl), HB2.out⟩
end Go.Proofs.Ytlelpnahillioaa
