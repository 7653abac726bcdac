/-
  What is safe in a monitor.
-/
import Derived.Test.YtfpbabafeecncaaMor
set_option linter.unusedSimpArgs false
set_option linter.unusedVariables false
namespace Go.Proofs.Ytfpbabafeecncaa
open Go Go.RowKit
attribute [local go_sem] via_cell via_frozen Oper.semAt_some

theorem hold_ne {m : Mon} {e : Ent} {pre r : List Int} {x : Int} (h : pre ++ [x] ++ r = holdM m e) : SafeM m e = false := by
  unfold SafeM
  rw [← h]
  simp
set_option maxRecDepth 20000 in
set_option maxHeartbeats 2000000 in
theorem Safe_no (a0 a1 a2 a3 : Option Addr) (n0 n1 n2 n3 c0 c1 c2 c3 : Nat) (ts : List Hm) (m : Mon) (s z : Int) (W : World) (h : MonX W W.heap.size a0 a1 a2 a3 n0 n1 n2 n3 ts m) (hs : SmallX n0 n1 n2 n3 ts) (ho : m.ok = false) :
    Calls Try.prog 13 #[.agg (moC a0 a1 a2 a3 n0 n1 n2 n3 c0 c1 c2 c3), .agg #[.int .i64 s, .int .u64 z]] W fun e W' => e = .returned (.bool false) ∧ Below W.heap.size W W' := by
  obtain ⟨w1, hw1⟩ : ∃ w1, W.alloc (.cells (moC a0 a1 a2 a3 n0 n1 n2 n3 c0 c1 c2 c3) 32) = w1 := ⟨_, rfl⟩
  obtain ⟨w2, hw2⟩ : ∃ w2, w1.alloc (.cells #[.int .i64 s, .int .u64 z] 43) = w2 := ⟨_, rfl⟩
  obtain ⟨w3, hw3⟩ : ∃ w3, w2.alloc (.cells #[.bool false] 4) = w3 := ⟨_, rfl⟩
  have e1 : w1.heap.size = W.heap.size + 1 := by rw [← hw1]; simp
  have e2 : w2.heap.size = W.heap.size + 1 + 1 := by rw [← hw2]; simp [e1]
  have e3 : w3.heap.size = W.heap.size + 1 + 1 + 1 := by rw [← hw3]; simp [e2]
  have b1 : Below W.heap.size W w1 := by rw [← hw1]; exact (Below.refl _ _).alloc (Nat.le_refl _) _
  have b2 : Below w1.heap.size w1 w2 := by rw [← hw2]; exact (Below.refl _ _).alloc (Nat.le_refl _) _
  have b3 : Below w2.heap.size w2 w3 := by rw [← hw3]; exact (Below.refl _ _).alloc (Nat.le_refl _) _
  have r1 : RowAt w3 W.heap.size 32 (moC a0 a1 a2 a3 n0 n1 n2 n3 c0 c1 c2 c3) := by have h := RowAt.new W 32 (moC a0 a1 a2 a3 n0 n1 n2 n3 c0 c1 c2 c3); rw [hw1] at h; exact (h.below b2).below b3
  have r2 : RowAt w3 (W.heap.size + 1) 43 #[.int .i64 s, .int .u64 z] := by have h := RowAt.new w1 43 #[.int .i64 s, .int .u64 z]; rw [hw2, e1] at h; exact h.below b3
  have r3 : RowAt w3 (W.heap.size + 1 + 1) 4 #[.bool false] := by have h := RowAt.new w2 4 #[.bool false]; rw [hw3, e2] at h; exact h
  have HB := hide ((b1.trans (b2.mono b1.size)).trans (b3.mono (by omega)))
  have R1 := hide r1
  have R2 := hide r2
  have R3 := hide r3
  have HH := hide h
  have HS := hide hs
  have S3 := hide e3
  have HC := hide (mcheckX_any w3.heap.size a0 a1 a2 a3 n0 n1 n2 n3 c0 c1 c2 c3 ts m w3 ((h.below HB.out).more HB.out.size) (Nat.le_refl _) hs 220 (by rw [ho]; rfl))
  obtain ⟨x0, x1, x2, x3⟩ := row4 r1
  have xl := r1.lt
  clear b1 b2 b3 r1 r2 r3 e1 e2 e3 h hs ho
  subst hw3
  subst hw2
  subst hw1
  go_enter Try.func13, Try.ntmps13
  go_wp2_with fail
  generalize ((W.alloc (.cells #[.slice a0 n0 c0, .slice a1 n1 c1, .slice a2 n2 c2, .slice a3 n3 c3] 32)).alloc (.cells #[.int .i64 s, .int .u64 z] 43)).alloc (.cells #[.bool false] 4) = w3 at *
  refine HC.out.mono ?_
  rintro e w4 ⟨rfl, hb⟩
  have R1 := hide (R1.out.below hb)
  have R2 := hide (R2.out.below hb)
  have R3 := hide (R3.out.below hb)
  have HB4 := hide (HB.out.trans (hb.mono HB.out.size))
  have HS4 := hide (show W.heap.size + 1 + 1 + 1 ≤ w4.heap.size from by have := S3.out; have := hb.size; omega)
  clear x0 x1 x2 x3 xl hb HC
  have y0 := row1 R3.out
  have yl := R3.out.lt
  have yf := R3.out.frozen 0
  go_wp2_with fail
  have hfin := HB4.out.setCell (p := ⟨W.heap.size + 1 + 1, 0, none⟩) (by show W.heap.size ≤ W.heap.size + 1 + 1; omega) (.bool false)
  have hr3 := R3.out.set 0 (.bool false)
  have c9 := row1 hr3
  have l9 := hr3.lt
  generalize w4.setCell ⟨W.heap.size + 1 + 1, 0, none⟩ (.bool false) = w9 at *
  refine bodyPost_ret (v := .bool false) (by simp [results, Try.results13, go_sem, c9, l9]) rfl ?_
  exact ⟨rfl, hfin⟩
set_option maxRecDepth 20000 in
set_option maxHeartbeats 2000000 in
theorem Safe_yes (a0 a1 a2 a3 : Option Addr) (n0 n1 n2 n3 c0 c1 c2 c3 : Nat) (ts : List Hm) (m : Mon) (s z : Int) (W : World) (h : MonX W W.heap.size a0 a1 a2 a3 n0 n1 n2 n3 ts m) (hs : SmallX n0 n1 n2 n3 ts) (ho : m.ok = true) (r : Bool) (hr : SafeM m (s, z) = r) :
    Calls Try.prog 13 #[.agg (moC a0 a1 a2 a3 n0 n1 n2 n3 c0 c1 c2 c3), .agg #[.int .i64 s, .int .u64 z]] W fun e W' => e = .returned (.bool r) ∧ Below W.heap.size W W' := by
  obtain ⟨w1, hw1⟩ : ∃ w1, W.alloc (.cells (moC a0 a1 a2 a3 n0 n1 n2 n3 c0 c1 c2 c3) 32) = w1 := ⟨_, rfl⟩
  obtain ⟨w2, hw2⟩ : ∃ w2, w1.alloc (.cells #[.int .i64 s, .int .u64 z] 43) = w2 := ⟨_, rfl⟩
  obtain ⟨w3, hw3⟩ : ∃ w3, w2.alloc (.cells #[.bool false] 4) = w3 := ⟨_, rfl⟩
  have e1 : w1.heap.size = W.heap.size + 1 := by rw [← hw1]; simp
  have e2 : w2.heap.size = W.heap.size + 1 + 1 := by rw [← hw2]; simp [e1]
  have e3 : w3.heap.size = W.heap.size + 1 + 1 + 1 := by rw [← hw3]; simp [e2]
  have b1 : Below W.heap.size W w1 := by rw [← hw1]; exact (Below.refl _ _).alloc (Nat.le_refl _) _
  have b2 : Below w1.heap.size w1 w2 := by rw [← hw2]; exact (Below.refl _ _).alloc (Nat.le_refl _) _
  have b3 : Below w2.heap.size w2 w3 := by rw [← hw3]; exact (Below.refl _ _).alloc (Nat.le_refl _) _
  have r1 : RowAt w3 W.heap.size 32 (moC a0 a1 a2 a3 n0 n1 n2 n3 c0 c1 c2 c3) := by have h := RowAt.new W 32 (moC a0 a1 a2 a3 n0 n1 n2 n3 c0 c1 c2 c3); rw [hw1] at h; exact (h.below b2).below b3
  have r2 : RowAt w3 (W.heap.size + 1) 43 #[.int .i64 s, .int .u64 z] := by have h := RowAt.new w1 43 #[.int .i64 s, .int .u64 z]; rw [hw2, e1] at h; exact h.below b3
  have r3 : RowAt w3 (W.heap.size + 1 + 1) 4 #[.bool false] := by have h := RowAt.new w2 4 #[.bool false]; rw [hw3, e2] at h; exact h
  have HB := hide ((b1.trans (b2.mono b1.size)).trans (b3.mono (by omega)))
  have R1 := hide r1
  have R2 := hide r2
  have R3 := hide r3
  have HH := hide h
  have HS := hide hs
  have HR := hide hr
  have S3 := hide e3
  have H8 := hide (show holdM m (s, z) = holdersGo (s, z) 0 (rowsQ ts) from by unfold holdM; rw [h.hs])
  have HBO := hide ho
  have HC := hide (mcheckX_any w3.heap.size a0 a1 a2 a3 n0 n1 n2 n3 c0 c1 c2 c3 ts m w3 ((h.below HB.out).more HB.out.size) (Nat.le_refl _) hs 0 (by rw [ho]; rfl))
  obtain ⟨x0, x1, x2, x3⟩ := row4 r1
  have xl := r1.lt
  clear b1 b2 b3 r1 r2 r3 e1 e2 e3 h hs ho hr
  subst hw3
  subst hw2
  subst hw1
  refine calls_of_wp_marks Try.func13 rfl ?_
  simp only [Try.ntmps13, List.size_toArray, List.length_cons, List.length_nil, Nat.reduceAdd, Nat.reduceSub, Array.replicate_succ, Array.replicate_zero, List.push_toArray, List.append_toArray, List.nil_append, List.cons_append]
  go_wp2_with fail
  generalize ((W.alloc (.cells #[.slice a0 n0 c0, .slice a1 n1 c1, .slice a2 n2 c2, .slice a3 n3 c3] 32)).alloc (.cells #[.int .i64 s, .int .u64 z] 43)).alloc (.cells #[.bool false] 4) = w3 at *
  refine HC.out.mono ?_
  rintro e w4 ⟨rfl, hb⟩
  have R1 := hide (R1.out.below hb)
  have R2 := hide (R2.out.below hb)
  have R3 := hide (R3.out.below hb)
  have HB4 := hide (HB.out.trans (hb.mono HB.out.size))
  have HS4 := hide (show W.heap.size + 1 + 1 + 1 ≤ w4.heap.size from by have := S3.out; have := hb.size; omega)
  clear x0 x1 x2 x3 xl hb HC
  have y0 := row1 R3.out
  have yl := R3.out.lt
  have yf := R3.out.frozen 0
  obtain ⟨x0, x1, x2, x3⟩ := row4 R1.out
  have xl := R1.out.lt
  have z0 := row20 R2.out
  have z1 := row21 R2.out
  have zl := R2.out.lt
  go_wp2_with fail
  refine (holders_any a0 a1 a2 a3 n0 n1 n2 n3 c0 c1 c2 c3 s z w4).mono ?_
  rintro e w5 ⟨rfl, hra, hre, hb⟩
  have R1 := hide (R1.out.below hb)
  have R2 := hide (R2.out.below hb)
  have R3 := hide (R3.out.below hb)
  have HB5 := hide (HB4.out.trans (hb.mono HB4.out.size))
  have hs4 := HS4.out
  have hs5 := hb.size
  have hla := hra.lt
  have hle := hre.lt
  have hrm : RH w5 W.heap.size a2 n2 ts := HH.out.has.below HB5.out
  have hseq := holders_seq (fun j => j ≠ W.heap.size + 1 + 1 ∧ j < w5.heap.size) w4.heap.size (w4.heap.size + 1) a0 a1 a2 a3 n0 n1 n2 n3 c0 c1 c2 c3 ts s z w5 hra hre ⟨by omega, hle⟩ (fun j hj => hj.2) (hrm.more HB5.out.size) (fun p hp hpos => by
    obtain ⟨b, off, e, hb1, _⟩ := hrm.rd.2 hpos
    have : p.block = b := by rw [hp] at e; injection e with e; rw [e]
    exact ⟨by omega, by omega⟩) (fun t ht p hp hpos => by
    obtain ⟨b, off, e, hb1, _⟩ := (hrm.qs t ht).2 hpos
    have : p.block = b := by rw [hp] at e; injection e with e; rw [e]
    exact ⟨by omega, by omega⟩) HS.out.rows HS.out.s2
  have R3r := R3.out
  clear hb x0 x1 x2 x3 xl y0 yl yf z0 z1 zl hra hre hrm
  go_wp2_with fail
  refine wp_range (gf := 62) (lb := #[.pointer (some ⟨w4.heap.size, 0, none⟩), .pointer (some ⟨w4.heap.size + 1, 0, none⟩)]) rfl (enters_of Try.func62 (by kernel_rfl) rfl) hseq (W.heap.size + 1 + 1) (by omega) (fun j hj => hj.2) (Below.refl _ _) (fun _ => rfl)
    (fun pre W1 => pre = [] ∧ RowAt W1 (W.heap.size + 1 + 1) 4 #[.bool false]) (fun c pre W1 => c = .ret ∧ (∃ p x, pre = p ++ [x]) ∧ RowAt W1 (W.heap.size + 1 + 1) 4 #[.bool false]) (fun _ _ _ h hl => ⟨h.1, h.2.lie hl⟩) (fun _ _ _ _ h hl => ⟨h.1, h.2.1, h.2.2.lie hl⟩) ⟨rfl, R3r⟩
    (fun T x a' W => a' = { tmps := T.setIfInBounds 13 (.int .i64 x), defers := [] }) (fun T a' _ _ _ h _ => h) ?assign ?body ?done ?stop ?panic
  case assign =>
    intro l pre x W R hI hb hs hlen hR
    dsimp only [encGo] at hR ⊢
    gi_wp2
    exact hR _ _ (KeepsOthers.of_below (Below.refl _ _)) (Below.refl _ _) (fun _ _ => rfl) hI (by simp [encGo])
  case body =>
    rintro l pre x a' W ⟨rfl, hrow⟩ rfl hb hs hlen
    simp only [List.setIfInBounds_toArray, List.set_cons_succ, List.set_cons_zero]
    have y0 := row1 hrow
    have yl := hrow.lt
    have yf := hrow.frozen 0
    have HN := hide (hrow.set 0 (.bool false))
    clear hrow
    gi_wp2
    refine ⟨KeepsOthers.setCell _ _ _, (Below.refl _ _).setCell (by simp) _, rfl, ⟨[], x, rfl⟩, HN.out⟩
  case done =>
    rintro ys W1 rfl ⟨hys, hrow⟩ hb hs hD
    have R1 := hide (R1.out.belowB (by omega) hb)
    have R2 := hide (R2.out.belowB (by omega) hb)
    have HM := hide (HH.out.sl.below (HB5.out.trans (hb.mono (by omega))))
    have HBF := hide (HB5.out.trans (hb.mono (show W.heap.size ≤ W.heap.size + 1 + 1 by omega)))
    have HL0 := hide HH.out.l0
    have HT := hide (tagM_any a0 c0 n0 s z m W1 (HM.out.more HBF.out.size) HL0.out HS.out.s0)
    obtain ⟨x0, x1, x2, x3⟩ := row4 R1.out
    have xl := R1.out.lt
    have y0 := row20 R2.out
    have y1 := row21 R2.out
    have yl := R2.out.lt
    have HD := hide hD
    have HRW := hide hrow
    have HS1 := hide hs
    obtain ⟨bm, hbm⟩ : ∃ b, metB m (s, z) = b := ⟨_, rfl⟩
    obtain ⟨tg, htg⟩ : ∃ b, tagM m (s, z) = b := ⟨_, rfl⟩
    rw [hbm, htg] at HT
    have HF := hide (show (bm && decide (tg ≠ 0)) = r from by rw [← HR.out]; unfold SafeM; rw [hbm, htg, HBO.out, decide_eq_true (show holdM m (s, z) = [] from by rw [H8.out, ← hys])]; simp)
    clear hb hD hrow hs hys hbm htg
    unfold marked
    go_wp2_with fail
    with_reducible refine HT.out.mono ?_
    rintro e w8 ⟨rfl, hb⟩
    have HD := hide ((hb.block _ HS1.out).trans HD.out)
    have HRW := hide (HRW.out.below hb)
    have HBF := hide (HBF.out.trans (hb.mono HBF.out.size))
    clear hb x0 x1 x2 x3 xl y0 y1 yl
    have z0 := row1 HRW.out
    have zl := HRW.out.lt
    have zf := HRW.out.frozen 0
    cases bm with
    | false =>
      go_wp2_with fail
      have hD9 : (w8.setCell ⟨W.heap.size + 1 + 1, 0, none⟩ (.bool false)).heap[w5.heap.size]? = some (.deferred (some [])) := (heap_setCell_ne _ _ _ _ (by show w5.heap.size ≠ W.heap.size + 1 + 1; omega)).trans HD.out
      have hr9 : RowAt ((w8.setCell ⟨W.heap.size + 1 + 1, 0, none⟩ (.bool false)).putObj w5.heap.size (.deferred none)) (W.heap.size + 1 + 1) 4 #[.bool false] := RowAt.lie (HRW.out.set 0 _) (CellsLie.putObj _ hD9 rfl)
      have c9 := row1 hr9
      have l9 := hr9.lt
      refine ⟨by simp, .inl ⟨_, _, rfl, run_takeDeferred hD9, ?_⟩⟩
      have hfin : Below W.heap.size W ((w8.setCell ⟨W.heap.size + 1 + 1, 0, none⟩ (.bool false)).putObj w5.heap.size (.deferred none)) := (HBF.out.setCell (p := ⟨W.heap.size + 1 + 1, 0, none⟩) (by show W.heap.size ≤ W.heap.size + 1 + 1; omega) _).trans (below_putObj (o := .deferred (some [])) _ (by omega))
      generalize (w8.setCell ⟨W.heap.size + 1 + 1, 0, none⟩ (.bool false)).putObj w5.heap.size (.deferred none) = w9 at *
      have hf := HF.out
      simp only [Bool.false_and] at hf
      subst hf
      exact ⟨.bool false, by simp [results, Try.results13, go_sem, c9, l9], rfl, hfin⟩
    | true =>
      obtain ⟨bt, hbt⟩ : ∃ b, (tg != 0) = b := ⟨_, rfl⟩
      have HF := hide (show bt = r from by rw [← HF.out, ← hbt]; simp [bne, BEq.beq])
      go_wp2_with fail
      have hD9 : (w8.setCell ⟨W.heap.size + 1 + 1, 0, none⟩ (.bool bt)).heap[w5.heap.size]? = some (.deferred (some [])) := (heap_setCell_ne _ _ _ _ (by show w5.heap.size ≠ W.heap.size + 1 + 1; omega)).trans HD.out
      have hr9 : RowAt ((w8.setCell ⟨W.heap.size + 1 + 1, 0, none⟩ (.bool bt)).putObj w5.heap.size (.deferred none)) (W.heap.size + 1 + 1) 4 #[.bool bt] := RowAt.lie (HRW.out.set 0 _) (CellsLie.putObj _ hD9 rfl)
      have c9 := row1 hr9
      have l9 := hr9.lt
      refine ⟨by simp, .inl ⟨_, _, rfl, run_takeDeferred hD9, ?_⟩⟩
      have hfin : Below W.heap.size W ((w8.setCell ⟨W.heap.size + 1 + 1, 0, none⟩ (.bool bt)).putObj w5.heap.size (.deferred none)) := (HBF.out.setCell (p := ⟨W.heap.size + 1 + 1, 0, none⟩) (by show W.heap.size ≤ W.heap.size + 1 + 1; omega) _).trans (below_putObj (o := .deferred (some [])) _ (by omega))
      generalize (w8.setCell ⟨W.heap.size + 1 + 1, 0, none⟩ (.bool bt)).putObj w5.heap.size (.deferred none) = w9 at *
      rw [← HF.out]
      exact ⟨.bool bt, by simp [results, Try.results13, go_sem, c9, l9], rfl, hfin⟩
  case stop =>
    rintro c pre W1 ⟨q, hq⟩ ⟨rfl, ⟨p, x, rfl⟩, hrow⟩ hb hs hD
    have HF := hide (show false = r from by rw [← HR.out]; exact (hold_ne (by rw [H8.out]; exact hq)).symm)
    have HE9 := hide hrow
    have HD := hide hD
    have HBF := hide (HB5.out.trans (hb.mono (show W.heap.size ≤ W.heap.size + 1 + 1 by omega)))
    clear hb hD hrow hq
    unfold marked
    go_wp2_with fail
    have hr9 : RowAt (W1.putObj w5.heap.size (.deferred none)) (W.heap.size + 1 + 1) 4 #[.bool false] := RowAt.lie HE9.out (CellsLie.putObj _ HD.out rfl)
    have c9 := row1 hr9
    have l9 := hr9.lt
    have hfin : Below W.heap.size W (W1.putObj w5.heap.size (.deferred none)) := HBF.out.trans (below_putObj (o := .deferred (some [])) _ (by omega))
    refine ⟨by simp, .inl ⟨_, _, rfl, run_takeDeferred HD.out, ?_⟩⟩
    generalize W1.putObj w5.heap.size (.deferred none) = w9 at *
    rw [← HF.out]
    exact ⟨.bool false, by simp [results, Try.results13, go_sem, c9, l9], rfl, hfin⟩
  case panic =>
    rintro pre W h
    exact h.elim
theorem Safe_any (a0 a1 a2 a3 : Option Addr) (n0 n1 n2 n3 c0 c1 c2 c3 : Nat) (ts : List Hm) (m : Mon) (s z : Int) (W : World) (h : MonX W W.heap.size a0 a1 a2 a3 n0 n1 n2 n3 ts m) (hs : SmallX n0 n1 n2 n3 ts) (r : Bool) (hr : SafeM m (s, z) = r) :
    Calls Try.prog 13 #[.agg (moC a0 a1 a2 a3 n0 n1 n2 n3 c0 c1 c2 c3), .agg #[.int .i64 s, .int .u64 z]] W fun e W' => e = .returned (.bool r) ∧ Below W.heap.size W W' := by
  cases ho : m.ok with
  | true => exact Safe_yes a0 a1 a2 a3 n0 n1 n2 n3 c0 c1 c2 c3 ts m s z W h hs ho r hr
  | false =>
    have : false = r := by rw [← hr]; unfold SafeM; rw [ho]; rfl
    subst this
    exact Safe_no a0 a1 a2 a3 n0 n1 n2 n3 c0 c1 c2 c3 ts m s z W h hs ho
end Go.Proofs.Ytfpbabafeecncaa
