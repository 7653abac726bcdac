/-
  The counter at a step: the program's.
-/
import Derived.Test.YtegnppmmcchmgaaDoorGue
set_option linter.unusedSimpArgs false
set_option linter.unusedVariables false
namespace Go.Proofs.YtegnppmmcchmgaaDoor
open Go Go.RowKit
attribute [local go_sem] via_cell via_frozen
attribute [local go_sem] Oper.semAt_some

/-- The act in which a round begins. -/
def RoundAct (ps : Array Tmp) (vs : Array Value) (slot : Nat) (v : Value) (T : Array Value) (a' : Act) : Prop := a' = { tmps := ((ps.zip vs).foldl (fun t (p, v) => t.setIfInBounds p v) T).setIfInBounds slot v, defers := [] }
def CntI (ga gn : Nat) (at_ : Int) (pre : List Int) (W : World) : Prop := RowAt W ga 3 #[.int .i64 at_] ∧ RowAt W gn 27 #[.int .u64 (pre.length : Int)] ∧ ∀ e ∈ pre, e ≤ at_
def CntX (ga gn : Nat) (at_ : Int) (c : Code) (pre : List Int) (W : World) : Prop := c = .exit 0 ∧ ∃ p e, pre = p ++ [e] ∧ at_ < e ∧ (∀ x ∈ p, x ≤ at_) ∧ RowAt W gn 27 #[.int .u64 (p.length : Int)]
theorem CntI.stays (ga gn : Nat) (at_ : Int) : Stays (CntI ga gn at_) := fun _ _ _ ⟨h1, h2, h3⟩ hl => ⟨h1.lie hl, h2.lie hl, h3⟩
theorem CntX.stays (ga gn : Nat) (at_ : Int) (c : Code) : Stays (CntX ga gn at_ c) := fun _ _ _ ⟨h0, p, e, h1, h2, h3, h4⟩ hl => ⟨h0, p, e, h1, h2, h3, h4.lie hl⟩
theorem cntE_all {l : List Int} {at_ : Int} (h : ∀ e ∈ l, e ≤ at_) : cntE l at_ = l.length := by
  unfold cntE
  induction l with
  | nil => rfl
  | cons e r ih =>
    rw [List.takeWhile_cons, if_pos (by simpa using h e (by simp)), List.length_cons, ih (fun x hx => h x (by simp [hx]))]
    rfl
theorem cntE_stop {p r : List Int} {e at_ : Int} (h : ∀ x ∈ p, x ≤ at_) (he : at_ < e) : cntE (p ++ [e] ++ r) at_ = p.length := by
  unfold cntE
  rw [List.append_assoc, List.takeWhile_append_of_pos (fun x hx => by simpa using h x hx), List.length_append]
  rw [List.cons_append, List.takeWhile_cons, if_neg (by simpa using he)]
  simp
set_option maxHeartbeats 1000000 in
theorem count_any (B : Nat) (A : Option Addr) (c m : Nat) (l : List Sec) (at_ : Int) (W : World) (h : Rd W B 2 A m (Cs encS l)) (hx : l.length = m) (hB : B ≤ W.heap.size) (hm : m ≤ 4096) (r : Int) (hr : (cntE (edg l) at_ : Int) = r) :
    Calls Tryd.prog 31 #[.slice A m c, .int .i64 at_] W fun e W' => e = .returned (.int .u64 r) ∧ Below W.heap.size W W' := by
  have HR := hide hr
  have H := hide h
  clear h hr
  refine calls_of_wp_marks Tryd.func31 rfl ?_
  simp only [Tryd.ntmps31, List.size_toArray, List.length_cons, List.length_nil, Nat.reduceAdd, Nat.reduceSub, Array.replicate_succ, Array.replicate_zero, List.push_toArray, List.append_toArray, List.nil_append, List.cons_append]
  obtain ⟨w1, hw1⟩ : ∃ w1, W.alloc (.cells #[.int .i64 at_] 3) = w1 := ⟨_, rfl⟩
  obtain ⟨w2, hw2⟩ : ∃ w2, w1.alloc (.cells #[.int .u64 0] 27) = w2 := ⟨_, rfl⟩
  have s1 : w1.heap.size = W.heap.size + 1 := by rw [← hw1]; simp
  have s2 : w2.heap.size = W.heap.size + 1 + 1 := by rw [← hw2]; simp [s1]
  have b1 : Below W.heap.size W w1 := by rw [← hw1]; exact (Below.refl _ _).alloc (Nat.le_refl _) _
  have b2 : Below w1.heap.size w1 w2 := by rw [← hw2]; exact (Below.refl _ _).alloc (Nat.le_refl _) _
  have r1 : RowAt w2 W.heap.size 3 #[.int .i64 at_] := by have h := RowAt.new W 3 #[.int .i64 at_]; rw [hw1] at h; exact h.below b2
  have r2 : RowAt w2 (W.heap.size + 1) 27 #[.int .u64 0] := by have h := RowAt.new w1 27 #[.int .u64 0]; rw [hw2, s1] at h; exact h
  have HB0 := hide (b1.trans (b2.mono b1.size))
  have R1 := hide r1
  have R2 := hide r2
  have S2 := hide s2
  clear b1 b2 r1 r2 s1 s2
  subst hw2
  subst hw1
  go_wp2_with fail
  generalize (W.alloc (.cells #[.int .i64 at_] 3)).alloc (.cells #[.int .u64 0] 27) = w2 at *
  refine (edges_any A c m w2).mono ?_
  rintro e w3 ⟨rfl, hrow, hb⟩
  have hlb := hrow.lt
  have s2 := S2.out
  have HB3 := hide (HB0.out.trans (hb.mono HB0.out.size))
  have R1 := hide (R1.out.below hb)
  have R2 := hide (R2.out.below hb)
  have hseq := edges_seq B w2.heap.size (w3.heap.size + 2) (fun j => j < B ∨ w3.heap.size + 2 ≤ j) A c m l w3 hrow (H.out.below (HB3.out.mono hB)) hx (Nat.le_trans hB HB3.out.size) hm (fun j hj => .inl hj) (fun j hj => .inr hj)
  have hs3 : W.heap.size + 1 + 1 < w3.heap.size := by omega
  rw [s2]
  rw [s2] at hseq
  clear hrow hb hlb s2
  go_wp2_with fail
  refine wp_range5 (gf := 44) (lb := #[.pointer (some ⟨W.heap.size + 1 + 1, 0, none⟩)]) rfl (enters_of Tryd.func44 (by kernel_rfl) rfl) hseq W.heap.size (by omega) (fun j hj => by have hj : j < B ∨ w3.heap.size + 2 ≤ j := hj; omega) (Below.refl _ _) (fun _ => rfl)
    (CntI W.heap.size (W.heap.size + 1) at_) (CntX W.heap.size (W.heap.size + 1) at_) (CntI.stays _ _ _) (CntX.stays _ _ _) (fun _ _ _ h hb => ⟨h.1.belowB (by omega) hb, h.2.1.belowB (by omega) hb, h.2.2⟩)
    (fun _ _ _ _ h hb => by obtain ⟨h0, p, e, h1, h2, h3, h4⟩ := h; exact ⟨h0, p, e, h1, h2, h3, h4.belowB (by omega) hb⟩) ⟨R1.out, R2.out, fun _ h => by cases h⟩
    (fun T x a' W2 => RoundAct #[9] (encE x) 6 (.int .i64 x) T a') (fun T a' => fun _ _ _ h _ => h) ?assign ?body ?done ?stop ?panic
  case assign =>
    intro l pre x W2 R hI hb hs hlen hV hR
    dsimp only [encE] at hR ⊢
    gi_wp2
    exact hR _ _ (KeepsOthers.refl _) (Below.refl _ _) (fun j hj => rfl) hI (by simp [RoundAct])
  case body =>
    rintro lo pre x a' W2 ⟨hra, hrn, hle⟩ hpa hb hs hlen hV
    have hpa : a' = _ := hpa
    subst hpa
    dsimp only [encE]
    have q0 := row1 hra
    have p0 := row1 hrn
    have ql := hra.lt
    have pl := hrn.lt
    have pf := hrn.frozen 0
    have HA := hide hra
    have HN := hide hrn
    have HLE := hide hle
    have hpl : (pre.length : Int) ≤ 8192 := by omega
    have hpl0 : (0 : Int) ≤ (pre.length : Int) := by omega
    have HLN := hide (show (((pre ++ [x]).length : Nat) : Int) = (pre.length : Int) + 1 from by simp)
    have HPR := hide (show RowAt W2 (W.heap.size + 1) 27 #[.int .u64 (pre.length : Int)] from hrn)
    clear hra hrn hle
    by_cases hlt : at_ < x
    · have HLT := hide hlt
      gi_wp2
      exact ⟨KeepsOthers.refl _, Below.refl _ _, rfl, pre, x, rfl, HLT.out, HLE.out, HPR.out⟩
    · have HALL := hide (show ∀ e ∈ pre ++ [x], e ≤ at_ from fun e he => by
        rcases List.mem_append.1 he with he | he
        · exact HLE.out e he
        · obtain rfl : e = x := by simpa using he
          omega)
      generalize (pre.length : Int) = z at *
      gi_wp2
      refine ⟨KeepsOthers.setCell _ _ _, (Below.refl _ _).setCell (p := ⟨W.heap.size + 1, 0, none⟩) (by simp) _, fun j hj => heap_setCell_ne _ _ _ _ (by have hj : j < B ∨ w3.heap.size + 2 ≤ j := hj; show j ≠ W.heap.size + 1; omega), ?_, ?_, HALL.out⟩
      · exact HA.out.setNe (by omega)
      · rw [HLN.out]
        have h := HN.out.set 0 (.int .u64 (z + 1))
        simpa using h
  case done =>
    rintro ys W2 rfl ⟨hra, hrn, hle⟩ hb hs hD
    have HRR := hide (show ((edg l).length : Int) = r from by rw [← HR.out, cntE_all hle])
    have hrn' : RowAt W2 (W.heap.size + 1) 27 #[.int .u64 r] := by rw [← HRR.out]; exact hrn
    have q0 := row1 hrn'
    have ql := hrn'.lt
    have HD := hide hD
    have HBF := hide (HB3.out.trans (hb.mono (by omega)))
    clear hra hrn hle hb hD hrn'
    unfold marked
    go_wp2_with fail
    refine ⟨by simp, .inl ⟨_, _, rfl, run_takeDeferred HD.out, ?_⟩⟩
    exact ⟨_, by simp [results, Tryd.results31, go_sem], rfl, HBF.out.trans (below_putObj (o := .deferred (some [])) _ (by have := HB3.out.size; omega))⟩
  case stop =>
    rintro c2 pre W2 ⟨rr, hr2⟩ ⟨rfl, p, e, rfl, hlt, hle, hrn⟩ hb hs hD
    have HRR := hide (show (p.length : Int) = r from by rw [← HR.out, ← hr2, cntE_stop hle hlt])
    have hrn' : RowAt W2 (W.heap.size + 1) 27 #[.int .u64 r] := by rw [← HRR.out]; exact hrn
    have q0 := row1 hrn'
    have ql := hrn'.lt
    have HD := hide hD
    have HBF := hide (HB3.out.trans (hb.mono (by omega)))
    clear hrn hle hb hD hrn' hr2
    unfold marked
    go_wp2_with fail
    refine ⟨by simp, .inl ⟨_, _, rfl, run_takeDeferred HD.out, ?_⟩⟩
    exact ⟨_, by simp [results, Tryd.results31, go_sem], rfl, HBF.out.trans (below_putObj (o := .deferred (some [])) _ (by have := HB3.out.size; omega))⟩
  case panic =>
    rintro pre W2 h
    exact h.elim
end Go.Proofs.YtegnppmmcchmgaaDoor
