/-
  Which limbos may be: the program's check.
-/
import Derived.Test.YthnpcmigphpolaaDoorLir
import Derived.RangeFuncCalls
set_option linter.unusedSimpArgs false
set_option linter.unusedVariables false
namespace Go.Proofs.YthnpcmigphpolaaDoor
open Go Go.RowKit
attribute [local go_sem] via_cell via_frozen
attribute [local go_sem] Oper.semAt_some

/-- Which slabs have been met. -/
def metC (m : List Int) : Array Value := ((List.range 128).map (fun (s : Nat) => Value.bool (decide ((s : Int) ∈ m)))).toArray
theorem metC_at (m : List Int) {s : Nat} (h : s < 128) : (metC m)[s]? = some (.bool (decide ((s : Int) ∈ m))) := by
  unfold metC
  rw [List.getElem?_toArray, List.getElem?_map, List.getElem?_range h]
  rfl
theorem metC_size (m : List Int) : (metC m).size = 128 := by simp [metC]
theorem metC_set (m : List Int) {s : Nat} (h : s < 128) : (metC m).setIfInBounds s (.bool true) = metC ((s : Int) :: m) := by
  apply Array.ext_getElem?
  intro i
  rw [Array.getElem?_setIfInBounds]
  by_cases hi : i < 128
  · rw [metC_at _ hi]
    by_cases hs : s = i
    · subst hs
      rw [if_pos rfl, if_pos (by rw [metC_size]; exact h)]
      rw [metC_at _ h]
      simp
    · rw [if_neg hs, metC_at _ hi]
      have : ((i : Int) ∈ (s : Int) :: m) ↔ ((i : Int) ∈ m) := by
        rw [List.mem_cons]
        constructor
        · rintro (h | h)
          · omega
          · exact h
        · exact .inr
      simp only [this]
  · rw [Array.getElem?_eq_none (by rw [metC_size]; omega), if_neg (by omega), Array.getElem?_eq_none (by rw [metC_size]; omega)]
@[local go_sem] theorem zero_arr (w : World) : (zeroValue 64).run Tryd.prog w = .ok (.agg (metC [])) w := by kernel_rfl
/-- A call inside a round. -/
theorem in_round {f : FuncId} {args : Array Value} {w : World} {R : Ending → World → Prop} (n lo : Nat) (h : Calls Tryd.prog f args w R) : CallsIn (Fence.wide.inRound lo) n Tryd.prog f args w R := CallsIn.inRound lo (callsIn_wide.2 h)
/-- While the check goes on: nothing is wrong as yet. -/
structure CkI (g : Nat) (L : Array Value) (E : Nat) (pre : List (Nat × Ent)) (W : World) : Prop where
  ok : okP E pre [] = true
  lim : RowAt W g 26 L
  err : RowAt W (g + 1) 30 #[.int .i64 0]
  met : RowAt W (g + 1 + 1) 64 (metC (metOf pre))
structure CkX (g : Nat) (E : Nat) (c : Code) (pre : List (Nat × Ent)) (W : World) : Prop where
  code : c = .ret
  no : okP E pre [] = false
  err : RowAt W (g + 1) 30 #[.int .i64 240]
theorem CkI.stays (g : Nat) (L : Array Value) (E : Nat) : Stays (CkI g L E) := fun _ _ _ h hl => ⟨h.ok, h.lim.lie hl, h.err.lie hl, h.met.lie hl⟩
theorem CkX.stays (g E : Nat) (c : Code) : Stays (CkX g E c) := fun _ _ _ h hl => ⟨h.code, h.no, h.err.lie hl⟩
theorem CkI.later {g E : Nat} {L : Array Value} {n : Nat} {pre : List (Nat × Ent)} {A B : World} (h : CkI g L E pre A) (hb : Below n A B) (hn : g + 1 + 1 < n) : CkI g L E pre B := ⟨h.ok, h.lim.belowB (by omega) hb, h.err.belowB (by omega) hb, h.met.belowB hn hb⟩
/-- The act in which a round begins: the two that are told; the box of the entry. -/
def CkA (base : Nat) (T : Array Value) (x : Nat × Ent) (a' : Act) (W : World) : Prop :=
  ∃ gb, a' = { tmps := (((#[11, 12].zip (encP x)).foldl (fun t (p, v) => t.setIfInBounds p v) T).setIfInBounds 4 (.int .u64 (x.1 : Int))).setIfInBounds 5 (.pointer (some ⟨gb, 0, none⟩)), defers := [] } ∧ RowAt W gb 34 #[.int .i64 x.2.1, .int .u64 x.2.2] ∧ base ≤ gb
theorem okP_cat {E : Nat} {pre r : List (Nat × Ent)} (h : okP E pre [] = false) : okP E (pre ++ r) [] = false := by
  rw [okP_append, h]; rfl
theorem ent_gen {l : Lim} {p : Nat × Ent} (hg : ∀ k, k < 3 → ∀ e ∈ l.r k, 0 ≤ e.2 ∧ e.2 < 18446744073709551616) (h : p ∈ l.each) : 0 ≤ p.2.2 ∧ p.2.2 < 18446744073709551616 := by
  obtain ⟨a, _, _, hm⟩ := mem_each h
  exact hg _ (rowN_lt l.E a) _ hm
theorem each_len (l : Lim) (n : Nat → Nat) (h : ∀ k, k < 3 → (l.r k).length = n k) (hm : ∀ k, k < 3 → n k ≤ 4096) : l.each.length ≤ 12288 := by
  unfold Lim.each
  rw [List.length_append, List.length_append, tag_len, tag_len, tag_len]
  have h0 : ∀ a, (l.at a).length ≤ 4096 := fun a => by unfold Lim.at; rw [h _ (rowN_lt l.E a)]; exact hm _ (rowN_lt l.E a)
  have := h0 0; have := h0 1; have := h0 2
  omega
set_option maxHeartbeats 4000000 in
theorem check_any (B : Nat) (A : Nat → Option Addr) (n c : Nat → Nat) (l : Lim) (W : World) (h : LimRd W B A n l.r) (hE : l.E < 18446744073709551616) (hB : B ≤ W.heap.size) (hm : ∀ k, k < 3 → n k ≤ 4096)
    (hg : ∀ k, k < 3 → ∀ e ∈ l.r k, 0 ≤ e.2 ∧ e.2 < 18446744073709551616) (r : Int) (hr : (if l.ok then 0 else 240) = r) :
    Calls Tryd.prog 11 #[.agg (limC l.E A n c)] W fun e W' => e = .returned (.int .i64 r) ∧ Below W.heap.size W W' := by
  have HR := hide hr
  have H := hide h
  have HG := hide hg
  have HM := hide hm
  clear h hr hg hm
  by_cases hLast : l.E ≤ LAST
  case neg =>
    have hd : decide ((4611686018427387904 : Int) < (l.E : Int)) = true := by unfold LAST at hLast; simp; omega
    have hd2 : ((4611686018427387904 : Int) < (l.E : Int)) := by simpa using hd
    have HRR := hide (show r = 240 from by rw [← HR.out, if_neg (fun h => hLast (ok_out h).1)])
    have HBN := hide (((Below.refl W.heap.size W).alloc (Nat.le_refl _) (.cells (limC l.E A n c) 26)).alloc (by simp) (.cells #[.int .i64 240] 30))
    clear hLast
    go_enter Tryd.func11, Tryd.ntmps11
    go_wp2_with fail
    have hr9 : RowAt ((W.alloc (.cells (limC l.E A n c) 26)).alloc (.cells #[.int .i64 240] 30)) (W.heap.size + 1) 30 #[.int .i64 240] := by
      have h := RowAt.new (W.alloc (.cells (limC l.E A n c) 26)) 30 #[.int .i64 240]
      simpa using h
    have c9 := row1 hr9
    have l9 := hr9.lt
    rw [HRR.out]
    have hfin := HBN.out
    generalize (W.alloc (.cells (limC l.E A n c) 26)).alloc (.cells #[.int .i64 240] 30) = w9 at *
    exact bodyPost_ret (by simp [results, Tryd.results11, go_sem, c9, l9]) rfl ⟨rfl, hfin⟩
  refine calls_of_wp_marks Tryd.func11 rfl ?_
  simp only [Tryd.ntmps11, List.size_toArray, List.length_cons, List.length_nil, Nat.reduceAdd, Nat.reduceSub, Array.replicate_succ, Array.replicate_zero, List.push_toArray, List.append_toArray, List.nil_append, List.cons_append]
  obtain ⟨w1, hw1⟩ : ∃ w1, W.alloc (.cells (limC l.E A n c) 26) = w1 := ⟨_, rfl⟩
  obtain ⟨w2, hw2⟩ : ∃ w2, w1.alloc (.cells #[.int .i64 0] 30) = w2 := ⟨_, rfl⟩
  obtain ⟨w3, hw3⟩ : ∃ w3, w2.alloc (.cells (metC []) 64) = w3 := ⟨_, rfl⟩
  have s1 : w1.heap.size = W.heap.size + 1 := by rw [← hw1]; simp
  have s2 : w2.heap.size = W.heap.size + 1 + 1 := by rw [← hw2]; simp [s1]
  have b1 : Below W.heap.size W w1 := by rw [← hw1]; exact (Below.refl _ _).alloc (Nat.le_refl _) _
  have b2 : Below w1.heap.size w1 w2 := by rw [← hw2]; exact (Below.refl _ _).alloc (Nat.le_refl _) _
  have b3 : Below w2.heap.size w2 w3 := by rw [← hw3]; exact (Below.refl _ _).alloc (Nat.le_refl _) _
  have r1 : RowAt w2 W.heap.size 26 (limC l.E A n c) := by have h := RowAt.new W 26 (limC l.E A n c); rw [hw1] at h; exact h.below b2
  have r2 : RowAt w2 (W.heap.size + 1) 30 #[.int .i64 0] := by have h := RowAt.new w1 30 #[.int .i64 0]; rw [hw2, s1] at h; exact h
  have r3 : RowAt w3 (W.heap.size + 1 + 1) 64 (metC []) := by have h := RowAt.new w2 64 (metC []); rw [hw3, s2] at h; exact h
  have HB2 := hide (b1.trans (b2.mono b1.size))
  have HI3 := hide (show CkI W.heap.size (limC l.E A n c) l.E [] w3 from ⟨rfl, r1.below b3, r2.below b3, r3⟩)
  have HB3 := hide ((b1.trans (b2.mono b1.size)).trans (b3.mono (by omega)))
  have R2 := hide r2
  have S3 := hide (show w3.heap.size = W.heap.size + 1 + 1 + 1 from by rw [← hw3]; simp [s2])
  clear b1 b2 b3 r1 r2 r3 s1 s2
  subst hw3
  subst hw2
  subst hw1
  · have hd : decide ((4611686018427387904 : Int) < (l.E : Int)) = false := by unfold LAST at hLast; simp; omega
    have hd2 : ¬ ((4611686018427387904 : Int) < (l.E : Int)) := by simpa using hd
    have HL := hide hLast
    clear hLast hE
    go_wp2_with fail
    generalize ((W.alloc (.cells (limC l.E A n c) 26)).alloc (.cells #[.int .i64 0] 30)).alloc (.cells (metC []) 64) = w3 at *
    refine (each_any l.E A n c w3).mono ?_
    rintro e w4 ⟨rfl, hrow, hb⟩
    have hlb := hrow.lt
    have s3 := S3.out
    have HB4 := hide (HB3.out.trans (hb.mono HB3.out.size))
    have HI4 := hide (HI3.out.later hb (by omega))
    have hseq := each_seq B w3.heap.size (w4.heap.size + 2) (fun j => j < B ∨ j = w4.heap.size + 2) A n c l w4 hrow (H.out.below (HB4.out.mono hB)) HL.out (Nat.le_trans hB HB4.out.size) HM.out (fun j hj => .inl hj) (.inr rfl)
    have hs4 : W.heap.size + 1 + 1 + 1 < w4.heap.size := by omega
    have HLEN := hide (each_len l n H.out.len HM.out)
    rw [s3]
    rw [s3] at hseq
    clear hrow hb hlb s3 HI3 HB3 HB2 R2
    go_wp2_with fail
    refine wp_range6 (gf := 48) (lb := #[.pointer (some ⟨W.heap.size + 1 + 1 + 1, 0, none⟩)]) rfl (enters_of Tryd.func48 (by kernel_rfl) rfl) hseq W.heap.size (by omega) (fun j hj => by have hj : j < B ∨ j = w4.heap.size + 2 := hj; omega) (Below.refl _ _) (fun _ => rfl)
      (CkI W.heap.size (limC l.E A n c) l.E) (CkX W.heap.size l.E) (CkI.stays _ _ _) (CkX.stays _ _) (fun _ _ _ h hb => h.later hb h.met.lt) (fun _ _ _ _ h hb => ⟨h.code, h.no, h.err.below hb⟩) HI4.out
      (CkA (W.heap.size + 1 + 1 + 1)) (fun T a' x => fun _ _ h hl => by obtain ⟨gb, h1, h2, h3⟩ := h; exact ⟨gb, h1, h2.lie hl, h3⟩) ?assign ?body ?done ?stop ?panic
    case assign =>
      intro lo pre x W2 R hI hb hs hlen hV hn2 hR
      dsimp only [encP] at hR ⊢
      have HBN := hide (show Below W2.heap.size W2 (W2.alloc (.cells #[.int .i64 x.2.1, .int .u64 x.2.2] 34)) from (Below.refl _ _).alloc (Nat.le_refl _) _)
      have HRN := hide (RowAt.new W2 34 #[.int .i64 x.2.1, .int .u64 x.2.2])
      gi_wp2
      refine hR _ _ (KeepsOthers.alloc _ _) (HBN.out.mono (by omega)) (fun j _ hj => HBN.out.block j hj) (hI.later HBN.out (by omega)) ⟨W2.heap.size, by simp [encP], HRN.out, by omega⟩
    case body =>
      rintro lo pre x a' W2 hI ⟨gb, hpa, hbox, hgb⟩ hb hs hlen hV hn2
      subst hpa
      obtain ⟨ago, s, gen⟩ := x
      dsimp only [encP] at hbox ⊢
      have hgen := ent_gen HG.out hV
      dsimp only at hgen
      have q0 : W2.cell? ⟨W.heap.size, 0, none⟩ = some (.int .u64 (l.E : Int)) := by have := hI.lim.cell 0; simpa [limC] using this
      have ql := hI.lim.lt
      have e0 := row20 hbox
      have e1 := row21 hbox
      have el := hbox.lt
      have xl := hI.err.lt
      have x0 := row1 hI.err
      have xf := hI.err.frozen 0
      have HIh := hide hI
      have HBX := hide hbox
      have HSN := hide (okP_snoc l.E pre (ago, (s, gen)))
      dsimp only at HSN
      have HOK := hide hI.ok
      clear hbox hI hV
      have HEP : Hid (∀ w9, Below W2.heap.size W2 w9 → okP l.E (pre ++ [(ago, (s, gen))]) [] = false → KeepsOthers W2 (w9.setCell ⟨W.heap.size + 1, 0, none⟩ (.int .i64 240)) ∧ Below W.heap.size W2 (w9.setCell ⟨W.heap.size + 1, 0, none⟩ (.int .i64 240)) ∧ CkX W.heap.size l.E .ret (pre ++ [(ago, (s, gen))]) (w9.setCell ⟨W.heap.size + 1, 0, none⟩ (.int .i64 240))) := hide (fun w9 hb9 hno =>
        ⟨(KeepsOthers.of_below hb9).trans (KeepsOthers.setCell _ _ _), (hb9.mono (by omega)).setCell (p := ⟨W.heap.size + 1, 0, none⟩) (by simp) _, rfl, hno, by
          have h := (HIh.out.err.below hb9).set 0 (.int .i64 240)
          simpa using h⟩)
      by_cases c1 : ago ≤ l.E
      · have d1 : ¬ ((l.E : Int) < (ago : Int)) := by omega
        have d1b : decide ((l.E : Int) < (ago : Int)) = false := by simpa using d1
        obtain ⟨q, hq⟩ : ∃ q, entB (s, gen) = q := ⟨_, rfl⟩
        have HQ := hide hq
        have HEC := hide (entry_any s gen hgen W2 q hq)
        clear hq
        cases q
        · have HNO := hide (show okP l.E (pre ++ [(ago, (s, gen))]) [] = false from by rw [HSN.out, HQ.out]; simp)
          gi_wp2_with (refine wpListIn_skip rfl rfl ?_)
          refine ⟨trivial, (in_round _ _ HEC.out).mono ?_⟩
          rintro e w5 ⟨rfl, hb5⟩
          have HB5 := hide hb5
          have xl5 := (HIh.out.err.below hb5).lt
          have x05 := row1 (HIh.out.err.below hb5)
          have xf5 := (HIh.out.err.below hb5).frozen 0
          clear hb5
          gi_wp2_with (refine wpListIn_skip rfl rfl ?_)
          exact HEP.out _ HB5.out HNO.out
        · obtain ⟨hs0, hs1, _⟩ := entB_out HQ.out
          dsimp only at hs0 hs1
          gi_wp2_with (refine wpListIn_skip rfl rfl ?_)
          refine ⟨trivial, (in_round _ _ HEC.out).mono ?_⟩
          rintro e w5 ⟨rfl, hb5⟩
          have HB5 := hide hb5
          have HI5 := hide (show CkI W.heap.size (limC l.E A n c) l.E pre w5 from ⟨HOK.out, HIh.out.lim.below hb5, HIh.out.err.below hb5, HIh.out.met.below hb5⟩)
          have xl5 := HI5.out.err.lt
          have x05 := row1 HI5.out.err
          have xf5 := HI5.out.err.frozen 0
          have ml5 := HI5.out.met.lt
          have f0 := kept hb5 e0
          have fl := (HBX.out.below hb5).lt
          obtain ⟨sn, rfl⟩ : ∃ sn : Nat, s = (sn : Int) := ⟨s.toNat, by omega⟩
          have hsn : sn < 128 := by omega
          have m0 := (HI5.out.met.cell sn).trans (metC_at (metOf pre) hsn)
          have mf := HI5.out.met.frozen sn
          have HMD := hide (show decide ((sn : Int) ∈ metOf pre) = (metOf pre).contains (sn : Int) from by rw [List.contains_eq_mem])
          obtain ⟨q3, hq3⟩ : ∃ q3, decide ((sn : Int) ∈ metOf pre) = q3 := ⟨_, rfl⟩
          rw [hq3] at m0
          have HQ3 := hide hq3
          clear hb5 hq3
          cases q3
          · have HYES := hide (show okP l.E (pre ++ [(ago, ((sn : Int), gen))]) [] = true from by rw [HSN.out, HQ.out, HOK.out, ← HMD.out, HQ3.out]; simp [c1])
            gi_wp2_with (refine wpListIn_skip rfl rfl ?_)
            refine ⟨(KeepsOthers.of_below HB5.out).trans (KeepsOthers.setCell _ _ _), (HB5.out.mono (by omega)).setCell (p := ⟨W.heap.size + 1 + 1, sn, none⟩) (by simp; omega) _, fun j hj hl => ?_, HYES.out, HI5.out.lim.setNe (by omega), HI5.out.err.setNe (by omega), ?_⟩
            · rw [heap_setCell_ne _ _ _ _ (by have hj : j < B ∨ j = w4.heap.size + 2 := hj; show j ≠ W.heap.size + 1 + 1; omega)]
              exact HB5.out.block j hl
            · have h := HI5.out.met.set sn (.bool true)
              rw [metC_set _ hsn] at h
              have hm2 : metOf (pre ++ [(ago, ((sn : Int), gen))]) = (sn : Int) :: metOf pre := by simp [metOf]
              rw [hm2]
              exact h
          · have HNO := hide (show okP l.E (pre ++ [(ago, ((sn : Int), gen))]) [] = false from by rw [HSN.out, ← HMD.out, HQ3.out]; simp)
            gi_wp2_with (refine wpListIn_skip rfl rfl ?_)
            exact HEP.out _ HB5.out HNO.out
      · have d1 : (l.E : Int) < (ago : Int) := by omega
        have d1b : decide ((l.E : Int) < (ago : Int)) = true := by simpa using d1
        have HNO := hide (show okP l.E (pre ++ [(ago, (s, gen))]) [] = false from by rw [HSN.out]; simp [c1])
        gi_wp2_with (refine wpListIn_skip rfl rfl ?_)
        refine ⟨trivial, ?_⟩
        gi_wp2_with (refine wpListIn_skip rfl rfl ?_)
        exact HEP.out _ (Below.refl _ _) HNO.out
    case done =>
      rintro ys W2 rfl hI hb hs hD
      have HRR := hide (show r = 0 from by rw [← HR.out, if_pos (ok_mk HL.out hI.ok)])
      have q0 := row1 hI.err
      have ql := hI.err.lt
      have qf := hI.err.frozen 0
      have HD := hide hD
      have HBF := hide (HB4.out.trans (hb.mono (by omega)))
      have hRZ := (hI.err.set 0 (.int .i64 0))
      clear hb hD hI
      unfold marked
      go_wp2_with fail
      have hD9 : (W2.setCell ⟨W.heap.size + 1, 0, none⟩ (.int .i64 0)).heap[w4.heap.size]? = some (.deferred (some [])) := (heap_setCell_ne _ _ _ _ (by show w4.heap.size ≠ W.heap.size + 1; omega)).trans HD.out
      have hr9 : RowAt ((W2.setCell ⟨W.heap.size + 1, 0, none⟩ (.int .i64 0)).putObj w4.heap.size (.deferred none)) (W.heap.size + 1) 30 #[.int .i64 0] := RowAt.lie hRZ (CellsLie.putObj _ hD9 rfl)
      have c9 := row1 hr9
      have l9 := hr9.lt
      refine ⟨by simp, .inl ⟨_, _, rfl, run_takeDeferred hD9, ?_⟩⟩
      rw [HRR.out]
      have hfin : Below W.heap.size W ((W2.setCell ⟨W.heap.size + 1, 0, none⟩ (.int .i64 0)).putObj w4.heap.size (.deferred none)) := (HBF.out.trans ((Below.refl _ _).setCell (p := ⟨W.heap.size + 1, 0, none⟩) (by simp) _)).trans (below_putObj (o := .deferred (some [])) _ (by omega))
      generalize (W2.setCell ⟨W.heap.size + 1, 0, none⟩ (.int .i64 0)).putObj w4.heap.size (.deferred none) = w9 at *
      exact ⟨_, by simp [results, Tryd.results11, go_sem, c9, l9], rfl, hfin⟩
    case stop =>
      rintro c2 pre W2 ⟨rr, hr2⟩ ⟨rfl, hno, herr⟩ hb hs hD
      have HRR := hide (show r = 240 from by
        rw [← HR.out, if_neg (fun h => ?_)]
        have h2 := (ok_out h).2
        rw [← hr2, okP_cat hno] at h2
        cases h2)
      have HE9 := hide herr
      have HD := hide hD
      have HBF := hide (HB4.out.trans (hb.mono (by omega)))
      clear hb hD herr hno hr2
      unfold marked
      go_wp2_with fail
      have hr9 : RowAt (W2.putObj w4.heap.size (.deferred none)) (W.heap.size + 1) 30 #[.int .i64 240] := RowAt.lie HE9.out (CellsLie.putObj _ HD.out rfl)
      have c9 := row1 hr9
      have l9 := hr9.lt
      have hfin : Below W.heap.size W (W2.putObj w4.heap.size (.deferred none)) := HBF.out.trans (below_putObj (o := .deferred (some [])) _ (by omega))
      refine ⟨by simp, .inl ⟨_, _, rfl, run_takeDeferred HD.out, ?_⟩⟩
      rw [HRR.out]
      generalize W2.putObj w4.heap.size (.deferred none) = w9 at *
      exact ⟨_, by simp [results, Tryd.results11, go_sem, c9, l9], rfl, hfin⟩
    case panic =>
      rintro pre W2 h
      exact h.elim
end Go.Proofs.YthnpcmigphpolaaDoor
