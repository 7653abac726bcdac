/-
  Whether mutexes may be; for which one a goroutine waits.
-/
import Derived.Test.YtlelpnahillioaaMuc
import Derived.BigRegionIn
import Derived.Shelf.RegionOpen
set_option linter.unusedSimpArgs false
set_option linter.unusedVariables false
namespace Go.Proofs.Ytlelpnahillioaa
open Go Go.RowKit
attribute [local go_sem] via_cell via_frozen
attribute [local go_sem] Oper.semAt_some

def valI (x : Int) : Value := .int .i64 x
def vals (l : List Int) : Array Value := (l.map valI).toArray
theorem vals_at {l : List Int} {k : Nat} {x : Int} (h : l[k]? = some x) : (vals l)[k]? = some (.int .i64 x) := by
  unfold vals
  rw [List.getElem?_toArray, List.getElem?_map, h]; rfl
theorem vals_set (l : List Int) (k : Nat) (x : Int) : (vals l).setIfInBounds k (.int .i64 x) = vals (l.set k x) := by
  unfold vals
  rw [List.setIfInBounds_toArray]
  congr 1
  rw [List.map_set]; rfl
/-- How often each of eight has been met (once at most). -/
def seenL (p : List Int) : List Int := (List.range 8).map (fun (g : Nat) => if p.contains (g : Int) then 1 else 0)
theorem seenL_at (p : List Int) {k : Nat} (hk : k < 8) : (seenL p)[k]? = some (if p.contains (k : Int) then 1 else 0) := by
  simp [seenL, hk]
theorem seenL_set (p : List Int) {k : Nat} (hk : k < 8) : (seenL p).set k 1 = seenL (p ++ [(k : Int)]) := by
  apply List.ext_getElem?
  intro j
  rw [List.getElem?_set]
  by_cases hj : k = j
  · subst hj
    rw [if_pos rfl, if_pos (by simp [seenL]; exact hk), seenL_at _ hk]
    simp
  · rw [if_neg hj]
    by_cases hj8 : j < 8
    · rw [seenL_at _ hj8, seenL_at _ hj8]
      have : (p ++ [(k : Int)]).contains (j : Int) = p.contains (j : Int) := by
        rw [Bool.eq_iff_iff]; simp; omega
      rw [this]
    · simp [seenL, hj8]
def errM (b : Bool) : Int := if b then 0 else 150
/-- While those who wait are counted. -/
structure CkI (g ga : Nat) (pre : List Wt) (W : World) : Prop where
  ok : (pre.map (·.2)).Nodup
  err : RowAt W g 30 #[.int .i64 0]
  met : RowAt W ga 73 (vals (seenL (pre.map (·.2))))
structure CkX (g : Nat) (c : Code) (pre : List Wt) (W : World) : Prop where
  code : c = .ret
  no : ¬ (pre.map (·.2)).Nodup
  err : RowAt W g 30 #[.int .i64 150]
theorem CkI.stays (g ga : Nat) : Stays (CkI g ga) := fun _ _ _ h hl => ⟨h.ok, h.err.lie hl, h.met.lie hl⟩
theorem CkX.stays (g : Nat) (c : Code) : Stays (CkX g c) := fun _ _ _ h hl => ⟨h.code, h.no, h.err.lie hl⟩
theorem CkI.later {g ga : Nat} {pre : List Wt} {A B : World} (h : CkI g ga pre A) (hb : Below A.heap.size A B) : CkI g ga pre B := ⟨h.ok, h.err.below hb, h.met.below hb⟩
theorem wtX_goers {l : Ml} (h : l.all muB = true) {x : Wt} (hx : x ∈ wtX l) : 0 ≤ x.2 ∧ x.2 < 8 := by
  have h1 : x.2 ∈ flatQ l := by rw [← wtGo_snd l 0]; exact List.mem_map_of_mem hx
  obtain ⟨m, hm, h2⟩ := mem_flatQ.1 h1
  exact (muB_iff.1 (List.all_eq_true.1 h m hm)).goers _ h2
theorem wtX_nodup {l : Ml} : ((wtX l).map (·.2)).Nodup ↔ (flatQ l).Nodup := by rw [show (wtX l).map (·.2) = flatQ l from wtGo_snd l 0]
set_option maxHeartbeats 4000000 in
theorem check_any (B : Nat) (A : Option Addr) (c m : Nat) (ts : List Mm) (W : World) (h : RM W B A m ts) (hs : SmallM ts) (hB : B ≤ W.heap.size) (z : Int) (hz : errM (rightM (mus ts)) = z) :
    Calls Try.prog 22 #[.slice A m c] W fun e W' => e = .returned (.int .i64 z) ∧ Below W.heap.size W W' := by
  have HZ := hide hz
  have H := hide h
  have HS := hide hs
  have HL := hide (show (mus ts).length = m by rw [mus_len, h.len])
  clear h hz hs
  have HB1 := hide (show Below W.heap.size W (W.alloc (.cells #[.int .i64 0] 30)) from (Below.refl _ _).alloc (Nat.le_refl _) _)
  have HR1 := hide (RowAt.new W 30 #[.int .i64 0])
  have HBE := hide (show Below W.heap.size W (W.alloc (.cells #[.int .i64 150] 30)) from (Below.refl _ _).alloc (Nat.le_refl _) _)
  have HRE := hide (RowAt.new W 30 #[.int .i64 150])
  by_cases c1 : m < 1
  · have hd : decide ((m : Int) < 1) = true := by simp; omega
    have HF := hide (show z = 150 from by
      rw [← HZ.out]; unfold rightM
      have : decide (1 ≤ (mus ts).length) = false := by rw [HL.out]; simp; omega
      rw [this]; rfl)
    clear c1
    go_enter Try.func22, Try.ntmps22
    go_wp2_with fail
    have hr9 := HRE.out
    have c9 := row1 hr9
    have l9 := hr9.lt
    have hfin := HBE.out
    rw [HF.out]
    generalize (W.alloc (.cells #[.int .i64 150] 30)) = w9 at *
    exact bodyPost_ret (by simp [results, Try.results22, go_sem, c9, l9]) rfl ⟨rfl, hfin⟩
  have hd : decide ((m : Int) < 1) = false := by simp; omega
  by_cases c2 : 160 < m
  · have hd2 : decide ((160 : Int) < (m : Int)) = true := by simp; omega
    have HF := hide (show z = 150 from by
      rw [← HZ.out]; unfold rightM
      have : decide ((mus ts).length ≤ 160) = false := by rw [HL.out]; simp; omega
      rw [this]; simp [errM])
    clear c1 c2
    go_enter Try.func22, Try.ntmps22
    go_wp2_with fail
    have hr9 := HRE.out
    have c9 := row1 hr9
    have l9 := hr9.lt
    have hfin := HBE.out
    rw [HF.out]
    generalize (W.alloc (.cells #[.int .i64 150] 30)) = w9 at *
    exact bodyPost_ret (by simp [results, Try.results22, go_sem, c9, l9]) rfl ⟨rfl, hfin⟩
  have hd2 : decide ((160 : Int) < (m : Int)) = false := by simp; omega
  obtain ⟨qa, hqa⟩ : ∃ x, (mus ts).all muB = x := ⟨_, rfl⟩
  have HQA := hide hqa
  have HRT := hide (show rightM (mus ts) = (qa && decide ((flatQ (mus ts)).Nodup)) from by
    unfold rightM
    have e1 : decide (1 ≤ (mus ts).length) = true := by rw [HL.out]; simp; omega
    have e2 : decide ((mus ts).length ≤ 160) = true := by rw [HL.out]; simp; omega
    rw [e1, e2, hqa]; simp)
  have HCA := hide (allM_any B A c m ts _ (H.out.below (HB1.out.mono hB)) HS.out (Nat.le_trans hB HB1.out.size) qa hqa)
  clear c1 c2 hqa
  cases qa
  · have HF := hide (show z = 150 from by rw [← HZ.out, HRT.out]; rfl)
    go_enter Try.func22, Try.ntmps22
    go_wp2_with fail
    with_reducible refine HCA.out.mono ?_
    rintro e w2 ⟨rfl, hb⟩
    have HB2 := hide (HB1.out.trans (hb.mono HB1.out.size))
    have HR2 := hide (HR1.out.below hb)
    have f2 := HR2.out.frozen 0
    have c2 := row1 HR2.out
    have l2 := HR2.out.lt
    clear hb
    go_wp2_with fail
    have hr9 : RowAt (w2.setCell ⟨W.heap.size, 0, none⟩ (.int .i64 150)) W.heap.size 30 #[.int .i64 150] := HR2.out.set 0 (.int .i64 150)
    have c9 := row1 hr9
    have l9 := hr9.lt
    have hfin : Below W.heap.size W (w2.setCell ⟨W.heap.size, 0, none⟩ (.int .i64 150)) := HB2.out.setCell (p := ⟨W.heap.size, 0, none⟩) (Nat.le_refl _) _
    rw [HF.out]
    generalize (w2.setCell ⟨W.heap.size, 0, none⟩ (.int .i64 150)) = w9 at *
    exact bodyPost_ret (by simp [results, Try.results22, go_sem, c9, l9]) rfl ⟨rfl, hfin⟩
  rw [Bool.true_and] at HRT
  refine calls_of_wp_marks Try.func22 rfl ?_
  simp only [Try.ntmps22, List.size_toArray, List.length_cons, List.length_nil, Nat.reduceAdd, Nat.reduceSub, Array.replicate_succ, Array.replicate_zero, List.push_toArray, List.append_toArray, List.nil_append, List.cons_append]
  go_wp2_with fail
  with_reducible refine HCA.out.mono ?_
  rintro e w2 ⟨rfl, hb⟩
  have HB2 := hide (HB1.out.trans (hb.mono HB1.out.size))
  have HR2 := hide (HR1.out.below hb)
  clear hb HCA HB1 HR1 HBE HRE
  go_wp2_with fail
  obtain ⟨ga, hga⟩ : ∃ ga, w2.heap.size = ga := ⟨_, rfl⟩
  have hbA : Below w2.heap.size w2 (w2.alloc (.cells (vals (seenL [])) 73)) := (Below.refl _ _).alloc (Nat.le_refl _) _
  have HI3 := hide (show CkI W.heap.size ga [] (w2.alloc (.cells (vals (seenL [])) 73)) from ⟨by simp, HR2.out.below hbA, by rw [← hga]; exact RowAt.new w2 73 _⟩)
  have HB3 := hide (HB2.out.trans (hbA.mono HB2.out.size))
  have HGA : Hid (W.heap.size < ga) := hide (by rw [← hga]; exact HR2.out.lt)
  have HSA : Hid ((w2.alloc (.cells (vals (seenL [])) 73)).heap.size = ga + 1) := hide (by rw [World.size_alloc, hga])
  have hval : vals (seenL []) = #[.int .i64 0, .int .i64 0, .int .i64 0, .int .i64 0, .int .i64 0, .int .i64 0, .int .i64 0, .int .i64 0] := rfl
  rw [hval] at HI3 HB3 HSA
  rw [hga]
  clear hga hbA hval
  generalize (w2.alloc (.cells #[.int .i64 0, .int .i64 0, .int .i64 0, .int .i64 0, .int .i64 0, .int .i64 0, .int .i64 0, .int .i64 0] 73)) = w3 at *
  refine (waiting_any A m c w3).mono ?_
  rintro e w4 ⟨rfl, hrow, hb⟩
  have hlb := hrow.lt
  have HB4 := hide (HB3.out.trans (hb.mono HB3.out.size))
  have HI4 := hide (HI3.out.later hb)
  have hseq := waiting_seq B w3.heap.size (w4.heap.size + 2) A m c ts w4 hrow (H.out.below (HB4.out.mono hB)) (Nat.le_trans hB HB4.out.size) HS.out
  have hs3 := HSA.out
  have hg := HGA.out
  have hs4 : W.heap.size + 1 < w4.heap.size := by omega
  have hga4 : ga < w4.heap.size := by omega
  clear hrow hb hlb hs3 HI3 HB3 HB2 HR2 HSA
  go_wp2_with fail
  refine wp_range6 (gf := 57) (lb := #[.pointer (some ⟨w3.heap.size, 0, none⟩)]) rfl (enters_of Try.func57 (by kernel_rfl) rfl) hseq W.heap.size (by omega) (fun j hj => by have hj : j < B := hj; omega) (Below.refl _ _) (fun _ => rfl)
    (CkI W.heap.size ga) (CkX W.heap.size) (CkI.stays _ _) (CkX.stays _) (fun _ _ _ h hb => h.later hb) (fun _ _ _ _ h hb => ⟨h.code, h.no, h.err.below hb⟩) HI4.out
    (fun T x a' _ => a' = { tmps := ((#[23, 24].zip (encW x)).foldl (fun t (p, v) => t.setIfInBounds p v) T).setIfInBounds 6 (.int .i64 x.2), defers := [] }) (fun T a' x => fun _ _ h hl => h) ?assign ?body ?done ?stop ?panic
  case assign =>
    intro lo pre x W2 R hI hb hs hlen hV hn2 hR
    dsimp only [encW] at hR ⊢
    gi_wp2
    exact hR _ _ (KeepsOthers.refl _) (Below.refl _ _) (fun j _ hj => rfl) hI (by simp [encW])
  case body =>
    rintro lo pre x a' W2 hI rfl hb hs hlen hV hn2
    obtain ⟨wh, g⟩ := x
    obtain ⟨hg0, hg8⟩ := wtX_goers HQA.out hV
    dsimp only [encW] at hg0 hg8 ⊢
    obtain ⟨k, rfl⟩ := Int.eq_ofNat_of_zero_le hg0
    have hk8 : k < 8 := by omega
    have HIh := hide hI
    have m0 := (hI.met.cell k).trans (vals_at (seenL_at (pre.map (·.2)) hk8))
    have mf := hI.met.frozen k
    have ml := hI.met.lt
    have el := hI.err.lt
    have ef := hI.err.frozen 0
    have e0 := row1 hI.err
    have HMP := hide (show (pre ++ [(wh, (k : Int))]).map (·.2) = pre.map (·.2) ++ [(k : Int)] by simp)
    obtain ⟨q, hq⟩ : ∃ q, (pre.map (·.2)).contains (k : Int) = q := ⟨_, rfl⟩
    have HQ := hide hq
    rw [hq] at m0
    have hne : ¬ W.heap.size = ga := by omega
    have hne' : ¬ ga = W.heap.size := by omega
    clear hI hq hV
    cases q
    · have HN := hide (show CkI W.heap.size ga (pre ++ [(wh, (k : Int))]) (W2.setCell ⟨ga, k, none⟩ (.int .i64 1)) from ⟨by
          rw [HMP.out, List.nodup_append]
          refine ⟨HIh.out.ok, by simp, fun a ha b hb e => ?_⟩
          rw [List.mem_singleton] at hb
          subst hb; subst e
          have := HQ.out
          simp at this ha
          obtain ⟨y, hy⟩ := ha
          exact this _ hy, HIh.out.err.setNe (by omega), by
          have h := HIh.out.met.set k (.int .i64 1)
          rw [vals_set, seenL_set _ hk8, ← HMP.out] at h
          exact h⟩)
      gi_wp2
      refine ⟨KeepsOthers.setCell _ _ _, (Below.refl _ _).setCell (p := ⟨ga, k, none⟩) (by simp; omega) _, fun j hj hl => heap_setCell_ne _ _ _ _ (by have hj : j < B := hj; show j ≠ ga; omega), HN.out⟩
    · have HN := hide (show CkX W.heap.size .ret (pre ++ [(wh, (k : Int))]) ((W2.setCell ⟨ga, k, none⟩ (.int .i64 2)).setCell ⟨W.heap.size, 0, none⟩ (.int .i64 150)) from ⟨rfl, by
          rw [HMP.out, List.nodup_append]
          intro hn
          have := HQ.out
          exact hn.2.2 (k : Int) (by simpa using this) (k : Int) (by simp) rfl, by
          have h := (HIh.out.err.setNe (g2 := ga) (o := k) (v := .int .i64 2) (by omega)).set 0 (.int .i64 150)
          exact h⟩)
      gi_wp2
      refine ⟨(KeepsOthers.setCell _ _ _).trans (KeepsOthers.setCell _ _ _), ((Below.refl _ _).setCell (p := ⟨ga, k, none⟩) (by simp; omega) _).setCell (p := ⟨W.heap.size, 0, none⟩) (Nat.le_refl _) _, HN.out⟩
  case done =>
    rintro ys W2 rfl hI hb hs hD
    have HRR := hide (show z = 0 from by rw [← HZ.out, HRT.out, decide_eq_true (wtX_nodup.1 hI.ok)]; rfl)
    have q0 := row1 hI.err
    have ql := hI.err.lt
    have qf := hI.err.frozen 0
    have HD := hide hD
    have HBF := hide (HB4.out.trans (hb.mono (Nat.le_refl _)))
    have hRZ := (hI.err.set 0 (.int .i64 0))
    clear hb hD hI
    unfold marked
    go_wp2_with fail
    have hD9 : (W2.setCell ⟨W.heap.size, 0, none⟩ (.int .i64 0)).heap[w4.heap.size]? = some (.deferred (some [])) := (heap_setCell_ne _ _ _ _ (by show w4.heap.size ≠ W.heap.size; omega)).trans HD.out
    have hr9 : RowAt ((W2.setCell ⟨W.heap.size, 0, none⟩ (.int .i64 0)).putObj w4.heap.size (.deferred none)) W.heap.size 30 #[.int .i64 0] := RowAt.lie hRZ (CellsLie.putObj _ hD9 rfl)
    have c9 := row1 hr9
    have l9 := hr9.lt
    refine ⟨by simp, .inl ⟨_, _, rfl, run_takeDeferred hD9, ?_⟩⟩
    rw [HRR.out]
    have hfin : Below W.heap.size W ((W2.setCell ⟨W.heap.size, 0, none⟩ (.int .i64 0)).putObj w4.heap.size (.deferred none)) := (HBF.out.trans ((Below.refl _ _).setCell (p := ⟨W.heap.size, 0, none⟩) (Nat.le_refl _) _)).trans (below_putObj (o := .deferred (some [])) _ (by omega))
    generalize (W2.setCell ⟨W.heap.size, 0, none⟩ (.int .i64 0)).putObj w4.heap.size (.deferred none) = w9 at *
    exact ⟨_, by simp [results, Try.results22, go_sem, c9, l9], rfl, hfin⟩
  case stop =>
    rintro c2 pre W2 ⟨rr, hr2⟩ ⟨rfl, hno, herr⟩ hb hs hD
    have HRR := hide (show z = 150 from by
      rw [← HZ.out, HRT.out, decide_eq_false (fun hn => ?_)]; rfl
      rw [← wtX_nodup, ← hr2, List.map_append] at hn
      exact hno (List.nodup_append.1 hn).1)
    have HE9 := hide herr
    have HD := hide hD
    have HBF := hide (HB4.out.trans (hb.mono (Nat.le_refl _)))
    clear hb hD herr hno hr2
    unfold marked
    go_wp2_with fail
    have hr9 : RowAt (W2.putObj w4.heap.size (.deferred none)) W.heap.size 30 #[.int .i64 150] := RowAt.lie HE9.out (CellsLie.putObj _ HD.out rfl)
    have c9 := row1 hr9
    have l9 := hr9.lt
    have hfin : Below W.heap.size W (W2.putObj w4.heap.size (.deferred none)) := HBF.out.trans (below_putObj (o := .deferred (some [])) _ (by omega))
    refine ⟨by simp, .inl ⟨_, _, rfl, run_takeDeferred HD.out, ?_⟩⟩
    rw [HRR.out]
    generalize W2.putObj w4.heap.size (.deferred none) = w9 at *
    exact ⟨_, by simp [results, Try.results22, go_sem, c9, l9], rfl, hfin⟩
  case panic =>
    rintro pre W2 h
    exact h.elim
end Go.Proofs.Ytlelpnahillioaa
