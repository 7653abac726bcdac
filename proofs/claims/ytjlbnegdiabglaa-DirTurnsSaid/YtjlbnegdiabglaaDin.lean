/-
  The reach of an entry, over the hand.
-/
import Derived.Test.YtjlbnegdiabglaaDim
set_option linter.unusedSimpArgs false
set_option linter.unusedVariables false
namespace Go.Proofs.Ytjlbnegdiabglaa
open Go Go.RowKit
attribute [local go_sem] via_cell via_frozen
attribute [local go_sem] Oper.semAt_some

def RcA (ps : Array Tmp) (slot n0 : Nat) (T : Array Value) (x : Rc) (a' : Act) (W : World) : Prop :=
  ∃ gb, a' = { tmps := ((ps.zip (encRv x)).foldl (fun t (p, v) => t.setIfInBounds p v) T).setIfInBounds slot (.pointer (some ⟨gb, 0, none⟩)), defers := [] } ∧ RowAt W gb 33 (rC x) ∧ n0 < gb
theorem RcA.stays (ps : Array Tmp) (slot n0 : Nat) (T : Array Value) (a' : Act) : Stays (fun x W => RcA ps slot n0 T x a' W) := fun _ _ _ h hl => by obtain ⟨gb, h1, h2, h3⟩ := h; exact ⟨gb, h1, h2.lie hl, h3⟩
abbrev zR : Array Value := #[.int .i64 0, .int .u64 0, .int .i64 0, .int .u64 0, .int .i64 0, .int .i64 0]
/-- A reach stored whole. -/
def setR (w : World) (g : Nat) (x : Rc) : World := (((((w.setCell ⟨g, 0, none⟩ (.int .i64 x.e.1)).setCell ⟨g, 1, none⟩ (.int .u64 x.e.2)).setCell ⟨g, 2, none⟩ (.int .i64 x.dep)).setCell ⟨g, 3, none⟩ (.int .u64 x.pre)).setCell ⟨g, 4, none⟩ (.int .i64 x.at_)).setCell ⟨g, 5, none⟩ (.int .i64 x.many)
theorem setR_row {w : World} {g : Nat} {y : Rc} (x : Rc) (h : RowAt w g 33 (rC y)) : RowAt (setR w g x) g 33 (rC x) := (((((h.set 0 _).set 1 _).set 2 _).set 3 _).set 4 _).set 5 _
theorem setR_keeps (w : World) (g : Nat) (x : Rc) : KeepsOthers w (setR w g x) :=
  (((((KeepsOthers.setCell _ _ _).trans (KeepsOthers.setCell _ _ _)).trans (KeepsOthers.setCell _ _ _)).trans (KeepsOthers.setCell _ _ _)).trans (KeepsOthers.setCell _ _ _)).trans (KeepsOthers.setCell _ _ _)
theorem setR_below (w : World) (g n : Nat) (x : Rc) (h : n ≤ g) : Below n w (setR w g x) :=
  ((((((Below.refl n w).setCell (p := ⟨g, 0, none⟩) h _).setCell (p := ⟨g, 1, none⟩) h _).setCell (p := ⟨g, 2, none⟩) h _).setCell (p := ⟨g, 3, none⟩) h _).setCell (p := ⟨g, 4, none⟩) h _).setCell (p := ⟨g, 5, none⟩) h _
theorem setR_heap (w : World) (g : Nat) (x : Rc) (j : Nat) (h : j ≠ g) : (setR w g x).heap[j]? = w.heap[j]? := by
  unfold setR
  rw [heap_setCell_ne _ _ _ _ h, heap_setCell_ne _ _ _ _ h, heap_setCell_ne _ _ _ _ h, heap_setCell_ne _ _ _ _ h, heap_setCell_ne _ _ _ _ h, heap_setCell_ne _ _ _ _ h]
theorem setR_size (w : World) (g : Nat) (x : Rc) : (setR w g x).heap.size = w.heap.size := by unfold setR; simp
/-- While one is looked for. -/
structure SpI (en : En) (ge gr : Nat) (pre : List Rc) (W : World) : Prop where
  no : ∀ x ∈ pre, x.e ≠ en
  box : RowAt W ge 31 #[.int .i64 en.1, .int .u64 en.2]
  res : RowAt W gr 33 zR
structure SpX (en : En) (gr : Nat) (c : Code) (pre : List Rc) (W : World) : Prop where
  code : c = .ret
  found : ∃ pre0 x, pre = pre0 ++ [x] ∧ x.e = en ∧ (∀ y ∈ pre0, y.e ≠ en) ∧ RowAt W gr 33 (rC x)
theorem SpI.stays (en : En) (ge gr : Nat) : Stays (SpI en ge gr) := fun _ _ _ h hl => ⟨h.no, h.box.lie hl, h.res.lie hl⟩
theorem SpX.stays (en : En) (gr : Nat) (c : Code) : Stays (SpX en gr c) := fun _ _ _ h hl => ⟨h.code, by obtain ⟨p, x, h1, h2, h3, h4⟩ := h.found; exact ⟨p, x, h1, h2, h3, h4.lie hl⟩⟩
theorem SpI.later {en : En} {ge gr : Nat} {pre : List Rc} {A B : World} (h : SpI en ge gr pre A) (hb : Below A.heap.size A B) : SpI en ge gr pre B := ⟨h.no, h.box.below hb, h.res.below hb⟩
theorem SpX.later {en : En} {gr : Nat} {c : Code} {pre : List Rc} {A B : World} (h : SpX en gr c pre A) (hb : Below A.heap.size A B) : SpX en gr c pre B := ⟨h.code, by obtain ⟨p, x, h1, h2, h3, h4⟩ := h.found; exact ⟨p, x, h1, h2, h3, h4.below hb⟩⟩
def SpanO (W : World) : Option Rc → Ending → World → Prop
  | some x, e, W' => e = .returned (vR x) ∧ Below W.heap.size W W'
  | none, e, W' => e = .panicked (errX 4) ∧ Below W.heap.size W W'
theorem find_all {xs : List Rc} {en : En} (h : ∀ x ∈ xs, x.e ≠ en) : xs.find? (fun x => decide (x.e = en)) = none := by
  rw [List.find?_eq_none]
  intro x hx
  simpa using h x hx
theorem find_stop {pre r : List Rc} {x : Rc} {en : En} (h : ∀ y ∈ pre, y.e ≠ en) (hx : x.e = en) : ((pre ++ [x]) ++ r).find? (fun x => decide (x.e = en)) = some x := by
  rw [List.append_assoc, List.find?_append, find_all h]
  simp [hx]
set_option maxHeartbeats 4000000 in
theorem span_any (B gh : Nat) (dep : Int) (A : Option Addr) (c : Nat) (es : List En) (en : En) (W : World) (hh : RowAt W gh 71 #[.int .i64 dep, .slice A es.length c]) (hr : DirAt W B A c es) (hB : B ≤ W.heap.size) (hl : es.length ≤ 32) (hd0 : 0 ≤ dep) (hd5 : dep ≤ 5)
    (o : Option Rc) (ho : ((runs es).map (rc dep)).find? (fun x => decide (x.e = en)) = o) :
    Calls Try.prog 67 #[.pointer (some ⟨gh, 0, none⟩), .agg #[.int .i64 en.1, .int .u64 en.2]] W (SpanO W o) := by
  have HO := hide ho
  have HD := hide hr
  clear ho hr
  obtain ⟨w1, hw1⟩ : ∃ w1, W.alloc (.cells #[.int .i64 en.1, .int .u64 en.2] 31) = w1 := ⟨_, rfl⟩
  obtain ⟨w3, hw3⟩ : ∃ w3, w1.alloc (.cells zR 33) = w3 := ⟨_, rfl⟩
  have s1 : w1.heap.size = W.heap.size + 1 := by rw [← hw1]; simp
  have b1 : Below W.heap.size W w1 := by rw [← hw1]; exact (Below.refl _ _).alloc (Nat.le_refl _) _
  have b3 : Below w1.heap.size w1 w3 := by rw [← hw3]; exact (Below.refl _ _).alloc (Nat.le_refl _) _
  have r1 : RowAt w3 W.heap.size 31 #[.int .i64 en.1, .int .u64 en.2] := by have h := RowAt.new W 31 #[.int .i64 en.1, .int .u64 en.2]; rw [hw1] at h; exact h.below b3
  have r2 : RowAt w3 (W.heap.size + 1) 33 zR := by have h := RowAt.new w1 33 zR; rw [hw3, s1] at h; exact h
  have HB3 := hide (b1.trans (b3.mono b1.size))
  have HI3 := hide (show SpI en W.heap.size (W.heap.size + 1) [] w3 from ⟨by simp, r1, r2⟩)
  have S3 : Hid (w3.heap.size = W.heap.size + 1 + 1) := hide (by rw [← hw3]; simp [s1])
  have HG := hide hh.lt
  have HH := hide hh
  clear b1 b3 r1 r2 s1 hh
  subst hw3
  subst hw1
  refine calls_of_wp_marks Try.func67 rfl ?_
  simp only [Try.ntmps67, List.size_toArray, List.length_cons, List.length_nil, Nat.reduceAdd, Nat.reduceSub, Array.replicate_succ, Array.replicate_zero, List.push_toArray, List.append_toArray, List.nil_append, List.cons_append]
  go_upto_region 1 with (fail)
  generalize (W.alloc (.cells #[.int .i64 en.1, .int .u64 en.2] 31)).alloc (.cells zR 33) = w3 at *
  go_wp2_with fail
  refine (spans_any gh w3).mono ?_
  rintro e w4 ⟨rfl, hrow, hb⟩
  have hlb := hrow.lt
  have HB4 := hide (HB3.out.trans (hb.mono HB3.out.size))
  have HI4 := hide (HI3.out.later hb)
  have HH4 := hide (HH.out.below HB4.out)
  have HD4 := hide (HD.out.below (HB4.out.mono hB))
  have s3 := S3.out
  have hseq := spans_seq B w3.heap.size gh (w4.heap.size + 2) dep A c es w4 ⟨hrow, HH4.out, HD4.out.rd⟩ (Nat.le_trans hB HB4.out.size) hl hd0 hd5 HD.out.cap HD.out.max
  have hs4 : W.heap.size + 1 + 1 < w4.heap.size := by omega
  have hgh := HG.out
  rw [s3] at hseq ⊢
  clear hrow hb hlb s3 HI3 HB3 S3 HH4 HD4
  go_wp2_with fail
  refine wp_range6 (gf := 59) (lb := #[.pointer (some ⟨W.heap.size + 1 + 1, 0, none⟩)]) rfl (enters_of Try.func59 (by kernel_rfl) rfl) hseq W.heap.size (by omega) (fun j hj => by have hj : (j < B ∨ j = W.heap.size + 1 + 1 ∨ j = gh) ∨ w4.heap.size + 2 ≤ j := hj; omega) (Below.refl _ _) (fun _ => rfl)
    (SpI en W.heap.size (W.heap.size + 1)) (SpX en (W.heap.size + 1)) (SpI.stays _ _ _) (SpX.stays _ _) (fun _ _ _ h hb => h.later hb) (fun _ _ _ _ h hb => h.later hb) HI4.out
    (RcA #[8] 5 (W.heap.size + 1 + 1)) (fun T a' => RcA.stays _ _ _ T a') ?assign ?body ?done ?stop ?panic
  case assign =>
    intro lo pre x W2 R hI hb hs hlen hV hn2 hR
    dsimp only [encRv, rC] at hR ⊢
    have HBN := hide (show Below W2.heap.size W2 (W2.alloc (.cells (rC x) 33)) from (Below.refl _ _).alloc (Nat.le_refl _) _)
    have HRN := hide (RowAt.new W2 33 (rC x))
    gi_wp2
    refine hR _ _ (KeepsOthers.alloc _ _) (HBN.out.mono (by omega)) (fun j _ hj => HBN.out.block j hj) (hI.later HBN.out) ⟨W2.heap.size, by simp [encRv], HRN.out, by omega⟩
  case body =>
    rintro lo pre x a' W2 hI ⟨gb, hpa, hbox, hgb⟩ hb hs hlen hV hn2
    subst hpa
    have HIh := hide hI
    have HBX := hide hbox
    obtain ⟨e, D, P, a, m⟩ := x
    dsimp only [encRv, rC] at hbox ⊢
    have q0 := row20 hI.box
    have q1 := row21 hI.box
    have ql := hI.box.lt
    have e0 := hbox.cell 0
    have e1 := hbox.cell 1
    have e2 := hbox.cell 2
    have e3 := hbox.cell 3
    have e4 := hbox.cell 4
    have e5 := hbox.cell 5
    have el := hbox.lt
    have xl := hI.res.lt
    have x0 := hI.res.cell 0
    have x1 := hI.res.cell 1
    have x2 := hI.res.cell 2
    have x3 := hI.res.cell 3
    have x4 := hI.res.cell 4
    have x5 := hI.res.cell 5
    have xf : ∀ i, W2.frozen? ⟨W.heap.size + 1, i, none⟩ = false := fun i => hI.res.frozen i
    obtain ⟨r, hr⟩ : ∃ r, decide (e = en) = r := ⟨_, rfl⟩
    have heq := fun w => eqlE w e en r hr
    have HRR := hide hr
    clear hI hbox hb hV hr
    cases r
    · have HN := hide (show SpI en W.heap.size (W.heap.size + 1) (pre ++ [(⟨e, D, P, a, m⟩ : Rc)]) W2 from ⟨fun x hx => by
        rcases List.mem_append.1 hx with hx | hx
        · exact HIh.out.no x hx
        · rw [List.mem_singleton] at hx; subst hx; exact of_decide_eq_false HRR.out, HIh.out.box, HIh.out.res⟩)
      gi_wp2
      exact ⟨KeepsOthers.refl _, Below.refl _ _, fun j hj hl => rfl, HN.out⟩
    · have HX := hide (show SpX en (W.heap.size + 1) .ret (pre ++ [(⟨e, D, P, a, m⟩ : Rc)]) (setR W2 (W.heap.size + 1) ⟨e, D, P, a, m⟩) from ⟨rfl, pre, _, rfl, of_decide_eq_true HRR.out, HIh.out.no, setR_row (y := ⟨(0, 0), 0, 0, 0, 0⟩) _ HIh.out.res⟩)
      gi_wp2
      exact ⟨setR_keeps W2 _ ⟨e, D, P, a, m⟩, setR_below W2 (W.heap.size + 1) W.heap.size ⟨e, D, P, a, m⟩ (by omega), HX.out⟩
  case done =>
    rintro ys W2 rfl hI hb hs hD
    obtain rfl : none = o := by rw [← HO.out]; exact (find_all hI.no).symm
    have HD9 := hide hD
    have HBF := hide (HB4.out.trans (hb.mono (Nat.le_refl _)))
    clear hb hD hI
    unfold marked
    go_wp2_with fail
    refine (need_no 4 _).mono ?_
    rintro e w5 ⟨rfl, rfl⟩
    dsimp only
    have hfin : Below W.heap.size W (W2.putObj w4.heap.size (.deferred none)) := HBF.out.trans (below_putObj (o := .deferred (some [])) _ (by omega))
    refine ⟨by simp, .inl ⟨_, _, rfl, run_takeDeferred HD9.out, ?_⟩⟩
    exact ⟨rfl, hfin⟩
  case stop =>
    rintro c2 pre W2 ⟨rr, hr2⟩ ⟨rfl, pre0, x, rfl, hxe, hno, hres⟩ hb hs hD
    obtain rfl : some x = o := by rw [← HO.out, ← hr2]; exact (find_stop hno hxe).symm
    have HE9 := hide hres
    have HD9 := hide hD
    have HBF := hide (HB4.out.trans (hb.mono (Nat.le_refl _)))
    clear hb hD hres hno hr2
    unfold marked
    go_wp2_with fail
    have hr9 : RowAt (W2.putObj w4.heap.size (.deferred none)) (W.heap.size + 1) 33 (rC x) := RowAt.lie HE9.out (CellsLie.putObj _ HD9.out rfl)
    have hfin : Below W.heap.size W (W2.putObj w4.heap.size (.deferred none)) := HBF.out.trans (below_putObj (o := .deferred (some [])) _ (by omega))
    refine ⟨by simp, .inl ⟨_, _, rfl, run_takeDeferred HD9.out, ?_⟩⟩
    generalize W2.putObj w4.heap.size (.deferred none) = w9 at *
    have c0 := hr9.cell 0
    have c1 := hr9.cell 1
    have c2 := hr9.cell 2
    have c3 := hr9.cell 3
    have c4 := hr9.cell 4
    have c5 := hr9.cell 5
    have l9 := hr9.lt
    exact ⟨_, by simp [results, Try.results67, go_sem, c0, c1, c2, c3, c4, c5, l9], rfl, hfin⟩
  case panic =>
    rintro pre W2 h
    exact h.elim
end Go.Proofs.Ytjlbnegdiabglaa
