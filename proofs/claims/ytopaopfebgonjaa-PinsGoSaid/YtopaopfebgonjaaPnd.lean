/-
  Pins: the flags of who holds the epoch back (the program's).
-/
import Derived.Test.YtopaopfebgonjaaPnc
import Derived.Deep.CutRange
import Derived.Deep.CutBlock
import Derived.Laws.Rows
import Derived.Deep.WholeRow
set_option linter.unusedSimpArgs false
set_option linter.unusedVariables false
namespace Go.Proofs.Ytopaopfebgonjaa
open Go Go.RowKit
attribute [local go_sem] Oper.semAt_some

/-- The box of flags. -/
def FlSt (ko : Nat) (e : Int) (pre : List (Nat × Int)) (W : World) : Prop := RowAt W ko 68 (Cs encB (fl e pre)).toArray
theorem FlSt.stays (ko : Nat) (e : Int) : Stays (FlSt ko e) := fun _ _ _ h hl => h.lie hl
theorem encB_cells (l : List Bool) (k : Nat) (hk : k < l.length) : (Cs encB l)[k]? = some (.bool l[k]) := by
  have h := Cs_at encB_len l k 0 hk (by omega)
  simpa [encB] using h
theorem encB_set (l : List Bool) (k : Nat) (b : Bool) : (Cs encB l).set k (.bool b) = Cs encB (l.set k b) := by
  have h : ∀ l : List Bool, Cs encB l = l.map Value.bool := fun l => by induction l with
    | nil => rfl
    | cons x l ih => simp [Cs, encB] at ih ⊢; exact ih
  rw [h, h, List.map_set]

def PlainAct (ps : Array Tmp) (vs : Array Value) (s1 s2 : Nat) (v1 v2 : Value) (T : Array Value) (a' : Act) : Prop := a' = { tmps := (((ps.zip vs).foldl (fun t (p, v) => t.setIfInBounds p v) T).setIfInBounds s1 v1).setIfInBounds s2 v2, defers := [] }

/-- Eight flags. -/
theorem eight (l : List Bool) (h : l.length = 8) : ∃ b0 b1 b2 b3 b4 b5 b6 b7, l = [b0, b1, b2, b3, b4, b5, b6, b7] := by
  match l, h with
  | [b0, b1, b2, b3, b4, b5, b6, b7], _ => exact ⟨b0, b1, b2, b3, b4, b5, b6, b7, rfl⟩

set_option maxRecDepth 100000 in
set_option maxHeartbeats 2000000 in
theorem back_any (A : Option Addr) (c n : Nat) (e : Int) (S : List Int) (W : World) (h : Rd W W.heap.size 1 A n (Cs encW S)) (hx : S.length = n) (hS : ∀ s ∈ S, U64 s) (ho : pOk e S = true) :
    Calls Try.prog 36 #[.agg #[.int .u64 e, .slice A n c]] W fun x W' => x = .returned (.agg (Cs encB (flags e S)).toArray) ∧ Below W.heap.size W W' := by
  obtain ⟨g1, g8, _, gS⟩ := pOk_out ho
  have hn : n ≤ 8 := by omega
  have HFL := hide (fl_all e S g8 gS)
  have HX := hide hx
  have HS := hide hS
  have HH := hide h
  obtain ⟨w1, hw1⟩ : ∃ w1, W.alloc (.cells #[.int .u64 e, .slice A n c] 25) = w1 := ⟨_, rfl⟩
  obtain ⟨w2, hw2⟩ : ∃ w2, w1.alloc (.cells #[.bool false, .bool false, .bool false, .bool false, .bool false, .bool false, .bool false, .bool false] 68) = w2 := ⟨_, rfl⟩
  obtain ⟨w3, hw3⟩ : ∃ w3, w2.alloc (.cells #[.bool false, .bool false, .bool false, .bool false, .bool false, .bool false, .bool false, .bool false] 68) = w3 := ⟨_, rfl⟩
  have s1 : w1.heap.size = W.heap.size + 1 := by rw [← hw1]; simp
  have s2 : w2.heap.size = W.heap.size + 1 + 1 := by rw [← hw2]; simp [s1]
  have s3 : w3.heap.size = W.heap.size + 1 + 1 + 1 := by rw [← hw3]; simp [s2]
  have b1 : Below W.heap.size W w1 := by rw [← hw1]; exact (Below.refl _ _).alloc (Nat.le_refl _) _
  have b2 : Below w1.heap.size w1 w2 := by rw [← hw2]; exact (Below.refl _ _).alloc (Nat.le_refl _) _
  have b3 : Below w2.heap.size w2 w3 := by rw [← hw3]; exact (Below.refl _ _).alloc (Nat.le_refl _) _
  have r1 : RowAt w3 W.heap.size 25 #[.int .u64 e, .slice A n c] := by have h := RowAt.new W 25 #[.int .u64 e, .slice A n c]; rw [hw1] at h; exact (h.below b2).below b3
  have r2 : RowAt w3 (W.heap.size + 1) 68 #[.bool false, .bool false, .bool false, .bool false, .bool false, .bool false, .bool false, .bool false] := by have h := RowAt.new w1 68 #[.bool false, .bool false, .bool false, .bool false, .bool false, .bool false, .bool false, .bool false]; rw [hw2, s1] at h; exact h.below b3
  have r3 : RowAt w3 (W.heap.size + 1 + 1) 68 (Cs encB (fl e [])).toArray := by have h := RowAt.new w2 68 #[.bool false, .bool false, .bool false, .bool false, .bool false, .bool false, .bool false, .bool false]; rw [hw3, s2] at h; exact h
  have hb0 : Below W.heap.size W w3 := (b1.trans (b2.mono b1.size)).trans (b3.mono (by omega))
  have HB := hide hb0
  have R1 := hide r1
  have R2 := hide r2
  have R3 := hide r3
  have q0 := row20 r1
  have q1 := row21 r1
  have l1 := r1.lt
  refine calls_of_wp_marks Try.func36 rfl ?_
  simp only [Try.ntmps36, List.size_toArray, List.length_cons, List.length_nil, Nat.reduceAdd, Nat.reduceSub, Array.replicate_succ, Array.replicate_zero, List.push_toArray, List.append_toArray, List.nil_append, List.cons_append]
  clear b1 b2 b3 hb0 r1 r2 r3 h hx hS ho gS
  go_wp2_with fail
  clear hw1 hw2 hw3 s1 s2
  refine (pinned_any A c n e w3).mono ?_
  rintro x w5 ⟨rfl, hra, hb⟩
  have HB5 := hide (HB.out.trans (hb.mono HB.out.size))
  replace R1 := hide (R1.out.below hb)
  replace R2 := hide (R2.out.below hb)
  replace R3 := hide (R3.out.below hb)
  have hla := hra.lt
  have hr5 := (HH.out.below HB5.out).more HB5.out.size
  have hseq := pinned_seq (fun j => j < W.heap.size + 1 + 1 ∧ j < w5.heap.size) w3.heap.size A c e S w5 (by rw [HX.out]; exact hra) (fun j hj => hj.2) (by rw [HX.out]; exact hr5) (fun p hp hpos => by
    subst hp
    obtain ⟨b, off, e, hb1, _⟩ := HH.out.2 (by rw [← HX.out]; exact hpos)
    injection e with e
    subst e
    exact ⟨by show b < _; omega, by show b < _; omega⟩) g8 HS.out
  rw [s3] at hseq hla ⊢
  clear hb hra hr5 q0 q1 l1
  go_wp2_with fail
  refine wp_range (gf := 43) (lb := #[.pointer (some ⟨W.heap.size + 1 + 1 + 1, 0, none⟩)]) rfl (enters_of Try.func43 (by kernel_rfl) rfl) hseq (W.heap.size + 1 + 1) (by omega) (fun j hj => hj.2) (Below.refl _ _) (fun _ => rfl)
    (FlSt (W.heap.size + 1 + 1) e) (fun _ _ _ => False) (FlSt.stays _ _) (fun _ _ _ _ h _ => h) R3.out
    (fun T x a' W2 => PlainAct #[8, 9] (encP x) 4 5 (.int .i64 ((x.1 % 8 : Nat) : Int)) (.int .u64 x.2) T a') (fun T a' => fun _ _ _ h _ => h) ?assign ?body ?done ?stop ?panic
  case assign =>
    intro l pre x W2 R hI hb hs hlen hR
    dsimp only [encP] at hR ⊢
    gi_wp2
    exact hR _ _ (KeepsOthers.refl _) (Below.refl _ _) (fun j hj => rfl) hI (by simp [PlainAct, encP])
  case body =>
    rintro l pre x a' W2 hrow hpa hb hs hlen
    have hpa : a' = _ := hpa
    subst hpa
    dsimp only [encP]
    have hk8 : x.1 % 8 < 8 := Nat.mod_lt _ (by omega)
    have HSN := hide (fl_snoc e pre x)
    have hlen8 := fl_length e pre
    have hrow' : RowAt W2 (W.heap.size + 1 + 1) 68 (Cs encB (fl e pre)).toArray := hrow
    obtain ⟨k, q⟩ := x
    dsimp only at hk8 HSN ⊢
    generalize k % 8 = k at *
    have c0 := hrow'.cell k
    rw [List.getElem?_toArray, encB_cells _ k (by omega)] at c0
    have f0 := hrow'.frozen k
    have l0 := hrow'.lt
    have hk8I : (k : Int) < 8 := by omega
    have HR := hide hrow'
    have r1 := RowAt.belowB R1.out (by omega) hb
    have q0 := row20 r1
    have l1 := r1.lt
    clear hrow hrow' r1
    gi_wp2
    refine ⟨KeepsOthers.setCell _ _ _, (Below.refl (W.heap.size + 1 + 1) W2).setCell (p := ⟨W.heap.size + 1 + 1, k, none⟩) (Nat.le_refl _) _, fun j hj => heap_setCell_ne _ _ _ _ (by have := hj.1; simp; omega), ?_⟩
    have h := HR.out.set k (.bool (q != e))
    rw [List.setIfInBounds_toArray, encB_set] at h
    unfold FlSt
    rw [HSN.out]
    exact h
  case done =>
    rintro ys W2 rfl hrow hb hs hD
    have hrow' : RowAt W2 (W.heap.size + 1 + 1) 68 (Cs encB (flags e S)).toArray := by rw [← HFL.out]; exact hrow
    have hl8 := flags_length e S g8
    have r2 := RowAt.belowB R2.out (by omega) hb
    have HD := hide hD
    have HBF := hide (HB5.out.trans (hb.mono (by omega)))
    obtain ⟨X, hX⟩ : ∃ X, (Cs encB (flags e S)).toArray = X := ⟨_, rfl⟩
    have hXs : X.size = 8 := by rw [← hX]; simp [Cs_length encB_len, hl8]
    have hX1 : X.all (·.oneCell') = true := by
      rw [← hX, Array.all_eq_true_iff_forall_mem]
      intro v hv
      exact Cs_one_cell (enc := encB) (by intro x u hu; simp [encB] at hu; subst hu; rfl) (flags e S) v (by simpa using hv)
    rw [hX] at hrow'
    have HXX := hide hX
    have INF : Hid ((Try.prog.info? 68).map (·.size) = some X.size) := hide (by rw [hXs]; kernel_rfl)
    have INF8 : Hid ((#[.bool false, .bool false, .bool false, .bool false, .bool false, .bool false, .bool false, .bool false] : Array Value).size = X.size) := hide (by rw [hXs]; rfl)
    have HX1 := hide hX1
    have R3 := hide hrow'
    have R2 := hide r2
    clear hrow hrow' r2 hb hD hl8 hXs hX1 hX
    unfold marked
    go_wp2_with (first
      | (refine wpList_load_row rfl 68 _ rfl (W.heap.size + 1 + 1) rfl 68 X (0, 0) _ R3.out Try.underlying68 rfl INF.out ?_)
      | (refine wpList_store_rowAt rfl 68 _ _ rfl (W.heap.size + 1) 68 _ X rfl rfl R2.out INF8.out INF.out HX1.out ?_; intro w8 hr8 hp8; have HR8 := hide hr8; have HP8 := hide hp8; clear hr8 hp8))
    have hD8 : w8.heap[w5.heap.size]? = some (.deferred (some [])) := (HP8.out.block _ (by have := HB5.out.size; omega) hs).trans HD.out
    refine ⟨by simp, .inl ⟨_, _, rfl, run_takeDeferred hD8, ?_⟩⟩
    have hr9 : RowAt (w8.putObj w5.heap.size (.deferred none)) (W.heap.size + 1) 68 X := RowAt.lie HR8.out (CellsLie.putObj _ hD8 rfl)
    refine ⟨_, results_cell_row Try.results36 _ _ (W.heap.size + 1) 68 X (0, 0) _ rfl hr9 Try.underlying68 rfl INF.out, by rw [HXX.out], ?_⟩
    exact (HBF.out.trans (HP8.out.below.mono (by omega))).trans (below_putObj (o := .deferred (some [])) _ (by have := HB5.out.size; omega))
  case stop =>
    rintro c pre W _ h
    exact h.elim
  case panic =>
    rintro pre W h
    exact h.elim
end Go.Proofs.Ytopaopfebgonjaa
