/-
  The law's own: a limbo in memory of its own, of at most 12 in a row.
-/
import Derived.Test.YthnpcmigphpolaaDoorLjc
set_option linter.unusedSimpArgs false
set_option linter.unusedVariables false
namespace Go.Proofs.YthnpcmigphpolaaDoor
open Go Go.RowKit
attribute [local go_sem] via_cell via_frozen

/-- A slice's first ones. -/
theorem Rd.first {w : World} {B n k : Nat} {A : Option Addr} {X : List Ent} (h : Rd w B 2 A n (Cs encE X)) (hx : X.length = n) (hk : k ≤ n) : Rd w B 2 A k (Cs encE (X.take k)) := by
  refine ⟨by rw [Cs_length encE_len, List.length_take, hx, Nat.min_eq_left hk], fun hp => ?_⟩
  obtain ⟨b, off, e, hb, hc⟩ := h.2 (by omega)
  refine ⟨b, off, e, hb, fun j u hu => hc j u ?_⟩
  have h1 : Cs encE X = Cs encE (X.take k) ++ Cs encE (X.drop k) := by rw [← Cs_append, List.take_append_drop]
  rw [h1, List.getElem?_append_left (List.getElem?_eq_some_iff.1 hu).1]
  exact hu
def Lim.cut (l : Lim) : Lim := ⟨l.E, fun k => (l.r k).take 12⟩
def cutN (l : Lim) (k : Nat) : Nat := ((l.r k).take 12).length
theorem cutN_le (l : Lim) (k : Nat) : cutN l k ≤ 12 := by unfold cutN; rw [List.length_take]; omega
theorem limC_updn (E : Nat) (A : Nat → Option Addr) (n c : Nat → Nat) {k : Nat} (hk : k < 3) (A1 : Option Addr) (n1 c1 : Nat) :
    (limC E A n c).setIfInBounds (1 + k) (.slice A1 n1 c1) = limC E (fun j => if j = k then A1 else A j) (fun j => if j = k then n1 else n j) (fun j => if j = k then c1 else c j) := by
  match k, hk with
  | 0, _ => rfl
  | 1, _ => rfl
  | 2, _ => rfl
/-- Rows ahead of i are the call's own. -/
structure OwAt (w0 wr : World) (gx i : Nat) (l : Lim) (A : Nat → Option Addr) (n c : Nat → Nat) : Prop where
  row : RowAt wr gx 26 (limC l.E A n c)
  out : RowAt wr (gx + 1) 26 zeroC
  own : ∀ k, k < i → k < 3 → OwnO wr (gx + 1 + 1) 34 2 (.slice (A k) (n k) (c k)) (n k) (Cs encE ((l.r k).take 12)) ∧ cutN l k = n k
  apart : ∀ j k, j < i → k < i → j < 3 → k < 3 → j ≠ k → ∀ p q, A j = some p → A k = some q → p.block ≠ q.block
  below : Below gx w0 wr
def OwEx (w0 wr : World) (gx i : Nat) (l : Lim) : Prop := ∃ A n c, OwAt w0 wr gx i l A n c
theorem OwAt.next {w0 wr w8 : World} {gx i : Nat} {l : Lim} {A : Nat → Option Addr} {n c : Nat → Nat} (h : OwAt w0 wr gx i l A n c) (hi : i < 3) (hb : Below wr.heap.size wr w8) (A1 : Option Addr) (n1 c1 : Nat)
    (hown : w8.ownsRow wr.heap.size 34 2 (.slice A1 n1 c1) n1 (Cs encE ((l.r i).take 12))) (hn : cutN l i = n1) :
    OwEx w0 (w8.setCell ⟨gx, 1 + i, none⟩ (.slice A1 n1 c1)) gx (i + 1) l := by
  have hgx := h.out.lt
  have hO := OwnO.of_own hown
  have hblk : ∀ j, j ≠ gx → j < wr.heap.size → (w8.setCell ⟨gx, 1 + i, none⟩ (.slice A1 n1 c1)).heap[j]? = wr.heap[j]? := fun j h1 h2 => (heap_setCell_ne _ _ _ _ h1).trans (hb.block j h2)
  refine ⟨fun j => if j = i then A1 else A j, fun j => if j = i then n1 else n j, fun j => if j = i then c1 else c j, ?_, ?_, fun k h1 h3 => ?_, fun j k h1 h2 h3 h4 hne p q hp hq => ?_, ?_⟩
  · rw [← limC_updn _ _ _ _ hi]
    exact (h.row.below hb).set _ _
  · exact (hblk (gx + 1) (by omega) h.out.lt).trans h.out
  · by_cases hki : k = i
    · subst hki
      simp only [if_pos rfl]
      exact ⟨(hO.lower (by omega)).other fun g h1 _ _ => heap_setCell_ne _ _ _ _ (by show g ≠ gx; omega), hn⟩
    · simp only [if_neg hki]
      exact ⟨(h.own k (by omega) h3).1.other fun g h1 h2 _ => hblk g (by omega) h2, (h.own k (by omega) h3).2⟩
  · by_cases hji : j = i
    · have hki : k ≠ i := by omega
      simp only [if_pos hji] at hp
      simp only [if_neg hki] at hq
      have h5 := (hO.fresh hp).1
      have h6 := ((h.own k (by omega) h4).1.fresh hq).2
      omega
    · by_cases hki : k = i
      · simp only [if_neg hji] at hp
        simp only [if_pos hki] at hq
        have h5 := (hO.fresh hq).1
        have h6 := ((h.own j (by omega) h3).1.fresh hp).2
        omega
      · simp only [if_neg hji] at hp
        simp only [if_neg hki] at hq
        exact h.apart j k (by omega) (by omega) h3 h4 hne p q hp hq
  · exact h.below.trans ((hb.mono (show gx ≤ wr.heap.size by omega)).setCell (p := ⟨gx, 1 + i, none⟩) (Nat.le_refl _) _)
set_option maxHeartbeats 4000000 in
theorem own_any (B : Nat) (A : Nat → Option Addr) (n c : Nat → Nat) (l : Lim) (W : World) (h : LimRd W B A n l.r) (hB : B ≤ W.heap.size) (hc : ∀ k, k < 3 → (n k : Int) ≤ (c k : Int) ∧ (c k : Int) ≤ 9223372036854775807) :
    Calls Tryd.prog 8 #[.agg (limC l.E A n c)] W fun e W' => ∃ A' c', e = .returned (.agg (limC l.E A' (cutN l) c')) ∧ LimOwn W' W.heap.size A' (cutN l) c' l.cut.r ∧ Below W.heap.size W W' := by
  obtain ⟨w1, hw1⟩ : ∃ w1, W.alloc (.cells (limC l.E A n c) 26) = w1 := ⟨_, rfl⟩
  obtain ⟨w2, hw2⟩ : ∃ w2, w1.alloc (.cells zeroC 26) = w2 := ⟨_, rfl⟩
  have s1 : w1.heap.size = W.heap.size + 1 := by rw [← hw1]; simp
  have b1 : Below W.heap.size W w1 := by rw [← hw1]; exact (Below.refl _ _).alloc (Nat.le_refl _) _
  have b2 : Below w1.heap.size w1 w2 := by rw [← hw2]; exact (Below.refl _ _).alloc (Nat.le_refl _) _
  have r1 : RowAt w2 W.heap.size 26 (limC l.E A n c) := by have h := RowAt.new W 26 (limC l.E A n c); rw [hw1] at h; exact h.below b2
  have r2 : RowAt w2 (W.heap.size + 1) 26 zeroC := by have h := RowAt.new w1 26 zeroC; rw [hw2, s1] at h; exact h
  have HS0 := hide (show OwEx W w2 W.heap.size 0 l from ⟨A, n, c, r1, r2, fun k h => by omega, fun j k h => by omega, b1.trans (b2.mono b1.size)⟩)
  have R1 := hide r1
  have H := hide h
  have HC := hide hc
  clear b1 b2 r1 r2 s1 h hc
  subst hw2
  subst hw1
  go_enter Tryd.func8, Tryd.ntmps8
  go_wp2_with fail
  generalize (W.alloc (.cells (limC l.E A n c) 26)).alloc (.cells zeroC 26) = w2 at *
  have q1 : w2.cell? ⟨W.heap.size, 1, none⟩ = some (.slice (A 0) (n 0) (c 0)) := by have := R1.out.cell 1; simpa [limC] using this
  have q2 : w2.cell? ⟨W.heap.size, 2, none⟩ = some (.slice (A 1) (n 1) (c 1)) := by have := R1.out.cell 2; simpa [limC] using this
  have q3 : w2.cell? ⟨W.heap.size, 3, none⟩ = some (.slice (A 2) (n 2) (c 2)) := by have := R1.out.cell 3; simpa [limC] using this
  have ql := R1.out.lt
  go_wp2_with fail
  clear q1 q2 q3 ql R1
  go_loopw [7] (fun i wr => ∃ (k : Nat), k ≤ 3 ∧ i = .int .i64 (k : Int) ∧ OwEx W wr W.heap.size k l) (fun i _ => 3 - (intOf i).toNat)
  case atStart => exact ⟨0, by omega, rfl, HS0.out⟩
  case round =>
    obtain ⟨k, hk, rfl, A1, n1, c1, hst⟩ := hrel
    have HST := hide hst
    clear hst
    by_cases hlt : k < 3
    · have hki : (k : Int) < 3 := by omega
      have hix := index_rows A n c k hlt
      have hnc := HC.out k hlt
      obtain ⟨m, hm⟩ : ∃ m, min (n k) 12 = m := ⟨_, rfl⟩
      have hmI : min (n k : Int) 12 = (m : Int) := by omega
      have hm1 : m ≤ n k := by omega
      have hm2 : m ≤ 12 := by omega
      have hmc : (m : Int) ≤ (c k : Int) := by omega
      have hcI := hnc.2
      have HLN := H.out.len k hlt
      have HT := hide (show (l.r k).take 12 = (l.r k).take m from by rw [← hm, ← HLN]; exact (List.take_eq_take_min).trans (by rw [Nat.min_comm]))
      have HCN := hide (show cutN l k = m from by unfold cutN; rw [HT.out, List.length_take, HLN, Nat.min_eq_left hm1])
      have HCL := hide (CloneE B (A k) m (c k) (Cs encE ((l.r k).take m)) wr (((H.out.rd k hlt).first HLN hm1).below (HST.out.below.mono hB)) (Nat.le_trans hB HST.out.below.size) (Cs_one_cell encE_one _) (by omega))
      clear hm hnc
      go_wp2_with fail
      with_reducible refine HCL.out.mono ?_
      rintro e w3 ⟨v, rfl, hown, hb⟩
      obtain ⟨A3, c3, rfl, _⟩ := own_form hown
      rw [← HT.out] at hown
      have HN := hide (HST.out.next hlt hb A3 m c3 hown HCN.out)
      have hc0 := limC_cell (HST.out.row.below hb) hlt
      have hcl := (HST.out.row.below hb).lt
      have hcf := (HST.out.row.below hb).frozen (1 + k)
      clear hown hb HCL hix
      go_wp2_with fail
      go_roundw
      case rel => exact ⟨k + 1, by omega, by go_num, HN.out⟩
      case measure => simp [intOf]; omega
    · obtain rfl : k = 3 := by omega
      have x0 : wr.cell? ⟨W.heap.size, 0, none⟩ = some (.int .u64 (l.E : Int)) := by have := HST.out.row.cell 0; simpa [limC] using this
      have x1 : wr.cell? ⟨W.heap.size, 1, none⟩ = some (.slice (A1 0) (n1 0) (c1 0)) := by have := HST.out.row.cell 1; simpa [limC] using this
      have x2 : wr.cell? ⟨W.heap.size, 2, none⟩ = some (.slice (A1 1) (n1 1) (c1 1)) := by have := HST.out.row.cell 2; simpa [limC] using this
      have x3 : wr.cell? ⟨W.heap.size, 3, none⟩ = some (.slice (A1 2) (n1 2) (c1 2)) := by have := HST.out.row.cell 3; simpa [limC] using this
      have xl := HST.out.row.lt
      have z0 : wr.cell? ⟨W.heap.size + 1, 0, none⟩ = some (.int .u64 0) := by have := HST.out.out.cell 0; simpa using this
      have z1 : wr.cell? ⟨W.heap.size + 1, 1, none⟩ = some (.slice none 0 0) := by have := HST.out.out.cell 1; simpa using this
      have z2 : wr.cell? ⟨W.heap.size + 1, 2, none⟩ = some (.slice none 0 0) := by have := HST.out.out.cell 2; simpa using this
      have z3 : wr.cell? ⟨W.heap.size + 1, 3, none⟩ = some (.slice none 0 0) := by have := HST.out.out.cell 3; simpa using this
      have zl := HST.out.out.lt
      have f0 := HST.out.out.frozen 0
      have f1 := HST.out.out.frozen 1
      have f2 := HST.out.out.frozen 2
      have f3 := HST.out.out.frozen 3
      have HLD : Hid (LaidL (W.heap.size + 1) wr (limC l.E A1 n1 c1) ((((wr.setCell ⟨W.heap.size + 1, 0, none⟩ (.int .u64 (l.E : Int))).setCell ⟨W.heap.size + 1, 1, none⟩ (.slice (A1 0) (n1 0) (c1 0))).setCell ⟨W.heap.size + 1, 2, none⟩ (.slice (A1 1) (n1 1) (c1 1))).setCell ⟨W.heap.size + 1, 3, none⟩ (.slice (A1 2) (n1 2) (c1 2)))) := hide (laidL_of HST.out.out rfl)
      go_wp2_with fail
      generalize (((wr.setCell ⟨W.heap.size + 1, 0, none⟩ (.int .u64 (l.E : Int))).setCell ⟨W.heap.size + 1, 1, none⟩ (.slice (A1 0) (n1 0) (c1 0))).setCell ⟨W.heap.size + 1, 2, none⟩ (.slice (A1 1) (n1 1) (c1 1))).setCell ⟨W.heap.size + 1, 3, none⟩ (.slice (A1 2) (n1 2) (c1 2)) = w9 at *
      have y0 : w9.cell? ⟨W.heap.size + 1, 0, none⟩ = some (.int .u64 (l.E : Int)) := by have := HLD.out.row.cell 0; simpa [limC] using this
      have y1 : w9.cell? ⟨W.heap.size + 1, 1, none⟩ = some (.slice (A1 0) (n1 0) (c1 0)) := by have := HLD.out.row.cell 1; simpa [limC] using this
      have y2 : w9.cell? ⟨W.heap.size + 1, 2, none⟩ = some (.slice (A1 1) (n1 1) (c1 1)) := by have := HLD.out.row.cell 2; simpa [limC] using this
      have y3 : w9.cell? ⟨W.heap.size + 1, 3, none⟩ = some (.slice (A1 2) (n1 2) (c1 2)) := by have := HLD.out.row.cell 3; simpa [limC] using this
      have yl := HLD.out.row.lt
      refine bodyPost_ret (v := .agg (limC l.E A1 n1 c1)) (by simp [results, Tryd.results8, go_sem, y0, y1, y2, y3, yl]) rfl ?_
      have hn : ∀ j, j < 3 → n1 j = cutN l j := fun j hj => ((HST.out.own j hj hj).2).symm
      refine ⟨A1, c1, ?_, ⟨fun j hj => ?_, fun j hj => rfl, fun i j hi hj hne => HST.out.apart i j hi hj hi hj hne⟩, (HST.out.below.mono (Nat.le_refl _)).trans (HLD.out.below.mono (by omega))⟩
      · unfold limC
        rw [hn 0 (by omega), hn 1 (by omega), hn 2 (by omega)]
      · rw [← hn j hj]
        exact ((HST.out.own j hj hj).1.other fun g h1 h2 _ => HLD.out.block g (by omega)).lower (by omega)
end Go.Proofs.YthnpcmigphpolaaDoor
