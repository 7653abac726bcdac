/-
  The laws' own helpers: an arena in memory of its own, one written over.
-/
import Derived.Test.YtejhknboiacgeaaArn
set_option linter.unusedSimpArgs false
set_option linter.unusedVariables false
namespace Go.Proofs.Ytejhknboiacgeaa
open Go Go.RowKit
attribute [local go_sem] via_cell via_frozen

theorem Rd.setS {w : World} {sz n g : Nat} {A : Option Addr} {xs : List Value} (h : Rd w w.heap.size sz A n xs) (ho : OffB A g) (o : Nat) (u : Value) : Rd (w.setCell ⟨g, o, none⟩ u) (w.setCell ⟨g, o, none⟩ u).heap.size sz A n xs := by
  have := h.setB ho o u
  simpa using this
theorem OffB.lt {w : World} {B sz n g : Nat} {A : Option Addr} {xs : List Value} (h : Rd w B sz A n xs) (hn : 0 < n) (hB : B ≤ g) : OffB A g := fun p hp => by
  obtain ⟨b, off, e, hb, _⟩ := h.2 hn
  rw [hp] at e
  injection e with e
  subst e
  show b ≠ g; omega

theorem own_any (A : Option Addr) (c n : Nat) (xs : List (Int × Int)) (W : World) (h : Rd W W.heap.size 2 A n (Cs encE xs)) (hx : xs.length = n) (hc : n ≤ c) (hcm : c ≤ 9223372036854775807) (m : Nat) (hm : min n 130 = m) :
    Calls Try.prog 8 #[.agg #[.slice A n c]] W fun e W' => ∃ A' c', e = .returned (.agg #[.slice A' m c']) ∧ m ≤ c' ∧ c' ≤ 9223372036854775807 ∧ Rd W' W'.heap.size 2 A' m (Cs encE (xs.take m)) ∧ (∀ p, A' = some p → W.heap.size ≤ p.block) ∧ Below W.heap.size W W' := by
  have hmn : m ≤ n := by omega
  have hm130 : m ≤ 130 := by omega
  have hmI : min (n : Int) 130 = (m : Int) := by omega
  have hmcI : (m : Int) ≤ (c : Int) := by omega
  have hrm : Rd W W.heap.size 2 A m (Cs encE (xs.take m)) := by
    have h := h.take hmn
    rw [← Cs_take encE_len] at h
    exact h
  have hncI : (n : Int) ≤ (c : Int) := by omega
  have hcI : (c : Int) ≤ 9223372036854775807 := by omega
  obtain ⟨w1, hw1⟩ : ∃ w1, W.alloc (.cells #[.slice A n c] 24) = w1 := ⟨_, rfl⟩
  have s1 : w1.heap.size = W.heap.size + 1 := by rw [← hw1]; simp
  have b1 : Below W.heap.size W w1 := by rw [← hw1]; exact (Below.refl _ _).alloc (Nat.le_refl _) _
  have hb2 : Below W.heap.size W (w1.alloc (.cells #[.slice none 0 0] 24)) := b1.alloc b1.size _
  have r2 : RowAt (w1.alloc (.cells #[.slice none 0 0] 24)) (W.heap.size + 1) 24 #[.slice none 0 0] := by have h := RowAt.new w1 24 #[.slice none 0 0]; rw [s1] at h; exact h
  have HCL := hide (CloneS W.heap.size A m c (Cs encE (xs.take m)) _ (hrm.below hb2) hb2.size (Cs_one_cell encE_one _) (by omega))
  have HB := hide hb2
  have R2 := hide r2
  rw [← hw1] at HCL HB R2
  clear hw1 s1 b1 hb2 r2 hrm h hm w1
  go_enter Try.func8, Try.ntmps8
  go_wp2_with fail
  refine HCL.out.mono ?_
  rintro e w3 ⟨v, rfl, hown, hb3⟩
  obtain ⟨A3, c3, rfl, hc3, hcm3⟩ := own_form2 hown
  have R3 := hide (R2.out.below hb3)
  have HB3 := hide (HB.out.trans (hb3.mono HB.out.size))
  have HO := hide hown
  have d3 := row1 R3.out
  have f3 := R3.out.frozen 0
  have l3 := R3.out.lt
  have hsz := HB.out.size
  clear hown hb3
  go_wp2_with fail
  have hr4 : RowAt (w3.setCell ⟨W.heap.size + 1, 0, none⟩ (.slice A3 m c3)) (W.heap.size + 1) 24 #[.slice A3 m c3] := R3.out.set 0 _
  have hfr := own_fresh HO.out
  have hoff : OffB A3 (W.heap.size + 1) := fun p hp => by have := hfr p hp; simp at this; omega
  refine bodyPost_ret (v := .agg #[.slice A3 m c3]) (by simp [results, Try.results8, go_sem, row1 hr4, hr4.lt, d3, l3]) rfl ⟨A3, c3, rfl, hc3, hcm3, (Rd.of_own HO.out).setS hoff 0 _, fun p hp => by have := hfr p hp; simp at this; omega, HB3.out.setCell (p := ⟨W.heap.size + 1, 0, none⟩) (by simp) _⟩

/-- Whatever is written into it, the row stays a row: generations are counted up. -/
theorem spoil_any (A : Option Addr) (c n gs : Nat) (xs : List (Int × Int)) (W : World) (hx : xs.length = n) (hn : n ≤ 4096) (h : 0 < n → A = some ⟨gs, 0, none⟩ ∧ RowAt W gs 59 (Cs encE xs).toArray) :
    Calls Try.prog 19 #[.agg #[.slice A n c]] W fun e W' => e = .returned (.tuple #[]) ∧ Past2 gs gs W W' := by
  have hb0 : Below W.heap.size W (W.alloc (.cells #[.slice A n c] 24)) := (Below.refl _ _).alloc (Nat.le_refl _) _
  have HH := hide (fun h0 => (h h0).2.below hb0)
  have hA := fun h0 => (h h0).1
  have r1 : RowAt (W.alloc (.cells #[.slice A n c] 24)) W.heap.size 24 #[.slice A n c] := RowAt.new _ _ _
  have HB := hide hb0
  have HA := hide hA
  have R1 := hide r1
  have HLT := hide (fun h0 => (h h0).2.lt)
  clear h hb0 hA r1
  go_enter Try.func19, Try.ntmps19
  go_wp2_with fail
  go_loopw [6] (fun i wr => ∃ (j : Nat) (ys : List (Int × Int)), j ≤ n ∧ i = .int .i64 j ∧ ys.length = n ∧ RowAt wr W.heap.size 24 #[.slice A n c] ∧ (0 < n → RowAt wr gs 59 (Cs encE ys).toArray) ∧ Past2 gs gs W wr) (fun i _ => n - (intOf i).toNat)
  case atStart => exact ⟨0, xs, Nat.zero_le _, rfl, hx, R1.out, HH.out, Past2.of_below HB.out⟩
  case round =>
    obtain ⟨j, ys, hj, rfl, hyl, hr1, hrow, hp⟩ := hrel
    by_cases hlt : j < n
    · have h0 : 0 < n := by omega
      obtain rfl := HA.out h0
      have HROW := hide (hrow h0)
      have HP := hide hp
      have R1 := hide hr1
      have hgsW := HLT.out h0
      have hjy : j < ys.length := by omega
      have x0 := row1 hr1
      have l1 := hr1.lt
      have l2 := HROW.out.lt
      have c1 : wr.cell? ⟨gs, j * 2 + 1, none⟩ = some (.int .u64 (ys.getD j (0, 0)).2) := by
        rw [HROW.out.cell]
        have := Cs_at encE_len ys j 1 hjy (by omega)
        rw [List.getD_eq_getElem?_getD, List.getElem?_eq_getElem hjy]
        simpa [encE] using this
      have f1 := HROW.out.frozen (j * 2 + 1)
      obtain ⟨g, hg⟩ : ∃ g, (ys.getD j (0, 0)).2 = g := ⟨_, rfl⟩
      rw [hg] at c1
      clear hr1 hrow hp hg
      go_wp2_with fail
      go_roundw
      case rel =>
        refine ⟨j + 1, ys.set j ((ys.getD j (0, 0)).1, IntKind.u64.wrap (g + 1)), by omega, by go_num, by rw [List.length_set]; exact hyl, R1.out.setNe (by omega), fun _ => ?_, HP.out.trans (Past2.set1 _ _)⟩
        have h := HROW.out.set (j * 2 + 1) (.int .u64 (IntKind.u64.wrap (g + 1)))
        rw [List.setIfInBounds_toArray, Cs_set1 ys j _ hjy] at h
        exact h
      case measure => simp [intOf]; omega
    · have HP := hide hp
      clear hp hr1 hrow
      go_wp2_with fail
      go_end0
      exact ⟨rfl, HP.out⟩
end Go.Proofs.Ytejhknboiacgeaa
