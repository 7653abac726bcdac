/-
  Pins, the laws' own helpers: pins in memory of their own, ones written over; the layer wakes.
-/
import Derived.Test.YtopaopfebgonjaaPnl
set_option linter.unusedSimpArgs false
set_option linter.unusedVariables false
namespace Go.Proofs.Ytopaopfebgonjaa
open Go Go.RowKit
attribute [local go_sem] via_cell via_frozen

theorem EqualIK {n1 n2 : Nat} (A1 A2 : Option Addr) (c1 c2 : Nat) (xs ys : List Int) (W : World) (h1 : Rd W W.heap.size 1 A1 n1 (Cs encI xs)) (h2 : Rd W W.heap.size 1 A2 n2 (Cs encI ys)) (hx : xs.length = n1) (hy : ys.length = n2)
    (hl1 : n1 ≤ 4096) (hl2 : n2 ≤ 4096) (r : Bool) (hr : decide (xs = ys) = r) :
    Calls Try.prog 24 #[.slice A1 n1 c1, .slice A2 n2 c2] W fun e W' => e = .returned (.bool r) ∧ Below W.heap.size W W' := by
  subst hx hy
  exact EqualI _ _ A1 A2 c1 c2 xs ys W h1 h2 (Nat.le_refl _) (Nat.le_refl _) hl1 hl2 r hr

/-- Pins that came in, the first ten slots, in memory of their own. -/
def LownRes (W : World) (e : Int) (m : Nat) (Y : List Int) (x : Ending) (W' : World) : Prop :=
  ∃ A' c', x = .returned (.agg #[.int .u64 e, .slice A' m c']) ∧ m ≤ c' ∧ c' ≤ 9223372036854775807 ∧ Rd W' W'.heap.size 1 A' m (Cs encW Y) ∧ (∀ p, A' = some p → W.heap.size ≤ p.block) ∧ Below W.heap.size W W'

set_option maxHeartbeats 1000000 in
theorem lown_any (A : Option Addr) (c n : Nat) (e : Int) (xs : List Int) (W : World) (h : Rd W W.heap.size 1 A n (Cs encW xs)) (hx : xs.length = n) (hc : n ≤ c) (hcm : c ≤ 9223372036854775807) (m : Nat) (hm : min n 10 = m) :
    Calls Try.prog 9 #[.agg #[.int .u64 e, .slice A n c]] W (LownRes W e m (xs.take m)) := by
  have hmn : m ≤ n := by omega
  have hm10 : m ≤ 10 := by omega
  have hmI : min (n : Int) 10 = (m : Int) := by omega
  have hmcI : (m : Int) ≤ (c : Int) := by omega
  have hrm : Rd W W.heap.size 1 A m (Cs encW (xs.take m)) := by
    have h := h.take hmn
    rw [← Cs_take encW_len] at h
    exact h
  have hncI : (n : Int) ≤ (c : Int) := by omega
  have hcI : (c : Int) ≤ 9223372036854775807 := by omega
  have hb2 : Below W.heap.size W ((W.alloc (.cells #[.int .u64 e, .slice A n c] 25)).alloc (.cells #[.int .u64 0, .slice none 0 0] 25)) := ((Below.refl _ _).alloc (Nat.le_refl _) _).alloc (by simp) _
  have r1 : RowAt ((W.alloc (.cells #[.int .u64 e, .slice A n c] 25)).alloc (.cells #[.int .u64 0, .slice none 0 0] 25)) W.heap.size 25 #[.int .u64 e, .slice A n c] := (RowAt.new W 25 #[.int .u64 e, .slice A n c]).below ((Below.refl _ _).alloc (Nat.le_refl _) _)
  have r2 : RowAt ((W.alloc (.cells #[.int .u64 e, .slice A n c] 25)).alloc (.cells #[.int .u64 0, .slice none 0 0] 25)) (W.heap.size + 1) 25 #[.int .u64 0, .slice none 0 0] := by
    have h := RowAt.new (W.alloc (.cells #[.int .u64 e, .slice A n c] 25)) 25 #[.int .u64 0, .slice none 0 0]
    rw [World.size_alloc] at h; exact h
  have HRM := hide hrm
  have HB := hide hb2
  have R1 := hide r1
  have R2 := hide r2
  clear hb2 r1 r2 hrm h hm hx
  go_enter Try.func9, Try.ntmps9
  go_wp2_with fail
  generalize ((W.alloc (.cells #[.int .u64 e, .slice A n c] 25)).alloc (.cells #[.int .u64 0, .slice none 0 0] 25)) = w1 at *
  have q0 := row20 R1.out
  have q1 := row21 R1.out
  have p0 := row20 R2.out
  have p1 := row21 R2.out
  have f0 := R2.out.frozen 0
  have f1 := R2.out.frozen 1
  have l1 := R1.out.lt
  have l2 := R2.out.lt
  have hs1 : W.heap.size + 1 ≤ w1.heap.size := by omega
  have HC := hide (CloneW W.heap.size A m c (Cs encW (xs.take m)) w1.drew (HRM.out.below HB.out.drew) HB.out.size (Cs_one_cell encW_one _) (by omega))
  refine wp_region_held_drew (S := fun wX => Below (W.heap.size + 1) w1 wX ∧ wX.cell? ⟨W.heap.size, 0, none⟩ = some (.int .u64 e) ∧ wX.cell? ⟨W.heap.size, 1, none⟩ = some (.slice A n c)) (by kernel_rfl) ⟨(Below.refl _ _).drew, q0, q1⟩ (fun hHeld => ?_)
  (refine wpAnyH_take (i := 0) (v := ?_) rfl (by kernel_rfl) (by kernel_rfl) (by kernel_rfl) (fun _ _ _ h => h) (Or.inl ⟨by rfl, ?_⟩) (by assumption) ?_; rotate_left; (focus (intro w hSw; (try dsimp only at hSw); go_simp; first | done | with_reducible rfl)); (try simp only [Act.put, List.getElem_toArray, List.getElem_cons_succ, List.getElem_cons_zero, List.setIfInBounds_toArray, List.set_cons_zero, List.set_cons_succ]))
  (refine wpAnyH_take (i := 1) (v := ?_) rfl (by kernel_rfl) (by kernel_rfl) (by kernel_rfl) (fun _ _ _ h => h) (Or.inl ⟨by rfl, ?_⟩) (by assumption) ?_; rotate_left; (focus (intro w hSw; (try dsimp only at hSw); go_simp; first | done | with_reducible rfl)); (try simp only [Act.put, List.getElem_toArray, List.getElem_cons_succ, List.getElem_cons_zero, List.setIfInBounds_toArray, List.set_cons_zero, List.set_cons_succ]))
  (refine wpAnyH_take (i := 2) (v := ?_) rfl (by kernel_rfl) (by kernel_rfl) (by kernel_rfl) (fun _ _ _ h => h) (Or.inl ⟨by rfl, ?_⟩) (by assumption) ?_; rotate_left; (focus (intro w hSw; (try dsimp only at hSw); go_simp; first | done | with_reducible rfl)); (try simp only [Act.put, List.getElem_toArray, List.getElem_cons_succ, List.getElem_cons_zero, List.setIfInBounds_toArray, List.set_cons_zero, List.set_cons_succ]))
  (refine wpAnyH_take (i := 3) (v := ?_) rfl (by kernel_rfl) (by kernel_rfl) (by kernel_rfl) (fun _ _ _ h => h) (Or.inl ⟨by rfl, ?_⟩) (by assumption) ?_; rotate_left; (focus (intro w hSw; (try dsimp only at hSw); go_simp; first | done | with_reducible rfl)); (try simp only [Act.put, List.getElem_toArray, List.getElem_cons_succ, List.getElem_cons_zero, List.setIfInBounds_toArray, List.set_cons_zero, List.set_cons_succ]))
  (refine wpAnyH_take (i := 4) (v := ?_) rfl (by kernel_rfl) (by kernel_rfl) (by kernel_rfl) (fun _ _ _ h => h) (Or.inl ⟨by rfl, ?_⟩) (by assumption) ?_; rotate_left; (focus (intro w hSw; (try dsimp only at hSw); go_simp; first | done | with_reducible rfl)); (try simp only [Act.put, List.getElem_toArray, List.getElem_cons_succ, List.getElem_cons_zero, List.setIfInBounds_toArray, List.set_cons_zero, List.set_cons_succ]))
  (refine wpAnyH_take (i := 5) (v := ?_) rfl (by kernel_rfl) (by kernel_rfl) (by kernel_rfl) (fun _ _ _ h => h) (Or.inl ⟨by rfl, ?_⟩) (by assumption) ?_; rotate_left; (focus (intro w hSw; (try dsimp only at hSw); go_simp; first | done | with_reducible rfl)); (try simp only [Act.put, List.getElem_toArray, List.getElem_cons_succ, List.getElem_cons_zero, List.setIfInBounds_toArray, List.set_cons_zero, List.set_cons_succ]))
  (refine wpAnyH_take (i := 6) (v := ?_) rfl (by kernel_rfl) (by kernel_rfl) (by kernel_rfl) (fun _ _ _ h => h) (Or.inl ⟨by rfl, ?_⟩) (by assumption) ?_; rotate_left; (focus (intro w hSw; (try dsimp only at hSw); go_simp; first | done | with_reducible rfl)); (try simp only [Act.put, List.getElem_toArray, List.getElem_cons_succ, List.getElem_cons_zero, List.setIfInBounds_toArray, List.set_cons_zero, List.set_cons_succ]))
  (refine wpAnyH_take (i := 7) (v := ?_) rfl (by kernel_rfl) (by kernel_rfl) (by kernel_rfl) (fun _ _ _ h => h) (Or.inl ⟨by rfl, ?_⟩) (by assumption) ?_; rotate_left; (focus (intro w hSw; (try dsimp only at hSw); go_simp; first | done | with_reducible rfl)); (try simp only [Act.put, List.getElem_toArray, List.getElem_cons_succ, List.getElem_cons_zero, List.setIfInBounds_toArray, List.set_cons_zero, List.set_cons_succ]))
  (refine wpAnyH_take (i := 8) (v := ?_) rfl (by kernel_rfl) (by kernel_rfl) (by kernel_rfl) (fun _ _ _ h => h) (Or.inl ⟨by rfl, ?_⟩) (by assumption) ?_; rotate_left; (focus (intro w hSw; (try dsimp only at hSw); go_simp; first | done | with_reducible rfl)); (try simp only [Act.put, List.getElem_toArray, List.getElem_cons_succ, List.getElem_cons_zero, List.setIfInBounds_toArray, List.set_cons_zero, List.set_cons_succ]))
  refine wpAnyH_ready (rs := [9]) (by kernel_rfl) (by simp) ?_
  refine AllReadyH.cons rfl (fun K hK => ?_) AllReadyH.nil
  go_simp
  refine HC.out.mono ?_
  rintro x w2 ⟨v, rfl, hown, hb⟩
  obtain ⟨A3, c3, rfl, hc3, hcm3⟩ := own_form2 hown
  have hbd : Below w1.heap.size w1 w2 := ⟨hb.os, hb.tape, hb.output, hb.size, hb.block⟩
  have HBD := hide hbd
  have HO := hide hown
  refine hK.out _ _ ⟨hbd.mono hs1, kept hbd q0, kept hbd q1⟩ (fun hHeld => ?_)
  clear hK K
  (try simp only [Act.put, List.getElem_toArray, List.getElem_cons_succ, List.getElem_cons_zero, List.setIfInBounds_toArray, List.set_cons_zero, List.set_cons_succ])
  (refine wpAnyH_take (i := 10) (v := ?_) rfl (by kernel_rfl) (by kernel_rfl) (by kernel_rfl) (fun _ _ _ h => h) (Or.inl ⟨by rfl, ?_⟩) (by assumption) ?_; rotate_left; (focus (intro w hSw; (try dsimp only at hSw); go_simp; first | done | with_reducible rfl)); (try simp only [Act.put, List.getElem_toArray, List.getElem_cons_succ, List.getElem_cons_zero, List.setIfInBounds_toArray, List.set_cons_zero, List.set_cons_succ]))
  have p0' := kept hbd p0
  have p1' := kept hbd p1
  have f0' := keptF hbd l2 f0
  have f1' := keptF hbd l2 f1
  have l2' := Nat.lt_of_lt_of_le l2 hbd.size
  refine wpAnyH_ready (rs := [11]) (by kernel_rfl) (by simp) ?_
  refine AllReadyH.cons rfl (fun K hK => ?_) AllReadyH.nil
  clear p0 p1 f0 f1 hown hb
  go_simp
  have R2' := hide (((R2.out.below hbd).set 0 (.int .u64 e)).set 1 (.slice A3 m c3))
  have hofr : ∀ p : Addr, A3 = some p → p.block ≠ W.heap.size + 1 := fun p hp => by
    have h := own_fresh HO.out p hp
    have : w1.drew.heap.size = w1.heap.size := rfl
    omega
  have HRD := hide (((Rd.of_own HO.out).setOffS (g := W.heap.size + 1) hofr 0 (.int .u64 e)).setOffS (g := W.heap.size + 1) hofr 1 (.slice A3 m c3))
  have HFR := hide (fun (p : Addr) (hp : A3 = some p) => (show W.heap.size ≤ p.block by
    have h := own_fresh HO.out p hp
    have : w1.drew.heap.size = w1.heap.size := rfl
    omega))
  have HBF := hide (((HB.out.trans (hbd.mono HB.out.size)).setCell (p := ⟨W.heap.size + 1, 0, none⟩) (by simp) (.int .u64 e)).setCell (p := ⟨W.heap.size + 1, 1, none⟩) (by simp) (.slice A3 m c3))
  have hS : Below (W.heap.size + 1) w1 ((w2.setCell ⟨W.heap.size + 1, 0, none⟩ (.int .u64 e)).setCell ⟨W.heap.size + 1, 1, none⟩ (.slice A3 m c3)) := ((hbd.mono hs1).setCell (p := ⟨W.heap.size + 1, 0, none⟩) (Nat.le_refl _) _).setCell (p := ⟨W.heap.size + 1, 1, none⟩) (Nat.le_refl _) _
  refine hK.out _ _ ⟨hS, (hS.cell (p := ⟨W.heap.size, 0, none⟩) (by simp)).trans q0, (hS.cell (p := ⟨W.heap.size, 1, none⟩) (by simp)).trans q1⟩ (fun hHeld => ?_)
  clear hK K hHeld hS
  generalize ((w2.setCell ⟨W.heap.size + 1, 0, none⟩ (.int .u64 e)).setCell ⟨W.heap.size + 1, 1, none⟩ (.slice A3 m c3)) = wF at *
  have hr5 : RowAt wF (W.heap.size + 1) 25 #[.int .u64 e, .slice A3 m c3] := by simpa using R2'.out
  refine wpAnyH_done (by kernel_rfl) ?_ _
  (try simp only [Act.put, List.getElem_toArray, List.getElem_cons_succ, List.getElem_cons_zero, List.setIfInBounds_toArray, List.set_cons_zero, List.set_cons_succ])
  clear p0' p1' f0' f1'
  go_wp2_with fail
  refine bodyPost_ret (v := .agg #[.int .u64 e, .slice A3 m c3]) (by simp [results, Try.results9, go_sem, row20 hr5, row21 hr5, hr5.lt]) rfl ⟨A3, c3, rfl, hc3, hcm3, HRD.out, HFR.out, HBF.out⟩

/-- Whatever is written into them, slots stay slots: they are counted up. -/
theorem spoil_any (A : Option Addr) (c n gs : Nat) (e : Int) (xs : List Int) (W : World) (hx : xs.length = n) (hn : n ≤ 4096) (h : 0 < n → A = some ⟨gs, 0, none⟩ ∧ RowAt W gs 22 (Cs encW xs).toArray) :
    Calls Try.prog 15 #[.agg #[.int .u64 e, .slice A n c]] W fun e W' => e = .returned (.tuple #[]) ∧ Past2 gs gs W W' := by
  have hb0 : Below W.heap.size W (W.alloc (.cells #[.int .u64 e, .slice A n c] 25)) := (Below.refl _ _).alloc (Nat.le_refl _) _
  have HH := hide (fun h0 => (h h0).2.below hb0)
  have hA := fun h0 => (h h0).1
  have r1 : RowAt (W.alloc (.cells #[.int .u64 e, .slice A n c] 25)) W.heap.size 25 #[.int .u64 e, .slice A n c] := RowAt.new _ _ _
  have HB := hide hb0
  have HA := hide hA
  have R1 := hide r1
  have HLT := hide (fun h0 => (h h0).2.lt)
  clear h hb0 hA r1
  go_enter Try.func15, Try.ntmps15
  go_wp2_with fail
  go_loopw [6] (fun i wr => ∃ (j : Nat) (ys : List Int), j ≤ n ∧ i = .int .i64 j ∧ ys.length = n ∧ RowAt wr W.heap.size 25 #[.int .u64 e, .slice A n c] ∧ (0 < n → RowAt wr gs 22 (Cs encW ys).toArray) ∧ Past2 gs gs W wr) (fun i _ => n - (intOf i).toNat)
  case atStart => exact ⟨0, xs, Nat.zero_le _, rfl, hx, R1.out, HH.out, Past2.of_below HB.out⟩
  case round =>
    obtain ⟨j, ys, hj, rfl, hyl, hr1, hrow, hp⟩ := hrel
    by_cases hlt : j < n
    · have h0 : 0 < n := by omega
      obtain rfl := HA.out h0
      have HROW := hide (hrow h0)
      have HP := hide hp
      have R1 := hide hr1
      have hgsW := HLT.out h0
      have hjy : j < ys.length := by omega
      have x0 := row21 hr1
      have l1 := hr1.lt
      have l2 := HROW.out.lt
      have c1 : wr.cell? ⟨gs, j, none⟩ = some (.int .u64 (ys.getD j 0)) := by
        rw [HROW.out.cell]
        have := Cs_at encW_len ys j 0 hjy (by omega)
        rw [List.getD_eq_getElem?_getD, List.getElem?_eq_getElem hjy]
        simpa [encW] using this
      have f1 := HROW.out.frozen j
      obtain ⟨g, hg⟩ : ∃ g, ys.getD j 0 = g := ⟨_, rfl⟩
      rw [hg] at c1
      clear hr1 hrow hp hg
      go_wp2_with fail
      go_roundw
      case rel =>
        refine ⟨j + 1, ys.set j (IntKind.u64.wrap (g + 1)), by omega, by go_num, by rw [List.length_set]; exact hyl, R1.out.setNe (by omega), fun _ => ?_, HP.out.trans (Past2.set1 _ _)⟩
        have h := HROW.out.set j (.int .u64 (IntKind.u64.wrap (g + 1)))
        rw [List.setIfInBounds_toArray, encW_set] at h
        exact h
      case measure => simp [intOf]; omega
    · have HP := hide hp
      clear hp hr1 hrow
      go_wp2_with fail
      go_end0
      exact ⟨rfl, HP.out⟩
end Go.Proofs.Ytopaopfebgonjaa
