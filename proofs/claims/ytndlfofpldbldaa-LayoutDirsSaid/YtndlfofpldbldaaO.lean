/-
  layout.Table's closure: a number is too great.
-/
import Derived.Test.YtndlfofpldbldaaL
set_option linter.unusedSimpArgs false
set_option linter.unusedVariables false
namespace Go.Proofs.Ytndlfofpldbldaa
open Go Go.RowKit

set_option maxRecDepth 100000 in
set_option maxHeartbeats 2000000 in
theorem Table1_num (B b off k kw ko : Nat) (xs : List Int) (x0 x1 x2 x3 : Int) (w : World) (hl : xs.length = 40) (hsrc : ∀ j u, (Cs encW xs)[j]? = some u → w.cell? ⟨b, off + j, none⟩ = some u) (hB : B ≤ kw) (hB2 : B ≤ ko) (hne : kw ≠ ko) (hb : b < B)
    (h1 : kw < w.heap.size) (h2 : ko < w.heap.size) (hw : w.cell? ⟨kw, 0, none⟩ = some (.slice (some ⟨b, off, none⟩) 40 (40 + k))) 
    (hv0 : xs[0]'(by omega) = x0) (hv1 : xs[1]'(by omega) = x1) (hv2 : xs[2]'(by omega) = x2) (hv3 : xs[3]'(by omega) = x3) (hn21 : 14 < x2)
    (cur : Array Value) (hcur : cur.size = 39) (hko : RowAt w ko 55 cur) :
    Calls Try.prog 43 #[.pointer (some ⟨kw, 0, none⟩), .pointer (some ⟨ko, 0, none⟩)] w fun e w' => e = .panicked wrongX ∧ Past ko w w' := by
  have HS := hide hsrc
  have HKO := hide hko
  clear hko
  clear hsrc
  have hwA : ∀ o, (w.alloc o).cell? ⟨kw, 0, none⟩ = some (.slice (some ⟨b, off, none⟩) 40 (40 + k)) := fun o => (World.cell?_alloc_lt w o _ h1).trans hw
  go_enter Try.func43, Try.ntmps43
  go_wp2_with (first | (go_at_call 45; refine (need_ok _).mono ?_; rintro e w1 ⟨rfl, rfl⟩))
  obtain ⟨R0, hR0⟩ : ∃ R : Array Value, R = (zeroT ++ [Value.slice (some ⟨b, off, none⟩) 40 (40 + k)]).toArray := ⟨_, rfl⟩
  have hrow : RowAt (w.alloc (.cells R0 86)) w.heap.size 86 R0 := RowAt.new _ _ _
  have hsz : w.heap.size < (w.alloc (.cells R0 86)).heap.size := by simp
  have hP0 : Below w.heap.size w (w.alloc (.cells R0 86)) := (Below.refl _ _).alloc (Nat.le_refl _) _
  have hg : b < w.heap.size := by omega
  rw [hR0] at hrow hsz hP0
  simp only [zeroT, List.replicate, List.cons_append, List.nil_append] at hrow hsz hP0
  generalize hw0 : w.alloc (.cells _ 86) = w0 at *
  generalize hgg : w.heap.size = g at *
  have hrow0 : RowAt w0 g 86 (zeroT ++ [Value.slice (some ⟨b, off, none⟩) 40 (40 + k)]).toArray := hrow
  refine (next_any g b off 40 (40 + k) 4 (off2 := off + 4) (n2 := 36) (c2 := 36 + k) zeroT w0 hrow0 rfl (by omega) (by omega) (by omega) (by omega) rfl rfl (by omega) 4 rfl).mono ?_
  rintro e w1 ⟨rfl, hrow1, hP1⟩
  dsimp only
  simp only [zeroT, List.replicate, List.cons_append, List.nil_append] at hrow1
  go_wp2_with fail
  have hx : ∀ i (h : i < xs.length), w1.cell? ⟨b, off + i, none⟩ = some (.int .u64 xs[i]) := by
    intro i h
    rw [hP1.cell _ (by simp; omega) (by simp; omega), hP0.cell (by simp; omega)]
    exact HS.out _ _ (by have := Cs_at encW_len xs i 0 h (by omega); simpa [encW] using this)
  have hd0 := hx 0 (by omega)
  have hd1 := hx 1 (by omega)
  have hbg : ¬ b = g := by omega
  have hgb : ¬ g = b := by omega
  have hr0 := hrow1.cell 0
  have hr1 := hrow1.cell 1
  have hr2 := hrow1.cell 2
  have hf0 := hrow1.frozen 0
  have hf1 := hrow1.frozen 1
  have hf2 := hrow1.frozen 2
  simp only [List.getElem?_toArray, List.getElem?_cons_succ, List.getElem?_cons_zero] at hr0 hr1 hr2
  have hx2 := hx 2 (by omega)
  have hx3 := hx 3 (by omega)
  rw [Nat.add_zero] at hd0
  have HX := hide hx
  clear hx
  rw [hv0] at hd0
  rw [hv1] at hd1
  rw [hv2] at hx2
  rw [hv3] at hx3
  clear hw0 hrow hrow0 hw hwA hR0
  have HROW := hide hrow1
  clear hrow1
  go_region
  have hrow2 := ((HROW.out.set 0 (.int .u64 x0)).set 1 (.int .i64 (wrap64 (bits BinOp.and IntKind.u64 x1 255)))).set 2 (.int .u64 (x1 / 256))
  generalize hw2 : World.drew _ = w2 at *
  have hrow2' := hrow2.drew.to hw2
  have hP2 : Past g w1 w2 := by rw [← hw2]; exact (((Past.set 0 _).trans (Past.set 1 _)).trans (Past.set 2 _)).drew
  clear hrow2
  clear hw2
  have hd2 := (hP2.cell ⟨b, off + 2, none⟩ hbg (by have := hP0.size; have := hP1.size; simp; omega)).trans hx2
  have hd3 := (hP2.cell ⟨b, off + 3, none⟩ hbg (by have := hP0.size; have := hP1.size; simp; omega)).trans hx3
  clear hx2 hx3 hd0 hd1 hr0 hr1 hr2 hf0 hf1 hf2
  simp only [List.setIfInBounds_toArray, List.set_cons_succ, List.set_cons_zero] at hrow2'
  have hr3 := hrow2'.cell 3
  have hr4 := hrow2'.cell 4
  have hf3 := hrow2'.frozen 3
  have hf4 := hrow2'.frozen 4
  simp only [List.getElem?_toArray, List.getElem?_cons_succ, List.getElem?_cons_zero] at hr3 hr4
  have HROW2 := hide hrow2'
  clear hrow2'
  go_wp2_with fail
  have hEnd : ∀ wC, w2.heap = wC.heap → Below g w2 wC → Past ko w wC := fun wC e hb => by
    have := hP0.size; have := hP1.size; have := hP2.size
    have h3 : Past g w0 wC := (hP1.trans hP2).trans ⟨hb, fun j _ _ => by rw [e], by rw [e]; exact Nat.le_refl _⟩
    exact Past.of_below (by omega) (by rw [hgg]; exact hP0.trans h3.below)
  have HEND := hide hEnd
  clear hEnd
  refine wp_region_held_drew (S := fun wX => wX.cell? ⟨b, off + 2, none⟩ = some (.int .u64 x2) ∧ wX.cell? ⟨b, off + 3, none⟩ = some (.int .u64 x3)) (by kernel_rfl) ⟨hd2, hd3⟩ (fun hHeld => ?_)
  refine wpAnyH_take (i := 0) (v := ?_) rfl (by kernel_rfl) (by kernel_rfl) (by kernel_rfl) (fun _ _ _ h => h) (Or.inl ⟨by rfl, ?_⟩) (by assumption) ?_
  rotate_left
  · intro w hSw
    (try dsimp only at hSw)
    go_simp
    first | done | with_reducible rfl
  simp only [Act.put, List.setIfInBounds_toArray, List.set_cons_zero, List.set_cons_succ]
  refine wpAnyH_take (i := 1) (v := ?_) rfl (by kernel_rfl) (by kernel_rfl) (by kernel_rfl) (fun _ _ _ h => h) (Or.inl ⟨by rfl, ?_⟩) (by assumption) ?_
  rotate_left
  · intro w hSw
    (try dsimp only at hSw)
    go_simp
    first | done | with_reducible rfl
  simp only [Act.put, List.setIfInBounds_toArray, List.set_cons_zero, List.set_cons_succ]
  refine wpAnyH_take (i := 2) (v := ?_) rfl (by kernel_rfl) (by kernel_rfl) (by kernel_rfl) (fun _ _ _ h => h) (Or.inl ⟨by rfl, ?_⟩) (by assumption) ?_
  rotate_left
  · intro w hSw
    (try dsimp only at hSw)
    go_simp
    first | done | with_reducible rfl
  simp only [Act.put, List.setIfInBounds_toArray, List.set_cons_zero, List.set_cons_succ]
  refine wpAnyH_take (i := 3) (v := ?_) rfl (by kernel_rfl) (by kernel_rfl) (by kernel_rfl) (fun _ _ _ h => h) (Or.inl ⟨by rfl, ?_⟩) (by assumption) ?_
  rotate_left
  · intro w hSw
    (try dsimp only at hSw)
    go_simp
    first | done | with_reducible rfl
  simp only [Act.put, List.setIfInBounds_toArray, List.set_cons_zero, List.set_cons_succ]
  refine wpAnyH_take (i := 4) (v := ?_) rfl (by kernel_rfl) (by kernel_rfl) (by kernel_rfl) (fun _ _ _ h => h) (Or.inl ⟨by rfl, ?_⟩) (by assumption) ?_
  rotate_left
  · intro w hSw
    (try dsimp only at hSw)
    go_simp
    first | done | with_reducible rfl
  simp only [Act.put, List.setIfInBounds_toArray, List.set_cons_zero, List.set_cons_succ]
  refine wpAnyH_take (i := 6) (v := ?_) rfl (by kernel_rfl) (by kernel_rfl) (by kernel_rfl) (fun _ _ _ h => h) (Or.inl ⟨by rfl, ?_⟩) (by assumption) ?_
  rotate_left
  · intro w hSw
    (try dsimp only at hSw)
    go_simp
    first | done | with_reducible rfl
  simp only [Act.put, List.setIfInBounds_toArray, List.set_cons_zero, List.set_cons_succ]
  refine wpAnyH_take (i := 7) (v := ?_) rfl (by kernel_rfl) (by kernel_rfl) (by kernel_rfl) (fun _ _ _ h => h) (Or.inl ⟨by rfl, ?_⟩) (by assumption) ?_
  rotate_left
  · intro w hSw
    (try dsimp only at hSw)
    go_simp
    first | done | with_reducible rfl
  simp only [Act.put, List.setIfInBounds_toArray, List.set_cons_zero, List.set_cons_succ]
  refine wpAnyH_take (i := 8) (v := ?_) rfl (by kernel_rfl) (by kernel_rfl) (by kernel_rfl) (fun _ _ _ h => h) (Or.inl ⟨by rfl, ?_⟩) (by assumption) ?_
  rotate_left
  · intro w hSw
    (try dsimp only at hSw)
    go_simp
    first | done | with_reducible rfl
  simp only [Act.put, List.setIfInBounds_toArray, List.set_cons_zero, List.set_cons_succ]
  refine wpAnyH_ready (rs := [5]) (by kernel_rfl) (by simp) ?_
  refine AllReadyH.cons rfl (fun K hK => ?_) ?_
  · go_simp
    refine (number_no x2 _ hn21).mono ?_
    rintro e wC ⟨rfl, rfl⟩
    exact ⟨rfl, rfl, HEND.out _ rfl (Below.refl g w2).drew⟩
  exact AllReadyH.nil
end Go.Proofs.Ytndlfofpldbldaa
