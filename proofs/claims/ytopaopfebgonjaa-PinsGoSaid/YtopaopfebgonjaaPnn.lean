/-
  Pins: the layer wakes.
-/
import Derived.Test.YtopaopfebgonjaaPnm
set_option linter.unusedSimpArgs false
set_option linter.unusedVariables false
namespace Go.Proofs.Ytopaopfebgonjaa
open Go Go.RowKit
attribute [local go_sem] via_cell via_frozen

def P1 : List (Int × Int × Int) := [(1, 0, 0), (3, 0, 0), (3, 0, 0)]
def P2 : List (Int × Int × Int) := [(2, 0, 0), (3, 0, 0), (1, 1, 2), (3, 0, 0)]
theorem u64_all (S : List Int) (h : (S.all fun s => decide (0 ≤ s) && decide (s < 1000)) = true) : ∀ s ∈ S, U64 s := fun s hs => by
  rw [List.all_eq_true] at h
  have := h s hs
  simp at this
  exact ⟨this.1, by omega⟩
theorem P1_pos : ∀ o ∈ P1, 0 ≤ o.2.2 := by decide
theorem P2_pos : ∀ o ∈ P2, 0 ≤ o.2.2 := by decide

set_option maxRecDepth 100000 in
set_option maxHeartbeats 4000000 in
theorem wakes_any (W : World) : Calls Try.prog 8 #[] W fun e W' => e = .returned (.bool true) ∧ Below W.heap.size W W' := by
  have HN := hide (new_yes 2 W (by omega) (by omega))
  have HB := hide (Below.refl W.heap.size W)
  go_enter Try.func8, Try.ntmps8
  go_wp2_with fail
  refine (HN.out).mono ?_
  rintro e w1 ⟨A0, c0, rfl, hc0, hcm0, hrd, hb⟩
  replace HB := hide (HB.out.trans (hb.mono HB.out.size))
  have HA := hide (hrd)
  clear hb HN hrd
  go_wp2_with fail
  obtain ⟨g1, hg1⟩ : ∃ g, w1.heap.size = g := ⟨_, rfl⟩
  have hWg1 : W.heap.size ≤ g1 := by rw [← hg1]; exact HB.out.size
  have hbx : Below w1.heap.size w1 (w1.alloc (.cells #[.int .u64 0, .slice A0 2 c0] 25)) := (Below.refl _ _).alloc (Nat.le_refl _) _
  have hrx := RowAt.new w1 25 #[.int .u64 0, .slice A0 2 c0]
  rw [hg1] at hrx
  replace HA := hide ((HA.out.below hbx).more hbx.size)
  replace HB := hide (HB.out.trans (hbx.mono HB.out.size))
  have hs2 : (w1.alloc (.cells #[.int .u64 0, .slice A0 2 c0] 25)).heap.size = g1 + 1 := by rw [World.size_alloc, hg1]
  have R1 := hide hrx
  clear hbx hrx
  generalize w1.alloc (.cells #[.int .u64 0, .slice A0 2 c0] 25) = w3 at *
  have hbx : Below w3.heap.size w3 (w3.alloc (.cells #[.int .i64 1, .int .i64 0, .int .u64 0, .int .i64 3, .int .i64 0, .int .u64 0, .int .i64 3, .int .i64 0, .int .u64 0] 32)) := (Below.refl _ _).alloc (Nat.le_refl _) _
  have hrx := RowAt.new w3 32 #[.int .i64 1, .int .i64 0, .int .u64 0, .int .i64 3, .int .i64 0, .int .u64 0, .int .i64 3, .int .i64 0, .int .u64 0]
  rw [hs2] at hrx
  replace HA := hide ((HA.out.below hbx).more hbx.size)
  replace R1 := hide (R1.out.below hbx)
  replace HB := hide (HB.out.trans (hbx.mono HB.out.size))
  have hs4 : (w3.alloc (.cells #[.int .i64 1, .int .i64 0, .int .u64 0, .int .i64 3, .int .i64 0, .int .u64 0, .int .i64 3, .int .i64 0, .int .u64 0] 32)).heap.size = g1 + 1 + 1 := by rw [World.size_alloc, hs2]
  have RO := hide hrx
  clear hbx hrx
  generalize w3.alloc (.cells #[.int .i64 1, .int .i64 0, .int .u64 0, .int .i64 3, .int .i64 0, .int .u64 0, .int .i64 3, .int .i64 0, .int .u64 0] 32) = w5 at *
  (try rw [hg1])
  clear hg1 hs2 hs4
  skip
  have HP1 : Hid (Rd w5 w5.heap.size 3 (some ⟨g1 + 1, 0, none⟩) 3 (Cs encO P1)) := hide ⟨rfl, fun _ => ⟨g1 + 1, 0, rfl, RO.out.lt, fun j u hu => by rw [Nat.zero_add, RO.out.cell]; simpa [Cs, encO, P1] using hu⟩⟩
  clear RO
  have hlt1 : g1 < w5.heap.size := R1.out.lt
  with_reducible refine (Run_any A0 c0 2 0 [0, 0] (some ⟨g1 + 1, 0, none⟩) 3 3 P1 _ HA.out rfl (by omega) HP1.out rfl (by omega) P1_pos (by omega) (u64_all _ (by decide)) 0 1 [1, 0] 1 2 (by decide) (by decide) rfl).mono ?_
  rintro e w6 ⟨A2, c2, rfl, hc2, hcm2, hout, hb⟩
  replace HA := hide ((HA.out.below hb).more hb.size)
  replace HP1 := hide ((HP1.out.below hb).more hb.size)
  replace R1 := hide (R1.out.below hb)
  replace HB := hide (HB.out.trans (hb.mono HB.out.size))
  have HA2 := hide (hout.rd)
  clear hb
  have HF2 := hide (fun (p : Addr) (hp : A2 = some p) => (show p.block ≠ g1 by have h := hout.own (by omega); obtain ⟨gs, h1, h2, h3⟩ := h; rw [hp] at h1; injection h1 with h1; rw [h1]; show gs ≠ g1; omega))
  clear hout hlt1
  clear HA HP1
  have qR1_0 := row20 R1.out
  have qR1_1 := row21 R1.out
  have lR1 := R1.out.lt
  have fR1_0 := R1.out.frozen 0
  have fR1_1 := R1.out.frozen 1
  go_wp2_with fail
  clear qR1_0 qR1_1 lR1 fR1_0 fR1_1
  have R1' := hide ((R1.out.set 0 (.int .u64 1)).set 1 (.slice A2 2 c2))
  replace HA2 := hide (((HA2.out.setOffS (g := g1) (HF2.out) 0 (.int .u64 1)).setOffS (g := g1) (HF2.out) 1 (.slice A2 2 c2)))
  replace HB := hide (((HB.out.setCell (p := ⟨g1, 0, none⟩) (by show _ ≤ g1; omega) (.int .u64 1)).setCell (p := ⟨g1, 1, none⟩) (by show _ ≤ g1; omega) (.slice A2 2 c2)))
  generalize ((w6.setCell ⟨g1, 0, none⟩ (.int .u64 1)).setCell ⟨g1, 1, none⟩ (.slice A2 2 c2)) = w7 at *
  replace R1 : Hid (RowAt w7 (g1) 25 #[.int .u64 1, .slice A2 2 c2]) := hide (by simpa using R1'.out)
  clear R1'
  have qR1_0 := row20 R1.out
  have qR1_1 := row21 R1.out
  have lR1 := R1.out.lt
  go_wp2_with fail
  clear qR1_0 qR1_1 lR1
  with_reducible refine (Oldest_any A2 c2 2 1 [1, 0] _ HA2.out rfl (by omega) (u64_all _ (by decide)) (by omega) 0 true (by decide) (by decide)).mono ?_
  rintro e w8 ⟨rfl, hb⟩
  replace HA2 := hide ((HA2.out.below hb).more hb.size)
  replace R1 := hide (R1.out.below hb)
  replace HB := hide (HB.out.trans (hb.mono HB.out.size))
  clear hb
  have qR1_0 := row20 R1.out
  have qR1_1 := row21 R1.out
  have lR1 := R1.out.lt
  go_wp2_with fail
  clear qR1_0 qR1_1 lR1
  obtain ⟨g2, hg2⟩ : ∃ g, w8.heap.size = g := ⟨_, rfl⟩
  have hWg2 : W.heap.size ≤ g2 := by rw [← hg2]; exact HB.out.size
  have hbx : Below w8.heap.size w8 (w8.alloc (.cells #[.int .i64 2, .int .i64 0, .int .u64 0, .int .i64 3, .int .i64 0, .int .u64 0, .int .i64 1, .int .i64 1, .int .u64 2, .int .i64 3, .int .i64 0, .int .u64 0] 32)) := (Below.refl _ _).alloc (Nat.le_refl _) _
  have hrx := RowAt.new w8 32 #[.int .i64 2, .int .i64 0, .int .u64 0, .int .i64 3, .int .i64 0, .int .u64 0, .int .i64 1, .int .i64 1, .int .u64 2, .int .i64 3, .int .i64 0, .int .u64 0]
  rw [hg2] at hrx
  replace HA2 := hide ((HA2.out.below hbx).more hbx.size)
  replace R1 := hide (R1.out.below hbx)
  replace HB := hide (HB.out.trans (hbx.mono HB.out.size))
  have hs9 : (w8.alloc (.cells #[.int .i64 2, .int .i64 0, .int .u64 0, .int .i64 3, .int .i64 0, .int .u64 0, .int .i64 1, .int .i64 1, .int .u64 2, .int .i64 3, .int .i64 0, .int .u64 0] 32)).heap.size = g2 + 1 := by rw [World.size_alloc, hg2]
  have RO := hide hrx
  clear hbx hrx
  generalize w8.alloc (.cells #[.int .i64 2, .int .i64 0, .int .u64 0, .int .i64 3, .int .i64 0, .int .u64 0, .int .i64 1, .int .i64 1, .int .u64 2, .int .i64 3, .int .i64 0, .int .u64 0] 32) = w10 at *
  (try rw [hg2])
  clear hg2 hs9
  have HP2 : Hid (Rd w10 w10.heap.size 3 (some ⟨g2, 0, none⟩) 4 (Cs encO P2)) := hide ⟨rfl, fun _ => ⟨g2, 0, rfl, RO.out.lt, fun j u hu => by rw [Nat.zero_add, RO.out.cell]; simpa [Cs, encO, P2] using hu⟩⟩
  clear RO
  with_reducible refine (Run_any A2 c2 2 1 [1, 0] (some ⟨g2, 0, none⟩) 4 4 P2 _ HA2.out rfl (by omega) HP2.out rfl (by omega) P2_pos (by omega) (u64_all _ (by decide)) 0 2 [0, 1] 1 2 (by decide) (by decide) rfl).mono ?_
  rintro e w11 ⟨A3, c3, rfl, hc3, hcm3, hout, hb⟩
  replace HA2 := hide ((HA2.out.below hb).more hb.size)
  replace HP2 := hide ((HP2.out.below hb).more hb.size)
  replace R1 := hide (R1.out.below hb)
  replace HB := hide (HB.out.trans (hb.mono HB.out.size))
  have HA3 := hide (hout.rd)
  clear hb hout
  clear HP2
  have qR1_0 := row20 R1.out
  have qR1_1 := row21 R1.out
  have lR1 := R1.out.lt
  go_wp2_with fail
  clear qR1_0 qR1_1 lR1
  obtain ⟨g7, hg7⟩ : ∃ g, w11.heap.size = g := ⟨_, rfl⟩
  have hWg7 : W.heap.size ≤ g7 := by rw [← hg7]; exact HB.out.size
  have hbx : Below w11.heap.size w11 (w11.alloc (.cells #[.int .u64 2, .slice A3 2 c3] 25)) := (Below.refl _ _).alloc (Nat.le_refl _) _
  have hrx := RowAt.new w11 25 #[.int .u64 2, .slice A3 2 c3]
  rw [hg7] at hrx
  replace HA2 := hide ((HA2.out.below hbx).more hbx.size)
  replace HA3 := hide ((HA3.out.below hbx).more hbx.size)
  replace R1 := hide (R1.out.below hbx)
  replace HB := hide (HB.out.trans (hbx.mono HB.out.size))
  have hs12 : (w11.alloc (.cells #[.int .u64 2, .slice A3 2 c3] 25)).heap.size = g7 + 1 := by rw [World.size_alloc, hg7]
  have R7 := hide hrx
  clear hbx hrx
  generalize w11.alloc (.cells #[.int .u64 2, .slice A3 2 c3] 25) = w13 at *
  (try rw [hg7])
  clear hg7 hs12
  with_reducible refine (Do_any A3 c3 2 2 [0, 1] 4 0 0 _ HA3.out rfl (by omega) (u64_all _ (by decide)) (by omega) (by omega) 2 0 [] 0 (by decide) (by decide) (by decide) rfl).mono ?_
  rintro e w14 ⟨A4, c4, rfl, hc4, hcm4, hout, hb⟩
  replace HA2 := hide ((HA2.out.below hb).more hb.size)
  replace HA3 := hide ((HA3.out.below hb).more hb.size)
  replace R1 := hide (R1.out.below hb)
  replace R7 := hide (R7.out.below hb)
  replace HB := hide (HB.out.trans (hb.mono HB.out.size))
  clear hb hout
  have qR1_0 := row20 R1.out
  have qR1_1 := row21 R1.out
  have lR1 := R1.out.lt
  have qR7_0 := row20 R7.out
  have qR7_1 := row21 R7.out
  have lR7 := R7.out.lt
  go_wp2_with fail
  clear qR1_0 qR1_1 lR1 qR7_0 qR7_1 lR7
  obtain ⟨g8, hg8⟩ : ∃ g, w14.heap.size = g := ⟨_, rfl⟩
  have hWg8 : W.heap.size ≤ g8 := by rw [← hg8]; exact HB.out.size
  have hbx : Below w14.heap.size w14 (w14.alloc (.cells #[.int .u64 0, .slice A4 0 c4] 25)) := (Below.refl _ _).alloc (Nat.le_refl _) _
  have hrx := RowAt.new w14 25 #[.int .u64 0, .slice A4 0 c4]
  rw [hg8] at hrx
  replace HA2 := hide ((HA2.out.below hbx).more hbx.size)
  replace HA3 := hide ((HA3.out.below hbx).more hbx.size)
  replace R1 := hide (R1.out.below hbx)
  replace R7 := hide (R7.out.below hbx)
  replace HB := hide (HB.out.trans (hbx.mono HB.out.size))
  have hs15 : (w14.alloc (.cells #[.int .u64 0, .slice A4 0 c4] 25)).heap.size = g8 + 1 := by rw [World.size_alloc, hg8]
  clear hbx hrx
  generalize w14.alloc (.cells #[.int .u64 0, .slice A4 0 c4] 25) = w16 at *
  (try rw [hg8])
  clear hg8 hs15
  with_reducible refine (Back_any A2 c2 2 1 [1, 0] _ HA2.out rfl (by omega) (u64_all _ (by decide)) (by omega) [0] (by decide) 1 rfl).mono ?_
  rintro e w17 ⟨A5, c5, rfl, hc5, hcm5, hrd, hb⟩
  replace HA2 := hide ((HA2.out.below hb).more hb.size)
  replace HA3 := hide ((HA3.out.below hb).more hb.size)
  replace R1 := hide (R1.out.below hb)
  replace R7 := hide (R7.out.below hb)
  replace HB := hide (HB.out.trans (hb.mono HB.out.size))
  have HA5 := hide (hrd)
  clear hb hrd
  have qR1_0 := row20 R1.out
  have qR1_1 := row21 R1.out
  have lR1 := R1.out.lt
  have qR7_0 := row20 R7.out
  have qR7_1 := row21 R7.out
  have lR7 := R7.out.lt
  go_wp2_with fail
  clear qR1_0 qR1_1 lR1 qR7_0 qR7_1 lR7
  obtain ⟨g9, hg9⟩ : ∃ g, w17.heap.size = g := ⟨_, rfl⟩
  have hWg9 : W.heap.size ≤ g9 := by rw [← hg9]; exact HB.out.size
  have hbx : Below w17.heap.size w17 (w17.alloc (.cells #[.int .i64 0] 3)) := (Below.refl _ _).alloc (Nat.le_refl _) _
  have hrx := RowAt.new w17 3 #[.int .i64 0]
  rw [hg9] at hrx
  replace HA2 := hide ((HA2.out.below hbx).more hbx.size)
  replace HA3 := hide ((HA3.out.below hbx).more hbx.size)
  replace HA5 := hide ((HA5.out.below hbx).more hbx.size)
  replace R1 := hide (R1.out.below hbx)
  replace R7 := hide (R7.out.below hbx)
  replace HB := hide (HB.out.trans (hbx.mono HB.out.size))
  have hs18 : (w17.alloc (.cells #[.int .i64 0] 3)).heap.size = g9 + 1 := by rw [World.size_alloc, hg9]
  have RI := hide hrx
  clear hbx hrx
  generalize w17.alloc (.cells #[.int .i64 0] 3) = w19 at *
  (try rw [hg9])
  clear hg9 hs18
  have HI : Hid (Rd w19 w19.heap.size 1 (some ⟨g9, 0, none⟩) 1 (Cs encI [0])) := hide ⟨rfl, fun _ => ⟨g9, 0, rfl, RI.out.lt, fun j u hu => by rw [Nat.zero_add, RI.out.cell]; simpa [Cs, encI] using hu⟩⟩
  clear RI
  with_reducible refine (EqualIK A5 (some ⟨g9, 0, none⟩) c5 1 [0] [0] _ HA5.out HI.out rfl rfl (by omega) (by omega) true (by simp)).mono ?_
  rintro e w20 ⟨rfl, hb⟩
  replace HA2 := hide ((HA2.out.below hb).more hb.size)
  replace HA3 := hide ((HA3.out.below hb).more hb.size)
  replace HA5 := hide ((HA5.out.below hb).more hb.size)
  replace HI := hide ((HI.out.below hb).more hb.size)
  replace R1 := hide (R1.out.below hb)
  replace R7 := hide (R7.out.below hb)
  replace HB := hide (HB.out.trans (hb.mono HB.out.size))
  clear hb
  clear HA5 HI
  have qR1_0 := row20 R1.out
  have qR1_1 := row21 R1.out
  have lR1 := R1.out.lt
  have qR7_0 := row20 R7.out
  have qR7_1 := row21 R7.out
  have lR7 := R7.out.lt
  go_wp2_with fail
  clear qR1_0 qR1_1 lR1 qR7_0 qR7_1 lR7
  with_reducible refine (safe_any A2 c2 2 1 0 [1, 0] _ HA2.out rfl (by unfold U64; omega) (by omega) false (by decide)).mono ?_
  rintro e w21 ⟨rfl, hb⟩
  replace HA2 := hide ((HA2.out.below hb).more hb.size)
  replace HA3 := hide ((HA3.out.below hb).more hb.size)
  replace R1 := hide (R1.out.below hb)
  replace R7 := hide (R7.out.below hb)
  replace HB := hide (HB.out.trans (hb.mono HB.out.size))
  clear hb
  clear HA2
  have qR1_0 := row20 R1.out
  have qR1_1 := row21 R1.out
  have lR1 := R1.out.lt
  have qR7_0 := row20 R7.out
  have qR7_1 := row21 R7.out
  have lR7 := R7.out.lt
  go_wp2_with fail
  clear qR1_0 qR1_1 lR1 qR7_0 qR7_1 lR7
  with_reducible refine (safe_any A3 c3 2 2 0 [0, 1] _ HA3.out rfl (by unfold U64; omega) (by omega) true (by decide)).mono ?_
  rintro e w22 ⟨rfl, hb⟩
  replace HA3 := hide ((HA3.out.below hb).more hb.size)
  replace R1 := hide (R1.out.below hb)
  replace R7 := hide (R7.out.below hb)
  replace HB := hide (HB.out.trans (hb.mono HB.out.size))
  clear hb
  have qR1_0 := row20 R1.out
  have qR1_1 := row21 R1.out
  have lR1 := R1.out.lt
  have qR7_0 := row20 R7.out
  have qR7_1 := row21 R7.out
  have lR7 := R7.out.lt
  go_wp2_with fail
  clear qR1_0 qR1_1 lR1 qR7_0 qR7_1 lR7
  with_reducible refine (Back_any A3 c3 2 2 [0, 1] _ HA3.out rfl (by omega) (u64_all _ (by decide)) (by omega) [1] (by decide) 1 rfl).mono ?_
  rintro e w23 ⟨A6, c6, rfl, hc6, hcm6, hrd, hb⟩
  replace HA3 := hide ((HA3.out.below hb).more hb.size)
  replace R1 := hide (R1.out.below hb)
  replace R7 := hide (R7.out.below hb)
  replace HB := hide (HB.out.trans (hb.mono HB.out.size))
  have HA6 := hide (hrd)
  clear hb hrd
  have qR1_0 := row20 R1.out
  have qR1_1 := row21 R1.out
  have lR1 := R1.out.lt
  have qR7_0 := row20 R7.out
  have qR7_1 := row21 R7.out
  have lR7 := R7.out.lt
  go_wp2_with fail
  clear qR1_0 qR1_1 lR1 qR7_0 qR7_1 lR7
  obtain ⟨g10, hg10⟩ : ∃ g, w23.heap.size = g := ⟨_, rfl⟩
  have hWg10 : W.heap.size ≤ g10 := by rw [← hg10]; exact HB.out.size
  have hbx : Below w23.heap.size w23 (w23.alloc (.cells #[.int .i64 1] 3)) := (Below.refl _ _).alloc (Nat.le_refl _) _
  have hrx := RowAt.new w23 3 #[.int .i64 1]
  rw [hg10] at hrx
  replace HA3 := hide ((HA3.out.below hbx).more hbx.size)
  replace HA6 := hide ((HA6.out.below hbx).more hbx.size)
  replace R1 := hide (R1.out.below hbx)
  replace R7 := hide (R7.out.below hbx)
  replace HB := hide (HB.out.trans (hbx.mono HB.out.size))
  have hs24 : (w23.alloc (.cells #[.int .i64 1] 3)).heap.size = g10 + 1 := by rw [World.size_alloc, hg10]
  have RI := hide hrx
  clear hbx hrx
  generalize w23.alloc (.cells #[.int .i64 1] 3) = w25 at *
  (try rw [hg10])
  clear hg10 hs24
  have HI : Hid (Rd w25 w25.heap.size 1 (some ⟨g10, 0, none⟩) 1 (Cs encI [1])) := hide ⟨rfl, fun _ => ⟨g10, 0, rfl, RI.out.lt, fun j u hu => by rw [Nat.zero_add, RI.out.cell]; simpa [Cs, encI] using hu⟩⟩
  clear RI
  with_reducible refine (EqualIK A6 (some ⟨g10, 0, none⟩) c6 1 [1] [1] _ HA6.out HI.out rfl rfl (by omega) (by omega) true (by simp)).mono ?_
  rintro e w26 ⟨rfl, hb⟩
  replace HA3 := hide ((HA3.out.below hb).more hb.size)
  replace HA6 := hide ((HA6.out.below hb).more hb.size)
  replace HI := hide ((HI.out.below hb).more hb.size)
  replace R1 := hide (R1.out.below hb)
  replace R7 := hide (R7.out.below hb)
  replace HB := hide (HB.out.trans (hb.mono HB.out.size))
  clear hb
  go_wp2_with fail
  go_ret
  exact ⟨rfl, HB.out⟩
end Go.Proofs.Ytopaopfebgonjaa
