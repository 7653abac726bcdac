/-
  Arenas: one slab turned (the reference's), entries of a tag (the reference's), an entry's tag, counts.
-/
import Derived.Test.YtejhknboiacgeaaArc
set_option linter.unusedSimpArgs false
set_option linter.unusedVariables false
namespace Go.Proofs.Ytejhknboiacgeaa
open Go Go.RowKit
attribute [local go_sem] via_cell via_frozen

set_option maxHeartbeats 1000000 in
/-- honeycombref11.with. -/
theorem with_any (A : Option Addr) (c n : Nat) (k t g : Int) (xs : List (Int × Int)) (W : World) (h : Rd W W.heap.size 2 A n (Cs encE xs)) (hx : xs.length = n) (hn : n ≤ 4096) :
    Calls Try.prog 38 #[.agg #[.slice A n c], .int .i64 k, .agg #[.int .i64 t, .int .u64 g]] W fun e W' => ∃ A' c', e = .returned (.agg #[.slice A' n c']) ∧ n ≤ c' ∧ c' ≤ 9223372036854775807 ∧ Rd W' W'.heap.size 2 A' n (Cs encE (withL xs k (t, g))) ∧ (∀ p, A' = some p → W.heap.size ≤ p.block) ∧ Below W.heap.size W W' := by
  subst hx
  go_enter Try.func38, Try.ntmps38
  go_wp2_with fail
  obtain ⟨w1, hw1⟩ : ∃ w1, W.alloc (.cells #[.slice A xs.length c] 24) = w1 := ⟨_, rfl⟩
  obtain ⟨w2, hw2⟩ : ∃ w2, w1.alloc (.cells #[.int .i64 t, .int .u64 g] 59) = w2 := ⟨_, rfl⟩
  obtain ⟨w3, hw3⟩ : ∃ w3, w2.alloc (.cells #[.slice none 0 0] 24) = w3 := ⟨_, rfl⟩
  obtain ⟨w4, hw4⟩ : ∃ w4, w3.alloc (.cells #[.slice none 0 0] 24) = w4 := ⟨_, rfl⟩
  have s1 : w1.heap.size = W.heap.size + 1 := by rw [← hw1]; simp
  have s2 : w2.heap.size = W.heap.size + 1 + 1 := by rw [← hw2]; simp [s1]
  have s3 : w3.heap.size = W.heap.size + 1 + 1 + 1 := by rw [← hw3]; simp [s2]
  have s4 : w4.heap.size = W.heap.size + 1 + 1 + 1 + 1 := by rw [← hw4]; simp [s3]
  have b1 : Below W.heap.size W w1 := by rw [← hw1]; exact (Below.refl _ _).alloc (Nat.le_refl _) _
  have b2 : Below w1.heap.size w1 w2 := by rw [← hw2]; exact (Below.refl _ _).alloc (Nat.le_refl _) _
  have b3 : Below w2.heap.size w2 w3 := by rw [← hw3]; exact (Below.refl _ _).alloc (Nat.le_refl _) _
  have b4 : Below w3.heap.size w3 w4 := by rw [← hw4]; exact (Below.refl _ _).alloc (Nat.le_refl _) _
  have r1 : RowAt w4 W.heap.size 24 #[.slice A xs.length c] := by have h := RowAt.new W 24 #[.slice A xs.length c]; rw [hw1] at h; exact ((h.below b2).below b3).below b4
  have r2 : RowAt w4 (W.heap.size + 1) 59 #[.int .i64 t, .int .u64 g] := by have h := RowAt.new w1 59 #[.int .i64 t, .int .u64 g]; rw [hw2, s1] at h; exact (h.below b3).below b4
  have r3 : RowAt w4 (W.heap.size + 1 + 1) 24 #[.slice none 0 0] := by have h := RowAt.new w2 24 #[.slice none 0 0]; rw [hw3, s2] at h; exact h.below b4
  have r4 : RowAt w4 (W.heap.size + 1 + 1 + 1) 24 #[.slice none 0 0] := by have h := RowAt.new w3 24 #[.slice none 0 0]; rw [hw4, s3] at h; exact h
  have hb0 : Below W.heap.size W w4 := ((b1.trans (b2.mono b1.size)).trans (b3.mono (by omega))).trans (b4.mono (by omega))
  rw [hw1, hw2, hw3, hw4]
  clear hw1 hw2 hw3 hw4 b1 b2 b3 b4 s1 s2 s3 w1 w2 w3
  have H0 := hide hb0
  have H1 := hide r1
  have H2 := hide r2
  have H3 := hide r3
  have H4 := hide r4
  clear hb0 r1 r2 r3 r4
  go_loopw [13] (fun i wr => ∃ j : Nat, j ≤ xs.length ∧ i = .int .i64 j ∧ RowAt wr W.heap.size 24 #[.slice A xs.length c] ∧ RowAt wr (W.heap.size + 1) 59 #[.int .i64 t, .int .u64 g] ∧ RowAt wr (W.heap.size + 1 + 1) 24 #[.slice none 0 0] ∧ (∃ v, RowBox wr (W.heap.size + 1 + 1 + 1) 24 (W.heap.size + 4) 59 2 j v (Cs encE (withL (xs.take j) k (t, g)))) ∧ Below W.heap.size W wr) (fun i _ => xs.length - (intOf i).toNat)
  case atStart => exact ⟨0, Nat.zero_le _, rfl, H1.out, H2.out, H3.out, ⟨_, H4.out, World.ownsRow_nil _ _ _ _, by omega⟩, H0.out⟩
  case round =>
    obtain ⟨j, hj, rfl, hr1, hr2, hr3, ⟨v, hbox⟩, hbw⟩ := hrel
    have HB := hide hbw
    have HX := hide hbox
    have R1 := hide hr1
    have R2 := hide hr2
    have R3 := hide hr3
    have hsz : W.heap.size + 1 + 1 + 1 < wr.heap.size := hbox.row.lt
    have hsz2 : W.heap.size + 1 < wr.heap.size := by omega
    have d1 := hbox.cell
    have x1 := row1 hr1
    have y0 := row20 hr2
    have y1 := row21 hr2
    clear hr1 hr2 hr3 hbox hbw
    by_cases hlt : j < xs.length
    · obtain ⟨b1, o1, rfl, hb1, hc1⟩ := (h.below HB.out).elem encE_len hlt
      have hd10 := hc1 0 _ (by omega) rfl
      have hd11 := hc1 1 _ (by omega) rfl
      simp only [Nat.add_zero] at hd10
      clear hc1
      have hbl1 : b1 < wr.heap.size := by omega
      have HS := hide (withL_snoc xs k (t, g) j hlt)
      generalize xs[j] = x at *
      obtain ⟨A3, c3, rfl, hc3, hcm3⟩ := own_form2 HX.out.own
      by_cases hjk : (j : Int) = k
      · have hjb : ((j : Int) == k) = true := by simpa using hjk
        have hrn := Rd.new (wr.alloc (.cells #[.int .i64 t, .int .u64 g] 59)) #[.int .i64 t, .int .u64 g] 59 2 1 rfl
        rw [World.size_alloc] at hrn
        have HRN := hide hrn
        have HJ := hide hjk
        clear hrn hjk
        go_wp2_with (at_builtin; refine wpList_app elS rfl _ _ rfl rfl ((HX.out.own.alloc _).alloc _) rfl HRN.out (by simp [Value.oneCell']) (by omega) (by simp; omega) ?_; intro v2 w2 hown2 hb3 _ _; have HB4 := hide ((((Below.refl (W.heap.size + 4) wr).alloc (by omega) (.cells #[.int .i64 t, .int .u64 g] 59)).alloc (by simp; omega) (.cells #[.int .i64 t, .int .u64 g] 59)).trans hb3); have HR4 := hide (HX.out.row.belowB (by omega) HB4.out); obtain ⟨A2, c2, rfl, hc2, hcm2⟩ := own_form2 hown2; have HO4 := hide hown2; have m1 := row1 HR4.out; have n1 := HR4.out.frozen 0; have l1 := HR4.out.lt; clear hown2 hb3)
        go_roundw
        case rel =>
          refine ⟨j + 1, by omega, by go_num, (R1.out.belowB (by omega) HB4.out).setNe (by omega), (R2.out.belowB (by omega) HB4.out).setNe (by omega), (R3.out.belowB (by omega) HB4.out).setNe (by omega), ⟨_, RowBox.store HR4.out (by omega) ?_⟩, (HB.out.trans (HB4.out.mono (by omega))).setCell (p := ⟨W.heap.size + 1 + 1 + 1, 0, none⟩) (by simp; omega) _⟩
          rw [HS.out, if_pos HJ.out, Cs_append]
          exact HO4.out
        case measure => simp [intOf]; omega
      · have hjb : ((j : Int) == k) = false := by simpa using hjk
        have hrn := Rd.new (wr.alloc (.cells #[.int .i64 x.1, .int .u64 x.2] 59)) #[.int .i64 x.1, .int .u64 x.2] 59 2 1 rfl
        rw [World.size_alloc] at hrn
        have HRN := hide hrn
        have HJ := hide hjk
        clear hrn hjk
        go_wp2_with (at_builtin; refine wpList_app elS rfl _ _ rfl rfl ((HX.out.own.alloc _).alloc _) rfl HRN.out (by simp [Value.oneCell']) (by omega) (by simp; omega) ?_; intro v2 w2 hown2 hb3 _ _; have HB4 := hide ((((Below.refl (W.heap.size + 4) wr).alloc (by omega) (.cells #[.int .i64 x.1, .int .u64 x.2] 59)).alloc (by simp; omega) (.cells #[.int .i64 x.1, .int .u64 x.2] 59)).trans hb3); have HR4 := hide (HX.out.row.belowB (by omega) HB4.out); obtain ⟨A2, c2, rfl, hc2, hcm2⟩ := own_form2 hown2; have HO4 := hide hown2; have m1 := row1 HR4.out; have n1 := HR4.out.frozen 0; have l1 := HR4.out.lt; clear hown2 hb3)
        go_roundw
        case rel =>
          refine ⟨j + 1, by omega, by go_num, (R1.out.belowB (by omega) HB4.out).setNe (by omega), (R2.out.belowB (by omega) HB4.out).setNe (by omega), (R3.out.belowB (by omega) HB4.out).setNe (by omega), ⟨_, RowBox.store HR4.out (by omega) ?_⟩, (HB.out.trans (HB4.out.mono (by omega))).setCell (p := ⟨W.heap.size + 1 + 1 + 1, 0, none⟩) (by simp; omega) _⟩
          rw [HS.out, if_neg HJ.out, Cs_append]
          exact HO4.out
        case measure => simp [intOf]; omega
    · obtain rfl : j = xs.length := by omega
      obtain ⟨A3, c3, rfl, hc3, hcm3⟩ := own_form2 HX.out.own
      have z0 := row1 R3.out
      have z1 := R3.out.frozen 0
      have z2 : W.heap.size + 1 + 1 < wr.heap.size := by omega
      go_wp2_with fail
      refine bodyPost_ret (v := .agg #[.slice A3 xs.length c3]) (by simp [results, Try.results38, go_sem, z0, z2]) rfl ⟨A3, c3, rfl, hc3, hcm3, ?_, fun p hp => by have := own_fresh HX.out.own p hp; omega, HB.out.setCell (p := ⟨W.heap.size + 1 + 1, 0, none⟩) (by simp; omega) _⟩
      have h := HX.out.own
      rw [List.take_length] at h
      exact Rd.of_own (own_other h (fun j hj => heap_setCell_ne _ _ _ _ (by show j ≠ W.heap.size + 1 + 1; omega)))

set_option maxHeartbeats 1000000 in
/-- honeycombref11.Entries. -/
theorem rents_any (A : Option Addr) (c n : Nat) (tag : Int) (xs : List (Int × Int)) (W : World) (h : Rd W W.heap.size 2 A n (Cs encE xs)) (hx : xs.length = n) (hn : n ≤ 4096) :
    Calls Try.prog 25 #[.agg #[.slice A n c], .int .i64 tag] W fun e W' => ∃ A' c', e = .returned (.slice A' (ents xs tag).length c') ∧ (ents xs tag).length ≤ c' ∧ c' ≤ 9223372036854775807 ∧ Rd W' W'.heap.size 2 A' (ents xs tag).length (Cs encE (ents xs tag)) ∧ (∀ p, A' = some p → W.heap.size ≤ p.block) ∧ Below W.heap.size W W' := by
  subst hx
  go_enter Try.func25, Try.ntmps25
  go_wp2_with fail
  have hb0 : Below W.heap.size W (W.alloc (.cells #[.slice A xs.length c] 24)) := (Below.refl _ _).alloc (Nat.le_refl _) _
  have r1 : RowAt (W.alloc (.cells #[.slice A xs.length c] 24)) W.heap.size 24 #[.slice A xs.length c] := RowAt.new _ _ _
  have hs0 : (W.alloc (.cells #[.slice A xs.length c] 24)).heap.size = W.heap.size + 1 := by simp
  generalize (W.alloc (.cells #[.slice A xs.length c] 24)) = w0 at *
  have H0 := hide hb0
  have H1 := hide r1
  clear hb0 r1
  go_loopw [5, 11] (fun v i wr => ∃ j : Nat, j ≤ xs.length ∧ i = .int .i64 j ∧ RowAt wr W.heap.size 24 #[.slice A xs.length c] ∧ wr.ownsRow (W.heap.size + 1) 31 2 v (ents (xs.take j) tag).length (Cs encE (ents (xs.take j) tag)) ∧ Below W.heap.size W wr) (fun _ i _ => xs.length - (intOf i).toNat)
  case atStart => exact ⟨0, Nat.zero_le _, rfl, H1.out, World.ownsRow_nil _ _ _ _, H0.out⟩
  case round =>
    obtain ⟨j, hj, rfl, hr1, hown, hbw⟩ := hrel
    have HB := hide hbw
    have HO := hide hown
    have R1 := hide hr1
    have hsz : W.heap.size < wr.heap.size := hr1.lt
    have x1 := row1 hr1
    clear hr1 hown hbw
    by_cases hlt : j < xs.length
    · obtain ⟨b1, o1, rfl, hb1, hc1⟩ := (h.below HB.out).elem encE_len hlt
      have hd10 := hc1 0 _ (by omega) rfl
      have hd11 := hc1 1 _ (by omega) rfl
      simp only [Nat.add_zero] at hd10
      clear hc1
      have hbl1 : b1 < wr.heap.size := by omega
      have HS := hide (ents_snoc xs tag j hlt)
      have hle := ents_length (xs.take j) tag
      have hlt2 : (xs.take j).length ≤ 4096 := by rw [List.length_take]; omega
      generalize xs[j] = x at *
      by_cases hjk : x.1 = tag
      · have hjb : (x.1 == tag) = true := by simpa using hjk
        have hrn := Rd.new (wr.alloc (.cells #[.int .i64 x.1, .int .u64 x.2] 59)) #[.int .i64 (j : Int), .int .u64 x.2] 31 2 1 rfl
        rw [World.size_alloc] at hrn
        have HRN := hide hrn
        have HJ := hide hjk
        clear hrn hjk
        go_wp2_with (at_builtin; refine wpList_app elE rfl _ _ rfl rfl ((HO.out.alloc _).alloc _) rfl HRN.out (by simp [Value.oneCell']) (by omega) (by simp; omega) ?_; intro v2 w2 hown2 hb3 _ _; have HB4 := hide ((((Below.refl (W.heap.size + 1) wr).alloc (by omega) (.cells #[.int .i64 x.1, .int .u64 x.2] 59)).alloc (by simp; omega) (.cells #[.int .i64 (j : Int), .int .u64 x.2] 31)).trans hb3); have HO4 := hide hown2; clear hown2 hb3)
        go_roundw
        case rel =>
          refine ⟨j + 1, by omega, by go_num, R1.out.belowB (by omega) HB4.out, ?_, HB.out.trans (HB4.out.mono (by omega))⟩
          rw [HS.out, if_pos HJ.out, Cs_append, List.length_append]
          exact HO4.out
        case measure => simp [intOf]; omega
      · have hjb : (x.1 == tag) = false := by simpa using hjk
        have HJ := hide hjk
        clear hjk
        go_wp2_with fail
        go_roundw
        case rel =>
          refine ⟨j + 1, by omega, by go_num, R1.out.below ((Below.refl _ _).alloc (Nat.le_refl _) _), ?_, HB.out.alloc HB.out.size _⟩
          rw [HS.out, if_neg HJ.out, List.append_nil]
          exact HO.out.alloc _
        case measure => simp [intOf]; omega
    · obtain rfl : j = xs.length := by omega
      have h := HO.out
      rw [List.take_length] at h
      obtain ⟨A3, c3, rfl, hc3, hcm3⟩ := own_form2 h
      have H := hide (Rd.of_own h)
      have HFR := hide (own_fresh h)
      clear h
      go_wp2_with fail
      go_ret
      exact ⟨A3, c3, rfl, hc3, hcm3, H.out, fun p hp => by have := HFR.out p hp; omega, HB.out⟩
end Go.Proofs.Ytejhknboiacgeaa
