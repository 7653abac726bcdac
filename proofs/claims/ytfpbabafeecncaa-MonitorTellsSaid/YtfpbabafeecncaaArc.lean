/-
  Arenas: the same ones, new ones, one slab turned (the reference's), tags, counts, entries (the reference's).
-/
import Derived.Test.YtfpbabafeecncaaArb
set_option linter.unusedSimpArgs false
set_option linter.unusedVariables false
namespace Go.Proofs.Ytfpbabafeecncaa
open Go Go.RowKit
attribute [local go_sem] via_cell via_frozen

theorem same_any (A1 A2 : Option Addr) (c1 c2 n1 n2 : Nat) (xs ys : List (Int × Int)) (W : World) (h1 : Rd W W.heap.size 2 A1 n1 (Cs encE xs)) (h2 : Rd W W.heap.size 2 A2 n2 (Cs encE ys)) (hx : xs.length = n1) (hy : ys.length = n2)
    (hl1 : n1 ≤ 4096) (hl2 : n2 ≤ 4096) (r : Bool) (hr : decide (xs = ys) = r) :
    Calls Try.prog 54 #[.agg #[.slice A1 n1 c1], .agg #[.slice A2 n2 c2]] W fun e W' => e = .returned (.bool r) ∧ Below W.heap.size W W' := by
  subst hx hy
  have hb := ((Below.refl W.heap.size W).alloc (Nat.le_refl _) (.cells #[.slice A1 xs.length c1] 27)).alloc (by simp) (.cells #[.slice A2 ys.length c2] 27)
  have HC := hide (EqualS W.heap.size W.heap.size A1 A2 c1 c2 xs ys _ (h1.below hb) (h2.below hb) hb.size hb.size hl1 hl2 r hr)
  have HB := hide hb
  clear hb hr
  go_enter Try.func54, Try.ntmps54
  go_wp2_with fail
  refine HC.out.mono ?_
  rintro e w1 ⟨rfl, hb⟩
  go_wp2_with fail
  go_ret
  exact ⟨rfl, HB.out.trans (hb.mono HB.out.size)⟩

theorem rsame_any (A1 A2 : Option Addr) (c1 c2 n1 n2 : Nat) (xs ys : List (Int × Int)) (W : World) (h1 : Rd W W.heap.size 2 A1 n1 (Cs encE xs)) (h2 : Rd W W.heap.size 2 A2 n2 (Cs encE ys)) (hx : xs.length = n1) (hy : ys.length = n2)
    (hl1 : n1 ≤ 4096) (hl2 : n2 ≤ 4096) (r : Bool) (hr : decide (xs = ys) = r) :
    Calls Try.prog 32 #[.agg #[.slice A1 n1 c1], .agg #[.slice A2 n2 c2]] W fun e W' => e = .returned (.bool r) ∧ Below W.heap.size W W' := by
  subst hx hy
  have HRR := hide hr
  clear hr
  have hb0 := ((Below.refl W.heap.size W).alloc (Nat.le_refl _) (.cells #[.slice A1 xs.length c1] 27)).alloc (by simp) (.cells #[.slice A2 ys.length c2] 27)
  by_cases hlen : xs.length = ys.length
  · have ht : ((xs.length : Int) != (ys.length : Int)) = false := by rw [bne_eq_false_iff_eq]; omega
    have HL := hide hlen
    clear hlen
    go_enter Try.func32, Try.ntmps32
    go_wp2_with fail
    have hr2 : RowAt ((W.alloc (.cells #[.slice A1 xs.length c1] 27)).alloc (.cells #[.slice A2 ys.length c2] 27)) (W.heap.size + 1) 27 #[.slice A2 ys.length c2] := by
      have h := RowAt.new (W.alloc (.cells #[.slice A1 xs.length c1] 27)) 27 #[.slice A2 ys.length c2]
      rw [World.size_alloc] at h; exact h
    generalize ((W.alloc (.cells #[.slice A1 xs.length c1] 27)).alloc (.cells #[.slice A2 ys.length c2] 27)) = w0 at *
    have HB0 := hide hb0
    have HR2 := hide hr2
    have hs0 := hb0.size
    clear hb0 hr2
    go_loopw [17] (fun i wr => ∃ k : Nat, k ≤ xs.length ∧ i = .int .i64 k ∧ xs.take k = ys.take k ∧ Below w0.heap.size w0 wr) (fun i _ => xs.length - (intOf i).toNat)
    case atStart => exact ⟨0, Nat.zero_le _, rfl, rfl, Below.refl _ _⟩
    case round =>
      obtain ⟨k, hk, rfl, hpre, hbw⟩ := hrel
      have HP := hide hpre
      have hbW := HB0.out.trans (hbw.mono hs0)
      have HBW := hide hbw
      have e1 := (HR2.out.below hbw).cell 0
      simp only [List.getElem?_toArray, List.getElem?_cons_succ, List.getElem?_cons_zero] at e1
      have hsr : W.heap.size + 1 < wr.heap.size := (HR2.out.below hbw).lt
      clear hpre hbw
      by_cases hlt : k < xs.length
      · have hlt2 : k < ys.length := by have := HL.out; omega
        obtain ⟨b1, o1, rfl, hb1, hc1⟩ := (h1.below hbW).elem encE_len hlt
        obtain ⟨b2, o2, rfl, hb2, hc2⟩ := (h2.below hbW).elem encE_len hlt2
        have hd10 := hc1 0 _ (by omega) rfl
        have hd11 := hc1 1 _ (by omega) rfl
        have hd20 := hc2 0 _ (by omega) rfl
        have hd21 := hc2 1 _ (by omega) rfl
        simp only [Nat.add_zero] at hd10 hd20
        clear hc1 hc2
        have hi2 : (k : Int) < (ys.length : Int) := by omega
        have hbl1 : b1 < wr.heap.size := by omega
        have hbl2 : b2 < wr.heap.size := by omega
        generalize hx : xs[k] = x at *
        generalize hy : ys[k] = y at *
        have HX := hide hx
        have HY := hide hy
        clear hx hy
        by_cases hxy : x = y
        · subst hxy
          have hne := fun w => neqS w x x true (by simp)
          go_wp2_with fail
          go_quiet (fail)
          go_wp2_with fail
          go_roundw
          case rel => exact ⟨k + 1, by omega, by go_num, by rw [List.take_succ_eq_append_getElem hlt, List.take_succ_eq_append_getElem hlt2, HP.out, HX.out, HY.out], below_drewN (HBW.out.alloc HBW.out.size _) _⟩
          case measure => simp [intOf]; omega
        · have hne := fun w => neqS w x y false (by simpa using hxy)
          go_wp2_with fail
          go_quiet (fail)
          go_wp2_with fail
          go_ret
          exact ⟨ret_bool (by rw [← HRR.out]; simp; intro h; apply hxy; rw [← HX.out, ← HY.out]; simp [h]), hbW.trans (below_drewN ((Below.refl _ _).alloc (by omega) _) _)⟩
      · go_wp2_with fail
        go_ret
        have he : xs = ys := by have h := HP.out; rw [List.take_of_length_le (by omega), List.take_of_length_le (by have := HL.out; omega)] at h; exact h
        exact ⟨ret_bool (by rw [← HRR.out]; simp [he]), hbW⟩
  · have ht : ((xs.length : Int) != (ys.length : Int)) = true := by rw [bne_iff_ne]; omega
    go_enter Try.func32, Try.ntmps32
    go_wp2
    go_ret
    exact ⟨ret_bool (by rw [← HRR.out]; simp; intro h; exact hlen (by rw [h])), hb0⟩

theorem Cs_rep (n : Nat) : (madeCells (Value.agg #[.int .i64 0, .int .u64 0]).cells (n * 2)).toList = Cs encE (List.replicate n (0, 0)) := by
  apply List.ext_getElem?
  intro j
  have hl : (Cs encE (List.replicate n (0, 0))).length = n * 2 := by rw [Cs_length encE_len, List.length_replicate]
  by_cases hj : j < n * 2
  · have h1 : j = j / 2 * 2 + j % 2 := by omega
    have h2 : j / 2 < (List.replicate n ((0 : Int), (0 : Int))).length := by rw [List.length_replicate]; omega
    have h3 : (List.replicate n ((0 : Int), (0 : Int)))[j / 2] = (0, 0) := by simp
    have h4 := Cs_at encE_len (List.replicate n (0, 0)) (j / 2) (j % 2) h2 (by omega)
    rw [← h1, h3] at h4
    rw [h4]
    have h5 : j % 2 = 0 ∨ j % 2 = 1 := by omega
    rcases h5 with h5 | h5 <;> simp [madeCells, hj, h5, Value.cells, encE]
  · rw [List.getElem?_eq_none (l := Cs encE (List.replicate n (0, 0))) (by rw [hl]; omega), List.getElem?_eq_none (by simp [madeCells]; omega)]

theorem new_yes (n : Nat) (W : World) (h0 : 2 ≤ n) (h1 : n ≤ 128) :
    Calls Try.prog 31 #[.int .i64 (n : Int)] W fun e W' => ∃ A c, e = .returned (.tuple #[.agg #[.slice A n c], .int .i64 0]) ∧ n ≤ c ∧ c ≤ 4096 ∧ Rd W' W'.heap.size 2 A n (Cs encE (List.replicate n (0, 0))) ∧ Below W.heap.size W W' := by
  obtain ⟨i0, hi0, hz0, hz1, hz2⟩ := info_parts elS.info
  have hmk := fun w => run_make_rowN (P := Try.prog) 25 47 i0 _ Try.underlying25 hi0 hz0 .i64 .i64 n n (Nat.le_refl _) (by rw [hz2]; omega) (by omega) w
  rw [hz1] at hmk
  have hg0 : decide ((n : Int) < 2) = false := by simp; omega
  have hg1 : decide (128 < (n : Int)) = false := by simp; omega
  clear hi0 hz0 hz1 hz2
  go_enter Try.func31, Try.ntmps31
  go_wp2_with fail
  have hM := Cs_rep n
  obtain ⟨w1, hw1⟩ : ∃ w1, W.alloc (.cells #[.slice (some ⟨W.heap.size + 1, 0, none⟩) n n] 27) = w1 := ⟨_, rfl⟩
  have hs1 : w1.heap.size = W.heap.size + 1 := by rw [← hw1]; simp
  have hb1 : Below W.heap.size W w1 := by rw [← hw1]; exact (Below.refl _ _).alloc (Nat.le_refl _) _
  have hrd := Rd.new w1 (madeCells #[.int .i64 0, .int .u64 0] (n * 2)) 47 2 n (by simp [madeCells])
  have hM2 : (madeCells #[.int .i64 0, .int .u64 0] (n * 2)).toList = Cs encE (List.replicate n (0, 0)) := hM
  rw [hM2, hs1] at hrd
  refine bodyPost_ret (v := .tuple #[.agg #[.slice (some ⟨W.heap.size + 1, 0, none⟩) n n], .int .i64 0]) (by simp [results, Try.results31, go_sem]) rfl ⟨_, n, rfl, Nat.le_refl _, by omega, ?_, ?_⟩
  · rw [hw1]; exact hrd.more (by rw [World.size_alloc, hs1]; omega)
  · rw [hw1]; exact hb1.alloc (by omega) _
theorem new_no (n : Int) (W : World) (h : ¬ (2 ≤ n ∧ n ≤ 128)) :
    Calls Try.prog 31 #[.int .i64 n] W fun e W' => e = .returned (.tuple #[.agg #[.slice none 0 0], .int .i64 2]) ∧ Below W.heap.size W W' := by
  by_cases h0 : n < 2
  · go_enter Try.func31, Try.ntmps31
    go_wp2
    refine bodyPost_ret (v := .tuple #[.agg #[.slice none 0 0], .int .i64 2]) (by simp [results, Try.results31, go_sem]) rfl ⟨rfl, ?_⟩
    exact (Below.refl _ _).alloc (Nat.le_refl _) _
  · have h0' : decide (n < 2) = false := by simp; omega
    have h1 : 128 < n := by omega
    go_enter Try.func31, Try.ntmps31
    go_wp2
    refine bodyPost_ret (v := .tuple #[.agg #[.slice none 0 0], .int .i64 2]) (by simp [results, Try.results31, go_sem]) rfl ⟨rfl, ?_⟩
    exact (Below.refl _ _).alloc (Nat.le_refl _) _
/-- honeycombref11.New. -/
theorem rnew_any (n : Nat) (W : World) (hn : n ≤ 4096) :
    Calls Try.prog 10 #[.int .i64 (n : Int)] W fun e W' => ∃ A c, e = .returned (.agg #[.slice A n c]) ∧ n ≤ c ∧ c ≤ 9223372036854775807 ∧ Rd W' W'.heap.size 2 A n (Cs encE (List.replicate n (0, 0))) ∧ Below W.heap.size W W' := by
  go_enter Try.func10, Try.ntmps10
  go_wp2_with fail
  have hb0 : Below W.heap.size W ((W.alloc (.cells #[.slice none 0 0] 27)).alloc (.cells #[.slice none 0 0] 27)) := ((Below.refl _ _).alloc (Nat.le_refl _) _).alloc (by simp) _
  have hr1 : RowAt ((W.alloc (.cells #[.slice none 0 0] 27)).alloc (.cells #[.slice none 0 0] 27)) W.heap.size 27 #[.slice none 0 0] := (RowAt.new W 27 _).below ((Below.refl _ _).alloc (Nat.le_refl _) _)
  have hr2 : RowAt ((W.alloc (.cells #[.slice none 0 0] 27)).alloc (.cells #[.slice none 0 0] 27)) (W.heap.size + 1) 27 #[.slice none 0 0] := by
    have h := RowAt.new (W.alloc (.cells #[.slice none 0 0] 27)) 27 #[.slice none 0 0]
    rw [World.size_alloc] at h; exact h
  have hs0 : ((W.alloc (.cells #[.slice none 0 0] 27)).alloc (.cells #[.slice none 0 0] 27)).heap.size = W.heap.size + 2 := by simp
  generalize ((W.alloc (.cells #[.slice none 0 0] 27)).alloc (.cells #[.slice none 0 0] 27)) = w0 at *
  have H0 := hide hb0
  have H1 := hide hr1
  have H2 := hide hr2
  clear hb0 hr1 hr2
  go_loopw [5] (fun i wr => ∃ k : Nat, k ≤ n ∧ i = .int .i64 k ∧ RowAt wr W.heap.size 27 #[.slice none 0 0] ∧ (∃ v, RowBox wr (W.heap.size + 1) 27 (W.heap.size + 2) 47 2 k v (Cs encE (List.replicate k (0, 0)))) ∧ Below W.heap.size W wr) (fun i _ => n - (intOf i).toNat)
  case atStart => exact ⟨0, Nat.zero_le _, rfl, H1.out, ⟨_, H2.out, World.ownsRow_nil _ _ _ _, by omega⟩, H0.out⟩
  case round =>
    obtain ⟨k, hk, rfl, hr1, ⟨v, hbox⟩, hbw⟩ := hrel
    have HB := hide hbw
    have HX := hide hbox
    have HR1 := hide hr1
    have hsz : W.heap.size + 1 < wr.heap.size := hbox.row.lt
    have d1 := hbox.cell
    clear hr1 hbox hbw
    by_cases hlt : k < n
    · have hrn := Rd.new wr #[.int .i64 0, .int .u64 0] 47 2 1 rfl
      have HRN := hide hrn
      obtain ⟨A, c, rfl, hc, hcm⟩ := own_form2 HX.out.own
      clear hrn
      go_wp2_with (at_builtin; refine wpList_app elS rfl _ _ rfl rfl (HX.out.own.alloc _) rfl HRN.out (by simp [Value.oneCell']) (by omega) (by simp; omega) ?_; intro v2 w2 hown2 hb3 _ _; have HB4 := hide (((Below.refl (W.heap.size + 2) wr).alloc (by omega) (.cells #[.int .i64 0, .int .u64 0] 47)).trans hb3); have HR4 := hide (HX.out.row.belowB (by omega) HB4.out); have HZ4 := hide (HR1.out.belowB (by omega) HB4.out); obtain ⟨A2, c2, rfl, hc2, hcm2⟩ := own_form2 hown2; have HO4 := hide hown2; have m1 := row1 HR4.out; have n1 := HR4.out.frozen 0; have l1 := HR4.out.lt; clear hown2 hb3)
      go_roundw
      case rel =>
        refine ⟨k + 1, by omega, by go_num, HZ4.out.setNe (by omega), ⟨_, RowBox.store HR4.out (by omega) ?_⟩, (HB.out.trans (HB4.out.mono (by omega))).setCell (p := ⟨W.heap.size + 1, 0, none⟩) (by simp) _⟩
        rw [List.replicate_succ', Cs_append]
        exact HO4.out
      case measure => simp [intOf]; omega
    · obtain rfl : k = n := by omega
      obtain ⟨A, c, rfl, hc, hcm⟩ := own_form2 HX.out.own
      have z0 := row1 HR1.out
      have z1 := HR1.out.frozen 0
      have z2 : W.heap.size < wr.heap.size := by omega
      go_wp2_with fail
      refine bodyPost_ret (v := .agg #[.slice A k c]) (by simp [results, Try.results10, go_sem, z0, z2]) rfl ⟨A, c, rfl, hc, hcm, ?_, HB.out.setCell (p := ⟨W.heap.size, 0, none⟩) (by simp) _⟩
      exact Rd.of_own (own_other HX.out.own (fun j hj => heap_setCell_ne _ _ _ _ (by show j ≠ W.heap.size; omega)))
end Go.Proofs.Ytfpbabafeecncaa
