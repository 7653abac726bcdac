/-
  Who is hungry, the least w by which nobody is, and who waits longest: the program's.
-/
import Derived.Test.YtogjokoaghpjiaaPki
set_option linter.unusedSimpArgs false
set_option linter.unusedVariables false
namespace Go.Proofs.Ytogjokoaghpjiaa
open Go Go.RowKit
attribute [local go_sem] via_cell via_frozen

theorem right_n {n : Int} {l : List Tn} (h : rightB n l = true) : ∃ k : Nat, n = k ∧ 1 ≤ k ∧ k ≤ 8 ∧ l.all (turnB n) = true := by
  unfold rightB at h
  simp only [Bool.and_eq_true, decide_eq_true_eq] at h
  exact ⟨n.toNat, by omega, by omega, by omega, h.2⟩
def hungryP (n : Int) (l : List Tn) (w : Int) : List Int := if rightB n l then hungryX n.toNat l w else []
theorem upTo_succ (n : Nat) : upTo (n + 1) = upTo n ++ [(n : Int)] := by simp [upTo, List.range_succ]
theorem arr_rd {w : World} {g n : Nat} {f : Int → Nat} (h : RowAt w g 56 (vals (arrW n f))) (hn : n ≤ 8) : Rd w w.heap.size 1 (some ⟨g, 0, none⟩) n (Cs encI ((upTo n).map (fun g => ((f g : Nat) : Int)))) := by
  refine ⟨by rw [Cs_length encI_len]; simp [upTo], fun h0 => ⟨g, 0, rfl, h.lt, fun j u hu => ?_⟩⟩
  have hj : j < n := by
    have := (List.getElem?_eq_some_iff.1 hu).1
    rw [Cs_length encI_len] at this
    simpa [upTo] using this
  have h1 := Cs_at (enc := encI) encI_len ((upTo n).map (fun g => ((f g : Nat) : Int))) j 0 (by simpa [upTo] using hj) (by omega)
  simp only [Nat.mul_one, Nat.add_zero] at h1
  rw [h1] at hu
  have h2 := (h.cell j).trans (vals_at (arrW_at f hj hn))
  rw [Nat.zero_add, h2]
  rw [← hu]
  simp [encI, upTo]
/-- Two arrays of waits, one beside the other. -/
theorem waits_new (w : World) : RowAt ((w.alloc (.cells (vals (List.replicate 8 0)) 56)).alloc (.cells (vals (List.replicate 8 0)) 56)) w.heap.size 56 (vals (List.replicate 8 0)) ∧
    RowAt ((w.alloc (.cells (vals (List.replicate 8 0)) 56)).alloc (.cells (vals (List.replicate 8 0)) 56)) (w.heap.size + 1) 56 (vals (List.replicate 8 0)) ∧
    Below w.heap.size w ((w.alloc (.cells (vals (List.replicate 8 0)) 56)).alloc (.cells (vals (List.replicate 8 0)) 56)) := by
  have b1 : Below w.heap.size w (w.alloc (.cells (vals (List.replicate 8 0)) 56)) := (Below.refl _ _).alloc (Nat.le_refl _) _
  have r1 := RowAt.new w 56 (vals (List.replicate 8 0))
  generalize hw1 : w.alloc (.cells (vals (List.replicate 8 0)) 56) = w1 at *
  have s1 : w1.heap.size = w.heap.size + 1 := by rw [← hw1, World.size_alloc]
  have b2 : Below w1.heap.size w1 (w1.alloc (.cells (vals (List.replicate 8 0)) 56)) := (Below.refl _ _).alloc (Nat.le_refl _) _
  have r2 := RowAt.new w1 56 (vals (List.replicate 8 0))
  rw [s1] at r2
  exact ⟨r1.below b2, r2, b1.trans (b2.mono (by omega))⟩
theorem slice_hm (g k : Nat) (hk : k ≤ 8) (w : World) : (Instr.sliceAt 56 (.pointer (some ⟨g, 0, none⟩)) none (some (.int .i64 (k : Int))) (some (.int .i64 (k : Int)))).run Try.prog w = .ok (.slice (some ⟨g, 0, none⟩) k k) w := by
  have hu : Try.prog.underlying 56 = some (.array 8 3) := by kernel_rfl
  have hz : Try.prog.info? 3 ≠ none := by
    have : (Try.prog.info? 3).isSome = true := by kernel_rfl
    intro h; rw [h] at this; cases this
  obtain ⟨i, hi⟩ := Option.ne_none_iff_exists'.1 hz
  simp [Instr.sliceAt, Instr.sureAddr, run_underlying hu, Instr.sliceBounds, run_sliceBound, sizeOf, typeInfo, hi, hk, (by omega : (k : Int) ≤ 8), Addr.add]
theorem slice_h (g k : Nat) (hk : k ≤ 8) (w : World) : (Instr.sliceAt 56 (.pointer (some ⟨g, 0, none⟩)) none (some (.int .i64 (k : Int))) none).run Try.prog w = .ok (.slice (some ⟨g, 0, none⟩) k 8) w := by
  have hu : Try.prog.underlying 56 = some (.array 8 3) := by kernel_rfl
  have hz : Try.prog.info? 3 ≠ none := by
    have : (Try.prog.info? 3).isSome = true := by kernel_rfl
    intro h; rw [h] at this; cases this
  obtain ⟨i, hi⟩ := Option.ne_none_iff_exists'.1 hz
  simp [Instr.sliceAt, Instr.sureAddr, run_underlying hu, Instr.sliceBounds, run_sliceBound, sizeOf, typeInfo, hi, hk, (by omega : (k : Int) ≤ 8), Addr.add]
set_option maxHeartbeats 1000000 in
theorem hungry_any (B : Nat) (A : Option Addr) (c m : Nat) (n : Int) (ts : List Tm) (w : Int) (W : World) (h : RT W B A m ts) (hB : B ≤ W.heap.size) (hs : SmallT ts) :
    Calls Try.prog 19 #[.int .i64 n, .slice A m c, .int .i64 w] W fun e W' => ∃ v, e = .returned v ∧ W'.ownsRow W.heap.size 3 1 v (hungryP n (tns ts) w).length (Cs encI (hungryP n (tns ts) w)) ∧ Below W.heap.size W W' := by
  by_cases hw1 : w < 1
  · have hX : hungryP n (tns ts) w = [] := by unfold hungryP hungryX; simp [hw1]
    rw [hX]
    have hd : decide (w < 1) = true := by simpa using hw1
    clear hw1 h
    go_enter Try.func19, Try.ntmps19
    go_wp2_with fail
    go_ret
    exact ⟨_, rfl, World.ownsRow_nil _ _ _ _, Below.refl _ _⟩
  have hd : decide (w < 1) = false := by simpa using hw1
  cases hr : rightB n (tns ts) with
  | false =>
    have hX : hungryP n (tns ts) w = [] := by unfold hungryP; rw [hr]; rfl
    rw [hX]
    have HC := hide (check_any B A c m n ts W h hB hs 140 (by rw [hr]; rfl))
    clear hw1 h hr hX
    go_enter Try.func19, Try.ntmps19
    go_wp2_with fail
    with_reducible refine HC.out.mono ?_
    rintro e w1 ⟨rfl, hb1⟩
    go_wp2_with fail
    go_ret
    exact ⟨_, rfl, World.ownsRow_nil _ _ _ _, hb1⟩
  | true =>
    obtain ⟨k, rfl, hk1, hk8, _⟩ := right_n hr
    have hX : hungryP (k : Int) (tns ts) w = hungryX k (tns ts) w := by unfold hungryP; rw [hr]; simp
    rw [hX]
    have HXX := hide (show hungryX k (tns ts) w = (upTo k).filter (fun g => decide (w ≤ mostX (tns ts) g)) from by unfold hungryX; rw [if_neg hw1])
    have HC := hide (check_any B A c m k ts W h hB hs 0 (by rw [hr]; rfl))
    have HLO := hide (fun (w1 : World) (hb : Below W.heap.size W w1) => longest_any B A c m k ts w1 (h.below (hb.mono hB)) (Nat.le_trans hB hb.size) hs hk8)
    clear hw1 h hr hX
    go_enter Try.func19, Try.ntmps19
    go_wp2_with fail
    with_reducible refine HC.out.mono ?_
    rintro e w1 ⟨rfl, hb1⟩
    have HB1 := hide hb1
    clear hb1
    go_upto_region 3 with (fail)
    go_wp2_with fail
    with_reducible refine (HLO.out w1 HB1.out).mono ?_
    rintro e w2 ⟨rfl, hb2⟩
    have HB2 := hide (HB1.out.trans (hb2.mono HB1.out.size))
    have HRA := hide (waits_new w2).1
    have HRB := hide (waits_new w2).2.1
    have HBN := hide (waits_new w2).2.2
    have HI1 := hide (vals_info k (mostX (tns ts)))
    have HI2 := hide (vals_info k (waitX (tns ts)))
    have HS1 := hide (show (vals (List.replicate 8 0)).size = (vals (arrW k (mostX (tns ts)))).size from by simp [vals, arrW_len])
    have HS2 := hide (show (vals (List.replicate 8 0)).size = (vals (arrW k (waitX (tns ts)))).size from by simp [vals, arrW_len])
    have hsl := slice_hm w2.heap.size k hk8
    clear hb2 HLO HC
    go_wp2_with (first
      | (refine wpList_store_rowAt rfl 56 _ _ rfl w2.heap.size 56 _ (vals (arrW k (mostX (tns ts)))) rfl rfl HRA.out HS1.out HI1.out (vals_one _) ?_; intro w3 hr3 hp3; have HR3 := hide hr3; have HP3 := hide hp3; clear hr3 hp3)
      | (refine wpList_store_rowAt rfl 56 _ _ rfl (w2.heap.size + 1) 56 _ (vals (arrW k (waitX (tns ts)))) rfl rfl (HRB.out.past HP3.out (by omega)) HS2.out HI2.out (vals_one _) ?_; intro w4 hr4 hp4; have HR4 := hide (HR3.out.past hp4 (by omega)); have HB4 := hide (((HBN.out.trans (HP3.out.below.mono (Nat.le_refl _))).trans (hp4.below.mono (by omega)))); clear hr4 hp4))
    obtain ⟨P, hP⟩ : ∃ P : Int → Bool, (fun g => decide (w ≤ mostX (tns ts) g)) = P := ⟨_, rfl⟩
    have HPP := hide hP
    have hs4 := HR4.out.lt
    have hW4 := (HB2.out.trans (HB4.out.mono HB2.out.size)).size
    clear hsl hP
    go_loopw [9, 30] (fun sv i wr => ∃ (j : Nat) (v : Value), v = sv ∧ j ≤ k ∧ i = .int .i64 j ∧ wr.ownsRow w4.heap.size 3 1 v ((upTo j).filter P).length (Cs encI ((upTo j).filter P)) ∧ Below w4.heap.size w4 wr) (fun _ i _ => k - (intOf i).toNat)
    case atStart => exact ⟨0, _, rfl, Nat.zero_le _, rfl, World.ownsRow_nil _ _ _ _, Below.refl _ _⟩
    case round =>
      obtain ⟨j, v, rfl, hj, rfl, hown, hbw⟩ := hrel
      have HO := hide hown
      have HBW := hide hbw
      clear hown hbw
      by_cases hlt : j < k
      · have hjk : (j : Int) < (k : Int) := by omega
        have hR := HR4.out.below HBW.out
        have d0 : wr.cell? ⟨w2.heap.size, j, none⟩ = some (.int .i64 (mostX (tns ts) j)) := (hR.cell j).trans (vals_at (arrW_at _ hlt hk8))
        have dl := hR.lt
        have HU := hide (upTo_succ j)
        have HPJ := hide (show P j = decide (w ≤ mostX (tns ts) j) from by rw [← HPP.out])
        clear hR
        by_cases hg : w ≤ mostX (tns ts) j
        · have hd2 : decide (w ≤ ((mostX (tns ts) j : Nat) : Int)) = true := by simpa using hg
          have HF := hide (show (upTo (j + 1)).filter P = (upTo j).filter P ++ [(j : Int)] from by rw [HU.out, List.filter_append, List.filter_cons, HPJ.out, hd2]; simp)
          have HL := hide (show ((upTo j).filter P).length ≤ j from by have h := List.length_filter_le P (upTo j); rwa [upTo_length] at h)
          have HOA := hide (own_keepB HO.out ((Below.refl wr.heap.size wr).alloc (Nat.le_refl _) (.cells #[.int .i64 j] 3)))
          clear hg
          generalize ((mostX (tns ts) j : Nat) : Int) = z at *
          go_wp2_with (at_builtin; refine wpList_app elI rfl _ _ rfl rfl HOA.out rfl (Rd.new wr #[.int .i64 j] 3 1 1 rfl) (by simp [Value.oneCell']) (by have := HL.out; omega) (by have := HBW.out.size; simp; omega) ?_; intro v2 wB hownB hbB _ _)
          have HN := hide (show wB.ownsRow w4.heap.size 3 1 v2 ((upTo (j + 1)).filter P).length (Cs encI ((upTo (j + 1)).filter P)) from by
            rw [HF.out, Cs_append, Cs_one, List.length_append]; exact hownB)
          have HBE := hide (show Below w4.heap.size w4 wB from (HBW.out.trans (((Below.refl _ _).alloc HBW.out.size _))).trans hbB)
          clear hownB hbB
          go_roundw
          case rel => exact ⟨j + 1, v2, rfl, by omega, by go_num, HN.out, HBE.out⟩
          case measure => simp [intOf]; omega
        · have hd2 : decide (w ≤ ((mostX (tns ts) j : Nat) : Int)) = false := by simpa using hg
          have HF := hide (show (upTo (j + 1)).filter P = (upTo j).filter P from by rw [HU.out, List.filter_append, List.filter_cons, HPJ.out, hd2]; simp)
          have HN := hide (show wr.ownsRow w4.heap.size 3 1 v ((upTo (j + 1)).filter P).length (Cs encI ((upTo (j + 1)).filter P)) from by rw [HF.out]; exact HO.out)
          clear hg
          generalize ((mostX (tns ts) j : Nat) : Int) = z at *
          go_wp2_with fail
          go_roundw
          case rel => exact ⟨j + 1, v, rfl, by omega, by go_num, HN.out, HBW.out⟩
          case measure => simp [intOf]; omega
      · obtain rfl : j = k := by omega
        have HFIN := hide (show wr.ownsRow W.heap.size 3 1 v (hungryX j (tns ts) w).length (Cs encI (hungryX j (tns ts) w)) from by
          rw [HXX.out, HPP.out]; exact ownsRow_base HO.out hW4)
        have HBE := hide (show Below W.heap.size W wr from (HB2.out.trans (HB4.out.mono HB2.out.size)).trans (HBW.out.mono hW4))
        go_wp2_with fail
        go_ret
        exact ⟨v, rfl, HFIN.out, HBE.out⟩
/-- The least w. -/
def leastP (n : Int) (l : List Tn) : Int := if rightB n l then (leastX n.toNat l : Nat) else 0
theorem foldl_max_ge (l : List Nat) (a : Nat) : a ≤ l.foldl max a ∧ ∀ x ∈ l, x ≤ l.foldl max a := by
  induction l generalizing a with
  | nil => exact ⟨Nat.le_refl _, by simp⟩
  | cons y l ih =>
    obtain ⟨h1, h2⟩ := ih (max a y)
    refine ⟨Nat.le_trans (Nat.le_max_left _ _) h1, fun x hx => ?_⟩
    rcases List.mem_cons.1 hx with rfl | hx
    · exact Nat.le_trans (Nat.le_max_right _ _) h1
    · exact h2 x hx
theorem foldl_max_mem (l : List Nat) (a : Nat) : l.foldl max a = a ∨ l.foldl max a ∈ l := by
  induction l generalizing a with
  | nil => exact .inl rfl
  | cons y l ih =>
    rcases ih (max a y) with h | h
    · simp only [List.foldl_cons]
      rcases Nat.le_total a y with h1 | h1
      · rw [Nat.max_eq_right h1] at h ⊢; right; rw [h]; simp
      · rw [Nat.max_eq_left h1] at h ⊢; left; exact h
    · right; exact List.mem_cons_of_mem _ h
theorem leastX_max (n : Nat) (l : List Tn) (hn : 0 < n) : MaxX ((upTo n).map (fun g => ((mostX l g : Nat) : Int))) ((leastX n l : Int) - 1) := by
  obtain ⟨h1, h2⟩ := foldl_max_ge ((upTo n).map (mostX l)) 0
  have h3 := foldl_max_mem ((upTo n).map (mostX l)) 0
  have he : ((leastX n l : Nat) : Int) - 1 = ((((upTo n).map (mostX l)).foldl max 0 : Nat) : Int) := by unfold leastX; omega
  rw [he]
  generalize ((upTo n).map (mostX l)).foldl max 0 = M at *
  have hat : ∀ k, k < n → ((upTo n).map (fun g => ((mostX l g : Nat) : Int))).getD k 0 = ((mostX l k : Nat) : Int) := by
    intro k hk
    rw [List.getD_eq_getElem?_getD, List.getElem?_map, upTo_get n k hk]; rfl
  refine ⟨?_, fun k hk => ?_⟩
  · rcases h3 with h3 | h3
    · refine ⟨0, by simpa [upTo] using hn, ?_⟩
      rw [hat 0 hn]
      have := h2 (mostX l ((0 : Nat) : Int)) (List.mem_map.2 ⟨((0 : Nat) : Int), by unfold upTo; rw [List.mem_map]; exact ⟨0, by simpa using hn, rfl⟩, rfl⟩)
      omega
    · obtain ⟨g, hg, e⟩ := List.mem_map.1 h3
      unfold upTo at hg
      obtain ⟨k, hk, rfl⟩ := List.mem_map.1 hg
      have hk := List.mem_range.1 hk
      exact ⟨k, by simpa [upTo] using hk, by rw [hat k hk, e]⟩
  · have hk' : k < n := by simpa [upTo] using hk
    rw [hat k hk']
    have := h2 (mostX l k) (List.mem_map.2 ⟨k, by unfold upTo; rw [List.mem_map]; exact ⟨k, by simpa using hk', rfl⟩, rfl⟩)
    omega
set_option maxHeartbeats 1000000 in
theorem least_any (B : Nat) (A : Option Addr) (c m : Nat) (n : Int) (ts : List Tm) (W : World) (h : RT W B A m ts) (hB : B ≤ W.heap.size) (hs : SmallT ts) (r : Int) (hr0 : leastP n (tns ts) = r) :
    Calls Try.prog 20 #[.int .i64 n, .slice A m c] W fun e W' => e = .returned (.int .i64 r) ∧ Below W.heap.size W W' := by
  cases hr : rightB n (tns ts) with
  | false =>
    have hX : r = 0 := by rw [← hr0]; unfold leastP; rw [hr]; rfl
    subst hX
    have HC := hide (check_any B A c m n ts W h hB hs 140 (by rw [hr]; rfl))
    clear h hr hr0
    go_enter Try.func20, Try.ntmps20
    go_wp2_with fail
    with_reducible refine HC.out.mono ?_
    rintro e w1 ⟨rfl, hb1⟩
    go_wp2_with fail
    go_ret
    exact ⟨rfl, hb1⟩
  | true =>
    obtain ⟨k, rfl, hk1, hk8, _⟩ := right_n hr
    have hX : leastX k (tns ts) = r := by rw [← hr0]; unfold leastP; rw [hr]; simp
    have HMX := hide (show MaxX ((upTo k).map (fun g => ((mostX (tns ts) g : Nat) : Int))) (r - 1) from by rw [← hX]; exact leastX_max k _ hk1)
    have hbig : 1 ≤ r ∧ r ≤ 4097 := by
      obtain ⟨⟨j, hj, e⟩, _⟩ := HMX.out
      rw [List.getD_eq_getElem?_getD, List.getElem?_map, upTo_get k j (by simpa [upTo] using hj)] at e
      have h1 : ∀ l g, mostX l g ≤ l.length := by
        intro l g
        rcases Nat.eq_zero_or_pos (mostX l g) with h0 | h0
        · omega
        · obtain ⟨i, hi, h2⟩ := (mostX_ge l g _ h0).1 (Nat.le_refl _)
          have h3 := waitX_le (l.take i) g
          have h4 := List.length_take_le i l
          rw [List.length_take] at h3
          omega
      have h2 := h1 (tns ts) j
      have h3 : (tns ts).length ≤ 4096 := by rw [tns_len]; exact hs.1
      simp only [Option.map_some, Option.getD_some] at e
      omega
    have hwr : wrap64 (1 + (r - 1)) = r := by rw [show 1 + (r - 1) = r by omega]; exact IntWalk.wrap64_in _ (by omega)
    have HC := hide (check_any B A c m k ts W h hB hs 0 (by rw [hr]; rfl))
    have HLO := hide (fun (w1 : World) (hb : Below W.heap.size W w1) => longest_any B A c m k ts w1 (h.below (hb.mono hB)) (Nat.le_trans hB hb.size) hs hk8)
    clear h hr hX hr0
    go_enter Try.func20, Try.ntmps20
    go_wp2_with fail
    with_reducible refine HC.out.mono ?_
    rintro e w1 ⟨rfl, hb1⟩
    have HB1 := hide hb1
    clear hb1
    go_upto_region 3 with (fail)
    go_wp2_with fail
    with_reducible refine (HLO.out w1 HB1.out).mono ?_
    rintro e w2 ⟨rfl, hb2⟩
    have HB2 := hide (HB1.out.trans (hb2.mono HB1.out.size))
    have HRA := hide (waits_new w2).1
    have HRB := hide (waits_new w2).2.1
    have HBN := hide (waits_new w2).2.2
    have HI1 := hide (vals_info k (mostX (tns ts)))
    have HI2 := hide (vals_info k (waitX (tns ts)))
    have HS1 := hide (show (vals (List.replicate 8 0)).size = (vals (arrW k (mostX (tns ts)))).size from by simp [vals, arrW_len])
    have HS2 := hide (show (vals (List.replicate 8 0)).size = (vals (arrW k (waitX (tns ts)))).size from by simp [vals, arrW_len])
    have hsl := slice_h w2.heap.size k hk8
    clear hb2 HLO HC
    go_wp2_with (first
      | (refine wpList_store_rowAt rfl 56 _ _ rfl w2.heap.size 56 _ (vals (arrW k (mostX (tns ts)))) rfl rfl HRA.out HS1.out HI1.out (vals_one _) ?_; intro w3 hr3 hp3; have HR3 := hide hr3; have HP3 := hide hp3; clear hr3 hp3)
      | (refine wpList_store_rowAt rfl 56 _ _ rfl (w2.heap.size + 1) 56 _ (vals (arrW k (waitX (tns ts)))) rfl rfl (HRB.out.past HP3.out (by omega)) HS2.out HI2.out (vals_one _) ?_; intro w4 hr4 hp4; have HR4 := hide (HR3.out.past hp4 (by omega)); have HB4 := hide (((HBN.out.trans (HP3.out.below.mono (Nat.le_refl _))).trans (hp4.below.mono (by omega)))); clear hr4 hp4))
    have HM := hide (max_any w4.heap.size (some ⟨w2.heap.size, 0, none⟩) 8 k _ w4 (arr_rd HR4.out hk8) (by simp [upTo]) (by omega) hk1 (Nat.le_refl _) (r - 1) HMX.out)
    have HBE := hide (HB2.out.trans (HB4.out.mono HB2.out.size))
    go_wp2_with fail
    with_reducible refine HM.out.mono ?_
    rintro e w5 ⟨rfl, rfl⟩
    go_wp2_with fail
    go_ret
    have he : 1 + (r - 1) = r := by omega
    exact ⟨ret_int he, HBE.out⟩
theorem nextC_any (gb n k : Nat) (f : Int → Nat) (W : World) (h : RowAt W gb 56 (vals (arrW n f))) (hk : k < n) (hn : n ≤ 8) :
    Calls Try.prog 37 #[.int .i64 k, .pointer (some ⟨gb, 0, none⟩)] W fun e W' => e = .returned (.int .i64 ((f k : Nat) : Int)) ∧ W = W' := by
  have d0 : W.cell? ⟨gb, k, none⟩ = some (.int .i64 ((f k : Nat) : Int)) := (h.cell k).trans (vals_at (arrW_at f hk hn))
  have dl := h.lt
  have hk8 : (k : Int) < 8 := by omega
  clear h
  generalize ((f k : Nat) : Int) = z at *
  go_enter Try.func37, Try.ntmps37
  go_wp2
  go_ret
  exact ⟨rfl, rfl⟩
def bestX (f : Int → Nat) (b : Int) (l : List Int) : Int := l.foldl (fun b x => if f b < f x then x else b) b
theorem bestX_snoc (f : Int → Nat) (b : Int) (l : List Int) (x : Int) : bestX f b (l ++ [x]) = if f (bestX f b l) < f x then x else bestX f b l := by unfold bestX; rw [List.foldl_append]; rfl
theorem bestX_mem (f : Int → Nat) (b : Int) (l : List Int) : bestX f b l = b ∨ bestX f b l ∈ l := by
  induction l generalizing b with
  | nil => exact .inl rfl
  | cons x l ih =>
    show bestX f (if f b < f x then x else b) l = b ∨ _
    rcases ih (if f b < f x then x else b) with h | h
    · rw [h]
      split
      · right; simp [h, *]
        left
        show bestX f (if f b < f x then x else b) l = x
        rw [h]; simp [*]
      · left; rfl
    · right; exact List.mem_cons_of_mem _ h
theorem nextX_best (l : List Tn) (g : Int) (can : List Int) : nextX l (g :: can) = bestX (waitX l) g (g :: can) := rfl
set_option maxHeartbeats 1000000 in
theorem best_any (B : Nat) (A : Option Addr) (c m gb n : Nat) (f : Int → Nat) (xs : List Int) (W : World) (h : Rd W B 1 A m (Cs encI xs)) (hx : xs.length = m) (hm0 : 0 < m) (hm : m ≤ 4096) (hB : B ≤ W.heap.size) (hr : RowAt W gb 56 (vals (arrW n f))) (hn : n ≤ 8) (hall : ∀ x ∈ xs, 0 ≤ x ∧ x < n) (r : Int) (hre : bestX f (xs.getD 0 0) xs = r) :
    Calls Try.prog 36 #[.slice A m c, .func (.func 37) #[] #[.pointer (some ⟨gb, 0, none⟩)]] W fun e W' => e = .returned (.int .i64 r) ∧ W = W' := by
  have HX := hide hx
  have H := hide h
  have HR := hide hr
  have HA := hide hall
  have HRE := hide hre
  obtain ⟨bl, o, rfl, hb, d0⟩ := H.out.numD HX.out hm0
  have hbl : bl < W.heap.size := Nat.lt_of_lt_of_le hb hB
  have h0I : (0 : Int) < (m : Int) := by omega
  have hmem0 : xs.getD 0 0 ∈ xs := by rw [List.getD_eq_getElem?_getD, List.getElem?_eq_getElem (show 0 < xs.length by omega)]; exact List.getElem_mem _
  have HM0 := hide hmem0
  have HV0 := hide (rfl : xs.getD 0 0 = xs.getD 0 0)
  obtain ⟨v0, hv0⟩ : ∃ v0, xs.getD 0 0 = v0 := ⟨_, rfl⟩
  rw [hv0] at d0 HM0 HRE
  simp only [Nat.add_zero] at d0
  clear h hx hr hall hb hmem0 hv0 HV0 hre
  go_enter Try.func36, Try.ntmps36
  go_wp2_with fail
  go_loopw [5, 13] (fun v i wr => ∃ (k : Nat), k ≤ m ∧ i = .int .i64 k ∧ v = .int .i64 (bestX f v0 (xs.take k)) ∧ wr = W) (fun _ i _ => m - (intOf i).toNat)
  case atStart => exact ⟨0, Nat.zero_le _, rfl, rfl, rfl⟩
  case round =>
    obtain ⟨k, hk, rfl, rfl, rfl⟩ := hrel
    have HB0 := hide (show 0 ≤ bestX f v0 (xs.take k) ∧ bestX f v0 (xs.take k) < n from by
      rcases bestX_mem f v0 (xs.take k) with h | h
      · rw [h]; exact HA.out _ HM0.out
      · exact HA.out _ (List.mem_of_mem_take h))
    by_cases hlt : k < m
    · obtain ⟨b2, o2, he, hb2, d1⟩ := H.out.numD HX.out hlt
      injection he with he
      injection he with e1 e2
      subst e1 e2
      have hkm : (k : Int) < (m : Int) := by omega
      have HT := hide (show xs.take (k + 1) = xs.take k ++ [xs.getD k 0] from by
        rw [List.take_succ_eq_append_getElem (show k < xs.length by rw [HX.out]; exact hlt), List.getD_eq_getElem?_getD, List.getElem?_eq_getElem]; rfl)
      have hmk : xs.getD k 0 ∈ xs := by rw [List.getD_eq_getElem?_getD, List.getElem?_eq_getElem (show k < xs.length by rw [HX.out]; exact hlt)]; exact List.getElem_mem _
      have HY := hide (HA.out _ hmk)
      generalize xs.getD k 0 = y at *
      have HN := hide (show bestX f v0 (xs.take (k + 1)) = if f (bestX f v0 (xs.take k)) < f y then y else bestX f v0 (xs.take k) from by rw [HT.out, bestX_snoc])
      generalize bestX f v0 (xs.take k) = z at *
      obtain ⟨y, rfl⟩ := Int.eq_ofNat_of_zero_le HY.out.1
      obtain ⟨z, rfl⟩ := Int.eq_ofNat_of_zero_le HB0.out.1
      have HC1 := hide (nextC_any gb n y f wr HR.out (by have := HY.out.2; omega) hn)
      have HC2 := hide (nextC_any gb n z f wr HR.out (by have := HB0.out.2; omega) hn)
      clear hb2 hmk HY HB0
      by_cases hc : f z < f y
      · have hd : decide (((f z : Nat) : Int) < ((f y : Nat) : Int)) = true := by simpa using hc
        have HNN := hide (show bestX f v0 (xs.take (k + 1)) = y from by rw [HN.out, if_pos hc])
        clear hc HN
        generalize ((f z : Nat) : Int) = fz at *
        generalize ((f y : Nat) : Int) = fy at *
        go_wp2_with fail
        with_reducible refine HC1.out.mono ?_
        rintro e w1 ⟨rfl, rfl⟩
        go_wp2_with fail
        with_reducible refine HC2.out.mono ?_
        rintro e w2 ⟨rfl, rfl⟩
        go_wp2_with fail
        go_roundw
        case rel => exact ⟨k + 1, by omega, by go_num, by rw [HNN.out], by trivial⟩
        case measure => simp [intOf]; omega
      · have hd : decide (((f z : Nat) : Int) < ((f y : Nat) : Int)) = false := by simpa using hc
        have HNN := hide (show bestX f v0 (xs.take (k + 1)) = z from by rw [HN.out, if_neg hc])
        clear hc HN
        generalize ((f z : Nat) : Int) = fz at *
        generalize ((f y : Nat) : Int) = fy at *
        go_wp2_with fail
        with_reducible refine HC1.out.mono ?_
        rintro e w1 ⟨rfl, rfl⟩
        go_wp2_with fail
        with_reducible refine HC2.out.mono ?_
        rintro e w2 ⟨rfl, rfl⟩
        go_wp2_with fail
        go_roundw
        case rel => exact ⟨k + 1, by omega, by go_num, by rw [HNN.out], by trivial⟩
        case measure => simp [intOf]; omega
    · have HF := hide (show bestX f v0 (xs.take k) = r from by rw [← HRE.out, List.take_of_length_le (by rw [HX.out]; omega)])
      go_wp2_with fail
      go_ret
      exact ⟨ret_int HF.out, rfl⟩
/-- Who waits longest, and the error. -/
def nextP (n : Int) (l : List Tn) (can : List Int) : Int × Int := if rightB n l then if canB n can then (nextX l can, 0) else (0, 2) else (0, 140)
set_option maxHeartbeats 1000000 in
theorem next_any (B : Nat) (A A2 : Option Addr) (c m c2 m2 : Nat) (n : Int) (ts : List Tm) (can : List Int) (W : World) (h : RT W B A m ts) (h2 : Rd W B 1 A2 m2 (Cs encI can)) (hx2 : can.length = m2) (hm2 : m2 ≤ 4096) (hB : B ≤ W.heap.size) (hs : SmallT ts) (r : Int × Int) (hr0 : nextP n (tns ts) can = r) :
    Calls Try.prog 17 #[.int .i64 n, .slice A m c, .slice A2 m2 c2] W fun e W' => e = .returned (.tuple #[.int .i64 r.1, .int .i64 r.2]) ∧ Below W.heap.size W W' := by
  subst hr0
  cases hr : rightB n (tns ts) with
  | false =>
    have hX : nextP n (tns ts) can = (0, 140) := by unfold nextP; rw [hr]; rfl
    rw [hX]
    have HC := hide (check_any B A c m n ts W h hB hs 140 (by rw [hr]; rfl))
    clear h h2 hr hX
    go_enter Try.func17, Try.ntmps17
    go_wp2_with fail
    with_reducible refine HC.out.mono ?_
    rintro e w1 ⟨rfl, hb1⟩
    go_wp2_with fail
    go_ret2
    exact ⟨rfl, hb1⟩
  | true =>
    cases hc : canB n can with
    | false =>
      have hX : nextP n (tns ts) can = (0, 2) := by unfold nextP; rw [hr, hc]; rfl
      rw [hX]
      have HC := hide (check_any B A c m n ts W h hB hs 0 (by rw [hr]; rfl))
      have HAB := hide (fun (w1 : World) (hb : Below W.heap.size W w1) => able_any A2 c2 m2 n can w1 ((h2.below (hb.mono hB)).more (Nat.le_trans hB hb.size)) hx2 hm2 false hc)
      clear h h2 hr hX hc
      go_enter Try.func17, Try.ntmps17
      go_wp2_with fail
      with_reducible refine HC.out.mono ?_
      rintro e w1 ⟨rfl, hb1⟩
      have HB1 := hide hb1
      clear hb1
      go_wp2_with fail
      with_reducible refine (HAB.out w1 HB1.out).mono ?_
      rintro e w2 ⟨rfl, hb2⟩
      have HB2 := hide (HB1.out.trans (hb2.mono HB1.out.size))
      clear hb2
      go_wp2_with fail
      go_ret2
      exact ⟨rfl, HB2.out⟩
    | true =>
      have hX : nextP n (tns ts) can = (nextX (tns ts) can, 0) := by unfold nextP; rw [hr, hc]; rfl
      rw [hX]
      have hr9 := hr
      obtain ⟨k, rfl, hk1, hk8, _⟩ := right_n hr9
      have HC := hide (check_any B A c m k ts W h hB hs 0 (by rw [hr]; rfl))
      have HAB := hide (fun (w1 : World) (hb : Below W.heap.size W w1) => able_any A2 c2 m2 k can w1 ((h2.below (hb.mono hB)).more (Nat.le_trans hB hb.size)) hx2 hm2 true hc)
      have HLO := hide (fun (w1 : World) (hb : Below W.heap.size W w1) => longest_any B A c m k ts w1 (h.below (hb.mono hB)) (Nat.le_trans hB hb.size) hs hk8)
      have hm0 : 0 < m2 := by
        have := canB_ne hc
        cases can with
        | nil => exact absurd rfl this
        | cons a l => rw [← hx2]; simp
      have HBE := hide (fun (w1 : World) (gb : Nat) (hb : Below W.heap.size W w1) (hr : RowAt w1 gb 56 (vals (arrW k (waitX (tns ts))))) => best_any B A2 c2 m2 gb k (waitX (tns ts)) can w1 (h2.below (hb.mono hB)) hx2 hm0 hm2 (Nat.le_trans hB hb.size) hr hk8 (canB_all hc) (nextX (tns ts) can) (by
        cases can with
        | nil => exact absurd rfl (canB_ne hc)
        | cons a l => exact (nextX_best _ _ _).symm))
      clear h h2 hr hX hc
      generalize nextX (tns ts) can = z at *
      go_enter Try.func17, Try.ntmps17
      go_wp2_with fail
      with_reducible refine HC.out.mono ?_
      rintro e w1 ⟨rfl, hb1⟩
      have HB1 := hide hb1
      clear hb1 HC
      go_wp2_with fail
      with_reducible refine (HAB.out w1 HB1.out).mono ?_
      rintro e w2 ⟨rfl, hb2⟩
      have HB2 := hide (HB1.out.trans (hb2.mono HB1.out.size))
      clear hb2 HAB HB1
      go_wp2_with fail
      with_reducible refine (HLO.out w2 HB2.out).mono ?_
      rintro e w3 ⟨rfl, hb3⟩
      have HB3 := hide (HB2.out.trans (hb3.mono HB2.out.size))
      have HRA := hide (waits_new w3).1
      have HRB := hide (waits_new w3).2.1
      have HBN := hide (waits_new w3).2.2
      have HI1 := hide (vals_info k (mostX (tns ts)))
      have HI2 := hide (vals_info k (waitX (tns ts)))
      have HS1 := hide (show (vals (List.replicate 8 0)).size = (vals (arrW k (mostX (tns ts)))).size from by simp [vals, arrW_len])
      have HS2 := hide (show (vals (List.replicate 8 0)).size = (vals (arrW k (waitX (tns ts)))).size from by simp [vals, arrW_len])
      clear hb3 HLO HB2
      go_wp2_with (first
        | (refine wpList_store_rowAt rfl 56 _ _ rfl w3.heap.size 56 _ (vals (arrW k (mostX (tns ts)))) rfl rfl HRA.out HS1.out HI1.out (vals_one _) ?_; intro w4 hr4 hp4; have HR4 := hide hr4; have HP4 := hide hp4; clear hr4 hp4)
        | (refine wpList_store_rowAt rfl 56 _ _ rfl (w3.heap.size + 1) 56 _ (vals (arrW k (waitX (tns ts)))) rfl rfl (HRB.out.past HP4.out (by omega)) HS2.out HI2.out (vals_one _) ?_; intro w5 hr5 hp5; have HR5 := hide hr5; have HB5 := hide (HB3.out.trans (((HBN.out.trans (HP4.out.below.mono (Nat.le_refl _))).trans (hp5.below.mono (by omega))).mono HB3.out.size)); clear hr5 hp5))
      with_reducible refine (HBE.out w5 _ HB5.out HR5.out).mono ?_
      rintro e w6 ⟨rfl, rfl⟩
      go_wp2_with fail
      go_ret2
      exact ⟨rfl, HB5.out⟩
end Go.Proofs.Ytogjokoaghpjiaa
