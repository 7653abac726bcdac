/-
  How often each was chosen: the program's and the reference's.
-/
import Derived.Test.YtogjokoaghpjiaaPkl
import Derived.BigRegion
set_option linter.unusedSimpArgs false
set_option linter.unusedVariables false
namespace Go.Proofs.Ytogjokoaghpjiaa
open Go Go.RowKit
attribute [local go_sem] via_cell via_frozen

theorem sharesX_at (n : Nat) (l : List Tn) (k : Nat) (hk : k < n) : (sharesX n l)[k]? = some (((l.filter (fun t => t.2 == (k : Int))).length : Nat) : Int) := by
  unfold sharesX
  rw [List.getElem?_map, upTo_get n k hk]; rfl
theorem sharesX_snoc (n : Nat) (l : List Tn) (t : Tn) (k : Nat) (hk : k < n) (ht : t.2 = k) : sharesX n (l ++ [t]) = (sharesX n l).set k ((((l.filter (fun t => t.2 == (k : Int))).length : Nat) : Int) + 1) := by
  apply List.ext_getElem?
  intro j
  rw [List.getElem?_set]
  by_cases hj : k = j
  · subst hj
    rw [if_pos rfl, if_pos (by rw [sharesX_length]; exact hk), sharesX_at n _ k hk, List.filter_append, List.length_append]
    simp [ht]
  · rw [if_neg hj]
    by_cases hjn : j < n
    · rw [sharesX_at n _ j hjn, sharesX_at n _ j hjn, List.filter_append, List.length_append]
      have : ((k : Int) == (j : Int)) = false := by rw [beq_eq_false_iff_ne]; omega
      simp [ht, this]
    · rw [List.getElem?_eq_none (by rw [sharesX_length]; omega), List.getElem?_eq_none (by rw [sharesX_length]; omega)]
theorem sharesX_nil (n : Nat) : sharesX n [] = List.replicate n 0 := by
  apply List.ext_getElem?
  intro j
  by_cases hj : j < n
  · rw [sharesX_at n [] j hj]; simp [hj]
  · rw [List.getElem?_eq_none (by rw [sharesX_length]; omega), List.getElem?_eq_none (by simp; omega)]
theorem made_vals (n : Nat) : madeCells (Value.int .i64 0).cells n = vals (List.replicate n 0) := by
  unfold madeCells vals valI
  apply Array.ext_getElem?
  intro j
  by_cases hj : j < n
  · simp [hj, Value.cells, Nat.mod_one]
  · simp [hj]
theorem vals_own {w : World} {base g n : Nat} {l : List Int} (h : RowAt w g 3 (vals l)) (hl : l.length = n) (hb : base ≤ g) (hn : n ≤ 4096) : w.ownsRow base 3 1 (.slice (some ⟨g, 0, none⟩) n n) n (Cs encI l) := by
  subst hl
  exact own_of_row h (Nat.le_refl _) (by unfold maxLen; omega) (by simp [vals]) hb (fun a ha => by
    rw [vals_at (List.getElem?_eq_getElem ha), List.getD_eq_getElem?_getD, List.getElem?_eq_getElem ha]; rfl)
theorem turn_ch {n : Int} {l : List Tn} {ts : List Tm} {k : Nat} (hk : k < ts.length) (h : (tns ts).all (turnB n) = true) : 0 ≤ ts[k].ch ∧ ts[k].ch < n := by
  rw [List.all_eq_true] at h
  have h1 := h ts[k].tn (List.mem_map.2 ⟨_, List.getElem_mem hk, rfl⟩)
  unfold turnB at h1
  simp only [Bool.and_eq_true] at h1
  exact canB_all h1.1 _ (by simpa [Tm.tn] using h1.2)
theorem filter_le (l : List Tn) (p : Tn → Bool) : (l.filter p).length ≤ l.length := List.length_filter_le _ _
def sharesP (n : Int) (l : List Tn) : List Int := if rightB n l then sharesX n.toNat l else []
set_option maxHeartbeats 1000000 in
theorem shares_any (B : Nat) (A : Option Addr) (c m : Nat) (n : Int) (ts : List Tm) (W : World) (h : RT W B A m ts) (hB : B ≤ W.heap.size) (hs : SmallT ts) :
    Calls Try.prog 23 #[.int .i64 n, .slice A m c] W fun e W' => (∃ v, e = .returned v ∧ W'.ownsRow W.heap.size 3 1 v (sharesP n (tns ts)).length (Cs encI (sharesP n (tns ts)))) ∧ Below W.heap.size W W' := by
  cases hr : rightB n (tns ts) with
  | false =>
    have hX : sharesP n (tns ts) = [] := by unfold sharesP; rw [hr]; rfl
    rw [hX]
    have HC := hide (check_any B A c m n ts W h hB hs 140 (by rw [hr]; rfl))
    clear h hr hX
    go_enter Try.func23, Try.ntmps23
    go_wp2_with fail
    with_reducible refine HC.out.mono ?_
    rintro e w1 ⟨rfl, hb1⟩
    go_wp2_with fail
    go_ret
    exact ⟨⟨_, rfl, World.ownsRow_nil _ _ _ _⟩, hb1⟩
  | true =>
    obtain ⟨n, rfl, hk1, hk8, hall⟩ := right_n hr
    have hX : sharesP (n : Int) (tns ts) = sharesX n (tns ts) := by unfold sharesP; rw [hr]; simp
    rw [hX, sharesX_length]
    have HC := hide (check_any B A c m n ts W h hB hs 0 (by rw [hr]; rfl))
    obtain ⟨i0, hi0, hz0, hz1, hz2⟩ := info_parts elI.info
    have hmk := fun w => run_make_rowN (P := Try.prog) 22 3 i0 _ Try.underlying22 hi0 hz0 .i64 .i64 n n (Nat.le_refl _) (by rw [hz2]; omega) (by omega) w
    simp only [hz1, Nat.mul_one, made_vals] at hmk
    have H := hide h
    have HS := hide hs
    have HL := hide h.len
    have HA := hide hall
    have hm : m ≤ 4096 := by have := hs.1; have := h.len; omega
    clear h hr hX hs hall hi0 hz0 hz1 hz2
    go_enter Try.func23, Try.ntmps23
    go_wp2_with fail
    with_reducible refine HC.out.mono ?_
    rintro e w1 ⟨rfl, hb1⟩
    have HB1 := hide hb1
    have HRN := hide (RowAt.new w1 3 (vals (List.replicate n 0)))
    have HBN := hide (show Below w1.heap.size w1 (w1.alloc (.cells (vals (List.replicate n 0)) 3)) from (Below.refl _ _).alloc (Nat.le_refl _) _)
    clear hb1
    go_wp2_with fail
    generalize w1.alloc (.cells (vals (List.replicate n 0)) 3) = w2 at *
    obtain ⟨g, hg⟩ : ∃ g, w1.heap.size = g := ⟨_, rfl⟩
    have hgW : W.heap.size ≤ g := by rw [← hg]; exact HB1.out.size
    have HB2 := hide (HB1.out.trans (HBN.out.mono HB1.out.size))
    rw [hg] at HRN ⊢
    clear HBN hg hmk
    go_loopw [16] (fun i wr => ∃ k : Nat, k ≤ m ∧ i = .int .i64 k ∧ RowAt wr g 3 (vals (sharesX n (tns (ts.take k)))) ∧ Below W.heap.size W wr) (fun i _ => m - (intOf i).toNat)
    case atStart => exact ⟨0, Nat.zero_le _, rfl, by show RowAt _ _ _ (vals (sharesX n [])); rw [sharesX_nil]; exact HRN.out, HB2.out⟩
    case round =>
      obtain ⟨k, hk, rfl, hrow, hbw⟩ := hrel
      have HRW := hide hrow
      have HBW := hide hbw
      clear hrow hbw
      by_cases hlt : k < m
      · have hlx : k < ts.length := by rw [HL.out]; exact hlt
        obtain ⟨b, o, rfl, hb, d0, d1, hcan⟩ := (H.out.below (HBW.out.mono hB)).at_ hlx
        have hbl : b < wr.heap.size := Nat.lt_of_lt_of_le hb (Nat.le_trans hB HBW.out.size)
        have hkm : (k : Int) < (m : Int) := by omega
        have HT := hide (show tns (ts.take (k + 1)) = tns (ts.take k) ++ [ts[k].tn] from by rw [List.take_succ_eq_append_getElem hlx, tns, List.map_append]; rfl)
        have hch := turn_ch (l := []) hlx HA.out
        have hll : (tns (ts.take k)).length ≤ 4096 := by rw [tns_len, List.length_take]; omega
        generalize ts[k] = t at *
        obtain ⟨tA, tc, tcan, tch⟩ := t
        dsimp only [Tm.tn] at *
        obtain ⟨l, hl⟩ : ∃ l, tns (ts.take k) = l := ⟨_, rfl⟩
        rw [hl] at HRW HT hll
        obtain ⟨j, rfl⟩ := Int.eq_ofNat_of_zero_le hch.1
        have hjn : j < n := by omega
        have hjI : (j : Int) < (n : Int) := by omega
        have HSN := hide (sharesX_snoc n l (tcan, (j : Int)) j hjn rfl)
        have hfl := Nat.le_trans (filter_le l (fun t => t.2 == (j : Int))) hll
        have c0 : wr.cell? ⟨g, j, none⟩ = some (.int .i64 (((l.filter (fun t => t.2 == (j : Int))).length : Nat) : Int)) := (HRW.out.cell j).trans (vals_at (sharesX_at n l j hjn))
        have cf := HRW.out.frozen j
        have cl := HRW.out.lt
        generalize (l.filter (fun t => t.2 == (j : Int))).length = z at *
        have hwr : wrap64 ((z : Int) + 1) = (z : Int) + 1 := IntWalk.wrap64_in _ (by omega)
        have hgne : ¬ g = wr.heap.size := by omega
        have HN := hide (show RowAt ((wr.setCell ⟨g, j, none⟩ (.int .i64 ((z : Int) + 1))).alloc (.cells #[.slice tA tcan.length tc, .int .i64 j] 37)) g 3 (vals (sharesX n (tns (ts.take (k + 1))))) from by
          have h := HRW.out.set j (.int .i64 ((z : Int) + 1))
          rw [vals_set, ← HSN.out, ← HT.out] at h
          exact h.below ((Below.refl _ _).alloc (Nat.le_refl _) _))
        have HBE := hide (show Below W.heap.size W ((wr.setCell ⟨g, j, none⟩ (.int .i64 ((z : Int) + 1))).alloc (.cells #[.slice tA tcan.length tc, .int .i64 j] 37)) from (HBW.out.setCell (p := ⟨g, j, none⟩) hgW _).alloc (by rw [World.size_setCell]; exact HBW.out.size) _)
        clear hb hcan hl hch hfl
        go_wp2_with fail
        go_roundw
        case rel => exact ⟨k + 1, by omega, by go_num, HN.out, HBE.out⟩
        case measure => simp [intOf]; omega
      · have HF := hide (show wr.ownsRow W.heap.size 3 1 (.slice (some ⟨g, 0, none⟩) n n) n (Cs encI (sharesX n (tns ts))) from by
          have h := HRW.out
          rw [List.take_of_length_le (by rw [HL.out]; omega)] at h
          exact vals_own h (sharesX_length _ _) hgW (by omega))
        go_wp2_with fail
        go_ret
        exact ⟨⟨_, rfl, HF.out⟩, HBW.out⟩
set_option maxHeartbeats 1000000 in
theorem rshares_any (B : Nat) (A : Option Addr) (c m n : Nat) (ts : List Tm) (W : World) (h : RT W B A m ts) (hB : B ≤ W.heap.size) (hs : SmallT ts) (hk1 : 1 ≤ n) (hk8 : n ≤ 8) (hall : (tns ts).all (turnB n) = true) :
    Calls Try.prog 26 #[.int .i64 n, .slice A m c] W fun e W' => (∃ v, e = .returned v ∧ W'.ownsRow W.heap.size 3 1 v n (Cs encI (sharesX n (tns ts)))) ∧ Below W.heap.size W W' := by
  obtain ⟨i0, hi0, hz0, hz1, hz2⟩ := info_parts elI.info
  have hmk := fun w => run_make_rowN (P := Try.prog) 22 3 i0 _ Try.underlying22 hi0 hz0 .i64 .i64 n n (Nat.le_refl _) (by rw [hz2]; omega) (by omega) w
  simp only [hz1, Nat.mul_one, made_vals] at hmk
  have H := hide h
  have HS := hide hs
  have HL := hide h.len
  have HA := hide hall
  have hm : m ≤ 4096 := by have := hs.1; have := h.len; omega
  clear h hs hall hi0 hz0 hz1 hz2
  go_enter Try.func26, Try.ntmps26
  have HB1 := hide (Below.refl W.heap.size W)
  have HRN := hide (RowAt.new W 3 (vals (List.replicate n 0)))
  have HBN := hide (show Below W.heap.size W (W.alloc (.cells (vals (List.replicate n 0)) 3)) from (Below.refl _ _).alloc (Nat.le_refl _) _)
  go_wp2_with fail
  generalize W.alloc (.cells (vals (List.replicate n 0)) 3) = w2 at *
  obtain ⟨g, hg⟩ : ∃ g, W.heap.size = g := ⟨_, rfl⟩
  have hgW : W.heap.size ≤ g := by rw [← hg]; exact Nat.le_refl _
  have HB2 := hide (HB1.out.trans (HBN.out.mono HB1.out.size))
  rw [hg] at HRN ⊢
  clear HBN hg hmk
  go_loopw [12] (fun i wr => ∃ k : Nat, k ≤ m ∧ i = .int .i64 k ∧ RowAt wr g 3 (vals (sharesX n (tns (ts.take k)))) ∧ Below W.heap.size W wr) (fun i _ => m - (intOf i).toNat)
  case atStart => exact ⟨0, Nat.zero_le _, rfl, by show RowAt _ _ _ (vals (sharesX n [])); rw [sharesX_nil]; exact HRN.out, HB2.out⟩
  case round =>
    obtain ⟨k, hk, rfl, hrow, hbw⟩ := hrel
    have HRW := hide hrow
    have HBW := hide hbw
    clear hrow hbw
    by_cases hlt : k < m
    · have hlx : k < ts.length := by rw [HL.out]; exact hlt
      obtain ⟨b, o, rfl, hb, d0, d1, hcan⟩ := (H.out.below (HBW.out.mono hB)).at_ hlx
      have hbl : b < wr.heap.size := Nat.lt_of_lt_of_le hb (Nat.le_trans hB HBW.out.size)
      have hkm : (k : Int) < (m : Int) := by omega
      have HT := hide (show tns (ts.take (k + 1)) = tns (ts.take k) ++ [ts[k].tn] from by rw [List.take_succ_eq_append_getElem hlx, tns, List.map_append]; rfl)
      have hch := turn_ch (l := []) hlx HA.out
      have hll : (tns (ts.take k)).length ≤ 4096 := by rw [tns_len, List.length_take]; omega
      generalize ts[k] = t at *
      obtain ⟨tA, tc, tcan, tch⟩ := t
      dsimp only [Tm.tn] at *
      obtain ⟨l, hl⟩ : ∃ l, tns (ts.take k) = l := ⟨_, rfl⟩
      rw [hl] at HRW HT hll
      obtain ⟨j, rfl⟩ := Int.eq_ofNat_of_zero_le hch.1
      have hjn : j < n := by omega
      have hjI : (j : Int) < (n : Int) := by omega
      have HSN := hide (sharesX_snoc n l (tcan, (j : Int)) j hjn rfl)
      have hfl := Nat.le_trans (filter_le l (fun t => t.2 == (j : Int))) hll
      have c0 : wr.cell? ⟨g, j, none⟩ = some (.int .i64 (((l.filter (fun t => t.2 == (j : Int))).length : Nat) : Int)) := (HRW.out.cell j).trans (vals_at (sharesX_at n l j hjn))
      have cf := HRW.out.frozen j
      have cl := HRW.out.lt
      generalize (l.filter (fun t => t.2 == (j : Int))).length = z at *
      have hwr : wrap64 ((z : Int) + 1) = (z : Int) + 1 := IntWalk.wrap64_in _ (by omega)
      have hgne : ¬ g = wr.heap.size := by omega
      have HN := hide (show RowAt ((wr.setCell ⟨g, j, none⟩ (.int .i64 ((z : Int) + 1))).alloc (.cells #[.slice tA tcan.length tc, .int .i64 j] 37)) g 3 (vals (sharesX n (tns (ts.take (k + 1))))) from by
        have h := HRW.out.set j (.int .i64 ((z : Int) + 1))
        rw [vals_set, ← HSN.out, ← HT.out] at h
        exact h.below ((Below.refl _ _).alloc (Nat.le_refl _) _))
      have HBE := hide (show Below W.heap.size W ((wr.setCell ⟨g, j, none⟩ (.int .i64 ((z : Int) + 1))).alloc (.cells #[.slice tA tcan.length tc, .int .i64 j] 37)) from (HBW.out.setCell (p := ⟨g, j, none⟩) hgW _).alloc (by rw [World.size_setCell]; exact HBW.out.size) _)
      clear hb hcan hl hch hfl
      go_wp2_with fail
      go_region
      have HN2 := hide HN.out.drew
      have HBE2 := hide HBE.out.drew
      go_wp2_with fail
      go_roundw
      case rel => exact ⟨k + 1, by omega, by go_num, HN2.out, HBE2.out⟩
      case measure => simp [intOf]; omega
    · have HF := hide (show wr.ownsRow W.heap.size 3 1 (.slice (some ⟨g, 0, none⟩) n n) n (Cs encI (sharesX n (tns ts))) from by
        have h := HRW.out
        rw [List.take_of_length_le (by rw [HL.out]; omega)] at h
        exact vals_own h (sharesX_length _ _) hgW (by omega))
      go_wp2_with fail
      go_ret
      exact ⟨⟨_, rfl, HF.out⟩, HBW.out⟩
end Go.Proofs.Ytogjokoaghpjiaa
