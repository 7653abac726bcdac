/-
  Waits, who is hungry, the least w, who waits longest: the reference's.
-/
import Derived.Test.YtogjokoaghpjiaaPkm
set_option linter.unusedSimpArgs false
set_option linter.unusedVariables false
namespace Go.Proofs.Ytogjokoaghpjiaa
open Go Go.RowKit
attribute [local go_sem] via_cell via_frozen

theorem starves_any (B : Nat) (tA : Option Addr) (tc : Nat) (tcan : List Int) (tch g : Int) (W : World) (h : Rd W B 1 tA tcan.length (Cs encI tcan)) (hB : B ≤ W.heap.size) (hl : tcan.length ≤ 4096) (r : Bool) (hr : starvesB (tcan, tch) g = r) :
    Calls Try.prog 53 #[.agg #[.slice tA tcan.length tc, .int .i64 tch], .int .i64 g] W fun e W' => e = .returned (.bool r) ∧ Below W.heap.size W W' := by
  have HBN := hide (show Below W.heap.size W (W.alloc (.cells #[.slice tA tcan.length tc, .int .i64 tch] 37)) from (Below.refl _ _).alloc (Nat.le_refl _) _)
  unfold starvesB at hr
  dsimp only at hr
  by_cases hc : tch = g
  · obtain rfl : false = r := by rw [← hr]; simp [hc]
    have hd : (tch != g) = false := by simpa using hc
    clear hc hr h
    go_enter Try.func53, Try.ntmps53
    go_wp2_with fail
    go_ret
    exact ⟨rfl, HBN.out⟩
  · have hd : (tch != g) = true := by rw [bne_iff_ne]; exact hc
    have HC := hide (has_any B tA tc tcan.length tcan g _ (h.below (HBN.out.mono hB)) rfl hl (Nat.le_trans hB HBN.out.size) r (by rw [← hr]; simp [hc]))
    clear hc hr h
    go_enter Try.func53, Try.ntmps53
    go_wp2_with fail
    with_reducible refine HC.out.mono ?_
    rintro e w1 ⟨rfl, rfl⟩
    go_wp2_with fail
    go_ret
    exact ⟨rfl, HBN.out⟩
theorem RT.take {w : World} {B m k : Nat} {A : Option Addr} {ts : List Tm} (h : RT w B A m ts) (hk : k ≤ m) : RT w B A k (ts.take k) :=
  ⟨by rw [Cs_take encT_len]; exact h.rd.take hk, by rw [List.length_take, h.len]; omega, fun t ht => h.cans t (List.mem_of_mem_take ht)⟩
theorem SmallT.take {ts : List Tm} (h : SmallT ts) (k : Nat) : SmallT (ts.take k) :=
  ⟨by have := h.1; rw [List.length_take]; omega, fun t ht => h.2 t (List.mem_of_mem_take ht)⟩
theorem wait_any (B : Nat) (A : Option Addr) (c m : Nat) (g : Int) (ts : List Tm) (W : World) (h : RT W B A m ts) (hB : B ≤ W.heap.size) (hs : SmallT ts) (r : Int) (hr : ((waitX (tns ts) g : Nat) : Int) = r) :
    Calls Try.prog 41 #[.slice A m c, .int .i64 g] W fun e W' => e = .returned (.int .i64 r) ∧ Below W.heap.size W W' := by
  have H := hide h
  have HS := hide hs
  have HL := hide h.len
  have HR := hide hr
  have hm : m ≤ 4096 := by have := hs.1; have := h.len; omega
  have hwm : wrap64 ((m : Int) - 1) = (m : Int) - 1 := IntWalk.wrap64_in _ (by omega)
  clear h hs hr
  go_enter Try.func41, Try.ntmps41
  go_wp2_with fail
  go_loopw [5, 6] (fun sn si wr => ∃ (j nn : Nat) (z : Int), j ≤ m ∧ z = (j : Int) - 1 ∧ si = .int .i64 z ∧ sn = .int .i64 nn ∧ waitX (tns ts) g = nn + waitX (tns (ts.take j)) g ∧ nn ≤ m ∧ Below W.heap.size W wr) (fun _ i _ => (intOf i + 1).toNat)
  case atStart => exact ⟨m, 0, (m : Int) - 1, Nat.le_refl _, rfl, rfl, rfl, by rw [List.take_of_length_le (by rw [HL.out]; exact Nat.le_refl _)]; simp, Nat.zero_le _, Below.refl _ _⟩
  case round =>
    obtain ⟨j, nn, z, hj, hz, rfl, rfl, hw, hnm, hbw⟩ := hrel
    have HW := hide hw
    have HBW := hide hbw
    clear hw hbw
    cases j with
    | zero =>
      obtain rfl : z = -1 := by omega
      have HF := hide (show (nn : Int) = r from by rw [← HR.out, HW.out]; simp [tns, waitX])
      clear hz
      go_wp2_with fail
      go_ret
      exact ⟨ret_int HF.out, HBW.out⟩
    | succ j =>
      obtain rfl : z = (j : Int) := by omega
      clear hz
      have hlx : j < ts.length := by rw [HL.out]; omega
      obtain ⟨b, o, rfl, hb, d0, d1, hcan⟩ := (H.out.below (HBW.out.mono hB)).at_ hlx
      have hbl : b < wr.heap.size := Nat.lt_of_lt_of_le hb (Nat.le_trans hB HBW.out.size)
      have hkm : (j : Int) < (m : Int) := by omega
      have h0 : decide ((0 : Int) ≤ (j : Int)) = true := by simp
      have HT := hide (show tns (ts.take (j + 1)) = tns (ts.take j) ++ [ts[j].tn] from by rw [List.take_succ_eq_append_getElem hlx, tns, List.map_append]; rfl)
      have hcl := HS.out.2 _ (List.getElem_mem hlx)
      generalize ts[j] = t at *
      obtain ⟨tA, tc, tcan, tch⟩ := t
      dsimp only [Tm.tn] at *
      obtain ⟨q, hq⟩ : ∃ q, starvesB (tcan, tch) g = q := ⟨_, rfl⟩
      have HSN := hide (show waitX (tns (ts.take (j + 1))) g = if q then waitX (tns (ts.take j)) g + 1 else 0 from by rw [HT.out, waitX_snoc, hq])
      have HC := hide (starves_any B tA tc tcan tch g wr hcan (Nat.le_trans hB HBW.out.size) hcl q hq)
      clear hq hb hcan
      cases q
      · have HF := hide (show (nn : Int) = r from by rw [← HR.out, HW.out, HSN.out]; simp)
        go_wp2_with fail
        with_reducible refine HC.out.mono ?_
        rintro e w2 ⟨rfl, hb2⟩
        have HBE := hide (HBW.out.trans (hb2.mono HBW.out.size))
        clear hb2
        go_wp2_with fail
        go_ret
        exact ⟨ret_int HF.out, HBE.out⟩
      · have HN := hide (show waitX (tns ts) g = (nn + 1) + waitX (tns (ts.take j)) g from by rw [HW.out, HSN.out]; simp; omega)
        have HLE := hide (show nn + 1 ≤ m from by
          have h1 := HN.out
          have h2 := waitX_le (tns ts) g
          rw [tns_len, HL.out] at h2
          omega)
        have hw1 : wrap64 ((j : Int) - 1) = (j : Int) - 1 := IntWalk.wrap64_in _ (by omega)
        go_wp2_with fail
        with_reducible refine HC.out.mono ?_
        rintro e w2 ⟨rfl, hb2⟩
        have HBE := hide (HBW.out.trans (hb2.mono HBW.out.size))
        clear hb2
        go_wp2_with fail
        go_roundw
        case rel => exact ⟨j, nn + 1, (j : Int) - 1, by omega, rfl, rfl, by go_num, HN.out, HLE.out, HBE.out⟩
        case measure => (first | (simp [intOf]; done) | (simp [intOf]; omega))
/-- Was it hungry behind one of the first i prefixes? -/
def foundB (w : Int) (l : List Tn) (g : Int) (i : Nat) : Bool := (List.range i).any (fun j => decide (1 ≤ w) && decide (w ≤ waitX (l.take j) g))
theorem foundB_succ (w : Int) (l : List Tn) (g : Int) (i : Nat) : foundB w l g (i + 1) = (foundB w l g i || (decide (1 ≤ w) && decide (w ≤ waitX (l.take i) g))) := by
  unfold foundB
  rw [List.range_succ, List.any_append]
  simp
theorem foundB_all (w : Int) (l : List Tn) (g : Int) : foundB w l g (l.length + 1) = (decide (1 ≤ w) && decide (w ≤ mostX l g)) := by
  rw [Bool.eq_iff_iff]
  unfold foundB
  rw [List.any_eq_true]
  simp only [List.mem_range, Bool.and_eq_true, decide_eq_true_eq]
  constructor
  · rintro ⟨i, hi, h1, h2⟩
    refine ⟨h1, ?_⟩
    have := (mostX_ge l g w.toNat (by omega)).2 ⟨i, by omega, by omega⟩
    omega
  · rintro ⟨h1, h2⟩
    obtain ⟨i, hi, h3⟩ := (mostX_ge l g w.toNat (by omega)).1 (by omega)
    exact ⟨i, by omega, h1, by omega⟩
theorem hungryX_found (n : Nat) (l : List Tn) (w : Int) : hungryX n l w = (upTo n).filter (fun g => foundB w l g (l.length + 1)) := by
  unfold hungryX
  by_cases h : w < 1
  · rw [if_pos h, eq_comm, List.filter_eq_nil_iff]
    intro g _
    rw [foundB_all]
    simp
    omega
  · rw [if_neg h]
    congr 1
    funext g
    rw [foundB_all]
    have : decide (1 ≤ w) = true := by simp; omega
    rw [this]; simp
theorem tns_takeN (ts : List Tm) (k : Nat) : tns (ts.take k) = (tns ts).take k := tns_take ts k
set_option maxHeartbeats 2000000 in
theorem rhungry_any (B : Nat) (A : Option Addr) (c m n : Nat) (ts : List Tm) (w : Int) (W : World) (h : RT W B A m ts) (hc : m ≤ c) (hB : B ≤ W.heap.size) (hs : SmallT ts) (hn : n ≤ 8) :
    Calls Try.prog 25 #[.int .i64 n, .slice A m c, .int .i64 w] W fun e W' => ∃ v, e = .returned v ∧ W'.ownsRow W.heap.size 3 1 v (hungryX n (tns ts) w).length (Cs encI (hungryX n (tns ts) w)) ∧ Below W.heap.size W W' := by
  have H := hide h
  have HS := hide hs
  have HL := hide h.len
  have hm : m ≤ 4096 := by have := hs.1; have := h.len; omega
  have HX := hide (hungryX_found n (tns ts) w)
  have HLT := hide (show (tns ts).length = m from by rw [tns_len]; exact h.len)
  have hcI : (m : Int) ≤ (c : Int) := by omega
  clear h hs
  go_enter Try.func25, Try.ntmps25
  go_wp2_with fail
  obtain ⟨P, hP⟩ : ∃ P : Int → Bool, (fun g => foundB w (tns ts) g (m + 1)) = P := ⟨_, rfl⟩
  have HPP := hide hP
  clear hP
  go_loopw [7, 12] (fun sv i wr => ∃ (j : Nat) (v : Value), v = sv ∧ j ≤ n ∧ i = .int .i64 j ∧ wr.ownsRow W.heap.size 3 1 v ((upTo j).filter P).length (Cs encI ((upTo j).filter P)) ∧ Below W.heap.size W wr) (fun _ i _ => n - (intOf i).toNat)
  case atStart => exact ⟨0, _, rfl, Nat.zero_le _, rfl, World.ownsRow_nil _ _ _ _, Below.refl _ _⟩
  case round =>
    obtain ⟨j, v, rfl, hj, rfl, hown, hbw⟩ := hrel
    have HO := hide hown
    have HBW := hide hbw
    clear hown hbw
    by_cases hlt : j < n
    · have hjk : (j : Int) < (n : Int) := by omega
      have HU := hide (upTo_succ j)
      have HPJ := hide (show P j = foundB w (tns ts) j (m + 1) from by rw [← HPP.out])
      have hw1 : wrap64 ((m : Int) + 1) = (m : Int) + 1 := IntWalk.wrap64_in _ (by omega)
      go_wp2_with fail
      go_loopw [9, 18] (fun sf i wr2 => ∃ (k : Nat) (q : Bool), k ≤ m + 1 ∧ i = .int .i64 k ∧ sf = .bool q ∧ foundB w (tns ts) j k = q ∧ wr2.ownsRow W.heap.size 3 1 v ((upTo j).filter P).length (Cs encI ((upTo j).filter P)) ∧ Below W.heap.size W wr2) (fun _ i _ => m + 1 - (intOf i).toNat)
      case atStart => exact ⟨0, false, Nat.zero_le _, rfl, rfl, rfl, HO.out, HBW.out⟩
      case round =>
        obtain ⟨k, q, hk, rfl, rfl, hf, hown, hbw⟩ := hrel
        have HO2 := hide hown
        have HBW2 := hide hbw
        have HFB := hide hf
        clear hown hbw hf HO HBW
        by_cases hkm : k < m + 1
        · have hkI : (k : Int) < (m : Int) + 1 := by omega
          have hkc : (k : Int) ≤ (c : Int) := by omega
          have HSU := hide (foundB_succ w (tns ts) j k)
          cases q
          · by_cases hw0 : 1 ≤ w
            · have hd : decide (1 ≤ w) = true := by simpa using hw0
              obtain ⟨y, hy⟩ : ∃ y, waitX ((tns ts).take k) j = y := ⟨_, rfl⟩
              have HC := hide (wait_any B A c k (j : Int) (ts.take k) wr ((H.out.below (HBW2.out.mono hB)).take (by omega)) (Nat.le_trans hB HBW2.out.size) (HS.out.take k) (y : Int) (by rw [tns_take, hy]))
              have HN := hide (show foundB w (tns ts) j (k + 1) = decide (w ≤ (y : Int)) from by rw [HSU.out, HFB.out, hd, hy]; simp)
              clear hw0 hy
              go_wp2_with fail
              with_reducible refine HC.out.mono ?_
              rintro e w2 ⟨rfl, hb2⟩
              have HO3 := hide (own_keepB HO2.out hb2)
              have HB3 := hide (HBW2.out.trans (hb2.mono HBW2.out.size))
              clear hb2
              go_wp2_with fail
              go_roundw
              case rel => exact ⟨k + 1, _, by omega, by go_num, rfl, HN.out, HO3.out, HB3.out⟩
              case measure => simp [intOf]; omega
            · have hd : decide (1 ≤ w) = false := by simpa using hw0
              have HN := hide (show foundB w (tns ts) j (k + 1) = false from by rw [HSU.out, HFB.out, hd]; simp)
              clear hw0
              go_wp2_with fail
              go_roundw
              case rel => exact ⟨k + 1, _, by omega, by go_num, rfl, HN.out, HO2.out, HBW2.out⟩
              case measure => simp [intOf]; omega
          · have HN := hide (show foundB w (tns ts) j (k + 1) = true from by rw [HSU.out, HFB.out]; simp)
            go_wp2_with fail
            go_roundw
            case rel => exact ⟨k + 1, _, by omega, by go_num, rfl, HN.out, HO2.out, HBW2.out⟩
            case measure => simp [intOf]; omega
        · obtain rfl : k = m + 1 := by omega
          have HPQ := hide (HPJ.out.trans HFB.out)
          have HL2 := hide (show ((upTo j).filter P).length ≤ j from by have h := List.length_filter_le P (upTo j); rwa [upTo_length] at h)
          cases q
          · have HF := hide (show (upTo (j + 1)).filter P = (upTo j).filter P from by rw [HU.out, List.filter_append, List.filter_cons, HPQ.out]; simp)
            have HN := hide (show wr.ownsRow W.heap.size 3 1 v ((upTo (j + 1)).filter P).length (Cs encI ((upTo (j + 1)).filter P)) from by rw [HF.out]; exact HO2.out)
            go_wp2_with fail
            go_roundw
            case rel => exact ⟨j + 1, v, rfl, by omega, by go_num, HN.out, HBW2.out⟩
            case measure => simp [intOf]; omega
          · have HF := hide (show (upTo (j + 1)).filter P = (upTo j).filter P ++ [(j : Int)] from by rw [HU.out, List.filter_append, List.filter_cons, HPQ.out]; simp)
            have HOA := hide (own_keepB HO2.out ((Below.refl wr.heap.size wr).alloc (Nat.le_refl _) (.cells #[.int .i64 j] 3)))
            go_wp2_with (at_builtin; refine wpList_app elI rfl _ _ rfl rfl HOA.out rfl (Rd.new wr #[.int .i64 j] 3 1 1 rfl) (by simp [Value.oneCell']) (by have := HL2.out; omega) (by have := HBW2.out.size; simp; omega) ?_; intro v2 wB hownB hbB _ _)
            have HN := hide (show wB.ownsRow W.heap.size 3 1 v2 ((upTo (j + 1)).filter P).length (Cs encI ((upTo (j + 1)).filter P)) from by
              rw [HF.out, Cs_append, Cs_one, List.length_append]; exact hownB)
            have HBE := hide (show Below W.heap.size W wB from (HBW2.out.alloc HBW2.out.size _).trans hbB)
            clear hownB hbB
            go_roundw
            case rel => exact ⟨j + 1, v2, rfl, by omega, by go_num, HN.out, HBE.out⟩
            case measure => simp [intOf]; omega
    · obtain rfl : j = n := by omega
      have HFIN := hide (show wr.ownsRow W.heap.size 3 1 v (hungryX j (tns ts) w).length (Cs encI (hungryX j (tns ts) w)) from by
        rw [HX.out, HLT.out, HPP.out]; exact HO.out)
      go_wp2_with fail
      go_ret
      exact ⟨v, rfl, HFIN.out, HBW.out⟩
end Go.Proofs.Ytogjokoaghpjiaa
