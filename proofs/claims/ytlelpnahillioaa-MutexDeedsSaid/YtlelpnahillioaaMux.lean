/-
  Which mutexes may be, are the same, who has which, and waits for which, and rings.
-/
import Derived.Test.YtlelpnahillioaaMut
import Derived.Test.YtlelpnahillioaaMuzs
set_option linter.unusedSimpArgs false
set_option linter.unusedVariables false
namespace Go.Proofs.Ytlelpnahillioaa
open Go Go.RowKit
attribute [local go_sem] via_cell via_frozen

theorem OwnKw {A : Option Addr} {c n : Nat} {ts : List Mm} {W : World} (h : RM W W.heap.size A n ts) (hn : n ≤ c) (hcm : c ≤ 9223372036854775807) (hcap : CapT ts) :
    Calls Try.prog 9 #[.slice A n c] W fun e W' => OwnRes W.heap.size (ownL (mus ts)) e W' ∧ Below W.heap.size W W' := own_any W.heap.size A c n ts W h (Nat.le_refl _) hn hcm hcap
theorem SameKw {b1 b2 : Nat} {A1 A2 : Option Addr} {m1 c1 m2 c2 : Nat} {l1 l2 : Ml} {W : World} (h1 : Own b1 W A1 m1 c1 l1) (h2 : Own b2 W A2 m2 c2 l2) (s1 : SmallL l1) (s2 : SmallL l2) {r : Bool} (hr : decide (l1 = l2) = r) :
    Calls Try.prog 26 #[.slice A1 m1 c1, .slice A2 m2 c2] W fun e W' => e = .returned (.bool r) ∧ Below W.heap.size W W' := by
  obtain ⟨ts, hl1, hr1⟩ := h1.rm
  obtain ⟨us, hl2, hr2⟩ := h2.rm
  exact same_any W.heap.size W.heap.size A1 A2 c1 c2 m1 m2 ts us W hr1 hr2 (Nat.le_refl _) (Nat.le_refl _) (smallM_of hl1 s1) (smallM_of hl2 s2) r (by rw [hl1, hl2]; exact hr)
theorem RSameK {b1 b2 : Nat} {A1 A2 : Option Addr} {m1 c1 m2 c2 : Nat} {l1 l2 : Ml} {W : World} (h1 : Own b1 W A1 m1 c1 l1) (h2 : Own b2 W A2 m2 c2 l2) (s1 : SmallL l1) (s2 : SmallL l2) {r : Bool} (hr : decide (l1 = l2) = r) :
    Calls Try.prog 16 #[.slice A1 m1 c1, .slice A2 m2 c2] W fun e W' => e = .returned (.bool r) ∧ Below W.heap.size W W' := by
  obtain ⟨ts, hl1, hr1⟩ := h1.rm
  obtain ⟨us, hl2, hr2⟩ := h2.rm
  exact rsame_any W.heap.size W.heap.size A1 A2 c1 c2 m1 m2 ts us W hr1 hr2 (Nat.le_refl _) (Nat.le_refl _) (smallM_of hl1 s1) (smallM_of hl2 s2) r (by rw [hl1, hl2]; exact hr)
theorem RightK {base : Nat} {A : Option Addr} {m c : Nat} {l : Ml} {W : World} (h : Own base W A m c l) (hs : SmallL l) {r : Bool} (hr : rightM l = r) :
    Calls Try.prog 10 #[.slice A m c] W fun e W' => e = .returned (.bool r) ∧ Below W.heap.size W W' := by
  obtain ⟨ts, hl, hm⟩ := h.rm
  exact rright_any W.heap.size A c m ts W hm (smallM_of hl hs) (Nat.le_refl _) r (by rw [hl]; exact hr)
theorem RWaitsK {base : Nat} {A : Option Addr} {m c : Nat} {l : Ml} (g : Int) {W : World} (h : Own base W A m c l) (hs : SmallL l) {z : Int} (hz : waitsX l g = z) :
    Calls Try.prog 28 #[.slice A m c, .int .i64 g] W fun e W' => e = .returned (.int .i64 z) ∧ Below W.heap.size W W' := by
  obtain ⟨ts, hl, hm⟩ := h.rm
  exact rwaits_any W.heap.size A c m ts g W hm (smallM_of hl hs) (Nat.le_refl _) z (by rw [hl]; exact hz)
theorem RHasK {base : Nat} {A : Option Addr} {m c : Nat} {l : Ml} (g : Int) {W : World} (h : Own base W A m c l) (hs : SmallL l) {xs : List Int} {n : Nat} (h1 : hasX l g = xs) (hn : xs.length = n) :
    Calls Try.prog 29 #[.slice A m c, .int .i64 g] W fun e W' => OwnIK W.heap.size xs n e W' ∧ Below W.heap.size W W' := by
  obtain ⟨ts, hl, hr⟩ := h.rm
  refine (rhas_any W.heap.size A c m ts g W hr (smallM_of hl hs) (Nat.le_refl _) xs (by rw [hl]; exact h1)).mono ?_
  rintro e W' ⟨ho, hb⟩
  exact ⟨by rw [← hn]; exact ho.K, hb⟩
theorem RRingK {base : Nat} {A : Option Addr} {m c : Nat} {l : Ml} {W : World} (h : Own base W A m c l) (hs : SmallL l) (hright : RightM l) {xs : List Int} {n : Nat} (h1 : ringX l = xs) (hn : xs.length = n) :
    Calls Try.prog 27 #[.slice A m c] W fun e W' => OwnIK W.heap.size xs n e W' ∧ Below W.heap.size W W' := by
  obtain ⟨ts, hl, hr⟩ := h.rm
  refine (rring_any W.heap.size A c m ts W hr (smallM_of hl hs) (Nat.le_refl _) (by rw [hl]; exact hright) xs (by rw [hl]; exact h1)).mono ?_
  rintro e W' ⟨ho, hb⟩
  exact ⟨by rw [← hn]; exact ho.K, hb⟩
theorem NewErrK (n : Int) (h : ¬ (1 ≤ n ∧ n ≤ 160)) (W : World) :
    Calls Try.prog 20 #[.int .i64 n] W fun e W' => e = .returned (.tuple #[.slice none 0 0, .int .i64 2]) ∧ Below W.heap.size W W' := by
  refine (new_any n W).mono ?_
  rintro e W' ⟨hr, hb⟩
  rcases hr with ⟨h1, h2, _⟩ | ⟨_, he⟩
  · exact absurd ⟨h1, h2⟩ h
  · exact ⟨he, hb⟩
theorem ringFrom_len (l : Ml) : ∀ n i, (ringFrom l n i).length ≤ 8 := by
  intro n
  induction n with
  | zero => intro i; simp [ringFrom]
  | succ n ih =>
    intro i
    unfold ringFrom
    split
    · rename_i out h
      have := ringGo_len l i 8 i [] out h
      simpa using this
    · exact ih _
theorem hasX_len (l : Ml) (g : Int) : (hasX l g).length ≤ l.length := by
  unfold hasX
  split
  · exact hasGo_len _ _ _
  · simp
theorem newL_small {n : Nat} (h : n ≤ 160) : SmallL (mus (newL n)) := by
  refine ⟨by rw [mus_len]; unfold newL; rw [List.length_replicate]; omega, fun x hx => ?_⟩
  obtain ⟨t, ht, rfl⟩ := List.mem_map.1 hx
  obtain rfl := List.eq_of_mem_replicate ht
  exact Nat.zero_le _
theorem make_muts (k : Nat) (hk : k ≤ 160) (w : World) : (Instr.makeSlice 22 (.int .i64 (k : Int)) (.int .i64 (k : Int))).run Try.prog w = .ok (.slice (some ⟨w.heap.size, 0, none⟩) k k) (w.alloc (.cells (Cs encM (newL k)).toArray 47)) := by
  obtain ⟨i0, hi0, hz0, hz1, hz2⟩ := info_parts elM.info
  have hmk := run_make_rowN (P := Try.prog) 22 47 i0 _ Try.underlying22 hi0 hz0 .i64 .i64 k k (Nat.le_refl _) (by rw [hz2]; omega) (by omega) w
  rw [hz1] at hmk
  have hcs : madeCells #[.int .i64 0, .slice none 0 0] (k * 2) = (Cs encM (newL k)).toArray := by
    apply Array.ext_getElem?
    intro j
    by_cases hj : j < k * 2
    · have h3 : (Cs encM (newL k))[j]? = (encM mmZ)[j % 2]? := by
        have hq : j / 2 < (newL k).length := by simp [newL]; omega
        have := Cs_at encM_len (newL k) (j / 2) (j % 2) hq (by omega)
        rw [show j / 2 * 2 + j % 2 = j by omega] at this
        rw [this]; simp [newL]
      simp only [Array.getElem?_toList, List.getElem?_toArray, h3]
      have h4 : j % 2 = 0 ∨ j % 2 = 1 := by omega
      rcases h4 with h4 | h4 <;> simp [madeCells, hj, h4, encM, mmZ]
    · have h5 : (Cs encM (newL k)).length = k * 2 := by rw [Cs_length encM_len]; simp [newL]
      rw [Array.getElem?_eq_none (by simp [madeCells]; omega), Array.getElem?_eq_none (by simp [h5]; omega)]
  have hzc : (Value.agg #[.int .i64 0, .slice none 0 0]).cells = #[.int .i64 0, .slice none 0 0] := rfl
  rw [hzc, hcs] at hmk
  exact hmk
theorem make_own (k : Nat) (hk : k ≤ 160) (w : World) : Own w.heap.size (w.alloc (.cells (Cs encM (newL k)).toArray 47)) (some ⟨w.heap.size, 0, none⟩) k k (mus (newL k)) := by
  have hown := World.ownsRow_lit (base := w.heap.size) (e := 47) (size := 2) w (Cs encM (newL k)).toArray k (Nat.le_refl _) (by simp [maxLen]; omega) (by simp [Cs_length encM_len, newL])
  refine ⟨newL k, rfl, by simp [newL], ⟨?_, fun t ht => ?_⟩⟩
  · simpa [newL] using hown
  · obtain rfl := List.eq_of_mem_replicate ht
    exact qok_none
set_option maxRecDepth 100000 in
set_option maxHeartbeats 16000000 in
theorem May_walk (A0 : Option Addr) (c0 n0 : Nat) (ts : List Mm) (A1 : Option Addr) (c1 n1 : Nat) (us : List Mm) (A2 : Option Addr) (c2 n2 : Nat) (xs2 : List Int) (W : World) (h0 : RM W W.heap.size A0 n0 ts) (hn0 : n0 ≤ c0) (hm0 : c0 ≤ 9223372036854775807) (hu0 : ∀ t ∈ ts, t.q.length ≤ t.c ∧ t.c ≤ 9223372036854775807)
    (h1 : RM W W.heap.size A1 n1 us) (hn1 : n1 ≤ c1) (hm1 : c1 ≤ 9223372036854775807) (hu1 : ∀ t ∈ us, t.q.length ≤ t.c ∧ t.c ≤ 9223372036854775807) (h2 : Rd W W.heap.size 1 A2 n2 (Cs encI xs2)) (hx2 : xs2.length = n2) (hn2 : n2 ≤ c2) (hm2 : c2 ≤ 9223372036854775807) :
    Calls Try.prog 6 #[.slice A0 n0 c0, .slice A1 n1 c1, .slice A2 n2 c2] W fun e W' => e = .returned (.bool true) ∧ Below W.heap.size W W' := by
  have HOW0 := hide (fun w (hb : Below W.heap.size W w) => OwnKw ((h0.below hb).more hb.size) hn0 hm0 (show CapT ts from hu0))
  have HOW1 := hide (fun w (hb : Below W.heap.size W w) => OwnKw ((h1.below hb).more hb.size) hn1 hm1 (show CapT us from hu1))
  have HLA := hide (ownL_small (mus ts))
  have HLB := hide (ownL_small (mus us))
  have HLN := hide (ownL_len (mus ts))
  have HX := hide h2
  have HLX := hide hx2
  have hm2I : (n2 : Int) ≤ 9223372036854775807 := by omega
  clear h0 hu0 h1 hu1 h2 hx2
  generalize ownL (mus ts) = la at *
  generalize ownL (mus us) = lb at *
  go_enter Try.func6, Try.ntmps6
  go_wp2_with fail
  with_reducible refine (wakes_any W).mono ?_
  rintro e w0 ⟨rfl, hb0⟩
  have HB0 := hide hb0
  have HC0 := hide (HOW0.out _ HB0.out)
  clear hb0
  go_wp2_with fail
  with_reducible refine HC0.out.mono ?_
  rintro e w1 ⟨⟨Aa, ma, ca, rfl, ho⟩, hb⟩
  have HOA1 := hide (ho.base HB0.out.size)
  have HB1 := hide (HB0.out.trans (hb.mono HB0.out.size))
  have HC1 := hide (HOW1.out _ HB1.out)
  clear ho hb HC0
  go_wp2_with fail
  with_reducible refine HC1.out.mono ?_
  rintro e w2 ⟨⟨Ab, mb, cb, rfl, ho⟩, hb⟩
  have HOA2 := hide (HOA1.out.below hb)
  have HOB2 := hide (ho.base HB1.out.size)
  have HB2 := hide (HB1.out.trans (hb.mono HB1.out.size))
  clear ho hb HC1 HOW1
  obtain ⟨q, hq⟩ : ∃ x : Bool, decide (la = lb) = x := ⟨_, rfl⟩
  have HQ := hide hq
  have hqq : (q != q) = false := by simp
  obtain ⟨r, hr⟩ : ∃ x : Bool, rightM la = x := ⟨_, rfl⟩
  have HR := hide hr
  have HCR := hide (RightK HOA2.out HLA.out hr)
  clear hq hr
  cases r
  · have HCK := hide (fun w {A c m} (h : Own W.heap.size w A c m la) => CheckK h HLA.out (z := 150) (by rw [HR.out]; rfl))
    go_wp2_with fail
    with_reducible refine HCR.out.mono ?_
    rintro e w3 ⟨rfl, hb⟩
    have HOA3 := hide (HOA2.out.below hb)
    have HOB3 := hide (HOB2.out.below hb)
    have HB3 := hide (HB2.out.trans (hb.mono HB2.out.size))
    have HC3 := hide (HCK.out _ HOA3.out)
    clear hb HCR
    go_wp2_with fail
    with_reducible refine HC3.out.mono ?_
    rintro e w4 ⟨rfl, hb⟩
    have HOA4 := hide (HOA3.out.below hb)
    have HOB4 := hide (HOB3.out.below hb)
    have HB4 := hide (HB3.out.trans (hb.mono HB3.out.size))
    have HC4 := hide (SameKw HOA4.out HOB4.out HLA.out HLB.out HQ.out)
    clear hb HC3 HCK
    go_wp2_with fail
    with_reducible refine HC4.out.mono ?_
    rintro e w5 ⟨rfl, hb⟩
    have HOA5 := hide (HOA4.out.below hb)
    have HOB5 := hide (HOB4.out.below hb)
    have HB5 := hide (HB4.out.trans (hb.mono HB4.out.size))
    have HC5 := hide (RSameK HOA5.out HOB5.out HLA.out HLB.out HQ.out)
    clear hb HC4
    go_wp2_with fail
    with_reducible refine HC5.out.mono ?_
    rintro e w6 ⟨rfl, hb⟩
    have HOA6 := hide (HOA5.out.below hb)
    have HB6 := hide (HB5.out.trans (hb.mono HB5.out.size))
    have HC6 := hide (HOW0.out _ HB6.out)
    clear hb HC5
    go_wp2_with fail
    with_reducible refine HC6.out.mono ?_
    rintro e w7 ⟨⟨A7, m7, k7, rfl, ho⟩, hb⟩
    have HOA7 := hide (HOA6.out.below hb)
    have HB7 := hide (HB6.out.trans (hb.mono HB6.out.size))
    have HC7 := hide (SameKw HOA7.out ho HLA.out HLA.out (r := true) (by simp))
    clear ho hb HC6
    go_wp2_with fail
    with_reducible refine HC7.out.mono ?_
    rintro e w8 ⟨rfl, hb⟩
    have HOA8 := hide (HOA7.out.below hb)
    have HB8 := hide (HB7.out.trans (hb.mono HB7.out.size))
    clear hb HC7 hqq HQ
    obtain ⟨rs, hrs⟩ : ∃ x : List Int, [] = x := ⟨_, rfl⟩
    obtain ⟨rn, hrn⟩ : ∃ x : Nat, 0 = x := ⟨_, rfl⟩
    have HRL := hide (show rs.length = rn from by rw [← hrs, ← hrn]; rfl)
    have HR8 := hide (show rn ≤ 8 from by rw [← hrn]; omega)
    have HRK := hide (fun w {A c m} (h : Own W.heap.size w A c m la) => RingK h HLA.out (xs := []) (n := 0) (by rw [HR.out]; rfl) rfl)
    obtain ⟨w9, h9⟩ : ∃ w, w = w8 := ⟨_, rfl⟩
    subst h9
    have HOA9 := HOA8
    have HB9 := HB8
    clear hrs hrn HRL HR8
    go_wp2_with fail
    go_loopw [63] (fun i wr => ∃ k : Nat, k ≤ n2 ∧ i = .int .i64 k ∧ Below W.heap.size W wr ∧ Below w9.heap.size w9 wr) (fun i _ => n2 - (intOf i).toNat)
    case atStart => exact ⟨0, Nat.zero_le _, rfl, HB9.out, Below.refl _ _⟩
    case round =>
      obtain ⟨k, hk, rfl, hbw, hbn⟩ := hrel
      have HBW := hide hbw
      have HBN := hide hbn
      have HOAr := hide (HOA9.out.below hbn)
      clear hbw hbn
      by_cases hlt : k < n2
      · obtain ⟨b, o, rfl, hb, d0⟩ := (HX.out.below HBW.out).numD HLX.out hlt
        have hbl : b < wr.heap.size := Nat.lt_of_lt_of_le hb HBW.out.size
        have hkm : (k : Int) < (n2 : Int) := by omega
        generalize xs2.getD k 0 = g at *
        clear hb
        by_cases h10 : k = 10
        · have hd10 : ((k : Int) == 10) = true := by rw [h10]; rfl
          clear h10
          have HE1 := hide (HRK.out _ HOAr.out)
          go_wp2_with fail
          with_reducible refine HE1.out.mono ?_
          rintro e we1 ⟨⟨Ae, ce, rfl, hel, hrd1, _⟩, hb⟩
          have HRD1 := hide hrd1
          have HEL := hide hel
          have HOAe := hide (HOAr.out.below hb)
          have HBe := hide (HBW.out.trans (hb.mono HBW.out.size))
          have HE2 := hide (EqualIn we1.heap.size we1.heap.size Ae none ce 0 0 0 [] [] we1 rfl rfl HRD1.out Rd.none_ (Nat.le_refl _) (Nat.le_refl _) (by omega) (by omega) true (by simp))
          clear hb hrd1 hel HE1
          go_wp2_with fail
          with_reducible refine HE2.out.mono ?_
          rintro e we2 ⟨rfl, hb⟩
          have HOAf := hide (HOAe.out.below hb)
          have HBf := hide (HBe.out.trans (hb.mono HBe.out.size))
          have HE3 := hide (HOW0.out _ HBf.out)
          clear hb HE2
          go_wp2_with fail
          with_reducible refine HE3.out.mono ?_
          rintro e we3 ⟨⟨A9, m9, k9, rfl, ho⟩, hb⟩
          have HBg := hide (HBf.out.trans (hb.mono HBf.out.size))
          have HE4 := hide (RSameK (HOAf.out.below hb) ho HLA.out HLA.out (r := true) (by simp))
          clear ho hb HE3
          go_wp2_with fail
          with_reducible refine HE4.out.mono ?_
          rintro e we4 ⟨rfl, hb⟩
          have HBh := hide (HBg.out.trans (hb.mono HBg.out.size))
          clear hb
          go_wp2_with fail
          go_ret
          exact ⟨rfl, HBh.out⟩
        · have hd10 : ((k : Int) == 10) = false := by rw [beq_eq_false_iff_ne]; omega
          clear h10
          have hmx : max (-1 : Int) 0 = 0 := by decide
          have hd0 : decide ((0 : Int) ≤ -1) = false := by decide
          have HW1 := hide (WaitsK g HOAr.out HLA.out (z := 0) (b := false) (by rw [HR.out]; rfl) (by rw [HR.out]; rfl))
          go_wp2_with fail
          with_reducible refine HW1.out.mono ?_
          rintro e v1 ⟨rfl, hb⟩
          have HOv1 := hide (HOAr.out.below hb)
          have HBv1 := hide (HBW.out.trans (hb.mono HBW.out.size))
          have HNv1 := hide (HBN.out.trans (hb.mono HBN.out.size))
          have HW4 := hide (HasK g HOv1.out HLA.out (xs := []) (n := 0) (by rw [HR.out]; rfl) rfl)
          clear hb HW1
          go_wp2_with fail
          with_reducible refine HW4.out.mono ?_
          rintro e v4 ⟨⟨Ai, ci, rfl, _, hrd4, _⟩, hb⟩
          have HBv4 := hide (HBv1.out.trans (hb.mono HBv1.out.size))
          have HNv4 := hide (HNv1.out.trans (hb.mono HNv1.out.size))
          have HW5 := hide (EqualIn v4.heap.size v4.heap.size Ai none ci 0 0 0 [] [] v4 rfl rfl hrd4 Rd.none_ (Nat.le_refl _) (Nat.le_refl _) (by omega) (by omega) true (by simp))
          clear hb hrd4 HW4
          go_wp2_with fail
          with_reducible refine HW5.out.mono ?_
          rintro e v5 ⟨rfl, hb⟩
          have HBv5 := hide (HBv4.out.trans (hb.mono HBv4.out.size))
          have HNv5 := hide (HNv4.out.trans (hb.mono HNv4.out.size))
          clear hb HW5
          by_cases hg : 1 ≤ g ∧ g ≤ 160
          · obtain ⟨j, rfl⟩ := Int.eq_ofNat_of_zero_le (show 0 ≤ g by omega)
            have hj1 : 1 ≤ j := by omega
            have hj2 : j ≤ 160 := by omega
            have HW6 := hide (NewK j j rfl hj1 hj2 v5)
            have hd1 : decide ((1 : Int) ≤ (j : Int)) = true := by simp; omega
            have hd2 : decide ((j : Int) ≤ 160) = true := by simp; omega
            have hmk := fun w => make_muts j hj2 w
            have HMO := hide (fun w => make_own j hj2 w)
            have HNS := hide (newL_small hj2)
            clear hg
            go_wp2_with fail
            with_reducible refine HW6.out.mono ?_
            rintro e v6 ⟨⟨An, cn, rfl, ho⟩, hb⟩
            have HBv6 := hide (HBv5.out.trans (hb.mono HBv5.out.size))
            have HNv6 := hide (HNv5.out.trans (hb.mono HNv5.out.size))
            have HBm := hide (show Below v6.heap.size v6 (v6.alloc (.cells (Cs encM (newL j)).toArray 47)) from (Below.refl _ _).alloc (Nat.le_refl _) _)
            have HW7 := hide (RSameK (ho.below HBm.out) (HMO.out v6) HNS.out HNS.out (r := true) (by simp))
            clear hb ho HW6
            go_wp2_with fail
            with_reducible refine HW7.out.mono ?_
            rintro e v7 ⟨rfl, hb⟩
            have HBv7 := hide (HBv6.out.trans ((HBm.out.trans (hb.mono HBm.out.size)).mono HBv6.out.size))
            have HNv7 := hide (HNv6.out.trans ((HBm.out.trans (hb.mono HBm.out.size)).mono HNv6.out.size))
            clear hb HW7 hmk
            go_wp2_with fail
            go_roundw
            case rel => exact ⟨k + 1, by omega, by go_num, HBv7.out, HNv7.out⟩
            case measure => simp [intOf]; omega
          have HW6 := hide (NewErrK g hg v5)
          by_cases hg1 : 1 ≤ g
          · have hd1 : decide ((1 : Int) ≤ g) = true := by simpa using hg1
            have hd2 : decide (g ≤ 160) = false := by simp; omega
            clear hg hg1
            go_wp2_with fail
            with_reducible refine HW6.out.mono ?_
            rintro e v6 ⟨rfl, hb⟩
            have HBv6 := hide (HBv5.out.trans (hb.mono HBv5.out.size))
            have HNv6 := hide (HNv5.out.trans (hb.mono HNv5.out.size))
            clear hb HW6
            go_wp2_with fail
            go_roundw
            case rel => exact ⟨k + 1, by omega, by go_num, HBv6.out, HNv6.out⟩
            case measure => simp [intOf]; omega
          · have hd1 : decide ((1 : Int) ≤ g) = false := by simpa using hg1
            clear hg hg1
            go_wp2_with fail
            with_reducible refine HW6.out.mono ?_
            rintro e v6 ⟨rfl, hb⟩
            have HBv6 := hide (HBv5.out.trans (hb.mono HBv5.out.size))
            have HNv6 := hide (HNv5.out.trans (hb.mono HNv5.out.size))
            clear hb HW6
            go_wp2_with fail
            go_roundw
            case rel => exact ⟨k + 1, by omega, by go_num, HBv6.out, HNv6.out⟩
            case measure => simp [intOf]; omega
      · skip
        have HE1 := hide (HRK.out _ HOAr.out)
        go_wp2_with fail
        with_reducible refine HE1.out.mono ?_
        rintro e we1 ⟨⟨Ae, ce, rfl, hel, hrd1, _⟩, hb⟩
        have HRD1 := hide hrd1
        have HEL := hide hel
        have HOAe := hide (HOAr.out.below hb)
        have HBe := hide (HBW.out.trans (hb.mono HBW.out.size))
        have HE2 := hide (EqualIn we1.heap.size we1.heap.size Ae none ce 0 0 0 [] [] we1 rfl rfl HRD1.out Rd.none_ (Nat.le_refl _) (Nat.le_refl _) (by omega) (by omega) true (by simp))
        clear hb hrd1 hel HE1
        go_wp2_with fail
        with_reducible refine HE2.out.mono ?_
        rintro e we2 ⟨rfl, hb⟩
        have HOAf := hide (HOAe.out.below hb)
        have HBf := hide (HBe.out.trans (hb.mono HBe.out.size))
        have HE3 := hide (HOW0.out _ HBf.out)
        clear hb HE2
        go_wp2_with fail
        with_reducible refine HE3.out.mono ?_
        rintro e we3 ⟨⟨A9, m9, k9, rfl, ho⟩, hb⟩
        have HBg := hide (HBf.out.trans (hb.mono HBf.out.size))
        have HE4 := hide (RSameK (HOAf.out.below hb) ho HLA.out HLA.out (r := true) (by simp))
        clear ho hb HE3
        go_wp2_with fail
        with_reducible refine HE4.out.mono ?_
        rintro e we4 ⟨rfl, hb⟩
        have HBh := hide (HBg.out.trans (hb.mono HBg.out.size))
        clear hb
        go_wp2_with fail
        go_ret
        exact ⟨rfl, HBh.out⟩
  · have HCK := hide (fun w {A c m} (h : Own W.heap.size w A c m la) => CheckK h HLA.out (z := 0) (by rw [HR.out]; rfl))
    go_wp2_with fail
    with_reducible refine HCR.out.mono ?_
    rintro e w3 ⟨rfl, hb⟩
    have HOA3 := hide (HOA2.out.below hb)
    have HOB3 := hide (HOB2.out.below hb)
    have HB3 := hide (HB2.out.trans (hb.mono HB2.out.size))
    have HC3 := hide (HCK.out _ HOA3.out)
    clear hb HCR
    go_wp2_with fail
    with_reducible refine HC3.out.mono ?_
    rintro e w4 ⟨rfl, hb⟩
    have HOA4 := hide (HOA3.out.below hb)
    have HOB4 := hide (HOB3.out.below hb)
    have HB4 := hide (HB3.out.trans (hb.mono HB3.out.size))
    have HC4 := hide (SameKw HOA4.out HOB4.out HLA.out HLB.out HQ.out)
    clear hb HC3 HCK
    go_wp2_with fail
    with_reducible refine HC4.out.mono ?_
    rintro e w5 ⟨rfl, hb⟩
    have HOA5 := hide (HOA4.out.below hb)
    have HOB5 := hide (HOB4.out.below hb)
    have HB5 := hide (HB4.out.trans (hb.mono HB4.out.size))
    have HC5 := hide (RSameK HOA5.out HOB5.out HLA.out HLB.out HQ.out)
    clear hb HC4
    go_wp2_with fail
    with_reducible refine HC5.out.mono ?_
    rintro e w6 ⟨rfl, hb⟩
    have HOA6 := hide (HOA5.out.below hb)
    have HB6 := hide (HB5.out.trans (hb.mono HB5.out.size))
    have HC6 := hide (HOW0.out _ HB6.out)
    clear hb HC5
    go_wp2_with fail
    with_reducible refine HC6.out.mono ?_
    rintro e w7 ⟨⟨A7, m7, k7, rfl, ho⟩, hb⟩
    have HOA7 := hide (HOA6.out.below hb)
    have HB7 := hide (HB6.out.trans (hb.mono HB6.out.size))
    have HC7 := hide (SameKw HOA7.out ho HLA.out HLA.out (r := true) (by simp))
    clear ho hb HC6
    go_wp2_with fail
    with_reducible refine HC7.out.mono ?_
    rintro e w8 ⟨rfl, hb⟩
    have HOA8 := hide (HOA7.out.below hb)
    have HB8 := hide (HB7.out.trans (hb.mono HB7.out.size))
    clear hb HC7 hqq HQ
    have HRM := hide (rightM_iff.1 HR.out)
    obtain ⟨rs, hrs⟩ : ∃ x, ringX la = x := ⟨_, rfl⟩
    obtain ⟨rn, hrn⟩ : ∃ x, rs.length = x := ⟨_, rfl⟩
    have HRL := hide hrn
    have HR8 := hide (show rn ≤ 8 from by rw [← hrn, ← hrs]; exact ringFrom_len la 8 0)
    have HRK := hide (fun w {A c m} (h : Own W.heap.size w A c m la) => RingK h HLA.out (xs := rs) (n := rn) (by rw [HR.out]; exact hrs) hrn)
    have HC8 := hide (RRingK HOA8.out HLA.out HRM.out hrs hrn)
    clear hrs hrn
    go_wp2_with fail
    with_reducible refine HC8.out.mono ?_
    rintro e w9 ⟨⟨Ar, cr, rfl, _, hrd, _⟩, hb⟩
    have HRD := hide hrd
    have HOA9 := hide (HOA8.out.below hb)
    have HB9 := hide (HB8.out.trans (hb.mono HB8.out.size))
    clear hb hrd HC8
    go_wp2_with fail
    go_loopw [63] (fun i wr => ∃ k : Nat, k ≤ n2 ∧ i = .int .i64 k ∧ Below W.heap.size W wr ∧ Below w9.heap.size w9 wr) (fun i _ => n2 - (intOf i).toNat)
    case atStart => exact ⟨0, Nat.zero_le _, rfl, HB9.out, Below.refl _ _⟩
    case round =>
      obtain ⟨k, hk, rfl, hbw, hbn⟩ := hrel
      have HBW := hide hbw
      have HBN := hide hbn
      have HOAr := hide (HOA9.out.below hbn)
      clear hbw hbn
      by_cases hlt : k < n2
      · obtain ⟨b, o, rfl, hb, d0⟩ := (HX.out.below HBW.out).numD HLX.out hlt
        have hbl : b < wr.heap.size := Nat.lt_of_lt_of_le hb HBW.out.size
        have hkm : (k : Int) < (n2 : Int) := by omega
        generalize xs2.getD k 0 = g at *
        clear hb
        by_cases h10 : k = 10
        · have hd10 : ((k : Int) == 10) = true := by rw [h10]; rfl
          clear h10
          have HE1 := hide (HRK.out _ HOAr.out)
          go_wp2_with fail
          with_reducible refine HE1.out.mono ?_
          rintro e we1 ⟨⟨Ae, ce, rfl, hel, hrd1, _⟩, hb⟩
          have HRD1 := hide hrd1
          have HEL := hide hel
          have HOAe := hide (HOAr.out.below hb)
          have HBe := hide (HBW.out.trans (hb.mono HBW.out.size))
          have HRDe := hide ((HRD.out.below (HBN.out)).below (hb.mono HBN.out.size))
          have HE2 := hide (EqualIn we1.heap.size w9.heap.size Ae Ar ce cr rn rn rs rs we1 HEL.out HRL.out HRD1.out HRDe.out (Nat.le_refl _) (Nat.le_trans HBN.out.size hb.size) (by have := HR8.out; omega) (by have := HR8.out; omega) true (by simp))
          clear hb hrd1 hel HE1
          go_wp2_with fail
          with_reducible refine HE2.out.mono ?_
          rintro e we2 ⟨rfl, hb⟩
          have HOAf := hide (HOAe.out.below hb)
          have HBf := hide (HBe.out.trans (hb.mono HBe.out.size))
          have HE3 := hide (HOW0.out _ HBf.out)
          clear hb HE2
          go_wp2_with fail
          with_reducible refine HE3.out.mono ?_
          rintro e we3 ⟨⟨A9, m9, k9, rfl, ho⟩, hb⟩
          have HBg := hide (HBf.out.trans (hb.mono HBf.out.size))
          have HE4 := hide (RSameK (HOAf.out.below hb) ho HLA.out HLA.out (r := true) (by simp))
          clear ho hb HE3
          go_wp2_with fail
          with_reducible refine HE4.out.mono ?_
          rintro e we4 ⟨rfl, hb⟩
          have HBh := hide (HBg.out.trans (hb.mono HBg.out.size))
          clear hb
          go_wp2_with fail
          go_ret
          exact ⟨rfl, HBh.out⟩
        · have hd10 : ((k : Int) == 10) = false := by rw [beq_eq_false_iff_ne]; omega
          clear h10
          obtain ⟨wx, hwx⟩ : ∃ x, waitsX la g = x := ⟨_, rfl⟩
          obtain ⟨bw, hbw⟩ : ∃ x : Bool, decide (0 ≤ wx) = x := ⟨_, rfl⟩
          obtain ⟨z, hz⟩ : ∃ x : Int, max wx 0 = x := ⟨_, rfl⟩
          have hbb : (bw != bw) = false := by simp
          have hzz : (z != z) = false := by simp
          have HW1 := hide (WaitsK g HOAr.out HLA.out (z := z) (b := bw) (by rw [HR.out, hwx]; exact hz) (by rw [HR.out, hwx]; exact hbw))
          have HWX := hide hwx
          obtain ⟨hs, hhs⟩ : ∃ x, hasX la g = x := ⟨_, rfl⟩
          obtain ⟨hl, hhl⟩ : ∃ x, hs.length = x := ⟨_, rfl⟩
          have HHS := hide hhs
          have HHL := hide hhl
          have HH4 := hide (show hl ≤ 4096 from by rw [← hhl, ← hhs]; have h1 := hasX_len la g; have h2 := HLA.out.1; omega)
          clear hwx hhs hhl
          go_wp2_with fail
          with_reducible refine HW1.out.mono ?_
          rintro e v1 ⟨rfl, hb⟩
          have HOv1 := hide (HOAr.out.below hb)
          have HBv1 := hide (HBW.out.trans (hb.mono HBW.out.size))
          have HNv1 := hide (HBN.out.trans (hb.mono HBN.out.size))
          have HW2 := hide (RWaitsK g HOv1.out HLA.out HWX.out)
          clear hb HW1
          go_wp2_with fail
          with_reducible refine HW2.out.mono ?_
          rintro e v2 ⟨rfl, hb⟩
          have HOv2 := hide (HOv1.out.below hb)
          have HBv2 := hide (HBv1.out.trans (hb.mono HBv1.out.size))
          have HNv2 := hide (HNv1.out.trans (hb.mono HNv1.out.size))
          have HW3 := hide (RHasK g HOv2.out HLA.out HHS.out HHL.out)
          clear hb HW2
          go_wp2_with fail
          with_reducible refine HW3.out.mono ?_
          rintro e v3 ⟨⟨Ah, ch, rfl, _, hrd3, _⟩, hb⟩
          have HRD3 := hide hrd3
          have HOv3 := hide (HOv2.out.below hb)
          have HBv3 := hide (HBv2.out.trans (hb.mono HBv2.out.size))
          have HNv3 := hide (HNv2.out.trans (hb.mono HNv2.out.size))
          have HW4 := hide (HasK g HOv3.out HLA.out (xs := hs) (n := hl) (by rw [HR.out]; exact HHS.out) HHL.out)
          clear hb hrd3 HW3
          go_wp2_with fail
          with_reducible refine HW4.out.mono ?_
          rintro e v4 ⟨⟨Ai, ci, rfl, _, hrd4, _⟩, hb⟩
          have HOv4 := hide (HOv3.out.below hb)
          have HBv4 := hide (HBv3.out.trans (hb.mono HBv3.out.size))
          have HNv4 := hide (HNv3.out.trans (hb.mono HNv3.out.size))
          have HW5 := hide (EqualIn v4.heap.size v3.heap.size Ai Ah ci ch hl hl hs hs v4 HHL.out HHL.out hrd4 (HRD3.out.below hb) (Nat.le_refl _) hb.size HH4.out HH4.out true (by simp))
          clear hb hrd4 HW4
          go_wp2_with fail
          with_reducible refine HW5.out.mono ?_
          rintro e v5 ⟨rfl, hb⟩
          have HBv5 := hide (HBv4.out.trans (hb.mono HBv4.out.size))
          have HNv5 := hide (HNv4.out.trans (hb.mono HNv4.out.size))
          clear hb HW5 hbb hzz hbw hz
          by_cases hg : 1 ≤ g ∧ g ≤ 160
          · obtain ⟨j, rfl⟩ := Int.eq_ofNat_of_zero_le (show 0 ≤ g by omega)
            have hj1 : 1 ≤ j := by omega
            have hj2 : j ≤ 160 := by omega
            have HW6 := hide (NewK j j rfl hj1 hj2 v5)
            have hd1 : decide ((1 : Int) ≤ (j : Int)) = true := by simp; omega
            have hd2 : decide ((j : Int) ≤ 160) = true := by simp; omega
            have hmk := fun w => make_muts j hj2 w
            have HMO := hide (fun w => make_own j hj2 w)
            have HNS := hide (newL_small hj2)
            clear hg
            go_wp2_with fail
            with_reducible refine HW6.out.mono ?_
            rintro e v6 ⟨⟨An, cn, rfl, ho⟩, hb⟩
            have HBv6 := hide (HBv5.out.trans (hb.mono HBv5.out.size))
            have HNv6 := hide (HNv5.out.trans (hb.mono HNv5.out.size))
            have HBm := hide (show Below v6.heap.size v6 (v6.alloc (.cells (Cs encM (newL j)).toArray 47)) from (Below.refl _ _).alloc (Nat.le_refl _) _)
            have HW7 := hide (RSameK (ho.below HBm.out) (HMO.out v6) HNS.out HNS.out (r := true) (by simp))
            clear hb ho HW6
            go_wp2_with fail
            with_reducible refine HW7.out.mono ?_
            rintro e v7 ⟨rfl, hb⟩
            have HBv7 := hide (HBv6.out.trans ((HBm.out.trans (hb.mono HBm.out.size)).mono HBv6.out.size))
            have HNv7 := hide (HNv6.out.trans ((HBm.out.trans (hb.mono HBm.out.size)).mono HNv6.out.size))
            clear hb HW7 hmk
            go_wp2_with fail
            go_roundw
            case rel => exact ⟨k + 1, by omega, by go_num, HBv7.out, HNv7.out⟩
            case measure => simp [intOf]; omega
          have HW6 := hide (NewErrK g hg v5)
          by_cases hg1 : 1 ≤ g
          · have hd1 : decide ((1 : Int) ≤ g) = true := by simpa using hg1
            have hd2 : decide (g ≤ 160) = false := by simp; omega
            clear hg hg1
            go_wp2_with fail
            with_reducible refine HW6.out.mono ?_
            rintro e v6 ⟨rfl, hb⟩
            have HBv6 := hide (HBv5.out.trans (hb.mono HBv5.out.size))
            have HNv6 := hide (HNv5.out.trans (hb.mono HNv5.out.size))
            clear hb HW6
            go_wp2_with fail
            go_roundw
            case rel => exact ⟨k + 1, by omega, by go_num, HBv6.out, HNv6.out⟩
            case measure => simp [intOf]; omega
          · have hd1 : decide ((1 : Int) ≤ g) = false := by simpa using hg1
            clear hg hg1
            go_wp2_with fail
            with_reducible refine HW6.out.mono ?_
            rintro e v6 ⟨rfl, hb⟩
            have HBv6 := hide (HBv5.out.trans (hb.mono HBv5.out.size))
            have HNv6 := hide (HNv5.out.trans (hb.mono HNv5.out.size))
            clear hb HW6
            go_wp2_with fail
            go_roundw
            case rel => exact ⟨k + 1, by omega, by go_num, HBv6.out, HNv6.out⟩
            case measure => simp [intOf]; omega
      · skip
        have HE1 := hide (HRK.out _ HOAr.out)
        go_wp2_with fail
        with_reducible refine HE1.out.mono ?_
        rintro e we1 ⟨⟨Ae, ce, rfl, hel, hrd1, _⟩, hb⟩
        have HRD1 := hide hrd1
        have HEL := hide hel
        have HOAe := hide (HOAr.out.below hb)
        have HBe := hide (HBW.out.trans (hb.mono HBW.out.size))
        have HRDe := hide ((HRD.out.below (HBN.out)).below (hb.mono HBN.out.size))
        have HE2 := hide (EqualIn we1.heap.size w9.heap.size Ae Ar ce cr rn rn rs rs we1 HEL.out HRL.out HRD1.out HRDe.out (Nat.le_refl _) (Nat.le_trans HBN.out.size hb.size) (by have := HR8.out; omega) (by have := HR8.out; omega) true (by simp))
        clear hb hrd1 hel HE1
        go_wp2_with fail
        with_reducible refine HE2.out.mono ?_
        rintro e we2 ⟨rfl, hb⟩
        have HOAf := hide (HOAe.out.below hb)
        have HBf := hide (HBe.out.trans (hb.mono HBe.out.size))
        have HE3 := hide (HOW0.out _ HBf.out)
        clear hb HE2
        go_wp2_with fail
        with_reducible refine HE3.out.mono ?_
        rintro e we3 ⟨⟨A9, m9, k9, rfl, ho⟩, hb⟩
        have HBg := hide (HBf.out.trans (hb.mono HBf.out.size))
        have HE4 := hide (RSameK (HOAf.out.below hb) ho HLA.out HLA.out (r := true) (by simp))
        clear ho hb HE3
        go_wp2_with fail
        with_reducible refine HE4.out.mono ?_
        rintro e we4 ⟨rfl, hb⟩
        have HBh := hide (HBg.out.trans (hb.mono HBg.out.size))
        clear hb
        go_wp2_with fail
        go_ret
        exact ⟨rfl, HBh.out⟩
end Go.Proofs.Ytlelpnahillioaa
