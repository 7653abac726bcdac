/-
  Arenas: an entry's tag, counts.
-/
import Derived.Test.YtejhknboiacgeaaArd
set_option linter.unusedSimpArgs false
set_option linter.unusedVariables false
namespace Go.Proofs.Ytejhknboiacgeaa
open Go Go.RowKit
attribute [local go_sem] via_cell via_frozen

theorem chk_no {xs : List (Int × Int)} (h : arOk xs = false) : chk xs = 210 := by simp [chk, h]
theorem chk_ok {xs : List (Int × Int)} (h : arOk xs = true) : chk xs = 0 := by simp [chk, h]

/-- arena.Tag. -/
theorem tag_any (A : Option Addr) (c n : Nat) (s g : Int) (xs : List (Int × Int)) (W : World) (h : Rd W W.heap.size 2 A n (Cs encE xs)) (hx : xs.length = n) (hn : n ≤ 4096) (r : Bool) (hr : (arOk xs && meantB xs (s, g)) = r) (v : Int) (hv : (if r = true then tagOf xs (s, g) else 0) = v) :
    Calls Try.prog 24 #[.agg #[.slice A n c], .agg #[.int .i64 s, .int .u64 g]] W fun e W' => e = .returned (.tuple #[.int .i64 v, .bool r]) ∧ Below W.heap.size W W' := by
  obtain ⟨w1, hw1⟩ : ∃ w1, W.alloc (.cells #[.slice A n c] 24) = w1 := ⟨_, rfl⟩
  obtain ⟨w2, hw2⟩ : ∃ w2, w1.alloc (.cells #[.int .i64 s, .int .u64 g] 31) = w2 := ⟨_, rfl⟩
  have s1 : w1.heap.size = W.heap.size + 1 := by rw [← hw1]; simp
  have s2 : w2.heap.size = W.heap.size + 1 + 1 := by rw [← hw2]; simp [s1]
  have b1 : Below W.heap.size W w1 := by rw [← hw1]; exact (Below.refl _ _).alloc (Nat.le_refl _) _
  have b2 : Below w1.heap.size w1 w2 := by rw [← hw2]; exact (Below.refl _ _).alloc (Nat.le_refl _) _
  have r1 : RowAt w2 W.heap.size 24 #[.slice A n c] := by have h := RowAt.new W 24 #[.slice A n c]; rw [hw1] at h; exact h.below b2
  have r2 : RowAt w2 (W.heap.size + 1) 31 #[.int .i64 s, .int .u64 g] := by have h := RowAt.new w1 31 #[.int .i64 s, .int .u64 g]; rw [hw2, s1] at h; exact h
  have hb0 : Below W.heap.size W w2 := b1.trans (b2.mono b1.size)
  have HC := hide (check_any W.heap.size A c n xs w2 (h.below hb0) hx hb0.size _ rfl (by omega))
  have HM := hide (fun w (hb : Below w2.heap.size w2 w) => meant_any W.heap.size A c n s g xs w ((h.below hb0).below (hb.mono hb0.size)) hx (Nat.le_trans hb0.size hb.size) (by omega) _ rfl)
  have HR1 := hide r1
  have HR2 := hide r2
  have HB := hide hb0
  have a0 := row1 r1
  have e0 := row20 r2
  have e1 := row21 r2
  have HH := hide h
  have l1 := r1.lt
  have l2 := r2.lt
  clear b1 b2 hb0 r1 r2 h
  obtain ⟨o, ho⟩ : ∃ o, arOk xs = o := ⟨_, rfl⟩
  cases o
  · rw [chk_no ho] at HC
    rw [ho] at hr
    simp at hr
    subst hr
    simp at hv
    subst hv
    clear ho
    go_enter Try.func24, Try.ntmps24
    go_wp2_with fail
    clear hw1 hw2 s1
    refine HC.out.mono ?_
    rintro e w3 ⟨rfl, hb⟩
    go_wp2_with fail
    go_ret2
    exact ⟨rfl, HB.out.trans (hb.mono HB.out.size)⟩
  · rw [chk_ok ho] at HC
    rw [ho, Bool.true_and] at hr
    rw [hr] at HM
    cases r
    · simp at hv
      subst hv
      clear hr ho
      go_enter Try.func24, Try.ntmps24
      go_wp2_with fail
      clear hw1 hw2 s1
      refine HC.out.mono ?_
      rintro e w3 ⟨rfl, hb⟩
      have f0 := kept hb a0
      have g0 := kept hb e0
      have g1 := kept hb e1
      have HM3 := hide (HM.out w3 hb)
      have HB3 := hide (HB.out.trans (hb.mono HB.out.size))
      clear hb
      go_wp2_with fail
      refine HM3.out.mono ?_
      rintro e w4 ⟨rfl, hb⟩
      go_wp2_with fail
      go_ret2
      exact ⟨rfl, HB3.out.trans (hb.mono HB3.out.size)⟩
    · simp at hv
      have hr' := meantB_out hr
      obtain ⟨k, hk, hkl, hg⟩ := hr'
      dsimp only at hk hg
      subst hk
      have hh : Rd W W.heap.size 2 A xs.length (Cs encE xs) := by rw [hx]; exact HH.out
      obtain ⟨b1, o1, rfl, hb1, hc1⟩ := hh.elem encE_len hkl
      have hd10 := hc1 0 _ (by omega) rfl
      simp only [Nat.add_zero] at hd10
      have hvx : xs[k].1 = v := by
        rw [← hv]; simp [tagOf, List.getElem?_eq_getElem hkl]
      rw [hvx] at hd10
      have HD := hide hd10
      have hkn : (k : Int) < (n : Int) := by omega
      have l0 : b1 < w2.heap.size := by omega
      clear hr ho hc1 hh hv hvx hg hd10
      go_enter Try.func24, Try.ntmps24
      go_wp2_with fail
      clear hw1 hw2 s1
      refine HC.out.mono ?_
      rintro e w3 ⟨rfl, hb⟩
      have f0 := kept hb a0
      have g0 := kept hb e0
      have g1 := kept hb e1
      have HM3 := hide (HM.out w3 hb)
      have HB3 := hide (HB.out.trans (hb.mono HB.out.size))
      clear hb
      go_wp2_with fail
      refine HM3.out.mono ?_
      rintro e w4 ⟨rfl, hb⟩
      have HB4 := hide (HB3.out.trans (hb.mono HB3.out.size))
      have p0 := kept hb f0
      have q0 := kept hb g0
      have hd := kept HB4.out HD.out
      clear hb
      go_wp2_with fail
      go_ret2
      exact ⟨rfl, HB4.out⟩

/-- How many of a tag, if the arena may be. -/
def cn (xs : List (Int × Int)) (t : Int) : Int := if arOk xs = true then (ents xs t).length else 0

set_option maxHeartbeats 1000000 in
theorem counts_any (A : Option Addr) (c n : Nat) (xs : List (Int × Int)) (W : World) (h : Rd W W.heap.size 2 A n (Cs encE xs)) (hx : xs.length = n) (hn : n ≤ 4096) (c0 c1 c2 : Int) (h0 : cn xs 0 = c0) (h1 : cn xs 1 = c1) (h2 : cn xs 2 = c2) :
    Calls Try.prog 20 #[.agg #[.slice A n c]] W fun e W' => e = .returned (.tuple #[.int .i64 c0, .int .i64 c1, .int .i64 c2]) ∧ Below W.heap.size W W' := by
  subst hx
  obtain ⟨w1, hw1⟩ : ∃ w1, W.alloc (.cells #[.slice A xs.length c] 24) = w1 := ⟨_, rfl⟩
  obtain ⟨w2, hw2⟩ : ∃ w2, w1.alloc (.cells #[.int .i64 0, .int .i64 0, .int .i64 0] 56) = w2 := ⟨_, rfl⟩
  have s1 : w1.heap.size = W.heap.size + 1 := by rw [← hw1]; simp
  have s2 : w2.heap.size = W.heap.size + 1 + 1 := by rw [← hw2]; simp [s1]
  have b1 : Below W.heap.size W w1 := by rw [← hw1]; exact (Below.refl _ _).alloc (Nat.le_refl _) _
  have b2 : Below w1.heap.size w1 w2 := by rw [← hw2]; exact (Below.refl _ _).alloc (Nat.le_refl _) _
  have r1 : RowAt w2 W.heap.size 24 #[.slice A xs.length c] := by have h := RowAt.new W 24 #[.slice A xs.length c]; rw [hw1] at h; exact h.below b2
  have r2 : RowAt w2 (W.heap.size + 1) 56 #[.int .i64 0, .int .i64 0, .int .i64 0] := by have h := RowAt.new w1 56 #[.int .i64 0, .int .i64 0, .int .i64 0]; rw [hw2, s1] at h; exact h
  have hb0 : Below W.heap.size W w2 := b1.trans (b2.mono b1.size)
  have HC := hide (check_any W.heap.size A c xs.length xs w2 (h.below hb0) rfl hb0.size _ rfl (by omega))
  have HR1 := hide r1
  have HR2 := hide r2
  have HB := hide hb0
  have a0 := row1 r1
  have HH := hide h
  have l1 := r1.lt
  have l2 := r2.lt
  clear b1 b2 hb0 r1 r2 h
  obtain ⟨o, ho⟩ : ∃ o, arOk xs = o := ⟨_, rfl⟩
  cases o
  · rw [chk_no ho] at HC
    simp [cn, ho] at h0 h1 h2
    subst h0 h1 h2
    clear ho
    go_enter Try.func20, Try.ntmps20
    go_wp2_with fail
    clear hw1 hw2 s1
    refine HC.out.mono ?_
    rintro e w3 ⟨rfl, hb⟩
    have HR3 := hide (HR2.out.below hb)
    have l3 := HR3.out.lt
    have z0 := HR3.out.cell 0
    have z1 := HR3.out.cell 1
    have z2 := HR3.out.cell 2
    simp only [List.getElem?_toArray, List.getElem?_cons_succ, List.getElem?_cons_zero] at z0 z1 z2
    go_wp2_with fail
    go_quiet (fail)
    go_wp2_with fail
    go_ret3
    exact ⟨rfl, below_drewN (HB.out.trans (hb.mono HB.out.size)) _⟩
  · rw [chk_ok ho] at HC
    simp [cn, ho] at h0 h1 h2
    have HO := hide ho
    clear ho
    go_enter Try.func20, Try.ntmps20
    go_wp2_with fail
    clear hw1 hw2 s1
    refine HC.out.mono ?_
    rintro e w3 ⟨rfl, hb⟩
    have HR3 := hide (HR2.out.below hb)
    have HR1 := hide (HR1.out.below hb)
    have HB3 := hide (HB.out.trans (hb.mono HB.out.size))
    have f0 := kept hb a0
    have hs3 := hb.size
    have H0 := hide h0
    have H1 := hide h1
    have H2 := hide h2
    clear hb h0 h1 h2
    go_wp2_with fail
    go_loopw [14] (fun i wr => ∃ j : Nat, j ≤ xs.length ∧ i = .int .i64 j ∧ RowAt wr (W.heap.size + 1) 56 #[.int .i64 (ents (xs.take j) 0).length, .int .i64 (ents (xs.take j) 1).length, .int .i64 (ents (xs.take j) 2).length] ∧ Below W.heap.size W wr) (fun i _ => xs.length - (intOf i).toNat)
    case atStart => exact ⟨0, Nat.zero_le _, rfl, HR3.out, HB3.out⟩
    case round =>
      obtain ⟨j, hj, rfl, hr3, hbw⟩ := hrel
      have HB := hide hbw
      have R3 := hide hr3
      have hsz : W.heap.size + 1 < wr.heap.size := hr3.lt
      have z0 := hr3.cell 0
      have z1 := hr3.cell 1
      have z2 := hr3.cell 2
      have y0 := hr3.frozen 0
      have y1 := hr3.frozen 1
      have y2 := hr3.frozen 2
      simp only [List.getElem?_toArray, List.getElem?_cons_succ, List.getElem?_cons_zero] at z0 z1 z2
      clear hr3 hbw
      by_cases hlt : j < xs.length
      · obtain ⟨b1, o1, rfl, hb1, hc1⟩ := (HH.out.below HB.out).elem encE_len hlt
        have hd10 := hc1 0 _ (by omega) rfl
        have hd11 := hc1 1 _ (by omega) rfl
        simp only [Nat.add_zero] at hd10
        clear hc1
        have hbl1 : b1 < wr.heap.size := by omega
        have HS0 := hide (ents_snoc xs 0 j hlt)
        have HS1 := hide (ents_snoc xs 1 j hlt)
        have HS2 := hide (ents_snoc xs 2 j hlt)
        have hle0 := ents_length (xs.take j) 0
        have hle1 := ents_length (xs.take j) 1
        have hle2 := ents_length (xs.take j) 2
        have hlt2 : (xs.take j).length ≤ 4096 := by rw [List.length_take]; omega
        have hok := slabOk_out ((arOk_out HO.out).2.2 _ (List.getElem_mem hlt))
        generalize xs[j] = x at *
        obtain ⟨t, g⟩ := x
        dsimp only at hd10 hd11 hok
        obtain ⟨m0, hm0⟩ : ∃ m, (ents (xs.take j) 0).length = m := ⟨_, rfl⟩
        obtain ⟨m1, hm1⟩ : ∃ m, (ents (xs.take j) 1).length = m := ⟨_, rfl⟩
        obtain ⟨m2, hm2⟩ : ∃ m, (ents (xs.take j) 2).length = m := ⟨_, rfl⟩
        rw [hm0] at z0 R3 hle0
        rw [hm1] at z1 R3 hle1
        rw [hm2] at z2 R3 hle2
        have HM0 := hide hm0
        have HM1 := hide hm1
        have HM2 := hide hm2
        have ht : t = 0 ∨ t = 1 ∨ t = 2 := by omega
        clear hok hm0 hm1 hm2
        rcases ht with rfl | rfl | rfl
        · go_wp2_with fail
          go_roundw
          case rel =>
            refine ⟨j + 1, by omega, by go_num, ?_, (HB.out.setCell (p := ⟨W.heap.size + 1, 0, none⟩) (by simp) _).alloc (by have := HB.out.size; simp; omega) _⟩
            have h := (R3.out.set 0 (.int .i64 (m0 + 1))).below ((Below.refl _ _).alloc (Nat.le_refl _) (.cells #[.int .i64 0, .int .u64 g] 59))
            rw [HS0.out, HS1.out, HS2.out]
            simpa [HM0.out, HM1.out, HM2.out] using h
          case measure => simp [intOf]; omega
        · go_wp2_with fail
          go_roundw
          case rel =>
            refine ⟨j + 1, by omega, by go_num, ?_, (HB.out.setCell (p := ⟨W.heap.size + 1, 1, none⟩) (by simp) _).alloc (by have := HB.out.size; simp; omega) _⟩
            have h := (R3.out.set 1 (.int .i64 (m1 + 1))).below ((Below.refl _ _).alloc (Nat.le_refl _) (.cells #[.int .i64 1, .int .u64 g] 59))
            rw [HS0.out, HS1.out, HS2.out]
            simpa [HM0.out, HM1.out, HM2.out] using h
          case measure => simp [intOf]; omega
        · go_wp2_with fail
          go_roundw
          case rel =>
            refine ⟨j + 1, by omega, by go_num, ?_, (HB.out.setCell (p := ⟨W.heap.size + 1, 2, none⟩) (by simp) _).alloc (by have := HB.out.size; simp; omega) _⟩
            have h := (R3.out.set 2 (.int .i64 (m2 + 1))).below ((Below.refl _ _).alloc (Nat.le_refl _) (.cells #[.int .i64 2, .int .u64 g] 59))
            rw [HS0.out, HS1.out, HS2.out]
            simpa [HM0.out, HM1.out, HM2.out] using h
          case measure => simp [intOf]; omega
      · obtain rfl : j = xs.length := by omega
        rw [List.take_length, H0.out] at z0
        rw [List.take_length, H1.out] at z1
        rw [List.take_length, H2.out] at z2
        go_wp2_with fail
        go_quiet (fail)
        go_wp2_with fail
        go_ret3
        exact ⟨rfl, below_drewN HB.out _⟩
end Go.Proofs.Ytejhknboiacgeaa
