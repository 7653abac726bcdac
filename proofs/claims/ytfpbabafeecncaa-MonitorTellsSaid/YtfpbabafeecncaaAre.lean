/-
  Arenas: an entry's tag, counts.
-/
import Derived.Test.YtfpbabafeecncaaArd
set_option linter.unusedSimpArgs false
set_option linter.unusedVariables false
namespace Go.Proofs.Ytfpbabafeecncaa
open Go Go.RowKit
attribute [local go_sem] via_cell via_frozen

theorem chk_no {xs : List (Int × Int)} (h : arOk xs = false) : chk xs = 210 := by simp [chk, h]
theorem chk_ok {xs : List (Int × Int)} (h : arOk xs = true) : chk xs = 0 := by simp [chk, h]

/-- arena.Tag. -/
theorem tag_any (A : Option Addr) (c n : Nat) (s g : Int) (xs : List (Int × Int)) (W : World) (h : Rd W W.heap.size 2 A n (Cs encE xs)) (hx : xs.length = n) (hn : n ≤ 4096) (r : Bool) (hr : (arOk xs && meantB xs (s, g)) = r) (v : Int) (hv : (if r = true then tagOf xs (s, g) else 0) = v) :
    Calls Try.prog 12 #[.agg #[.slice A n c], .agg #[.int .i64 s, .int .u64 g]] W fun e W' => e = .returned (.tuple #[.int .i64 v, .bool r]) ∧ Below W.heap.size W W' := by
  obtain ⟨w1, hw1⟩ : ∃ w1, W.alloc (.cells #[.slice A n c] 27) = w1 := ⟨_, rfl⟩
  obtain ⟨w2, hw2⟩ : ∃ w2, w1.alloc (.cells #[.int .i64 s, .int .u64 g] 43) = w2 := ⟨_, rfl⟩
  have s1 : w1.heap.size = W.heap.size + 1 := by rw [← hw1]; simp
  have s2 : w2.heap.size = W.heap.size + 1 + 1 := by rw [← hw2]; simp [s1]
  have b1 : Below W.heap.size W w1 := by rw [← hw1]; exact (Below.refl _ _).alloc (Nat.le_refl _) _
  have b2 : Below w1.heap.size w1 w2 := by rw [← hw2]; exact (Below.refl _ _).alloc (Nat.le_refl _) _
  have r1 : RowAt w2 W.heap.size 27 #[.slice A n c] := by have h := RowAt.new W 27 #[.slice A n c]; rw [hw1] at h; exact h.below b2
  have r2 : RowAt w2 (W.heap.size + 1) 43 #[.int .i64 s, .int .u64 g] := by have h := RowAt.new w1 43 #[.int .i64 s, .int .u64 g]; rw [hw2, s1] at h; exact h
  have hb0 : Below W.heap.size W w2 := b1.trans (b2.mono b1.size)
  have HC := hide (check_any W.heap.size A c n xs w2 (h.below hb0) hx hb0.size _ rfl (by omega))
  have HM := hide (fun w (hb : Below w2.heap.size w2 w) => meant_any W.heap.size A c n s g xs w ((h.below hb0).below (hb.mono hb0.size)) hx (Nat.le_trans hb0.size hb.size) (by omega) _ rfl)
  have HR1 := hide r1
  have HR2 := hide r2
  have HB := hide hb0
  have a0 := row1 r1
  have e0 := row20 r2
  have e1 := row21 r2
  have HH := hide h
  have l1 := r1.lt
  have l2 := r2.lt
  clear b1 b2 hb0 r1 r2 h
  obtain ⟨o, ho⟩ : ∃ o, arOk xs = o := ⟨_, rfl⟩
  cases o
  · rw [chk_no ho] at HC
    rw [ho] at hr
    simp at hr
    subst hr
    simp at hv
    subst hv
    clear ho
    go_enter Try.func12, Try.ntmps12
    go_wp2_with fail
    clear hw1 hw2 s1
    refine HC.out.mono ?_
    rintro e w3 ⟨rfl, hb⟩
    go_wp2_with fail
    go_ret2
    exact ⟨rfl, HB.out.trans (hb.mono HB.out.size)⟩
  · rw [chk_ok ho] at HC
    rw [ho, Bool.true_and] at hr
    rw [hr] at HM
    cases r
    · simp at hv
      subst hv
      clear hr ho
      go_enter Try.func12, Try.ntmps12
      go_wp2_with fail
      clear hw1 hw2 s1
      refine HC.out.mono ?_
      rintro e w3 ⟨rfl, hb⟩
      have f0 := kept hb a0
      have g0 := kept hb e0
      have g1 := kept hb e1
      have HM3 := hide (HM.out w3 hb)
      have HB3 := hide (HB.out.trans (hb.mono HB.out.size))
      clear hb
      go_wp2_with fail
      refine HM3.out.mono ?_
      rintro e w4 ⟨rfl, hb⟩
      go_wp2_with fail
      go_ret2
      exact ⟨rfl, HB3.out.trans (hb.mono HB3.out.size)⟩
    · simp at hv
      have hr' := meantB_out hr
      obtain ⟨k, hk, hkl, hg⟩ := hr'
      dsimp only at hk hg
      subst hk
      have hh : Rd W W.heap.size 2 A xs.length (Cs encE xs) := by rw [hx]; exact HH.out
      obtain ⟨b1, o1, rfl, hb1, hc1⟩ := hh.elem encE_len hkl
      have hd10 := hc1 0 _ (by omega) rfl
      simp only [Nat.add_zero] at hd10
      have hvx : xs[k].1 = v := by
        rw [← hv]; simp [tagOf, List.getElem?_eq_getElem hkl]
      rw [hvx] at hd10
      have HD := hide hd10
      have hkn : (k : Int) < (n : Int) := by omega
      have l0 : b1 < w2.heap.size := by omega
      clear hr ho hc1 hh hv hvx hg hd10
      go_enter Try.func12, Try.ntmps12
      go_wp2_with fail
      clear hw1 hw2 s1
      refine HC.out.mono ?_
      rintro e w3 ⟨rfl, hb⟩
      have f0 := kept hb a0
      have g0 := kept hb e0
      have g1 := kept hb e1
      have HM3 := hide (HM.out w3 hb)
      have HB3 := hide (HB.out.trans (hb.mono HB.out.size))
      clear hb
      go_wp2_with fail
      refine HM3.out.mono ?_
      rintro e w4 ⟨rfl, hb⟩
      have HB4 := hide (HB3.out.trans (hb.mono HB3.out.size))
      have p0 := kept hb f0
      have q0 := kept hb g0
      have hd := kept HB4.out HD.out
      clear hb
      go_wp2_with fail
      go_ret2
      exact ⟨rfl, HB4.out⟩

/-- How many of a tag, if the arena may be. -/
def cn (xs : List (Int × Int)) (t : Int) : Int := if arOk xs = true then (ents xs t).length else 0

end Go.Proofs.Ytfpbabafeecncaa
