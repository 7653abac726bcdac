/-
  PinsGo, walked.
-/
import Derived.Test.YtopaopfebgonjaaPnn
import Derived.Test.YtopaopfebgonjaaPnpl
import Derived.IntWalk
import Derived.Deep.CutRange
import Derived.Deep.CutBlock
set_option linter.unusedSimpArgs false
set_option linter.unusedVariables false
namespace Go.Proofs.Ytopaopfebgonjaa
open Go Go.RowKit
attribute [local go_sem] via_cell via_frozen

theorem madeCells_zero (z : Array Value) : madeCells z 0 = #[] := by
  apply Array.eq_empty_of_size_eq_zero; simp [madeCells]
theorem doNo {e : Int} {S : List Int} (h : pOk e S = false) (k g b : Int) : doE e S k g b = 230 ∧ doX e S k g b = 0 ∧ doS e S k g b = [] := by
  have h1 : doE e S k g b = 230 := by unfold doE; rw [h]; rfl
  exact ⟨h1, by unfold doX; rw [h1]; rfl, by unfold doS; rw [h1]; rfl⟩
/-- A row of numbers with a sign does not lie in a box of pins. -/
theorem Rd.offPins {w : World} {B n g : Nat} {A : Option Addr} {t : TypeId} {ys : List Int} {x : Int} {a : Option Addr} {b c : Nat} (h : Rd w B 1 A n (Cs encI ys)) (hr : RowAt w g t #[.int .u64 x, .slice a b c]) : 0 < n → ∀ p, A = some p → p.block ≠ g := fun hn p hp hg => by
  obtain ⟨b1, off, e, _, hc⟩ := h.2 hn
  rw [hp] at e
  injection e with e
  subst e
  have hg : b1 = g := hg
  subst hg
  have hl := h.1
  cases ys with
  | nil => simp [Cs] at hl; omega
  | cons y ys =>
    have h1 := hc 0 (.int .i64 y) (by simp [Cs, encI])
    rw [hr.cell] at h1
    match off, h1 with
    | 0, h1 => simp at h1
    | 1, h1 => simp at h1
    | k + 2, h1 => rw [Array.getElem?_eq_none (by simp)] at h1; cases h1
theorem Rd.setOff2 {w : World} {B n g : Nat} {A : Option Addr} {xs : List Value} (h : Rd w B 1 A n xs) (ho : 0 < n → ∀ p, A = some p → p.block ≠ g) (o : Nat) (u : Value) : Rd (w.setCell ⟨g, o, none⟩ u) B 1 A n xs := by
  rcases Nat.eq_zero_or_pos n with h0 | h0
  · exact ⟨h.1, fun hn => absurd hn (by omega)⟩
  · exact h.setOff (ho h0) o u
/-- Ahead of a round. -/
def GoAt (W wr : World) (g7 m lo : Nat) (e : Int) (T : List Int) (A6 : Option Addr) (k7 : Nat) (B : List Int) : Prop :=
  ∃ (A : Option Addr) (c : Nat), RowAt wr g7 25 #[.int .u64 e, .slice A m c] ∧ Rd wr wr.heap.size 1 A m (Cs encW T) ∧ m ≤ c ∧ c ≤ 9223372036854775807 ∧ Rd wr lo 1 A6 k7 (Cs encI B) ∧ lo ≤ wr.heap.size ∧ Below W.heap.size W wr

set_option maxRecDepth 100000 in
set_option maxHeartbeats 8000000 in
theorem Go_walk (A0 : Option Addr) (c0 n0 : Nat) (e g : Int) (xs : List Int) (W : World) (h0 : Rd W W.heap.size 1 A0 n0 (Cs encW xs)) (hx0 : xs.length = n0) (hu : ∀ s ∈ xs, U64 s) (hn0 : n0 ≤ c0) (hm0 : c0 ≤ 9223372036854775807) (he : U64 e) (hg : I64 g) :
    Calls Try.prog 6 #[.agg #[.int .u64 e, .slice A0 n0 c0], .int .i64 g] W fun x W' => x = .returned (.bool true) ∧ Below W.heap.size W W' := by
  obtain ⟨m, hm⟩ : ∃ m, min n0 10 = m := ⟨_, rfl⟩
  obtain ⟨S, hS⟩ : ∃ S, xs.take m = S := ⟨_, rfl⟩
  have hm10 : m ≤ 10 := by omega
  have HSL := hide (show S.length = m by rw [← hS, List.length_take]; omega)
  have HU := hide (show ∀ s ∈ S, U64 s from fun s hs => hu s (by rw [← hS] at hs; exact List.mem_of_mem_take hs))
  have HOWN : Hid (∀ w, Below W.heap.size W w → Calls Try.prog 9 #[.agg #[.int .u64 e, .slice A0 n0 c0]] w (LownRes w e m S)) := hide (fun w hb => by
    have h := lown_any A0 c0 n0 e xs w ((h0.below hb).more hb.size) hx0 hn0 hm0 m hm
    rw [hS] at h
    exact h)
  have HW := hide (fun w => wakes_any w)
  have HB := hide (Below.refl W.heap.size W)
  have he0 : 0 ≤ e := he.1
  have HE64 := hide he
  clear hm hS hu h0 he hx0
  go_enter Try.func6, Try.ntmps6
  go_wp2_with fail
  obtain ⟨g3, hg3⟩ : ∃ g, W.heap.size = g := ⟨_, rfl⟩
  have hWg3 : W.heap.size ≤ g3 := by rw [← hg3]; exact HB.out.size
  have hbx : Below W.heap.size W (W.alloc (.cells #[.int .u64 e, .slice A0 n0 c0] 25)) := (Below.refl _ _).alloc (Nat.le_refl _) _
  have hrx := RowAt.new W 25 #[.int .u64 e, .slice A0 n0 c0]
  rw [hg3] at hrx
  replace HB := hide (HB.out.trans (hbx.mono HB.out.size))
  have hs1 : (W.alloc (.cells #[.int .u64 e, .slice A0 n0 c0] 25)).heap.size = g3 + 1 := by rw [World.size_alloc, hg3]
  have R3 := hide hrx
  clear hbx hrx
  generalize W.alloc (.cells #[.int .u64 e, .slice A0 n0 c0] 25) = w2 at *
  (try rw [hg3])
  clear hg3 hs1
  with_reducible refine (HW.out _).mono ?_
  rintro e w3 ⟨rfl, hb⟩
  replace R3 := hide (R3.out.below hb)
  replace HB := hide (HB.out.trans (hb.mono HB.out.size))
  clear hb HW
  have qR3_0 := row20 R3.out
  have qR3_1 := row21 R3.out
  have lR3 := R3.out.lt
  go_wp2_with fail
  clear qR3_0 qR3_1 lR3
  with_reducible refine (HOWN.out _ HB.out).mono ?_
  rintro e w4 ⟨A7, c7, rfl, hc7, hcm7, hrd, hfr, hb⟩
  replace R3 := hide (R3.out.below hb)
  replace HB := hide (HB.out.trans (hb.mono HB.out.size))
  have HA := hide (hrd)
  clear hb hrd hfr
  go_wp2_with fail
  obtain ⟨g7, hg7⟩ : ∃ g, w4.heap.size = g := ⟨_, rfl⟩
  have hWg7 : W.heap.size ≤ g7 := by rw [← hg7]; exact HB.out.size
  have hbx : Below w4.heap.size w4 (w4.alloc (.cells #[.int .u64 e, .slice A7 m c7] 25)) := (Below.refl _ _).alloc (Nat.le_refl _) _
  have hrx := RowAt.new w4 25 #[.int .u64 e, .slice A7 m c7]
  rw [hg7] at hrx
  replace HA := hide ((HA.out.below hbx).more hbx.size)
  replace R3 := hide (R3.out.below hbx)
  replace HB := hide (HB.out.trans (hbx.mono HB.out.size))
  have hs5 : (w4.alloc (.cells #[.int .u64 e, .slice A7 m c7] 25)).heap.size = g7 + 1 := by rw [World.size_alloc, hg7]
  have R7 := hide hrx
  clear hbx hrx
  generalize w4.alloc (.cells #[.int .u64 e, .slice A7 m c7] 25) = w6 at *
  (try rw [hg7])
  clear hg7 hs5
  have HDO := hide (fun w (hr : Rd w w.heap.size 1 A7 m (Cs encW S)) E X Y m' h1 h2 h3 h4 => Do_any A7 c7 m e S 3 0 0 w hr HSL.out he0 HU.out (by omega) (by omega) E X Y m' h1 h2 h3 h4)
  have HCK := hide (fun w (h : Rd w w.heap.size 1 A7 m (Cs encW S)) k hk => check_any A7 c7 m e S w h HSL.out he0 (by omega) k hk)
  have HBA := hide (fun w (h : Rd w w.heap.size 1 A7 m (Cs encW S)) L hL lm hlm => Back_any A7 c7 m e S w h HSL.out he0 HU.out (by omega) L hL lm hlm)
  obtain ⟨r, hr⟩ : ∃ r, pOk e S = r := ⟨_, rfl⟩
  cases r
  · skip
    obtain ⟨z1, z2, z3⟩ := doNo hr 3 0 0
    have HDO2 := hide (fun w h => HDO.out w h 230 0 [] 0 z1 z2 z3 rfl)
    have HCK2 := hide (fun w h => HCK.out w h 230 (by rw [hr]; rfl))
    have HBA2 := hide (fun w h => HBA.out w h [] (by rw [hr]; rfl) 0 rfl)
    clear z1 z2 z3 hr HDO HCK HBA
    have qR7_0 := row20 R7.out
    have qR7_1 := row21 R7.out
    have lR7 := R7.out.lt
    go_wp2_with fail
    clear qR7_0 qR7_1 lR7
    with_reducible refine (HDO2.out _ HA.out).mono ?_
    rintro e w7 ⟨A8, c8, rfl, hc8, hcm8, hout, hb⟩
    replace HA := hide ((HA.out.below hb).more hb.size)
    replace R3 := hide (R3.out.below hb)
    replace R7 := hide (R7.out.below hb)
    replace HB := hide (HB.out.trans (hb.mono HB.out.size))
    clear hb hout HDO2
    have qR7_0 := row20 R7.out
    have qR7_1 := row21 R7.out
    have lR7 := R7.out.lt
    go_wp2_with fail
    clear qR7_0 qR7_1 lR7
    obtain ⟨g6, hg6⟩ : ∃ g, w7.heap.size = g := ⟨_, rfl⟩
    have hWg6 : W.heap.size ≤ g6 := by rw [← hg6]; exact HB.out.size
    have hbx : Below w7.heap.size w7 (w7.alloc (.cells #[.int .u64 0, .slice A8 0 c8] 25)) := (Below.refl _ _).alloc (Nat.le_refl _) _
    have hrx := RowAt.new w7 25 #[.int .u64 0, .slice A8 0 c8]
    rw [hg6] at hrx
    replace HA := hide ((HA.out.below hbx).more hbx.size)
    replace R3 := hide (R3.out.below hbx)
    replace R7 := hide (R7.out.below hbx)
    replace HB := hide (HB.out.trans (hbx.mono HB.out.size))
    have hs8 : (w7.alloc (.cells #[.int .u64 0, .slice A8 0 c8] 25)).heap.size = g6 + 1 := by rw [World.size_alloc, hg6]
    have R6 := hide hrx
    clear hbx hrx
    generalize w7.alloc (.cells #[.int .u64 0, .slice A8 0 c8] 25) = w9 at *
    (try rw [hg6])
    clear hg6 hs8
    with_reducible refine (HCK2.out _ HA.out).mono ?_
    rintro e w10 ⟨rfl, hb⟩
    replace HA := hide ((HA.out.below hb).more hb.size)
    replace R3 := hide (R3.out.below hb)
    replace R7 := hide (R7.out.below hb)
    replace R6 := hide (R6.out.below hb)
    replace HB := hide (HB.out.trans (hb.mono HB.out.size))
    clear hb HCK2
    have qR7_0 := row20 R7.out
    have qR7_1 := row21 R7.out
    have lR7 := R7.out.lt
    go_wp2_with fail
    clear qR7_0 qR7_1 lR7
    with_reducible refine (HBA2.out _ HA.out).mono ?_
    rintro e w11 ⟨A9, c9, rfl, hc9, hcm9, hrd, hb⟩
    replace HA := hide ((HA.out.below hb).more hb.size)
    replace R3 := hide (R3.out.below hb)
    replace R7 := hide (R7.out.below hb)
    replace R6 := hide (R6.out.below hb)
    replace HB := hide (HB.out.trans (hb.mono HB.out.size))
    clear hb hrd HBA2
    go_wp2_with fail
    go_ret
    exact ⟨rfl, HB.out⟩
  · skip
    have HR := hide hr
    have he62 : e ≤ 4611686018427387904 := (pOk_out hr).2.2.1
    have hmpos : 0 < m := by have := (pOk_out hr).1; rw [HSL.out] at this; omega
    have hd : doE e S 3 0 0 = if S.any (heldB e) = true then 231 else if e = 4611686018427387904 then 6 else 0 := by
      unfold doE; rw [if_pos hr]; unfold dE; rw [if_neg (by omega), if_pos rfl]
    obtain ⟨k7, hk7⟩ : ∃ k, (backL e S).length = k := ⟨_, rfl⟩
    have hk7n : k7 ≤ 10 := by rw [← hk7]; have := backL_length e S; have := HSL.out; omega
    have HBA2 := hide (fun w h => HBA.out w h (backL e S) (by rw [hr, if_pos rfl]) k7 hk7)
    have HCK2 := hide (fun w h => HCK.out w h 0 (by rw [hr]; rfl))
    have HK7 := hide hk7
    have hbk : k7 = 0 ↔ S.any (heldB e) = false := by rw [← hk7, List.length_eq_zero_iff]; exact backL_nil
    clear HCK HBA hr hk7
    by_cases hz : k7 = 0
    · skip
      have han := hbk.1 hz
      have hz0 : decide (0 < k7) = false := by simp; omega
      rw [han] at hd
      simp only [Bool.false_eq_true, if_false] at hd
      by_cases hem : e = 4611686018427387904
      · skip
        rw [if_pos hem] at hd
        have hem2 : (e == 4611686018427387904) = true := by simpa using hem
        have hem3 : (e != 4611686018427387904) = false := by simpa using hem
        have HDO2 := hide (fun w h => HDO.out w h 6 0 [] 0 hd (by unfold doX; rw [hd]; rfl) (by unfold doS; rw [hd]; rfl) rfl)
        clear hd hem han hbk
        have qR7_0 := row20 R7.out
        have qR7_1 := row21 R7.out
        have lR7 := R7.out.lt
        go_wp2_with fail
        clear qR7_0 qR7_1 lR7
        with_reducible refine (HDO2.out _ HA.out).mono ?_
        rintro e w7 ⟨A8, c8, rfl, hc8, hcm8, hout, hb⟩
        replace HA := hide ((HA.out.below hb).more hb.size)
        replace R3 := hide (R3.out.below hb)
        replace R7 := hide (R7.out.below hb)
        replace HB := hide (HB.out.trans (hb.mono HB.out.size))
        have O8 := hide (hout.rd)
        clear hb hout HDO2
        have qR7_0 := row20 R7.out
        have qR7_1 := row21 R7.out
        have lR7 := R7.out.lt
        go_wp2_with fail
        clear qR7_0 qR7_1 lR7
        obtain ⟨g6, hg6⟩ : ∃ g, w7.heap.size = g := ⟨_, rfl⟩
        have hWg6 : W.heap.size ≤ g6 := by rw [← hg6]; exact HB.out.size
        have hbx : Below w7.heap.size w7 (w7.alloc (.cells #[.int .u64 0, .slice A8 0 c8] 25)) := (Below.refl _ _).alloc (Nat.le_refl _) _
        have hrx := RowAt.new w7 25 #[.int .u64 0, .slice A8 0 c8]
        rw [hg6] at hrx
        replace HA := hide ((HA.out.below hbx).more hbx.size)
        replace O8 := hide ((O8.out.below hbx).more hbx.size)
        replace R3 := hide (R3.out.below hbx)
        replace R7 := hide (R7.out.below hbx)
        replace HB := hide (HB.out.trans (hbx.mono HB.out.size))
        have hs8 : (w7.alloc (.cells #[.int .u64 0, .slice A8 0 c8] 25)).heap.size = g6 + 1 := by rw [World.size_alloc, hg6]
        have R6 := hide hrx
        clear hbx hrx
        generalize w7.alloc (.cells #[.int .u64 0, .slice A8 0 c8] 25) = w9 at *
        (try rw [hg6])
        clear hg6 hs8
        with_reducible refine (HCK2.out _ HA.out).mono ?_
        rintro e w10 ⟨rfl, hb⟩
        replace HA := hide ((HA.out.below hb).more hb.size)
        replace O8 := hide ((O8.out.below hb).more hb.size)
        replace R3 := hide (R3.out.below hb)
        replace R7 := hide (R7.out.below hb)
        replace R6 := hide (R6.out.below hb)
        replace HB := hide (HB.out.trans (hb.mono HB.out.size))
        clear hb
        have qR7_0 := row20 R7.out
        have qR7_1 := row21 R7.out
        have lR7 := R7.out.lt
        go_wp2_with fail
        clear qR7_0 qR7_1 lR7
        with_reducible refine (HBA2.out _ HA.out).mono ?_
        rintro e w11 ⟨A9, c9, rfl, hc9, hcm9, hrd, hb⟩
        replace HA := hide ((HA.out.below hb).more hb.size)
        replace O8 := hide ((O8.out.below hb).more hb.size)
        replace R3 := hide (R3.out.below hb)
        replace R7 := hide (R7.out.below hb)
        replace R6 := hide (R6.out.below hb)
        replace HB := hide (HB.out.trans (hb.mono HB.out.size))
        clear hb hrd
        have qR7_0 := row20 R7.out
        have qR7_1 := row21 R7.out
        have lR7 := R7.out.lt
        have qR6_0 := row20 R6.out
        have qR6_1 := row21 R6.out
        have lR6 := R6.out.lt
        go_wp2_with fail
        clear qR7_0 qR7_1 lR7 qR6_0 qR6_1 lR6
        clear O8 R6
        with_reducible refine (HBA2.out _ HA.out).mono ?_
        rintro e w12 ⟨A6, c6, rfl, hc6, hcm6, hrd, hb⟩
        replace HA := hide ((HA.out.below hb).more hb.size)
        replace R3 := hide (R3.out.below hb)
        replace R7 := hide (R7.out.below hb)
        replace HB := hide (HB.out.trans (hb.mono HB.out.size))
        have O6 := hide (hrd)
        clear hb hrd
        go_wp2_with fail
        obtain ⟨lo, hlo⟩ : ∃ l, w12.heap.size = l := ⟨_, rfl⟩
        have O6b : Hid (Rd w12 lo 1 A6 k7 (Cs encI (backL e S))) := hide (by rw [← hlo]; exact O6.out)
        have hloW : W.heap.size ≤ lo := by rw [← hlo]; exact HB.out.size
        go_loopw [68] (fun i wr => ∃ (j : Nat), j ≤ k7 ∧ i = .int .i64 j ∧ GoAt W wr g7 m lo e (unp S ((backL e S).take j)) A6 k7 (backL e S)) (fun i _ => k7 - (intOf i).toNat)
        case atStart => exact ⟨0, by omega, rfl, A7, c7, R7.out, HA.out, hc7, hcm7, O6b.out, Nat.le_of_eq hlo.symm, HB.out⟩
        case round =>
          clear R7 HA O6 O6b HB hlo R3 HBA2 HCK2 HDO HOWN
          obtain ⟨j, hj, rfl, A, cc, hr7, hrd, hcc, hccm, ho6, hlo, hbw⟩ := hrel
          have R7 := hide hr7
          have HRD := hide hrd
          have HB := hide hbw
          have O6 := hide ho6
          have LO := hide hlo
          have hok := unp_ok (l := (backL e S).take j) he0 HR.out
          have hnn := unp_nonneg (l := (backL e S).take j) (fun s hs => (HU.out s hs).1)
          have hT := pOk_u64 hok hnn
          have htl : (unp S ((backL e S).take j)).length = m := by rw [unp_length]; exact HSL.out
          clear hr7 hrd ho6 hlo hbw
          by_cases hlt : j < k7
          · skip
            exact absurd hlt (by omega)
          · skip
            have htk : (backL e S).take j = backL e S := List.take_of_length_le (by rw [HK7.out]; omega)
            rw [htk] at HRD hok hnn hT htl
            obtain ⟨Z, hZ⟩ : ∃ Z, unp S (backL e S) = Z := ⟨_, rfl⟩
            have hzb : backL e Z = [] := by rw [← hZ]; exact unp_back he0
            rw [hZ] at HRD hok hnn hT htl
            obtain ⟨E9, hE9⟩ : ∃ E : Int, (if e = 4611686018427387904 then 6 else 0) = E := ⟨_, rfl⟩
            have hd9 : ∀ gg : Int, doE e Z 3 gg 0 = E9 := fun gg => by
              rw [← hE9]
              unfold doE; rw [if_pos hok]; unfold dE; rw [if_neg (by omega), if_pos rfl, backL_nil.1 hzb]; simp
            have hr0 : rnR e Z [] = (e, Z, 0) := by unfold rnR; rw [if_pos hok]; rfl
            have hrE : rnE e Z [] = 0 := by unfold rnE; rw [if_pos hok]; rfl
            have HZL := hide htl
            have HRUN := hide (fun w (hr : Rd w w.heap.size 1 A m (Cs encW Z)) (A2 : Option Addr) => Run_any A cc m e Z A2 0 0 [] w hr htl (by omega) ⟨rfl, fun h => absurd h (by omega)⟩ rfl (by omega) (by simp) he0 hT 0 e Z 0 m hrE hr0 htl)
            have HSAME := hide (fun w A' c' (h1 : Rd w w.heap.size 1 A' m (Cs encW Z)) (h2 : Rd w w.heap.size 1 A m (Cs encW Z)) => same_any A' A c' cc m m e e Z Z w h1 h2 htl htl (by omega) (by omega) true (by simp))
            have HBZ := hide (fun w (h : Rd w w.heap.size 1 A m (Cs encW Z)) => Back_any A cc m e Z w h htl he0 hT (by omega) [] (by rw [if_pos hok]; exact hzb) 0 rfl)
            have HDO9 := hide (fun w (hr : Rd w w.heap.size 1 A m (Cs encW Z)) gg => Do_any A cc m e Z 3 gg 0 w hr htl he0 hT (by omega) (by omega) E9 _ _ _ (hd9 gg) rfl rfl rfl)
            obtain ⟨i0, hi0, hz0, hz1, hz2⟩ := info_parts elO.info
            have hmk : ∀ w, (Instr.makeSlice 26 (.int .i64 0) (.int .i64 0)).run Try.prog w = .ok (.slice (some ⟨w.heap.size, 0, none⟩) 0 0) (w.alloc (.cells #[] 32)) := fun w => by
              have h := run_make_rowN (P := Try.prog) 26 32 i0 _ Try.underlying26 hi0 hz0 .i64 .i64 0 0 (Nat.le_refl _) (by omega) (by omega) w
              simpa [madeCells_zero] using h
            have HMK := hide hmk
            have HE9 := hide hE9
            clear hok hnn hT htl htk hZ hzb hd9 hr0 hrE hi0 hz0 hz1 hz2 hmk hE9 O6 LO
            have qR7_0 := row20 R7.out
            have qR7_1 := row21 R7.out
            have lR7 := R7.out.lt
            go_wp2_with fail
            clear qR7_0 qR7_1 lR7
            have qR7_0 := row20 R7.out
            have qR7_1 := row21 R7.out
            have lR7 := R7.out.lt
            go_cut [11, 12, 7] from 86 to 92 (fun s11 s12 s7 wx => ∃ (g11 : Nat) (A11 : Option Addr) (c11 : Nat), s11 = .pointer (some ⟨g11, 0, none⟩) ∧ s12 = .int .i64 0 ∧ s7 = .int .i64 0 ∧ RowAt wx g11 25 #[.int .u64 e, .slice A11 m c11] ∧ Rd wx wx.heap.size 1 A11 m (Cs encW Z) ∧ Below wr.heap.size wr wx)
            case first =>
              refine wp_region_held_drew (S := fun wX => Below wr.heap.size wr wX) (by kernel_rfl) (Below.refl _ _).drew (fun hHeld => ?_)
              refine wpAnyH_take (i := 0) (v := .agg #[.int .u64 e, .slice A m cc]) rfl (by kernel_rfl) (by kernel_rfl) (by kernel_rfl) (fun _ _ _ h => h) (Or.inl ⟨by rfl, fun w hw => ?_⟩) (by assumption) ?_
              · have e0 := kept hw qR7_0; have e1 := kept hw qR7_1
                go_simp
                first | done | with_reducible rfl
              simp only [Act.put, List.getElem_toArray, List.getElem_cons_succ, List.getElem_cons_zero, List.setIfInBounds_toArray, List.set_cons_zero, List.set_cons_succ]
              have HQ := hide ((Below.refl wr.heap.size wr).drew)
              generalize wr.drew = wd at *
              have hmk := HMK.out
              refine wpAnyH_ready (rs := [1, 7]) (by kernel_rfl) (by simp) ?_
              refine (AllReadyH.cons rfl (fun K0 hK0 => ?_) (AllReadyH.cons rfl (fun K0 hK0 => ?_) AllReadyH.nil))
              · go_simp
                have hb0 : Below wd.heap.size wd (wd.alloc (.cells #[] 32)) := (Below.refl _ _).alloc (Nat.le_refl _) _
                refine hK0.out _ _ (HQ.out.trans (hb0.mono HQ.out.size)) (fun _ => ?_)
                clear hK0 K0
                replace HQ := hide (HQ.out.trans (hb0.mono HQ.out.size))
                clear hb0
                (try simp only [Act.put, List.getElem_toArray, List.getElem_cons_succ, List.getElem_cons_zero, List.setIfInBounds_toArray, List.set_cons_zero, List.set_cons_succ])
                generalize wd.alloc (.cells #[] 32) = wa0 at *
                refine wpAnyH_ready (rs := [2, 7]) (by kernel_rfl) (by simp) ?_
                refine (AllReadyH.cons rfl (fun K1 hK1 => ?_) (AllReadyH.cons rfl (fun K1 hK1 => ?_) AllReadyH.nil))
                · go_simp
                  refine (HRUN.out _ ((HRD.out.below HQ.out).more HQ.out.size) _).mono ?_
                  rintro x wa1 ⟨A11, c11, rfl, hc11, hcm11, hout, hb1⟩
                  have O11 := hide hout.rd
                  refine hK1.out _ _ (HQ.out.trans (hb1.mono HQ.out.size)) (fun _ => ?_)
                  clear hK1 K1 hout
                  replace HQ := hide (HQ.out.trans (hb1.mono HQ.out.size))
                  clear hb1
                  (try simp only [Act.put, List.getElem_toArray, List.getElem_cons_succ, List.getElem_cons_zero, List.setIfInBounds_toArray, List.set_cons_zero, List.set_cons_succ])
                  (refine wpAnyH_take (i := 3) (v := ?_) rfl (by kernel_rfl) (by kernel_rfl) (by kernel_rfl) (fun _ _ _ h => h) (Or.inl ⟨by rfl, ?_⟩) (by exact HQ.out) ?_; rotate_left; (focus (intro w hSw; (try dsimp only at hSw); go_simp; first | done | with_reducible rfl)); (try simp only [Act.put, List.getElem_toArray, List.getElem_cons_succ, List.getElem_cons_zero, List.setIfInBounds_toArray, List.set_cons_zero, List.set_cons_succ]))
                  (refine wpAnyH_take (i := 4) (v := ?_) rfl (by kernel_rfl) (by kernel_rfl) (by kernel_rfl) (fun _ _ _ h => h) (Or.inl ⟨by rfl, ?_⟩) (by exact HQ.out) ?_; rotate_left; (focus (intro w hSw; (try dsimp only at hSw); go_simp; first | done | with_reducible rfl)); (try simp only [Act.put, List.getElem_toArray, List.getElem_cons_succ, List.getElem_cons_zero, List.setIfInBounds_toArray, List.set_cons_zero, List.set_cons_succ]))
                  (refine wpAnyH_take (i := 5) (v := ?_) rfl (by kernel_rfl) (by kernel_rfl) (by kernel_rfl) (fun _ _ _ h => h) (Or.inl ⟨by rfl, ?_⟩) (by exact HQ.out) ?_; rotate_left; (focus (intro w hSw; (try dsimp only at hSw); go_simp; first | done | with_reducible rfl)); (try simp only [Act.put, List.getElem_toArray, List.getElem_cons_succ, List.getElem_cons_zero, List.setIfInBounds_toArray, List.set_cons_zero, List.set_cons_succ]))
                  (refine wpAnyH_take (i := 6) (v := ?_) rfl (by kernel_rfl) (by kernel_rfl) (by kernel_rfl) (fun _ _ _ h => h) (Or.inl ⟨by rfl, ?_⟩) (by exact HQ.out) ?_; rotate_left; (focus (intro w hSw; (try dsimp only at hSw); go_simp; first | done | with_reducible rfl)); (try simp only [Act.put, List.getElem_toArray, List.getElem_cons_succ, List.getElem_cons_zero, List.setIfInBounds_toArray, List.set_cons_zero, List.set_cons_succ]))
                  refine wpAnyH_ready (rs := [7]) (by kernel_rfl) (by simp) ?_
                  refine (AllReadyH.cons rfl (fun K2 hK2 => ?_) AllReadyH.nil)
                  · go_simp
                    have hb2 : Below wa1.heap.size wa1 (wa1.alloc (.cells #[.int .u64 0, .slice none 0 0] 25)) := (Below.refl _ _).alloc (Nat.le_refl _) _
                    refine hK2.out _ _ (HQ.out.trans (hb2.mono HQ.out.size)) (fun _ => ?_)
                    clear hK2 K2
                    have R11 := hide (RowAt.new wa1 25 #[.int .u64 0, .slice none 0 0])
                    have hg11 : wa1.heap.size = wa1.heap.size := rfl
                    have G11 := hide HQ.out.size
                    have N11 := hide (fun (hn : 0 < m) (p : Addr) (hp : A11 = some p) => (show p.block ≠ wa1.heap.size by obtain ⟨b, off, e1, hb, _⟩ := O11.out.2 hn; rw [hp] at e1; injection e1 with e1; rw [e1]; exact Nat.ne_of_lt hb))
                    replace O11 := hide ((O11.out.below hb2).more hb2.size)
                    replace HQ := hide (HQ.out.trans (hb2.mono HQ.out.size))
                    clear hb2 hg11
                    (try simp only [Act.put, List.getElem_toArray, List.getElem_cons_succ, List.getElem_cons_zero, List.setIfInBounds_toArray, List.set_cons_zero, List.set_cons_succ])
                    obtain ⟨gg, hgg⟩ : ∃ g, wa1.heap.size = g := ⟨_, rfl⟩
                    rw [hgg] at R11 G11 ⊢
                    rw [hgg] at N11
                    generalize wa1.alloc (.cells #[.int .u64 0, .slice none 0 0] 25) = wa2 at *
                    clear hgg
                    refine wpAnyH_ready (rs := [8]) (by kernel_rfl) (by simp) ?_
                    refine AllReadyH.cons rfl (fun K hK => ?_) AllReadyH.nil
                    have l11 := R11.out.lt
                    have z11 := row20 R11.out
                    have y11 := row21 R11.out
                    have f11 := R11.out.frozen 0
                    have h11 := R11.out.frozen 1
                    go_simp
                    refine hK.out _ _ ((HQ.out.setCell (p := ⟨gg, 0, none⟩) G11.out _).setCell (p := ⟨gg, 1, none⟩) G11.out _) (fun _ => ?_)
                    clear hK K
                    replace O11 : Hid (Rd ((wa2.setCell ⟨gg, 0, none⟩ (.int .u64 e)).setCell ⟨gg, 1, none⟩ (.slice A11 m c11)) ((wa2.setCell ⟨gg, 0, none⟩ (.int .u64 e)).setCell ⟨gg, 1, none⟩ (.slice A11 m c11)).heap.size 1 A11 m (Cs encW Z)) := hide (by have h := (O11.out.setOff2 (g := gg) N11.out 0 (.int .u64 e)).setOff2 (g := gg) N11.out 1 (.slice A11 m c11); simpa using h)
                    replace R11 : Hid (RowAt ((wa2.setCell ⟨gg, 0, none⟩ (.int .u64 e)).setCell ⟨gg, 1, none⟩ (.slice A11 m c11)) gg 25 #[.int .u64 e, .slice A11 m c11]) := hide (by have h := (R11.out.set 0 (.int .u64 e)).set 1 (.slice A11 m c11); simpa using h)
                    replace HQ := hide ((HQ.out.setCell (p := ⟨gg, 0, none⟩) G11.out (.int .u64 e)).setCell (p := ⟨gg, 1, none⟩) G11.out (.slice A11 m c11))
                    clear l11 z11 y11 f11 h11
                    (try simp only [Act.put, List.getElem_toArray, List.getElem_cons_succ, List.getElem_cons_zero, List.setIfInBounds_toArray, List.set_cons_zero, List.set_cons_succ])
                    (refine wpAnyH_take (i := 9) (v := ?_) rfl (by kernel_rfl) (by kernel_rfl) (by kernel_rfl) (fun _ _ _ h => h) (Or.inl ⟨by rfl, ?_⟩) (by exact HQ.out) ?_; rotate_left; (focus (intro w hSw; (try dsimp only at hSw); go_simp; first | done | with_reducible rfl)); (try simp only [Act.put, List.getElem_toArray, List.getElem_cons_succ, List.getElem_cons_zero, List.setIfInBounds_toArray, List.set_cons_zero, List.set_cons_succ]))
                    (refine wpAnyH_take (i := 10) (v := ?_) rfl (by kernel_rfl) (by kernel_rfl) (by kernel_rfl) (fun _ _ _ h => h) (Or.inl ⟨by rfl, ?_⟩) (by exact HQ.out) ?_; rotate_left; (focus (intro w hSw; (try dsimp only at hSw); go_simp; first | done | with_reducible rfl)); (try simp only [Act.put, List.getElem_toArray, List.getElem_cons_succ, List.getElem_cons_zero, List.setIfInBounds_toArray, List.set_cons_zero, List.set_cons_succ]))
                    refine wpAnyH_done (by kernel_rfl) ?_ _
                    go_wp2_with fail
                    go_meet
                    case rel => exact ⟨gg, A11, c11, rfl, rfl, rfl, R11.out, O11.out, HQ.out⟩
                · go_simp
                  have hb1 : Below wa0.heap.size wa0 (wa0.alloc (.cells #[.int .u64 0, .slice none 0 0] 25)) := (Below.refl _ _).alloc (Nat.le_refl _) _
                  refine hK1.out _ _ (HQ.out.trans (hb1.mono HQ.out.size)) (fun _ => ?_)
                  clear hK1 K1
                  have R11 := hide (RowAt.new wa0 25 #[.int .u64 0, .slice none 0 0])
                  have hg11 : wa0.heap.size = wa0.heap.size := rfl
                  have G11 := hide HQ.out.size
                  replace HQ := hide (HQ.out.trans (hb1.mono HQ.out.size))
                  clear hb1 hg11
                  (try simp only [Act.put, List.getElem_toArray, List.getElem_cons_succ, List.getElem_cons_zero, List.setIfInBounds_toArray, List.set_cons_zero, List.set_cons_succ])
                  obtain ⟨gg, hgg⟩ : ∃ g, wa0.heap.size = g := ⟨_, rfl⟩
                  rw [hgg] at R11 G11 ⊢
                  generalize wa0.alloc (.cells #[.int .u64 0, .slice none 0 0] 25) = wa1 at *
                  clear hgg
                  refine wpAnyH_ready (rs := [2]) (by kernel_rfl) (by simp) ?_
                  refine (AllReadyH.cons rfl (fun K2 hK2 => ?_) AllReadyH.nil)
                  · go_simp
                    refine (HRUN.out _ ((HRD.out.below HQ.out).more HQ.out.size) _).mono ?_
                    rintro x wa2 ⟨A11, c11, rfl, hc11, hcm11, hout, hb2⟩
                    have O11 := hide hout.rd
                    have N11 := hide (fun (hn : 0 < m) (p : Addr) (hp : A11 = some p) => (show p.block ≠ gg by
                      obtain ⟨gs, h1, h2, h3⟩ := hout.own hn
                      rw [hp] at h1
                      injection h1 with h1
                      rw [h1]
                      show gs ≠ gg
                      have := R11.out.lt
                      omega))
                    replace R11 := hide (R11.out.below hb2)
                    refine hK2.out _ _ (HQ.out.trans (hb2.mono HQ.out.size)) (fun _ => ?_)
                    clear hK2 K2 hout
                    replace HQ := hide (HQ.out.trans (hb2.mono HQ.out.size))
                    clear hb2
                    (try simp only [Act.put, List.getElem_toArray, List.getElem_cons_succ, List.getElem_cons_zero, List.setIfInBounds_toArray, List.set_cons_zero, List.set_cons_succ])
                    (refine wpAnyH_take (i := 3) (v := ?_) rfl (by kernel_rfl) (by kernel_rfl) (by kernel_rfl) (fun _ _ _ h => h) (Or.inl ⟨by rfl, ?_⟩) (by exact HQ.out) ?_; rotate_left; (focus (intro w hSw; (try dsimp only at hSw); go_simp; first | done | with_reducible rfl)); (try simp only [Act.put, List.getElem_toArray, List.getElem_cons_succ, List.getElem_cons_zero, List.setIfInBounds_toArray, List.set_cons_zero, List.set_cons_succ]))
                    (refine wpAnyH_take (i := 4) (v := ?_) rfl (by kernel_rfl) (by kernel_rfl) (by kernel_rfl) (fun _ _ _ h => h) (Or.inl ⟨by rfl, ?_⟩) (by exact HQ.out) ?_; rotate_left; (focus (intro w hSw; (try dsimp only at hSw); go_simp; first | done | with_reducible rfl)); (try simp only [Act.put, List.getElem_toArray, List.getElem_cons_succ, List.getElem_cons_zero, List.setIfInBounds_toArray, List.set_cons_zero, List.set_cons_succ]))
                    (refine wpAnyH_take (i := 5) (v := ?_) rfl (by kernel_rfl) (by kernel_rfl) (by kernel_rfl) (fun _ _ _ h => h) (Or.inl ⟨by rfl, ?_⟩) (by exact HQ.out) ?_; rotate_left; (focus (intro w hSw; (try dsimp only at hSw); go_simp; first | done | with_reducible rfl)); (try simp only [Act.put, List.getElem_toArray, List.getElem_cons_succ, List.getElem_cons_zero, List.setIfInBounds_toArray, List.set_cons_zero, List.set_cons_succ]))
                    (refine wpAnyH_take (i := 6) (v := ?_) rfl (by kernel_rfl) (by kernel_rfl) (by kernel_rfl) (fun _ _ _ h => h) (Or.inl ⟨by rfl, ?_⟩) (by exact HQ.out) ?_; rotate_left; (focus (intro w hSw; (try dsimp only at hSw); go_simp; first | done | with_reducible rfl)); (try simp only [Act.put, List.getElem_toArray, List.getElem_cons_succ, List.getElem_cons_zero, List.setIfInBounds_toArray, List.set_cons_zero, List.set_cons_succ]))
                    refine wpAnyH_ready (rs := [8]) (by kernel_rfl) (by simp) ?_
                    refine AllReadyH.cons rfl (fun K hK => ?_) AllReadyH.nil
                    have l11 := R11.out.lt
                    have z11 := row20 R11.out
                    have y11 := row21 R11.out
                    have f11 := R11.out.frozen 0
                    have h11 := R11.out.frozen 1
                    go_simp
                    refine hK.out _ _ ((HQ.out.setCell (p := ⟨gg, 0, none⟩) G11.out _).setCell (p := ⟨gg, 1, none⟩) G11.out _) (fun _ => ?_)
                    clear hK K
                    replace O11 : Hid (Rd ((wa2.setCell ⟨gg, 0, none⟩ (.int .u64 e)).setCell ⟨gg, 1, none⟩ (.slice A11 m c11)) ((wa2.setCell ⟨gg, 0, none⟩ (.int .u64 e)).setCell ⟨gg, 1, none⟩ (.slice A11 m c11)).heap.size 1 A11 m (Cs encW Z)) := hide (by have h := (O11.out.setOff2 (g := gg) N11.out 0 (.int .u64 e)).setOff2 (g := gg) N11.out 1 (.slice A11 m c11); simpa using h)
                    replace R11 : Hid (RowAt ((wa2.setCell ⟨gg, 0, none⟩ (.int .u64 e)).setCell ⟨gg, 1, none⟩ (.slice A11 m c11)) gg 25 #[.int .u64 e, .slice A11 m c11]) := hide (by have h := (R11.out.set 0 (.int .u64 e)).set 1 (.slice A11 m c11); simpa using h)
                    replace HQ := hide ((HQ.out.setCell (p := ⟨gg, 0, none⟩) G11.out (.int .u64 e)).setCell (p := ⟨gg, 1, none⟩) G11.out (.slice A11 m c11))
                    clear l11 z11 y11 f11 h11
                    (try simp only [Act.put, List.getElem_toArray, List.getElem_cons_succ, List.getElem_cons_zero, List.setIfInBounds_toArray, List.set_cons_zero, List.set_cons_succ])
                    (refine wpAnyH_take (i := 9) (v := ?_) rfl (by kernel_rfl) (by kernel_rfl) (by kernel_rfl) (fun _ _ _ h => h) (Or.inl ⟨by rfl, ?_⟩) (by exact HQ.out) ?_; rotate_left; (focus (intro w hSw; (try dsimp only at hSw); go_simp; first | done | with_reducible rfl)); (try simp only [Act.put, List.getElem_toArray, List.getElem_cons_succ, List.getElem_cons_zero, List.setIfInBounds_toArray, List.set_cons_zero, List.set_cons_succ]))
                    (refine wpAnyH_take (i := 10) (v := ?_) rfl (by kernel_rfl) (by kernel_rfl) (by kernel_rfl) (fun _ _ _ h => h) (Or.inl ⟨by rfl, ?_⟩) (by exact HQ.out) ?_; rotate_left; (focus (intro w hSw; (try dsimp only at hSw); go_simp; first | done | with_reducible rfl)); (try simp only [Act.put, List.getElem_toArray, List.getElem_cons_succ, List.getElem_cons_zero, List.setIfInBounds_toArray, List.set_cons_zero, List.set_cons_succ]))
                    refine wpAnyH_done (by kernel_rfl) ?_ _
                    go_wp2_with fail
                    go_meet
                    case rel => exact ⟨gg, A11, c11, rfl, rfl, rfl, R11.out, O11.out, HQ.out⟩
              · go_simp
                have hb0 : Below wd.heap.size wd (wd.alloc (.cells #[.int .u64 0, .slice none 0 0] 25)) := (Below.refl _ _).alloc (Nat.le_refl _) _
                refine hK0.out _ _ (HQ.out.trans (hb0.mono HQ.out.size)) (fun _ => ?_)
                clear hK0 K0
                have R11 := hide (RowAt.new wd 25 #[.int .u64 0, .slice none 0 0])
                have hg11 : wd.heap.size = wd.heap.size := rfl
                have G11 := hide HQ.out.size
                replace HQ := hide (HQ.out.trans (hb0.mono HQ.out.size))
                clear hb0 hg11
                (try simp only [Act.put, List.getElem_toArray, List.getElem_cons_succ, List.getElem_cons_zero, List.setIfInBounds_toArray, List.set_cons_zero, List.set_cons_succ])
                obtain ⟨gg, hgg⟩ : ∃ g, wd.heap.size = g := ⟨_, rfl⟩
                rw [hgg] at R11 G11 ⊢
                generalize wd.alloc (.cells #[.int .u64 0, .slice none 0 0] 25) = wa0 at *
                clear hgg
                refine wpAnyH_ready (rs := [1]) (by kernel_rfl) (by simp) ?_
                refine (AllReadyH.cons rfl (fun K1 hK1 => ?_) AllReadyH.nil)
                · go_simp
                  have hb1 : Below wa0.heap.size wa0 (wa0.alloc (.cells #[] 32)) := (Below.refl _ _).alloc (Nat.le_refl _) _
                  refine hK1.out _ _ (HQ.out.trans (hb1.mono HQ.out.size)) (fun _ => ?_)
                  clear hK1 K1
                  replace R11 := hide (R11.out.below hb1)
                  replace HQ := hide (HQ.out.trans (hb1.mono HQ.out.size))
                  clear hb1
                  (try simp only [Act.put, List.getElem_toArray, List.getElem_cons_succ, List.getElem_cons_zero, List.setIfInBounds_toArray, List.set_cons_zero, List.set_cons_succ])
                  generalize wa0.alloc (.cells #[] 32) = wa1 at *
                  refine wpAnyH_ready (rs := [2]) (by kernel_rfl) (by simp) ?_
                  refine (AllReadyH.cons rfl (fun K2 hK2 => ?_) AllReadyH.nil)
                  · go_simp
                    refine (HRUN.out _ ((HRD.out.below HQ.out).more HQ.out.size) _).mono ?_
                    rintro x wa2 ⟨A11, c11, rfl, hc11, hcm11, hout, hb2⟩
                    have O11 := hide hout.rd
                    have N11 := hide (fun (hn : 0 < m) (p : Addr) (hp : A11 = some p) => (show p.block ≠ gg by
                      obtain ⟨gs, h1, h2, h3⟩ := hout.own hn
                      rw [hp] at h1
                      injection h1 with h1
                      rw [h1]
                      show gs ≠ gg
                      have := R11.out.lt
                      omega))
                    replace R11 := hide (R11.out.below hb2)
                    refine hK2.out _ _ (HQ.out.trans (hb2.mono HQ.out.size)) (fun _ => ?_)
                    clear hK2 K2 hout
                    replace HQ := hide (HQ.out.trans (hb2.mono HQ.out.size))
                    clear hb2
                    (try simp only [Act.put, List.getElem_toArray, List.getElem_cons_succ, List.getElem_cons_zero, List.setIfInBounds_toArray, List.set_cons_zero, List.set_cons_succ])
                    (refine wpAnyH_take (i := 3) (v := ?_) rfl (by kernel_rfl) (by kernel_rfl) (by kernel_rfl) (fun _ _ _ h => h) (Or.inl ⟨by rfl, ?_⟩) (by exact HQ.out) ?_; rotate_left; (focus (intro w hSw; (try dsimp only at hSw); go_simp; first | done | with_reducible rfl)); (try simp only [Act.put, List.getElem_toArray, List.getElem_cons_succ, List.getElem_cons_zero, List.setIfInBounds_toArray, List.set_cons_zero, List.set_cons_succ]))
                    (refine wpAnyH_take (i := 4) (v := ?_) rfl (by kernel_rfl) (by kernel_rfl) (by kernel_rfl) (fun _ _ _ h => h) (Or.inl ⟨by rfl, ?_⟩) (by exact HQ.out) ?_; rotate_left; (focus (intro w hSw; (try dsimp only at hSw); go_simp; first | done | with_reducible rfl)); (try simp only [Act.put, List.getElem_toArray, List.getElem_cons_succ, List.getElem_cons_zero, List.setIfInBounds_toArray, List.set_cons_zero, List.set_cons_succ]))
                    (refine wpAnyH_take (i := 5) (v := ?_) rfl (by kernel_rfl) (by kernel_rfl) (by kernel_rfl) (fun _ _ _ h => h) (Or.inl ⟨by rfl, ?_⟩) (by exact HQ.out) ?_; rotate_left; (focus (intro w hSw; (try dsimp only at hSw); go_simp; first | done | with_reducible rfl)); (try simp only [Act.put, List.getElem_toArray, List.getElem_cons_succ, List.getElem_cons_zero, List.setIfInBounds_toArray, List.set_cons_zero, List.set_cons_succ]))
                    (refine wpAnyH_take (i := 6) (v := ?_) rfl (by kernel_rfl) (by kernel_rfl) (by kernel_rfl) (fun _ _ _ h => h) (Or.inl ⟨by rfl, ?_⟩) (by exact HQ.out) ?_; rotate_left; (focus (intro w hSw; (try dsimp only at hSw); go_simp; first | done | with_reducible rfl)); (try simp only [Act.put, List.getElem_toArray, List.getElem_cons_succ, List.getElem_cons_zero, List.setIfInBounds_toArray, List.set_cons_zero, List.set_cons_succ]))
                    refine wpAnyH_ready (rs := [8]) (by kernel_rfl) (by simp) ?_
                    refine AllReadyH.cons rfl (fun K hK => ?_) AllReadyH.nil
                    have l11 := R11.out.lt
                    have z11 := row20 R11.out
                    have y11 := row21 R11.out
                    have f11 := R11.out.frozen 0
                    have h11 := R11.out.frozen 1
                    go_simp
                    refine hK.out _ _ ((HQ.out.setCell (p := ⟨gg, 0, none⟩) G11.out _).setCell (p := ⟨gg, 1, none⟩) G11.out _) (fun _ => ?_)
                    clear hK K
                    replace O11 : Hid (Rd ((wa2.setCell ⟨gg, 0, none⟩ (.int .u64 e)).setCell ⟨gg, 1, none⟩ (.slice A11 m c11)) ((wa2.setCell ⟨gg, 0, none⟩ (.int .u64 e)).setCell ⟨gg, 1, none⟩ (.slice A11 m c11)).heap.size 1 A11 m (Cs encW Z)) := hide (by have h := (O11.out.setOff2 (g := gg) N11.out 0 (.int .u64 e)).setOff2 (g := gg) N11.out 1 (.slice A11 m c11); simpa using h)
                    replace R11 : Hid (RowAt ((wa2.setCell ⟨gg, 0, none⟩ (.int .u64 e)).setCell ⟨gg, 1, none⟩ (.slice A11 m c11)) gg 25 #[.int .u64 e, .slice A11 m c11]) := hide (by have h := (R11.out.set 0 (.int .u64 e)).set 1 (.slice A11 m c11); simpa using h)
                    replace HQ := hide ((HQ.out.setCell (p := ⟨gg, 0, none⟩) G11.out (.int .u64 e)).setCell (p := ⟨gg, 1, none⟩) G11.out (.slice A11 m c11))
                    clear l11 z11 y11 f11 h11
                    (try simp only [Act.put, List.getElem_toArray, List.getElem_cons_succ, List.getElem_cons_zero, List.setIfInBounds_toArray, List.set_cons_zero, List.set_cons_succ])
                    (refine wpAnyH_take (i := 9) (v := ?_) rfl (by kernel_rfl) (by kernel_rfl) (by kernel_rfl) (fun _ _ _ h => h) (Or.inl ⟨by rfl, ?_⟩) (by exact HQ.out) ?_; rotate_left; (focus (intro w hSw; (try dsimp only at hSw); go_simp; first | done | with_reducible rfl)); (try simp only [Act.put, List.getElem_toArray, List.getElem_cons_succ, List.getElem_cons_zero, List.setIfInBounds_toArray, List.set_cons_zero, List.set_cons_succ]))
                    (refine wpAnyH_take (i := 10) (v := ?_) rfl (by kernel_rfl) (by kernel_rfl) (by kernel_rfl) (fun _ _ _ h => h) (Or.inl ⟨by rfl, ?_⟩) (by exact HQ.out) ?_; rotate_left; (focus (intro w hSw; (try dsimp only at hSw); go_simp; first | done | with_reducible rfl)); (try simp only [Act.put, List.getElem_toArray, List.getElem_cons_succ, List.getElem_cons_zero, List.setIfInBounds_toArray, List.set_cons_zero, List.set_cons_succ]))
                    refine wpAnyH_done (by kernel_rfl) ?_ _
                    go_wp2_with fail
                    go_meet
                    case rel => exact ⟨gg, A11, c11, rfl, rfl, rfl, R11.out, O11.out, HQ.out⟩
            case rest =>
              rename_i K hK
              refine hK _ _ ?_
              clear hK K
              obtain ⟨w9, hw9⟩ : ∃ w, w = wc := ⟨_, rfl⟩
              subst hw9
              obtain ⟨g11, A11, c11, rfl, rfl, rfl, hr11, ho11, hb⟩ := hcut
              clear qR7_0 qR7_1 lR7
              replace HRD := hide ((HRD.out.below hb).more hb.size)
              replace R7 := hide (R7.out.below hb)
              replace HB := hide (HB.out.trans (hb.mono HB.out.size))
              have R11 := hide hr11
              have O11 := hide ho11
              clear hr11 ho11 hb HRUN
              have qR7_0 := row20 R7.out
              have qR7_1 := row21 R7.out
              have lR7 := R7.out.lt
              have qR11_0 := row20 R11.out
              have qR11_1 := row21 R11.out
              have lR11 := R11.out.lt
              go_wp2_with fail
              clear qR7_0 qR7_1 lR7 qR11_0 qR11_1 lR11
              with_reducible refine (HSAME.out _ A11 c11 O11.out HRD.out).mono ?_
              rintro e w601 ⟨rfl, hb⟩
              replace HRD := hide ((HRD.out.below hb).more hb.size)
              replace O11 := hide ((O11.out.below hb).more hb.size)
              replace R7 := hide (R7.out.below hb)
              replace R11 := hide (R11.out.below hb)
              replace HB := hide (HB.out.trans (hb.mono HB.out.size))
              clear hb HSAME
              have qR7_0 := row20 R7.out
              have qR7_1 := row21 R7.out
              have lR7 := R7.out.lt
              go_wp2_with fail
              clear qR7_0 qR7_1 lR7
              with_reducible refine (HBZ.out _ HRD.out).mono ?_
              rintro e w602 ⟨A12, c12, rfl, hc12, hcm12, hrd, hb⟩
              replace HRD := hide ((HRD.out.below hb).more hb.size)
              replace O11 := hide ((O11.out.below hb).more hb.size)
              replace R7 := hide (R7.out.below hb)
              replace R11 := hide (R11.out.below hb)
              replace HB := hide (HB.out.trans (hb.mono HB.out.size))
              clear hb hrd HBZ
              have qR7_0 := row20 R7.out
              have qR7_1 := row21 R7.out
              have lR7 := R7.out.lt
              go_wp2_with fail
              clear qR7_0 qR7_1 lR7
              with_reducible refine (HDO9.out _ HRD.out _).mono ?_
              rintro e w603 ⟨A13, c13, rfl, hc13, hcm13, hout, hb⟩
              replace HRD := hide ((HRD.out.below hb).more hb.size)
              replace O11 := hide ((O11.out.below hb).more hb.size)
              replace R7 := hide (R7.out.below hb)
              replace R11 := hide (R11.out.below hb)
              replace HB := hide (HB.out.trans (hb.mono HB.out.size))
              clear hb hout HDO9
              by_cases hem : e = 4611686018427387904
              · skip
                have h9 := HE9.out
                rw [if_pos hem] at h9
                have hem2 : (e == 4611686018427387904) = true := by simpa using hem
                clear hem
                subst h9
                have qR7_0 := row20 R7.out
                have qR7_1 := row21 R7.out
                have lR7 := R7.out.lt
                go_wp2_with fail
                clear qR7_0 qR7_1 lR7
                go_ret
                exact ⟨rfl, HB.out⟩
              · skip
                have h9 := HE9.out
                rw [if_neg hem] at h9
                clear hem
                subst h9
                have qR7_0 := row20 R7.out
                have qR7_1 := row21 R7.out
                have lR7 := R7.out.lt
                go_wp2_with fail
                clear qR7_0 qR7_1 lR7
                go_ret
                exact ⟨rfl, HB.out⟩
      · skip
        rw [if_neg hem] at hd
        have HDO2 := hide (fun w h => HDO.out w h 0 (e + 1) S m hd (by unfold doX; rw [if_pos hd]; simp [dX]) (by unfold doS; rw [if_pos hd]; simp [dS]) HSL.out)
        have hp1 : pOk (e + 1) S = true := by
          obtain ⟨h1, h2, h3, h4⟩ := pOk_out HR.out
          exact pOk_mk ⟨h1, h2, by omega, fun s hs => by have := h4 s hs; omega⟩
        have HCK3 := hide (fun w A c (h : Rd w w.heap.size 1 A m (Cs encW S)) => check_any A c m (e + 1) S w h HSL.out (by omega) (by omega) 0 (by rw [hp1]; rfl))
        have u0 : (0 : Int) ≤ e + 1 := by omega
        have u1 : e + 1 < 18446744073709551616 := by omega
        clear hd hem han hbk hp1
        have qR7_0 := row20 R7.out
        have qR7_1 := row21 R7.out
        have lR7 := R7.out.lt
        go_wp2_with fail
        clear qR7_0 qR7_1 lR7
        with_reducible refine (HDO2.out _ HA.out).mono ?_
        rintro e w7 ⟨A8, c8, rfl, hc8, hcm8, hout, hb⟩
        replace HA := hide ((HA.out.below hb).more hb.size)
        replace R3 := hide (R3.out.below hb)
        replace R7 := hide (R7.out.below hb)
        replace HB := hide (HB.out.trans (hb.mono HB.out.size))
        have O8 := hide (hout.rd)
        clear hb hout HDO2
        have qR7_0 := row20 R7.out
        have qR7_1 := row21 R7.out
        have lR7 := R7.out.lt
        go_wp2_with fail
        clear qR7_0 qR7_1 lR7
        obtain ⟨g6, hg6⟩ : ∃ g, w7.heap.size = g := ⟨_, rfl⟩
        have hWg6 : W.heap.size ≤ g6 := by rw [← hg6]; exact HB.out.size
        have hbx : Below w7.heap.size w7 (w7.alloc (.cells #[.int .u64 (e + 1), .slice A8 m c8] 25)) := (Below.refl _ _).alloc (Nat.le_refl _) _
        have hrx := RowAt.new w7 25 #[.int .u64 (e + 1), .slice A8 m c8]
        rw [hg6] at hrx
        replace HA := hide ((HA.out.below hbx).more hbx.size)
        replace O8 := hide ((O8.out.below hbx).more hbx.size)
        replace R3 := hide (R3.out.below hbx)
        replace R7 := hide (R7.out.below hbx)
        replace HB := hide (HB.out.trans (hbx.mono HB.out.size))
        have hs8 : (w7.alloc (.cells #[.int .u64 (e + 1), .slice A8 m c8] 25)).heap.size = g6 + 1 := by rw [World.size_alloc, hg6]
        have R6 := hide hrx
        clear hbx hrx
        generalize w7.alloc (.cells #[.int .u64 (e + 1), .slice A8 m c8] 25) = w9 at *
        (try rw [hg6])
        clear hg6 hs8
        with_reducible refine (HCK2.out _ HA.out).mono ?_
        rintro e w10 ⟨rfl, hb⟩
        replace HA := hide ((HA.out.below hb).more hb.size)
        replace O8 := hide ((O8.out.below hb).more hb.size)
        replace R3 := hide (R3.out.below hb)
        replace R7 := hide (R7.out.below hb)
        replace R6 := hide (R6.out.below hb)
        replace HB := hide (HB.out.trans (hb.mono HB.out.size))
        clear hb
        have qR7_0 := row20 R7.out
        have qR7_1 := row21 R7.out
        have lR7 := R7.out.lt
        go_wp2_with fail
        clear qR7_0 qR7_1 lR7
        with_reducible refine (HBA2.out _ HA.out).mono ?_
        rintro e w11 ⟨A9, c9, rfl, hc9, hcm9, hrd, hb⟩
        replace HA := hide ((HA.out.below hb).more hb.size)
        replace O8 := hide ((O8.out.below hb).more hb.size)
        replace R3 := hide (R3.out.below hb)
        replace R7 := hide (R7.out.below hb)
        replace R6 := hide (R6.out.below hb)
        replace HB := hide (HB.out.trans (hb.mono HB.out.size))
        clear hb hrd
        have qR7_0 := row20 R7.out
        have qR7_1 := row21 R7.out
        have lR7 := R7.out.lt
        have qR6_0 := row20 R6.out
        have qR6_1 := row21 R6.out
        have lR6 := R6.out.lt
        go_wp2_with fail
        clear qR7_0 qR7_1 lR7 qR6_0 qR6_1 lR6
        with_reducible refine (HCK3.out _ A8 c8 O8.out).mono ?_
        rintro e w12 ⟨rfl, hb⟩
        replace HA := hide ((HA.out.below hb).more hb.size)
        replace O8 := hide ((O8.out.below hb).more hb.size)
        replace R3 := hide (R3.out.below hb)
        replace R7 := hide (R7.out.below hb)
        replace R6 := hide (R6.out.below hb)
        replace HB := hide (HB.out.trans (hb.mono HB.out.size))
        clear hb HCK3
        have qR7_0 := row20 R7.out
        have qR7_1 := row21 R7.out
        have lR7 := R7.out.lt
        have qR6_0 := row20 R6.out
        have qR6_1 := row21 R6.out
        have lR6 := R6.out.lt
        go_wp2_with fail
        clear qR7_0 qR7_1 lR7 qR6_0 qR6_1 lR6
        clear O8 R6
        with_reducible refine (HBA2.out _ HA.out).mono ?_
        rintro e w13 ⟨A6, c6, rfl, hc6, hcm6, hrd, hb⟩
        replace HA := hide ((HA.out.below hb).more hb.size)
        replace R3 := hide (R3.out.below hb)
        replace R7 := hide (R7.out.below hb)
        replace HB := hide (HB.out.trans (hb.mono HB.out.size))
        have O6 := hide (hrd)
        clear hb hrd
        go_wp2_with fail
        obtain ⟨lo, hlo⟩ : ∃ l, w13.heap.size = l := ⟨_, rfl⟩
        have O6b : Hid (Rd w13 lo 1 A6 k7 (Cs encI (backL e S))) := hide (by rw [← hlo]; exact O6.out)
        have hloW : W.heap.size ≤ lo := by rw [← hlo]; exact HB.out.size
        go_loopw [68] (fun i wr => ∃ (j : Nat), j ≤ k7 ∧ i = .int .i64 j ∧ GoAt W wr g7 m lo e (unp S ((backL e S).take j)) A6 k7 (backL e S)) (fun i _ => k7 - (intOf i).toNat)
        case atStart => exact ⟨0, by omega, rfl, A7, c7, R7.out, HA.out, hc7, hcm7, O6b.out, Nat.le_of_eq hlo.symm, HB.out⟩
        case round =>
          clear R7 HA O6 O6b HB hlo R3 HBA2 HCK2 HDO HOWN
          obtain ⟨j, hj, rfl, A, cc, hr7, hrd, hcc, hccm, ho6, hlo, hbw⟩ := hrel
          have R7 := hide hr7
          have HRD := hide hrd
          have HB := hide hbw
          have O6 := hide ho6
          have LO := hide hlo
          have hok := unp_ok (l := (backL e S).take j) he0 HR.out
          have hnn := unp_nonneg (l := (backL e S).take j) (fun s hs => (HU.out s hs).1)
          have hT := pOk_u64 hok hnn
          have htl : (unp S ((backL e S).take j)).length = m := by rw [unp_length]; exact HSL.out
          clear hr7 hrd ho6 hlo hbw
          by_cases hlt : j < k7
          · skip
            exact absurd hlt (by omega)
          · skip
            have htk : (backL e S).take j = backL e S := List.take_of_length_le (by rw [HK7.out]; omega)
            rw [htk] at HRD hok hnn hT htl
            obtain ⟨Z, hZ⟩ : ∃ Z, unp S (backL e S) = Z := ⟨_, rfl⟩
            have hzb : backL e Z = [] := by rw [← hZ]; exact unp_back he0
            rw [hZ] at HRD hok hnn hT htl
            obtain ⟨E9, hE9⟩ : ∃ E : Int, (if e = 4611686018427387904 then 6 else 0) = E := ⟨_, rfl⟩
            have hd9 : ∀ gg : Int, doE e Z 3 gg 0 = E9 := fun gg => by
              rw [← hE9]
              unfold doE; rw [if_pos hok]; unfold dE; rw [if_neg (by omega), if_pos rfl, backL_nil.1 hzb]; simp
            have hr0 : rnR e Z [] = (e, Z, 0) := by unfold rnR; rw [if_pos hok]; rfl
            have hrE : rnE e Z [] = 0 := by unfold rnE; rw [if_pos hok]; rfl
            have HZL := hide htl
            have HRUN := hide (fun w (hr : Rd w w.heap.size 1 A m (Cs encW Z)) (A2 : Option Addr) => Run_any A cc m e Z A2 0 0 [] w hr htl (by omega) ⟨rfl, fun h => absurd h (by omega)⟩ rfl (by omega) (by simp) he0 hT 0 e Z 0 m hrE hr0 htl)
            have HSAME := hide (fun w A' c' (h1 : Rd w w.heap.size 1 A' m (Cs encW Z)) (h2 : Rd w w.heap.size 1 A m (Cs encW Z)) => same_any A' A c' cc m m e e Z Z w h1 h2 htl htl (by omega) (by omega) true (by simp))
            have HBZ := hide (fun w (h : Rd w w.heap.size 1 A m (Cs encW Z)) => Back_any A cc m e Z w h htl he0 hT (by omega) [] (by rw [if_pos hok]; exact hzb) 0 rfl)
            have HDO9 := hide (fun w (hr : Rd w w.heap.size 1 A m (Cs encW Z)) gg => Do_any A cc m e Z 3 gg 0 w hr htl he0 hT (by omega) (by omega) E9 _ _ _ (hd9 gg) rfl rfl rfl)
            obtain ⟨i0, hi0, hz0, hz1, hz2⟩ := info_parts elO.info
            have hmk : ∀ w, (Instr.makeSlice 26 (.int .i64 0) (.int .i64 0)).run Try.prog w = .ok (.slice (some ⟨w.heap.size, 0, none⟩) 0 0) (w.alloc (.cells #[] 32)) := fun w => by
              have h := run_make_rowN (P := Try.prog) 26 32 i0 _ Try.underlying26 hi0 hz0 .i64 .i64 0 0 (Nat.le_refl _) (by omega) (by omega) w
              simpa [madeCells_zero] using h
            have HMK := hide hmk
            have HE9 := hide hE9
            clear hok hnn hT htl htk hZ hzb hd9 hr0 hrE hi0 hz0 hz1 hz2 hmk hE9 O6 LO
            have qR7_0 := row20 R7.out
            have qR7_1 := row21 R7.out
            have lR7 := R7.out.lt
            go_wp2_with fail
            clear qR7_0 qR7_1 lR7
            have qR7_0 := row20 R7.out
            have qR7_1 := row21 R7.out
            have lR7 := R7.out.lt
            go_cut [11, 12, 7] from 86 to 92 (fun s11 s12 s7 wx => ∃ (g11 : Nat) (A11 : Option Addr) (c11 : Nat), s11 = .pointer (some ⟨g11, 0, none⟩) ∧ s12 = .int .i64 0 ∧ s7 = .int .i64 0 ∧ RowAt wx g11 25 #[.int .u64 e, .slice A11 m c11] ∧ Rd wx wx.heap.size 1 A11 m (Cs encW Z) ∧ Below wr.heap.size wr wx)
            case first =>
              refine wp_region_held_drew (S := fun wX => Below wr.heap.size wr wX) (by kernel_rfl) (Below.refl _ _).drew (fun hHeld => ?_)
              refine wpAnyH_take (i := 0) (v := .agg #[.int .u64 e, .slice A m cc]) rfl (by kernel_rfl) (by kernel_rfl) (by kernel_rfl) (fun _ _ _ h => h) (Or.inl ⟨by rfl, fun w hw => ?_⟩) (by assumption) ?_
              · have e0 := kept hw qR7_0; have e1 := kept hw qR7_1
                go_simp
                first | done | with_reducible rfl
              simp only [Act.put, List.getElem_toArray, List.getElem_cons_succ, List.getElem_cons_zero, List.setIfInBounds_toArray, List.set_cons_zero, List.set_cons_succ]
              have HQ := hide ((Below.refl wr.heap.size wr).drew)
              generalize wr.drew = wd at *
              have hmk := HMK.out
              refine wpAnyH_ready (rs := [1, 7]) (by kernel_rfl) (by simp) ?_
              refine (AllReadyH.cons rfl (fun K0 hK0 => ?_) (AllReadyH.cons rfl (fun K0 hK0 => ?_) AllReadyH.nil))
              · go_simp
                have hb0 : Below wd.heap.size wd (wd.alloc (.cells #[] 32)) := (Below.refl _ _).alloc (Nat.le_refl _) _
                refine hK0.out _ _ (HQ.out.trans (hb0.mono HQ.out.size)) (fun _ => ?_)
                clear hK0 K0
                replace HQ := hide (HQ.out.trans (hb0.mono HQ.out.size))
                clear hb0
                (try simp only [Act.put, List.getElem_toArray, List.getElem_cons_succ, List.getElem_cons_zero, List.setIfInBounds_toArray, List.set_cons_zero, List.set_cons_succ])
                generalize wd.alloc (.cells #[] 32) = wa0 at *
                refine wpAnyH_ready (rs := [2, 7]) (by kernel_rfl) (by simp) ?_
                refine (AllReadyH.cons rfl (fun K1 hK1 => ?_) (AllReadyH.cons rfl (fun K1 hK1 => ?_) AllReadyH.nil))
                · go_simp
                  refine (HRUN.out _ ((HRD.out.below HQ.out).more HQ.out.size) _).mono ?_
                  rintro x wa1 ⟨A11, c11, rfl, hc11, hcm11, hout, hb1⟩
                  have O11 := hide hout.rd
                  refine hK1.out _ _ (HQ.out.trans (hb1.mono HQ.out.size)) (fun _ => ?_)
                  clear hK1 K1 hout
                  replace HQ := hide (HQ.out.trans (hb1.mono HQ.out.size))
                  clear hb1
                  (try simp only [Act.put, List.getElem_toArray, List.getElem_cons_succ, List.getElem_cons_zero, List.setIfInBounds_toArray, List.set_cons_zero, List.set_cons_succ])
                  (refine wpAnyH_take (i := 3) (v := ?_) rfl (by kernel_rfl) (by kernel_rfl) (by kernel_rfl) (fun _ _ _ h => h) (Or.inl ⟨by rfl, ?_⟩) (by exact HQ.out) ?_; rotate_left; (focus (intro w hSw; (try dsimp only at hSw); go_simp; first | done | with_reducible rfl)); (try simp only [Act.put, List.getElem_toArray, List.getElem_cons_succ, List.getElem_cons_zero, List.setIfInBounds_toArray, List.set_cons_zero, List.set_cons_succ]))
                  (refine wpAnyH_take (i := 4) (v := ?_) rfl (by kernel_rfl) (by kernel_rfl) (by kernel_rfl) (fun _ _ _ h => h) (Or.inl ⟨by rfl, ?_⟩) (by exact HQ.out) ?_; rotate_left; (focus (intro w hSw; (try dsimp only at hSw); go_simp; first | done | with_reducible rfl)); (try simp only [Act.put, List.getElem_toArray, List.getElem_cons_succ, List.getElem_cons_zero, List.setIfInBounds_toArray, List.set_cons_zero, List.set_cons_succ]))
                  (refine wpAnyH_take (i := 5) (v := ?_) rfl (by kernel_rfl) (by kernel_rfl) (by kernel_rfl) (fun _ _ _ h => h) (Or.inl ⟨by rfl, ?_⟩) (by exact HQ.out) ?_; rotate_left; (focus (intro w hSw; (try dsimp only at hSw); go_simp; first | done | with_reducible rfl)); (try simp only [Act.put, List.getElem_toArray, List.getElem_cons_succ, List.getElem_cons_zero, List.setIfInBounds_toArray, List.set_cons_zero, List.set_cons_succ]))
                  (refine wpAnyH_take (i := 6) (v := ?_) rfl (by kernel_rfl) (by kernel_rfl) (by kernel_rfl) (fun _ _ _ h => h) (Or.inl ⟨by rfl, ?_⟩) (by exact HQ.out) ?_; rotate_left; (focus (intro w hSw; (try dsimp only at hSw); go_simp; first | done | with_reducible rfl)); (try simp only [Act.put, List.getElem_toArray, List.getElem_cons_succ, List.getElem_cons_zero, List.setIfInBounds_toArray, List.set_cons_zero, List.set_cons_succ]))
                  refine wpAnyH_ready (rs := [7]) (by kernel_rfl) (by simp) ?_
                  refine (AllReadyH.cons rfl (fun K2 hK2 => ?_) AllReadyH.nil)
                  · go_simp
                    have hb2 : Below wa1.heap.size wa1 (wa1.alloc (.cells #[.int .u64 0, .slice none 0 0] 25)) := (Below.refl _ _).alloc (Nat.le_refl _) _
                    refine hK2.out _ _ (HQ.out.trans (hb2.mono HQ.out.size)) (fun _ => ?_)
                    clear hK2 K2
                    have R11 := hide (RowAt.new wa1 25 #[.int .u64 0, .slice none 0 0])
                    have hg11 : wa1.heap.size = wa1.heap.size := rfl
                    have G11 := hide HQ.out.size
                    have N11 := hide (fun (hn : 0 < m) (p : Addr) (hp : A11 = some p) => (show p.block ≠ wa1.heap.size by obtain ⟨b, off, e1, hb, _⟩ := O11.out.2 hn; rw [hp] at e1; injection e1 with e1; rw [e1]; exact Nat.ne_of_lt hb))
                    replace O11 := hide ((O11.out.below hb2).more hb2.size)
                    replace HQ := hide (HQ.out.trans (hb2.mono HQ.out.size))
                    clear hb2 hg11
                    (try simp only [Act.put, List.getElem_toArray, List.getElem_cons_succ, List.getElem_cons_zero, List.setIfInBounds_toArray, List.set_cons_zero, List.set_cons_succ])
                    obtain ⟨gg, hgg⟩ : ∃ g, wa1.heap.size = g := ⟨_, rfl⟩
                    rw [hgg] at R11 G11 ⊢
                    rw [hgg] at N11
                    generalize wa1.alloc (.cells #[.int .u64 0, .slice none 0 0] 25) = wa2 at *
                    clear hgg
                    refine wpAnyH_ready (rs := [8]) (by kernel_rfl) (by simp) ?_
                    refine AllReadyH.cons rfl (fun K hK => ?_) AllReadyH.nil
                    have l11 := R11.out.lt
                    have z11 := row20 R11.out
                    have y11 := row21 R11.out
                    have f11 := R11.out.frozen 0
                    have h11 := R11.out.frozen 1
                    go_simp
                    refine hK.out _ _ ((HQ.out.setCell (p := ⟨gg, 0, none⟩) G11.out _).setCell (p := ⟨gg, 1, none⟩) G11.out _) (fun _ => ?_)
                    clear hK K
                    replace O11 : Hid (Rd ((wa2.setCell ⟨gg, 0, none⟩ (.int .u64 e)).setCell ⟨gg, 1, none⟩ (.slice A11 m c11)) ((wa2.setCell ⟨gg, 0, none⟩ (.int .u64 e)).setCell ⟨gg, 1, none⟩ (.slice A11 m c11)).heap.size 1 A11 m (Cs encW Z)) := hide (by have h := (O11.out.setOff2 (g := gg) N11.out 0 (.int .u64 e)).setOff2 (g := gg) N11.out 1 (.slice A11 m c11); simpa using h)
                    replace R11 : Hid (RowAt ((wa2.setCell ⟨gg, 0, none⟩ (.int .u64 e)).setCell ⟨gg, 1, none⟩ (.slice A11 m c11)) gg 25 #[.int .u64 e, .slice A11 m c11]) := hide (by have h := (R11.out.set 0 (.int .u64 e)).set 1 (.slice A11 m c11); simpa using h)
                    replace HQ := hide ((HQ.out.setCell (p := ⟨gg, 0, none⟩) G11.out (.int .u64 e)).setCell (p := ⟨gg, 1, none⟩) G11.out (.slice A11 m c11))
                    clear l11 z11 y11 f11 h11
                    (try simp only [Act.put, List.getElem_toArray, List.getElem_cons_succ, List.getElem_cons_zero, List.setIfInBounds_toArray, List.set_cons_zero, List.set_cons_succ])
                    (refine wpAnyH_take (i := 9) (v := ?_) rfl (by kernel_rfl) (by kernel_rfl) (by kernel_rfl) (fun _ _ _ h => h) (Or.inl ⟨by rfl, ?_⟩) (by exact HQ.out) ?_; rotate_left; (focus (intro w hSw; (try dsimp only at hSw); go_simp; first | done | with_reducible rfl)); (try simp only [Act.put, List.getElem_toArray, List.getElem_cons_succ, List.getElem_cons_zero, List.setIfInBounds_toArray, List.set_cons_zero, List.set_cons_succ]))
                    (refine wpAnyH_take (i := 10) (v := ?_) rfl (by kernel_rfl) (by kernel_rfl) (by kernel_rfl) (fun _ _ _ h => h) (Or.inl ⟨by rfl, ?_⟩) (by exact HQ.out) ?_; rotate_left; (focus (intro w hSw; (try dsimp only at hSw); go_simp; first | done | with_reducible rfl)); (try simp only [Act.put, List.getElem_toArray, List.getElem_cons_succ, List.getElem_cons_zero, List.setIfInBounds_toArray, List.set_cons_zero, List.set_cons_succ]))
                    refine wpAnyH_done (by kernel_rfl) ?_ _
                    go_wp2_with fail
                    go_meet
                    case rel => exact ⟨gg, A11, c11, rfl, rfl, rfl, R11.out, O11.out, HQ.out⟩
                · go_simp
                  have hb1 : Below wa0.heap.size wa0 (wa0.alloc (.cells #[.int .u64 0, .slice none 0 0] 25)) := (Below.refl _ _).alloc (Nat.le_refl _) _
                  refine hK1.out _ _ (HQ.out.trans (hb1.mono HQ.out.size)) (fun _ => ?_)
                  clear hK1 K1
                  have R11 := hide (RowAt.new wa0 25 #[.int .u64 0, .slice none 0 0])
                  have hg11 : wa0.heap.size = wa0.heap.size := rfl
                  have G11 := hide HQ.out.size
                  replace HQ := hide (HQ.out.trans (hb1.mono HQ.out.size))
                  clear hb1 hg11
                  (try simp only [Act.put, List.getElem_toArray, List.getElem_cons_succ, List.getElem_cons_zero, List.setIfInBounds_toArray, List.set_cons_zero, List.set_cons_succ])
                  obtain ⟨gg, hgg⟩ : ∃ g, wa0.heap.size = g := ⟨_, rfl⟩
                  rw [hgg] at R11 G11 ⊢
                  generalize wa0.alloc (.cells #[.int .u64 0, .slice none 0 0] 25) = wa1 at *
                  clear hgg
                  refine wpAnyH_ready (rs := [2]) (by kernel_rfl) (by simp) ?_
                  refine (AllReadyH.cons rfl (fun K2 hK2 => ?_) AllReadyH.nil)
                  · go_simp
                    refine (HRUN.out _ ((HRD.out.below HQ.out).more HQ.out.size) _).mono ?_
                    rintro x wa2 ⟨A11, c11, rfl, hc11, hcm11, hout, hb2⟩
                    have O11 := hide hout.rd
                    have N11 := hide (fun (hn : 0 < m) (p : Addr) (hp : A11 = some p) => (show p.block ≠ gg by
                      obtain ⟨gs, h1, h2, h3⟩ := hout.own hn
                      rw [hp] at h1
                      injection h1 with h1
                      rw [h1]
                      show gs ≠ gg
                      have := R11.out.lt
                      omega))
                    replace R11 := hide (R11.out.below hb2)
                    refine hK2.out _ _ (HQ.out.trans (hb2.mono HQ.out.size)) (fun _ => ?_)
                    clear hK2 K2 hout
                    replace HQ := hide (HQ.out.trans (hb2.mono HQ.out.size))
                    clear hb2
                    (try simp only [Act.put, List.getElem_toArray, List.getElem_cons_succ, List.getElem_cons_zero, List.setIfInBounds_toArray, List.set_cons_zero, List.set_cons_succ])
                    (refine wpAnyH_take (i := 3) (v := ?_) rfl (by kernel_rfl) (by kernel_rfl) (by kernel_rfl) (fun _ _ _ h => h) (Or.inl ⟨by rfl, ?_⟩) (by exact HQ.out) ?_; rotate_left; (focus (intro w hSw; (try dsimp only at hSw); go_simp; first | done | with_reducible rfl)); (try simp only [Act.put, List.getElem_toArray, List.getElem_cons_succ, List.getElem_cons_zero, List.setIfInBounds_toArray, List.set_cons_zero, List.set_cons_succ]))
                    (refine wpAnyH_take (i := 4) (v := ?_) rfl (by kernel_rfl) (by kernel_rfl) (by kernel_rfl) (fun _ _ _ h => h) (Or.inl ⟨by rfl, ?_⟩) (by exact HQ.out) ?_; rotate_left; (focus (intro w hSw; (try dsimp only at hSw); go_simp; first | done | with_reducible rfl)); (try simp only [Act.put, List.getElem_toArray, List.getElem_cons_succ, List.getElem_cons_zero, List.setIfInBounds_toArray, List.set_cons_zero, List.set_cons_succ]))
                    (refine wpAnyH_take (i := 5) (v := ?_) rfl (by kernel_rfl) (by kernel_rfl) (by kernel_rfl) (fun _ _ _ h => h) (Or.inl ⟨by rfl, ?_⟩) (by exact HQ.out) ?_; rotate_left; (focus (intro w hSw; (try dsimp only at hSw); go_simp; first | done | with_reducible rfl)); (try simp only [Act.put, List.getElem_toArray, List.getElem_cons_succ, List.getElem_cons_zero, List.setIfInBounds_toArray, List.set_cons_zero, List.set_cons_succ]))
                    (refine wpAnyH_take (i := 6) (v := ?_) rfl (by kernel_rfl) (by kernel_rfl) (by kernel_rfl) (fun _ _ _ h => h) (Or.inl ⟨by rfl, ?_⟩) (by exact HQ.out) ?_; rotate_left; (focus (intro w hSw; (try dsimp only at hSw); go_simp; first | done | with_reducible rfl)); (try simp only [Act.put, List.getElem_toArray, List.getElem_cons_succ, List.getElem_cons_zero, List.setIfInBounds_toArray, List.set_cons_zero, List.set_cons_succ]))
                    refine wpAnyH_ready (rs := [8]) (by kernel_rfl) (by simp) ?_
                    refine AllReadyH.cons rfl (fun K hK => ?_) AllReadyH.nil
                    have l11 := R11.out.lt
                    have z11 := row20 R11.out
                    have y11 := row21 R11.out
                    have f11 := R11.out.frozen 0
                    have h11 := R11.out.frozen 1
                    go_simp
                    refine hK.out _ _ ((HQ.out.setCell (p := ⟨gg, 0, none⟩) G11.out _).setCell (p := ⟨gg, 1, none⟩) G11.out _) (fun _ => ?_)
                    clear hK K
                    replace O11 : Hid (Rd ((wa2.setCell ⟨gg, 0, none⟩ (.int .u64 e)).setCell ⟨gg, 1, none⟩ (.slice A11 m c11)) ((wa2.setCell ⟨gg, 0, none⟩ (.int .u64 e)).setCell ⟨gg, 1, none⟩ (.slice A11 m c11)).heap.size 1 A11 m (Cs encW Z)) := hide (by have h := (O11.out.setOff2 (g := gg) N11.out 0 (.int .u64 e)).setOff2 (g := gg) N11.out 1 (.slice A11 m c11); simpa using h)
                    replace R11 : Hid (RowAt ((wa2.setCell ⟨gg, 0, none⟩ (.int .u64 e)).setCell ⟨gg, 1, none⟩ (.slice A11 m c11)) gg 25 #[.int .u64 e, .slice A11 m c11]) := hide (by have h := (R11.out.set 0 (.int .u64 e)).set 1 (.slice A11 m c11); simpa using h)
                    replace HQ := hide ((HQ.out.setCell (p := ⟨gg, 0, none⟩) G11.out (.int .u64 e)).setCell (p := ⟨gg, 1, none⟩) G11.out (.slice A11 m c11))
                    clear l11 z11 y11 f11 h11
                    (try simp only [Act.put, List.getElem_toArray, List.getElem_cons_succ, List.getElem_cons_zero, List.setIfInBounds_toArray, List.set_cons_zero, List.set_cons_succ])
                    (refine wpAnyH_take (i := 9) (v := ?_) rfl (by kernel_rfl) (by kernel_rfl) (by kernel_rfl) (fun _ _ _ h => h) (Or.inl ⟨by rfl, ?_⟩) (by exact HQ.out) ?_; rotate_left; (focus (intro w hSw; (try dsimp only at hSw); go_simp; first | done | with_reducible rfl)); (try simp only [Act.put, List.getElem_toArray, List.getElem_cons_succ, List.getElem_cons_zero, List.setIfInBounds_toArray, List.set_cons_zero, List.set_cons_succ]))
                    (refine wpAnyH_take (i := 10) (v := ?_) rfl (by kernel_rfl) (by kernel_rfl) (by kernel_rfl) (fun _ _ _ h => h) (Or.inl ⟨by rfl, ?_⟩) (by exact HQ.out) ?_; rotate_left; (focus (intro w hSw; (try dsimp only at hSw); go_simp; first | done | with_reducible rfl)); (try simp only [Act.put, List.getElem_toArray, List.getElem_cons_succ, List.getElem_cons_zero, List.setIfInBounds_toArray, List.set_cons_zero, List.set_cons_succ]))
                    refine wpAnyH_done (by kernel_rfl) ?_ _
                    go_wp2_with fail
                    go_meet
                    case rel => exact ⟨gg, A11, c11, rfl, rfl, rfl, R11.out, O11.out, HQ.out⟩
              · go_simp
                have hb0 : Below wd.heap.size wd (wd.alloc (.cells #[.int .u64 0, .slice none 0 0] 25)) := (Below.refl _ _).alloc (Nat.le_refl _) _
                refine hK0.out _ _ (HQ.out.trans (hb0.mono HQ.out.size)) (fun _ => ?_)
                clear hK0 K0
                have R11 := hide (RowAt.new wd 25 #[.int .u64 0, .slice none 0 0])
                have hg11 : wd.heap.size = wd.heap.size := rfl
                have G11 := hide HQ.out.size
                replace HQ := hide (HQ.out.trans (hb0.mono HQ.out.size))
                clear hb0 hg11
                (try simp only [Act.put, List.getElem_toArray, List.getElem_cons_succ, List.getElem_cons_zero, List.setIfInBounds_toArray, List.set_cons_zero, List.set_cons_succ])
                obtain ⟨gg, hgg⟩ : ∃ g, wd.heap.size = g := ⟨_, rfl⟩
                rw [hgg] at R11 G11 ⊢
                generalize wd.alloc (.cells #[.int .u64 0, .slice none 0 0] 25) = wa0 at *
                clear hgg
                refine wpAnyH_ready (rs := [1]) (by kernel_rfl) (by simp) ?_
                refine (AllReadyH.cons rfl (fun K1 hK1 => ?_) AllReadyH.nil)
                · go_simp
                  have hb1 : Below wa0.heap.size wa0 (wa0.alloc (.cells #[] 32)) := (Below.refl _ _).alloc (Nat.le_refl _) _
                  refine hK1.out _ _ (HQ.out.trans (hb1.mono HQ.out.size)) (fun _ => ?_)
                  clear hK1 K1
                  replace R11 := hide (R11.out.below hb1)
                  replace HQ := hide (HQ.out.trans (hb1.mono HQ.out.size))
                  clear hb1
                  (try simp only [Act.put, List.getElem_toArray, List.getElem_cons_succ, List.getElem_cons_zero, List.setIfInBounds_toArray, List.set_cons_zero, List.set_cons_succ])
                  generalize wa0.alloc (.cells #[] 32) = wa1 at *
                  refine wpAnyH_ready (rs := [2]) (by kernel_rfl) (by simp) ?_
                  refine (AllReadyH.cons rfl (fun K2 hK2 => ?_) AllReadyH.nil)
                  · go_simp
                    refine (HRUN.out _ ((HRD.out.below HQ.out).more HQ.out.size) _).mono ?_
                    rintro x wa2 ⟨A11, c11, rfl, hc11, hcm11, hout, hb2⟩
                    have O11 := hide hout.rd
                    have N11 := hide (fun (hn : 0 < m) (p : Addr) (hp : A11 = some p) => (show p.block ≠ gg by
                      obtain ⟨gs, h1, h2, h3⟩ := hout.own hn
                      rw [hp] at h1
                      injection h1 with h1
                      rw [h1]
                      show gs ≠ gg
                      have := R11.out.lt
                      omega))
                    replace R11 := hide (R11.out.below hb2)
                    refine hK2.out _ _ (HQ.out.trans (hb2.mono HQ.out.size)) (fun _ => ?_)
                    clear hK2 K2 hout
                    replace HQ := hide (HQ.out.trans (hb2.mono HQ.out.size))
                    clear hb2
                    (try simp only [Act.put, List.getElem_toArray, List.getElem_cons_succ, List.getElem_cons_zero, List.setIfInBounds_toArray, List.set_cons_zero, List.set_cons_succ])
                    (refine wpAnyH_take (i := 3) (v := ?_) rfl (by kernel_rfl) (by kernel_rfl) (by kernel_rfl) (fun _ _ _ h => h) (Or.inl ⟨by rfl, ?_⟩) (by exact HQ.out) ?_; rotate_left; (focus (intro w hSw; (try dsimp only at hSw); go_simp; first | done | with_reducible rfl)); (try simp only [Act.put, List.getElem_toArray, List.getElem_cons_succ, List.getElem_cons_zero, List.setIfInBounds_toArray, List.set_cons_zero, List.set_cons_succ]))
                    (refine wpAnyH_take (i := 4) (v := ?_) rfl (by kernel_rfl) (by kernel_rfl) (by kernel_rfl) (fun _ _ _ h => h) (Or.inl ⟨by rfl, ?_⟩) (by exact HQ.out) ?_; rotate_left; (focus (intro w hSw; (try dsimp only at hSw); go_simp; first | done | with_reducible rfl)); (try simp only [Act.put, List.getElem_toArray, List.getElem_cons_succ, List.getElem_cons_zero, List.setIfInBounds_toArray, List.set_cons_zero, List.set_cons_succ]))
                    (refine wpAnyH_take (i := 5) (v := ?_) rfl (by kernel_rfl) (by kernel_rfl) (by kernel_rfl) (fun _ _ _ h => h) (Or.inl ⟨by rfl, ?_⟩) (by exact HQ.out) ?_; rotate_left; (focus (intro w hSw; (try dsimp only at hSw); go_simp; first | done | with_reducible rfl)); (try simp only [Act.put, List.getElem_toArray, List.getElem_cons_succ, List.getElem_cons_zero, List.setIfInBounds_toArray, List.set_cons_zero, List.set_cons_succ]))
                    (refine wpAnyH_take (i := 6) (v := ?_) rfl (by kernel_rfl) (by kernel_rfl) (by kernel_rfl) (fun _ _ _ h => h) (Or.inl ⟨by rfl, ?_⟩) (by exact HQ.out) ?_; rotate_left; (focus (intro w hSw; (try dsimp only at hSw); go_simp; first | done | with_reducible rfl)); (try simp only [Act.put, List.getElem_toArray, List.getElem_cons_succ, List.getElem_cons_zero, List.setIfInBounds_toArray, List.set_cons_zero, List.set_cons_succ]))
                    refine wpAnyH_ready (rs := [8]) (by kernel_rfl) (by simp) ?_
                    refine AllReadyH.cons rfl (fun K hK => ?_) AllReadyH.nil
                    have l11 := R11.out.lt
                    have z11 := row20 R11.out
                    have y11 := row21 R11.out
                    have f11 := R11.out.frozen 0
                    have h11 := R11.out.frozen 1
                    go_simp
                    refine hK.out _ _ ((HQ.out.setCell (p := ⟨gg, 0, none⟩) G11.out _).setCell (p := ⟨gg, 1, none⟩) G11.out _) (fun _ => ?_)
                    clear hK K
                    replace O11 : Hid (Rd ((wa2.setCell ⟨gg, 0, none⟩ (.int .u64 e)).setCell ⟨gg, 1, none⟩ (.slice A11 m c11)) ((wa2.setCell ⟨gg, 0, none⟩ (.int .u64 e)).setCell ⟨gg, 1, none⟩ (.slice A11 m c11)).heap.size 1 A11 m (Cs encW Z)) := hide (by have h := (O11.out.setOff2 (g := gg) N11.out 0 (.int .u64 e)).setOff2 (g := gg) N11.out 1 (.slice A11 m c11); simpa using h)
                    replace R11 : Hid (RowAt ((wa2.setCell ⟨gg, 0, none⟩ (.int .u64 e)).setCell ⟨gg, 1, none⟩ (.slice A11 m c11)) gg 25 #[.int .u64 e, .slice A11 m c11]) := hide (by have h := (R11.out.set 0 (.int .u64 e)).set 1 (.slice A11 m c11); simpa using h)
                    replace HQ := hide ((HQ.out.setCell (p := ⟨gg, 0, none⟩) G11.out (.int .u64 e)).setCell (p := ⟨gg, 1, none⟩) G11.out (.slice A11 m c11))
                    clear l11 z11 y11 f11 h11
                    (try simp only [Act.put, List.getElem_toArray, List.getElem_cons_succ, List.getElem_cons_zero, List.setIfInBounds_toArray, List.set_cons_zero, List.set_cons_succ])
                    (refine wpAnyH_take (i := 9) (v := ?_) rfl (by kernel_rfl) (by kernel_rfl) (by kernel_rfl) (fun _ _ _ h => h) (Or.inl ⟨by rfl, ?_⟩) (by exact HQ.out) ?_; rotate_left; (focus (intro w hSw; (try dsimp only at hSw); go_simp; first | done | with_reducible rfl)); (try simp only [Act.put, List.getElem_toArray, List.getElem_cons_succ, List.getElem_cons_zero, List.setIfInBounds_toArray, List.set_cons_zero, List.set_cons_succ]))
                    (refine wpAnyH_take (i := 10) (v := ?_) rfl (by kernel_rfl) (by kernel_rfl) (by kernel_rfl) (fun _ _ _ h => h) (Or.inl ⟨by rfl, ?_⟩) (by exact HQ.out) ?_; rotate_left; (focus (intro w hSw; (try dsimp only at hSw); go_simp; first | done | with_reducible rfl)); (try simp only [Act.put, List.getElem_toArray, List.getElem_cons_succ, List.getElem_cons_zero, List.setIfInBounds_toArray, List.set_cons_zero, List.set_cons_succ]))
                    refine wpAnyH_done (by kernel_rfl) ?_ _
                    go_wp2_with fail
                    go_meet
                    case rel => exact ⟨gg, A11, c11, rfl, rfl, rfl, R11.out, O11.out, HQ.out⟩
            case rest =>
              rename_i K hK
              refine hK _ _ ?_
              clear hK K
              obtain ⟨w9, hw9⟩ : ∃ w, w = wc := ⟨_, rfl⟩
              subst hw9
              obtain ⟨g11, A11, c11, rfl, rfl, rfl, hr11, ho11, hb⟩ := hcut
              clear qR7_0 qR7_1 lR7
              replace HRD := hide ((HRD.out.below hb).more hb.size)
              replace R7 := hide (R7.out.below hb)
              replace HB := hide (HB.out.trans (hb.mono HB.out.size))
              have R11 := hide hr11
              have O11 := hide ho11
              clear hr11 ho11 hb HRUN
              have qR7_0 := row20 R7.out
              have qR7_1 := row21 R7.out
              have lR7 := R7.out.lt
              have qR11_0 := row20 R11.out
              have qR11_1 := row21 R11.out
              have lR11 := R11.out.lt
              go_wp2_with fail
              clear qR7_0 qR7_1 lR7 qR11_0 qR11_1 lR11
              with_reducible refine (HSAME.out _ A11 c11 O11.out HRD.out).mono ?_
              rintro e w601 ⟨rfl, hb⟩
              replace HRD := hide ((HRD.out.below hb).more hb.size)
              replace O11 := hide ((O11.out.below hb).more hb.size)
              replace R7 := hide (R7.out.below hb)
              replace R11 := hide (R11.out.below hb)
              replace HB := hide (HB.out.trans (hb.mono HB.out.size))
              clear hb HSAME
              have qR7_0 := row20 R7.out
              have qR7_1 := row21 R7.out
              have lR7 := R7.out.lt
              go_wp2_with fail
              clear qR7_0 qR7_1 lR7
              with_reducible refine (HBZ.out _ HRD.out).mono ?_
              rintro e w602 ⟨A12, c12, rfl, hc12, hcm12, hrd, hb⟩
              replace HRD := hide ((HRD.out.below hb).more hb.size)
              replace O11 := hide ((O11.out.below hb).more hb.size)
              replace R7 := hide (R7.out.below hb)
              replace R11 := hide (R11.out.below hb)
              replace HB := hide (HB.out.trans (hb.mono HB.out.size))
              clear hb hrd HBZ
              have qR7_0 := row20 R7.out
              have qR7_1 := row21 R7.out
              have lR7 := R7.out.lt
              go_wp2_with fail
              clear qR7_0 qR7_1 lR7
              with_reducible refine (HDO9.out _ HRD.out _).mono ?_
              rintro e w603 ⟨A13, c13, rfl, hc13, hcm13, hout, hb⟩
              replace HRD := hide ((HRD.out.below hb).more hb.size)
              replace O11 := hide ((O11.out.below hb).more hb.size)
              replace R7 := hide (R7.out.below hb)
              replace R11 := hide (R11.out.below hb)
              replace HB := hide (HB.out.trans (hb.mono HB.out.size))
              clear hb hout HDO9
              by_cases hem : e = 4611686018427387904
              · skip
                have h9 := HE9.out
                rw [if_pos hem] at h9
                have hem2 : (e == 4611686018427387904) = true := by simpa using hem
                clear hem
                subst h9
                have qR7_0 := row20 R7.out
                have qR7_1 := row21 R7.out
                have lR7 := R7.out.lt
                go_wp2_with fail
                clear qR7_0 qR7_1 lR7
                go_ret
                exact ⟨rfl, HB.out⟩
              · skip
                have h9 := HE9.out
                rw [if_neg hem] at h9
                clear hem
                subst h9
                have qR7_0 := row20 R7.out
                have qR7_1 := row21 R7.out
                have lR7 := R7.out.lt
                go_wp2_with fail
                clear qR7_0 qR7_1 lR7
                go_ret
                exact ⟨rfl, HB.out⟩
    · skip
      have han : S.any (heldB e) = true := by
        cases h : S.any (heldB e) with
        | true => rfl
        | false => exact absurd (hbk.2 h) hz
      rw [han, if_pos rfl] at hd
      have hz0 : decide (0 < k7) = true := by simp; omega
      have HDO2 := hide (fun w h => HDO.out w h 231 0 [] 0 hd (by unfold doX; rw [hd]; rfl) (by unfold doS; rw [hd]; rfl) rfl)
      clear hd han hbk hz
      have qR7_0 := row20 R7.out
      have qR7_1 := row21 R7.out
      have lR7 := R7.out.lt
      go_wp2_with fail
      clear qR7_0 qR7_1 lR7
      with_reducible refine (HDO2.out _ HA.out).mono ?_
      rintro e w7 ⟨A8, c8, rfl, hc8, hcm8, hout, hb⟩
      replace HA := hide ((HA.out.below hb).more hb.size)
      replace R3 := hide (R3.out.below hb)
      replace R7 := hide (R7.out.below hb)
      replace HB := hide (HB.out.trans (hb.mono HB.out.size))
      have O8 := hide (hout.rd)
      clear hb hout HDO2
      have qR7_0 := row20 R7.out
      have qR7_1 := row21 R7.out
      have lR7 := R7.out.lt
      go_wp2_with fail
      clear qR7_0 qR7_1 lR7
      obtain ⟨g6, hg6⟩ : ∃ g, w7.heap.size = g := ⟨_, rfl⟩
      have hWg6 : W.heap.size ≤ g6 := by rw [← hg6]; exact HB.out.size
      have hbx : Below w7.heap.size w7 (w7.alloc (.cells #[.int .u64 0, .slice A8 0 c8] 25)) := (Below.refl _ _).alloc (Nat.le_refl _) _
      have hrx := RowAt.new w7 25 #[.int .u64 0, .slice A8 0 c8]
      rw [hg6] at hrx
      replace HA := hide ((HA.out.below hbx).more hbx.size)
      replace O8 := hide ((O8.out.below hbx).more hbx.size)
      replace R3 := hide (R3.out.below hbx)
      replace R7 := hide (R7.out.below hbx)
      replace HB := hide (HB.out.trans (hbx.mono HB.out.size))
      have hs8 : (w7.alloc (.cells #[.int .u64 0, .slice A8 0 c8] 25)).heap.size = g6 + 1 := by rw [World.size_alloc, hg6]
      have R6 := hide hrx
      clear hbx hrx
      generalize w7.alloc (.cells #[.int .u64 0, .slice A8 0 c8] 25) = w9 at *
      (try rw [hg6])
      clear hg6 hs8
      with_reducible refine (HCK2.out _ HA.out).mono ?_
      rintro e w10 ⟨rfl, hb⟩
      replace HA := hide ((HA.out.below hb).more hb.size)
      replace O8 := hide ((O8.out.below hb).more hb.size)
      replace R3 := hide (R3.out.below hb)
      replace R7 := hide (R7.out.below hb)
      replace R6 := hide (R6.out.below hb)
      replace HB := hide (HB.out.trans (hb.mono HB.out.size))
      clear hb
      have qR7_0 := row20 R7.out
      have qR7_1 := row21 R7.out
      have lR7 := R7.out.lt
      go_wp2_with fail
      clear qR7_0 qR7_1 lR7
      with_reducible refine (HBA2.out _ HA.out).mono ?_
      rintro e w11 ⟨A9, c9, rfl, hc9, hcm9, hrd, hb⟩
      replace HA := hide ((HA.out.below hb).more hb.size)
      replace O8 := hide ((O8.out.below hb).more hb.size)
      replace R3 := hide (R3.out.below hb)
      replace R7 := hide (R7.out.below hb)
      replace R6 := hide (R6.out.below hb)
      replace HB := hide (HB.out.trans (hb.mono HB.out.size))
      clear hb hrd
      have qR7_0 := row20 R7.out
      have qR7_1 := row21 R7.out
      have lR7 := R7.out.lt
      have qR6_0 := row20 R6.out
      have qR6_1 := row21 R6.out
      have lR6 := R6.out.lt
      go_wp2_with fail
      clear qR7_0 qR7_1 lR7 qR6_0 qR6_1 lR6
      clear O8 R6
      with_reducible refine (HBA2.out _ HA.out).mono ?_
      rintro e w12 ⟨A6, c6, rfl, hc6, hcm6, hrd, hb⟩
      replace HA := hide ((HA.out.below hb).more hb.size)
      replace R3 := hide (R3.out.below hb)
      replace R7 := hide (R7.out.below hb)
      replace HB := hide (HB.out.trans (hb.mono HB.out.size))
      have O6 := hide (hrd)
      clear hb hrd
      go_wp2_with fail
      obtain ⟨lo, hlo⟩ : ∃ l, w12.heap.size = l := ⟨_, rfl⟩
      have O6b : Hid (Rd w12 lo 1 A6 k7 (Cs encI (backL e S))) := hide (by rw [← hlo]; exact O6.out)
      have hloW : W.heap.size ≤ lo := by rw [← hlo]; exact HB.out.size
      go_loopw [68] (fun i wr => ∃ (j : Nat), j ≤ k7 ∧ i = .int .i64 j ∧ GoAt W wr g7 m lo e (unp S ((backL e S).take j)) A6 k7 (backL e S)) (fun i _ => k7 - (intOf i).toNat)
      case atStart => exact ⟨0, by omega, rfl, A7, c7, R7.out, HA.out, hc7, hcm7, O6b.out, Nat.le_of_eq hlo.symm, HB.out⟩
      case round =>
        clear R7 HA O6 O6b HB hlo R3 HBA2 HCK2 HDO HOWN
        obtain ⟨j, hj, rfl, A, cc, hr7, hrd, hcc, hccm, ho6, hlo, hbw⟩ := hrel
        have R7 := hide hr7
        have HRD := hide hrd
        have HB := hide hbw
        have O6 := hide ho6
        have LO := hide hlo
        have hok := unp_ok (l := (backL e S).take j) he0 HR.out
        have hnn := unp_nonneg (l := (backL e S).take j) (fun s hs => (HU.out s hs).1)
        have hT := pOk_u64 hok hnn
        have htl : (unp S ((backL e S).take j)).length = m := by rw [unp_length]; exact HSL.out
        clear hr7 hrd ho6 hlo hbw
        by_cases hlt : j < k7
        · skip
          obtain ⟨b1, o1, hA6, hb1, hd10⟩ : ∃ b1 o1, A6 = some ⟨b1, o1, none⟩ ∧ b1 < lo ∧ wr.cell? ⟨b1, o1 + j, none⟩ = some (.int .i64 ((backL e S)[j]'(by rw [HK7.out]; exact hlt))) := by
            have h := O6.out
            rw [← HK7.out] at h
            obtain ⟨b, off, h1, h2, h3⟩ := h.elem encI_len (by rw [HK7.out]; exact hlt)
            exact ⟨b, off, h1, h2, by simpa using h3 0 _ (by omega) rfl⟩
          obtain ⟨hs1, hs2⟩ := unp_step (j := j) HR.out he0 (by rw [HK7.out]; exact hlt)
          generalize (backL e S)[j]'(by rw [HK7.out]; exact hlt) = gj at *
          have hbl1 : b1 < wr.heap.size := by have := LO.out; omega
          have hE2 : doE e (unp S ((backL e S).take j)) 2 gj 0 = 0 := by unfold doE; rw [if_pos hok]; exact hs1
          have HDO2 := hide (fun w (hr : Rd w w.heap.size 1 A m (Cs encW (unp S ((backL e S).take j)))) => Do_any A cc m e (unp S ((backL e S).take j)) 2 gj 0 w hr htl he0 hT (by omega) (by omega) 0 e (unp S ((backL e S).take (j + 1))) m hE2 (by unfold doX; rw [if_pos hE2]; simp [dX]) (by unfold doS; rw [if_pos hE2]; exact hs2) (by rw [unp_length]; exact HSL.out))
          have HA6 := hide hA6
          clear hok hnn hT htl hs1 hs2 hE2
          have hoff6 := hide (O6.out.offPins R7.out)
          subst hA6
          have qR7_0 := row20 R7.out
          have qR7_1 := row21 R7.out
          have lR7 := R7.out.lt
          go_wp2_with fail
          clear qR7_0 qR7_1 lR7
          clear hd10 hbl1
          have HGB := hide R7.out.lt
          with_reducible refine (HDO2.out _ HRD.out).mono ?_
          rintro e w401 ⟨A9, c9, rfl, hc9, hcm9, hout, hb⟩
          replace HRD := hide ((HRD.out.below hb).more hb.size)
          replace O6 := hide (O6.out.below (hb.mono LO.out))
          replace R7 := hide (R7.out.below hb)
          replace LO := hide (Nat.le_trans LO.out hb.size)
          replace HB := hide (HB.out.trans (hb.mono HB.out.size))
          have HD9 := hide (hout.rd)
          clear hb HDO2
          clear HRD
          have HOFF := hide (fun (p : Addr) (hp : A9 = some p) => (show p.block ≠ g7 by
            obtain ⟨gs, h1, h2, h3⟩ := hout.own hmpos
            rw [hp] at h1
            injection h1 with h1
            subst h1
            show gs ≠ g7
            have := HGB.out
            omega))
          clear hout
          have hWg7 := hWg7
          have qR7_0 := row20 R7.out
          have qR7_1 := row21 R7.out
          have lR7 := R7.out.lt
          have fR7_0 := R7.out.frozen 0
          have fR7_1 := R7.out.frozen 1
          go_upto_region 15 with fail
          clear qR7_0 qR7_1 lR7 fR7_0 fR7_1
          replace O6 := hide ((O6.out.setOff2 (g := g7) hoff6.out 0 (.int .u64 e)).setOff2 (g := g7) hoff6.out 1 (.slice A9 m c9))
          have R7' := hide ((R7.out.set 0 (.int .u64 e)).set 1 (.slice A9 m c9))
          replace HD9 := hide (((HD9.out.setOffS (g := g7) (HOFF.out) 0 (.int .u64 e)).setOffS (g := g7) (HOFF.out) 1 (.slice A9 m c9)))
          replace HB := hide (((HB.out.setCell (p := ⟨g7, 0, none⟩) (by show _ ≤ g7; omega) (.int .u64 e)).setCell (p := ⟨g7, 1, none⟩) (by show _ ≤ g7; omega) (.slice A9 m c9)))
          replace LO : Hid (_ ≤ ((w401.setCell ⟨g7, 0, none⟩ (.int .u64 e)).setCell ⟨g7, 1, none⟩ (.slice A9 m c9)).heap.size) := hide (by simpa using LO.out)
          generalize ((w401.setCell ⟨g7, 0, none⟩ (.int .u64 e)).setCell ⟨g7, 1, none⟩ (.slice A9 m c9)) = w402 at *
          replace R7 : Hid (RowAt w402 (g7) 25 #[.int .u64 e, .slice A9 m c9]) := hide (by simpa using R7'.out)
          clear R7'
          go_wp2_with fail
          go_roundw
          case rel => exact ⟨j + 1, by omega, by go_num, A9, c9, R7.out, HD9.out, hc9, hcm9, O6.out, LO.out, HB.out⟩
          case measure => simp [intOf]; omega
        · skip
          have htk : (backL e S).take j = backL e S := List.take_of_length_le (by rw [HK7.out]; omega)
          rw [htk] at HRD hok hnn hT htl
          obtain ⟨Z, hZ⟩ : ∃ Z, unp S (backL e S) = Z := ⟨_, rfl⟩
          have hzb : backL e Z = [] := by rw [← hZ]; exact unp_back he0
          rw [hZ] at HRD hok hnn hT htl
          obtain ⟨E9, hE9⟩ : ∃ E : Int, (if e = 4611686018427387904 then 6 else 0) = E := ⟨_, rfl⟩
          have hd9 : ∀ gg : Int, doE e Z 3 gg 0 = E9 := fun gg => by
            rw [← hE9]
            unfold doE; rw [if_pos hok]; unfold dE; rw [if_neg (by omega), if_pos rfl, backL_nil.1 hzb]; simp
          have hr0 : rnR e Z [] = (e, Z, 0) := by unfold rnR; rw [if_pos hok]; rfl
          have hrE : rnE e Z [] = 0 := by unfold rnE; rw [if_pos hok]; rfl
          have HZL := hide htl
          have HRUN := hide (fun w (hr : Rd w w.heap.size 1 A m (Cs encW Z)) (A2 : Option Addr) => Run_any A cc m e Z A2 0 0 [] w hr htl (by omega) ⟨rfl, fun h => absurd h (by omega)⟩ rfl (by omega) (by simp) he0 hT 0 e Z 0 m hrE hr0 htl)
          have HSAME := hide (fun w A' c' (h1 : Rd w w.heap.size 1 A' m (Cs encW Z)) (h2 : Rd w w.heap.size 1 A m (Cs encW Z)) => same_any A' A c' cc m m e e Z Z w h1 h2 htl htl (by omega) (by omega) true (by simp))
          have HBZ := hide (fun w (h : Rd w w.heap.size 1 A m (Cs encW Z)) => Back_any A cc m e Z w h htl he0 hT (by omega) [] (by rw [if_pos hok]; exact hzb) 0 rfl)
          have HDO9 := hide (fun w (hr : Rd w w.heap.size 1 A m (Cs encW Z)) gg => Do_any A cc m e Z 3 gg 0 w hr htl he0 hT (by omega) (by omega) E9 _ _ _ (hd9 gg) rfl rfl rfl)
          obtain ⟨i0, hi0, hz0, hz1, hz2⟩ := info_parts elO.info
          have hmk : ∀ w, (Instr.makeSlice 26 (.int .i64 0) (.int .i64 0)).run Try.prog w = .ok (.slice (some ⟨w.heap.size, 0, none⟩) 0 0) (w.alloc (.cells #[] 32)) := fun w => by
            have h := run_make_rowN (P := Try.prog) 26 32 i0 _ Try.underlying26 hi0 hz0 .i64 .i64 0 0 (Nat.le_refl _) (by omega) (by omega) w
            simpa [madeCells_zero] using h
          have HMK := hide hmk
          have HE9 := hide hE9
          clear hok hnn hT htl htk hZ hzb hd9 hr0 hrE hi0 hz0 hz1 hz2 hmk hE9 O6 LO
          have qR7_0 := row20 R7.out
          have qR7_1 := row21 R7.out
          have lR7 := R7.out.lt
          go_wp2_with fail
          clear qR7_0 qR7_1 lR7
          have qR7_0 := row20 R7.out
          have qR7_1 := row21 R7.out
          have lR7 := R7.out.lt
          go_cut [11, 12, 7] from 86 to 92 (fun s11 s12 s7 wx => ∃ (g11 : Nat) (A11 : Option Addr) (c11 : Nat), s11 = .pointer (some ⟨g11, 0, none⟩) ∧ s12 = .int .i64 0 ∧ s7 = .int .i64 0 ∧ RowAt wx g11 25 #[.int .u64 e, .slice A11 m c11] ∧ Rd wx wx.heap.size 1 A11 m (Cs encW Z) ∧ Below wr.heap.size wr wx)
          case first =>
            refine wp_region_held_drew (S := fun wX => Below wr.heap.size wr wX) (by kernel_rfl) (Below.refl _ _).drew (fun hHeld => ?_)
            refine wpAnyH_take (i := 0) (v := .agg #[.int .u64 e, .slice A m cc]) rfl (by kernel_rfl) (by kernel_rfl) (by kernel_rfl) (fun _ _ _ h => h) (Or.inl ⟨by rfl, fun w hw => ?_⟩) (by assumption) ?_
            · have e0 := kept hw qR7_0; have e1 := kept hw qR7_1
              go_simp
              first | done | with_reducible rfl
            simp only [Act.put, List.getElem_toArray, List.getElem_cons_succ, List.getElem_cons_zero, List.setIfInBounds_toArray, List.set_cons_zero, List.set_cons_succ]
            have HQ := hide ((Below.refl wr.heap.size wr).drew)
            generalize wr.drew = wd at *
            have hmk := HMK.out
            refine wpAnyH_ready (rs := [1, 7]) (by kernel_rfl) (by simp) ?_
            refine (AllReadyH.cons rfl (fun K0 hK0 => ?_) (AllReadyH.cons rfl (fun K0 hK0 => ?_) AllReadyH.nil))
            · go_simp
              have hb0 : Below wd.heap.size wd (wd.alloc (.cells #[] 32)) := (Below.refl _ _).alloc (Nat.le_refl _) _
              refine hK0.out _ _ (HQ.out.trans (hb0.mono HQ.out.size)) (fun _ => ?_)
              clear hK0 K0
              replace HQ := hide (HQ.out.trans (hb0.mono HQ.out.size))
              clear hb0
              (try simp only [Act.put, List.getElem_toArray, List.getElem_cons_succ, List.getElem_cons_zero, List.setIfInBounds_toArray, List.set_cons_zero, List.set_cons_succ])
              generalize wd.alloc (.cells #[] 32) = wa0 at *
              refine wpAnyH_ready (rs := [2, 7]) (by kernel_rfl) (by simp) ?_
              refine (AllReadyH.cons rfl (fun K1 hK1 => ?_) (AllReadyH.cons rfl (fun K1 hK1 => ?_) AllReadyH.nil))
              · go_simp
                refine (HRUN.out _ ((HRD.out.below HQ.out).more HQ.out.size) _).mono ?_
                rintro x wa1 ⟨A11, c11, rfl, hc11, hcm11, hout, hb1⟩
                have O11 := hide hout.rd
                refine hK1.out _ _ (HQ.out.trans (hb1.mono HQ.out.size)) (fun _ => ?_)
                clear hK1 K1 hout
                replace HQ := hide (HQ.out.trans (hb1.mono HQ.out.size))
                clear hb1
                (try simp only [Act.put, List.getElem_toArray, List.getElem_cons_succ, List.getElem_cons_zero, List.setIfInBounds_toArray, List.set_cons_zero, List.set_cons_succ])
                (refine wpAnyH_take (i := 3) (v := ?_) rfl (by kernel_rfl) (by kernel_rfl) (by kernel_rfl) (fun _ _ _ h => h) (Or.inl ⟨by rfl, ?_⟩) (by exact HQ.out) ?_; rotate_left; (focus (intro w hSw; (try dsimp only at hSw); go_simp; first | done | with_reducible rfl)); (try simp only [Act.put, List.getElem_toArray, List.getElem_cons_succ, List.getElem_cons_zero, List.setIfInBounds_toArray, List.set_cons_zero, List.set_cons_succ]))
                (refine wpAnyH_take (i := 4) (v := ?_) rfl (by kernel_rfl) (by kernel_rfl) (by kernel_rfl) (fun _ _ _ h => h) (Or.inl ⟨by rfl, ?_⟩) (by exact HQ.out) ?_; rotate_left; (focus (intro w hSw; (try dsimp only at hSw); go_simp; first | done | with_reducible rfl)); (try simp only [Act.put, List.getElem_toArray, List.getElem_cons_succ, List.getElem_cons_zero, List.setIfInBounds_toArray, List.set_cons_zero, List.set_cons_succ]))
                (refine wpAnyH_take (i := 5) (v := ?_) rfl (by kernel_rfl) (by kernel_rfl) (by kernel_rfl) (fun _ _ _ h => h) (Or.inl ⟨by rfl, ?_⟩) (by exact HQ.out) ?_; rotate_left; (focus (intro w hSw; (try dsimp only at hSw); go_simp; first | done | with_reducible rfl)); (try simp only [Act.put, List.getElem_toArray, List.getElem_cons_succ, List.getElem_cons_zero, List.setIfInBounds_toArray, List.set_cons_zero, List.set_cons_succ]))
                (refine wpAnyH_take (i := 6) (v := ?_) rfl (by kernel_rfl) (by kernel_rfl) (by kernel_rfl) (fun _ _ _ h => h) (Or.inl ⟨by rfl, ?_⟩) (by exact HQ.out) ?_; rotate_left; (focus (intro w hSw; (try dsimp only at hSw); go_simp; first | done | with_reducible rfl)); (try simp only [Act.put, List.getElem_toArray, List.getElem_cons_succ, List.getElem_cons_zero, List.setIfInBounds_toArray, List.set_cons_zero, List.set_cons_succ]))
                refine wpAnyH_ready (rs := [7]) (by kernel_rfl) (by simp) ?_
                refine (AllReadyH.cons rfl (fun K2 hK2 => ?_) AllReadyH.nil)
                · go_simp
                  have hb2 : Below wa1.heap.size wa1 (wa1.alloc (.cells #[.int .u64 0, .slice none 0 0] 25)) := (Below.refl _ _).alloc (Nat.le_refl _) _
                  refine hK2.out _ _ (HQ.out.trans (hb2.mono HQ.out.size)) (fun _ => ?_)
                  clear hK2 K2
                  have R11 := hide (RowAt.new wa1 25 #[.int .u64 0, .slice none 0 0])
                  have hg11 : wa1.heap.size = wa1.heap.size := rfl
                  have G11 := hide HQ.out.size
                  have N11 := hide (fun (hn : 0 < m) (p : Addr) (hp : A11 = some p) => (show p.block ≠ wa1.heap.size by obtain ⟨b, off, e1, hb, _⟩ := O11.out.2 hn; rw [hp] at e1; injection e1 with e1; rw [e1]; exact Nat.ne_of_lt hb))
                  replace O11 := hide ((O11.out.below hb2).more hb2.size)
                  replace HQ := hide (HQ.out.trans (hb2.mono HQ.out.size))
                  clear hb2 hg11
                  (try simp only [Act.put, List.getElem_toArray, List.getElem_cons_succ, List.getElem_cons_zero, List.setIfInBounds_toArray, List.set_cons_zero, List.set_cons_succ])
                  obtain ⟨gg, hgg⟩ : ∃ g, wa1.heap.size = g := ⟨_, rfl⟩
                  rw [hgg] at R11 G11 ⊢
                  rw [hgg] at N11
                  generalize wa1.alloc (.cells #[.int .u64 0, .slice none 0 0] 25) = wa2 at *
                  clear hgg
                  refine wpAnyH_ready (rs := [8]) (by kernel_rfl) (by simp) ?_
                  refine AllReadyH.cons rfl (fun K hK => ?_) AllReadyH.nil
                  have l11 := R11.out.lt
                  have z11 := row20 R11.out
                  have y11 := row21 R11.out
                  have f11 := R11.out.frozen 0
                  have h11 := R11.out.frozen 1
                  go_simp
                  refine hK.out _ _ ((HQ.out.setCell (p := ⟨gg, 0, none⟩) G11.out _).setCell (p := ⟨gg, 1, none⟩) G11.out _) (fun _ => ?_)
                  clear hK K
                  replace O11 : Hid (Rd ((wa2.setCell ⟨gg, 0, none⟩ (.int .u64 e)).setCell ⟨gg, 1, none⟩ (.slice A11 m c11)) ((wa2.setCell ⟨gg, 0, none⟩ (.int .u64 e)).setCell ⟨gg, 1, none⟩ (.slice A11 m c11)).heap.size 1 A11 m (Cs encW Z)) := hide (by have h := (O11.out.setOff2 (g := gg) N11.out 0 (.int .u64 e)).setOff2 (g := gg) N11.out 1 (.slice A11 m c11); simpa using h)
                  replace R11 : Hid (RowAt ((wa2.setCell ⟨gg, 0, none⟩ (.int .u64 e)).setCell ⟨gg, 1, none⟩ (.slice A11 m c11)) gg 25 #[.int .u64 e, .slice A11 m c11]) := hide (by have h := (R11.out.set 0 (.int .u64 e)).set 1 (.slice A11 m c11); simpa using h)
                  replace HQ := hide ((HQ.out.setCell (p := ⟨gg, 0, none⟩) G11.out (.int .u64 e)).setCell (p := ⟨gg, 1, none⟩) G11.out (.slice A11 m c11))
                  clear l11 z11 y11 f11 h11
                  (try simp only [Act.put, List.getElem_toArray, List.getElem_cons_succ, List.getElem_cons_zero, List.setIfInBounds_toArray, List.set_cons_zero, List.set_cons_succ])
                  (refine wpAnyH_take (i := 9) (v := ?_) rfl (by kernel_rfl) (by kernel_rfl) (by kernel_rfl) (fun _ _ _ h => h) (Or.inl ⟨by rfl, ?_⟩) (by exact HQ.out) ?_; rotate_left; (focus (intro w hSw; (try dsimp only at hSw); go_simp; first | done | with_reducible rfl)); (try simp only [Act.put, List.getElem_toArray, List.getElem_cons_succ, List.getElem_cons_zero, List.setIfInBounds_toArray, List.set_cons_zero, List.set_cons_succ]))
                  (refine wpAnyH_take (i := 10) (v := ?_) rfl (by kernel_rfl) (by kernel_rfl) (by kernel_rfl) (fun _ _ _ h => h) (Or.inl ⟨by rfl, ?_⟩) (by exact HQ.out) ?_; rotate_left; (focus (intro w hSw; (try dsimp only at hSw); go_simp; first | done | with_reducible rfl)); (try simp only [Act.put, List.getElem_toArray, List.getElem_cons_succ, List.getElem_cons_zero, List.setIfInBounds_toArray, List.set_cons_zero, List.set_cons_succ]))
                  refine wpAnyH_done (by kernel_rfl) ?_ _
                  go_wp2_with fail
                  go_meet
                  case rel => exact ⟨gg, A11, c11, rfl, rfl, rfl, R11.out, O11.out, HQ.out⟩
              · go_simp
                have hb1 : Below wa0.heap.size wa0 (wa0.alloc (.cells #[.int .u64 0, .slice none 0 0] 25)) := (Below.refl _ _).alloc (Nat.le_refl _) _
                refine hK1.out _ _ (HQ.out.trans (hb1.mono HQ.out.size)) (fun _ => ?_)
                clear hK1 K1
                have R11 := hide (RowAt.new wa0 25 #[.int .u64 0, .slice none 0 0])
                have hg11 : wa0.heap.size = wa0.heap.size := rfl
                have G11 := hide HQ.out.size
                replace HQ := hide (HQ.out.trans (hb1.mono HQ.out.size))
                clear hb1 hg11
                (try simp only [Act.put, List.getElem_toArray, List.getElem_cons_succ, List.getElem_cons_zero, List.setIfInBounds_toArray, List.set_cons_zero, List.set_cons_succ])
                obtain ⟨gg, hgg⟩ : ∃ g, wa0.heap.size = g := ⟨_, rfl⟩
                rw [hgg] at R11 G11 ⊢
                generalize wa0.alloc (.cells #[.int .u64 0, .slice none 0 0] 25) = wa1 at *
                clear hgg
                refine wpAnyH_ready (rs := [2]) (by kernel_rfl) (by simp) ?_
                refine (AllReadyH.cons rfl (fun K2 hK2 => ?_) AllReadyH.nil)
                · go_simp
                  refine (HRUN.out _ ((HRD.out.below HQ.out).more HQ.out.size) _).mono ?_
                  rintro x wa2 ⟨A11, c11, rfl, hc11, hcm11, hout, hb2⟩
                  have O11 := hide hout.rd
                  have N11 := hide (fun (hn : 0 < m) (p : Addr) (hp : A11 = some p) => (show p.block ≠ gg by
                    obtain ⟨gs, h1, h2, h3⟩ := hout.own hn
                    rw [hp] at h1
                    injection h1 with h1
                    rw [h1]
                    show gs ≠ gg
                    have := R11.out.lt
                    omega))
                  replace R11 := hide (R11.out.below hb2)
                  refine hK2.out _ _ (HQ.out.trans (hb2.mono HQ.out.size)) (fun _ => ?_)
                  clear hK2 K2 hout
                  replace HQ := hide (HQ.out.trans (hb2.mono HQ.out.size))
                  clear hb2
                  (try simp only [Act.put, List.getElem_toArray, List.getElem_cons_succ, List.getElem_cons_zero, List.setIfInBounds_toArray, List.set_cons_zero, List.set_cons_succ])
                  (refine wpAnyH_take (i := 3) (v := ?_) rfl (by kernel_rfl) (by kernel_rfl) (by kernel_rfl) (fun _ _ _ h => h) (Or.inl ⟨by rfl, ?_⟩) (by exact HQ.out) ?_; rotate_left; (focus (intro w hSw; (try dsimp only at hSw); go_simp; first | done | with_reducible rfl)); (try simp only [Act.put, List.getElem_toArray, List.getElem_cons_succ, List.getElem_cons_zero, List.setIfInBounds_toArray, List.set_cons_zero, List.set_cons_succ]))
                  (refine wpAnyH_take (i := 4) (v := ?_) rfl (by kernel_rfl) (by kernel_rfl) (by kernel_rfl) (fun _ _ _ h => h) (Or.inl ⟨by rfl, ?_⟩) (by exact HQ.out) ?_; rotate_left; (focus (intro w hSw; (try dsimp only at hSw); go_simp; first | done | with_reducible rfl)); (try simp only [Act.put, List.getElem_toArray, List.getElem_cons_succ, List.getElem_cons_zero, List.setIfInBounds_toArray, List.set_cons_zero, List.set_cons_succ]))
                  (refine wpAnyH_take (i := 5) (v := ?_) rfl (by kernel_rfl) (by kernel_rfl) (by kernel_rfl) (fun _ _ _ h => h) (Or.inl ⟨by rfl, ?_⟩) (by exact HQ.out) ?_; rotate_left; (focus (intro w hSw; (try dsimp only at hSw); go_simp; first | done | with_reducible rfl)); (try simp only [Act.put, List.getElem_toArray, List.getElem_cons_succ, List.getElem_cons_zero, List.setIfInBounds_toArray, List.set_cons_zero, List.set_cons_succ]))
                  (refine wpAnyH_take (i := 6) (v := ?_) rfl (by kernel_rfl) (by kernel_rfl) (by kernel_rfl) (fun _ _ _ h => h) (Or.inl ⟨by rfl, ?_⟩) (by exact HQ.out) ?_; rotate_left; (focus (intro w hSw; (try dsimp only at hSw); go_simp; first | done | with_reducible rfl)); (try simp only [Act.put, List.getElem_toArray, List.getElem_cons_succ, List.getElem_cons_zero, List.setIfInBounds_toArray, List.set_cons_zero, List.set_cons_succ]))
                  refine wpAnyH_ready (rs := [8]) (by kernel_rfl) (by simp) ?_
                  refine AllReadyH.cons rfl (fun K hK => ?_) AllReadyH.nil
                  have l11 := R11.out.lt
                  have z11 := row20 R11.out
                  have y11 := row21 R11.out
                  have f11 := R11.out.frozen 0
                  have h11 := R11.out.frozen 1
                  go_simp
                  refine hK.out _ _ ((HQ.out.setCell (p := ⟨gg, 0, none⟩) G11.out _).setCell (p := ⟨gg, 1, none⟩) G11.out _) (fun _ => ?_)
                  clear hK K
                  replace O11 : Hid (Rd ((wa2.setCell ⟨gg, 0, none⟩ (.int .u64 e)).setCell ⟨gg, 1, none⟩ (.slice A11 m c11)) ((wa2.setCell ⟨gg, 0, none⟩ (.int .u64 e)).setCell ⟨gg, 1, none⟩ (.slice A11 m c11)).heap.size 1 A11 m (Cs encW Z)) := hide (by have h := (O11.out.setOff2 (g := gg) N11.out 0 (.int .u64 e)).setOff2 (g := gg) N11.out 1 (.slice A11 m c11); simpa using h)
                  replace R11 : Hid (RowAt ((wa2.setCell ⟨gg, 0, none⟩ (.int .u64 e)).setCell ⟨gg, 1, none⟩ (.slice A11 m c11)) gg 25 #[.int .u64 e, .slice A11 m c11]) := hide (by have h := (R11.out.set 0 (.int .u64 e)).set 1 (.slice A11 m c11); simpa using h)
                  replace HQ := hide ((HQ.out.setCell (p := ⟨gg, 0, none⟩) G11.out (.int .u64 e)).setCell (p := ⟨gg, 1, none⟩) G11.out (.slice A11 m c11))
                  clear l11 z11 y11 f11 h11
                  (try simp only [Act.put, List.getElem_toArray, List.getElem_cons_succ, List.getElem_cons_zero, List.setIfInBounds_toArray, List.set_cons_zero, List.set_cons_succ])
                  (refine wpAnyH_take (i := 9) (v := ?_) rfl (by kernel_rfl) (by kernel_rfl) (by kernel_rfl) (fun _ _ _ h => h) (Or.inl ⟨by rfl, ?_⟩) (by exact HQ.out) ?_; rotate_left; (focus (intro w hSw; (try dsimp only at hSw); go_simp; first | done | with_reducible rfl)); (try simp only [Act.put, List.getElem_toArray, List.getElem_cons_succ, List.getElem_cons_zero, List.setIfInBounds_toArray, List.set_cons_zero, List.set_cons_succ]))
                  (refine wpAnyH_take (i := 10) (v := ?_) rfl (by kernel_rfl) (by kernel_rfl) (by kernel_rfl) (fun _ _ _ h => h) (Or.inl ⟨by rfl, ?_⟩) (by exact HQ.out) ?_; rotate_left; (focus (intro w hSw; (try dsimp only at hSw); go_simp; first | done | with_reducible rfl)); (try simp only [Act.put, List.getElem_toArray, List.getElem_cons_succ, List.getElem_cons_zero, List.setIfInBounds_toArray, List.set_cons_zero, List.set_cons_succ]))
                  refine wpAnyH_done (by kernel_rfl) ?_ _
                  go_wp2_with fail
                  go_meet
                  case rel => exact ⟨gg, A11, c11, rfl, rfl, rfl, R11.out, O11.out, HQ.out⟩
            · go_simp
              have hb0 : Below wd.heap.size wd (wd.alloc (.cells #[.int .u64 0, .slice none 0 0] 25)) := (Below.refl _ _).alloc (Nat.le_refl _) _
              refine hK0.out _ _ (HQ.out.trans (hb0.mono HQ.out.size)) (fun _ => ?_)
              clear hK0 K0
              have R11 := hide (RowAt.new wd 25 #[.int .u64 0, .slice none 0 0])
              have hg11 : wd.heap.size = wd.heap.size := rfl
              have G11 := hide HQ.out.size
              replace HQ := hide (HQ.out.trans (hb0.mono HQ.out.size))
              clear hb0 hg11
              (try simp only [Act.put, List.getElem_toArray, List.getElem_cons_succ, List.getElem_cons_zero, List.setIfInBounds_toArray, List.set_cons_zero, List.set_cons_succ])
              obtain ⟨gg, hgg⟩ : ∃ g, wd.heap.size = g := ⟨_, rfl⟩
              rw [hgg] at R11 G11 ⊢
              generalize wd.alloc (.cells #[.int .u64 0, .slice none 0 0] 25) = wa0 at *
              clear hgg
              refine wpAnyH_ready (rs := [1]) (by kernel_rfl) (by simp) ?_
              refine (AllReadyH.cons rfl (fun K1 hK1 => ?_) AllReadyH.nil)
              · go_simp
                have hb1 : Below wa0.heap.size wa0 (wa0.alloc (.cells #[] 32)) := (Below.refl _ _).alloc (Nat.le_refl _) _
                refine hK1.out _ _ (HQ.out.trans (hb1.mono HQ.out.size)) (fun _ => ?_)
                clear hK1 K1
                replace R11 := hide (R11.out.below hb1)
                replace HQ := hide (HQ.out.trans (hb1.mono HQ.out.size))
                clear hb1
                (try simp only [Act.put, List.getElem_toArray, List.getElem_cons_succ, List.getElem_cons_zero, List.setIfInBounds_toArray, List.set_cons_zero, List.set_cons_succ])
                generalize wa0.alloc (.cells #[] 32) = wa1 at *
                refine wpAnyH_ready (rs := [2]) (by kernel_rfl) (by simp) ?_
                refine (AllReadyH.cons rfl (fun K2 hK2 => ?_) AllReadyH.nil)
                · go_simp
                  refine (HRUN.out _ ((HRD.out.below HQ.out).more HQ.out.size) _).mono ?_
                  rintro x wa2 ⟨A11, c11, rfl, hc11, hcm11, hout, hb2⟩
                  have O11 := hide hout.rd
                  have N11 := hide (fun (hn : 0 < m) (p : Addr) (hp : A11 = some p) => (show p.block ≠ gg by
                    obtain ⟨gs, h1, h2, h3⟩ := hout.own hn
                    rw [hp] at h1
                    injection h1 with h1
                    rw [h1]
                    show gs ≠ gg
                    have := R11.out.lt
                    omega))
                  replace R11 := hide (R11.out.below hb2)
                  refine hK2.out _ _ (HQ.out.trans (hb2.mono HQ.out.size)) (fun _ => ?_)
                  clear hK2 K2 hout
                  replace HQ := hide (HQ.out.trans (hb2.mono HQ.out.size))
                  clear hb2
                  (try simp only [Act.put, List.getElem_toArray, List.getElem_cons_succ, List.getElem_cons_zero, List.setIfInBounds_toArray, List.set_cons_zero, List.set_cons_succ])
                  (refine wpAnyH_take (i := 3) (v := ?_) rfl (by kernel_rfl) (by kernel_rfl) (by kernel_rfl) (fun _ _ _ h => h) (Or.inl ⟨by rfl, ?_⟩) (by exact HQ.out) ?_; rotate_left; (focus (intro w hSw; (try dsimp only at hSw); go_simp; first | done | with_reducible rfl)); (try simp only [Act.put, List.getElem_toArray, List.getElem_cons_succ, List.getElem_cons_zero, List.setIfInBounds_toArray, List.set_cons_zero, List.set_cons_succ]))
                  (refine wpAnyH_take (i := 4) (v := ?_) rfl (by kernel_rfl) (by kernel_rfl) (by kernel_rfl) (fun _ _ _ h => h) (Or.inl ⟨by rfl, ?_⟩) (by exact HQ.out) ?_; rotate_left; (focus (intro w hSw; (try dsimp only at hSw); go_simp; first | done | with_reducible rfl)); (try simp only [Act.put, List.getElem_toArray, List.getElem_cons_succ, List.getElem_cons_zero, List.setIfInBounds_toArray, List.set_cons_zero, List.set_cons_succ]))
                  (refine wpAnyH_take (i := 5) (v := ?_) rfl (by kernel_rfl) (by kernel_rfl) (by kernel_rfl) (fun _ _ _ h => h) (Or.inl ⟨by rfl, ?_⟩) (by exact HQ.out) ?_; rotate_left; (focus (intro w hSw; (try dsimp only at hSw); go_simp; first | done | with_reducible rfl)); (try simp only [Act.put, List.getElem_toArray, List.getElem_cons_succ, List.getElem_cons_zero, List.setIfInBounds_toArray, List.set_cons_zero, List.set_cons_succ]))
                  (refine wpAnyH_take (i := 6) (v := ?_) rfl (by kernel_rfl) (by kernel_rfl) (by kernel_rfl) (fun _ _ _ h => h) (Or.inl ⟨by rfl, ?_⟩) (by exact HQ.out) ?_; rotate_left; (focus (intro w hSw; (try dsimp only at hSw); go_simp; first | done | with_reducible rfl)); (try simp only [Act.put, List.getElem_toArray, List.getElem_cons_succ, List.getElem_cons_zero, List.setIfInBounds_toArray, List.set_cons_zero, List.set_cons_succ]))
                  refine wpAnyH_ready (rs := [8]) (by kernel_rfl) (by simp) ?_
                  refine AllReadyH.cons rfl (fun K hK => ?_) AllReadyH.nil
                  have l11 := R11.out.lt
                  have z11 := row20 R11.out
                  have y11 := row21 R11.out
                  have f11 := R11.out.frozen 0
                  have h11 := R11.out.frozen 1
                  go_simp
                  refine hK.out _ _ ((HQ.out.setCell (p := ⟨gg, 0, none⟩) G11.out _).setCell (p := ⟨gg, 1, none⟩) G11.out _) (fun _ => ?_)
                  clear hK K
                  replace O11 : Hid (Rd ((wa2.setCell ⟨gg, 0, none⟩ (.int .u64 e)).setCell ⟨gg, 1, none⟩ (.slice A11 m c11)) ((wa2.setCell ⟨gg, 0, none⟩ (.int .u64 e)).setCell ⟨gg, 1, none⟩ (.slice A11 m c11)).heap.size 1 A11 m (Cs encW Z)) := hide (by have h := (O11.out.setOff2 (g := gg) N11.out 0 (.int .u64 e)).setOff2 (g := gg) N11.out 1 (.slice A11 m c11); simpa using h)
                  replace R11 : Hid (RowAt ((wa2.setCell ⟨gg, 0, none⟩ (.int .u64 e)).setCell ⟨gg, 1, none⟩ (.slice A11 m c11)) gg 25 #[.int .u64 e, .slice A11 m c11]) := hide (by have h := (R11.out.set 0 (.int .u64 e)).set 1 (.slice A11 m c11); simpa using h)
                  replace HQ := hide ((HQ.out.setCell (p := ⟨gg, 0, none⟩) G11.out (.int .u64 e)).setCell (p := ⟨gg, 1, none⟩) G11.out (.slice A11 m c11))
                  clear l11 z11 y11 f11 h11
                  (try simp only [Act.put, List.getElem_toArray, List.getElem_cons_succ, List.getElem_cons_zero, List.setIfInBounds_toArray, List.set_cons_zero, List.set_cons_succ])
                  (refine wpAnyH_take (i := 9) (v := ?_) rfl (by kernel_rfl) (by kernel_rfl) (by kernel_rfl) (fun _ _ _ h => h) (Or.inl ⟨by rfl, ?_⟩) (by exact HQ.out) ?_; rotate_left; (focus (intro w hSw; (try dsimp only at hSw); go_simp; first | done | with_reducible rfl)); (try simp only [Act.put, List.getElem_toArray, List.getElem_cons_succ, List.getElem_cons_zero, List.setIfInBounds_toArray, List.set_cons_zero, List.set_cons_succ]))
                  (refine wpAnyH_take (i := 10) (v := ?_) rfl (by kernel_rfl) (by kernel_rfl) (by kernel_rfl) (fun _ _ _ h => h) (Or.inl ⟨by rfl, ?_⟩) (by exact HQ.out) ?_; rotate_left; (focus (intro w hSw; (try dsimp only at hSw); go_simp; first | done | with_reducible rfl)); (try simp only [Act.put, List.getElem_toArray, List.getElem_cons_succ, List.getElem_cons_zero, List.setIfInBounds_toArray, List.set_cons_zero, List.set_cons_succ]))
                  refine wpAnyH_done (by kernel_rfl) ?_ _
                  go_wp2_with fail
                  go_meet
                  case rel => exact ⟨gg, A11, c11, rfl, rfl, rfl, R11.out, O11.out, HQ.out⟩
          case rest =>
            rename_i K hK
            refine hK _ _ ?_
            clear hK K
            obtain ⟨w9, hw9⟩ : ∃ w, w = wc := ⟨_, rfl⟩
            subst hw9
            obtain ⟨g11, A11, c11, rfl, rfl, rfl, hr11, ho11, hb⟩ := hcut
            clear qR7_0 qR7_1 lR7
            replace HRD := hide ((HRD.out.below hb).more hb.size)
            replace R7 := hide (R7.out.below hb)
            replace HB := hide (HB.out.trans (hb.mono HB.out.size))
            have R11 := hide hr11
            have O11 := hide ho11
            clear hr11 ho11 hb HRUN
            have qR7_0 := row20 R7.out
            have qR7_1 := row21 R7.out
            have lR7 := R7.out.lt
            have qR11_0 := row20 R11.out
            have qR11_1 := row21 R11.out
            have lR11 := R11.out.lt
            go_wp2_with fail
            clear qR7_0 qR7_1 lR7 qR11_0 qR11_1 lR11
            with_reducible refine (HSAME.out _ A11 c11 O11.out HRD.out).mono ?_
            rintro e w601 ⟨rfl, hb⟩
            replace HRD := hide ((HRD.out.below hb).more hb.size)
            replace O11 := hide ((O11.out.below hb).more hb.size)
            replace R7 := hide (R7.out.below hb)
            replace R11 := hide (R11.out.below hb)
            replace HB := hide (HB.out.trans (hb.mono HB.out.size))
            clear hb HSAME
            have qR7_0 := row20 R7.out
            have qR7_1 := row21 R7.out
            have lR7 := R7.out.lt
            go_wp2_with fail
            clear qR7_0 qR7_1 lR7
            with_reducible refine (HBZ.out _ HRD.out).mono ?_
            rintro e w602 ⟨A12, c12, rfl, hc12, hcm12, hrd, hb⟩
            replace HRD := hide ((HRD.out.below hb).more hb.size)
            replace O11 := hide ((O11.out.below hb).more hb.size)
            replace R7 := hide (R7.out.below hb)
            replace R11 := hide (R11.out.below hb)
            replace HB := hide (HB.out.trans (hb.mono HB.out.size))
            clear hb hrd HBZ
            have qR7_0 := row20 R7.out
            have qR7_1 := row21 R7.out
            have lR7 := R7.out.lt
            go_wp2_with fail
            clear qR7_0 qR7_1 lR7
            with_reducible refine (HDO9.out _ HRD.out _).mono ?_
            rintro e w603 ⟨A13, c13, rfl, hc13, hcm13, hout, hb⟩
            replace HRD := hide ((HRD.out.below hb).more hb.size)
            replace O11 := hide ((O11.out.below hb).more hb.size)
            replace R7 := hide (R7.out.below hb)
            replace R11 := hide (R11.out.below hb)
            replace HB := hide (HB.out.trans (hb.mono HB.out.size))
            clear hb hout HDO9
            by_cases hem : e = 4611686018427387904
            · skip
              have h9 := HE9.out
              rw [if_pos hem] at h9
              have hem2 : (e == 4611686018427387904) = true := by simpa using hem
              clear hem
              subst h9
              have qR7_0 := row20 R7.out
              have qR7_1 := row21 R7.out
              have lR7 := R7.out.lt
              go_wp2_with fail
              clear qR7_0 qR7_1 lR7
              go_ret
              exact ⟨rfl, HB.out⟩
            · skip
              have h9 := HE9.out
              rw [if_neg hem] at h9
              clear hem
              subst h9
              have qR7_0 := row20 R7.out
              have qR7_1 := row21 R7.out
              have lR7 := R7.out.lt
              go_wp2_with fail
              clear qR7_0 qR7_1 lR7
              go_ret
              exact ⟨rfl, HB.out⟩
end Go.Proofs.Ytopaopfebgonjaa
