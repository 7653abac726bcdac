/-
  Arenas: taken, retired, given back (the reference's).
-/
import Derived.Test.YtejhknboiacgeaaArm
set_option linter.unusedSimpArgs false
set_option linter.unusedVariables false
namespace Go.Proofs.Ytejhknboiacgeaa
open Go Go.RowKit
attribute [local go_sem] via_cell via_frozen

/-- The memory of a slice does not lie in block g. -/
def OffB (A : Option Addr) (g : Nat) : Prop := ∀ p, A = some p → p.block ≠ g
theorem Rd.setB {w : World} {B sz n g : Nat} {A : Option Addr} {xs : List Value} (h : Rd w B sz A n xs) (ho : OffB A g) (o : Nat) (u : Value) : Rd (w.setCell ⟨g, o, none⟩ u) B sz A n xs := by
  cases A with
  | none => exact ⟨h.1, fun hn => by obtain ⟨b, off, e, _⟩ := h.2 hn; cases e⟩
  | some p =>
    obtain ⟨g2, o2, sp⟩ := p
    have hne := ho _ rfl
    rcases Nat.eq_zero_or_pos n with h0 | h0
    · exact ⟨h.1, fun hn => absurd hn (by omega)⟩
    · obtain ⟨b, off, e, _, _⟩ := h.2 h0
      injection e with e
      injection e with e1 e2 e3
      subst e1 e2 e3
      exact rd_setCell_ne h (fun e => hne e.symm)

theorem Rd.keepA {w w' : World} {B sz n : Nat} {A : Option Addr} {xs : List Value} (h : Rd w B sz A n xs) (hk : ∀ p, A = some p → p.block < B → w'.heap[p.block]? = w.heap[p.block]?) : Rd w' B sz A n xs :=
  ⟨h.1, fun hn => by
    obtain ⟨b, off, e, hb, hc⟩ := h.2 hn
    refine ⟨b, off, e, hb, fun j u hj => ?_⟩
    rw [← hc j u hj]
    exact cell_of_heap (p := ⟨b, off + j, none⟩) (hk ⟨b, off, none⟩ e hb)⟩

set_option maxHeartbeats 1000000 in
theorem rRetire_any (A : Option Addr) (c n : Nat) (A2 : Option Addr) (c2 m : Nat) (xs l : List (Int × Int)) (W : World) (h : Rd W W.heap.size 2 A n (Cs encE xs)) (hx : xs.length = n) (ho : arOk xs = true) (hr : Rd W W.heap.size 2 A2 m (Cs encE l)) (hl : l.length = m) (hm : m ≤ 4096) (hu : ∀ e ∈ l, U64 e.2)
    (E : Int) (Y : List (Int × Int)) (hE : rtE xs l = E) (hY : rtA xs l = Y) (k : Nat) (hk : Y.length = k) :
    Calls Try.prog 15 #[.agg #[.slice A n c], .slice A2 m c2] W fun e W' => ∃ A' c', e = .returned (.tuple #[.agg #[.slice A' k c'], .int .i64 E]) ∧ Rd W' W'.heap.size 2 A' k (Cs encE Y) ∧ Below W.heap.size W W' := by
  subst hl
  have hn : n ≤ 128 := by have := (arOk_out ho).2.1; omega
  have HE := hide hE
  have HY := hide hY
  have HO := hide ho
  have HU := hide hu
  have HK := hide hk
  clear hE hY ho hu hk
  go_enter Try.func15, Try.ntmps15
  go_wp2_with fail
  obtain ⟨w1, hw1⟩ : ∃ w1, W.alloc (.cells #[.slice A n c] 24) = w1 := ⟨_, rfl⟩
  obtain ⟨w2, hw2⟩ : ∃ w2, w1.alloc (.cells #[.slice none 0 0] 24) = w2 := ⟨_, rfl⟩
  have s1 : w1.heap.size = W.heap.size + 1 := by rw [← hw1]; simp
  have s2 : w2.heap.size = W.heap.size + 1 + 1 := by rw [← hw2]; simp [s1]
  have b1 : Below W.heap.size W w1 := by rw [← hw1]; exact (Below.refl _ _).alloc (Nat.le_refl _) _
  have b2 : Below w1.heap.size w1 w2 := by rw [← hw2]; exact (Below.refl _ _).alloc (Nat.le_refl _) _
  have r1 : RowAt w2 W.heap.size 24 #[.slice A n c] := by have h := RowAt.new W 24 #[.slice A n c]; rw [hw1] at h; exact h.below b2
  have r2 : RowAt w2 (W.heap.size + 1) 24 #[.slice none 0 0] := by have h := RowAt.new w1 24 #[.slice none 0 0]; rw [hw2, s1] at h; exact h
  have hb0 : Below W.heap.size W w2 := b1.trans (b2.mono b1.size)
  rw [hw1, hw2]
  have hoffA : OffB A W.heap.size ∧ OffB A (W.heap.size + 1) := by
    have h2 := (arOk_out HO.out).1
    obtain ⟨b, off, rfl, hb, _⟩ := h.2 (by omega)
    exact ⟨fun p hp => by injection hp with hp; subst hp; show b ≠ _; omega, fun p hp => by injection hp with hp; subst hp; show b ≠ _; omega⟩
  have R1 := hide r1
  have R2 := hide r2
  have HB := hide hb0
  have HD := hide ((h.below hb0).more hb0.size)
  have HF := hide hoffA
  clear hw1 hw2 b1 b2 r1 r2 hb0 s1 hoffA
  go_loopw [10] (fun i wr => ∃ (j : Nat) (ys : List (Int × Int)) (Aj : Option Addr) (cj : Nat), j ≤ l.length ∧ i = .int .i64 j ∧ retS xs (l.take j) = some ys ∧ ys.length = n ∧ RowAt wr W.heap.size 24 #[.slice Aj n cj] ∧ RowAt wr (W.heap.size + 1) 24 #[.slice none 0 0] ∧ Rd wr wr.heap.size 2 Aj n (Cs encE ys) ∧ OffB Aj W.heap.size ∧ OffB Aj (W.heap.size + 1) ∧ Below W.heap.size W wr) (fun i _ => l.length - (intOf i).toNat)
  case atStart => exact ⟨0, xs, A, c, Nat.zero_le _, rfl, by simp [retS], hx, R1.out, R2.out, HD.out, HF.out.1, HF.out.2, HB.out⟩
  case round =>
    obtain ⟨j, ys, Aj, cj, hj, rfl, hret, hyl, hr1, hr2, hrd, hf1, hf2, hbw⟩ := hrel
    have HRT := hide hret
    have R1 := hide hr1
    have R2 := hide hr2
    have HD := hide hrd
    have HF1 := hide hf1
    have HF2 := hide hf2
    have HBW := hide hbw
    have HYL := hide hyl
    have x0 := row1 hr1
    have l1 := hr1.lt
    have l2 := hr2.lt
    clear hret hr1 hr2 hrd hf1 hf2 hbw hyl
    by_cases hlt : j < l.length
    · obtain ⟨b1, o1, rfl, hb1, hc1⟩ := (hr.below HBW.out).elem encE_len hlt
      have hd10 := hc1 0 _ (by omega) rfl
      have hd11 := hc1 1 _ (by omega) rfl
      simp only [Nat.add_zero] at hd10
      have hbl1 : b1 < wr.heap.size := by omega
      have HS := hide (List.take_succ_eq_append_getElem hlt)
      have HSP := hide (take_split l j hlt)
      have HUX := hide (HU.out _ (List.getElem_mem hlt))
      clear hc1
      generalize l[j] = x at *
      obtain ⟨s, g⟩ := x
      dsimp only at hd10 hd11 HUX
      obtain ⟨w1, hw1⟩ : ∃ w1, wr.alloc (.cells #[.int .i64 s, .int .u64 g] 31) = w1 := ⟨_, rfl⟩
      have hb1 : Below wr.heap.size wr w1 := by rw [← hw1]; exact (Below.refl _ _).alloc (Nat.le_refl _) _
      have re : RowAt w1 wr.heap.size 31 #[.int .i64 s, .int .u64 g] := by have h := RowAt.new wr 31 #[.int .i64 s, .int .u64 g]; rw [hw1] at h; exact h
      obtain ⟨q, hq⟩ : ∃ q, meantB ys (s, g) = q := ⟨_, rfl⟩
      have HM := hide (rmeant_any wr.heap.size Aj cj n s g ys w1 (HD.out.below hb1) HYL.out hb1.size (by omega) q hq)
      have HB1 := hide hb1
      have RE := hide re
      have HQ := hide hq
      have x1 := kept hb1 x0
      have z0 := row20 re
      have z1 := row21 re
      have l4 := re.lt
      have l5 : W.heap.size < w1.heap.size := by omega
      clear hb1 re hq
      go_wp2_with fail
      clear hw1 x1 z0 z1 l4 l5
      refine HM.out.mono ?_
      rintro e w3 ⟨rfl, hb3⟩
      have HB3 := hide (HB1.out.trans (hb3.mono HB1.out.size))
      have HBF := hide (HBW.out.trans (HB3.out.mono HBW.out.size))
      have R1 := hide (R1.out.below HB3.out)
      have R2 := hide (R2.out.below HB3.out)
      have RE := hide (RE.out.below hb3)
      have HD := hide ((HD.out.below HB3.out).more HB3.out.size)
      have x0 := row1 R1.out
      have e0 := row20 RE.out
      have e1 := row21 RE.out
      have l1 := R1.out.lt
      have l2 := R2.out.lt
      have l3 := RE.out.lt
      have y0 := row1 R2.out
      have yf := R2.out.frozen 0
      clear hb3 HM
      cases q
      · have HNO : Hid (retS xs l = none) := hide (by
          rw [HSP.out, retS_append, HRT.out]
          simp [retS, HQ.out])
        go_wp2_with fail
        have hr9 : RowAt (w3.setCell ⟨W.heap.size + 1, 0, none⟩ (.slice none 0 0)) (W.heap.size + 1) 24 #[.slice none 0 0] := R2.out.set 0 _
        have hE : E = 4 := by rw [← HE.out]; simp [rtE, HO.out, HNO.out]
        have hY : Y = [] := by rw [← HY.out]; simp [rtA, HO.out, HNO.out]
        subst hE hY
        have hk0 : k = 0 := by rw [← HK.out]; rfl
        subst hk0
        exact bodyPost_ret (v := .tuple #[.agg #[.slice none 0 0], .int .i64 4]) (by simp [results, Try.results15, go_sem, row1 hr9, hr9.lt, y0, l2]) rfl ⟨none, 0, rfl, Rd.none_, HBF.out.setCell (p := ⟨W.heap.size + 1, 0, none⟩) (by simp) _⟩
      · obtain ⟨i, hi, hil, hg⟩ := meantB_out HQ.out
        dsimp only at hi hg
        subst hi
        have hin : i < n := by have := HYL.out; omega
        have hiI : (i : Int) < (n : Int) := by omega
        have hrdY : Rd w3 w3.heap.size 2 Aj ys.length (Cs encE ys) := by rw [HYL.out]; exact HD.out
        obtain ⟨b2, o2, rfl, hb2, hc2⟩ := hrdY.elem encE_len hil
        have hd20 := hc2 0 _ (by omega) rfl
        simp only [Nat.add_zero] at hd20
        have HT := hide (show tagOf ys ((i : Int), g) = ys[i].1 by simp [tagOf, List.getElem?_eq_getElem hil])
        generalize ys[i].1 = t at *
        clear hc2 hrdY hg
        by_cases ht : t = 1
        · subst ht
          have hne : ((1 : Int) != 1) = false := by simp
          have hwi := fun w hw hs => with_any (some ⟨b2, o2, none⟩) cj n (i : Int) 2 g ys w hw HYL.out hs
          have HWI := hide (hwi w3 HD.out (by omega))
          have HRN : Hid (retS xs (l.take (j + 1)) = some (ys.set i (2, g))) := hide (by
            rw [HS.out, retS_append, HRT.out]
            simp [retS, HQ.out, HT.out, put1])
          clear hwi
          go_wp2_with fail
          refine HWI.out.mono ?_
          rintro e w4 ⟨A4, c4, rfl, hc4, hcm4, hrd4, hfr4, hb4⟩
          rw [withL_set] at hrd4
          have R1 := hide (R1.out.below hb4)
          have R2 := hide (R2.out.below hb4)
          have x0 := row1 R1.out
          have xf := R1.out.frozen 0
          have l1 := R1.out.lt
          have HRD4 := hide hrd4
          have HF4 := hide hfr4
          have HB4 := hide (HBF.out.trans (hb4.mono HBF.out.size))
          clear hrd4 hfr4 hb4 hd20
          go_wp2_with fail
          go_roundw
          case rel =>
            have hf1 : OffB A4 W.heap.size := fun p hp => by have := HF4.out p hp; omega
            have hf2 : OffB A4 (W.heap.size + 1) := fun p hp => by have := HF4.out p hp; omega
            exact ⟨j + 1, ys.set i (2, g), A4, c4, by omega, by go_num, HRN.out, by rw [List.length_set, HYL.out], R1.out.set 0 _, R2.out.setNe (by omega), by have := HRD4.out.setB hf1 0 (.slice A4 n c4); simpa using this, hf1, hf2, HB4.out.setCell (p := ⟨W.heap.size, 0, none⟩) (Nat.le_refl _) _⟩
          case measure => simp [intOf]; omega
        · have hne : (t != 1) = true := by simpa using ht
          have HNO : Hid (retS xs l = none) := hide (by
            rw [HSP.out, retS_append, HRT.out]
            simp [retS, HQ.out, HT.out, ht])
          go_wp2_with fail
          have hr9 : RowAt (w3.setCell ⟨W.heap.size + 1, 0, none⟩ (.slice none 0 0)) (W.heap.size + 1) 24 #[.slice none 0 0] := R2.out.set 0 _
          have hE : E = 4 := by rw [← HE.out]; simp [rtE, HO.out, HNO.out]
          have hY : Y = [] := by rw [← HY.out]; simp [rtA, HO.out, HNO.out]
          subst hE hY
          have hk0 : k = 0 := by rw [← HK.out]; rfl
          subst hk0
          exact bodyPost_ret (v := .tuple #[.agg #[.slice none 0 0], .int .i64 4]) (by simp [results, Try.results15, go_sem, row1 hr9, hr9.lt, y0, l2]) rfl ⟨none, 0, rfl, Rd.none_, HBF.out.setCell (p := ⟨W.heap.size + 1, 0, none⟩) (by simp) _⟩
    · obtain rfl : j = l.length := by omega
      have h := HRT.out
      rw [List.take_length] at h
      have hE : E = 0 := by rw [← HE.out]; simp [rtE, HO.out, h]
      have hY : Y = ys := by rw [← HY.out]; simp [rtA, HO.out, h]
      subst hE hY
      have hkn : k = n := by rw [← HK.out, HYL.out]
      subst hkn
      have y0 := row1 R2.out
      have yf := R2.out.frozen 0
      clear h
      go_wp2_with fail
      have hr9 : RowAt (wr.setCell ⟨W.heap.size + 1, 0, none⟩ (.slice Aj k cj)) (W.heap.size + 1) 24 #[.slice Aj k cj] := R2.out.set 0 _
      exact bodyPost_ret (v := .tuple #[.agg #[.slice Aj k cj], .int .i64 0]) (by simp [results, Try.results15, go_sem, row1 hr9, hr9.lt, y0, l2]) rfl ⟨Aj, cj, rfl, by have := HD.out.setB HF2.out 0 (.slice Aj k cj); simpa using this, HBW.out.setCell (p := ⟨W.heap.size + 1, 0, none⟩) (by simp) _⟩

set_option maxHeartbeats 1000000 in
theorem rGive_any (A : Option Addr) (c n : Nat) (A2 : Option Addr) (c2 m : Nat) (xs l : List (Int × Int)) (W : World) (h : Rd W W.heap.size 2 A n (Cs encE xs)) (hx : xs.length = n) (ho : arOk xs = true) (hr : Rd W W.heap.size 2 A2 m (Cs encE l)) (hl : l.length = m) (hm : m ≤ 4096) (hu : ∀ e ∈ l, U64 e.2)
    (E : Int) (Y : List (Int × Int)) (hE : gvE xs l = E) (hY : gvA xs l = Y) (k : Nat) (hk : Y.length = k) :
    Calls Try.prog 16 #[.agg #[.slice A n c], .slice A2 m c2] W fun e W' => ∃ A' c', e = .returned (.tuple #[.agg #[.slice A' k c'], .int .i64 E]) ∧ Rd W' W'.heap.size 2 A' k (Cs encE Y) ∧ Below W.heap.size W W' := by
  subst hl
  have hn : n ≤ 128 := by have := (arOk_out ho).2.1; omega
  have HE := hide hE
  have HY := hide hY
  have HO := hide ho
  have HU := hide hu
  have HK := hide hk
  clear hE hY ho hu hk
  go_enter Try.func16, Try.ntmps16
  go_wp2_with fail
  obtain ⟨w1, hw1⟩ : ∃ w1, W.alloc (.cells #[.slice A n c] 24) = w1 := ⟨_, rfl⟩
  obtain ⟨w2, hw2⟩ : ∃ w2, w1.alloc (.cells #[.slice none 0 0] 24) = w2 := ⟨_, rfl⟩
  have s1 : w1.heap.size = W.heap.size + 1 := by rw [← hw1]; simp
  have s2 : w2.heap.size = W.heap.size + 1 + 1 := by rw [← hw2]; simp [s1]
  have b1 : Below W.heap.size W w1 := by rw [← hw1]; exact (Below.refl _ _).alloc (Nat.le_refl _) _
  have b2 : Below w1.heap.size w1 w2 := by rw [← hw2]; exact (Below.refl _ _).alloc (Nat.le_refl _) _
  have r1 : RowAt w2 W.heap.size 24 #[.slice A n c] := by have h := RowAt.new W 24 #[.slice A n c]; rw [hw1] at h; exact h.below b2
  have r2 : RowAt w2 (W.heap.size + 1) 24 #[.slice none 0 0] := by have h := RowAt.new w1 24 #[.slice none 0 0]; rw [hw2, s1] at h; exact h
  have hb0 : Below W.heap.size W w2 := b1.trans (b2.mono b1.size)
  rw [hw1, hw2]
  have hoffA : OffB A W.heap.size ∧ OffB A (W.heap.size + 1) := by
    have h2 := (arOk_out HO.out).1
    obtain ⟨b, off, rfl, hb, _⟩ := h.2 (by omega)
    exact ⟨fun p hp => by injection hp with hp; subst hp; show b ≠ _; omega, fun p hp => by injection hp with hp; subst hp; show b ≠ _; omega⟩
  have R1 := hide r1
  have R2 := hide r2
  have HB := hide hb0
  have HD := hide ((h.below hb0).more hb0.size)
  have HF := hide hoffA
  clear hw1 hw2 b1 b2 r1 r2 hb0 s1 hoffA
  go_loopw [10] (fun i wr => ∃ (j : Nat) (ys : List (Int × Int)) (Aj : Option Addr) (cj : Nat), j ≤ l.length ∧ i = .int .i64 j ∧ givS xs (l.take j) = .ok ys ∧ ys.length = n ∧ RowAt wr W.heap.size 24 #[.slice Aj n cj] ∧ RowAt wr (W.heap.size + 1) 24 #[.slice none 0 0] ∧ Rd wr wr.heap.size 2 Aj n (Cs encE ys) ∧ OffB Aj W.heap.size ∧ OffB Aj (W.heap.size + 1) ∧ Below W.heap.size W wr) (fun i _ => l.length - (intOf i).toNat)
  case atStart => exact ⟨0, xs, A, c, Nat.zero_le _, rfl, by simp [givS], hx, R1.out, R2.out, HD.out, HF.out.1, HF.out.2, HB.out⟩
  case round =>
    obtain ⟨j, ys, Aj, cj, hj, rfl, hret, hyl, hr1, hr2, hrd, hf1, hf2, hbw⟩ := hrel
    have HRT := hide hret
    have R1 := hide hr1
    have R2 := hide hr2
    have HD := hide hrd
    have HF1 := hide hf1
    have HF2 := hide hf2
    have HBW := hide hbw
    have HYL := hide hyl
    have HOY := hide (arOk_giv _ _ _ HO.out hret)
    have x0 := row1 hr1
    have l1 := hr1.lt
    have l2 := hr2.lt
    clear hret hr1 hr2 hrd hf1 hf2 hbw hyl
    by_cases hlt : j < l.length
    · obtain ⟨b1, o1, rfl, hb1, hc1⟩ := (hr.below HBW.out).elem encE_len hlt
      have hd10 := hc1 0 _ (by omega) rfl
      have hd11 := hc1 1 _ (by omega) rfl
      simp only [Nat.add_zero] at hd10
      have hbl1 : b1 < wr.heap.size := by omega
      have HS := hide (List.take_succ_eq_append_getElem hlt)
      have HSP := hide (take_split l j hlt)
      have HUX := hide (HU.out _ (List.getElem_mem hlt))
      clear hc1
      generalize l[j] = x at *
      obtain ⟨s, g⟩ := x
      dsimp only at hd10 hd11 HUX
      obtain ⟨w1, hw1⟩ : ∃ w1, wr.alloc (.cells #[.int .i64 s, .int .u64 g] 31) = w1 := ⟨_, rfl⟩
      have hb1 : Below wr.heap.size wr w1 := by rw [← hw1]; exact (Below.refl _ _).alloc (Nat.le_refl _) _
      have re : RowAt w1 wr.heap.size 31 #[.int .i64 s, .int .u64 g] := by have h := RowAt.new wr 31 #[.int .i64 s, .int .u64 g]; rw [hw1] at h; exact h
      obtain ⟨q, hq⟩ : ∃ q, meantB ys (s, g) = q := ⟨_, rfl⟩
      have HM := hide (rmeant_any wr.heap.size Aj cj n s g ys w1 (HD.out.below hb1) HYL.out hb1.size (by omega) q hq)
      have HB1 := hide hb1
      have RE := hide re
      have HQ := hide hq
      have x1 := kept hb1 x0
      have z0 := row20 re
      have z1 := row21 re
      have l4 := re.lt
      have l5 : W.heap.size < w1.heap.size := by omega
      clear hb1 re hq
      go_wp2_with fail
      clear hw1 x1 z0 z1 l4 l5
      refine HM.out.mono ?_
      rintro e w3 ⟨rfl, hb3⟩
      have HB3 := hide (HB1.out.trans (hb3.mono HB1.out.size))
      have HBF := hide (HBW.out.trans (HB3.out.mono HBW.out.size))
      have R1 := hide (R1.out.below HB3.out)
      have R2 := hide (R2.out.below HB3.out)
      have RE := hide (RE.out.below hb3)
      have HD := hide ((HD.out.below HB3.out).more HB3.out.size)
      have x0 := row1 R1.out
      have e0 := row20 RE.out
      have e1 := row21 RE.out
      have l1 := R1.out.lt
      have l2 := R2.out.lt
      have l3 := RE.out.lt
      have y0 := row1 R2.out
      have yf := R2.out.frozen 0
      clear hb3 HM
      cases q
      · have HNO : Hid (givS xs l = .error 4) := hide (by
          rw [HSP.out, givS_append, HRT.out]
          simp [givS, HQ.out])
        go_wp2_with fail
        have hr9 : RowAt (w3.setCell ⟨W.heap.size + 1, 0, none⟩ (.slice none 0 0)) (W.heap.size + 1) 24 #[.slice none 0 0] := R2.out.set 0 _
        have hE : E = 4 := by rw [← HE.out]; simp [gvE, HO.out, HNO.out]
        have hY : Y = [] := by rw [← HY.out]; simp [gvA, HO.out, HNO.out]
        subst hE hY
        have hk0 : k = 0 := by rw [← HK.out]; rfl
        subst hk0
        exact bodyPost_ret (v := .tuple #[.agg #[.slice none 0 0], .int .i64 4]) (by simp [results, Try.results16, go_sem, row1 hr9, hr9.lt, y0, l2]) rfl ⟨none, 0, rfl, Rd.none_, HBF.out.setCell (p := ⟨W.heap.size + 1, 0, none⟩) (by simp) _⟩
      · obtain ⟨i, hi, hil, hg⟩ := meantB_out HQ.out
        dsimp only at hi hg
        subst hi
        have hin : i < n := by have := HYL.out; omega
        have hiI : (i : Int) < (n : Int) := by omega
        have hrdY : Rd w3 w3.heap.size 2 Aj ys.length (Cs encE ys) := by rw [HYL.out]; exact HD.out
        obtain ⟨b2, o2, rfl, hb2, hc2⟩ := hrdY.elem encE_len hil
        have hd20 := hc2 0 _ (by omega) rfl
        simp only [Nat.add_zero] at hd20
        have HT := hide (show tagOf ys ((i : Int), g) = ys[i].1 by simp [tagOf, List.getElem?_eq_getElem hil])
        have hok := slabOk_out ((arOk_out HOY.out).2.2 _ (List.getElem_mem hil))
        have hgi : ys[i].2 = g := by rw [← hg, List.getD_eq_getElem?_getD, List.getElem?_eq_getElem hil]; rfl
        rw [hgi] at hok
        have hgm := hok.2.2
        clear hok hgi
        generalize ys[i].1 = t at *
        clear hc2 hrdY hg
        by_cases ht : t = 0
        · subst ht
          have hne : ((0 : Int) == 0) = true := by simp
          have HNO : Hid (givS xs l = .error 4) := hide (by
            rw [HSP.out, givS_append, HRT.out]
            simp [givS, HQ.out, HT.out])
          go_wp2_with fail
          have hr9 : RowAt (w3.setCell ⟨W.heap.size + 1, 0, none⟩ (.slice none 0 0)) (W.heap.size + 1) 24 #[.slice none 0 0] := R2.out.set 0 _
          have hE : E = 4 := by rw [← HE.out]; simp [gvE, HO.out, HNO.out]
          have hY : Y = [] := by rw [← HY.out]; simp [gvA, HO.out, HNO.out]
          subst hE hY
          have hk0 : k = 0 := by rw [← HK.out]; rfl
          subst hk0
          exact bodyPost_ret (v := .tuple #[.agg #[.slice none 0 0], .int .i64 4]) (by simp [results, Try.results16, go_sem, row1 hr9, hr9.lt, y0, l2]) rfl ⟨none, 0, rfl, Rd.none_, HBF.out.setCell (p := ⟨W.heap.size + 1, 0, none⟩) (by simp) _⟩
        · have hne : (t == 0) = false := by simpa using ht
          by_cases hge : g = 1099511627775
          · subst hge
            have hgb : ((1099511627775 : Int) == 1099511627775) = true := by simp
            have HNO : Hid (givS xs l = .error 6) := hide (by
              rw [HSP.out, givS_append, HRT.out]
              simp [givS, HQ.out, HT.out, ht])
            go_wp2_with fail
            have hr9 : RowAt (w3.setCell ⟨W.heap.size + 1, 0, none⟩ (.slice none 0 0)) (W.heap.size + 1) 24 #[.slice none 0 0] := R2.out.set 0 _
            have hE : E = 6 := by rw [← HE.out]; simp [gvE, HO.out, HNO.out]
            have hY : Y = [] := by rw [← HY.out]; simp [gvA, HO.out, HNO.out]
            subst hE hY
            have hk0 : k = 0 := by rw [← HK.out]; rfl
            subst hk0
            exact bodyPost_ret (v := .tuple #[.agg #[.slice none 0 0], .int .i64 6]) (by simp [results, Try.results16, go_sem, row1 hr9, hr9.lt, y0, l2]) rfl ⟨none, 0, rfl, Rd.none_, HBF.out.setCell (p := ⟨W.heap.size + 1, 0, none⟩) (by simp) _⟩
          · have hgb : (g == 1099511627775) = false := by simpa using hge
            have g0 := HUX.out.1
            have g0' : (0 : Int) ≤ g + 1 := by omega
            have g1' : g + 1 < 18446744073709551616 := by omega
            have hglt : g < 1099511627775 := by omega
            have HWI := hide (with_any (some ⟨b2, o2, none⟩) cj n (i : Int) 0 (g + 1) ys w3 HD.out HYL.out (by omega))
            have HRN : Hid (givS xs (l.take (j + 1)) = .ok (ys.set i (0, g + 1))) := hide (by
              rw [HS.out, givS_append, HRT.out]
              simp [givS, HQ.out, HT.out, ht, hglt])
            clear hge ht
            go_wp2_with fail
            refine HWI.out.mono ?_
            rintro e w4 ⟨A4, c4, rfl, hc4, hcm4, hrd4, hfr4, hb4⟩
            rw [withL_set] at hrd4
            have R1 := hide (R1.out.below hb4)
            have R2 := hide (R2.out.below hb4)
            have x0 := row1 R1.out
            have xf := R1.out.frozen 0
            have l1 := R1.out.lt
            have HRD4 := hide hrd4
            have HF4 := hide hfr4
            have HB4 := hide (HBF.out.trans (hb4.mono HBF.out.size))
            clear hrd4 hfr4 hb4 hd20
            go_wp2_with fail
            go_roundw
            case rel =>
              have hf1 : OffB A4 W.heap.size := fun p hp => by have := HF4.out p hp; omega
              have hf2 : OffB A4 (W.heap.size + 1) := fun p hp => by have := HF4.out p hp; omega
              exact ⟨j + 1, ys.set i (0, g + 1), A4, c4, by omega, by go_num, HRN.out, by rw [List.length_set, HYL.out], R1.out.set 0 _, R2.out.setNe (by omega), by have := HRD4.out.setB hf1 0 (.slice A4 n c4); simpa using this, hf1, hf2, HB4.out.setCell (p := ⟨W.heap.size, 0, none⟩) (Nat.le_refl _) _⟩
            case measure => simp [intOf]; omega
    · obtain rfl : j = l.length := by omega
      have h := HRT.out
      rw [List.take_length] at h
      have hE : E = 0 := by rw [← HE.out]; simp [gvE, HO.out, h]
      have hY : Y = ys := by rw [← HY.out]; simp [gvA, HO.out, h]
      subst hE hY
      have hkn : k = n := by rw [← HK.out, HYL.out]
      subst hkn
      have y0 := row1 R2.out
      have yf := R2.out.frozen 0
      clear h
      go_wp2_with fail
      have hr9 : RowAt (wr.setCell ⟨W.heap.size + 1, 0, none⟩ (.slice Aj k cj)) (W.heap.size + 1) 24 #[.slice Aj k cj] := R2.out.set 0 _
      exact bodyPost_ret (v := .tuple #[.agg #[.slice Aj k cj], .int .i64 0]) (by simp [results, Try.results16, go_sem, row1 hr9, hr9.lt, y0, l2]) rfl ⟨Aj, cj, rfl, by have := HD.out.setB HF2.out 0 (.slice Aj k cj); simpa using this, HBW.out.setCell (p := ⟨W.heap.size + 1, 0, none⟩) (by simp) _⟩

def RTk (W : World) (E : Int) (Y L : List (Int × Int)) (k m : Nat) (e : Ending) (W' : World) : Prop :=
  ∃ A' c' A2 c2, e = .returned (.tuple #[.agg #[.slice A' k c'], .slice A2 m c2, .int .i64 E]) ∧ Rd W' W'.heap.size 2 A' k (Cs encE Y) ∧ Rd W' W'.heap.size 2 A2 m (Cs encE L) ∧ Below W.heap.size W W'
set_option maxHeartbeats 1000000 in
theorem rTake_any (A : Option Addr) (c n : Nat) (many : Int) (xs : List (Int × Int)) (W : World) (h : Rd W W.heap.size 2 A n (Cs encE xs)) (hx : xs.length = n) (ho : arOk xs = true)
    (E : Int) (Y L : List (Int × Int)) (hE : tkE xs many = E) (hY : tkA xs many = Y) (hL : tkL xs many = L) (k m : Nat) (hk : Y.length = k) (hm : L.length = m) :
    Calls Try.prog 14 #[.agg #[.slice A n c], .int .i64 many] W (RTk W E Y L k m) := by
  have hn : n ≤ 128 := by have := (arOk_out ho).2.1; omega
  have HE := hide hE
  have HY := hide hY
  have HL := hide hL
  have HO := hide ho
  have HK := hide hk
  have HMM := hide hm
  have HXX := hide hx
  clear hE hY hL hk hm
  have hbad : ∀ E', E = E' → E' ≠ 0 → Y = [] ∧ L = [] ∧ k = 0 ∧ m = 0 := fun E' h1 h2 => by
    subst h1
    have h3 : Y = [] := by rw [← HY.out]; simp [tkA, HE.out, h2]
    have h4 : L = [] := by rw [← HL.out]; simp [tkL, HE.out, h2]
    refine ⟨h3, h4, ?_, ?_⟩
    · rw [← HK.out, h3]; rfl
    · rw [← HMM.out, h4]; rfl
  have HBAD := hide hbad
  clear hbad
  by_cases hneg : many < 0
  · have hE4 : E = 2 := by rw [← HE.out]; simp [tkE, HO.out, hneg]
    obtain ⟨rfl, rfl, rfl, rfl⟩ := HBAD.out 2 hE4 (by omega)
    subst hE4
    go_enter Try.func14, Try.ntmps14
    go_wp2_with fail
    refine bodyPost_ret (v := .tuple #[.agg #[.slice none 0 0], .slice none 0 0, .int .i64 2]) (by simp [results, Try.results14, go_sem]) rfl ⟨none, 0, none, 0, rfl, Rd.none_, Rd.none_, ?_⟩
    exact ((Below.refl _ _).alloc (Nat.le_refl _) _).alloc (by simp) _
  · have hneg' : decide (many < 0) = false := by simp; omega
    obtain ⟨M, rfl⟩ := Int.eq_ofNat_of_zero_le (show 0 ≤ many by omega)
    clear hneg
    go_enter Try.func14, Try.ntmps14
    go_wp2_with fail
    obtain ⟨w1, hw1⟩ : ∃ w1, W.alloc (.cells #[.slice A n c] 24) = w1 := ⟨_, rfl⟩
    obtain ⟨w2, hw2⟩ : ∃ w2, w1.alloc (.cells #[.slice none 0 0] 24) = w2 := ⟨_, rfl⟩
    have s1 : w1.heap.size = W.heap.size + 1 := by rw [← hw1]; simp
    have s2 : w2.heap.size = W.heap.size + 1 + 1 := by rw [← hw2]; simp [s1]
    have b1 : Below W.heap.size W w1 := by rw [← hw1]; exact (Below.refl _ _).alloc (Nat.le_refl _) _
    have b2 : Below w1.heap.size w1 w2 := by rw [← hw2]; exact (Below.refl _ _).alloc (Nat.le_refl _) _
    have r1 : RowAt w2 W.heap.size 24 #[.slice A n c] := by have h := RowAt.new W 24 #[.slice A n c]; rw [hw1] at h; exact h.below b2
    have r2 : RowAt w2 (W.heap.size + 1) 24 #[.slice none 0 0] := by have h := RowAt.new w1 24 #[.slice none 0 0]; rw [hw2, s1] at h; exact h
    have hb0 : Below W.heap.size W w2 := b1.trans (b2.mono b1.size)
    rw [hw1, hw2]
    have hoffA : OffB A W.heap.size ∧ OffB A (W.heap.size + 1) := by
      have h2 := (arOk_out HO.out).1
      obtain ⟨b, off, rfl, hb, _⟩ := h.2 (by omega)
      exact ⟨fun p hp => by injection hp with hp; subst hp; show b ≠ _; omega, fun p hp => by injection hp with hp; subst hp; show b ≠ _; omega⟩
    have HEN := hide (rents_any A c n 0 xs w2 ((h.below hb0).more hb0.size) hx (by omega))
    have R1 := hide r1
    have R2 := hide r2
    have HB := hide hb0
    have HD := hide ((h.below hb0).more hb0.size)
    have HF := hide hoffA
    clear hw1 hw2 b1 b2 r1 r2 hb0 s1 hoffA h hx
    refine HEN.out.mono ?_
    rintro e w3 ⟨Al, cl, rfl, hcl, hclm, hrdl, hfrl, hb3⟩
    have R1 := hide (R1.out.below hb3)
    have R2 := hide (R2.out.below hb3)
    have HB := hide (HB.out.trans (hb3.mono HB.out.size))
    have HD := hide ((HD.out.below hb3).more hb3.size)
    have HRL := hide hrdl
    have HFL := hide hfrl
    have l1 := R1.out.lt
    have l2 := R2.out.lt
    obtain ⟨ls, hls⟩ : ∃ ls, ents xs 0 = ls := ⟨_, rfl⟩
    have hlx := ents_length xs 0
    have hxl := HXX.out
    rw [hls] at HRL hcl hlx ⊢
    have HLS := hide hls
    clear hb3 hrdl hfrl HEN hls
    by_cases hgt : ls.length < M
    · have hgI : (ls.length : Int) < (M : Int) := by omega
      have hE4 : E = 6 := by rw [← HE.out]; simp [tkE, HO.out, HLS.out]; omega
      obtain ⟨rfl, rfl, rfl, rfl⟩ := HBAD.out 6 hE4 (by omega)
      subst hE4
      have y0 := row1 R2.out
      have yf := R2.out.frozen 0
      go_wp2_with fail
      have hr9 : RowAt (w3.setCell ⟨W.heap.size + 1, 0, none⟩ (.slice none 0 0)) (W.heap.size + 1) 24 #[.slice none 0 0] := R2.out.set 0 _
      exact bodyPost_ret (v := .tuple #[.agg #[.slice none 0 0], .slice none 0 0, .int .i64 6]) (by simp [results, Try.results14, go_sem, row1 hr9, hr9.lt, y0, l2]) rfl ⟨none, 0, none, 0, rfl, Rd.none_, Rd.none_, HB.out.setCell (p := ⟨W.heap.size + 1, 0, none⟩) (by simp) _⟩
    · have hgI : decide ((ls.length : Int) < (M : Int)) = false := by simp; omega
      have hE0 : E = 0 := by
        rw [← HE.out]; simp only [tkE, HO.out, HLS.out, if_true]; rw [if_neg (by omega), if_neg (by omega)]
      subst hE0
      have HYM : Hid (Y = tk xs M) := hide (by rw [← HY.out]; simp [tkA, HE.out])
      have HLM : Hid (L = ls.take M) := hide (by rw [← HL.out]; simp [tkL, HE.out, HLS.out])
      have hMl : M ≤ ls.length := by omega
      have hMc : (M : Int) ≤ (cl : Int) := by omega
      have hclI : (cl : Int) ≤ 9223372036854775807 := by omega
      have hlI : (ls.length : Int) ≤ (cl : Int) := by omega
      have HRM : Hid (Rd w3 w3.heap.size 2 Al M (Cs encE (ls.take M))) := hide (by
        have h := HRL.out.take hMl
        rw [← Cs_take encE_len] at h
        exact h)
      have hlm : (ls.take M).length = M := by rw [List.length_take]; omega
      go_wp2_with fail
      go_loopw [24] (fun i wr => ∃ (j : Nat) (Aj : Option Addr) (cj : Nat), j ≤ M ∧ i = .int .i64 j ∧ RowAt wr W.heap.size 24 #[.slice Aj n cj] ∧ Rd wr wr.heap.size 2 Aj n (Cs encE (tk xs j)) ∧ OffB Aj W.heap.size ∧ OffB Aj (W.heap.size + 1) ∧ Past W.heap.size w3 wr) (fun i _ => M - (intOf i).toNat)
      case atStart => exact ⟨0, A, c, Nat.zero_le _, rfl, R1.out, by simpa [tk] using HD.out, HF.out.1, HF.out.2, Past.refl _ _⟩
      case round =>
        obtain ⟨j, Aj, cj, hj, rfl, hr1, hrd, hf1, hf2, hpw⟩ := hrel
        have R1 := hide hr1
        have HD := hide hrd
        have HF1 := hide hf1
        have HF2 := hide hf2
        have HPW := hide hpw
        have hpsz := hpw.size
        have x0 := row1 hr1
        have xf := hr1.frozen 0
        have l1 := hr1.lt
        have hrl : Rd wr wr.heap.size 2 Al (ls.take M).length (Cs encE (ls.take M)) := by
          rw [hlm]
          refine Rd.more (HRM.out.keepA (fun p hAl hpB => ?_)) hpsz
          have := HFL.out p hAl
          exact hpw.block _ (by omega) hpB
        clear hr1 hrd hf1 hf2 hpw
        by_cases hlt : j < M
        · have hjl : j < (ls.take M).length := by rw [hlm]; exact hlt
          have hjl2 : j < (ents xs 0).length := by rw [HLS.out]; omega
          obtain ⟨b1, o1, rfl, hb1, hc1⟩ := hrl.elem encE_len hjl
          have hd10 := hc1 0 _ (by omega) rfl
          have hd11 := hc1 1 _ (by omega) rfl
          simp only [Nat.add_zero] at hd10
          have hx1 : (ls.take M)[j] = (ents xs 0)[j] := by
            rw [List.getElem_take]; congr 1; exact HLS.out.symm
          rw [hx1] at hd10 hd11
          have HS := hide (tk_succ xs j hjl2)
          have hmem := ents_mem (List.getElem_mem hjl2)
          generalize (ents xs 0)[j] = x at *
          obtain ⟨s, g⟩ := x
          dsimp only at hd10 hd11 hmem
          obtain ⟨i, rfl⟩ := Int.eq_ofNat_of_zero_le hmem.1
          have hbn : Below wr.heap.size wr (wr.alloc (.cells #[.int .i64 (i : Int), .int .u64 g] 31)) := (Below.refl _ _).alloc (Nat.le_refl _) _
          have HWI := hide (with_any Aj cj n (i : Int) 1 g (tk xs j) _ ((HD.out.below hbn).more hbn.size) (by rw [tk_length]; exact HXX.out) (by omega))
          have HBN := hide hbn
          clear hc1 hx1 hmem hbn hrl hjl hjl2
          go_wp2_with fail
          refine HWI.out.mono ?_
          rintro e w4 ⟨A4, c4, rfl, hc4, hcm4, hrd4, hfr4, hb4⟩
          rw [withL_set] at hrd4
          have HB4 := hide (HBN.out.trans (hb4.mono HBN.out.size))
          have R1 := hide (R1.out.below HB4.out)
          have x0 := row1 R1.out
          have xf := R1.out.frozen 0
          have l1 := R1.out.lt
          have HRD4 := hide hrd4
          have HF4 := hide hfr4
          clear hrd4 hfr4 hb4 hd10 hd11
          go_wp2_with fail
          go_roundw
          case rel =>
            have hf1 : OffB A4 W.heap.size := fun p hp => by have := HF4.out p hp; have : (wr.alloc (.cells #[.int .i64 (i : Int), .int .u64 g] 31)).heap.size = wr.heap.size + 1 := (by simp); omega
            have hf2 : OffB A4 (W.heap.size + 1) := fun p hp => by have := HF4.out p hp; have : (wr.alloc (.cells #[.int .i64 (i : Int), .int .u64 g] 31)).heap.size = wr.heap.size + 1 := (by simp); omega
            refine ⟨j + 1, A4, c4, by omega, by go_num, R1.out.set 0 _, ?_, hf1, hf2, (HPW.out.trans (Past.of_below (by omega) HB4.out)).trans (Past.set _ _)⟩
            have h := HRD4.out.setB hf1 0 (.slice A4 n c4)
            rw [HS.out]
            simpa [put1] using h
          case measure => simp [intOf]; omega
        · obtain rfl : j = M := by omega
          have R2 := hide (show RowAt wr (W.heap.size + 1) 24 #[.slice none 0 0] from (HPW.out.block (W.heap.size + 1) (by omega) (by omega)).trans R2.out)
          have y0 := row1 R2.out
          have yf := R2.out.frozen 0
          have l2 : W.heap.size + 1 < wr.heap.size := by omega
          have HRL := hide hrl
          clear hrl
          go_wp2_with fail
          go_region
          go_wp2_with fail
          have hr9 : RowAt ((wr.setCell ⟨W.heap.size + 1, 0, none⟩ (.slice Aj n cj)).drew) (W.heap.size + 1) 24 #[.slice Aj n cj] := RowAt.set R2.out 0 _
          have hkn : k = n := by rw [← HK.out, HYM.out, tk_length, HXX.out]
          have hmn : m = j := by rw [← HMM.out, HLM.out, hlm]
          subst hkn hmn
          refine bodyPost_ret (v := .tuple #[.agg #[.slice Aj k cj], .slice Al m cl, .int .i64 0]) (by simp [results, Try.results14, go_sem, row1 hr9, hr9.lt, y0, l2]) rfl ⟨Aj, cj, Al, cl, rfl, ?_, ?_, ?_⟩
          · rw [HYM.out]
            have := (HD.out.setB HF2.out 0 (.slice Aj k cj)).drew
            simpa using this
          · rw [HLM.out]
            have h := HRL.out
            rw [hlm] at h
            have h2 := h.setB (g := W.heap.size + 1) (fun p hp => by have := HFL.out p hp; omega) 0 (.slice Aj k cj)
            simpa using h2.drew
          · have hP : Below W.heap.size W wr := HB.out.trans HPW.out.below
            exact (hP.setCell (p := ⟨W.heap.size + 1, 0, none⟩) (by simp) _).drew
end Go.Proofs.Ytejhknboiacgeaa
