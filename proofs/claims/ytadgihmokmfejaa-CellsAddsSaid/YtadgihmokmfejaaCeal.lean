/-
  CellsAlike, walked: it answers true.
-/
import Derived.Test.YtadgihmokmfejaaCesh
import Derived.Test.YtadgihmokmfejaaCebk
set_option linter.unusedSimpArgs false
set_option linter.unusedVariables false
namespace Go.Proofs.Ytadgihmokmfejaa
open Go Go.RowKit
attribute [local go_sem] via_cell via_frozen

theorem runS_get (w : List Int) (l : List Acc) (j : Nat) (a : Acc) (h : l[j]? = some a) : (runS w l)[j]? = some (doS (runX w (l.take j)) a) := by
  induction l generalizing w j with
  | nil => simp at h
  | cons b l ih =>
    cases j with
    | zero => simp at h; subst h; rfl
    | succ j => simp only [runS, List.getElem?_cons_succ, List.take_succ_cons]; exact ih _ j (by simpa using h)
theorem Rd.seen2 {w : World} {B n : Nat} {A : Option Addr} {X : List (Int × Bool)} (h : Rd w B 2 A n (Cs encS X)) {k : Nat} {q : Int} {d : Bool} (hk : X[k]? = some (q, d)) (hx : X.length = n) :
    ∃ b off, A = some ⟨b, off, none⟩ ∧ b < B ∧ k < n ∧ w.cell? ⟨b, off + k * 2, none⟩ = some (.int .u64 q) ∧ w.cell? ⟨b, off + k * 2 + 1, none⟩ = some (.bool d) := by
  subst hx
  obtain ⟨hl, he⟩ := List.getElem?_eq_some_iff.1 hk
  obtain ⟨b, off, h1, h2, h3⟩ := h.elem encS_len hl
  refine ⟨b, off, h1, h2, hl, ?_, ?_⟩
  · have := h3 0 _ (by omega) rfl
    rw [he] at this
    simpa using this
  · have := h3 1 _ (by omega) rfl
    rw [he] at this
    exact this
def AlAt (w1 : World) (gs ga m : Nat) (X : List Int) (L : List Acc) (j : Nat) (wr : World) : Prop := (∀ a ∈ L.take j, why m a = 0) ∧ ShP wr gs ga m (runX X (L.take j)) ∧ Below w1.heap.size w1 wr
theorem AlAt.next {w1 w' : World} {gs ga m j : Nat} {X : List Int} {L : List Acc} {a : Acc} (h : ∀ a ∈ L.take j, why m a = 0) (hj : L[j]? = some a) (hw : why m a = 0) (hs : ShP w' gs ga m (doX (runX X (L.take j)) a)) (hb : Below w1.heap.size w1 w') : AlAt w1 gs ga m X L (j + 1) w' := by
  obtain ⟨hjl, hja⟩ := List.getElem?_eq_some_iff.1 hj
  have ht : L.take (j + 1) = L.take j ++ [a] := by rw [List.take_succ_eq_append_getElem hjl, hja]
  unfold AlAt
  rw [ht, runX_snoc]
  refine ⟨fun b hb => ?_, hs, hb⟩
  rw [List.mem_append] at hb
  rcases hb with hb | hb
  · exact h b hb
  · simp at hb; subst hb; exact hw

set_option maxRecDepth 100000 in
set_option maxHeartbeats 8000000 in
theorem Alike_walk (A0 : Option Addr) (c0 n0 : Nat) (A1 : Option Addr) (c1 n1 : Nat) (X : List Int) (l : List Acc) (W : World)
    (hr0 : Rd W W.heap.size 1 A0 n0 (Cs encW X)) (hr1 : Rd W W.heap.size 5 A1 n1 (Cs encA l)) (hx0 : X.length = n0) (hx1 : l.length = n1) (hu0 : ∀ x ∈ X, U64 x) (hu1 : ∀ a ∈ l, U64 a.2.2.2.2)
    (hn0 : n0 ≤ c0) (hn1 : n1 ≤ c1) (hm0 : c0 ≤ 9223372036854775807) (hm1 : c1 ≤ 9223372036854775807) :
    Calls Try.prog 5 #[.slice A0 n0 c0, .slice A1 n1 c1] W fun e W' => e = .returned (.bool true) ∧ Below W.heap.size W W' := by
  have HB := hide (Below.refl W.heap.size W)
  obtain ⟨m, hm⟩ : ∃ m, min n0 40 = m := ⟨_, rfl⟩
  obtain ⟨k1, hk1⟩ : ∃ m, min n1 40 = m := ⟨_, rfl⟩
  have hkI1 : min (n1 : Int) 40 = (k1 : Int) := by omega
  have hk11 : k1 ≤ n1 := by omega
  have hk1c : (k1 : Int) ≤ (c1 : Int) := by omega
  have hc1I : (c1 : Int) ≤ 9223372036854775807 := by omega
  have hn1I : (n1 : Int) ≤ 9223372036854775807 := by omega
  have hk1b : k1 ≤ 40 := by omega
  have hmb : m ≤ 40 := by omega
  have hX40 : (X.take m).length = m := by rw [List.length_take]; omega
  obtain ⟨L, hL⟩ : ∃ x, l.take k1 = x := ⟨_, rfl⟩
  have hLl : L.length = k1 := by rw [← hL, List.length_take]; omega
  have HAT : Hid (Rd W W.heap.size 5 A1 k1 (Cs encA L)) := hide (by
    have h := hr1.take hk11
    rw [← Cs_take encA_len, hL] at h; exact h)
  have HX0 := hide hr0
  have HHX := hide hx0
  have HHM := hide hm
  obtain ⟨X4, hX4⟩ : ∃ x, X.take m = x := ⟨_, rfl⟩
  have HX4 := hide hX4
  rw [hX4] at hX40
  have HHX40 := hide hX40
  have HHL := hide hLl
  obtain ⟨er, her⟩ : ∃ e, runE m L = e := ⟨_, rfl⟩
  obtain ⟨Yv, hYv⟩ : ∃ x, runV X4 L = x := ⟨_, rfl⟩
  obtain ⟨Sv, hSv⟩ : ∃ x, runSV X4 L = x := ⟨_, rfl⟩
  obtain ⟨Mv, hMv⟩ : ∃ x, runMV X4 L = x := ⟨_, rfl⟩
  obtain ⟨kY, hkY⟩ : ∃ x, Yv.length = x := ⟨_, rfl⟩
  obtain ⟨kS, hkS⟩ : ∃ x, Sv.length = x := ⟨_, rfl⟩
  obtain ⟨kM, hkM⟩ : ∃ x, Mv.length = x := ⟨_, rfl⟩
  have HER := hide her
  have HYV := hide hYv
  have HSV := hide hSv
  have HMV := hide hMv
  have HKY := hide hkY
  have HKS := hide hkS
  have HKM := hide hkM
  clear her hYv hSv hMv hkY hkS hkM hr0 hr1 hx0 hx1 hk1 hX40 hL hLl hX4 hu0 hu1 hm
  go_enter Try.func5, Try.ntmps5
  go_wp2_with fail
  with_reducible refine (wakes_any _).mono ?_
  rintro e w1 ⟨rfl, hb⟩
  replace HX0 := hide ((HX0.out.below hb).more hb.size)
  replace HAT := hide ((HAT.out.below hb).more hb.size)
  replace HB := hide (HB.out.trans (hb.mono HB.out.size))
  clear hb
  go_wp2_with fail
  with_reducible refine (few_any A0 c0 n0 X _ HX0.out HHX.out hn0 hm0 m HHM.out).mono ?_
  rintro e w2 ⟨v, rfl, hown, hb⟩
  replace HX0 := hide ((HX0.out.below hb).more hb.size)
  replace HAT := hide ((HAT.out.below hb).more hb.size)
  replace HB := hide (HB.out.trans (hb.mono HB.out.size))
  clear hb
  rw [HX4.out] at hown
  obtain ⟨Aw, cAw, rfl, hcAw, hcmAw⟩ := own_form2 hown
  have HW := hide (Rd.of_own hown)
  clear hown
  clear HX0
  go_wp2_with fail
  with_reducible refine (prun_u Aw A1 cAw m c1 k1 X4 L _ HW.out HHX40.out (by omega) HAT.out HHL.out (by omega) er Yv Sv Mv kY kS kM HER.out HYV.out HSV.out HMV.out HKY.out HKS.out HKM.out).mono ?_
  rintro e w3 ⟨B1, d1, B2, d2, B3, d3, rfl, hd1, hry, hrs, hrm, hb⟩
  replace HAT := hide ((HAT.out.below hb).more hb.size)
  replace HW := hide ((HW.out.below hb).more hb.size)
  replace HB := hide (HB.out.trans (hb.mono HB.out.size))
  have HRY := hide (hry)
  have HRS := hide (hrs)
  clear hb hry hrs hrm
  by_cases hmz : m < 1
  · obtain rfl : m = 0 := by omega
    have he120 : er = 120 := by rw [← HER.out]; exact runE_out (.inl (by omega)) L
    subst he120
    go_wp2_with fail
    with_reducible refine (share_zero Aw cAw _).mono ?_
    rintro e w4 ⟨rfl, rfl⟩
    go_wp2_with fail
    go_ret
    exact ⟨rfl, HB.out⟩
  · have HB1 := hide (Below.refl w3.heap.size w3)
    go_wp2_with fail
    with_reducible refine (share_any Aw cAw m X4 _ HW.out HHX40.out (by omega) (by omega)).mono ?_
    rintro e w4 ⟨gs, ga, rfl, hsh, hgs, hga, hb⟩
    replace HB1 := hide (HB1.out.trans (hb.mono HB1.out.size))
    have HSh := hide (hsh)
    have HGS := hide (hgs)
    have HGA := hide (hga)
    clear hb hsh hgs hga
    go_wp2_with fail
    go_loopw [49] (fun i wr => ∃ j : Nat, j ≤ k1 ∧ i = .int .i64 j ∧ AlAt w3 gs ga m X4 L j wr) (fun i _ => k1 - (intOf i).toNat)
    case atStart => exact ⟨0, Nat.zero_le _, rfl, by simp, HSh.out, HB1.out⟩
    case round =>
      obtain ⟨j, hj, rfl, hwhy, hsh, hbw⟩ := hrel
      have HWHY := hide hwhy
      replace HSh := hide hsh
      replace HB1 := hide hbw
      clear hwhy hsh hbw
      by_cases hlt : j < k1
      · obtain ⟨b, o, hAl, hb, wh, kd, at_, ol, nw, ha, d0, d1, d2, d3, d4⟩ := ((HAT.out.below HB1.out).acc HHL.out hlt)
        have HATx := HAT
        subst hAl
        have hjn : (j : Int) < (k1 : Int) := by omega
        have hbl : b < wr.heap.size := Nat.lt_of_lt_of_le hb HB1.out.size
        have HA := hide ha
        obtain ⟨r, hr⟩ : ∃ r, why m (wh, kd, at_, ol, nw) = r := ⟨_, rfl⟩
        have HR := hide hr
        obtain ⟨Xj, hXj⟩ : ∃ x, runX X4 (L.take j) = x := ⟨_, rfl⟩
        have HXJ := hide hXj
        rw [hXj] at HSh
        clear ha hr hb hXj
        go_wp2_with fail
        clear d0 d1 d2 d3 d4 hbl
        obtain ⟨b0, hb0⟩ : ∃ g, wr.heap.size = g := ⟨_, rfl⟩
        have hWb0 : w3.heap.size ≤ b0 := by rw [← hb0]; exact HB1.out.size
        have hbx : Below wr.heap.size wr (wr.alloc (.cells #[.int .i64 wh, .int .i64 kd, .int .i64 at_, .int .u64 ol, .int .u64 nw] 37)) := (Below.refl _ _).alloc (Nat.le_refl _) _
        have hrx := RowAt.new wr 37 #[.int .i64 wh, .int .i64 kd, .int .i64 at_, .int .u64 ol, .int .u64 nw]
        rw [hb0] at hrx
        replace HSh := hide (HSh.out.below hbx)
        replace HB1 := hide (HB1.out.trans (hbx.mono HB1.out.size))
        have hs6 : (wr.alloc (.cells #[.int .i64 wh, .int .i64 kd, .int .i64 at_, .int .u64 ol, .int .u64 nw] 37)).heap.size = b0 + 1 := by rw [World.size_alloc, hb0]
        have RA := hide hrx
        clear hbx hrx
        generalize wr.alloc (.cells #[.int .i64 wh, .int .i64 kd, .int .i64 at_, .int .u64 ol, .int .u64 nw] 37) = w7 at *
        (try rw [hb0])
        clear hb0 hs6
        clear RA
        by_cases hr0 : r = 0
        · subst hr0
          obtain ⟨n1', n2', k1', k4', _, _, hk0, hkn⟩ := why_ok HR.out
          obtain ⟨k, rfl⟩ : ∃ k : Nat, at_ = k := ⟨at_.toNat, by omega⟩
          have hkn' : k < m := by omega
          obtain ⟨Y2, hY2⟩ : ∃ y, doX Xj (wh, kd, (k : Int), ol, nw) = y := ⟨_, rfl⟩
          obtain ⟨⟨q, d⟩, hs⟩ : ∃ s : Int × Bool, doS Xj (wh, kd, (k : Int), ol, nw) = s := ⟨_, rfl⟩
          have HY2 := hide hY2
          have HS2 := hide hs
          clear hY2 hs hk0
          with_reducible refine (sdo_ok gs ga m Xj wh kd k ol nw _ HSh.out HR.out Y2 HY2.out q d HS2.out).mono ?_
          rintro e w8 ⟨rfl, hsh, hp⟩
          dsimp only
          replace HB1 := hide (HB1.out.trans (hp.below.mono HGA.out))
          replace HSh := hide hsh
          clear hsh hp
          go_wp2_with fail
          obtain ⟨g1, hg1⟩ : ∃ g, w8.heap.size = g := ⟨_, rfl⟩
          have hWg1 : w3.heap.size ≤ g1 := by rw [← hg1]; exact HB1.out.size
          have hbx : Below w8.heap.size w8 (w8.alloc (.cells #[.int .u64 q, .bool d] 33)) := (Below.refl _ _).alloc (Nat.le_refl _) _
          have hrx := RowAt.new w8 33 #[.int .u64 q, .bool d]
          rw [hg1] at hrx
          replace HSh := hide (HSh.out.below hbx)
          replace HB1 := hide (HB1.out.trans (hbx.mono HB1.out.size))
          have hs9 : (w8.alloc (.cells #[.int .u64 q, .bool d] 33)).heap.size = g1 + 1 := by rw [World.size_alloc, hg1]
          have R1 := hide hrx
          clear hbx hrx
          generalize w8.alloc (.cells #[.int .u64 q, .bool d] 33) = w10 at *
          (try rw [hg1])
          clear hg1 hs9
          have hnq := neqS2 (q, d)
          dsimp only at hnq
          have q0 := row20 R1.out
          have q1 := row21 R1.out
          have lr := R1.out.lt
          by_cases he : er = 0
          · have he1 : (er == 0) = true := by simpa using he
            have hSv2 : Sv = runS X4 L := by rw [← HSV.out]; unfold runSV; rw [if_pos (by rw [HHX40.out, HER.out]; exact he)]
            have hget : Sv[j]? = some (q, d) := by rw [hSv2, runS_get X4 L j _ HA.out, HXJ.out, HS2.out]
            obtain ⟨b5, o5, hB2, hb5, hjS, y0, y1⟩ := (HRS.out.below HB1.out).seen2 hget HKS.out
            subst hB2
            have hbl5 := Nat.lt_of_lt_of_le hb5 HB1.out.size
            have hjSI : (j : Int) < (kS : Int) := by omega
            clear hSv2 hget hb5
            go_wp2_with fail
            go_quiet (fail)
            go_wp2_with fail
            go_roundw
            case rel => exact ⟨j + 1, by omega, by go_num, AlAt.next HWHY.out HA.out HR.out (by rw [HXJ.out, HY2.out]; exact HSh.out.below (below_drewN (Below.refl _ _) _)) (below_drewN HB1.out _)⟩
            case measure => simp [intOf]; omega
          · have he1 : (er == 0) = false := by simpa using he
            go_wp2_with fail
            go_quiet (fail)
            go_wp2_with fail
            go_roundw
            case rel => exact ⟨j + 1, by omega, by go_num, AlAt.next HWHY.out HA.out HR.out (by rw [HXJ.out, HY2.out]; exact HSh.out.below (below_drewN (Below.refl _ _) _)) (below_drewN HB1.out _)⟩
            case measure => simp [intOf]; omega
        · have hr1 : (r != 0) = true := by simpa using hr0
          have hre : er = r := by rw [← HER.out]; rw [runE_bad HWHY.out HA.out (by rw [HR.out]; exact hr0), HR.out]
          subst hre
          have hr2 : (er == er) = true := by simp
          with_reducible refine (sdo_err gs ga m Xj wh kd at_ ol nw _ HSh.out er HR.out hr0).mono ?_
          rintro e w8 ⟨rfl, hb⟩
          replace HSh := hide (HSh.out.below hb)
          replace HB1 := hide (HB1.out.trans (hb.mono HB1.out.size))
          clear hb
          go_wp2_with fail
          go_ret
          exact ⟨rfl, (HB.out.trans (HB1.out.mono HB.out.size)).alloc (Nat.le_trans HB.out.size HB1.out.size) _⟩
      · have hjk : j = k1 := by omega
        subst hjk
        have hall : ∀ a ∈ L, why m a = 0 := by have h := HWHY.out; rwa [List.take_of_length_le (Nat.le_of_eq HHL.out)] at h
        have he : er = 0 := by rw [← HER.out]; exact runE_ok (by omega) (by omega) hall
        subst he
        have hYv2 : Yv = runX X4 L := by rw [← HYV.out]; unfold runV; rw [if_pos (by rw [HHX40.out, HER.out])]
        have hsh := HSh.out
        rw [List.take_of_length_le (Nat.le_of_eq HHL.out), ← hYv2] at hsh
        have hkm : kY = m := by rw [← HKY.out, hYv2, runX_length, HHX40.out]
        have HSH := hide hsh
        subst hkm
        clear hall hYv2 hsh HSh
        go_wp2_with fail
        with_reducible refine (words_any gs ga kY Yv _ HSH.out).mono ?_
        rintro e w58 ⟨g6, rfl, hrw, hg6, hb⟩
        replace HB1 := hide (HB1.out.trans (hb.mono HB1.out.size))
        have HRW := hide (hrw.rd HKY.out)
        clear hb hrw hg6
        go_wp2_with fail
        with_reducible refine (EqualWn _ _ (some ⟨g6, 0, none⟩) B1 kY d1 kY kY Yv Yv _ HKY.out HKY.out HRW.out ((HRY.out.below HB1.out).more HB1.out.size) (Nat.le_refl _) (Nat.le_refl _) (by omega) (by omega) true (by simp)).mono ?_
        rintro e w59 ⟨rfl, hb⟩
        replace HRW := hide ((HRW.out.below hb).more hb.size)
        replace HB1 := hide (HB1.out.trans (hb.mono HB1.out.size))
        clear hb
        go_wp2_with fail
        go_ret
        exact ⟨rfl, HB.out.trans (HB1.out.mono HB.out.size)⟩
end Go.Proofs.Ytadgihmokmfejaa
