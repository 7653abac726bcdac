/-
  Which monitors may be: monitor.Check.
-/
import Derived.Test.YtfpbabafeecncaaMob
import Derived.WalkMore
import Derived.Deep.Cut
set_option linter.unusedSimpArgs false
set_option linter.unusedVariables false
namespace Go.Proofs.Ytfpbabafeecncaa
open Go Go.RowKit
attribute [local go_sem] via_cell via_frozen

theorem flat_no {m : Mon} (h : flatB m = false) : errM m.ok = 220 := by unfold Mon.ok; rw [h]; rfl
theorem row_no {m : Mon} {k : Nat} (h : rowsTo m k = false) (hk : k ≤ m.pin.length) : errM m.ok = 220 := by unfold Mon.ok; rw [rowsTo_no h hk]; simp [errM]
theorem keptW {B : Nat} {w w1 : World} {g o : Nat} {v : Value} (hb : Below B w w1) (hlt : g < B) (h : w.cell? ⟨g, o, none⟩ = some v) : w1.cell? ⟨g, o, none⟩ = some v := (hb.cell (p := ⟨g, o, none⟩) hlt).trans h
theorem hasE_take {l : List Ent} {k : Nat} {e : Ent} : (l.take k).any (fun y => decide (y = e)) = hasE (l.take k) e := rfl
theorem row_take (p : Bool) {l : List Ent} {k : Nat} (hk : k < l.length) : rowB p (l.take (k + 1)) = (rowB p (l.take k) && (p && (entB (l.getD k (0, 0)) && !hasE (l.take k) (l.getD k (0, 0))))) := by
  have e : l.take (k + 1) = l.take k ++ [l.getD k (0, 0)] := by
    rw [List.take_succ_eq_append_getElem hk, List.getD_eq_getElem?_getD, List.getElem?_eq_getElem hk]; rfl
  rw [e, rowB_snoc]
theorem row_of_take (p : Bool) {l : List Ent} {k : Nat} (h : rowB p (l.take k) = false) : rowB p l = false := by
  have := rowB_pre (p := p) (l := l.take k) (r := l.drop k) h
  rwa [List.take_append_drop] at this
set_option maxRecDepth 20000 in
set_option maxHeartbeats 4000000 in
theorem mcheckX_any (B : Nat) (a0 a1 a2 a3 : Option Addr) (n0 n1 n2 n3 c0 c1 c2 c3 : Nat) (ts : List Hm) (m : Mon) (W : World) (h : MonX W B a0 a1 a2 a3 n0 n1 n2 n3 ts m) (hB : B ≤ W.heap.size) (hs : SmallX n0 n1 n2 n3 ts) (z : Int) (hz : errM m.ok = z) :
    Calls Try.prog 20 #[.agg (moC a0 a1 a2 a3 n0 n1 n2 n3 c0 c1 c2 c3)] W fun e W' => e = .returned (.int .i64 z) ∧ Below W.heap.size W W' := by
  obtain ⟨w1, hw1⟩ : ∃ w1, W.alloc (.cells (moC a0 a1 a2 a3 n0 n1 n2 n3 c0 c1 c2 c3) 32) = w1 := ⟨_, rfl⟩
  obtain ⟨w2, hw2⟩ : ∃ w2, w1.alloc (.cells #[.int .i64 (n1 : Int)] 3) = w2 := ⟨_, rfl⟩
  have s1 : w1.heap.size = W.heap.size + 1 := by rw [← hw1]; simp
  have b1 : Below W.heap.size W w1 := by rw [← hw1]; exact (Below.refl _ _).alloc (Nat.le_refl _) _
  have b2 : Below w1.heap.size w1 w2 := by rw [← hw2]; exact (Below.refl _ _).alloc (Nat.le_refl _) _
  have R1 := hide (show RowAt w2 W.heap.size 32 (moC a0 a1 a2 a3 n0 n1 n2 n3 c0 c1 c2 c3) from by have h := RowAt.new W 32 (moC a0 a1 a2 a3 n0 n1 n2 n3 c0 c1 c2 c3); rw [hw1] at h; exact h.below b2)
  have R3 := hide (show RowAt w2 (W.heap.size + 1) 3 #[.int .i64 (n1 : Int)] from by have h := RowAt.new w1 3 #[.int .i64 (n1 : Int)]; rw [hw2, s1] at h; exact h)
  have HB := hide (b1.trans (b2.mono b1.size))
  have H := hide (h.below (HB.out.mono hB))
  have HBB := hide hB
  have H0 := hide h
  have HS := hide hs
  have HZ := hide hz
  have s0 := hs.s0
  have q1 := hs.s1
  have q2 := hs.s2
  have q3 := hs.s3
  clear s1 b1 b2 h hB hs hz
  subst hw2
  subst hw1
  go_enter Try.func20, Try.ntmps20
  go_wp2_with fail
  go_step3
  go_upto_region 3 with (fail)
  generalize (W.alloc (.cells (moC a0 a1 a2 a3 n0 n1 n2 n3 c0 c1 c2 c3) 32)).alloc (.cells #[.int .i64 (n1 : Int)] 3) = w2 at *
  have x0 : w2.cell? ⟨W.heap.size, 0, none⟩ = some (.slice a0 n0 c0) := by have := R1.out.cell 0; simpa using this
  have x1 : w2.cell? ⟨W.heap.size, 1, none⟩ = some (.slice a1 n1 c1) := by have := R1.out.cell 1; simpa using this
  have x2 : w2.cell? ⟨W.heap.size, 2, none⟩ = some (.slice a2 n2 c2) := by have := R1.out.cell 2; simpa using this
  have x3 : w2.cell? ⟨W.heap.size, 3, none⟩ = some (.slice a3 n3 c3) := by have := R1.out.cell 3; simpa using this
  have xl := R1.out.lt
  obtain ⟨ka, hka⟩ : ∃ k, chk m.sl = k := ⟨_, rfl⟩
  have HA := hide hka
  have HC := hide (check_any B a0 c0 (n0) m.sl w2 H.out.sl H.out.l0 (Nat.le_trans HBB.out HB.out.size) ka hka (by omega))
  clear hka
  go_wp2_with fail
  with_reducible refine HC.out.mono ?_
  rintro e w3 ⟨rfl, hb⟩
  replace R1 := hide (R1.out.below hb)
  replace R3 := hide (R3.out.below hb)
  replace H := hide (H.out.below (hb.mono (Nat.le_trans HBB.out HB.out.size)))
  replace HB := hide (HB.out.trans (hb.mono HB.out.size))
  clear x0 x1 x2 x3 xl hb HC
  have x0 : w3.cell? ⟨W.heap.size, 0, none⟩ = some (.slice a0 n0 c0) := by have := R1.out.cell 0; simpa using this
  have x1 : w3.cell? ⟨W.heap.size, 1, none⟩ = some (.slice a1 n1 c1) := by have := R1.out.cell 1; simpa using this
  have x2 : w3.cell? ⟨W.heap.size, 2, none⟩ = some (.slice a2 n2 c2) := by have := R1.out.cell 2; simpa using this
  have x3 : w3.cell? ⟨W.heap.size, 3, none⟩ = some (.slice a3 n3 c3) := by have := R1.out.cell 3; simpa using this
  have xl := R1.out.lt
  have y0 := row1 R3.out
  have yl := R3.out.lt
  have L0 := hide H.out.l0
  have L1 := hide H.out.l1
  have L2 := hide (show m.has.length = n2 from by rw [H.out.hs, rowsQ_len, H.out.has.len])
  have L3 := hide H.out.l3
  by_cases ha : arOk m.sl = true
  case neg =>
    have hk : (ka != 0) = true := by rw [← HA.out]; simp [chk, ha]
    have HF := hide (show (220 : Int) = z from by rw [← HZ.out]; exact (flat_no (by unfold flatB; simp [ha])).symm)
    clear HA ha
    go_wp2_with fail
    rw [Exit.noGoto_ret]
    go_wp2_with fail
    go_ret
    exact ⟨ret_int HF.out, HB.out⟩
  have hk : (ka != 0) = false := by rw [← HA.out]; simp [chk, ha]
  have HOK := hide ha
  clear ha HA
  by_cases cc0 : 1 ≤ n1
  case neg =>
    have hd0 : decide ((n1 : Int) < 1) = true := by simp; omega
    have HF := hide (show (220 : Int) = z from by rw [← HZ.out]; exact (flat_no (by unfold flatB; rw [L1.out]; simp; intros; omega)).symm)
    clear cc0
    go_wp2_with fail
    rw [Exit.noGoto_ret]
    go_wp2_with fail
    go_ret
    exact ⟨ret_int HF.out, HB.out⟩
  have hd0 : decide ((n1 : Int) < 1) = false := by simp; omega
  by_cases cc1 : n1 ≤ 8
  case neg =>
    have hd1 : decide (8 < (n1 : Int)) = true := by simp; omega
    have HF := hide (show (220 : Int) = z from by rw [← HZ.out]; exact (flat_no (by unfold flatB; rw [L1.out]; simp; intros; omega)).symm)
    clear cc1
    go_wp2_with fail
    rw [Exit.noGoto_ret]
    go_wp2_with fail
    go_ret
    exact ⟨ret_int HF.out, HB.out⟩
  have hd1 : decide (8 < (n1 : Int)) = false := by simp; omega
  by_cases cc2 : n2 = n1
  case neg =>
    have hd2 : ((n2 : Int) != (n1 : Int)) = true := by simp; omega
    have HF := hide (show (220 : Int) = z from by rw [← HZ.out]; exact (flat_no (by unfold flatB; rw [L1.out, L2.out]; simp; intros; omega)).symm)
    clear cc2
    go_wp2_with fail
    rw [Exit.noGoto_ret]
    go_wp2_with fail
    go_ret
    exact ⟨ret_int HF.out, HB.out⟩
  have hd2 : ((n2 : Int) != (n1 : Int)) = false := by simp; omega
  by_cases cc3 : n3 ≤ 16
  case neg =>
    have hd3 : decide (16 < (n3 : Int)) = true := by simp; omega
    have HF := hide (show (220 : Int) = z from by rw [← HZ.out]; exact (flat_no (by unfold flatB; rw [L3.out]; simp; intros; omega)).symm)
    clear cc3
    go_wp2_with fail
    rw [Exit.noGoto_ret]
    go_wp2_with fail
    go_ret
    exact ⟨ret_int HF.out, HB.out⟩
  have hd3 : decide (16 < (n3 : Int)) = false := by simp; omega
  have HC0 := hide cc0
  have HC1 := hide cc1
  have HC2 := hide cc2
  have HC3 := hide cc3
  clear cc0 cc1 cc2 cc3
  obtain ⟨ba, hba⟩ : ∃ b, m.bad.any (fun x => !wtB (n1 : Int) x) = b := ⟨_, rfl⟩
  have HBA := hide hba
  have HCX := hide (by
    have h := ContainsFX B a3 c3 43 #[.pointer (some ⟨W.heap.size + 1, 0, none⟩)] (enters_of Try.func43 (by kernel_rfl) rfl) (fun x => !wtB (n1 : Int) x) m.bad w3 (by rw [L3.out]; exact H.out.bad) (Nat.le_trans HBB.out HB.out.size) (by rw [L3.out]; omega) (fun w x hb _ => wrong_any (W.heap.size + 1) n1 x w (R3.out.below hb) (wtB (n1 : Int) x) rfl)
    rw [L3.out, hba] at h
    exact h)
  clear hba
  go_wp2_with fail
  with_reducible refine HCX.out.mono ?_
  rintro e w4 ⟨rfl, hb⟩
  replace R1 := hide (R1.out.below hb)
  replace H := hide (H.out.below (hb.mono (Nat.le_trans HBB.out HB.out.size)))
  replace HB := hide (HB.out.trans (hb.mono HB.out.size))
  clear x0 x1 x2 x3 xl hb HCX R3 y0 yl hk hd0 hd1 hd2 hd3
  have HFL := hide (show flatB m = !ba from by
    unfold flatB
    rw [HOK.out, L1.out, L2.out, L3.out, ← HBA.out, List.not_any_eq_all_not]
    have h0 := HC0.out
    have h1 := HC1.out
    have h2 := HC2.out
    have h3 := HC3.out
    simp [h0, h1, h2, h3])
  cases ba with
  | true =>
    have HF := hide (show (220 : Int) = z from by rw [← HZ.out]; exact (flat_no HFL.out).symm)
    go_wp2_with fail
    rw [Exit.noGoto_ret]
    go_wp2_with fail
    go_ret
    exact ⟨ret_int HF.out, HB.out⟩
  | false =>
  have HRZ := hide (show rowsTo m n1 = true → z = 0 from fun h => by rw [← HZ.out]; unfold Mon.ok; rw [HFL.out, L1.out, h]; rfl)
  have HNO := hide (show ∀ k, k ≤ n1 → rowsTo m k = false → z = 220 from fun k hk h => by rw [← HZ.out]; exact row_no h (by rw [L1.out]; exact hk))
  have x0 : w4.cell? ⟨W.heap.size, 0, none⟩ = some (.slice a0 n0 c0) := by have := R1.out.cell 0; simpa using this
  have x1 : w4.cell? ⟨W.heap.size, 1, none⟩ = some (.slice a1 n1 c1) := by have := R1.out.cell 1; simpa using this
  have x2 : w4.cell? ⟨W.heap.size, 2, none⟩ = some (.slice a2 n2 c2) := by have := R1.out.cell 2; simpa using this
  have x3 : w4.cell? ⟨W.heap.size, 3, none⟩ = some (.slice a3 n3 c3) := by have := R1.out.cell 3; simpa using this
  have xl := R1.out.lt
  go_wp2_with fail
  go_step3
  go_wp2_with fail
  clear x0 x1 x2 x3 xl
  go_loopw [5, 48] (fun ok i wr => ∃ g : Nat, g ≤ n2 ∧ i = .int .i64 (g : Int) ∧ ok = .bool true ∧ rowsTo m g = true ∧ RowAt wr W.heap.size 32 (moC a0 a1 a2 a3 n0 n1 n2 n3 c0 c1 c2 c3) ∧ Below W.heap.size W wr) (fun _ i _ => n2 - (intOf i).toNat)
  case atStart => exact ⟨0, Nat.zero_le _, rfl, rfl, rfl, R1.out, HB.out⟩
  case round =>
    obtain ⟨g, hg, rfl, rfl, hro, hr1, hbw⟩ := hrel
    have HRO := hide hro
    have R1r := hide hr1
    have HBW := hide hbw
    replace H := hide (H0.out.below (hbw.mono HBB.out))
    clear hro hr1 hbw R1 HB
    by_cases hlt : g < n2
    · have hgI : (g : Int) < (n2 : Int) := by omega
      have hgm : g < n1 := by rw [← HC2.out]; exact hlt
      have hgt : g < ts.length := by rw [H.out.has.len]; exact hlt
      obtain ⟨b1, o1, rfl, hb1, d1, _⟩ := H0.out.has.at_ hlt
      have hrow := H0.out.has.qs _ (getH_mem hgt)
      obtain ⟨b2, o2, rfl, hb2, d2⟩ := H0.out.pin.boolAt H0.out.l1 hgm
      have HB1 := hide hb1
      have HB2 := hide hb2
      have HRS := hide (show rowsTo m (g + 1) = rowB (m.pin.getD g false) (ts.getD g hmZ).q from by rw [rowsTo_succ, HRO.out, H.out.hs, rowsQ_at]; rfl)
      have hql := HS.out.rows _ (getH_mem hgt)
      have hqc := HS.out.caps _ (getH_mem hgt)
      obtain ⟨p, hp⟩ : ∃ p, m.pin.getD g false = p := ⟨_, rfl⟩
      rw [hp] at d2 HRS
      generalize ts.getD g hmZ = t at *
      obtain ⟨tA, tc, tq⟩ := t
      dsimp only at d1 hrow hql hqc HRS
      obtain ⟨k, hk⟩ : ∃ k, tq.length = k := ⟨_, rfl⟩
      have HTK := hide hk
      rw [hk] at d1 hrow hql hqc
      have HQC := hide hqc
      clear hqc
      have HROW := hide hrow
      have HD2 := hide d2
      have d1r := keptW (HBW.out.mono HBB.out) HB1.out d1
      have hbl1 : b1 < wr.heap.size := Nat.lt_of_lt_of_le HB1.out (Nat.le_trans HBB.out HBW.out.size)
      obtain ⟨wo, hwo⟩ : ∃ w, w = wr := ⟨_, rfl⟩
      subst hwo
      clear hrow hk hp hb1 hb2 d1 d2
      have x0 : wo.cell? ⟨W.heap.size, 0, none⟩ = some (.slice a0 (n0) c0) := by have := R1r.out.cell 0; simpa using this
      have x1 : wo.cell? ⟨W.heap.size, 1, none⟩ = some (.slice (some ⟨b2, o2, none⟩) n1 c1) := by have := R1r.out.cell 1; simpa using this
      have x2 : wo.cell? ⟨W.heap.size, 2, none⟩ = some (.slice (some ⟨b1, o1, none⟩) (n2) c2) := by have := R1r.out.cell 2; simpa using this
      have x3 : wo.cell? ⟨W.heap.size, 3, none⟩ = some (.slice a3 (n3) c3) := by have := R1r.out.cell 3; simpa using this
      have xl := R1r.out.lt
      go_wp2_with fail
      clear x0 x1 x2 x3 xl d1r hbl1
      go_loopw [5, 55] (fun ok i wr => ∃ j : Nat, j ≤ k ∧ i = .int .i64 (j : Int) ∧ ok = .bool true ∧ rowB p (tq.take j) = true ∧ RowAt wr W.heap.size 32 (moC a0 (some ⟨b2, o2, none⟩) (some ⟨b1, o1, none⟩) a3 n0 n1 n2 n3 c0 c1 c2 c3) ∧ Below W.heap.size W wr) (fun _ i _ => k - (intOf i).toNat)
      case atStart => exact ⟨0, Nat.zero_le _, rfl, rfl, rfl, R1r.out, HBW.out⟩
      case round =>
        obtain ⟨j, hj, rfl, rfl, hro, hr1, hbw⟩ := hrel
        have HRJ := hide hro
        have R1s := hide hr1
        have HBV := hide hbw
        clear hro hr1 hbw R1r
        by_cases hlt2 : j < k
        · have hjI : (j : Int) < (k : Int) := by omega
          have HRN := (row_take p (l := tq) (k := j) (by rw [HTK.out]; exact hlt2))
          have HRJ1 := hide HRJ.out
          obtain ⟨b3, o3, rfl, hb3, e0, e1⟩ := Rd.entAt (HROW.out.below (HBV.out.mono HBB.out)) HTK.out hlt2
          have hbl3 : b3 < wr.heap.size := Nat.lt_of_lt_of_le hb3 (Nat.le_trans HBB.out HBV.out.size)
          obtain ⟨x, hx⟩ : ∃ x, tq.getD j (0, 0) = x := ⟨_, rfl⟩
          rw [hx] at e0 e1 HRN
          obtain ⟨s, z3⟩ := x
          dsimp only at e0 e1
          obtain ⟨be, hbe⟩ : ∃ b, entB (s, z3) = b := ⟨_, rfl⟩
          obtain ⟨bh, hbh⟩ : ∃ b, hasE (tq.take j) (s, z3) = b := ⟨_, rfl⟩
          rw [HRJ.out, hbe, hbh, Bool.true_and] at HRN
          have HBN := hide (show Below wr.heap.size wr (wr.alloc (.cells #[.int .i64 s, .int .u64 z3] 43)) from (Below.refl _ _).alloc (Nat.le_refl _) _)
          have RE := hide (RowAt.new wr 43 #[.int .i64 s, .int .u64 z3])
          have HE := hide (fun w => entry_any s z3 w be hbe)
          have HC := hide (fun (w : World) (hb : Below W.heap.size W w) => by
            have h := ContainsEE B (some ⟨b3, o3, none⟩) tc s z3 (tq.take j) w (by rw [show (tq.take j).length = j from by rw [List.length_take, HTK.out]; omega]; exact (HROW.out.below (hb.mono HBB.out)).firstE HTK.out (Nat.le_of_lt hlt2)) (Nat.le_trans HBB.out hb.size) (by rw [List.length_take]; omega) bh hbh
            rw [show (tq.take j).length = j from by rw [List.length_take, HTK.out]; omega] at h
            exact h)
          clear hx hbe hbh hb3
          go_upto_region 12 with (fail)
          generalize wr.alloc (.cells #[.int .i64 s, .int .u64 z3] 43) = u1 at *
          replace R1s := hide (R1s.out.below HBN.out)
          replace HBV := hide (HBV.out.trans (HBN.out.mono HBV.out.size))
          clear e0 e1 hbl3 HBN
          generalize wr.heap.size = gE at *
          have x0 : u1.cell? ⟨W.heap.size, 0, none⟩ = some (.slice a0 (n0) c0) := by have := R1s.out.cell 0; simpa using this
          have x1 : u1.cell? ⟨W.heap.size, 1, none⟩ = some (.slice (some ⟨b2, o2, none⟩) n1 c1) := by have := R1s.out.cell 1; simpa using this
          have x2 : u1.cell? ⟨W.heap.size, 2, none⟩ = some (.slice (some ⟨b1, o1, none⟩) (n2) c2) := by have := R1s.out.cell 2; simpa using this
          have x3 : u1.cell? ⟨W.heap.size, 3, none⟩ = some (.slice a3 (n3) c3) := by have := R1s.out.cell 3; simpa using this
          have xl := R1s.out.lt
          have e0 := row20 RE.out
          have e1 := row21 RE.out
          have el := RE.out.lt
          have d2 := keptW (HBV.out.mono HBB.out) HB2.out HD2.out
          have hbl2 : b2 < u1.heap.size := Nat.lt_of_lt_of_le HB2.out (Nat.le_trans HBB.out HBV.out.size)
          have hgm1 : (g : Int) < (n1 : Int) := by omega
          have hjc : (j : Int) ≤ (tc : Int) := by have := HQC.out.1; omega
          have htc : (tc : Int) ≤ 9223372036854775807 := by have := HQC.out.2; omega
          have HV := hide (fun z => via_below u1 z)
          cases p
          case false =>
            have HRN : Hid (rowB false (tq.take (j + 1)) = false) := hide (by rw [HRN]; rfl)
            go_wp2_with fail
            refine wp_region_via (by kernel_rfl) (by kernel_rfl) ?_
            repeat (go_big_quiet_step (fail))
            refine via_out fun u2 hb2 => ?_
            have HFB := hide (HBV.out.trans (hb2.mono HBV.out.size))
            have HF := hide (show (220 : Int) = z from (HNO.out (g + 1) (by omega) (by rw [HRS.out]; exact row_of_take _ HRN.out)).symm)
            clear hb2
            go_wp2_with fail
            rw [Exit.noGoto_ret]
            go_wp2_with fail
            go_ret
            exact ⟨ret_int HF.out, HFB.out⟩
          case true =>
          cases be
          case false =>
            have HRN : Hid (rowB true (tq.take (j + 1)) = false) := hide (by rw [HRN]; rfl)
            go_wp2_with fail
            refine wp_region_via (by kernel_rfl) (by kernel_rfl) ?_
            repeat (go_big_quiet_step (first | (go_at_call 44; with_reducible exact via_of (HE.out _))))
            refine via_out fun u2 hb2 => ?_
            have HFB := hide (HBV.out.trans (hb2.mono HBV.out.size))
            have HF := hide (show (220 : Int) = z from (HNO.out (g + 1) (by omega) (by rw [HRS.out]; exact row_of_take _ HRN.out)).symm)
            clear hb2
            go_wp2_with fail
            rw [Exit.noGoto_ret]
            go_wp2_with fail
            go_ret
            exact ⟨ret_int HF.out, HFB.out⟩
          case true =>
          cases bh
          case true =>
            have HRN : Hid (rowB true (tq.take (j + 1)) = false) := hide (by rw [HRN]; rfl)
            go_wp2_with fail
            refine wp_region_via (by kernel_rfl) (by kernel_rfl) ?_
            repeat (go_big_quiet_step (first | (go_at_call 44; with_reducible exact via_of (HE.out _)) | (go_at_call 15; with_reducible exact via_of (HC.out _ (HBV.out.trans ((HV.out _).mono HBV.out.size))))))
            refine via_out fun u2 hb2 => ?_
            have HFB := hide (HBV.out.trans (hb2.mono HBV.out.size))
            have HF := hide (show (220 : Int) = z from (HNO.out (g + 1) (by omega) (by rw [HRS.out]; exact row_of_take _ HRN.out)).symm)
            clear hb2
            go_wp2_with fail
            rw [Exit.noGoto_ret]
            go_wp2_with fail
            go_ret
            exact ⟨ret_int HF.out, HFB.out⟩
          case false =>
            have HRN : Hid (rowB true (tq.take (j + 1)) = true) := hide (by rw [HRN]; rfl)
            go_wp2_with fail
            refine wp_region_via (by kernel_rfl) (by kernel_rfl) ?_
            repeat (go_big_quiet_step (first | (go_at_call 44; with_reducible exact via_of (HE.out _)) | (go_at_call 15; with_reducible exact via_of (HC.out _ (HBV.out.trans ((HV.out _).mono HBV.out.size))))))
            refine via_out fun u2 hb2 => ?_
            replace R1s := hide (R1s.out.below hb2)
            replace HBV := hide (HBV.out.trans (hb2.mono HBV.out.size))
            clear hb2 x0 x1 x2 x3 xl e0 e1 el d2 hbl2
            go_wp2_with fail
            go_roundw
            case rel => exact ⟨j + 1, by omega, by go_num, rfl, HRN.out, R1s.out, HBV.out⟩
            case measure => simp [intOf]; omega
        · obtain rfl : j = k := by omega
          have HRF := hide (show rowsTo m (g + 1) = true from by
            rw [HRS.out]
            have h := HRJ.out
            rwa [List.take_of_length_le (by rw [HTK.out]; exact Nat.le_refl _)] at h)
          go_wp2_with fail
          go_roundw
          case rel => exact ⟨g + 1, by omega, by go_num, rfl, HRF.out, R1s.out, HBV.out⟩
          case measure => simp [intOf]; omega
    · have HF := hide (show (0 : Int) = z from (HRZ.out (by
        have h : g = n1 := by have := HC2.out; omega
        rw [← h]; exact HRO.out)).symm)
      go_wp2_with fail
      rw [Exit.noGoto_ret]
      go_wp2_with fail
      go_ret
      exact ⟨ret_int HF.out, HBW.out⟩
theorem mcheck_any (B : Nat) (A : Nat → Option Addr) (n c : Nat → Nat) (ts : List Hm) (m : Mon) (W : World) (h : MonRd W B A n ts m) (hB : B ≤ W.heap.size) (hs : SmallN n ts) (z : Int) (hz : errM m.ok = z) :
    Calls Try.prog 20 #[.agg (monC A n c)] W fun e W' => e = .returned (.int .i64 z) ∧ Below W.heap.size W W' :=
  mcheckX_any B (A 0) (A 1) (A 2) (A 3) (n 0) (n 1) (n 2) (n 3) (c 0) (c 1) (c 2) (c 3) ts m W h hB hs z hz
end Go.Proofs.Ytfpbabafeecncaa
