/-
  The reference: are these the same monitors; may a monitor be?
-/
import Derived.Test.YtfpbabafeecncaaMre
set_option linter.unusedSimpArgs false
set_option linter.unusedVariables false
namespace Go.Proofs.Ytfpbabafeecncaa
open Go Go.RowKit
attribute [local go_sem] via_cell via_frozen

theorem take_snoc {α : Type} (l : List α) (d : α) (j : Nat) (hj : j < l.length) : l.take (j + 1) = l.take j ++ [l.getD j d] := by
  rw [List.take_succ_eq_append_getElem hj, List.getD_eq_getElem?_getD, List.getElem?_eq_getElem hj]; rfl
theorem same_no {m p : Mon} (h : m.sl ≠ p.sl ∨ m.pin ≠ p.pin ∨ m.has ≠ p.has ∨ m.bad ≠ p.bad) : sameM m p = false := by
  unfold sameM
  simp only [Bool.and_eq_false_imp, decide_eq_true_eq, decide_eq_false_iff_not]
  rcases h with h | h | h | h
  all_goals (intros; first | assumption | contradiction)
set_option maxRecDepth 40000 in
set_option maxHeartbeats 4000000 in
theorem rsameM_any (a0 a1 a2 a3 : Option Addr) (n0 n1 n2 n3 c0 c1 c2 c3 : Nat) (b0 b1 b2 b3 : Option Addr) (k0 k1 k2 k3 d0 d1 d2 d3 : Nat) (ts us : List Hm) (m p : Mon) (W : World) (h : MonX W W.heap.size a0 a1 a2 a3 n0 n1 n2 n3 ts m) (g : MonX W W.heap.size b0 b1 b2 b3 k0 k1 k2 k3 us p) (hs : SmallX n0 n1 n2 n3 ts) (gs : SmallX k0 k1 k2 k3 us) (r : Bool) (hr : sameM m p = r) :
    Calls Try.prog 11 #[.agg #[.slice a0 n0 c0, .slice a1 n1 c1, .slice a2 n2 c2, .slice a3 n3 c3], .agg #[.slice b0 k0 d0, .slice b1 k1 d1, .slice b2 k2 d2, .slice b3 k3 d3]] W fun e W' => e = .returned (.bool r) ∧ Below W.heap.size W W' := by
  obtain ⟨w1, hw1⟩ : ∃ w1, W.alloc (.cells #[.slice a0 n0 c0, .slice a1 n1 c1, .slice a2 n2 c2, .slice a3 n3 c3] 32) = w1 := ⟨_, rfl⟩
  obtain ⟨w2, hw2⟩ : ∃ w2, w1.alloc (.cells #[.slice b0 k0 d0, .slice b1 k1 d1, .slice b2 k2 d2, .slice b3 k3 d3] 32) = w2 := ⟨_, rfl⟩
  have s1 : w1.heap.size = W.heap.size + 1 := by rw [← hw1]; simp
  have e1 : Below W.heap.size W w1 := by rw [← hw1]; exact (Below.refl _ _).alloc (Nat.le_refl _) _
  have e2 : Below w1.heap.size w1 w2 := by rw [← hw2]; exact (Below.refl _ _).alloc (Nat.le_refl _) _
  have R1 := hide (show RowAt w2 W.heap.size 32 #[.slice a0 n0 c0, .slice a1 n1 c1, .slice a2 n2 c2, .slice a3 n3 c3] by have h := RowAt.new W 32 #[.slice a0 n0 c0, .slice a1 n1 c1, .slice a2 n2 c2, .slice a3 n3 c3]; rw [hw1] at h; exact h.below e2)
  have R2 := hide (show RowAt w2 (W.heap.size + 1) 32 #[.slice b0 k0 d0, .slice b1 k1 d1, .slice b2 k2 d2, .slice b3 k3 d3] by have h := RowAt.new w1 32 #[.slice b0 k0 d0, .slice b1 k1 d1, .slice b2 k2 d2, .slice b3 k3 d3]; rw [hw2, s1] at h; exact h)
  have HB := hide (e1.trans (e2.mono e1.size))
  have HM := hide ((h.below HB.out).more HB.out.size)
  have HP := hide ((g.below HB.out).more HB.out.size)
  have HS := hide hs
  have GS := hide gs
  have HR := hide hr
  clear e1 e2 s1 h hs hr g gs
  subst hw2 hw1
  go_enter Try.func11, Try.ntmps11
  go_upto_region 1 with (fail)
  generalize (W.alloc (.cells #[.slice a0 n0 c0, .slice a1 n1 c1, .slice a2 n2 c2, .slice a3 n3 c3] 32)).alloc (.cells #[.slice b0 k0 d0, .slice b1 k1 d1, .slice b2 k2 d2, .slice b3 k3 d3] 32) = w2 at *
  obtain ⟨x0, x1, x2, x3⟩ := row4 R1.out
  have xl := R1.out.lt
  obtain ⟨y0, y1, y2, y3⟩ := row4 R2.out
  have yl := R2.out.lt
  obtain ⟨sb, hsb⟩ : ∃ b, decide (m.sl = p.sl) = b := ⟨_, rfl⟩
  have HSB := hide hsb
  go_wp2_with fail
  with_reducible refine (rsame_any a0 b0 c0 d0 n0 k0 m.sl p.sl w2 HM.out.sl HP.out.sl HM.out.l0 HP.out.l0 HS.out.s0 GS.out.s0 sb hsb).mono ?_
  rintro e w3 ⟨rfl, hb⟩
  have HB3 := hide (HB.out.trans (hb.mono HB.out.size))
  replace R1 := hide (R1.out.below hb)
  replace R2 := hide (R2.out.below hb)
  replace HM := hide ((HM.out.below hb).more hb.size)
  replace HP := hide ((HP.out.below hb).more hb.size)
  clear hb hsb x0 x1 x2 x3 xl y0 y1 y2 y3 yl HB
  obtain ⟨x0, x1, x2, x3⟩ := row4 R1.out
  have xl := R1.out.lt
  obtain ⟨y0, y1, y2, y3⟩ := row4 R2.out
  have yl := R2.out.lt
  cases sb
  case false =>
    have HF := hide (show false = r from by rw [← HR.out]; exact (same_no (.inl (by simpa using HSB.out))).symm)
    go_wp2_with fail
    go_ret
    rw [← HF.out]
    exact ⟨rfl, HB3.out⟩
  case true =>
  have HSL := hide (show m.sl = p.sl by simpa using HSB.out)
  clear HSB
  by_cases hne : n1 = k1
  case neg =>
    have hd : ((n1 : Int) == (k1 : Int)) = false := by rw [beq_eq_false_iff_ne]; omega
    have hd2 : ((n1 : Int) != (k1 : Int)) = true := by rw [bne, hd]; rfl
    have hd3 : ¬ (n1 : Int) = (k1 : Int) := by omega
    have HF := hide (show false = r from by rw [← HR.out]; exact (same_no (.inr (.inl (fun e => hne (by rw [← HM.out.l1, ← HP.out.l1, e]))))).symm)
    clear hne
    go_wp2_with fail
    go_ret
    rw [← HF.out]
    exact ⟨rfl, HB3.out⟩
  case pos =>
  subst hne
  by_cases hne : n2 = k2
  case neg =>
    have hd : ((n2 : Int) == (k2 : Int)) = false := by rw [beq_eq_false_iff_ne]; omega
    have hd2 : ((n2 : Int) != (k2 : Int)) = true := by rw [bne, hd]; rfl
    have hd3 : ¬ (n2 : Int) = (k2 : Int) := by omega
    have HF := hide (show false = r from by rw [← HR.out]; exact (same_no (.inr (.inr (.inl (fun e => hne (by rw [← HM.out.has.len, ← HP.out.has.len, ← rowsQ_len ts, ← rowsQ_len us, ← HM.out.hs, ← HP.out.hs, e])))))).symm)
    clear hne
    go_wp2_with fail
    go_ret
    rw [← HF.out]
    exact ⟨rfl, HB3.out⟩
  case pos =>
  subst hne
  by_cases hne : n3 = k3
  case neg =>
    have hd : ((n3 : Int) == (k3 : Int)) = false := by rw [beq_eq_false_iff_ne]; omega
    have hd2 : ((n3 : Int) != (k3 : Int)) = true := by rw [bne, hd]; rfl
    have hd3 : ¬ (n3 : Int) = (k3 : Int) := by omega
    have HF := hide (show false = r from by rw [← HR.out]; exact (same_no (.inr (.inr (.inr (fun e => hne (by rw [← HM.out.l3, ← HP.out.l3, e])))))).symm)
    clear hne
    go_wp2_with fail
    go_ret
    rw [← HF.out]
    exact ⟨rfl, HB3.out⟩
  case pos =>
  subst hne
  have hn1 : (n1 : Int) ≤ 4096 := by have := HS.out.s1; omega
  have hn2 : (n2 : Int) ≤ 4096 := by have := HS.out.s2; omega
  have hn3 : (n3 : Int) ≤ 4096 := by have := HS.out.s3; omega
  go_wp2_with fail
  go_loopw [47] (fun i wr => ∃ j : Nat, j ≤ n1 ∧ i = .int .i64 j ∧ m.pin.take j = p.pin.take j ∧ w3 = wr) (fun i _ => n1 - (intOf i).toNat)
  case atStart => exact ⟨0, Nat.zero_le _, rfl, rfl, rfl⟩
  case round =>
    obtain ⟨j, hj, rfl, heq, hwr⟩ := hrel
    subst hwr
    have HEQ := hide heq
    clear heq
    by_cases hlt : j < n1
    case pos =>
      have hjm : (j : Int) < (n1 : Int) := by omega
      obtain ⟨p1, o1, hA1, hp1, z1⟩ := HM.out.pin.boolAt HM.out.l1 hlt
      obtain ⟨p2, o2, hA2, hp2, z2⟩ := HP.out.pin.boolAt HP.out.l1 hlt
      subst hA1 hA2
      have HT1 := hide (take_snoc m.pin false j (by rw [HM.out.l1]; exact hlt))
      have HT2 := hide (take_snoc p.pin false j (by rw [HP.out.l1]; exact hlt))
      have HG := hide (show m.pin.getD j false ≠ p.pin.getD j false → m.pin ≠ p.pin from fun h e => h (by rw [e]))
      generalize m.pin.getD j false = u1 at *
      generalize p.pin.getD j false = u2 at *
      by_cases hu : u1 = u2
      · subst hu
        have HN := hide (show m.pin.take (j + 1) = p.pin.take (j + 1) from by rw [HT1.out, HT2.out, HEQ.out])
        clear HT1 HT2 HG
        cases u1
        · go_wp2_with fail
          go_roundw
          case rel => exact ⟨j + 1, by omega, by go_num, HN.out, by first | rfl | trivial⟩
          case measure => simp [intOf]; omega
        · go_wp2_with fail
          go_roundw
          case rel => exact ⟨j + 1, by omega, by go_num, HN.out, by first | rfl | trivial⟩
          case measure => simp [intOf]; omega
      · have HF := hide (show false = r from by rw [← HR.out]; exact (same_no (.inr (.inl (HG.out hu)))).symm)
        clear HT1 HT2 HG
        cases u1 <;> cases u2
        · exact absurd rfl hu
        · go_wp2_with fail
          go_ret
          rw [← HF.out]
          exact ⟨rfl, HB3.out⟩
        · go_wp2_with fail
          go_ret
          rw [← HF.out]
          exact ⟨rfl, HB3.out⟩
        · exact absurd rfl hu
    case neg =>
    obtain rfl : j = n1 := by omega
    have HPE := hide (show m.pin = p.pin from by have := HEQ.out; rwa [List.take_of_length_le (by rw [HM.out.l1]; exact Nat.le_refl _), List.take_of_length_le (by rw [HP.out.l1]; exact Nat.le_refl _)] at this)
    clear HEQ hlt
    go_wp2_with fail
    obtain ⟨w4, hw4⟩ : ∃ w, w = w3 := ⟨_, rfl⟩
    go_loopw [63] (fun i wr => ∃ j : Nat, j ≤ n2 ∧ i = .int .i64 j ∧ (rowsQ ts).take j = (rowsQ us).take j ∧ Below w4.heap.size w4 wr) (fun i _ => n2 - (intOf i).toNat)
    case atStart => exact ⟨0, Nat.zero_le _, rfl, rfl, by rw [hw4]; exact Below.refl _ _⟩
    case round =>
      subst hw4
      obtain ⟨j2, hj, rfl, heq, hbr⟩ := hrel
      obtain ⟨w5, hw5⟩ : ∃ w, w = wr := ⟨_, rfl⟩
      subst hw5
      have HEQ := hide heq
      have HBR := hide hbr
      clear heq hbr x0 x1 x2 x3 xl y0 y1 y2 y3 yl
      have R2B := hide (R2.out.below HBR.out)
      obtain ⟨y0, y1, y2, y3⟩ := row4 R2B.out
      have yl := R2B.out.lt
      by_cases hlt : j2 < n2
      case pos =>
        have hjm : (j2 : Int) < (n2 : Int) := by omega
        obtain ⟨p1, o1, hA1, hp1, z1, hr1⟩ := (HM.out.has.below HBR.out).at_ hlt
        obtain ⟨p2, o2, hA2, hp2, z2, hr2⟩ := (HP.out.has.below HBR.out).at_ hlt
        subst hA1 hA2
        have HT1 := hide (take_snoc (rowsQ ts) [] j2 (by rw [rowsQ_len, HM.out.has.len]; exact hlt))
        have HT2 := hide (take_snoc (rowsQ us) [] j2 (by rw [rowsQ_len, HP.out.has.len]; exact hlt))
        have HG := hide (show (rowsQ ts).getD j2 [] ≠ (rowsQ us).getD j2 [] → m.has ≠ p.has from fun h e => h (by rw [← HM.out.hs, ← HP.out.hs, e]))
        rw [rowsQ_at] at HT1 HT2 HG
        rw [rowsQ_at] at HG
        have HL1 := hide (HS.out.rows _ (getH_mem (by rw [HM.out.has.len]; exact hlt)))
        have HL2 := hide (GS.out.rows _ (getH_mem (by rw [HP.out.has.len]; exact hlt)))
        have HR1 := hide (hr1.more HBR.out.size)
        have HR2 := hide (hr2.more HBR.out.size)
        have bl1 : p1 < w5.heap.size := Nat.lt_of_lt_of_le hp1 HBR.out.size
        have bl2 : p2 < w5.heap.size := Nat.lt_of_lt_of_le hp2 HBR.out.size
        clear hr1 hr2 hp1 hp2
        generalize ts.getD j2 hmZ = v1 at *
        generalize us.getD j2 hmZ = v2 at *
        obtain ⟨vA, vc, vq⟩ := v1
        obtain ⟨uA, uc, uq⟩ := v2
        dsimp only at *
        obtain ⟨eb, heb⟩ : ∃ b, decide (vq = uq) = b := ⟨_, rfl⟩
        have HEB := hide heb
        obtain ⟨vl, hvl⟩ : ∃ l, vq.length = l := ⟨_, rfl⟩
        obtain ⟨ul, hul⟩ : ∃ l, uq.length = l := ⟨_, rfl⟩
        rw [hvl] at z1 HR1 HL1
        rw [hul] at z2 HR2 HL2
        go_wp2_with fail
        with_reducible refine (rlist_any vA uA vc uc vl ul vq uq w5 HR1.out HR2.out hvl hul HL1.out HL2.out eb heb).mono ?_
        rintro e w6 ⟨rfl, hb⟩
        have HB6 := hide (HBR.out.trans (hb.mono HBR.out.size))
        clear hb heb z1 z2 bl1 bl2
        cases eb
        case false =>
          have HF := hide (show false = r from by rw [← HR.out]; exact (same_no (.inr (.inr (.inl (HG.out (by simpa using HEB.out)))))).symm)
          have HBF := hide (HB3.out.trans (HB6.out.mono HB3.out.size))
          go_wp2_with fail
          go_ret
          rw [← HF.out]
          exact ⟨rfl, HBF.out⟩
        case true =>
          have hev : vq = uq := by simpa using HEB.out
          have HN := hide (show (rowsQ ts).take (j2 + 1) = (rowsQ us).take (j2 + 1) from by rw [HT1.out, HT2.out, HEQ.out, hev])
          go_wp2_with fail
          go_roundw
          case rel => exact ⟨j2 + 1, by omega, by go_num, HN.out, HB6.out⟩
          case measure => simp [intOf]; omega
      case neg =>
      obtain rfl : j2 = n2 := by omega
      have HHE := hide (show m.has = p.has from by
        have := HEQ.out
        rw [List.take_of_length_le (by rw [rowsQ_len, HM.out.has.len]; exact Nat.le_refl _), List.take_of_length_le (by rw [rowsQ_len, HP.out.has.len]; exact Nat.le_refl _)] at this
        rw [HM.out.hs, HP.out.hs, this])
      have R1B := hide (R1.out.below HBR.out)
      obtain ⟨x0, x1, x2, x3⟩ := row4 R1B.out
      have xl := R1B.out.lt
      have HB5 := hide (HB3.out.trans (HBR.out.mono HB3.out.size))
      have HX1 := hide (HM.out.bad.upX HBR.out)
      have HX2 := hide (HP.out.bad.upX HBR.out)
      clear HEQ hlt
      go_wp2_with fail
      clear x0 x1 x2 x3 xl y0 y1 y2 y3 yl
      go_loopw [80] (fun i wr => ∃ j : Nat, j ≤ n3 ∧ i = .int .i64 j ∧ m.bad.take j = p.bad.take j ∧ Below w5.heap.size w5 wr) (fun i _ => n3 - (intOf i).toNat)
      case atStart => exact ⟨0, Nat.zero_le _, rfl, rfl, Below.refl _ _⟩
      case round =>
        obtain ⟨j3, hj, rfl, heq, hbr⟩ := hrel
        obtain ⟨w7, hw7⟩ : ∃ w, w = wr := ⟨_, rfl⟩
        subst hw7
        have HEQ := hide heq
        have HBS := hide hbr
        clear heq hbr
        have HB7 := hide (HB5.out.trans (HBS.out.mono HB5.out.size))
        by_cases hlt : j3 < n3
        case pos =>
          have hjm : (j3 : Int) < (n3 : Int) := by omega
          obtain ⟨p1, o1, hA1, hp1, d0, d1, d2, d3⟩ := (HX1.out.upX HBS.out).watchAt HM.out.l3 hlt
          obtain ⟨p2, o2, hA2, hp2, e0, e1, e2, e3⟩ := (HX2.out.upX HBS.out).watchAt HP.out.l3 hlt
          subst hA1 hA2
          have HT1 := hide (take_snoc m.bad (0, 0, 0, 0) j3 (by rw [HM.out.l3]; exact hlt))
          have HT2 := hide (take_snoc p.bad (0, 0, 0, 0) j3 (by rw [HP.out.l3]; exact hlt))
          have HG := hide (show m.bad.getD j3 (0, 0, 0, 0) ≠ p.bad.getD j3 (0, 0, 0, 0) → m.bad ≠ p.bad from fun h e => h (by rw [e]))
          generalize m.bad.getD j3 (0, 0, 0, 0) = u1 at *
          generalize p.bad.getD j3 (0, 0, 0, 0) = u2 at *
          obtain ⟨f1, f2, f3, f4⟩ := u1
          obtain ⟨g1, g2, g3, g4⟩ := u2
          dsimp only at *
          go_upto_region 18 with (refine wpList_store_new rfl 45 _ _ rfl _ #[.int .i64 f1, .int .i64 f2, .int .i64 f3, .int .u64 f4] w7.heap.size rfl rfl rfl (by kernel_rfl) rfl (by simp [Value.oneCell']) ?_)
          have hbn : Below w7.heap.size w7 (w7.alloc (.cells #[.int .i64 f1, .int .i64 f2, .int .i64 f3, .int .u64 f4] 45)) := (Below.refl _ _).alloc (Nat.le_refl _) _
          have RN := hide (RowAt.new w7 45 #[.int .i64 f1, .int .i64 f2, .int .i64 f3, .int .u64 f4])
          have q0 := kept hbn e0
          have q1 := kept hbn e1
          have q2 := kept hbn e2
          have q3 := kept hbn e3
          have ql : p2 < (w7.alloc (.cells #[.int .i64 f1, .int .i64 f2, .int .i64 f3, .int .u64 f4] 45)).heap.size := Nat.lt_of_lt_of_le hp2 hbn.size
          have R2C := hide ((R2B.out.below HBS.out).below hbn)
          have HB8 := hide (HBS.out.trans (hbn.mono HBS.out.size))
          clear d0 d1 d2 d3 e0 e1 e2 e3 hp1 hp2 hbn
          generalize w7.alloc (.cells #[.int .i64 f1, .int .i64 f2, .int .i64 f3, .int .u64 f4] 45) = w8 at *
          obtain ⟨r0, r1, r2, r3⟩ := row4 RN.out
          have rl := RN.out.lt
          obtain ⟨y0, y1, y2, y3⟩ := row4 R2C.out
          have yl := R2C.out.lt
          have HB9 := hide (HB5.out.trans (HB8.out.mono HB5.out.size))
          by_cases he : f1 = g1 ∧ f2 = g2 ∧ f3 = g3 ∧ f4 = g4
          · obtain ⟨rfl, rfl, rfl, rfl⟩ := he
            have HN := hide (show m.bad.take (j3 + 1) = p.bad.take (j3 + 1) from by rw [HT1.out, HT2.out, HEQ.out])
            go_quiet (fail)
            have HBN := hide (HB8.out.trans ((below_drewN (Below.refl w8.heap.size w8) nq).mono HB8.out.size))
            clear q0 q1 q2 q3 ql r0 r1 r2 r3 rl y0 y1 y2 y3 yl
            generalize w8.drewN nq = w9 at *
            go_wp2_with fail
            go_roundw
            case rel => exact ⟨j3 + 1, by omega, by go_num, HN.out, HBN.out⟩
            case measure => simp [intOf]; omega
          · have HF := hide (show false = r from by rw [← HR.out]; exact (same_no (.inr (.inr (.inr (HG.out (fun e => he (by injection e with h1 h2; injection h2 with h2 h3; injection h3 with h3 h4; exact ⟨h1, h2, h3, h4⟩))))))).symm)
            by_cases h1 : f1 = g1
            · subst h1
              by_cases h2 : f2 = g2
              · subst h2
                by_cases h3 : f3 = g3
                · subst h3
                  have h4 : ¬ f4 = g4 := fun h => he ⟨rfl, rfl, rfl, h⟩
                  have hd4 : (f4 == g4) = false := by simpa using h4
                  clear h4
                  clear he
                  go_quiet (fail)
                  have HBN := hide (HB9.out.trans ((below_drewN (Below.refl w8.heap.size w8) nq).mono HB9.out.size))
                  clear q0 q1 q2 q3 ql r0 r1 r2 r3 rl y0 y1 y2 y3 yl
                  generalize w8.drewN nq = w9 at *
                  go_wp2_with fail
                  go_ret
                  rw [← HF.out]
                  exact ⟨rfl, HBN.out⟩
                · have hd3 : (f3 == g3) = false := by simpa using h3
                  clear h3
                  clear he
                  go_quiet (fail)
                  have HBN := hide (HB9.out.trans ((below_drewN (Below.refl w8.heap.size w8) nq).mono HB9.out.size))
                  clear q0 q1 q2 q3 ql r0 r1 r2 r3 rl y0 y1 y2 y3 yl
                  generalize w8.drewN nq = w9 at *
                  go_wp2_with fail
                  go_ret
                  rw [← HF.out]
                  exact ⟨rfl, HBN.out⟩
              · have hd2 : (f2 == g2) = false := by simpa using h2
                clear h2
                clear he
                go_quiet (fail)
                have HBN := hide (HB9.out.trans ((below_drewN (Below.refl w8.heap.size w8) nq).mono HB9.out.size))
                clear q0 q1 q2 q3 ql r0 r1 r2 r3 rl y0 y1 y2 y3 yl
                generalize w8.drewN nq = w9 at *
                go_wp2_with fail
                go_ret
                rw [← HF.out]
                exact ⟨rfl, HBN.out⟩
            · have hd1 : (f1 == g1) = false := by simpa using h1
              clear h1
              clear he
              go_quiet (fail)
              have HBN := hide (HB9.out.trans ((below_drewN (Below.refl w8.heap.size w8) nq).mono HB9.out.size))
              clear q0 q1 q2 q3 ql r0 r1 r2 r3 rl y0 y1 y2 y3 yl
              generalize w8.drewN nq = w9 at *
              go_wp2_with fail
              go_ret
              rw [← HF.out]
              exact ⟨rfl, HBN.out⟩
        case neg =>
        obtain rfl : j3 = n3 := by omega
        have HF := hide (show true = r from by
          rw [← HR.out]
          have hb := HEQ.out
          rw [List.take_of_length_le (by rw [HM.out.l3]; exact Nat.le_refl _), List.take_of_length_le (by rw [HP.out.l3]; exact Nat.le_refl _)] at hb
          unfold sameM
          rw [HSL.out, HPE.out, HHE.out, hb]; simp)
        go_wp2_with fail
        go_ret
        rw [← HF.out]
        exact ⟨rfl, HB7.out⟩

theorem ok_no {m : Mon} (h : ¬ OkM m) : m.ok = false := by
  cases he : m.ok with
  | false => rfl
  | true => exact absurd (ok_iff.1 he) h
set_option maxRecDepth 40000 in
set_option maxHeartbeats 4000000 in
theorem rrightM_any (a0 a1 a2 a3 : Option Addr) (n0 n1 n2 n3 c0 c1 c2 c3 : Nat) (ts : List Hm) (m : Mon) (W : World) (h : MonX W W.heap.size a0 a1 a2 a3 n0 n1 n2 n3 ts m) (hs : SmallX n0 n1 n2 n3 ts) (r : Bool) (hr : m.ok = r) :
    Calls Try.prog 22 #[.agg #[.slice a0 n0 c0, .slice a1 n1 c1, .slice a2 n2 c2, .slice a3 n3 c3]] W fun e W' => e = .returned (.bool r) ∧ Below W.heap.size W W' := by
  obtain ⟨w2, hw2⟩ : ∃ w1, W.alloc (.cells #[.slice a0 n0 c0, .slice a1 n1 c1, .slice a2 n2 c2, .slice a3 n3 c3] 32) = w1 := ⟨_, rfl⟩
  have e1 : Below W.heap.size W w2 := by rw [← hw2]; exact (Below.refl _ _).alloc (Nat.le_refl _) _
  have R1 := hide (show RowAt w2 W.heap.size 32 #[.slice a0 n0 c0, .slice a1 n1 c1, .slice a2 n2 c2, .slice a3 n3 c3] by have h := RowAt.new W 32 #[.slice a0 n0 c0, .slice a1 n1 c1, .slice a2 n2 c2, .slice a3 n3 c3]; rw [hw2] at h; exact h)
  have HB := hide e1
  have HM := hide ((h.below HB.out).more HB.out.size)
  have HS := hide hs
  have HR := hide hr
  clear e1 h hs hr
  subst hw2
  go_enter Try.func22, Try.ntmps22
  go_upto_region 1 with (fail)
  generalize W.alloc (.cells #[.slice a0 n0 c0, .slice a1 n1 c1, .slice a2 n2 c2, .slice a3 n3 c3] 32) = w2 at *
  obtain ⟨x0, x1, x2, x3⟩ := row4 R1.out
  have xl := R1.out.lt
  obtain ⟨sb, hsb⟩ : ∃ b, arOk m.sl = b := ⟨_, rfl⟩
  have HSB := hide hsb
  go_wp2_with fail
  with_reducible refine (rright_any w2.heap.size a0 c0 n0 m.sl w2 HM.out.sl HM.out.l0 (Nat.le_refl _) sb hsb HS.out.s0).mono ?_
  rintro e w3 ⟨rfl, hb⟩
  have HB3 := hide (HB.out.trans (hb.mono HB.out.size))
  replace R1 := hide (R1.out.below hb)
  replace HM := hide ((HM.out.below hb).more hb.size)
  clear hb hsb x0 x1 x2 x3 xl HB
  obtain ⟨x0, x1, x2, x3⟩ := row4 R1.out
  have xl := R1.out.lt
  cases sb
  case false =>
    have HF := hide (show false = r from by rw [← HR.out]; exact (ok_no (fun h => by have := h.ar; rw [HSB.out] at this; cases this)).symm)
    go_wp2_with fail
    go_ret
    rw [← HF.out]
    exact ⟨rfl, HB3.out⟩
  case true =>
  by_cases hlo : (n1 : Int) < 1
  case pos =>
    have HF := hide (show false = r from by rw [← HR.out]; exact (ok_no (fun h => by have := h.lo; rw [HM.out.l1] at this; omega)).symm)
    go_wp2_with fail
    go_ret
    rw [← HF.out]
    exact ⟨rfl, HB3.out⟩
  case neg =>
  by_cases hhi : (8 : Int) < (n1 : Int)
  case pos =>
    have HF := hide (show false = r from by rw [← HR.out]; exact (ok_no (fun h => by have := h.hi; rw [HM.out.l1] at this; omega)).symm)
    go_wp2_with fail
    go_ret
    rw [← HF.out]
    exact ⟨rfl, HB3.out⟩
  case neg =>
  by_cases hne : n2 = n1
  case neg =>
    have hd : ((n2 : Int) == (n1 : Int)) = false := by rw [beq_eq_false_iff_ne]; omega
    have hd2 : ((n2 : Int) != (n1 : Int)) = true := by rw [bne, hd]; rfl
    have hd3 : ¬ (n2 : Int) = (n1 : Int) := by omega
    have HF := hide (show false = r from by rw [← HR.out]; exact (ok_no (fun h => hne (by have := h.has; rw [HM.out.l1, HM.out.hs, rowsQ_len, HM.out.has.len] at this; exact this))).symm)
    clear hne
    go_wp2_with fail
    go_ret
    rw [← HF.out]
    exact ⟨rfl, HB3.out⟩
  case pos =>
  subst hne
  by_cases hb16 : (16 : Int) < (n3 : Int)
  case pos =>
    have HF := hide (show false = r from by rw [← HR.out]; exact (ok_no (fun h => by have := h.bl; rw [HM.out.l3] at this; omega)).symm)
    go_wp2_with fail
    go_ret
    rw [← HF.out]
    exact ⟨rfl, HB3.out⟩
  case neg =>
  go_wp2_with fail
  clear x0 x1 x2 x3 xl
  go_loopw [39] (fun i wr => ∃ j : Nat, j ≤ n2 ∧ i = .int .i64 j ∧ rowsTo m j = true ∧ Below w3.heap.size w3 wr) (fun i _ => n2 - (intOf i).toNat)
  case atStart => exact ⟨0, Nat.zero_le _, rfl, by simp [rowsTo], Below.refl _ _⟩
  case round =>
    obtain ⟨j, hj, rfl, hrt, hbr⟩ := hrel
    obtain ⟨w5, hw5⟩ : ∃ w, w = wr := ⟨_, rfl⟩
    subst hw5
    have HRT := hide hrt
    have HBR := hide hbr
    clear hrt hbr
    have R1B := hide (R1.out.below HBR.out)
    obtain ⟨x0, x1, x2, x3⟩ := row4 R1B.out
    have xl := R1B.out.lt
    have HB5 := hide (HB3.out.trans (HBR.out.mono HB3.out.size))
    by_cases hlt : j < n2
    case pos =>
      have hjm : (j : Int) < (n2 : Int) := by omega
      obtain ⟨p1, o1, hA1, hp1, z1⟩ := (HM.out.below HBR.out).pin.boolAt HM.out.l1 hlt
      obtain ⟨p2, o2, hA2, hp2, z2, hr2⟩ := (HM.out.has.below HBR.out).at_ hlt
      subst hA1 hA2
      have HL2 := hide (HS.out.rows _ (getH_mem (by rw [HM.out.has.len]; exact hlt)))
      have HC2 := hide (HS.out.caps _ (getH_mem (by rw [HM.out.has.len]; exact hlt)))
      have HR2 := hide (hr2.more HBR.out.size)
      have HSU := hide (rowsTo_succ m j)
      rw [HM.out.hs, rowsQ_at] at HSU
      have HNO := hide (show rowsTo m (j + 1) = false → m.ok = false from fun h => ok_no (fun ho => by
        have h1 := rowsTo_iff.2 ho.rows
        rw [rowsTo_no h (by rw [HM.out.l1]; exact hlt)] at h1
        cases h1))
      have bl1 : p1 < w5.heap.size := Nat.lt_of_lt_of_le hp1 HBR.out.size
      have bl2 : p2 < w5.heap.size := Nat.lt_of_lt_of_le hp2 HBR.out.size
      clear hr2 hp1 hp2
      generalize ts.getD j hmZ = v2 at *
      obtain ⟨uA, uc, uq⟩ := v2
      dsimp only at *
      generalize m.pin.getD j false = up at *
      obtain ⟨rb, hrb⟩ : ∃ b, rowB up uq = b := ⟨_, rfl⟩
      rw [hrb] at HSU
      obtain ⟨ul, hul⟩ : ∃ l, uq.length = l := ⟨_, rfl⟩
      rw [hul] at z2 HR2 HL2 HC2
      go_wp2_with fail
      with_reducible refine (rrow_any uA uc ul up uq w5 HR2.out hul HL2.out HC2.out rb hrb).mono ?_
      rintro e w6 ⟨rfl, hb⟩
      have HB6 := hide (HBR.out.trans (hb.mono HBR.out.size))
      clear hb hrb z1 z2 bl1 bl2
      cases rb
      case false =>
        have HBF := hide (HB3.out.trans (HB6.out.mono HB3.out.size))
        have HF := hide (show false = r from by rw [← HR.out]; exact (HNO.out (by rw [HSU.out]; simp)).symm)
        go_wp2_with fail
        go_ret
        rw [← HF.out]
        exact ⟨rfl, HBF.out⟩
      case true =>
        have HN := hide (show rowsTo m (j + 1) = true from by rw [HSU.out, HRT.out]; rfl)
        go_wp2_with fail
        go_roundw
        case rel => exact ⟨j + 1, by omega, by go_num, HN.out, HB6.out⟩
        case measure => simp [intOf]; omega
    case neg =>
    obtain rfl : n2 = j := by omega
    have HX := hide (HM.out.bad.upX HBR.out)
    clear hlt
    go_wp2_with fail
    clear x0 x1 x2 x3 xl
    go_loopw [56] (fun i wr => ∃ j : Nat, j ≤ n3 ∧ i = .int .i64 j ∧ (m.bad.take j).all (wtB n2) = true ∧ Below w5.heap.size w5 wr) (fun i _ => n3 - (intOf i).toNat)
    case atStart => exact ⟨0, Nat.zero_le _, rfl, by simp, Below.refl _ _⟩
    case round =>
      obtain ⟨j3, hj, rfl, hall, hbr⟩ := hrel
      obtain ⟨w7, hw7⟩ : ∃ w, w = wr := ⟨_, rfl⟩
      subst hw7
      have HAL := hide hall
      have HBS := hide hbr
      clear hall hbr
      have HB7 := hide (HB5.out.trans (HBS.out.mono HB5.out.size))
      by_cases hlt : j3 < n3
      case pos =>
        have hjm : (j3 : Int) < (n3 : Int) := by omega
        obtain ⟨p1, o1, hA1, hp1, d0, d1, d2, d3⟩ := (HX.out.upX HBS.out).watchAt HM.out.l3 hlt
        subst hA1
        have HT1 := hide (take_snoc m.bad (0, 0, 0, 0) j3 (by rw [HM.out.l3]; exact hlt))
        have HNO := hide (show wtB n2 (m.bad.getD j3 (0, 0, 0, 0)) = false → m.ok = false from fun h => ok_no (fun ho => by
          have h1 := ho.bad (m.bad.getD j3 (0, 0, 0, 0)) (by rw [List.getD_eq_getElem?_getD, List.getElem?_eq_getElem (by rw [HM.out.l3]; exact hlt)]; exact List.getElem_mem _)
          rw [HM.out.l1, h] at h1
          cases h1))
        generalize m.bad.getD j3 (0, 0, 0, 0) = u1 at *
        obtain ⟨f1, f2, f3, f4⟩ := u1
        dsimp only at *
        go_upto_region 13 with (refine wpList_store_new rfl 45 _ _ rfl _ #[.int .i64 f1, .int .i64 f2, .int .i64 f3, .int .u64 f4] w7.heap.size rfl rfl rfl (by kernel_rfl) rfl (by simp [Value.oneCell']) ?_)
        have hbn : Below w7.heap.size w7 (w7.alloc (.cells #[.int .i64 f1, .int .i64 f2, .int .i64 f3, .int .u64 f4] 45)) := (Below.refl _ _).alloc (Nat.le_refl _) _
        have RN := hide (RowAt.new w7 45 #[.int .i64 f1, .int .i64 f2, .int .i64 f3, .int .u64 f4])
        have HB8 := hide (HBS.out.trans (hbn.mono HBS.out.size))
        clear d0 d1 d2 d3 hp1 hbn
        generalize w7.alloc (.cells #[.int .i64 f1, .int .i64 f2, .int .i64 f3, .int .u64 f4] 45) = w8 at *
        obtain ⟨r0, r1, r2, r3⟩ := row4 RN.out
        have rl := RN.out.lt
        have HB9 := hide (HB5.out.trans (HB8.out.mono HB5.out.size))
        by_cases hk : f1 = 4 ∨ f1 = 5
        case neg =>
          have h4 : (f1 == 4) = false := by rw [beq_eq_false_iff_ne]; exact fun e => hk (.inl e)
          have h5 : (f1 == 5) = false := by rw [beq_eq_false_iff_ne]; exact fun e => hk (.inr e)
          have m4 : (f1 != 4) = true := by rw [bne, h4]; rfl
          have m5 : (f1 != 5) = true := by rw [bne, h5]; rfl
          have HF := hide (show false = r from by rw [← HR.out]; exact (HNO.out (by unfold wtB; have k4 : ¬ f1 = 4 := fun e => hk (.inl e); have k5 : ¬ f1 = 5 := fun e => hk (.inr e); simp [k4, k5])).symm)
          clear hk
          go_wp2_with fail
          go_ret
          rw [← HF.out]
          exact ⟨rfl, HB9.out⟩
        case pos =>
        have HK := hide hk
        have HCUT : Hid (∀ b : Bool, entB (f3, f4) = b → wtB n2 (f1, f2, f3, f4) = (decide (0 ≤ f2) && (decide (f2 < (n2 : Int)) && b))) := hide (fun b hb => by
          unfold wtB
          rcases HK.out with e | e <;> simp [e, hb])
        by_cases k4 : f1 = 4
        case pos =>
          subst k4
          clear hk
          by_cases hg0 : f2 < 0
          case pos =>
            have HF := hide (show false = r from by rw [← HR.out]; exact (HNO.out (by rw [HCUT.out _ rfl, decide_eq_false (show ¬ 0 ≤ f2 by omega)]; rfl)).symm)
            go_wp2_with fail
            go_ret
            rw [← HF.out]
            exact ⟨rfl, HB9.out⟩
          case neg =>
          by_cases hg1 : (n2 : Int) ≤ f2
          case pos =>
            have HF := hide (show false = r from by rw [← HR.out]; exact (HNO.out (by rw [HCUT.out _ rfl, decide_eq_false (show ¬ f2 < (n2 : Int) by omega)]; simp)).symm)
            go_wp2_with fail
            go_ret
            rw [← HF.out]
            exact ⟨rfl, HB9.out⟩
          case neg =>
          obtain ⟨eb, heb⟩ : ∃ b, entB (f3, f4) = b := ⟨_, rfl⟩
          have HW := hide (HCUT.out eb heb)
          go_wp2_with fail
          with_reducible refine (rentry_any f3 f4 w8 eb heb).mono ?_
          rintro e w9 ⟨rfl, hb⟩
          have HBA := hide (HB8.out.trans (hb.mono HB8.out.size))
          have HBB := hide (HB5.out.trans (HBA.out.mono HB5.out.size))
          clear hb heb r0 r1 r2 r3 rl
          cases eb
          case false =>
            have HF := hide (show false = r from by rw [← HR.out]; exact (HNO.out (by rw [HW.out]; simp)).symm)
            go_wp2_with fail
            go_ret
            rw [← HF.out]
            exact ⟨rfl, HBB.out⟩
          case true =>
          have HN := hide (show (m.bad.take (j3 + 1)).all (wtB n2) = true from by
            have h0 : 0 ≤ f2 := by omega
            have h1 : f2 < (n2 : Int) := by omega
            rw [HT1.out, List.all_append, HAL.out, List.all_cons, HW.out]; simp [h0, h1])
          go_wp2_with fail
          go_roundw
          case rel => exact ⟨j3 + 1, by omega, by go_num, HN.out, HBA.out⟩
          case measure => simp [intOf]; omega
        case neg =>
          have k5 : f1 = 5 := hk.resolve_left k4
          subst k5
          clear hk k4
          by_cases hg0 : f2 < 0
          case pos =>
            have HF := hide (show false = r from by rw [← HR.out]; exact (HNO.out (by rw [HCUT.out _ rfl, decide_eq_false (show ¬ 0 ≤ f2 by omega)]; rfl)).symm)
            go_wp2_with fail
            go_ret
            rw [← HF.out]
            exact ⟨rfl, HB9.out⟩
          case neg =>
          by_cases hg1 : (n2 : Int) ≤ f2
          case pos =>
            have HF := hide (show false = r from by rw [← HR.out]; exact (HNO.out (by rw [HCUT.out _ rfl, decide_eq_false (show ¬ f2 < (n2 : Int) by omega)]; simp)).symm)
            go_wp2_with fail
            go_ret
            rw [← HF.out]
            exact ⟨rfl, HB9.out⟩
          case neg =>
          obtain ⟨eb, heb⟩ : ∃ b, entB (f3, f4) = b := ⟨_, rfl⟩
          have HW := hide (HCUT.out eb heb)
          go_wp2_with fail
          with_reducible refine (rentry_any f3 f4 w8 eb heb).mono ?_
          rintro e w9 ⟨rfl, hb⟩
          have HBA := hide (HB8.out.trans (hb.mono HB8.out.size))
          have HBB := hide (HB5.out.trans (HBA.out.mono HB5.out.size))
          clear hb heb r0 r1 r2 r3 rl
          cases eb
          case false =>
            have HF := hide (show false = r from by rw [← HR.out]; exact (HNO.out (by rw [HW.out]; simp)).symm)
            go_wp2_with fail
            go_ret
            rw [← HF.out]
            exact ⟨rfl, HBB.out⟩
          case true =>
          have HN := hide (show (m.bad.take (j3 + 1)).all (wtB n2) = true from by
            have h0 : 0 ≤ f2 := by omega
            have h1 : f2 < (n2 : Int) := by omega
            rw [HT1.out, List.all_append, HAL.out, List.all_cons, HW.out]; simp [h0, h1])
          go_wp2_with fail
          go_roundw
          case rel => exact ⟨j3 + 1, by omega, by go_num, HN.out, HBA.out⟩
          case measure => simp [intOf]; omega
      case neg =>
      obtain rfl : n3 = j3 := by omega
      have HF := hide (show true = r from by
        rw [← HR.out]
        symm
        refine ok_iff.2 ⟨HSB.out, by rw [HM.out.l1]; omega, by rw [HM.out.l1]; omega, by rw [HM.out.l1, HM.out.hs, rowsQ_len, HM.out.has.len], by rw [HM.out.l3]; omega, ?_, ?_⟩
        · have h1 := HAL.out
          rw [List.take_of_length_le (by rw [HM.out.l3]; exact Nat.le_refl _), List.all_eq_true] at h1
          rw [HM.out.l1]
          exact h1
        · rw [HM.out.l1]
          exact rowsTo_iff.1 HRT.out)
      go_wp2_with fail
      go_ret
      rw [← HF.out]
      exact ⟨rfl, HB7.out⟩
end Go.Proofs.Ytfpbabafeecncaa
