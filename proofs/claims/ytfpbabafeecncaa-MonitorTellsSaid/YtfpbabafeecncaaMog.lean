/-
  Good touches; the steps of a monitor that changes: pinned, pin, unpin, slabs.
-/
import Derived.Test.YtfpbabafeecncaaMof
import Derived.Test.YtfpbabafeecncaaTail
import Derived.BigQuiet
import Derived.BigRegion
import Derived.Deep.Cut
import Derived.Deep.CutRange
set_option linter.unusedSimpArgs false
set_option linter.unusedVariables false
namespace Go.Proofs.Ytfpbabafeecncaa
open Go Go.RowKit
attribute [local go_sem] via_cell via_frozen

theorem row5 {W : World} {gh : Nat} {t : TypeId} {v0 v1 v2 v3 v4 : Value} (h : RowAt W gh t #[v0, v1, v2, v3, v4]) : W.cell? ⟨gh, 0, none⟩ = some v0 ∧ W.cell? ⟨gh, 1, none⟩ = some v1 ∧ W.cell? ⟨gh, 2, none⟩ = some v2 ∧ W.cell? ⟨gh, 3, none⟩ = some v3 ∧ W.cell? ⟨gh, 4, none⟩ = some v4 := ⟨by have := h.cell 0; simpa using this, by have := h.cell 1; simpa using this, by have := h.cell 2; simpa using this, by have := h.cell 3; simpa using this, by have := h.cell 4; simpa using this⟩
theorem row4 {W : World} {gh : Nat} {t : TypeId} {v0 v1 v2 v3 : Value} (h : RowAt W gh t #[v0, v1, v2, v3]) : W.cell? ⟨gh, 0, none⟩ = some v0 ∧ W.cell? ⟨gh, 1, none⟩ = some v1 ∧ W.cell? ⟨gh, 2, none⟩ = some v2 ∧ W.cell? ⟨gh, 3, none⟩ = some v3 := ⟨by have := h.cell 0; simpa using this, by have := h.cell 1; simpa using this, by have := h.cell 2; simpa using this, by have := h.cell 3; simpa using this⟩
theorem tagM_any (A : Option Addr) (c n : Nat) (s z : Int) (m : Mon) (W : World) (h : Rd W W.heap.size 2 A n (Cs encE m.sl)) (hx : m.sl.length = n) (hn : n ≤ 4096) :
    Calls Try.prog 12 #[.agg #[.slice A n c], .agg #[.int .i64 s, .int .u64 z]] W fun e W' => e = .returned (.tuple #[.int .i64 (tagM m (s, z)), .bool (metB m (s, z))]) ∧ Below W.heap.size W W' :=
  tag_any A c n s z m.sl W h hx hn _ rfl _ rfl
set_option maxRecDepth 20000 in
set_option maxHeartbeats 2000000 in
theorem mgoodX_any (a0 a1 a2 a3 : Option Addr) (n0 n1 n2 n3 c0 c1 c2 c3 : Nat) (ts : List Hm) (m : Mon) (k s z : Int) (g : Nat) (W : World) (h : MonX W W.heap.size a0 a1 a2 a3 n0 n1 n2 n3 ts m) (hs : SmallX n0 n1 n2 n3 ts) (hg : g < n1) (hg2 : g < n2) (r : Bool) (hr : goodM m (k, (g : Int), s, z) = r) :
    Calls Try.prog 41 #[.agg (moC a0 a1 a2 a3 n0 n1 n2 n3 c0 c1 c2 c3), .agg #[.int .i64 k, .int .i64 (g : Int), .int .i64 s, .int .u64 z]] W fun e W' => e = .returned (.bool r) ∧ Below W.heap.size W W' := by
  obtain ⟨w1, hw1⟩ : ∃ w1, W.alloc (.cells (moC a0 a1 a2 a3 n0 n1 n2 n3 c0 c1 c2 c3) 32) = w1 := ⟨_, rfl⟩
  obtain ⟨w2, hw2⟩ : ∃ w2, w1.alloc (.cells #[.int .i64 k, .int .i64 (g : Int), .int .i64 s, .int .u64 z] 45) = w2 := ⟨_, rfl⟩
  have e1 : w1.heap.size = W.heap.size + 1 := by rw [← hw1]; simp
  have f1 : Below W.heap.size W w1 := by rw [← hw1]; exact (Below.refl _ _).alloc (Nat.le_refl _) _
  have f2 : Below w1.heap.size w1 w2 := by rw [← hw2]; exact (Below.refl _ _).alloc (Nat.le_refl _) _
  have R1 := hide (show RowAt w2 W.heap.size 32 (moC a0 a1 a2 a3 n0 n1 n2 n3 c0 c1 c2 c3) from by have h := RowAt.new W 32 (moC a0 a1 a2 a3 n0 n1 n2 n3 c0 c1 c2 c3); rw [hw1] at h; exact h.below f2)
  have R2 := hide (show RowAt w2 (W.heap.size + 1) 45 #[.int .i64 k, .int .i64 (g : Int), .int .i64 s, .int .u64 z] from by have h := RowAt.new w1 45 #[.int .i64 k, .int .i64 (g : Int), .int .i64 s, .int .u64 z]; rw [hw2, e1] at h; exact h)
  have HB := hide (f1.trans (f2.mono f1.size))
  have hgt : g < ts.length := by rw [h.has.len]; exact hg2
  obtain ⟨b1, o1, rfl, hb1, d1⟩ := h.pin.boolAt h.l1 hg
  obtain ⟨b2, o2, rfl, hb2, d2, hrow⟩ := h.has.at_ hg2
  have hql := hs.rows _ (getH_mem hgt)
  have hqe : rowM m g = (ts.getD g hmZ).q := by unfold rowM; rw [h.hs, rowsQ_at]
  unfold goodM at hr
  dsimp only at hr
  rw [Int.toNat_natCast, hqe] at hr
  obtain ⟨p, hp⟩ : ∃ p, pinM m g = p := ⟨_, rfl⟩
  have hp2 : m.pin.getD g false = p := hp
  rw [hp2] at d1
  generalize ts.getD g hmZ = t at *
  obtain ⟨tA, tc, tq⟩ := t
  dsimp only at *
  obtain ⟨q, hq⟩ : ∃ x, tq.length = x := ⟨_, rfl⟩
  rw [hq] at d2 hrow hql
  obtain ⟨hh, hhh⟩ : ∃ b, hasE tq (s, z) = b := ⟨_, rfl⟩
  obtain ⟨mb, hmb⟩ : ∃ b, metB m (s, z) = b := ⟨_, rfl⟩
  obtain ⟨v, hv⟩ : ∃ v, tagM m (s, z) = v := ⟨_, rfl⟩
  obtain ⟨is, his⟩ : ∃ b, (decide (v = 1) || (decide (v = 2) && decide (k = 4))) = b := ⟨_, rfl⟩
  rw [hp, hhh, hmb, hv, his] at hr
  have HT := hide (fun (w : World) (hb : Below W.heap.size W w) => show Calls Try.prog 12 #[.agg #[.slice a0 n0 c0], .agg #[.int .i64 s, .int .u64 z]] w _ from by
    have h2 := tagM_any a0 c0 n0 s z m w ((h.below hb).sl.more hb.size) h.l0 hs.s0
    rw [hv, hmb] at h2
    exact h2)
  have HC := hide (fun (w : World) (hb : Below W.heap.size W w) => show Calls Try.prog 15 #[.slice tA q tc, .agg #[.int .i64 s, .int .u64 z]] w _ from by
    have h2 := ContainsEE W.heap.size tA tc s z tq w (by rw [hq]; exact hrow.below hb) hb.size (by rw [hq]; exact hql) hh hhh
    rw [hq] at h2
    exact h2)
  have HR := hide hr
  have HIS := hide his
  have D1 := hide d1
  have D2 := hide d2
  have L1 := hide hb1
  have L2 := hide hb2
  clear h hs hr his hp hp2 hqe hrow hql hq hhh hmb hv d1 d2 hb1 hb2 e1 f1 f2
  subst hw2
  subst hw1
  have hgI1 : (g : Int) < (n1 : Int) := by omega
  have hgI2 : (g : Int) < (n2 : Int) := by omega
  go_enter Try.func41, Try.ntmps41
  go_upto_region 1 with (fail)
  generalize (W.alloc (.cells (moC a0 (some ⟨b1, o1, none⟩) (some ⟨b2, o2, none⟩) a3 n0 n1 n2 n3 c0 c1 c2 c3) 32)).alloc (.cells #[.int .i64 k, .int .i64 (g : Int), .int .i64 s, .int .u64 z] 45) = w2 at *
  obtain ⟨x0, x1, x2, x3⟩ := row4 R1.out
  obtain ⟨y0, y1, y2, y3⟩ := row4 R2.out
  have xl := R1.out.lt
  have yl := R2.out.lt
  have HT2 := hide (HT.out w2 HB.out)
  go_wp2_with fail
  with_reducible refine HT2.out.mono ?_
  rintro e w3 ⟨rfl, hb⟩
  replace R1 := hide (R1.out.below hb)
  replace R2 := hide (R2.out.below hb)
  replace HB := hide (HB.out.trans (hb.mono HB.out.size))
  clear x0 x1 x2 x3 xl y0 y1 y2 y3 yl hb HT HT2
  obtain ⟨x0, x1, x2, x3⟩ := row4 R1.out
  obtain ⟨y0, y1, y2, y3⟩ := row4 R2.out
  have xl := R1.out.lt
  have yl := R2.out.lt
  go_upto_region 2 with (fail)
  go_cut [7] from 16 to 27 (fun s7 wx => s7 = .bool is ∧ w3 = wx)
  case first =>
    have his := HIS.out
    by_cases v1 : v = 1
    · have hd : (v == 1) = true := by simpa using v1
      have hI : is = true := by rw [← his]; simp [v1]
      clear v1 his
      go_wp2_with fail
      go_meet
      case rel => exact ⟨by rw [hI], rfl⟩
    · have hd : (v == 1) = false := by simpa using v1
      by_cases v2 : v = 2
      · have hd2 : (v == 2) = true := by simpa using v2
        obtain ⟨bk, hbk⟩ : ∃ b, (k == 4) = b := ⟨_, rfl⟩
        have hI : is = bk := by
          rw [← his, ← hbk, v2]
          simp [eq_comm]
          rw [Bool.eq_iff_iff]; simp
        clear v1 v2 his
        cases bk
        all_goals
          go_wp2_with fail
          go_meet
          exact ⟨by rw [hI], rfl⟩
      · have hd2 : (v == 2) = false := by simpa using v2
        have hI : is = false := by rw [← his]; simp [v1, v2]
        clear v1 v2 his
        go_wp2_with fail
        go_meet
        case rel => exact ⟨by rw [hI], rfl⟩
  case rest =>
    rename_i K hK
    refine hK _ _ ?_
    clear hK K
    obtain ⟨rfl, rfl⟩ := hcut
    have d1 := keptW HB.out L1.out D1.out
    have d2 := keptW HB.out L2.out D2.out
    have hl1 : b1 < w3.heap.size := Nat.lt_of_lt_of_le L1.out HB.out.size
    have hl2 : b2 < w3.heap.size := Nat.lt_of_lt_of_le L2.out HB.out.size
    have HV := hide (fun z => via_below w3 z)
    have HFIN := hide (fun w (hb : Below w3.heap.size w3 w) => HB.out.trans (hb.mono HB.out.size))
    cases p
    · have HF := hide (show false = r from by rw [← HR.out]; rfl)
      go_wp2_with fail
      refine wp_region_via (by kernel_rfl) (by kernel_rfl) ?_
      repeat (go_big_quiet_step (fail))
      refine via_out fun w4 hb4 => ?_
      have HX := hide (HFIN.out w4 hb4)
      clear hb4
      go_wp2_with fail
      go_ret
      exact ⟨ret_bool HF.out, HX.out⟩
    · cases hh
      all_goals cases mb
      all_goals
        go_wp2_with fail
        refine wp_region_via (by kernel_rfl) (by kernel_rfl) ?_
        repeat (go_big_quiet_step ((go_at_call 15; with_reducible exact via_of (HC.out _ (HB.out.trans ((HV.out _).mono HB.out.size))))))
        refine via_out fun w4 hb4 => ?_
        have HX := hide (HFIN.out w4 hb4)
        clear hb4
        go_wp2_with fail
        go_ret
        exact ⟨ret_bool HR.out, HX.out⟩
end Go.Proofs.Ytfpbabafeecncaa
