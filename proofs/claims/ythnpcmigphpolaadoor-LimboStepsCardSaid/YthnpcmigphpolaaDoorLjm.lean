/-
  LimboSteps: what is retired, taken, and the epochs that go on.
-/
import Derived.Test.YthnpcmigphpolaaDoorLjmp
import Derived.Test.YthnpcmigphpolaaDoorOpen
import Derived.Deep.RegionHeld3
import Derived.Deep.CutRange
import Derived.Deep.CutBlock
set_option linter.unusedSimpArgs false
set_option linter.unusedVariables false
namespace Go.Proofs.YthnpcmigphpolaaDoor
open Go Go.RowKit
attribute [local go_sem] via_cell via_frozen

set_option maxRecDepth 100000 in
set_option maxHeartbeats 8000000 in
theorem Steps_walk (B : Nat) (A0 : Nat → Option Addr) (n0 c0 : Nat → Nat) (l0 : Lim) (A1 : Option Addr) (c1 n1 : Nat) (st0 : List Ent) (W : World) (hT : OnAt W W.heap.size) (h : LimRd W B A0 n0 l0.r) (hB : B ≤ W.heap.size) (hE : l0.E < 18446744073709551616)
    (hc : ∀ k, k < 3 → (n0 k : Int) ≤ (c0 k : Int) ∧ (c0 k : Int) ≤ 9223372036854775807) (hg : GenOk l0) (hr1 : Rd W W.heap.size 2 A1 n1 (Cs encE st0)) (hx1 : st0.length = n1) (hu1 : ∀ e ∈ st0, 0 ≤ e.2 ∧ e.2 < 18446744073709551616) (hn1 : n1 ≤ c1) (hm1 : c1 ≤ 9223372036854775807) :
    Calls Tryd.prog 4 #[.agg (limC l0.E A0 n0 c0), .slice A1 n1 c1] W fun e W' => e = .returned (.bool true) ∧ Below W.heap.size W W' := by
  have HB0 := hide (show Below W.heap.size W (W.alloc (.cells (limC l0.E A0 n0 c0) 26)) from (Below.refl _ _).alloc (Nat.le_refl _) _)
  have X := hide (RowAt.new W 26 (limC l0.E A0 n0 c0))
  have HX := hide (show Lb W B l0 A0 n0 from ⟨h, hB⟩)
  have HG := hide hg
  have HEQ := hide hE
  have HCC := hide (show CapL n0 c0 from hc)
  have HST := hide hr1
  have HSX := hide hx1
  have HSU := hide hu1
  have HBB := hide hB
  have HNC := hide hn1
  have HMC := hide hm1
  have HW := hide (wakes_any W.heap.size _ (hT.below HB0.out) HB0.out.size)
  clear hT h hg hE hc hr1 hx1 hu1 hB hn1 hm1
  go_enter Tryd.func4, Tryd.ntmps4
  go_wp2_with fail
  generalize W.alloc (.cells (limC l0.E A0 n0 c0) 26) = w0 at *
  with_reducible refine HW.out.mono ?_
  rintro e w1 ⟨rfl, hb⟩
  replace X := hide (X.out.below hb)
  have HBL := hide (HB0.out.trans (hb.mono HB0.out.size))
  replace HX := hide (HX.out.later (HBL.out.mono (Nat.le_refl _)))
  clear hb HW HB0
  have q0 : w1.cell? ⟨W.heap.size, 0, none⟩ = some (.int .u64 (l0.E : Int)) := by have := RowAt.cell X.out 0; simpa [limC] using this
  have q1 : w1.cell? ⟨W.heap.size, 1, none⟩ = some (.slice (A0 0) (n0 0) (c0 0)) := by have := RowAt.cell X.out 1; simpa [limC] using this
  have q2 : w1.cell? ⟨W.heap.size, 2, none⟩ = some (.slice (A0 1) (n0 1) (c0 1)) := by have := RowAt.cell X.out 2; simpa [limC] using this
  have q3 : w1.cell? ⟨W.heap.size, 3, none⟩ = some (.slice (A0 2) (n0 2) (c0 2)) := by have := RowAt.cell X.out 3; simpa [limC] using this
  have ql := X.out.lt
  have HC := hide (OwnUC w1 HX.out.rd HX.out.le HCC.out)
  go_wp2_with fail
  with_reducible refine HC.out.mono ?_
  rintro e w2 ⟨A5, n5, c5, rfl, ho, hb⟩
  replace X := hide (X.out.below hb)
  replace HX := hide (HX.out.later hb)
  replace HBL := hide (HBL.out.trans (hb.mono HBL.out.size))
  have HL := hide (show Lb w2 w2.heap.size l0.cut A5 n5 from ⟨ho.rd, Nat.le_refl _⟩)
  have CAP := hide ho.cap
  have LEN := hide ho.len
  clear ho
  clear hb HC
  clear q0 q1 q2 q3 ql
  obtain ⟨lc, hlc⟩ : ∃ lc, l0.cut = lc := ⟨_, rfl⟩
  have HLC := hide hlc
  rw [hlc] at HL ⊢
  clear hlc
  have HWG := hide (show W.heap.size < w2.heap.size from X.out.lt)
  have hbx : Below w2.heap.size w2 (w2.alloc (.cells (limC (lc).E A5 n5 c5) 26)) := (Below.refl _ _).alloc (Nat.le_refl _) _
  have R5 := hide (RowAt.new w2 26 (limC (lc).E A5 n5 c5))
  replace X := hide (X.out.below hbx)
  replace HX := hide (HX.out.later hbx)
  replace HL := hide (HL.out.later hbx)
  replace HBL := hide (HBL.out.trans (hbx.mono HBL.out.size))
  clear hbx
  go_upto_region 4 with (fail)
  generalize w2.alloc (.cells (limC (lc).E A5 n5 c5) 26) = w3 at *
  generalize w2.heap.size = g5 at *
  have hgle5 := hide (show g5 < w3.heap.size from R5.out.lt)
  obtain ⟨m, hm⟩ : ∃ m, min n1 20 = m := ⟨_, rfl⟩
  have hmI : min (n1 : Int) 20 = (m : Int) := by omega
  have hm1 : m ≤ n1 := by omega
  have hm2 : m ≤ 20 := by omega
  have hmc : (m : Int) ≤ (c1 : Int) := by have := HNC.out; omega
  have hcI : (c1 : Int) ≤ 9223372036854775807 := by have := HMC.out; omega
  have hn64 : (n1 : Int) ≤ 9223372036854775807 := by have := HNC.out; omega
  have HM20 := hide hm2
  have HTK := hide (show (st0.take m).length = m from by rw [List.length_take, HSX.out, Nat.min_eq_left hm1])
  have HCL := hide (CloneE W.heap.size A1 m c1 (Cs encE (st0.take m)) w3 ((HST.out.below HBL.out).first HSX.out hm1) HBL.out.size (Cs_one_cell encE_one _) (by omega))
  go_wp2_with fail
  with_reducible refine HCL.out.mono ?_
  rintro e w4 ⟨v, rfl, hown, hb⟩
  obtain ⟨A3, c3, rfl, _⟩ := own_form hown
  replace X := hide (X.out.below hb)
  replace HX := hide (HX.out.later hb)
  replace HL := hide (HL.out.later hb)
  replace R5 := hide (R5.out.below hb)
  replace HBL := hide (HBL.out.trans (hb.mono HBL.out.size))
  have HSB := hide (show Sb w4 w4.heap.size m A3 (st0.take m) from ⟨Rd.of_own hown, Nat.le_refl _⟩)
  have HSO := hide (show ∀ p, A3 = some p → p.block ≠ g5 from fun p hp => by have h1 := (own_fresh2 hown p hp).1; have h2 := hb.size; intro e; have := hgle5.out; omega)
  have HSU2 := hide (show ∀ e ∈ st0.take m, 0 ≤ e.2 ∧ e.2 < 18446744073709551616 from fun e he => HSU.out e (List.mem_of_mem_take he))
  obtain ⟨st, hst⟩ : ∃ s, st0.take m = s := ⟨_, rfl⟩
  rw [hst] at HSB HSU2 HTK
  generalize w4.heap.size = G at HSB
  clear hst hown hb HCL hmI hm1 hm2 hmc hcI hn64 hm HSU HST HSX HNC HMC hgle5
  obtain ⟨right, hri⟩ : ∃ r, lc.ok = r := ⟨_, rfl⟩
  have INV := hide (show StInv right lc from by rw [← hri, ← HLC.out]; exact ⟨short_cut l0, rfl, gen_cut HG.out, HEQ.out⟩)
  have HRI := hide hri
  clear hri
  have q0 : w4.cell? ⟨g5, 0, none⟩ = some (.int .u64 (lc.E : Int)) := by have := RowAt.cell R5.out 0; simpa [limC] using this
  have q1 : w4.cell? ⟨g5, 1, none⟩ = some (.slice (A5 0) (n5 0) (c5 0)) := by have := RowAt.cell R5.out 1; simpa [limC] using this
  have q2 : w4.cell? ⟨g5, 2, none⟩ = some (.slice (A5 1) (n5 1) (c5 1)) := by have := RowAt.cell R5.out 2; simpa [limC] using this
  have q3 : w4.cell? ⟨g5, 3, none⟩ = some (.slice (A5 2) (n5 2) (c5 2)) := by have := RowAt.cell R5.out 3; simpa [limC] using this
  have ql := R5.out.lt
  have HC := hide (right_any A5 n5 c5 lc w4 HL.out.top INV.out.E LEN.out right HRI.out)
  go_wp2_with fail
  with_reducible refine HC.out.mono ?_
  rintro e w5 ⟨rfl, hb⟩
  replace X := hide (X.out.below hb)
  replace HX := hide (HX.out.later hb)
  replace HL := hide (HL.out.later hb)
  replace R5 := hide (R5.out.below hb)
  replace HSB := hide (HSB.out.later hb)
  replace HBL := hide (HBL.out.trans (hb.mono HBL.out.size))
  clear hb HC
  clear q0 q1 q2 q3 ql
  have HST0 := hide (show StEx W w5 B G g5 m l0 A0 n0 c0 A3 st right from ⟨lc, A5, n5, c5, X.out, HX.out, R5.out, ⟨HL.out.top, Nat.le_refl _⟩, CAP.out, LEN.out, HSB.out, INV.out, HBL.out⟩)
  clear X HX R5 HL CAP LEN HSB INV HBL HLC HRI
  go_wp2_with fail
  go_loopw [45] (fun i wr => ∃ j : Nat, j ≤ m ∧ i = .int .i64 (j : Int) ∧ StEx W wr B G g5 m l0 A0 n0 c0 A3 st right) (fun i _ => m - (intOf i).toNat)
  case atStart => exact ⟨0, Nat.zero_le _, rfl, HST0.out⟩
  case round =>
    obtain ⟨j, hj, rfl, l, A, n, c, hst⟩ := hrel
    have X := hide hst.x
    have HX := hide hst.hx
    have R5 := hide hst.row
    have HL := hide hst.rd
    have CAP := hide hst.cap
    have LEN := hide hst.len
    have HSB := hide hst.st
    have INV := hide hst.inv
    have HBL := hide hst.below
    have HC5 := hide (cut_short hst.inv.short)
    clear hst HST0
    by_cases hlt : j < m
    · skip
      obtain ⟨b, o, rfl, hb, d0, d1⟩ := Rd.ent HSB.out.rd HTK.out hlt
      have hbl : b < wr.heap.size := Nat.lt_of_lt_of_le hb HSB.out.le
      have hjm : (j : Int) < (m : Int) := by omega
      have HJM := hide hlt
      have hjx : j < st.length := by rw [HTK.out]; exact hlt
      have HSG := hide (show 0 ≤ (st.getD j (0, 0)).2 ∧ (st.getD j (0, 0)).2 < 18446744073709551616 from HSU2.out _ (by rw [List.getD_eq_getElem?_getD, List.getElem?_eq_getElem hjx]; exact List.getElem_mem hjx))
      obtain ⟨x, hxx⟩ : ∃ x, st.getD j (0, 0) = x := ⟨_, rfl⟩
      rw [hxx] at d0 d1 HSG
      obtain ⟨s, g⟩ := x
      have HSG : Hid (0 ≤ g ∧ g < 18446744073709551616) := HSG
      dsimp only at d0 d1
      clear hxx hb hjx
      obtain ⟨ra, hra⟩ : ∃ r, retR l (s, g) = r := ⟨_, rfl⟩
      obtain ⟨rb, hrb⟩ : ∃ r, advR l = r := ⟨_, rfl⟩
      obtain ⟨rc, hrc⟩ : ∃ r, takR l = r := ⟨_, rfl⟩
      have HRA := hide hra
      have HRB := hide hrb
      have HRC := hide hrc
      clear hra hrb hrc
      have OA5 := hide R5.out.lt
      have GLT := hide HSB.out.le
      have hbx : Below wr.heap.size wr (wr.alloc (.cells #[.int .i64 s, .int .u64 g] 34)) := (Below.refl _ _).alloc (Nat.le_refl _) _
      have R8 := hide (RowAt.new wr 34 #[.int .i64 s, .int .u64 g])
      replace X := hide (X.out.below hbx)
      replace HX := hide (HX.out.later hbx)
      replace R5 := hide (R5.out.below hbx)
      replace HL := hide (HL.out.later hbx)
      replace HSB := hide (HSB.out.later hbx)
      replace HBL := hide (HBL.out.trans (hbx.mono HBL.out.size))
      clear hbx
      go_upto_region 9 with (fail)
      generalize wr.alloc (.cells #[.int .i64 s, .int .u64 g] 34) = u1 at *
      generalize wr.heap.size = g8 at *
      clear d0 d1 hbl
      have q0 : u1.cell? ⟨g5, 0, none⟩ = some (.int .u64 (l.E : Int)) := by have := RowAt.cell R5.out 0; simpa [limC] using this
      have q1 : u1.cell? ⟨g5, 1, none⟩ = some (.slice (A 0) (n 0) (c 0)) := by have := RowAt.cell R5.out 1; simpa [limC] using this
      have q2 : u1.cell? ⟨g5, 2, none⟩ = some (.slice (A 1) (n 1) (c 1)) := by have := RowAt.cell R5.out 2; simpa [limC] using this
      have q3 : u1.cell? ⟨g5, 3, none⟩ = some (.slice (A 2) (n 2) (c 2)) := by have := RowAt.cell R5.out 3; simpa [limC] using this
      have ql := R5.out.lt
      have HC := hide (show Calls Tryd.prog 8 #[.agg (limC l.E A n c)] u1 (OwnU u1 l) from by have h := OwnUC u1 HL.out.rd HL.out.le CAP.out; rwa [HC5.out] at h)
      go_wp2_with fail
      with_reducible refine HC.out.mono ?_
      rintro e u2 ⟨A9, n9, c9, rfl, ho, hb⟩
      replace X := hide (X.out.below hb)
      replace HX := hide (HX.out.later hb)
      replace R5 := hide (R5.out.below hb)
      replace HL := hide (HL.out.later hb)
      replace HSB := hide (HSB.out.later hb)
      replace R8 := hide (R8.out.below hb)
      replace HBL := hide (HBL.out.trans (hb.mono HBL.out.size))
      have HWAS := hide (show Lb u2 u2.heap.size l A9 n9 from ⟨ho.rd, Nat.le_refl _⟩)
      have LEN9 := hide ho.len
      clear ho
      clear hb HC
      clear q0 q1 q2 q3 ql
      have OA8 := hide R8.out.lt
      have hbx : Below u2.heap.size u2 (u2.alloc (.cells (limC (l).E A9 n9 c9) 26)) := (Below.refl _ _).alloc (Nat.le_refl _) _
      have R9 := hide (RowAt.new u2 26 (limC (l).E A9 n9 c9))
      replace X := hide (X.out.below hbx)
      replace HX := hide (HX.out.later hbx)
      replace R5 := hide (R5.out.below hbx)
      replace HL := hide (HL.out.later hbx)
      replace HSB := hide (HSB.out.later hbx)
      replace R8 := hide (R8.out.below hbx)
      replace HWAS := hide (HWAS.out.later hbx)
      replace HBL := hide (HBL.out.trans (hbx.mono HBL.out.size))
      clear hbx
      go_upto_region 10 with (fail)
      generalize u2.alloc (.cells (limC (l).E A9 n9 c9) 26) = u3 at *
      generalize u2.heap.size = g9 at *
      have q0 : u3.cell? ⟨g5, 0, none⟩ = some (.int .u64 (l.E : Int)) := by have := RowAt.cell R5.out 0; simpa [limC] using this
      have q1 : u3.cell? ⟨g5, 1, none⟩ = some (.slice (A 0) (n 0) (c 0)) := by have := RowAt.cell R5.out 1; simpa [limC] using this
      have q2 : u3.cell? ⟨g5, 2, none⟩ = some (.slice (A 1) (n 1) (c 1)) := by have := RowAt.cell R5.out 2; simpa [limC] using this
      have q3 : u3.cell? ⟨g5, 3, none⟩ = some (.slice (A 2) (n 2) (c 2)) := by have := RowAt.cell R5.out 3; simpa [limC] using this
      have ql := R5.out.lt
      have e0 := row20 R8.out
      have e1 := row21 R8.out
      have el := R8.out.lt
      have HC := hide (show Calls Tryd.prog 15 #[.agg (limC l.E A n c), .agg #[.int .i64 s, .int .u64 g]] u3 (OutU u3 ra) from by have h := RetireU s g u3 _ HL.out.rd HL.out.le INV.out.E INV.out.gen LEN.out HSG.out (c := c); rwa [HRA.out] at h)
      go_wp2_with fail
      with_reducible refine HC.out.mono ?_
      rintro e u4 ⟨A10, n10, c10, rfl, hg, hb⟩
      have OA := hide (And.intro R9.out.lt hb.size)
      replace X := hide (X.out.below hb)
      replace HX := hide (HX.out.later hb)
      replace R5 := hide (R5.out.below hb)
      replace HL := hide (HL.out.later hb)
      replace HSB := hide (HSB.out.later hb)
      replace R8 := hide (R8.out.below hb)
      replace HWAS := hide (HWAS.out.later hb)
      replace R9 := hide (R9.out.below hb)
      replace HBL := hide (HBL.out.trans (hb.mono HBL.out.size))
      have LA := hide (show Lb u4 u4.heap.size (valL ra) A10 n10 from ⟨hg.rd, Nat.le_refl _⟩)
      have GA := hide (show Gb u4 u3.heap.size u4.heap.size A10 n10 from ⟨hg.gen, Nat.le_refl _⟩)
      have LEN10 := hide hg.len
      have CAP10 := hide hg.cap
      clear hg
      clear hb HC
      clear q0 q1 q2 q3 ql
      clear e0 e1 el
      generalize u3.heap.size = t10 at *
      have hbx : Below u4.heap.size u4 (u4.alloc (.cells (limC (valL ra).E A10 n10 c10) 26)) := (Below.refl _ _).alloc (Nat.le_refl _) _
      have R10 := hide (RowAt.new u4 26 (limC (valL ra).E A10 n10 c10))
      replace X := hide (X.out.below hbx)
      replace HX := hide (HX.out.later hbx)
      replace R5 := hide (R5.out.below hbx)
      replace HL := hide (HL.out.later hbx)
      replace HSB := hide (HSB.out.later hbx)
      replace R8 := hide (R8.out.below hbx)
      replace HWAS := hide (HWAS.out.later hbx)
      replace R9 := hide (R9.out.below hbx)
      replace LA := hide (LA.out.later hbx)
      replace GA := hide (GA.out.later hbx)
      replace HBL := hide (HBL.out.trans (hbx.mono HBL.out.size))
      clear hbx
      go_upto_region 11 with (fail)
      generalize u4.alloc (.cells (limC (valL ra).E A10 n10 c10) 26) = u5 at *
      generalize u4.heap.size = g10 at *
      have q0 : u5.cell? ⟨g5, 0, none⟩ = some (.int .u64 (l.E : Int)) := by have := RowAt.cell R5.out 0; simpa [limC] using this
      have q1 : u5.cell? ⟨g5, 1, none⟩ = some (.slice (A 0) (n 0) (c 0)) := by have := RowAt.cell R5.out 1; simpa [limC] using this
      have q2 : u5.cell? ⟨g5, 2, none⟩ = some (.slice (A 1) (n 1) (c 1)) := by have := RowAt.cell R5.out 2; simpa [limC] using this
      have q3 : u5.cell? ⟨g5, 3, none⟩ = some (.slice (A 2) (n 2) (c 2)) := by have := RowAt.cell R5.out 3; simpa [limC] using this
      have ql := R5.out.lt
      have HC := hide (show Calls Tryd.prog 16 #[.agg (limC l.E A n c)] u5 (OutU u5 rb) from by have h := AdvanceU u5 _ HL.out.rd HL.out.le INV.out.E INV.out.gen LEN.out (c := c); rwa [HRB.out] at h)
      go_wp2_with fail
      with_reducible refine HC.out.mono ?_
      rintro e u6 ⟨A12, n12, c12, rfl, hg, hb⟩
      have OB := hide (And.intro R10.out.lt hb.size)
      replace X := hide (X.out.below hb)
      replace HX := hide (HX.out.later hb)
      replace R5 := hide (R5.out.below hb)
      replace HL := hide (HL.out.later hb)
      replace HSB := hide (HSB.out.later hb)
      replace R8 := hide (R8.out.below hb)
      replace HWAS := hide (HWAS.out.later hb)
      replace R9 := hide (R9.out.below hb)
      replace LA := hide (LA.out.later hb)
      replace GA := hide (GA.out.later hb)
      replace R10 := hide (R10.out.below hb)
      replace HBL := hide (HBL.out.trans (hb.mono HBL.out.size))
      have LB := hide (show Lb u6 u6.heap.size (valL rb) A12 n12 from ⟨hg.rd, Nat.le_refl _⟩)
      have GB := hide (show Gb u6 u5.heap.size u6.heap.size A12 n12 from ⟨hg.gen, Nat.le_refl _⟩)
      have LEN12 := hide hg.len
      have CAP12 := hide hg.cap
      clear hg
      clear hb HC
      clear q0 q1 q2 q3 ql
      generalize u5.heap.size = t12 at *
      have hbx : Below u6.heap.size u6 (u6.alloc (.cells (limC (valL rb).E A12 n12 c12) 26)) := (Below.refl _ _).alloc (Nat.le_refl _) _
      have R12 := hide (RowAt.new u6 26 (limC (valL rb).E A12 n12 c12))
      replace X := hide (X.out.below hbx)
      replace HX := hide (HX.out.later hbx)
      replace R5 := hide (R5.out.below hbx)
      replace HL := hide (HL.out.later hbx)
      replace HSB := hide (HSB.out.later hbx)
      replace R8 := hide (R8.out.below hbx)
      replace HWAS := hide (HWAS.out.later hbx)
      replace R9 := hide (R9.out.below hbx)
      replace LA := hide (LA.out.later hbx)
      replace GA := hide (GA.out.later hbx)
      replace R10 := hide (R10.out.below hbx)
      replace LB := hide (LB.out.later hbx)
      replace GB := hide (GB.out.later hbx)
      replace HBL := hide (HBL.out.trans (hbx.mono HBL.out.size))
      clear hbx
      go_upto_region 12 with (fail)
      generalize u6.alloc (.cells (limC (valL rb).E A12 n12 c12) 26) = u7 at *
      generalize u6.heap.size = g12 at *
      have q0 : u7.cell? ⟨g5, 0, none⟩ = some (.int .u64 (l.E : Int)) := by have := RowAt.cell R5.out 0; simpa [limC] using this
      have q1 : u7.cell? ⟨g5, 1, none⟩ = some (.slice (A 0) (n 0) (c 0)) := by have := RowAt.cell R5.out 1; simpa [limC] using this
      have q2 : u7.cell? ⟨g5, 2, none⟩ = some (.slice (A 1) (n 1) (c 1)) := by have := RowAt.cell R5.out 2; simpa [limC] using this
      have q3 : u7.cell? ⟨g5, 3, none⟩ = some (.slice (A 2) (n 2) (c 2)) := by have := RowAt.cell R5.out 3; simpa [limC] using this
      have ql := R5.out.lt
      have HC := hide (show Calls Tryd.prog 17 #[.agg (limC l.E A n c)] u7 (OutUT u7 rc) from by have h := TakeU u7 _ HL.out.rd HL.out.le INV.out.E INV.out.gen LEN.out (c := c); rwa [HRC.out] at h)
      go_wp2_with fail
      with_reducible refine HC.out.mono ?_
      rintro e u8 ⟨A14, n14, c14, rfl, hg, hb⟩
      have OC := hide (And.intro R12.out.lt hb.size)
      replace X := hide (X.out.below hb)
      replace HX := hide (HX.out.later hb)
      replace R5 := hide (R5.out.below hb)
      replace HL := hide (HL.out.later hb)
      replace HSB := hide (HSB.out.later hb)
      replace R8 := hide (R8.out.below hb)
      replace HWAS := hide (HWAS.out.later hb)
      replace R9 := hide (R9.out.below hb)
      replace LA := hide (LA.out.later hb)
      replace GA := hide (GA.out.later hb)
      replace R10 := hide (R10.out.below hb)
      replace LB := hide (LB.out.later hb)
      replace GB := hide (GB.out.later hb)
      replace R12 := hide (R12.out.below hb)
      replace HBL := hide (HBL.out.trans (hb.mono HBL.out.size))
      have LC := hide (show Lb u8 u8.heap.size (valT rc) A14 n14 from ⟨hg.rd, Nat.le_refl _⟩)
      have GC := hide (show Gb u8 u7.heap.size u8.heap.size A14 n14 from ⟨hg.gen, Nat.le_refl _⟩)
      have LEN14 := hide hg.len
      have CAP14 := hide hg.cap
      clear hg
      clear hb HC
      clear q0 q1 q2 q3 ql
      generalize u7.heap.size = t14 at *
      have hbx : Below u8.heap.size u8 (u8.alloc (.cells (limC (valT rc).E A14 n14 c14) 26)) := (Below.refl _ _).alloc (Nat.le_refl _) _
      have R14 := hide (RowAt.new u8 26 (limC (valT rc).E A14 n14 c14))
      replace X := hide (X.out.below hbx)
      replace HX := hide (HX.out.later hbx)
      replace R5 := hide (R5.out.below hbx)
      replace HL := hide (HL.out.later hbx)
      replace HSB := hide (HSB.out.later hbx)
      replace R8 := hide (R8.out.below hbx)
      replace HWAS := hide (HWAS.out.later hbx)
      replace R9 := hide (R9.out.below hbx)
      replace LA := hide (LA.out.later hbx)
      replace GA := hide (GA.out.later hbx)
      replace R10 := hide (R10.out.below hbx)
      replace LB := hide (LB.out.later hbx)
      replace GB := hide (GB.out.later hbx)
      replace R12 := hide (R12.out.below hbx)
      replace LC := hide (LC.out.later hbx)
      replace GC := hide (GC.out.later hbx)
      replace HBL := hide (HBL.out.trans (hbx.mono HBL.out.size))
      clear hbx
      have hbx : Below (u8.alloc (.cells (limC (valT rc).E A14 n14 c14) 26)).heap.size (u8.alloc (.cells (limC (valT rc).E A14 n14 c14) 26)) ((u8.alloc (.cells (limC (valT rc).E A14 n14 c14) 26)).alloc (.cells #[.int .i64 (entT rc).1, .int .u64 (entT rc).2] 34)) := (Below.refl _ _).alloc (Nat.le_refl _) _
      have R15 := hide (show RowAt ((u8.alloc (.cells (limC (valT rc).E A14 n14 c14) 26)).alloc (.cells #[.int .i64 (entT rc).1, .int .u64 (entT rc).2] 34)) (u8.heap.size + 1) 34 #[.int .i64 (entT rc).1, .int .u64 (entT rc).2] from by have h := RowAt.new (u8.alloc (.cells (limC (valT rc).E A14 n14 c14) 26)) 34 #[.int .i64 (entT rc).1, .int .u64 (entT rc).2]; rw [World.size_alloc] at h; exact h)
      replace X := hide (X.out.below hbx)
      replace HX := hide (HX.out.later hbx)
      replace R5 := hide (R5.out.below hbx)
      replace HL := hide (HL.out.later hbx)
      replace HSB := hide (HSB.out.later hbx)
      replace R8 := hide (R8.out.below hbx)
      replace HWAS := hide (HWAS.out.later hbx)
      replace R9 := hide (R9.out.below hbx)
      replace LA := hide (LA.out.later hbx)
      replace GA := hide (GA.out.later hbx)
      replace R10 := hide (R10.out.below hbx)
      replace LB := hide (LB.out.later hbx)
      replace GB := hide (GB.out.later hbx)
      replace R12 := hide (R12.out.below hbx)
      replace LC := hide (LC.out.later hbx)
      replace GC := hide (GC.out.later hbx)
      replace R14 := hide (R14.out.below hbx)
      replace HBL := hide (HBL.out.trans (hbx.mono HBL.out.size))
      clear hbx
      go_upto_region 13 with (fail)
      generalize (u8.alloc (.cells (limC (valT rc).E A14 n14 c14) 26)).alloc (.cells #[.int .i64 (entT rc).1, .int .u64 (entT rc).2] 34) = u9 at *
      generalize u8.heap.size = g14 at *
      go_upto_region 15 with (fail)
      have OZ := hide R15.out.lt
      have hbx : Below u9.heap.size u9 (u9.alloc (.cells zeroC 26)) := (Below.refl _ _).alloc (Nat.le_refl _) _
      have R17 := hide (RowAt.new u9 26 zeroC)
      have HSZ : Hid ((u9.alloc (.cells zeroC 26)).heap.size = u9.heap.size + 1) := hide (by simp)
      replace X := hide (X.out.below hbx)
      replace HX := hide (HX.out.later hbx)
      replace R5 := hide (R5.out.below hbx)
      replace HL := hide (HL.out.later hbx)
      replace HSB := hide (HSB.out.later hbx)
      replace R8 := hide (R8.out.below hbx)
      replace HWAS := hide (HWAS.out.later hbx)
      replace R9 := hide (R9.out.below hbx)
      replace LA := hide (LA.out.later hbx)
      replace GA := hide (GA.out.later hbx)
      replace R10 := hide (R10.out.below hbx)
      replace LB := hide (LB.out.later hbx)
      replace GB := hide (GB.out.later hbx)
      replace R12 := hide (R12.out.below hbx)
      replace LC := hide (LC.out.later hbx)
      replace GC := hide (GC.out.later hbx)
      replace R14 := hide (R14.out.below hbx)
      replace R15 := hide (R15.out.below hbx)
      replace HBL := hide (HBL.out.trans (hbx.mono HBL.out.size))
      clear hbx
      generalize u9.alloc (.cells zeroC 26) = v1 at *
      have hbx : Below v1.heap.size v1 (v1.alloc (.cells zeroC 26)) := (Below.refl _ _).alloc (Nat.le_refl _) _
      have R18 := hide (show RowAt (v1.alloc (.cells zeroC 26)) (u9.heap.size + 1) 26 zeroC from by have h := RowAt.new v1 26 zeroC; rw [HSZ.out] at h; exact h)
      replace HSZ : Hid ((v1.alloc (.cells zeroC 26)).heap.size = u9.heap.size + 1 + 1) := hide (by rw [World.size_alloc, HSZ.out])
      replace X := hide (X.out.below hbx)
      replace HX := hide (HX.out.later hbx)
      replace R5 := hide (R5.out.below hbx)
      replace HL := hide (HL.out.later hbx)
      replace HSB := hide (HSB.out.later hbx)
      replace R8 := hide (R8.out.below hbx)
      replace HWAS := hide (HWAS.out.later hbx)
      replace R9 := hide (R9.out.below hbx)
      replace LA := hide (LA.out.later hbx)
      replace GA := hide (GA.out.later hbx)
      replace R10 := hide (R10.out.below hbx)
      replace LB := hide (LB.out.later hbx)
      replace GB := hide (GB.out.later hbx)
      replace R12 := hide (R12.out.below hbx)
      replace LC := hide (LC.out.later hbx)
      replace GC := hide (GC.out.later hbx)
      replace R14 := hide (R14.out.below hbx)
      replace R15 := hide (R15.out.below hbx)
      replace R17 := hide (R17.out.below hbx)
      replace HBL := hide (HBL.out.trans (hbx.mono HBL.out.size))
      clear hbx
      generalize v1.alloc (.cells zeroC 26) = v2 at *
      have hbx : Below v2.heap.size v2 (v2.alloc (.cells zeroC 26)) := (Below.refl _ _).alloc (Nat.le_refl _) _
      have R19 := hide (show RowAt (v2.alloc (.cells zeroC 26)) (u9.heap.size + 1 + 1) 26 zeroC from by have h := RowAt.new v2 26 zeroC; rw [HSZ.out] at h; exact h)
      replace HSZ : Hid ((v2.alloc (.cells zeroC 26)).heap.size = u9.heap.size + 1 + 1 + 1) := hide (by rw [World.size_alloc, HSZ.out])
      replace X := hide (X.out.below hbx)
      replace HX := hide (HX.out.later hbx)
      replace R5 := hide (R5.out.below hbx)
      replace HL := hide (HL.out.later hbx)
      replace HSB := hide (HSB.out.later hbx)
      replace R8 := hide (R8.out.below hbx)
      replace HWAS := hide (HWAS.out.later hbx)
      replace R9 := hide (R9.out.below hbx)
      replace LA := hide (LA.out.later hbx)
      replace GA := hide (GA.out.later hbx)
      replace R10 := hide (R10.out.below hbx)
      replace LB := hide (LB.out.later hbx)
      replace GB := hide (GB.out.later hbx)
      replace R12 := hide (R12.out.below hbx)
      replace LC := hide (LC.out.later hbx)
      replace GC := hide (GC.out.later hbx)
      replace R14 := hide (R14.out.below hbx)
      replace R15 := hide (R15.out.below hbx)
      replace R17 := hide (R17.out.below hbx)
      replace R18 := hide (R18.out.below hbx)
      replace HBL := hide (HBL.out.trans (hbx.mono HBL.out.size))
      clear hbx
      generalize v2.alloc (.cells zeroC 26) = v3 at *
      have hbx : Below v3.heap.size v3 (v3.alloc (.cells #[.int .i64 0, .int .u64 0] 34)) := (Below.refl _ _).alloc (Nat.le_refl _) _
      have R20 := hide (show RowAt (v3.alloc (.cells #[.int .i64 0, .int .u64 0] 34)) (u9.heap.size + 1 + 1 + 1) 34 #[.int .i64 0, .int .u64 0] from by have h := RowAt.new v3 34 #[.int .i64 0, .int .u64 0]; rw [HSZ.out] at h; exact h)
      replace HSZ : Hid ((v3.alloc (.cells #[.int .i64 0, .int .u64 0] 34)).heap.size = u9.heap.size + 1 + 1 + 1 + 1) := hide (by rw [World.size_alloc, HSZ.out])
      replace X := hide (X.out.below hbx)
      replace HX := hide (HX.out.later hbx)
      replace R5 := hide (R5.out.below hbx)
      replace HL := hide (HL.out.later hbx)
      replace HSB := hide (HSB.out.later hbx)
      replace R8 := hide (R8.out.below hbx)
      replace HWAS := hide (HWAS.out.later hbx)
      replace R9 := hide (R9.out.below hbx)
      replace LA := hide (LA.out.later hbx)
      replace GA := hide (GA.out.later hbx)
      replace R10 := hide (R10.out.below hbx)
      replace LB := hide (LB.out.later hbx)
      replace GB := hide (GB.out.later hbx)
      replace R12 := hide (R12.out.below hbx)
      replace LC := hide (LC.out.later hbx)
      replace GC := hide (GC.out.later hbx)
      replace R14 := hide (R14.out.below hbx)
      replace R15 := hide (R15.out.below hbx)
      replace R17 := hide (R17.out.below hbx)
      replace R18 := hide (R18.out.below hbx)
      replace R19 := hide (R19.out.below hbx)
      replace HBL := hide (HBL.out.trans (hbx.mono HBL.out.size))
      clear hbx
      generalize v3.alloc (.cells #[.int .i64 0, .int .u64 0] 34) = v4 at *
      generalize u9.heap.size = gz at *
      clear HSZ
      have SZ := hide (show gz + 1 + 1 + 1 < v4.heap.size from R20.out.lt)
      have ORD := hide (show W.heap.size < g5 ∧ g5 < g8 ∧ g8 < g9 ∧ g9 < t10 ∧ t10 ≤ g10 ∧ g10 < t12 ∧ t12 ≤ g12 ∧ g12 < t14 ∧ t14 ≤ g14 ∧ g14 + 1 < gz from ⟨HWG.out, OA5.out, OA8.out, OA.out.1, OA.out.2, OB.out.1, OB.out.2, OC.out.1, OC.out.2, OZ.out⟩)
      clear OA5 OA8 OA OB OC OZ
      go_upto_if 68 with (fail)
      go_cut [21, 22, 23] from 69 to 89 (fun s21 s22 s23 wx => s21 = .int .i64 (errL ra) ∧ s22 = .int .i64 (errL rb) ∧ s23 = .int .i64 (errL rc) ∧ WantAt v4 wx gz ra rb rc)
      case first =>
        cases right with
        | false =>
          have e1 := HRA.out
          have e2 := HRB.out
          have e3 := HRC.out
          unfold retR at e1
          unfold advR at e2
          unfold takR at e3
          rw [INV.out.ok] at e1 e2 e3
          simp only [Bool.false_eq_true, if_false] at e1 e2 e3
          subst e1
          subst e2
          subst e3
          go_wp2_with fail
          go_meet
          case rel => exact ⟨rfl, rfl, rfl, want0 R17.out, want0 R18.out, want0 R19.out, R20.out, Below.refl _ _⟩
        | true =>
          have e1 := HRA.out
          have e2 := HRB.out
          have e3 := HRC.out
          unfold retR at e1
          unfold advR at e2
          unfold takR at e3
          rw [INV.out.ok] at e1 e2 e3
          simp only [if_true] at e1 e2 e3
          have HVA := hide (valL_len (r := ra) (fun l' h => ret_ok_ok (by rw [← h]; exact HRA.out)))
          have HVB := hide (valL_len (r := rb) (fun l' h => adv_ok_ok (by rw [← h]; exact HRB.out)))
          have HVC := hide (valT_len (r := rc) (fun x h => tak_ok_ok (by rw [← h]; exact HRC.out)))
          have HDA := hide e1
          have HDB := hide e2
          have HDC := hide e3
          clear e1 e2 e3 LA LB LC GA GB GC R9 R10 R12 R14 R15 HWAS X HX HSB
          have hg5z : g5 < gz := by have := ORD.out; omega
          have hg8z : g8 < gz := by have := ORD.out; omega
          have GLE : Hid (gz ≤ v4.heap.size) := hide (by have := SZ.out; omega)
          have HL0 := hide (show Lb v4 g8 l A n from HL.out)
          have q0 : v4.cell? ⟨g5, 0, none⟩ = some (.int .u64 (l.E : Int)) := by have := RowAt.cell R5.out 0; simpa [limC] using this
          have q1 : v4.cell? ⟨g5, 1, none⟩ = some (.slice (A 0) (n 0) (c 0)) := by have := RowAt.cell R5.out 1; simpa [limC] using this
          have q2 : v4.cell? ⟨g5, 2, none⟩ = some (.slice (A 1) (n 1) (c 1)) := by have := RowAt.cell R5.out 2; simpa [limC] using this
          have q3 : v4.cell? ⟨g5, 3, none⟩ = some (.slice (A 2) (n 2) (c 2)) := by have := RowAt.cell R5.out 3; simpa [limC] using this
          have ql := R5.out.lt
          have e0 := row20 R8.out
          have e1 := row21 R8.out
          have el := R8.out.lt
          have HOW := hide (fun (w : World) (hb : Below v4.heap.size v4 w) => show Calls Tryd.prog 8 #[.agg (limC l.E A n c)] w (OwnU w l) from by have h := OwnUC w (HL.out.later hb).rd (HL.out.later hb).le CAP.out; rwa [HC5.out] at h)
          have HRT := hide (fun (w : World) (A6 : Nat → Option Addr) (n6 c6 : Nat → Nat) (ho : Ol w v4.heap.size w.heap.size l A6 n6 c6) (hb : Below v4.heap.size v4 w) => show Calls Tryd.prog 18 #[.agg (limC l.E A6 n6 c6), .agg #[.int .i64 s, .int .u64 g]] w (RefRes w (fun j => gz + 1 + 1 + 1 < j) ra) from by
            have h := rret_any (fun j => gz + 1 + 1 + 1 < j) A6 n6 c6 l s g w ho.rd (fun k p hk hp => ⟨by have := (ho.lo k p hk hp).1; have := SZ.out; omega, (ho.lo k p hk hp).2⟩) (fun j hj => by have := SZ.out; have := hb.size; omega) INV.out.ok ho.len ho.cap
            rwa [HDA.out] at h)
          go_upto_region 17 with (fail)
          refine wp_region_held_drew (S := fun wX => Below gz v4 wX) (by kernel_rfl) (Below.refl _ _).drew (fun hHeld => ?_)
          have HQ := hide ((Below.refl v4.heap.size v4).drew)
          (refine wpAnyH_take (i := 0) (v := ?_) rfl (by kernel_rfl) (by kernel_rfl) (by kernel_rfl) (fun _ _ _ h => h) (Or.inl ⟨by rfl, ?_⟩) (by assumption) ?_; rotate_left; (focus (intro w hSw; (try dsimp only at hSw); have kf0 := keptB hSw (by omega) q0; have kf1 := keptB hSw (by omega) q1; have kf2 := keptB hSw (by omega) q2; have kf3 := keptB hSw (by omega) q3; go_simp; first | done | with_reducible rfl)); (try simp only [Act.put, List.getElem_toArray, List.getElem_cons_succ, List.getElem_cons_zero, List.setIfInBounds_toArray, List.set_cons_zero, List.set_cons_succ]))
          (refine wpAnyH_take (i := 2) (v := ?_) rfl (by kernel_rfl) (by kernel_rfl) (by kernel_rfl) (fun _ _ _ h => h) (Or.inl ⟨by rfl, ?_⟩) (by assumption) ?_; rotate_left; (focus (intro w hSw; (try dsimp only at hSw); have kf0 := keptB hSw (by omega) e0; have kf1 := keptB hSw (by omega) e1; go_simp; first | done | with_reducible rfl)); (try simp only [Act.put, List.getElem_toArray, List.getElem_cons_succ, List.getElem_cons_zero, List.setIfInBounds_toArray, List.set_cons_zero, List.set_cons_succ]))
          generalize v4.drew = wd at *
          refine wpAnyH_ready (rs := [1]) (by kernel_rfl) (by simp) ?_
          refine (AllReadyH.cons rfl (fun K0 hK0 => ?_) AllReadyH.nil)
          go_simp
          refine (HOW.out _ HQ.out).mono ?_
          rintro e y1 ⟨A6, n6, c6, rfl, ho, hb⟩
          have HQ1 := hide HQ.out.size
          replace HQ := hide (HQ.out.trans (hb.mono HQ.out.size))
          have HOL := hide (show Ol y1 v4.heap.size y1.heap.size l A6 n6 c6 from ⟨ho.rd, fun k p hk hp => ⟨Nat.le_trans (Nat.le_of_eq rfl) (Nat.le_trans HQ1.out (ho.lo k p hk hp).1), (ho.lo k p hk hp).2⟩, ho.cap, ho.len⟩)
          clear ho HQ1
          clear hb
          refine hK0.out _ _ ((HQ.out).mono GLE.out) (fun _ => ?_)
          clear hK0 K0
          (try simp only [Act.put, List.getElem_toArray, List.getElem_cons_succ, List.getElem_cons_zero, List.setIfInBounds_toArray, List.set_cons_zero, List.set_cons_succ])
          refine wpAnyH_ready (rs := [3]) (by kernel_rfl) (by simp) ?_
          refine (AllReadyH.cons rfl (fun K1 hK1 => ?_) AllReadyH.nil)
          go_simp
          refine (HRT.out _ A6 n6 c6 HOL.out HQ.out).mono ?_
          rintro e y2 ⟨A7, n7, c7, rfl, hrd, hlow, hcap, hb⟩
          replace HQ := hide (HQ.out.trans (hb.mono HQ.out.size))
          have DA := hide (nb_of hrd hlow)
          have LNA := hide (show ∀ k, k < 3 → n7 k ≤ 4096 from fun k hk => by rw [← hrd.len k hk]; exact HVA.out k hk)
          clear hrd hlow hcap
          clear hb
          refine hK1.out _ _ ((HQ.out).mono GLE.out) (fun _ => ?_)
          clear hK1 K1
          (try simp only [Act.put, List.getElem_toArray, List.getElem_cons_succ, List.getElem_cons_zero, List.setIfInBounds_toArray, List.set_cons_zero, List.set_cons_succ])
          (refine wpAnyH_take (i := 4) (v := ?_) rfl (by kernel_rfl) (by kernel_rfl) (by kernel_rfl) (fun _ _ _ h => h) (Or.inl ⟨by rfl, ?_⟩) (by assumption) ?_; rotate_left; (focus (intro w hSw; (try dsimp only at hSw); go_simp; first | done | with_reducible rfl)); (try simp only [Act.put, List.getElem_toArray, List.getElem_cons_succ, List.getElem_cons_zero, List.setIfInBounds_toArray, List.set_cons_zero, List.set_cons_succ]))
          (refine wpAnyH_take (i := 5) (v := ?_) rfl (by kernel_rfl) (by kernel_rfl) (by kernel_rfl) (fun _ _ _ h => h) (Or.inl ⟨by rfl, ?_⟩) (by assumption) ?_; rotate_left; (focus (intro w hSw; (try dsimp only at hSw); go_simp; first | done | with_reducible rfl)); (try simp only [Act.put, List.getElem_toArray, List.getElem_cons_succ, List.getElem_cons_zero, List.setIfInBounds_toArray, List.set_cons_zero, List.set_cons_succ]))
          (refine wpAnyH_take (i := 6) (v := ?_) rfl (by kernel_rfl) (by kernel_rfl) (by kernel_rfl) (fun _ _ _ h => h) (Or.inl ⟨by rfl, ?_⟩) (by assumption) ?_; rotate_left; (focus (intro w hSw; (try dsimp only at hSw); go_simp; first | done | with_reducible rfl)); (try simp only [Act.put, List.getElem_toArray, List.getElem_cons_succ, List.getElem_cons_zero, List.setIfInBounds_toArray, List.set_cons_zero, List.set_cons_succ]))
          have HQW := hide (HQ.out.mono GLE.out)
          replace R5 := hide (R5.out.below HQ.out)
          replace HL := hide (HL.out.later HQ.out)
          replace R17 := hide (R17.out.below HQ.out)
          replace R18 := hide (R18.out.below HQ.out)
          replace R19 := hide (R19.out.below HQ.out)
          replace R20 := hide (R20.out.below HQ.out)
          have SZ2 := hide (show gz + 1 + 1 + 1 < y2.heap.size from R20.out.lt)
          refine wpAnyH_ready (rs := [7]) (by kernel_rfl) (by simp) ?_
          refine AllReadyH.cons rfl (fun K hK => ?_) AllReadyH.nil
          have z0 : y2.cell? ⟨gz, 0, none⟩ = some (.int .u64 0) := by have := RowAt.cell R17.out 0; simpa using this
          have z1 : y2.cell? ⟨gz, 1, none⟩ = some (.slice none 0 0) := by have := RowAt.cell R17.out 1; simpa using this
          have z2 : y2.cell? ⟨gz, 2, none⟩ = some (.slice none 0 0) := by have := RowAt.cell R17.out 2; simpa using this
          have z3 : y2.cell? ⟨gz, 3, none⟩ = some (.slice none 0 0) := by have := RowAt.cell R17.out 3; simpa using this
          have zl := RowAt.lt R17.out
          have f0 := RowAt.frozen R17.out 0
          have f1 := RowAt.frozen R17.out 1
          have f2 := RowAt.frozen R17.out 2
          have f3 := RowAt.frozen R17.out 3
          have HLD : Hid (LaidL gz y2 (limC (valL ra).E A7 n7 c7) ((((y2.setCell ⟨gz, 0, none⟩ (.int .u64 ((valL ra).E : Int))).setCell ⟨gz, 1, none⟩ (.slice (A7 0) (n7 0) (c7 0))).setCell ⟨gz, 2, none⟩ (.slice (A7 1) (n7 1) (c7 1))).setCell ⟨gz, 3, none⟩ (.slice (A7 2) (n7 2) (c7 2)))) := hide (laidL_of R17.out rfl)
          go_simp
          have HQ2 := hide (show Below gz v4 ((((y2.setCell ⟨gz, 0, none⟩ (.int .u64 ((valL ra).E : Int))).setCell ⟨gz, 1, none⟩ (.slice (A7 0) (n7 0) (c7 0))).setCell ⟨gz, 2, none⟩ (.slice (A7 1) (n7 1) (c7 1))).setCell ⟨gz, 3, none⟩ (.slice (A7 2) (n7 2) (c7 2))) from HQW.out.trans HLD.out.below)
          refine hK.out _ _ HQ2.out (fun _ => ?_)
          clear hK K z0 z1 z2 z3 zl f0 f1 f2 f3 q0 q1 q2 q3 ql e0 e1 el R17 HQW
          (try simp only [Act.put, List.getElem_toArray, List.getElem_cons_succ, List.getElem_cons_zero, List.setIfInBounds_toArray, List.set_cons_zero, List.set_cons_succ])
          generalize ((((y2.setCell ⟨gz, 0, none⟩ (.int .u64 ((valL ra).E : Int))).setCell ⟨gz, 1, none⟩ (.slice (A7 0) (n7 0) (c7 0))).setCell ⟨gz, 2, none⟩ (.slice (A7 1) (n7 1) (c7 1))).setCell ⟨gz, 3, none⟩ (.slice (A7 2) (n7 2) (c7 2))) = y3 at *
          replace R5 := hide (R5.out.laidNe HLD.out (by have := ORD.out; omega))
          replace R18 := hide (R18.out.laidNe HLD.out (by have := ORD.out; omega))
          replace R19 := hide (R19.out.laidNe HLD.out (by have := ORD.out; omega))
          replace R20 := hide (R20.out.laidNe HLD.out (by have := ORD.out; omega))
          replace HL := hide (HL.out.laid HLD.out (by have := ORD.out; omega))
          replace DA := hide (DA.out.laid HLD.out (by omega))
          have RA := hide HLD.out.row
          replace SZ2 := hide (Nat.lt_of_lt_of_le SZ2.out HLD.out.below.size)
          clear HLD HQ HOL HOW HRT
          (refine wpAnyH_take (i := 8) (v := ?_) rfl (by kernel_rfl) (by kernel_rfl) (by kernel_rfl) (fun _ _ _ h => h) (Or.inl ⟨by rfl, ?_⟩) (by assumption) ?_; rotate_left; (focus (intro w hSw; (try dsimp only at hSw); go_simp; first | done | with_reducible rfl)); (try simp only [Act.put, List.getElem_toArray, List.getElem_cons_succ, List.getElem_cons_zero, List.setIfInBounds_toArray, List.set_cons_zero, List.set_cons_succ]))
          refine wpAnyH_done (by kernel_rfl) ?_ _
          have q0 : y3.cell? ⟨g5, 0, none⟩ = some (.int .u64 (l.E : Int)) := by have := RowAt.cell R5.out 0; simpa [limC] using this
          have q1 : y3.cell? ⟨g5, 1, none⟩ = some (.slice (A 0) (n 0) (c 0)) := by have := RowAt.cell R5.out 1; simpa [limC] using this
          have q2 : y3.cell? ⟨g5, 2, none⟩ = some (.slice (A 1) (n 1) (c 1)) := by have := RowAt.cell R5.out 2; simpa [limC] using this
          have q3 : y3.cell? ⟨g5, 3, none⟩ = some (.slice (A 2) (n 2) (c 2)) := by have := RowAt.cell R5.out 3; simpa [limC] using this
          have ql := R5.out.lt
          have HC := hide (show Calls Tryd.prog 8 #[.agg (limC l.E A n c)] y3 (OwnU y3 l) from by have h := OwnUC y3 HL.out.rd HL.out.le CAP.out; rwa [HC5.out] at h)
          go_wp2_with fail
          with_reducible refine HC.out.mono ?_
          rintro e y4 ⟨A6, n6, c6, rfl, ho, hb⟩
          replace R5 := hide (R5.out.below hb)
          replace HL := hide (HL.out.later hb)
          replace RA := hide (RA.out.below hb)
          replace R18 := hide (R18.out.below hb)
          replace R19 := hide (R19.out.below hb)
          replace R20 := hide (R20.out.below hb)
          replace DA := hide (DA.out.later hb)
          have HOL := hide (show Ol y4 (gz + 1 + 1 + 1 + 1) y4.heap.size l A6 n6 c6 from ⟨ho.rd, fun k p hk hp => ⟨Nat.le_trans SZ2.out (ho.lo k p hk hp).1, (ho.lo k p hk hp).2⟩, ho.cap, ho.len⟩)
          replace HQ2 := hide (HQ2.out.trans (hb.mono (by have := SZ2.out; omega)))
          replace SZ2 := hide (Nat.lt_of_lt_of_le SZ2.out hb.size)
          clear ho
          clear hb HC
          clear q0 q1 q2 q3 ql
          have HC := hide (show Calls Tryd.prog 19 #[.agg (limC l.E A6 n6 c6)] y4 (RefRes y4 (fun j => gz + 1 + 1 + 1 < j) rb) from by have h := radv_any (fun j => gz + 1 + 1 + 1 < j) A6 n6 c6 l y4 HOL.out.rd (fun k p hk hp => HOL.out.lo k p hk hp) (fun j hj => Nat.lt_of_lt_of_le SZ2.out hj) INV.out.ok HOL.out.len HOL.out.cap; rwa [HDB.out] at h)
          go_wp2_with fail
          with_reducible refine HC.out.mono ?_
          rintro e y5 ⟨A8, n8, c8, rfl, hrd, hlow, hcap, hb⟩
          replace R5 := hide (R5.out.below hb)
          replace HL := hide (HL.out.later hb)
          replace RA := hide (RA.out.below hb)
          replace R18 := hide (R18.out.below hb)
          replace R19 := hide (R19.out.below hb)
          replace R20 := hide (R20.out.below hb)
          replace DA := hide (DA.out.later hb)
          have DB := hide (nb_of hrd hlow)
          have LNB := hide (show ∀ k, k < 3 → n8 k ≤ 4096 from fun k hk => by rw [← hrd.len k hk]; exact HVB.out k hk)
          replace HQ2 := hide (HQ2.out.trans (hb.mono (by have := SZ2.out; omega)))
          replace SZ2 := hide (Nat.lt_of_lt_of_le SZ2.out hb.size)
          clear hrd hlow hcap HOL
          clear hb HC
          have z0 : y5.cell? ⟨(gz + 1), 0, none⟩ = some (.int .u64 0) := by have := RowAt.cell R18.out 0; simpa using this
          have z1 : y5.cell? ⟨(gz + 1), 1, none⟩ = some (.slice none 0 0) := by have := RowAt.cell R18.out 1; simpa using this
          have z2 : y5.cell? ⟨(gz + 1), 2, none⟩ = some (.slice none 0 0) := by have := RowAt.cell R18.out 2; simpa using this
          have z3 : y5.cell? ⟨(gz + 1), 3, none⟩ = some (.slice none 0 0) := by have := RowAt.cell R18.out 3; simpa using this
          have zl := RowAt.lt R18.out
          have f0 := RowAt.frozen R18.out 0
          have f1 := RowAt.frozen R18.out 1
          have f2 := RowAt.frozen R18.out 2
          have f3 := RowAt.frozen R18.out 3
          have HLD : Hid (LaidL (gz + 1) y5 (limC (valL rb).E A8 n8 c8) ((((y5.setCell ⟨(gz + 1), 0, none⟩ (.int .u64 ((valL rb).E : Int))).setCell ⟨(gz + 1), 1, none⟩ (.slice (A8 0) (n8 0) (c8 0))).setCell ⟨(gz + 1), 2, none⟩ (.slice (A8 1) (n8 1) (c8 1))).setCell ⟨(gz + 1), 3, none⟩ (.slice (A8 2) (n8 2) (c8 2)))) := hide (laidL_of R18.out rfl)
          go_upto_region 19 with (fail)
          replace HQ2 := hide (show Below gz v4 ((((y5.setCell ⟨(gz + 1), 0, none⟩ (.int .u64 ((valL rb).E : Int))).setCell ⟨(gz + 1), 1, none⟩ (.slice (A8 0) (n8 0) (c8 0))).setCell ⟨(gz + 1), 2, none⟩ (.slice (A8 1) (n8 1) (c8 1))).setCell ⟨(gz + 1), 3, none⟩ (.slice (A8 2) (n8 2) (c8 2))) from HQ2.out.trans (HLD.out.below.mono (by omega)))
          clear z0 z1 z2 z3 zl f0 f1 f2 f3
          generalize ((((y5.setCell ⟨(gz + 1), 0, none⟩ (.int .u64 ((valL rb).E : Int))).setCell ⟨(gz + 1), 1, none⟩ (.slice (A8 0) (n8 0) (c8 0))).setCell ⟨(gz + 1), 2, none⟩ (.slice (A8 1) (n8 1) (c8 1))).setCell ⟨(gz + 1), 3, none⟩ (.slice (A8 2) (n8 2) (c8 2))) = y6 at *
          replace R5 := hide (R5.out.laidNe HLD.out (by have := ORD.out; omega))
          replace RA := hide (RA.out.laidNe HLD.out (by have := ORD.out; omega))
          replace R19 := hide (R19.out.laidNe HLD.out (by have := ORD.out; omega))
          replace R20 := hide (R20.out.laidNe HLD.out (by have := ORD.out; omega))
          replace HL := hide (HL.out.laid HLD.out (by have := ORD.out; omega))
          replace DA := hide (DA.out.laid HLD.out (by omega))
          replace DB := hide (DB.out.laid HLD.out (by omega))
          have RB := hide HLD.out.row
          replace SZ2 := hide (Nat.lt_of_lt_of_le SZ2.out HLD.out.below.size)
          clear HLD R18
          have q0 : y6.cell? ⟨g5, 0, none⟩ = some (.int .u64 (l.E : Int)) := by have := RowAt.cell R5.out 0; simpa [limC] using this
          have q1 : y6.cell? ⟨g5, 1, none⟩ = some (.slice (A 0) (n 0) (c 0)) := by have := RowAt.cell R5.out 1; simpa [limC] using this
          have q2 : y6.cell? ⟨g5, 2, none⟩ = some (.slice (A 1) (n 1) (c 1)) := by have := RowAt.cell R5.out 2; simpa [limC] using this
          have q3 : y6.cell? ⟨g5, 3, none⟩ = some (.slice (A 2) (n 2) (c 2)) := by have := RowAt.cell R5.out 3; simpa [limC] using this
          have ql := R5.out.lt
          have HC := hide (show Calls Tryd.prog 8 #[.agg (limC l.E A n c)] y6 (OwnU y6 l) from by have h := OwnUC y6 HL.out.rd HL.out.le CAP.out; rwa [HC5.out] at h)
          go_wp2_with fail
          with_reducible refine HC.out.mono ?_
          rintro e y7 ⟨A6, n6, c6, rfl, ho, hb⟩
          replace R5 := hide (R5.out.below hb)
          replace HL := hide (HL.out.later hb)
          replace RA := hide (RA.out.below hb)
          replace RB := hide (RB.out.below hb)
          replace R19 := hide (R19.out.below hb)
          replace R20 := hide (R20.out.below hb)
          replace DA := hide (DA.out.later hb)
          replace DB := hide (DB.out.later hb)
          have HOL := hide (show Ol y7 (gz + 1 + 1 + 1 + 1) y7.heap.size l A6 n6 c6 from ⟨ho.rd, fun k p hk hp => ⟨Nat.le_trans SZ2.out (ho.lo k p hk hp).1, (ho.lo k p hk hp).2⟩, ho.cap, ho.len⟩)
          replace HQ2 := hide (HQ2.out.trans (hb.mono (by have := SZ2.out; omega)))
          replace SZ2 := hide (Nat.lt_of_lt_of_le SZ2.out hb.size)
          clear ho
          clear hb HC
          clear q0 q1 q2 q3 ql
          have HC := hide (show Calls Tryd.prog 20 #[.agg (limC l.E A6 n6 c6)] y7 (RefResT y7 (fun j => gz + 1 + 1 + 1 < j) rc) from by have h := rtak_any (fun j => gz + 1 + 1 + 1 < j) A6 n6 c6 l y7 HOL.out.rd (fun k p hk hp => HOL.out.lo k p hk hp) (fun j hj => Nat.lt_of_lt_of_le SZ2.out hj) INV.out.ok HOL.out.len HOL.out.cap; rwa [HDC.out] at h)
          go_wp2_with fail
          with_reducible refine HC.out.mono ?_
          rintro e y8 ⟨A10, n10, c10, rfl, hrd, hlow, hcap, hb⟩
          replace R5 := hide (R5.out.below hb)
          replace HL := hide (HL.out.later hb)
          replace RA := hide (RA.out.below hb)
          replace RB := hide (RB.out.below hb)
          replace R19 := hide (R19.out.below hb)
          replace R20 := hide (R20.out.below hb)
          replace DA := hide (DA.out.later hb)
          replace DB := hide (DB.out.later hb)
          have DC := hide (nb_of hrd hlow)
          have LNC := hide (show ∀ k, k < 3 → n10 k ≤ 4096 from fun k hk => by rw [← hrd.len k hk]; exact HVC.out k hk)
          replace HQ2 := hide (HQ2.out.trans (hb.mono (by have := SZ2.out; omega)))
          replace SZ2 := hide (Nat.lt_of_lt_of_le SZ2.out hb.size)
          clear hrd hlow hcap HOL
          clear hb HC
          have z0 : y8.cell? ⟨(gz + 1 + 1), 0, none⟩ = some (.int .u64 0) := by have := RowAt.cell R19.out 0; simpa using this
          have z1 : y8.cell? ⟨(gz + 1 + 1), 1, none⟩ = some (.slice none 0 0) := by have := RowAt.cell R19.out 1; simpa using this
          have z2 : y8.cell? ⟨(gz + 1 + 1), 2, none⟩ = some (.slice none 0 0) := by have := RowAt.cell R19.out 2; simpa using this
          have z3 : y8.cell? ⟨(gz + 1 + 1), 3, none⟩ = some (.slice none 0 0) := by have := RowAt.cell R19.out 3; simpa using this
          have zl := RowAt.lt R19.out
          have f0 := RowAt.frozen R19.out 0
          have f1 := RowAt.frozen R19.out 1
          have f2 := RowAt.frozen R19.out 2
          have f3 := RowAt.frozen R19.out 3
          have HLD : Hid (LaidL (gz + 1 + 1) y8 (limC (valT rc).E A10 n10 c10) ((((y8.setCell ⟨(gz + 1 + 1), 0, none⟩ (.int .u64 ((valT rc).E : Int))).setCell ⟨(gz + 1 + 1), 1, none⟩ (.slice (A10 0) (n10 0) (c10 0))).setCell ⟨(gz + 1 + 1), 2, none⟩ (.slice (A10 1) (n10 1) (c10 1))).setCell ⟨(gz + 1 + 1), 3, none⟩ (.slice (A10 2) (n10 2) (c10 2)))) := hide (laidL_of R19.out rfl)
          have z5 := row20 R20.out
          have z6 := row21 R20.out
          have zm := R20.out.lt
          have f5 := R20.out.frozen 0
          have f6 := R20.out.frozen 1
          have T20 := hide (((R20.out.laidNe HLD.out (by omega)).set 0 (.int .i64 (entT rc).1)).set 1 (.int .u64 (entT rc).2))
          go_wp2_with fail
          have T20 : Hid (RowAt ((((((y8.setCell ⟨(gz + 1 + 1), 0, none⟩ (.int .u64 ((valT rc).E : Int))).setCell ⟨(gz + 1 + 1), 1, none⟩ (.slice (A10 0) (n10 0) (c10 0))).setCell ⟨(gz + 1 + 1), 2, none⟩ (.slice (A10 1) (n10 1) (c10 1))).setCell ⟨(gz + 1 + 1), 3, none⟩ (.slice (A10 2) (n10 2) (c10 2))).setCell ⟨gz + 1 + 1 + 1, 0, none⟩ (.int .i64 (entT rc).1)).setCell ⟨gz + 1 + 1 + 1, 1, none⟩ (.int .u64 (entT rc).2)) (gz + 1 + 1 + 1) 34 #[.int .i64 (entT rc).1, .int .u64 (entT rc).2]) := T20
          have RC := hide HLD.out.row
          replace RA := hide (RA.out.laidNe HLD.out (by omega))
          replace RB := hide (RB.out.laidNe HLD.out (by omega))
          replace RA := hide ((RA.out.setNe (g2 := gz + 1 + 1 + 1) (o := 0) (v := .int .i64 (entT rc).1) (by omega)).setNe (g2 := gz + 1 + 1 + 1) (o := 1) (v := .int .u64 (entT rc).2) (by omega))
          replace RB := hide ((RB.out.setNe (g2 := gz + 1 + 1 + 1) (o := 0) (v := .int .i64 (entT rc).1) (by omega)).setNe (g2 := gz + 1 + 1 + 1) (o := 1) (v := .int .u64 (entT rc).2) (by omega))
          replace RC := hide ((RC.out.setNe (g2 := gz + 1 + 1 + 1) (o := 0) (v := .int .i64 (entT rc).1) (by omega)).setNe (g2 := gz + 1 + 1 + 1) (o := 1) (v := .int .u64 (entT rc).2) (by omega))
          replace DA := hide (((DA.out.laid HLD.out (by omega)).set2 (g := gz + 1 + 1 + 1) (o := 0) (v := .int .i64 (entT rc).1) (by omega)).set2 (g := gz + 1 + 1 + 1) (o := 1) (v := .int .u64 (entT rc).2) (by omega))
          replace DB := hide (((DB.out.laid HLD.out (by omega)).set2 (g := gz + 1 + 1 + 1) (o := 0) (v := .int .i64 (entT rc).1) (by omega)).set2 (g := gz + 1 + 1 + 1) (o := 1) (v := .int .u64 (entT rc).2) (by omega))
          replace DC := hide (((DC.out.laid HLD.out (by omega)).set2 (g := gz + 1 + 1 + 1) (o := 0) (v := .int .i64 (entT rc).1) (by omega)).set2 (g := gz + 1 + 1 + 1) (o := 1) (v := .int .u64 (entT rc).2) (by omega))
          have HQ3 := hide (((HQ2.out.trans (HLD.out.below.mono (by omega))).setCell (p := ⟨gz + 1 + 1 + 1, 0, none⟩) (by show gz ≤ gz + 1 + 1 + 1; omega) (.int .i64 (entT rc).1)).setCell (p := ⟨gz + 1 + 1 + 1, 1, none⟩) (by show gz ≤ gz + 1 + 1 + 1; omega) (.int .u64 (entT rc).2))
          go_meet
          case rel => exact ⟨rfl, rfl, rfl, ⟨A7, n7, c7, RA.out, DA.out.rd, LNA.out⟩, ⟨A8, n8, c8, RB.out, DB.out.rd, LNB.out⟩, ⟨A10, n10, c10, RC.out, DC.out.rd, LNC.out⟩, T20.out, HQ3.out⟩
      case rest =>
        rename_i K hK
        refine hK _ _ ?_
        clear hK K
        obtain ⟨u, hu⟩ : ∃ w, w = wc := ⟨_, rfl⟩
        subst hu
        obtain ⟨rfl, rfl, rfl, ⟨A7, n7, c7, r17, d17, k17⟩, ⟨A8, n8, c8, r18, d18, k18⟩, ⟨A11, n11, c11, r19, d19, k19⟩, r20, hb⟩ := hcut
        have hord := ORD.out
        have hglt := GLT.out
        have hbb := HBB.out
        replace X := hide (X.out.belowB (by omega) hb)
        replace R5 := hide (R5.out.belowB (by omega) hb)
        replace R8 := hide (R8.out.belowB (by omega) hb)
        replace R9 := hide (R9.out.belowB (by omega) hb)
        replace R10 := hide (R10.out.belowB (by omega) hb)
        replace R12 := hide (R12.out.belowB (by omega) hb)
        replace R14 := hide (R14.out.belowB (by omega) hb)
        replace R15 := hide (R15.out.belowB (by omega) hb)
        replace HX := hide (HX.out.lowB hb (by omega))
        replace HL := hide (HL.out.lowB hb (by omega))
        replace HWAS := hide (HWAS.out.lowB hb (by omega))
        replace LA := hide (LA.out.lowB hb (by omega))
        replace LB := hide (LB.out.lowB hb (by omega))
        replace LC := hide (LC.out.lowB hb (by omega))
        replace GA := hide (GA.out.lowB hb (by omega))
        replace GB := hide (GB.out.lowB hb (by omega))
        replace GC := hide (GC.out.lowB hb (by omega))
        replace HSB := hide (HSB.out.lowB hb (by omega))
        replace HBL := hide (HBL.out.trans (hb.mono (by omega)))
        replace R17 := hide r17
        have D17 := hide (And.intro d17 (Nat.le_refl u.heap.size))
        have K17 := hide k17
        clear r17 d17 k17
        replace R18 := hide r18
        have D18 := hide (And.intro d18 (Nat.le_refl u.heap.size))
        have K18 := hide k18
        clear r18 d18 k18
        replace R19 := hide r19
        have D19 := hide (And.intro d19 (Nat.le_refl u.heap.size))
        have K19 := hide k19
        clear r19 d19 k19
        replace R20 := hide r20
        clear r20 hb hord hglt hbb SZ
        replace D17 := hide (show Lb u u.heap.size (valL ra) A7 n7 from ⟨D17.out.1, Nat.le_refl _⟩)
        replace D18 := hide (show Lb u u.heap.size (valL rb) A8 n8 from ⟨D18.out.1, Nat.le_refl _⟩)
        replace D19 := hide (show Lb u u.heap.size (valT rc) A11 n11 from ⟨D19.out.1, Nat.le_refl _⟩)
        have e0 := row20 R15.out
        have e1 := row21 R15.out
        have el := R15.out.lt
        have z0 := row20 R20.out
        have z1 := row21 R20.out
        have zl := R20.out.lt
        have ha1 : (errL ra != errL ra) = false := by simp
        have ha2 : (errL rb != errL rb) = false := by simp
        have ha3 : (errL rc != errL rc) = false := by simp
        go_upto_region 22 with (fail)
        clear e0 e1 el z0 z1 zl ha1 ha2 ha3 R15 R20
        have q0 : u.cell? ⟨g10, 0, none⟩ = some (.int .u64 ((valL ra).E : Int)) := by have := RowAt.cell R10.out 0; simpa [limC] using this
        have q1 : u.cell? ⟨g10, 1, none⟩ = some (.slice (A10 0) (n10 0) (c10 0)) := by have := RowAt.cell R10.out 1; simpa [limC] using this
        have q2 : u.cell? ⟨g10, 2, none⟩ = some (.slice (A10 1) (n10 1) (c10 1)) := by have := RowAt.cell R10.out 2; simpa [limC] using this
        have q3 : u.cell? ⟨g10, 3, none⟩ = some (.slice (A10 2) (n10 2) (c10 2)) := by have := RowAt.cell R10.out 3; simpa [limC] using this
        have ql := R10.out.lt
        have p0 : u.cell? ⟨gz, 0, none⟩ = some (.int .u64 ((valL ra).E : Int)) := by have := RowAt.cell R17.out 0; simpa [limC] using this
        have p1 : u.cell? ⟨gz, 1, none⟩ = some (.slice (A7 0) (n7 0) (c7 0)) := by have := RowAt.cell R17.out 1; simpa [limC] using this
        have p2 : u.cell? ⟨gz, 2, none⟩ = some (.slice (A7 1) (n7 1) (c7 1)) := by have := RowAt.cell R17.out 2; simpa [limC] using this
        have p3 : u.cell? ⟨gz, 3, none⟩ = some (.slice (A7 2) (n7 2) (c7 2)) := by have := RowAt.cell R17.out 3; simpa [limC] using this
        have pl := R17.out.lt
        have HC := hide (rsame_any A10 n10 c10 (valL ra) A7 n7 c7 (valL ra) u LA.out.top D17.out.top LEN10.out K17.out true (sameB_self _))
        go_wp2_with fail
        with_reducible refine HC.out.mono ?_
        rintro e u11 ⟨rfl, hb⟩
        replace X := hide (X.out.below hb)
        replace HX := hide (HX.out.later hb)
        replace R5 := hide (R5.out.below hb)
        replace R8 := hide (R8.out.below hb)
        replace R9 := hide (R9.out.below hb)
        replace R10 := hide (R10.out.below hb)
        replace R12 := hide (R12.out.below hb)
        replace R14 := hide (R14.out.below hb)
        replace R17 := hide (R17.out.below hb)
        replace R18 := hide (R18.out.below hb)
        replace R19 := hide (R19.out.below hb)
        replace HL := hide (HL.out.later hb)
        replace HWAS := hide (HWAS.out.later hb)
        replace LA := hide (LA.out.later hb)
        replace LB := hide (LB.out.later hb)
        replace LC := hide (LC.out.later hb)
        replace GA := hide (GA.out.later hb)
        replace GB := hide (GB.out.later hb)
        replace GC := hide (GC.out.later hb)
        replace HSB := hide (HSB.out.later hb)
        replace D17 := hide (D17.out.later hb)
        replace D18 := hide (D18.out.later hb)
        replace D19 := hide (D19.out.later hb)
        replace HBL := hide (HBL.out.trans (hb.mono HBL.out.size))
        clear hb HC
        clear q0 q1 q2 q3 ql p0 p1 p2 p3 pl
        have q0 : u11.cell? ⟨g12, 0, none⟩ = some (.int .u64 ((valL rb).E : Int)) := by have := RowAt.cell R12.out 0; simpa [limC] using this
        have q1 : u11.cell? ⟨g12, 1, none⟩ = some (.slice (A12 0) (n12 0) (c12 0)) := by have := RowAt.cell R12.out 1; simpa [limC] using this
        have q2 : u11.cell? ⟨g12, 2, none⟩ = some (.slice (A12 1) (n12 1) (c12 1)) := by have := RowAt.cell R12.out 2; simpa [limC] using this
        have q3 : u11.cell? ⟨g12, 3, none⟩ = some (.slice (A12 2) (n12 2) (c12 2)) := by have := RowAt.cell R12.out 3; simpa [limC] using this
        have ql := R12.out.lt
        have p0 : u11.cell? ⟨(gz + 1), 0, none⟩ = some (.int .u64 ((valL rb).E : Int)) := by have := RowAt.cell R18.out 0; simpa [limC] using this
        have p1 : u11.cell? ⟨(gz + 1), 1, none⟩ = some (.slice (A8 0) (n8 0) (c8 0)) := by have := RowAt.cell R18.out 1; simpa [limC] using this
        have p2 : u11.cell? ⟨(gz + 1), 2, none⟩ = some (.slice (A8 1) (n8 1) (c8 1)) := by have := RowAt.cell R18.out 2; simpa [limC] using this
        have p3 : u11.cell? ⟨(gz + 1), 3, none⟩ = some (.slice (A8 2) (n8 2) (c8 2)) := by have := RowAt.cell R18.out 3; simpa [limC] using this
        have pl := R18.out.lt
        have HC := hide (rsame_any A12 n12 c12 (valL rb) A8 n8 c8 (valL rb) u11 LB.out.top D18.out.top LEN12.out K18.out true (sameB_self _))
        go_wp2_with fail
        with_reducible refine HC.out.mono ?_
        rintro e u12 ⟨rfl, hb⟩
        replace X := hide (X.out.below hb)
        replace HX := hide (HX.out.later hb)
        replace R5 := hide (R5.out.below hb)
        replace R8 := hide (R8.out.below hb)
        replace R9 := hide (R9.out.below hb)
        replace R10 := hide (R10.out.below hb)
        replace R12 := hide (R12.out.below hb)
        replace R14 := hide (R14.out.below hb)
        replace R17 := hide (R17.out.below hb)
        replace R18 := hide (R18.out.below hb)
        replace R19 := hide (R19.out.below hb)
        replace HL := hide (HL.out.later hb)
        replace HWAS := hide (HWAS.out.later hb)
        replace LA := hide (LA.out.later hb)
        replace LB := hide (LB.out.later hb)
        replace LC := hide (LC.out.later hb)
        replace GA := hide (GA.out.later hb)
        replace GB := hide (GB.out.later hb)
        replace GC := hide (GC.out.later hb)
        replace HSB := hide (HSB.out.later hb)
        replace D17 := hide (D17.out.later hb)
        replace D18 := hide (D18.out.later hb)
        replace D19 := hide (D19.out.later hb)
        replace HBL := hide (HBL.out.trans (hb.mono HBL.out.size))
        clear hb HC
        clear q0 q1 q2 q3 ql p0 p1 p2 p3 pl
        have q0 : u12.cell? ⟨g14, 0, none⟩ = some (.int .u64 ((valT rc).E : Int)) := by have := RowAt.cell R14.out 0; simpa [limC] using this
        have q1 : u12.cell? ⟨g14, 1, none⟩ = some (.slice (A14 0) (n14 0) (c14 0)) := by have := RowAt.cell R14.out 1; simpa [limC] using this
        have q2 : u12.cell? ⟨g14, 2, none⟩ = some (.slice (A14 1) (n14 1) (c14 1)) := by have := RowAt.cell R14.out 2; simpa [limC] using this
        have q3 : u12.cell? ⟨g14, 3, none⟩ = some (.slice (A14 2) (n14 2) (c14 2)) := by have := RowAt.cell R14.out 3; simpa [limC] using this
        have ql := R14.out.lt
        have p0 : u12.cell? ⟨(gz + 1 + 1), 0, none⟩ = some (.int .u64 ((valT rc).E : Int)) := by have := RowAt.cell R19.out 0; simpa [limC] using this
        have p1 : u12.cell? ⟨(gz + 1 + 1), 1, none⟩ = some (.slice (A11 0) (n11 0) (c11 0)) := by have := RowAt.cell R19.out 1; simpa [limC] using this
        have p2 : u12.cell? ⟨(gz + 1 + 1), 2, none⟩ = some (.slice (A11 1) (n11 1) (c11 1)) := by have := RowAt.cell R19.out 2; simpa [limC] using this
        have p3 : u12.cell? ⟨(gz + 1 + 1), 3, none⟩ = some (.slice (A11 2) (n11 2) (c11 2)) := by have := RowAt.cell R19.out 3; simpa [limC] using this
        have pl := R19.out.lt
        have HC := hide (rsame_any A14 n14 c14 (valT rc) A11 n11 c11 (valT rc) u12 LC.out.top D19.out.top LEN14.out K19.out true (sameB_self _))
        go_wp2_with fail
        with_reducible refine HC.out.mono ?_
        rintro e u13 ⟨rfl, hb⟩
        replace X := hide (X.out.below hb)
        replace HX := hide (HX.out.later hb)
        replace R5 := hide (R5.out.below hb)
        replace R8 := hide (R8.out.below hb)
        replace R9 := hide (R9.out.below hb)
        replace R10 := hide (R10.out.below hb)
        replace R12 := hide (R12.out.below hb)
        replace R14 := hide (R14.out.below hb)
        replace R17 := hide (R17.out.below hb)
        replace R18 := hide (R18.out.below hb)
        replace R19 := hide (R19.out.below hb)
        replace HL := hide (HL.out.later hb)
        replace HWAS := hide (HWAS.out.later hb)
        replace LA := hide (LA.out.later hb)
        replace LB := hide (LB.out.later hb)
        replace LC := hide (LC.out.later hb)
        replace GA := hide (GA.out.later hb)
        replace GB := hide (GB.out.later hb)
        replace GC := hide (GC.out.later hb)
        replace HSB := hide (HSB.out.later hb)
        replace D17 := hide (D17.out.later hb)
        replace D18 := hide (D18.out.later hb)
        replace D19 := hide (D19.out.later hb)
        replace HBL := hide (HBL.out.trans (hb.mono HBL.out.size))
        clear hb HC
        clear q0 q1 q2 q3 ql p0 p1 p2 p3 pl
        have HZ := hide (show gz < u13.heap.size from R17.out.lt)
        clear R17 R18 R19 D17 D18 D19 K17 K18 K19
        have q0 : u13.cell? ⟨g5, 0, none⟩ = some (.int .u64 (l.E : Int)) := by have := RowAt.cell R5.out 0; simpa [limC] using this
        have q1 : u13.cell? ⟨g5, 1, none⟩ = some (.slice (A 0) (n 0) (c 0)) := by have := RowAt.cell R5.out 1; simpa [limC] using this
        have q2 : u13.cell? ⟨g5, 2, none⟩ = some (.slice (A 1) (n 1) (c 1)) := by have := RowAt.cell R5.out 2; simpa [limC] using this
        have q3 : u13.cell? ⟨g5, 3, none⟩ = some (.slice (A 2) (n 2) (c 2)) := by have := RowAt.cell R5.out 3; simpa [limC] using this
        have ql := R5.out.lt
        go_upto_region 24 with (fail)
        have OZ := hide (show g14 + 1 < u13.heap.size from by have := ORD.out; have := HZ.out; omega)
        have hbx : Below u13.heap.size u13 (u13.alloc (.cells (limC (l).E A n c) 26)) := (Below.refl _ _).alloc (Nat.le_refl _) _
        have R24 := hide (RowAt.new u13 26 (limC (l).E A n c))
        replace X := hide (X.out.below hbx)
        replace HX := hide (HX.out.later hbx)
        replace R5 := hide (R5.out.below hbx)
        replace R8 := hide (R8.out.below hbx)
        replace R9 := hide (R9.out.below hbx)
        replace R10 := hide (R10.out.below hbx)
        replace R12 := hide (R12.out.below hbx)
        replace R14 := hide (R14.out.below hbx)
        replace HL := hide (HL.out.later hbx)
        replace HWAS := hide (HWAS.out.later hbx)
        replace LA := hide (LA.out.later hbx)
        replace LB := hide (LB.out.later hbx)
        replace LC := hide (LC.out.later hbx)
        replace GA := hide (GA.out.later hbx)
        replace GB := hide (GB.out.later hbx)
        replace GC := hide (GC.out.later hbx)
        replace HSB := hide (HSB.out.later hbx)
        replace HBL := hide (HBL.out.trans (hbx.mono HBL.out.size))
        clear hbx
        go_upto_block 2 with (fail)
        generalize u13.alloc (.cells (limC (l).E A n c) 26) = u14 at *
        generalize u13.heap.size = g24 at *
        clear q0 q1 q2 q3 ql
        have INVN := hide (INV.out.next (s := (s, g)) HSG.out)
        go_cut [24] from 124 to 154 (fun s24 wx => s24 = .pointer (some ⟨g24, 0, none⟩) ∧ NextAt u14 wx g24 (nxt l (s, g)))
        case first =>
          have S24 := hide (show g24 < u14.heap.size from R24.out.lt)
          have e0 := row20 R8.out
          have el := R8.out.lt
          by_cases h0 : 0 ≤ s
          · skip
            have hd : decide (0 ≤ s) = true := by simpa using h0
            have hd2 : decide (s < 0) = false := by simp; omega
            have H0 := hide h0
            clear h0
            by_cases ha : errL ra = 0
            · skip
              have ha1 : (errL ra == 0) = true := by simpa using ha
              have HA := hide ha
              clear ha
              have q0 : u14.cell? ⟨g10, 0, none⟩ = some (.int .u64 ((valL ra).E : Int)) := by have := RowAt.cell R10.out 0; simpa [limC] using this
              have q1 : u14.cell? ⟨g10, 1, none⟩ = some (.slice (A10 0) (n10 0) (c10 0)) := by have := RowAt.cell R10.out 1; simpa [limC] using this
              have q2 : u14.cell? ⟨g10, 2, none⟩ = some (.slice (A10 1) (n10 1) (c10 1)) := by have := RowAt.cell R10.out 2; simpa [limC] using this
              have q3 : u14.cell? ⟨g10, 3, none⟩ = some (.slice (A10 2) (n10 2) (c10 2)) := by have := RowAt.cell R10.out 3; simpa [limC] using this
              have ql := R10.out.lt
              have HC := hide (show Calls Tryd.prog 8 #[.agg (limC (valL ra).E A10 n10 c10)] u14 (OwnU u14 (valL ra).cut) from OwnUC u14 LA.out.rd LA.out.le CAP10.out)
              go_wp2_with fail
              with_reducible refine HC.out.mono ?_
              rintro e u15 ⟨A6, n6, c6, rfl, ho, hb⟩
              replace R24 := hide (R24.out.below hb)
              have HN := hide (Nb.of_own ho)
              have HCN := hide ho.cap
              have HB15 := hide (hb.mono (Nat.le_of_lt S24.out))
              clear ho
              clear hb HC
              clear q0 q1 q2 q3 ql
              clear e0 el
              have z0 : u15.cell? ⟨g24, 0, none⟩ = some (.int .u64 (l.E : Int)) := by have := R24.out.cell 0; simpa [limC] using this
              have f0 := R24.out.frozen 0
              have z1 : u15.cell? ⟨g24, 1, none⟩ = some (.slice (A 0) (n 0) (c 0)) := by have := R24.out.cell 1; simpa [limC] using this
              have f1 := R24.out.frozen 1
              have z2 : u15.cell? ⟨g24, 2, none⟩ = some (.slice (A 1) (n 1) (c 1)) := by have := R24.out.cell 2; simpa [limC] using this
              have f2 := R24.out.frozen 2
              have z3 : u15.cell? ⟨g24, 3, none⟩ = some (.slice (A 2) (n 2) (c 2)) := by have := R24.out.cell 3; simpa [limC] using this
              have f3 := R24.out.frozen 3
              have zl := R24.out.lt
              have HLD : Hid (LaidL g24 u15 (limC (Lim.cut (valL ra)).E A6 n6 c6) ((((u15.setCell ⟨g24, 0, none⟩ (.int .u64 ((Lim.cut (valL ra)).E : Int))).setCell ⟨g24, 1, none⟩ (.slice (A6 0) (n6 0) (c6 0))).setCell ⟨g24, 2, none⟩ (.slice (A6 1) (n6 1) (c6 1))).setCell ⟨g24, 3, none⟩ (.slice (A6 2) (n6 2) (c6 2)))) := hide (laidL_of R24.out rfl)
              go_wp2_with fail
              go_meet
              case rel => exact ⟨rfl, by rw [nxt_a HRA.out H0.out HA.out]; exact ⟨A6, n6, c6, HLD.out.row, (HN.out.laid HLD.out S24.out).rd, HCN.out, HB15.out.trans HLD.out.below⟩⟩
            · skip
              have ha1 : (errL ra == 0) = false := by simpa using ha
              have HA := hide ha
              clear ha
              go_wp2_with fail
              go_meet
              case rel => exact ⟨rfl, by rw [nxt_a0 HRA.out H0.out HA.out]; exact ⟨A, n, c, R24.out, HL.out.top, CAP.out, Below.refl _ _⟩⟩
          · skip
            have hd : decide (0 ≤ s) = false := by simpa using h0
            have hd2 : decide (s < 0) = true := by simp; omega
            have H0 := hide h0
            clear h0
            by_cases hc : errL rc = 0
            · skip
              have ha1 : (errL rc == 0) = true := by simpa using hc
              have HA := hide hc
              clear hc
              have q0 : u14.cell? ⟨g14, 0, none⟩ = some (.int .u64 ((valT rc).E : Int)) := by have := RowAt.cell R14.out 0; simpa [limC] using this
              have q1 : u14.cell? ⟨g14, 1, none⟩ = some (.slice (A14 0) (n14 0) (c14 0)) := by have := RowAt.cell R14.out 1; simpa [limC] using this
              have q2 : u14.cell? ⟨g14, 2, none⟩ = some (.slice (A14 1) (n14 1) (c14 1)) := by have := RowAt.cell R14.out 2; simpa [limC] using this
              have q3 : u14.cell? ⟨g14, 3, none⟩ = some (.slice (A14 2) (n14 2) (c14 2)) := by have := RowAt.cell R14.out 3; simpa [limC] using this
              have ql := R14.out.lt
              have HC := hide (show Calls Tryd.prog 8 #[.agg (limC (valT rc).E A14 n14 c14)] u14 (OwnU u14 (valT rc).cut) from OwnUC u14 LC.out.rd LC.out.le CAP14.out)
              go_wp2_with fail
              with_reducible refine HC.out.mono ?_
              rintro e u15 ⟨A6, n6, c6, rfl, ho, hb⟩
              replace R24 := hide (R24.out.below hb)
              have HN := hide (Nb.of_own ho)
              have HCN := hide ho.cap
              have HB15 := hide (hb.mono (Nat.le_of_lt S24.out))
              clear ho
              clear hb HC
              clear q0 q1 q2 q3 ql
              clear e0 el
              have z0 : u15.cell? ⟨g24, 0, none⟩ = some (.int .u64 (l.E : Int)) := by have := R24.out.cell 0; simpa [limC] using this
              have f0 := R24.out.frozen 0
              have z1 : u15.cell? ⟨g24, 1, none⟩ = some (.slice (A 0) (n 0) (c 0)) := by have := R24.out.cell 1; simpa [limC] using this
              have f1 := R24.out.frozen 1
              have z2 : u15.cell? ⟨g24, 2, none⟩ = some (.slice (A 1) (n 1) (c 1)) := by have := R24.out.cell 2; simpa [limC] using this
              have f2 := R24.out.frozen 2
              have z3 : u15.cell? ⟨g24, 3, none⟩ = some (.slice (A 2) (n 2) (c 2)) := by have := R24.out.cell 3; simpa [limC] using this
              have f3 := R24.out.frozen 3
              have zl := R24.out.lt
              have HLD : Hid (LaidL g24 u15 (limC (Lim.cut (valT rc)).E A6 n6 c6) ((((u15.setCell ⟨g24, 0, none⟩ (.int .u64 ((Lim.cut (valT rc)).E : Int))).setCell ⟨g24, 1, none⟩ (.slice (A6 0) (n6 0) (c6 0))).setCell ⟨g24, 2, none⟩ (.slice (A6 1) (n6 1) (c6 1))).setCell ⟨g24, 3, none⟩ (.slice (A6 2) (n6 2) (c6 2)))) := hide (laidL_of R24.out rfl)
              go_wp2_with fail
              go_meet
              case rel => exact ⟨rfl, by rw [nxt_c HRC.out (show ¬ (0 : Int) ≤ (s, g).1 from by have := H0.out; show ¬ (0 : Int) ≤ s; omega) HA.out]; exact ⟨A6, n6, c6, HLD.out.row, (HN.out.laid HLD.out S24.out).rd, HCN.out, HB15.out.trans HLD.out.below⟩⟩
            · skip
              have ha1 : (errL rc == 0) = false := by simpa using hc
              have HA := hide hc
              clear hc
              by_cases hb2 : errL rb = 0
              · skip
                have ha2 : (errL rb == 0) = true := by simpa using hb2
                have HB2 := hide hb2
                clear hb2
                have q0 : u14.cell? ⟨g12, 0, none⟩ = some (.int .u64 ((valL rb).E : Int)) := by have := RowAt.cell R12.out 0; simpa [limC] using this
                have q1 : u14.cell? ⟨g12, 1, none⟩ = some (.slice (A12 0) (n12 0) (c12 0)) := by have := RowAt.cell R12.out 1; simpa [limC] using this
                have q2 : u14.cell? ⟨g12, 2, none⟩ = some (.slice (A12 1) (n12 1) (c12 1)) := by have := RowAt.cell R12.out 2; simpa [limC] using this
                have q3 : u14.cell? ⟨g12, 3, none⟩ = some (.slice (A12 2) (n12 2) (c12 2)) := by have := RowAt.cell R12.out 3; simpa [limC] using this
                have ql := R12.out.lt
                have HC := hide (show Calls Tryd.prog 8 #[.agg (limC (valL rb).E A12 n12 c12)] u14 (OwnU u14 (valL rb).cut) from OwnUC u14 LB.out.rd LB.out.le CAP12.out)
                go_wp2_with fail
                with_reducible refine HC.out.mono ?_
                rintro e u15 ⟨A6, n6, c6, rfl, ho, hb⟩
                replace R24 := hide (R24.out.below hb)
                have HN := hide (Nb.of_own ho)
                have HCN := hide ho.cap
                have HB15 := hide (hb.mono (Nat.le_of_lt S24.out))
                clear ho
                clear hb HC
                clear q0 q1 q2 q3 ql
                clear e0 el
                have z0 : u15.cell? ⟨g24, 0, none⟩ = some (.int .u64 (l.E : Int)) := by have := R24.out.cell 0; simpa [limC] using this
                have f0 := R24.out.frozen 0
                have z1 : u15.cell? ⟨g24, 1, none⟩ = some (.slice (A 0) (n 0) (c 0)) := by have := R24.out.cell 1; simpa [limC] using this
                have f1 := R24.out.frozen 1
                have z2 : u15.cell? ⟨g24, 2, none⟩ = some (.slice (A 1) (n 1) (c 1)) := by have := R24.out.cell 2; simpa [limC] using this
                have f2 := R24.out.frozen 2
                have z3 : u15.cell? ⟨g24, 3, none⟩ = some (.slice (A 2) (n 2) (c 2)) := by have := R24.out.cell 3; simpa [limC] using this
                have f3 := R24.out.frozen 3
                have zl := R24.out.lt
                have HLD : Hid (LaidL g24 u15 (limC (Lim.cut (valL rb)).E A6 n6 c6) ((((u15.setCell ⟨g24, 0, none⟩ (.int .u64 ((Lim.cut (valL rb)).E : Int))).setCell ⟨g24, 1, none⟩ (.slice (A6 0) (n6 0) (c6 0))).setCell ⟨g24, 2, none⟩ (.slice (A6 1) (n6 1) (c6 1))).setCell ⟨g24, 3, none⟩ (.slice (A6 2) (n6 2) (c6 2)))) := hide (laidL_of R24.out rfl)
                go_wp2_with fail
                go_meet
                case rel => exact ⟨rfl, by rw [nxt_b HRC.out HRB.out (show ¬ (0 : Int) ≤ (s, g).1 from by have := H0.out; show ¬ (0 : Int) ≤ s; omega) HA.out HB2.out]; exact ⟨A6, n6, c6, HLD.out.row, (HN.out.laid HLD.out S24.out).rd, HCN.out, HB15.out.trans HLD.out.below⟩⟩
              · skip
                have ha2 : (errL rb == 0) = false := by simpa using hb2
                have HB2 := hide hb2
                clear hb2
                go_wp2_with fail
                go_meet
                case rel => exact ⟨rfl, by rw [nxt_b0 HRC.out HRB.out (show ¬ (0 : Int) ≤ (s, g).1 from by have := H0.out; show ¬ (0 : Int) ≤ s; omega) HA.out HB2.out]; exact ⟨A, n, c, R24.out, HL.out.top, CAP.out, Below.refl _ _⟩⟩
        case rest =>
          rename_i K hK
          refine hK _ _ ?_
          clear hK K
          obtain ⟨u16, hu⟩ : ∃ w, w = wc := ⟨_, rfl⟩
          subst hu
          obtain ⟨rfl, A15, n15, c15, r24, d24, k24, hb⟩ := hcut
          have hord := ORD.out
          have hglt := GLT.out
          have hbb := HBB.out
          have hoz := OZ.out
          replace X := hide (X.out.belowB (by omega) hb)
          replace R5 := hide (R5.out.belowB (by omega) hb)
          replace R9 := hide (R9.out.belowB (by omega) hb)
          replace R10 := hide (R10.out.belowB (by omega) hb)
          replace R12 := hide (R12.out.belowB (by omega) hb)
          replace R14 := hide (R14.out.belowB (by omega) hb)
          replace HX := hide (HX.out.lowB hb (by omega))
          replace HL := hide (HL.out.lowB hb (by omega))
          replace HWAS := hide (HWAS.out.lowB hb (by omega))
          replace GA := hide (GA.out.lowB hb (by omega))
          replace GB := hide (GB.out.lowB hb (by omega))
          replace GC := hide (GC.out.lowB hb (by omega))
          replace HSB := hide (HSB.out.lowB hb (by omega))
          replace HBL := hide (HBL.out.trans (hb.mono (by omega)))
          replace R24 := hide r24
          have HN0 := hide (show Lb u16 u16.heap.size (nxt l (s, g)) A15 n15 from ⟨d24, Nat.le_refl _⟩)
          have CAP15 := hide k24
          obtain ⟨ln, hln⟩ : ∃ x, nxt l (s, g) = x := ⟨_, rfl⟩
          rw [hln] at R24 HN0 INVN
          have HC24 := hide (cut_short INVN.out.short)
          clear r24 d24 k24 hb hln R8 LA LB LC HRA HRB HRC
          have q0 : u16.cell? ⟨g24, 0, none⟩ = some (.int .u64 (ln.E : Int)) := by have := RowAt.cell R24.out 0; simpa [limC] using this
          have q1 : u16.cell? ⟨g24, 1, none⟩ = some (.slice (A15 0) (n15 0) (c15 0)) := by have := RowAt.cell R24.out 1; simpa [limC] using this
          have q2 : u16.cell? ⟨g24, 2, none⟩ = some (.slice (A15 1) (n15 1) (c15 1)) := by have := RowAt.cell R24.out 2; simpa [limC] using this
          have q3 : u16.cell? ⟨g24, 3, none⟩ = some (.slice (A15 2) (n15 2) (c15 2)) := by have := RowAt.cell R24.out 3; simpa [limC] using this
          have ql := R24.out.lt
          have HC := hide (show Calls Tryd.prog 8 #[.agg (limC ln.E A15 n15 c15)] u16 (OwnU u16 ln) from by have h := OwnUC u16 HN0.out.rd HN0.out.le CAP15.out; rwa [HC24.out] at h)
          go_wp2_with fail
          with_reducible refine HC.out.mono ?_
          rintro e u17 ⟨A6, n6, c6, rfl, ho, hb⟩
          have HS24 := hide (show g24 + 1 ≤ u16.heap.size from R24.out.lt)
          replace X := hide (X.out.below hb)
          replace HX := hide (HX.out.later hb)
          replace R5 := hide (R5.out.below hb)
          replace R9 := hide (R9.out.below hb)
          replace R10 := hide (R10.out.below hb)
          replace R12 := hide (R12.out.below hb)
          replace R14 := hide (R14.out.below hb)
          replace HL := hide (HL.out.later hb)
          replace HWAS := hide (HWAS.out.later hb)
          replace GA := hide (GA.out.later hb)
          replace GB := hide (GB.out.later hb)
          replace GC := hide (GC.out.later hb)
          replace HSB := hide (HSB.out.later hb)
          replace R24 := hide (R24.out.below hb)
          replace HBL := hide (HBL.out.trans (hb.mono HBL.out.size))
          have HN := hide (show Nb u17 (g24 + 1) ln A6 n6 from ⟨ho.rd, fun k p hk hp => ⟨Nat.le_trans HS24.out (ho.lo k p hk hp).1, (ho.lo k p hk hp).2⟩⟩)
          have CAP6 := hide ho.cap
          have LEN6 := hide ho.len
          clear ho HS24 HN0 CAP15
          clear hb HC
          clear q0 q1 q2 q3 ql
          have z0 : u17.cell? ⟨g24, 0, none⟩ = some (.int .u64 (ln.E : Int)) := by have := R24.out.cell 0; simpa [limC] using this
          have f0 := R24.out.frozen 0
          have z1 : u17.cell? ⟨g24, 1, none⟩ = some (.slice (A15 0) (n15 0) (c15 0)) := by have := R24.out.cell 1; simpa [limC] using this
          have f1 := R24.out.frozen 1
          have z2 : u17.cell? ⟨g24, 2, none⟩ = some (.slice (A15 1) (n15 1) (c15 1)) := by have := R24.out.cell 2; simpa [limC] using this
          have f2 := R24.out.frozen 2
          have z3 : u17.cell? ⟨g24, 3, none⟩ = some (.slice (A15 2) (n15 2) (c15 2)) := by have := R24.out.cell 3; simpa [limC] using this
          have f3 := R24.out.frozen 3
          have zl := R24.out.lt
          have HLD : Hid (LaidL g24 u17 (limC (ln).E A6 n6 c6) ((((u17.setCell ⟨g24, 0, none⟩ (.int .u64 (ln.E : Int))).setCell ⟨g24, 1, none⟩ (.slice (A6 0) (n6 0) (c6 0))).setCell ⟨g24, 2, none⟩ (.slice (A6 1) (n6 1) (c6 1))).setCell ⟨g24, 3, none⟩ (.slice (A6 2) (n6 2) (c6 2)))) := hide (laidL_of R24.out rfl)
          go_upto_region 32 with (fail)
          generalize ((((u17.setCell ⟨g24, 0, none⟩ (.int .u64 (ln.E : Int))).setCell ⟨g24, 1, none⟩ (.slice (A6 0) (n6 0) (c6 0))).setCell ⟨g24, 2, none⟩ (.slice (A6 1) (n6 1) (c6 1))).setCell ⟨g24, 3, none⟩ (.slice (A6 2) (n6 2) (c6 2))) = u18 at *
          clear z0 z1 z2 z3 zl f0 f1 f2 f3
          replace X := hide (X.out.laidNe HLD.out (by omega))
          replace R5 := hide (R5.out.laidNe HLD.out (by omega))
          replace R9 := hide (R9.out.laidNe HLD.out (by omega))
          replace R10 := hide (R10.out.laidNe HLD.out (by omega))
          replace R12 := hide (R12.out.laidNe HLD.out (by omega))
          replace R14 := hide (R14.out.laidNe HLD.out (by omega))
          replace HX := hide (HX.out.laid HLD.out (by omega))
          replace HL := hide (HL.out.laid HLD.out (by omega))
          replace HWAS := hide (HWAS.out.laid HLD.out (by omega))
          replace HSB := hide (HSB.out.laidG HLD.out (by omega))
          replace GA := hide (GA.out.laid HLD.out (by omega))
          replace GB := hide (GB.out.laid HLD.out (by omega))
          replace GC := hide (GC.out.laid HLD.out (by omega))
          replace HN := hide (HN.out.laid HLD.out (by omega))
          replace R24 := hide HLD.out.row
          replace HBL := hide (HBL.out.trans (HLD.out.below.mono (by omega)))
          clear HLD
          have q0 : u18.cell? ⟨g10, 0, none⟩ = some (.int .u64 ((valL ra).E : Int)) := by have := RowAt.cell R10.out 0; simpa [limC] using this
          have q1 : u18.cell? ⟨g10, 1, none⟩ = some (.slice (A10 0) (n10 0) (c10 0)) := by have := RowAt.cell R10.out 1; simpa [limC] using this
          have q2 : u18.cell? ⟨g10, 2, none⟩ = some (.slice (A10 1) (n10 1) (c10 1)) := by have := RowAt.cell R10.out 2; simpa [limC] using this
          have q3 : u18.cell? ⟨g10, 3, none⟩ = some (.slice (A10 2) (n10 2) (c10 2)) := by have := RowAt.cell R10.out 3; simpa [limC] using this
          have ql := R10.out.lt
          have HC := hide (spoil_any t10 g10 (valL ra).E A10 n10 c10 u18 GA.out.gen GA.out.le LEN10.out)
          go_wp2_with fail
          with_reducible refine HC.out.mono ?_
          rintro e u19 ⟨rfl, hb⟩
          replace X := hide (X.out.betw hb (by omega))
          replace R5 := hide (R5.out.betw hb (by omega))
          replace R9 := hide (R9.out.betw hb (by omega))
          replace R24 := hide (R24.out.betw hb (by omega))
          replace R12 := hide (R12.out.betw hb (by omega))
          replace R14 := hide (R14.out.betw hb (by omega))
          replace HX := hide (HX.out.betw hb (by omega))
          replace HL := hide (HL.out.betw hb (by omega))
          replace HWAS := hide (HWAS.out.betw hb (by omega))
          replace HSB := hide (HSB.out.betw hb (by omega))
          replace HN := hide (HN.out.betw hb (by omega))
          replace GB := hide (GB.out.betw hb (by omega))
          replace GC := hide (GC.out.betw hb (by omega))
          replace HBL := hide (Betw.low HBL.out hb (by omega) (Nat.le_refl _))
          clear hb HC R10 GA
          clear q0 q1 q2 q3 ql
          have q0 : u19.cell? ⟨g12, 0, none⟩ = some (.int .u64 ((valL rb).E : Int)) := by have := RowAt.cell R12.out 0; simpa [limC] using this
          have q1 : u19.cell? ⟨g12, 1, none⟩ = some (.slice (A12 0) (n12 0) (c12 0)) := by have := RowAt.cell R12.out 1; simpa [limC] using this
          have q2 : u19.cell? ⟨g12, 2, none⟩ = some (.slice (A12 1) (n12 1) (c12 1)) := by have := RowAt.cell R12.out 2; simpa [limC] using this
          have q3 : u19.cell? ⟨g12, 3, none⟩ = some (.slice (A12 2) (n12 2) (c12 2)) := by have := RowAt.cell R12.out 3; simpa [limC] using this
          have ql := R12.out.lt
          have HC := hide (spoil_any t12 g12 (valL rb).E A12 n12 c12 u19 GB.out.gen GB.out.le LEN12.out)
          go_wp2_with fail
          with_reducible refine HC.out.mono ?_
          rintro e u20 ⟨rfl, hb⟩
          replace X := hide (X.out.betw hb (by omega))
          replace R5 := hide (R5.out.betw hb (by omega))
          replace R9 := hide (R9.out.betw hb (by omega))
          replace R24 := hide (R24.out.betw hb (by omega))
          replace R14 := hide (R14.out.betw hb (by omega))
          replace HX := hide (HX.out.betw hb (by omega))
          replace HL := hide (HL.out.betw hb (by omega))
          replace HWAS := hide (HWAS.out.betw hb (by omega))
          replace HSB := hide (HSB.out.betw hb (by omega))
          replace HN := hide (HN.out.betw hb (by omega))
          replace GC := hide (GC.out.betw hb (by omega))
          replace HBL := hide (Betw.low HBL.out hb (by omega) (Nat.le_refl _))
          clear hb HC R12 GB
          clear q0 q1 q2 q3 ql
          have q0 : u20.cell? ⟨g14, 0, none⟩ = some (.int .u64 ((valT rc).E : Int)) := by have := RowAt.cell R14.out 0; simpa [limC] using this
          have q1 : u20.cell? ⟨g14, 1, none⟩ = some (.slice (A14 0) (n14 0) (c14 0)) := by have := RowAt.cell R14.out 1; simpa [limC] using this
          have q2 : u20.cell? ⟨g14, 2, none⟩ = some (.slice (A14 1) (n14 1) (c14 1)) := by have := RowAt.cell R14.out 2; simpa [limC] using this
          have q3 : u20.cell? ⟨g14, 3, none⟩ = some (.slice (A14 2) (n14 2) (c14 2)) := by have := RowAt.cell R14.out 3; simpa [limC] using this
          have ql := R14.out.lt
          have HC := hide (spoil_any t14 g14 (valT rc).E A14 n14 c14 u20 GC.out.gen GC.out.le LEN14.out)
          go_wp2_with fail
          with_reducible refine HC.out.mono ?_
          rintro e u21 ⟨rfl, hb⟩
          replace X := hide (X.out.betw hb (by omega))
          replace R5 := hide (R5.out.betw hb (by omega))
          replace R9 := hide (R9.out.betw hb (by omega))
          replace R24 := hide (R24.out.betw hb (by omega))
          replace HX := hide (HX.out.betw hb (by omega))
          replace HL := hide (HL.out.betw hb (by omega))
          replace HWAS := hide (HWAS.out.betw hb (by omega))
          replace HSB := hide (HSB.out.betw hb (by omega))
          replace HN := hide (HN.out.betw hb (by omega))
          replace HBL := hide (Betw.low HBL.out hb (by omega) (Nat.le_refl _))
          clear hb HC R14 GC
          clear q0 q1 q2 q3 ql
          have q0 : u21.cell? ⟨g5, 0, none⟩ = some (.int .u64 (l.E : Int)) := by have := RowAt.cell R5.out 0; simpa [limC] using this
          have q1 : u21.cell? ⟨g5, 1, none⟩ = some (.slice (A 0) (n 0) (c 0)) := by have := RowAt.cell R5.out 1; simpa [limC] using this
          have q2 : u21.cell? ⟨g5, 2, none⟩ = some (.slice (A 1) (n 1) (c 1)) := by have := RowAt.cell R5.out 2; simpa [limC] using this
          have q3 : u21.cell? ⟨g5, 3, none⟩ = some (.slice (A 2) (n 2) (c 2)) := by have := RowAt.cell R5.out 3; simpa [limC] using this
          have ql := R5.out.lt
          have p0 : u21.cell? ⟨g9, 0, none⟩ = some (.int .u64 (l.E : Int)) := by have := RowAt.cell R9.out 0; simpa [limC] using this
          have p1 : u21.cell? ⟨g9, 1, none⟩ = some (.slice (A9 0) (n9 0) (c9 0)) := by have := RowAt.cell R9.out 1; simpa [limC] using this
          have p2 : u21.cell? ⟨g9, 2, none⟩ = some (.slice (A9 1) (n9 1) (c9 1)) := by have := RowAt.cell R9.out 2; simpa [limC] using this
          have p3 : u21.cell? ⟨g9, 3, none⟩ = some (.slice (A9 2) (n9 2) (c9 2)) := by have := RowAt.cell R9.out 3; simpa [limC] using this
          have pl := R9.out.lt
          have HC := hide (rsame_any A n c l A9 n9 c9 l u21 HL.out.top HWAS.out.top LEN.out LEN9.out true (sameB_self _))
          go_wp2_with fail
          with_reducible refine HC.out.mono ?_
          rintro e u22 ⟨rfl, hb⟩
          replace X := hide (X.out.below hb)
          replace HX := hide (HX.out.later hb)
          replace R5 := hide (R5.out.below hb)
          replace R9 := hide (R9.out.below hb)
          replace R24 := hide (R24.out.below hb)
          replace HL := hide (HL.out.later hb)
          replace HWAS := hide (HWAS.out.later hb)
          replace HSB := hide (HSB.out.later hb)
          replace HN := hide (HN.out.later hb)
          replace HBL := hide (HBL.out.trans (hb.mono HBL.out.size))
          clear hb HC
          clear q0 q1 q2 q3 ql p0 p1 p2 p3 pl
          have q0 : u22.cell? ⟨g24, 0, none⟩ = some (.int .u64 (ln.E : Int)) := by have := RowAt.cell R24.out 0; simpa [limC] using this
          have q1 : u22.cell? ⟨g24, 1, none⟩ = some (.slice (A6 0) (n6 0) (c6 0)) := by have := RowAt.cell R24.out 1; simpa [limC] using this
          have q2 : u22.cell? ⟨g24, 2, none⟩ = some (.slice (A6 1) (n6 1) (c6 1)) := by have := RowAt.cell R24.out 2; simpa [limC] using this
          have q3 : u22.cell? ⟨g24, 3, none⟩ = some (.slice (A6 2) (n6 2) (c6 2)) := by have := RowAt.cell R24.out 3; simpa [limC] using this
          have ql := R24.out.lt
          have z0 : u22.cell? ⟨g5, 0, none⟩ = some (.int .u64 (l.E : Int)) := by have := R5.out.cell 0; simpa [limC] using this
          have f0 := R5.out.frozen 0
          have z1 : u22.cell? ⟨g5, 1, none⟩ = some (.slice (A 0) (n 0) (c 0)) := by have := R5.out.cell 1; simpa [limC] using this
          have f1 := R5.out.frozen 1
          have z2 : u22.cell? ⟨g5, 2, none⟩ = some (.slice (A 1) (n 1) (c 1)) := by have := R5.out.cell 2; simpa [limC] using this
          have f2 := R5.out.frozen 2
          have z3 : u22.cell? ⟨g5, 3, none⟩ = some (.slice (A 2) (n 2) (c 2)) := by have := R5.out.cell 3; simpa [limC] using this
          have f3 := R5.out.frozen 3
          have zl := R5.out.lt
          have HLD : Hid (LaidL g5 u22 (limC (ln).E A6 n6 c6) ((((u22.setCell ⟨g5, 0, none⟩ (.int .u64 (ln.E : Int))).setCell ⟨g5, 1, none⟩ (.slice (A6 0) (n6 0) (c6 0))).setCell ⟨g5, 2, none⟩ (.slice (A6 1) (n6 1) (c6 1))).setCell ⟨g5, 3, none⟩ (.slice (A6 2) (n6 2) (c6 2)))) := hide (laidL_of R5.out rfl)
          go_upto_region 38 with (fail)
          generalize ((((u22.setCell ⟨g5, 0, none⟩ (.int .u64 (ln.E : Int))).setCell ⟨g5, 1, none⟩ (.slice (A6 0) (n6 0) (c6 0))).setCell ⟨g5, 2, none⟩ (.slice (A6 1) (n6 1) (c6 1))).setCell ⟨g5, 3, none⟩ (.slice (A6 2) (n6 2) (c6 2))) = u23 at *
          clear z0 z1 z2 z3 zl f0 f1 f2 f3
          clear q0 q1 q2 q3 ql
          replace X := hide (X.out.laidNe HLD.out (by omega))
          replace HX := hide (HX.out.laid HLD.out (by omega))
          replace HSB := hide (HSB.out.laid HLD.out HSO.out)
          replace HN := hide (HN.out.laid HLD.out (by omega))
          replace R5 := hide HLD.out.row
          replace HBL := hide (HBL.out.trans (HLD.out.below.mono (by omega)))
          clear HLD HL HWAS R9 R24
          have hm20 := HM20.out
          have hj20 := HJM.out
          go_wp2_with fail
          go_roundw
          case rel => exact ⟨j + 1, by have := HJM.out; omega, by go_num, ln, A6, n6, c6, X.out, HX.out, R5.out, ⟨HN.out.rd, Nat.le_refl _⟩, CAP6.out, LEN6.out, HSB.out, INVN.out, HBL.out⟩
          case measure => have := HJM.out; simp [intOf]; omega
    · skip
      obtain rfl : j = m := by omega
      have hjj : ¬ ((j : Int) < (j : Int)) := by omega
      clear R5 HL CAP LEN INV HC5
      obtain ⟨rr, hrr⟩ : ∃ r, runR l0.cut st = r := ⟨_, rfl⟩
      have HRR := hide hrr
      have HK := hide (show (∀ k, k < 3 → ((valR rr).r k).length ≤ 4096) ∧ (tookR rr).length ≤ 4096 from by rw [← hrr]; exact runR_keeps (by rw [HTK.out]; exact HM20.out))
      obtain ⟨nt, hnt⟩ : ∃ k, (tookR rr).length = k := ⟨_, rfl⟩
      have HNT := hide hnt
      clear hrr hnt
      go_upto_region 39 with (fail)
      clear hjj
      have q0 : wr.cell? ⟨W.heap.size, 0, none⟩ = some (.int .u64 (l0.E : Int)) := by have := RowAt.cell X.out 0; simpa [limC] using this
      have q1 : wr.cell? ⟨W.heap.size, 1, none⟩ = some (.slice (A0 0) (n0 0) (c0 0)) := by have := RowAt.cell X.out 1; simpa [limC] using this
      have q2 : wr.cell? ⟨W.heap.size, 2, none⟩ = some (.slice (A0 1) (n0 1) (c0 1)) := by have := RowAt.cell X.out 2; simpa [limC] using this
      have q3 : wr.cell? ⟨W.heap.size, 3, none⟩ = some (.slice (A0 2) (n0 2) (c0 2)) := by have := RowAt.cell X.out 3; simpa [limC] using this
      have ql := X.out.lt
      have HC := hide (OwnUC wr HX.out.rd HX.out.le HCC.out)
      go_wp2_with fail
      with_reducible refine HC.out.mono ?_
      rintro e u1 ⟨A6, n6, c6, rfl, ho, hb⟩
      replace X := hide (X.out.below hb)
      replace HX := hide (HX.out.later hb)
      replace HSB := hide (HSB.out.later hb)
      replace HBL := hide (HBL.out.trans (hb.mono HBL.out.size))
      have HO := hide ho
      clear ho
      clear hb HC
      clear q0 q1 q2 q3 ql
      have HC := hide (show Calls Tryd.prog 10 #[.agg (limC l0.cut.E A6 n6 c6), .slice A3 j c3] u1 (RunRef u1 rr) from by have h := RunU u1.heap.size A6 n6 c6 l0.cut j c3 A3 st u1 HO.out.rd HEQ.out (Nat.le_refl _) HO.out.len (gen_cut HG.out) (HSB.out.rd.more HSB.out.le) HTK.out (by have := HM20.out; omega) HSU2.out; rwa [HRR.out] at h)
      go_wp2_with fail
      with_reducible refine HC.out.mono ?_
      rintro e u2 ⟨A7, n7, c7, At, ct, rfl, hd, ht, hb⟩
      replace X := hide (X.out.below hb)
      replace HX := hide (HX.out.later hb)
      replace HSB := hide (HSB.out.later hb)
      replace HBL := hide (HBL.out.trans (hb.mono HBL.out.size))
      have HD := hide (show Lb u2 u2.heap.size (valR rr) A7 n7 from ⟨hd, Nat.le_refl _⟩)
      have HT := hide (show Sb u2 u2.heap.size (tookR rr).length At (tookR rr) from ⟨ht, Nat.le_refl _⟩)
      clear hd ht HO
      clear hb HC
      rw [HNT.out] at HT ⊢
      have hbx : Below u2.heap.size u2 (u2.alloc (.cells (limC (valR rr).E A7 n7 c7) 26)) := (Below.refl _ _).alloc (Nat.le_refl _) _
      have R25 := hide (RowAt.new u2 26 (limC (valR rr).E A7 n7 c7))
      replace X := hide (X.out.below hbx)
      replace HX := hide (HX.out.later hbx)
      replace HSB := hide (HSB.out.later hbx)
      replace HD := hide (HD.out.later hbx)
      replace HT := hide (HT.out.later hbx)
      replace HBL := hide (HBL.out.trans (hbx.mono HBL.out.size))
      clear hbx
      go_upto_region 40 with (fail)
      generalize u2.alloc (.cells (limC (valR rr).E A7 n7 c7) 26) = u3 at *
      generalize u2.heap.size = g25 at *
      have HG25 := hide R25.out.lt
      have HGX := hide X.out.lt
      have hbx : Below u3.heap.size u3 (u3.alloc (.cells zeroC 26)) := (Below.refl _ _).alloc (Nat.le_refl _) _
      have R28 := hide (RowAt.new u3 26 zeroC)
      replace X := hide (X.out.below hbx)
      replace HX := hide (HX.out.later hbx)
      replace HSB := hide (HSB.out.later hbx)
      replace HD := hide (HD.out.later hbx)
      replace HT := hide (HT.out.later hbx)
      replace R25 := hide (R25.out.below hbx)
      replace HBL := hide (HBL.out.trans (hbx.mono HBL.out.size))
      clear hbx
      go_upto_region 43 with (fail)
      have O28 := hide (show g25 < u3.heap.size ∧ W.heap.size < u3.heap.size from ⟨HG25.out, HGX.out⟩)
      generalize u3.alloc (.cells zeroC 26) = u4 at *
      generalize u3.heap.size = g28 at *
      have q0 : u4.cell? ⟨W.heap.size, 0, none⟩ = some (.int .u64 (l0.E : Int)) := by have := RowAt.cell X.out 0; simpa [limC] using this
      have q1 : u4.cell? ⟨W.heap.size, 1, none⟩ = some (.slice (A0 0) (n0 0) (c0 0)) := by have := RowAt.cell X.out 1; simpa [limC] using this
      have q2 : u4.cell? ⟨W.heap.size, 2, none⟩ = some (.slice (A0 1) (n0 1) (c0 1)) := by have := RowAt.cell X.out 2; simpa [limC] using this
      have q3 : u4.cell? ⟨W.heap.size, 3, none⟩ = some (.slice (A0 2) (n0 2) (c0 2)) := by have := RowAt.cell X.out 3; simpa [limC] using this
      have ql := X.out.lt
      have HC := hide (OwnUC u4 HX.out.rd HX.out.le HCC.out)
      go_wp2_with fail
      with_reducible refine HC.out.mono ?_
      rintro e u5 ⟨A6, n6, c6, rfl, ho, hb⟩
      replace X := hide (X.out.below hb)
      replace HX := hide (HX.out.later hb)
      replace HSB := hide (HSB.out.later hb)
      replace HD := hide (HD.out.later hb)
      replace HT := hide (HT.out.later hb)
      replace R25 := hide (R25.out.below hb)
      replace R28 := hide (R28.out.below hb)
      replace HBL := hide (HBL.out.trans (hb.mono HBL.out.size))
      have HO := hide ho
      clear ho
      clear hb HC
      clear q0 q1 q2 q3 ql
      obtain ⟨q, hq⟩ : ∃ q, l0.cut.ok = q := ⟨_, rfl⟩
      have HQR := hide hq
      clear hq
      have HC := hide (right_any A6 n6 c6 l0.cut u5 HO.out.rd HEQ.out HO.out.len q HQR.out)
      go_wp2_with fail
      with_reducible refine HC.out.mono ?_
      rintro e u6 ⟨rfl, hb⟩
      replace X := hide (X.out.below hb)
      replace HX := hide (HX.out.later hb)
      replace HSB := hide (HSB.out.later hb)
      replace HD := hide (HD.out.later hb)
      replace HT := hide (HT.out.later hb)
      replace R25 := hide (R25.out.below hb)
      replace R28 := hide (R28.out.below hb)
      replace HBL := hide (HBL.out.trans (hb.mono HBL.out.size))
      clear HO
      clear hb HC
      go_upto_if 178 with (fail)
      go_cut [29, 30] from 179 to 187 (fun s29 s30 wx => ∃ (At9 : Option Addr) (ct9 : Nat), s29 = .slice At9 nt ct9 ∧ s30 = .int .i64 (errL rr) ∧ Rd wx wx.heap.size 2 At9 nt (Cs encE (tookR rr)) ∧ Want1 wx g28 (valR rr) ∧ Below g28 u6 wx)
      case first =>
        have S28 := hide (show g28 < u6.heap.size from R28.out.lt)
        have e1 := HRR.out
        unfold runR at e1
        rw [HQR.out] at e1
        cases q with
        | false =>
          simp only [Bool.false_eq_true, if_false] at e1
          subst e1
          obtain rfl : 0 = nt := HNT.out
          go_wp2_with fail
          go_meet
          case rel => exact ⟨none, 0, rfl, rfl, Rd.none_, want0 R28.out, Below.refl _ _⟩
        | true =>
          simp only [if_true] at e1
          have HDR := hide e1
          clear e1
          have HQ6 := hide (Below.refl g28 u6)
          have q0 : u6.cell? ⟨W.heap.size, 0, none⟩ = some (.int .u64 (l0.E : Int)) := by have := RowAt.cell X.out 0; simpa [limC] using this
          have q1 : u6.cell? ⟨W.heap.size, 1, none⟩ = some (.slice (A0 0) (n0 0) (c0 0)) := by have := RowAt.cell X.out 1; simpa [limC] using this
          have q2 : u6.cell? ⟨W.heap.size, 2, none⟩ = some (.slice (A0 1) (n0 1) (c0 1)) := by have := RowAt.cell X.out 2; simpa [limC] using this
          have q3 : u6.cell? ⟨W.heap.size, 3, none⟩ = some (.slice (A0 2) (n0 2) (c0 2)) := by have := RowAt.cell X.out 3; simpa [limC] using this
          have ql := X.out.lt
          have HC := hide (OwnUC u6 HX.out.rd HX.out.le HCC.out)
          go_wp2_with fail
          with_reducible refine HC.out.mono ?_
          rintro e u7 ⟨A6, n6, c6, rfl, ho, hb⟩
          replace X := hide (X.out.below hb)
          replace HX := hide (HX.out.later hb)
          replace HSB := hide (HSB.out.later hb)
          replace R28 := hide (R28.out.below hb)
          have HO := hide ho
          clear ho
          replace HQ6 := hide (HQ6.out.trans (hb.mono (Nat.le_of_lt S28.out)))
          replace S28 := hide (Nat.lt_of_lt_of_le S28.out hb.size)
          clear hb HC
          clear q0 q1 q2 q3 ql
          have HC := hide (show Calls Tryd.prog 23 #[.agg (limC l0.cut.E A6 n6 c6), .slice A3 j c3] u7 (RunRef u7 rr) from by have h := rrun_any A6 n6 c6 l0.cut j c3 A3 st u7 HO.out.rd (fun k p hk hp => ⟨trivial, (HO.out.lo k p hk hp).2⟩) HQR.out HO.out.cap (HSB.out.rd.more HSB.out.le) HTK.out (by have := HM20.out; omega); rwa [HDR.out] at h)
          go_wp2_with fail
          with_reducible refine HC.out.mono ?_
          rintro e u8 ⟨A8, n8, c8, Ar, cr, rfl, hd, ht, hb⟩
          replace X := hide (X.out.below hb)
          replace HX := hide (HX.out.later hb)
          replace HSB := hide (HSB.out.later hb)
          replace R28 := hide (R28.out.below hb)
          have HDD := hide hd
          have HTT := hide ht
          clear hd ht HO
          replace HQ6 := hide (HQ6.out.trans (hb.mono (Nat.le_of_lt S28.out)))
          replace S28 := hide (Nat.lt_of_lt_of_le S28.out hb.size)
          clear hb HC
          rw [HNT.out] at HTT ⊢
          have z0 : u8.cell? ⟨g28, 0, none⟩ = some (.int .u64 0) := by have := RowAt.cell R28.out 0; simpa using this
          have z1 : u8.cell? ⟨g28, 1, none⟩ = some (.slice none 0 0) := by have := RowAt.cell R28.out 1; simpa using this
          have z2 : u8.cell? ⟨g28, 2, none⟩ = some (.slice none 0 0) := by have := RowAt.cell R28.out 2; simpa using this
          have z3 : u8.cell? ⟨g28, 3, none⟩ = some (.slice none 0 0) := by have := RowAt.cell R28.out 3; simpa using this
          have zl := RowAt.lt R28.out
          have f0 := RowAt.frozen R28.out 0
          have f1 := RowAt.frozen R28.out 1
          have f2 := RowAt.frozen R28.out 2
          have f3 := RowAt.frozen R28.out 3
          have HLD : Hid (LaidL g28 u8 (limC (valR rr).E A8 n8 c8) ((((u8.setCell ⟨g28, 0, none⟩ (.int .u64 ((valR rr).E : Int))).setCell ⟨g28, 1, none⟩ (.slice (A8 0) (n8 0) (c8 0))).setCell ⟨g28, 2, none⟩ (.slice (A8 1) (n8 1) (c8 1))).setCell ⟨g28, 3, none⟩ (.slice (A8 2) (n8 2) (c8 2)))) := hide (laidL_of R28.out rfl)
          go_wp2_with fail
          go_meet
          case rel => exact ⟨Ar, cr, rfl, rfl, (Rd.laidZ (E := 0) (A2 := fun _ => none) (n2 := fun _ => 0) (c2 := fun _ => 0) HTT.out R28.out HLD.out).more HLD.out.below.size, ⟨A8, n8, c8, HLD.out.row, (LimRd.laidZ (E := 0) (A2 := fun _ => none) (n2 := fun _ => 0) (c2 := fun _ => 0) HDD.out R28.out HLD.out).more HLD.out.below.size, fun k hk => by rw [← HDD.out.len k hk]; exact HK.out.1 k hk⟩, HQ6.out.trans HLD.out.below⟩
      case rest =>
        rename_i K hK
        refine hK _ _ ?_
        clear hK K
        obtain ⟨u9, hu⟩ : ∃ w, w = wc := ⟨_, rfl⟩
        subst hu
        obtain ⟨At9, ct9, rfl, rfl, ht9, ⟨A9, n9, c9, r28, d28, k28⟩, hb⟩ := hcut
        have hord := O28.out
        replace R25 := hide (R25.out.belowB (by omega) hb)
        replace HD := hide (HD.out.lowB hb (by omega))
        replace HT := hide (HT.out.lowB hb (by omega))
        replace HBL := hide (HBL.out.trans (hb.mono (by omega)))
        replace R28 := hide r28
        have HD2 := hide (show Lb u9 u9.heap.size (valR rr) A9 n9 from ⟨d28, Nat.le_refl _⟩)
        have K28 := hide k28
        have K25 := hide (show ∀ k, k < 3 → n7 k ≤ 4096 from fun k hk => by rw [← HD.out.rd.len k hk]; exact HK.out.1 k hk)
        have HT2 := hide (show Sb u9 u9.heap.size nt At9 (tookR rr) from ⟨ht9, Nat.le_refl _⟩)
        have he : (errL rr == errL rr) = true := by simp
        clear r28 d28 k28 ht9 hb X HX HSB
        have q0 : u9.cell? ⟨g25, 0, none⟩ = some (.int .u64 ((valR rr).E : Int)) := by have := RowAt.cell R25.out 0; simpa [limC] using this
        have q1 : u9.cell? ⟨g25, 1, none⟩ = some (.slice (A7 0) (n7 0) (c7 0)) := by have := RowAt.cell R25.out 1; simpa [limC] using this
        have q2 : u9.cell? ⟨g25, 2, none⟩ = some (.slice (A7 1) (n7 1) (c7 1)) := by have := RowAt.cell R25.out 2; simpa [limC] using this
        have q3 : u9.cell? ⟨g25, 3, none⟩ = some (.slice (A7 2) (n7 2) (c7 2)) := by have := RowAt.cell R25.out 3; simpa [limC] using this
        have ql := R25.out.lt
        have p0 : u9.cell? ⟨g28, 0, none⟩ = some (.int .u64 ((valR rr).E : Int)) := by have := RowAt.cell R28.out 0; simpa [limC] using this
        have p1 : u9.cell? ⟨g28, 1, none⟩ = some (.slice (A9 0) (n9 0) (c9 0)) := by have := RowAt.cell R28.out 1; simpa [limC] using this
        have p2 : u9.cell? ⟨g28, 2, none⟩ = some (.slice (A9 1) (n9 1) (c9 1)) := by have := RowAt.cell R28.out 2; simpa [limC] using this
        have p3 : u9.cell? ⟨g28, 3, none⟩ = some (.slice (A9 2) (n9 2) (c9 2)) := by have := RowAt.cell R28.out 3; simpa [limC] using this
        have pl := R28.out.lt
        have HC := hide (rsame_any A7 n7 c7 (valR rr) A9 n9 c9 (valR rr) u9 HD.out.top HD2.out.top K25.out K28.out true (sameB_self _))
        go_wp2_with fail
        with_reducible refine HC.out.mono ?_
        rintro e u10 ⟨rfl, hb⟩
        replace HD := hide (HD.out.later hb)
        replace HD2 := hide (HD2.out.later hb)
        replace HT := hide (HT.out.later hb)
        replace HT2 := hide (HT2.out.later hb)
        replace HBL := hide (HBL.out.trans (hb.mono HBL.out.size))
        clear hb HC
        clear q0 q1 q2 q3 ql p0 p1 p2 p3 pl
        have HC := hide (equal_n u10.heap.size At At9 nt nt ct ct9 (tookR rr) (tookR rr) u10 (HT.out.rd.more HT.out.le) (HT2.out.rd.more HT2.out.le) HNT.out HNT.out (Nat.le_refl _) (by rw [← HNT.out]; exact HK.out.2) (by rw [← HNT.out]; exact HK.out.2) true (by simp))
        go_wp2_with fail
        with_reducible refine HC.out.mono ?_
        rintro e u11 ⟨rfl, hb⟩
        replace HD := hide (HD.out.later hb)
        replace HD2 := hide (HD2.out.later hb)
        replace HT := hide (HT.out.later hb)
        replace HT2 := hide (HT2.out.later hb)
        replace HBL := hide (HBL.out.trans (hb.mono HBL.out.size))
        clear hb HC
        go_wp2_with fail
        go_ret
        exact ⟨rfl, HBL.out⟩
end Go.Proofs.YthnpcmigphpolaaDoor
