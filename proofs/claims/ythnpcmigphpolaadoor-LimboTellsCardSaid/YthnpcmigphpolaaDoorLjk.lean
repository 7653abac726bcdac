/-
  LimboTells: which limbos may be, are the same, what is ready, waits, and since when.
-/
import Derived.Test.YthnpcmigphpolaaDoorLjkp
import Derived.Test.YthnpcmigphpolaaDoorOpen
import Derived.Deep.RegionHeld3
import Derived.Deep.CutRange
import Derived.Deep.CutBlock
set_option linter.unusedSimpArgs false
set_option linter.unusedVariables false
namespace Go.Proofs.YthnpcmigphpolaaDoor
open Go Go.RowKit
attribute [local go_sem] via_cell via_frozen

set_option maxRecDepth 100000 in
set_option maxHeartbeats 8000000 in
theorem Tells_walk (B : Nat) (A : Nat → Option Addr) (n c : Nat → Nat) (l : Lim) (A1 : Nat → Option Addr) (n1 c1 : Nat → Nat) (l1 : Lim) (A2 : Option Addr) (c2 n2 : Nat) (xs : List Int) (W : World) (hT : OnAt W W.heap.size) (h : LimRd W B A n l.r) (hB : B ≤ W.heap.size) (hE : l.E < 18446744073709551616)
    (hc : ∀ k, k < 3 → (n k : Int) ≤ (c k : Int) ∧ (c k : Int) ≤ 9223372036854775807) (hg : GenOk l) (h1 : LimRd W W.heap.size A1 n1 l1.r) (hE1 : l1.E < 18446744073709551616) (hc1 : ∀ k, k < 3 → (n1 k : Int) ≤ (c1 k : Int) ∧ (c1 k : Int) ≤ 9223372036854775807) (hg1 : GenOk l1)
    (hr2 : Rd W W.heap.size 1 A2 n2 (Cs encI xs)) (hx2 : xs.length = n2) (hn2 : n2 ≤ c2) (hm2 : c2 ≤ 9223372036854775807) :
    Calls Tryd.prog 6 #[.agg (limC l.E A n c), .agg (limC l1.E A1 n1 c1), .slice A2 n2 c2] W fun e W' => e = .returned (.bool true) ∧ Below W.heap.size W W' := by
  have hbx : Below W.heap.size W ((W.alloc (.cells (limC l.E A n c) 26)).alloc (.cells (limC l1.E A1 n1 c1) 26)) := ((Below.refl _ _).alloc (Nat.le_refl _) _).alloc (by simp) _
  have HRX0 := hide ((RowAt.new W 26 (limC l.E A n c)).below ((Below.refl _ _).alloc (Nat.le_refl _) (.cells (limC l1.E A1 n1 c1) 26)))
  have hry := RowAt.new (W.alloc (.cells (limC l.E A n c) 26)) 26 (limC l1.E A1 n1 c1)
  rw [World.size_alloc] at hry
  have HRY0 := hide hry
  have HB0 := hide hbx
  have H := hide (h.more hB)
  have H1 := hide h1
  have HCC := hide hc
  have HCC1 := hide hc1
  have HG := hide (gen_cut hg)
  have HEQ := hide (show l.cut.E < 18446744073709551616 from hE)
  have HRS := hide hr2
  have HXS := hide hx2
  have hnm : n2 ≤ 9223372036854775807 := by omega
  have HW := hide (wakes_any W.heap.size _ (hT.below hbx) hbx.size)
  clear hbx hry hT h h1 hE hE1 hc hc1 hg hg1 hr2 hx2
  go_enter Tryd.func6, Tryd.ntmps6
  go_wp2_with fail
  generalize (W.alloc (.cells (limC l.E A n c) 26)).alloc (.cells (limC l1.E A1 n1 c1) 26) = w0 at *
  with_reducible refine HW.out.mono ?_
  rintro e w1 ⟨rfl, hb1⟩
  have RX := hide (HRX0.out.below hb1)
  have RY := hide (HRY0.out.below hb1)
  have HB1 := hide (HB0.out.trans (hb1.mono HB0.out.size))
  clear hb1 HW HRX0 HRY0 HB0
  have x0 : w1.cell? ⟨W.heap.size, 0, none⟩ = some (.int .u64 (l.E : Int)) := by have := RowAt.cell RX.out 0; simpa [limC] using this
  have x1 : w1.cell? ⟨W.heap.size, 1, none⟩ = some (.slice (A 0) (n 0) (c 0)) := by have := RowAt.cell RX.out 1; simpa [limC] using this
  have x2 : w1.cell? ⟨W.heap.size, 2, none⟩ = some (.slice (A 1) (n 1) (c 1)) := by have := RowAt.cell RX.out 2; simpa [limC] using this
  have x3 : w1.cell? ⟨W.heap.size, 3, none⟩ = some (.slice (A 2) (n 2) (c 2)) := by have := RowAt.cell RX.out 3; simpa [limC] using this
  have y0 : w1.cell? ⟨(W.heap.size + 1), 0, none⟩ = some (.int .u64 (l1.E : Int)) := by have := RowAt.cell RY.out 0; simpa [limC] using this
  have y1 : w1.cell? ⟨(W.heap.size + 1), 1, none⟩ = some (.slice (A1 0) (n1 0) (c1 0)) := by have := RowAt.cell RY.out 1; simpa [limC] using this
  have y2 : w1.cell? ⟨(W.heap.size + 1), 2, none⟩ = some (.slice (A1 1) (n1 1) (c1 1)) := by have := RowAt.cell RY.out 2; simpa [limC] using this
  have y3 : w1.cell? ⟨(W.heap.size + 1), 3, none⟩ = some (.slice (A1 2) (n1 2) (c1 2)) := by have := RowAt.cell RY.out 3; simpa [limC] using this
  have xl := RX.out.lt
  have yl := RY.out.lt
  have HO1 := hide (fun (w : World) (hb : Below w1.heap.size w1 w) => own_res (c := c) (H.out.below (HB1.out.trans (hb.mono HB1.out.size))) (Nat.le_trans HB1.out.size hb.size) HCC.out)
  have HO2 := hide (fun (w : World) (hb : Below w1.heap.size w1 w) => own_res (c := c1) (H1.out.below (HB1.out.trans (hb.mono HB1.out.size))) (Nat.le_trans HB1.out.size hb.size) HCC1.out)
  go_upto_region 3 with (fail)
  go_cut [7, 8] from 25 to 29 (fun s7 s8 wx => ∃ (g7 g8 : Nat) (A7 : Nat → Option Addr) (c7 : Nat → Nat) (A8 : Nat → Option Addr) (c8 : Nat → Nat), s7 = .pointer (some ⟨g7, 0, none⟩) ∧ s8 = .pointer (some ⟨g8, 0, none⟩) ∧ RowAt wx g7 26 (limC l.cut.E A7 (cutN l) c7) ∧ RowAt wx g8 26 (limC l1.cut.E A8 (cutN l1) c8) ∧ LimRd wx wx.heap.size A7 (cutN l) l.cut.r ∧ LimRd wx wx.heap.size A8 (cutN l1) l1.cut.r ∧ Below w1.heap.size w1 wx)
  case first =>
    refine wp_region_held_drew (S := fun wX => Below w1.heap.size w1 wX) (by kernel_rfl) (Below.refl _ _).drew (fun hHeld => ?_)
    have HQ := hide ((Below.refl w1.heap.size w1).drew)
    (refine wpAnyH_take (i := 0) (v := ?_) rfl (by kernel_rfl) (by kernel_rfl) (by kernel_rfl) (fun _ _ _ h => h) (Or.inl ⟨by rfl, ?_⟩) (by assumption) ?_; rotate_left; (focus (intro w hSw; (try dsimp only at hSw); have kf0 := kept hSw x0; have kf1 := kept hSw x1; have kf2 := kept hSw x2; have kf3 := kept hSw x3; go_simp; first | done | with_reducible rfl)); (try simp only [Act.put, List.getElem_toArray, List.getElem_cons_succ, List.getElem_cons_zero, List.setIfInBounds_toArray, List.set_cons_zero, List.set_cons_succ]))
    (refine wpAnyH_take (i := 2) (v := ?_) rfl (by kernel_rfl) (by kernel_rfl) (by kernel_rfl) (fun _ _ _ h => h) (Or.inl ⟨by rfl, ?_⟩) (by assumption) ?_; rotate_left; (focus (intro w hSw; (try dsimp only at hSw); have kf0 := kept hSw y0; have kf1 := kept hSw y1; have kf2 := kept hSw y2; have kf3 := kept hSw y3; go_simp; first | done | with_reducible rfl)); (try simp only [Act.put, List.getElem_toArray, List.getElem_cons_succ, List.getElem_cons_zero, List.setIfInBounds_toArray, List.set_cons_zero, List.set_cons_succ]))
    generalize w1.drew = wd at *
    refine wpAnyH_ready (rs := [1, 4, 5]) (by kernel_rfl) (by simp) ?_
    refine (AllReadyH.cons rfl (fun K0 hK0 => ?_) (AllReadyH.cons rfl (fun K0 hK0 => ?_) (AllReadyH.cons rfl (fun K0 hK0 => ?_) AllReadyH.nil)))
    · go_simp
      refine (HO1.out _ HQ.out).mono ?_
      rintro e wa0 ⟨A7, c7, rfl, hd7, hlo7, hup7, hb0⟩
      have D7 := hide hd7
      have U7 := hide hup7
      replace HQ := hide (HQ.out.trans (hb0.mono HQ.out.size))
      clear hb0 hd7 hlo7 hup7
      refine hK0.out _ _ (HQ.out) (fun _ => ?_)
      clear hK0 K0
      (try simp only [Act.put, List.getElem_toArray, List.getElem_cons_succ, List.getElem_cons_zero, List.setIfInBounds_toArray, List.set_cons_zero, List.set_cons_succ])
      refine wpAnyH_ready (rs := [3, 4, 5]) (by kernel_rfl) (by simp) ?_
      refine (AllReadyH.cons rfl (fun K1 hK1 => ?_) (AllReadyH.cons rfl (fun K1 hK1 => ?_) (AllReadyH.cons rfl (fun K1 hK1 => ?_) AllReadyH.nil)))
      · go_simp
        refine (HO2.out _ HQ.out).mono ?_
        rintro e wa1 ⟨A8, c8, rfl, hd8, hlo8, hup8, hb1⟩
        replace D7 := hide ((D7.out.below hb1).more hb1.size)
        replace U7 := hide (fun (k : Nat) (p : Addr) (hk : k < 3) (hp : A7 k = some p) => Nat.lt_of_lt_of_le (U7.out k p hk hp) hb1.size)
        have D8 := hide hd8
        have U8 := hide hup8
        replace HQ := hide (HQ.out.trans (hb1.mono HQ.out.size))
        clear hb1 hd8 hlo8 hup8
        refine hK1.out _ _ (HQ.out) (fun _ => ?_)
        clear hK1 K1
        (try simp only [Act.put, List.getElem_toArray, List.getElem_cons_succ, List.getElem_cons_zero, List.setIfInBounds_toArray, List.set_cons_zero, List.set_cons_succ])
        refine wpAnyH_ready (rs := [4, 5]) (by kernel_rfl) (by simp) ?_
        refine (AllReadyH.cons rfl (fun K2 hK2 => ?_) (AllReadyH.cons rfl (fun K2 hK2 => ?_) AllReadyH.nil))
        · go_simp
          refine hK2.out _ _ (HQ.out.alloc HQ.out.size _) (fun _ => ?_)
          clear hK2 K2
          (try simp only [Act.put, List.getElem_toArray, List.getElem_cons_succ, List.getElem_cons_zero, List.setIfInBounds_toArray, List.set_cons_zero, List.set_cons_succ])
          have hb2 : Below wa1.heap.size wa1 (wa1.alloc (.cells zeroC 26)) := (Below.refl _ _).alloc (Nat.le_refl _) _
          have N77 := hide (fun (k : Nat) (p : Addr) (hk : k < 3) (hp : A7 k = some p) => (show p.block ≠ wa1.heap.size from Nat.ne_of_lt (U7.out k p hk hp)))
          replace D7 := hide ((D7.out.below hb2).more hb2.size)
          replace U7 := hide (fun (k : Nat) (p : Addr) (hk : k < 3) (hp : A7 k = some p) => Nat.lt_of_lt_of_le (U7.out k p hk hp) hb2.size)
          have N87 := hide (fun (k : Nat) (p : Addr) (hk : k < 3) (hp : A8 k = some p) => (show p.block ≠ wa1.heap.size from Nat.ne_of_lt (U8.out k p hk hp)))
          replace D8 := hide ((D8.out.below hb2).more hb2.size)
          replace U8 := hide (fun (k : Nat) (p : Addr) (hk : k < 3) (hp : A8 k = some p) => Nat.lt_of_lt_of_le (U8.out k p hk hp) hb2.size)
          have R7 := hide (RowAt.new wa1 26 zeroC)
          have G7 := hide HQ.out.size
          replace HQ := hide (HQ.out.alloc HQ.out.size (.cells zeroC 26))
          clear hb2
          generalize wa1.alloc (.cells zeroC 26) = wa2 at *
          refine wpAnyH_ready (rs := [5]) (by kernel_rfl) (by simp) ?_
          refine (AllReadyH.cons rfl (fun K3 hK3 => ?_) AllReadyH.nil)
          · go_simp
            refine hK3.out _ _ (HQ.out.alloc HQ.out.size _) (fun _ => ?_)
            clear hK3 K3
            (try simp only [Act.put, List.getElem_toArray, List.getElem_cons_succ, List.getElem_cons_zero, List.setIfInBounds_toArray, List.set_cons_zero, List.set_cons_succ])
            have hb3 : Below wa2.heap.size wa2 (wa2.alloc (.cells zeroC 26)) := (Below.refl _ _).alloc (Nat.le_refl _) _
            have NE7 := hide (show wa2.heap.size ≠ wa1.heap.size from Nat.ne_of_gt R7.out.lt)
            have NE8 := hide (show wa1.heap.size ≠ wa2.heap.size from Nat.ne_of_lt R7.out.lt)
            replace R7 := hide (R7.out.below hb3)
            have N78 := hide (fun (k : Nat) (p : Addr) (hk : k < 3) (hp : A7 k = some p) => (show p.block ≠ wa2.heap.size from Nat.ne_of_lt (U7.out k p hk hp)))
            replace D7 := hide ((D7.out.below hb3).more hb3.size)
            replace U7 := hide (fun (k : Nat) (p : Addr) (hk : k < 3) (hp : A7 k = some p) => Nat.lt_of_lt_of_le (U7.out k p hk hp) hb3.size)
            have N88 := hide (fun (k : Nat) (p : Addr) (hk : k < 3) (hp : A8 k = some p) => (show p.block ≠ wa2.heap.size from Nat.ne_of_lt (U8.out k p hk hp)))
            replace D8 := hide ((D8.out.below hb3).more hb3.size)
            replace U8 := hide (fun (k : Nat) (p : Addr) (hk : k < 3) (hp : A8 k = some p) => Nat.lt_of_lt_of_le (U8.out k p hk hp) hb3.size)
            have R8 := hide (RowAt.new wa2 26 zeroC)
            have G8 := hide HQ.out.size
            replace HQ := hide (HQ.out.alloc HQ.out.size (.cells zeroC 26))
            clear hb3
            generalize wa2.alloc (.cells zeroC 26) = wa3 at *
            refine wpAnyH_ready (rs := [6]) (by kernel_rfl) (by simp) ?_
            refine AllReadyH.cons rfl (fun K hK => ?_) AllReadyH.nil
            have z0 : wa3.cell? ⟨wa1.heap.size, 0, none⟩ = some (.int .u64 0) := by have := R7.out.cell 0; simpa using this
            have f0 := R7.out.frozen 0
            have z1 : wa3.cell? ⟨wa1.heap.size, 1, none⟩ = some (.slice none 0 0) := by have := R7.out.cell 1; simpa using this
            have f1 := R7.out.frozen 1
            have z2 : wa3.cell? ⟨wa1.heap.size, 2, none⟩ = some (.slice none 0 0) := by have := R7.out.cell 2; simpa using this
            have f2 := R7.out.frozen 2
            have z3 : wa3.cell? ⟨wa1.heap.size, 3, none⟩ = some (.slice none 0 0) := by have := R7.out.cell 3; simpa using this
            have f3 := R7.out.frozen 3
            have zl := R7.out.lt
            have HLD : Hid (LaidL wa1.heap.size wa3 (limC l.cut.E A7 (cutN l) c7) ((((wa3.setCell ⟨wa1.heap.size, 0, none⟩ (.int .u64 (l.cut.E : Int))).setCell ⟨wa1.heap.size, 1, none⟩ (.slice (A7 0) ((cutN l) 0) (c7 0))).setCell ⟨wa1.heap.size, 2, none⟩ (.slice (A7 1) ((cutN l) 1) (c7 1))).setCell ⟨wa1.heap.size, 3, none⟩ (.slice (A7 2) ((cutN l) 2) (c7 2)))) := hide (laidL_of R7.out rfl)
            go_simp
            have HQ2 := hide (HQ.out.trans (HLD.out.below.mono G7.out))
            refine hK.out _ _ HQ2.out (fun _ => ?_)
            clear hK K z0 z1 z2 z3 f0 f1 f2 f3 zl
            (try simp only [Act.put, List.getElem_toArray, List.getElem_cons_succ, List.getElem_cons_zero, List.setIfInBounds_toArray, List.set_cons_zero, List.set_cons_succ])
            generalize ((((wa3.setCell ⟨wa1.heap.size, 0, none⟩ (.int .u64 (l.cut.E : Int))).setCell ⟨wa1.heap.size, 1, none⟩ (.slice (A7 0) ((cutN l) 0) (c7 0))).setCell ⟨wa1.heap.size, 2, none⟩ (.slice (A7 1) ((cutN l) 1) (c7 1))).setCell ⟨wa1.heap.size, 3, none⟩ (.slice (A7 2) ((cutN l) 2) (c7 2))) = wt7 at *
            replace D7 := hide ((D7.out.storeNe N77.out HLD.out).more HLD.out.below.size)
            replace D8 := hide ((D8.out.storeNe N87.out HLD.out).more HLD.out.below.size)
            replace R7 := hide HLD.out.row
            replace R8 := hide (show RowAt wt7 wa2.heap.size 26 zeroC from (HLD.out.block _ NE7.out).trans R8.out)
            replace HQ := HQ2
            clear HLD
            refine wpAnyH_ready (rs := [7]) (by kernel_rfl) (by simp) ?_
            refine AllReadyH.cons rfl (fun K hK => ?_) AllReadyH.nil
            have z0 : wt7.cell? ⟨wa2.heap.size, 0, none⟩ = some (.int .u64 0) := by have := R8.out.cell 0; simpa using this
            have f0 := R8.out.frozen 0
            have z1 : wt7.cell? ⟨wa2.heap.size, 1, none⟩ = some (.slice none 0 0) := by have := R8.out.cell 1; simpa using this
            have f1 := R8.out.frozen 1
            have z2 : wt7.cell? ⟨wa2.heap.size, 2, none⟩ = some (.slice none 0 0) := by have := R8.out.cell 2; simpa using this
            have f2 := R8.out.frozen 2
            have z3 : wt7.cell? ⟨wa2.heap.size, 3, none⟩ = some (.slice none 0 0) := by have := R8.out.cell 3; simpa using this
            have f3 := R8.out.frozen 3
            have zl := R8.out.lt
            have HLD : Hid (LaidL wa2.heap.size wt7 (limC l1.cut.E A8 (cutN l1) c8) ((((wt7.setCell ⟨wa2.heap.size, 0, none⟩ (.int .u64 (l1.cut.E : Int))).setCell ⟨wa2.heap.size, 1, none⟩ (.slice (A8 0) ((cutN l1) 0) (c8 0))).setCell ⟨wa2.heap.size, 2, none⟩ (.slice (A8 1) ((cutN l1) 1) (c8 1))).setCell ⟨wa2.heap.size, 3, none⟩ (.slice (A8 2) ((cutN l1) 2) (c8 2)))) := hide (laidL_of R8.out rfl)
            go_simp
            have HQ2 := hide (HQ.out.trans (HLD.out.below.mono G8.out))
            refine hK.out _ _ HQ2.out (fun _ => ?_)
            clear hK K z0 z1 z2 z3 f0 f1 f2 f3 zl
            (try simp only [Act.put, List.getElem_toArray, List.getElem_cons_succ, List.getElem_cons_zero, List.setIfInBounds_toArray, List.set_cons_zero, List.set_cons_succ])
            generalize ((((wt7.setCell ⟨wa2.heap.size, 0, none⟩ (.int .u64 (l1.cut.E : Int))).setCell ⟨wa2.heap.size, 1, none⟩ (.slice (A8 0) ((cutN l1) 0) (c8 0))).setCell ⟨wa2.heap.size, 2, none⟩ (.slice (A8 1) ((cutN l1) 1) (c8 1))).setCell ⟨wa2.heap.size, 3, none⟩ (.slice (A8 2) ((cutN l1) 2) (c8 2))) = wt8 at *
            replace D7 := hide ((D7.out.storeNe N78.out HLD.out).more HLD.out.below.size)
            replace D8 := hide ((D8.out.storeNe N88.out HLD.out).more HLD.out.below.size)
            replace R8 := hide HLD.out.row
            replace R7 := hide (show RowAt wt8 wa1.heap.size 26 (limC l.cut.E A7 (cutN l) c7) from (HLD.out.block _ NE8.out).trans R7.out)
            replace HQ := HQ2
            clear HLD
            refine wpAnyH_done (by kernel_rfl) ?_ _
            go_wp2_with fail
            go_meet
            case rel => exact ⟨_, _, A7, c7, A8, c8, rfl, rfl, R7.out, R8.out, D7.out, D8.out, HQ.out⟩
        · go_simp
          refine hK2.out _ _ (HQ.out.alloc HQ.out.size _) (fun _ => ?_)
          clear hK2 K2
          (try simp only [Act.put, List.getElem_toArray, List.getElem_cons_succ, List.getElem_cons_zero, List.setIfInBounds_toArray, List.set_cons_zero, List.set_cons_succ])
          have hb2 : Below wa1.heap.size wa1 (wa1.alloc (.cells zeroC 26)) := (Below.refl _ _).alloc (Nat.le_refl _) _
          have N78 := hide (fun (k : Nat) (p : Addr) (hk : k < 3) (hp : A7 k = some p) => (show p.block ≠ wa1.heap.size from Nat.ne_of_lt (U7.out k p hk hp)))
          replace D7 := hide ((D7.out.below hb2).more hb2.size)
          replace U7 := hide (fun (k : Nat) (p : Addr) (hk : k < 3) (hp : A7 k = some p) => Nat.lt_of_lt_of_le (U7.out k p hk hp) hb2.size)
          have N88 := hide (fun (k : Nat) (p : Addr) (hk : k < 3) (hp : A8 k = some p) => (show p.block ≠ wa1.heap.size from Nat.ne_of_lt (U8.out k p hk hp)))
          replace D8 := hide ((D8.out.below hb2).more hb2.size)
          replace U8 := hide (fun (k : Nat) (p : Addr) (hk : k < 3) (hp : A8 k = some p) => Nat.lt_of_lt_of_le (U8.out k p hk hp) hb2.size)
          have R8 := hide (RowAt.new wa1 26 zeroC)
          have G8 := hide HQ.out.size
          replace HQ := hide (HQ.out.alloc HQ.out.size (.cells zeroC 26))
          clear hb2
          generalize wa1.alloc (.cells zeroC 26) = wa2 at *
          refine wpAnyH_ready (rs := [4]) (by kernel_rfl) (by simp) ?_
          refine (AllReadyH.cons rfl (fun K3 hK3 => ?_) AllReadyH.nil)
          · go_simp
            refine hK3.out _ _ (HQ.out.alloc HQ.out.size _) (fun _ => ?_)
            clear hK3 K3
            (try simp only [Act.put, List.getElem_toArray, List.getElem_cons_succ, List.getElem_cons_zero, List.setIfInBounds_toArray, List.set_cons_zero, List.set_cons_succ])
            have hb3 : Below wa2.heap.size wa2 (wa2.alloc (.cells zeroC 26)) := (Below.refl _ _).alloc (Nat.le_refl _) _
            have NE8 := hide (show wa2.heap.size ≠ wa1.heap.size from Nat.ne_of_gt R8.out.lt)
            have NE7 := hide (show wa1.heap.size ≠ wa2.heap.size from Nat.ne_of_lt R8.out.lt)
            replace R8 := hide (R8.out.below hb3)
            have N77 := hide (fun (k : Nat) (p : Addr) (hk : k < 3) (hp : A7 k = some p) => (show p.block ≠ wa2.heap.size from Nat.ne_of_lt (U7.out k p hk hp)))
            replace D7 := hide ((D7.out.below hb3).more hb3.size)
            replace U7 := hide (fun (k : Nat) (p : Addr) (hk : k < 3) (hp : A7 k = some p) => Nat.lt_of_lt_of_le (U7.out k p hk hp) hb3.size)
            have N87 := hide (fun (k : Nat) (p : Addr) (hk : k < 3) (hp : A8 k = some p) => (show p.block ≠ wa2.heap.size from Nat.ne_of_lt (U8.out k p hk hp)))
            replace D8 := hide ((D8.out.below hb3).more hb3.size)
            replace U8 := hide (fun (k : Nat) (p : Addr) (hk : k < 3) (hp : A8 k = some p) => Nat.lt_of_lt_of_le (U8.out k p hk hp) hb3.size)
            have R7 := hide (RowAt.new wa2 26 zeroC)
            have G7 := hide HQ.out.size
            replace HQ := hide (HQ.out.alloc HQ.out.size (.cells zeroC 26))
            clear hb3
            generalize wa2.alloc (.cells zeroC 26) = wa3 at *
            refine wpAnyH_ready (rs := [6]) (by kernel_rfl) (by simp) ?_
            refine AllReadyH.cons rfl (fun K hK => ?_) AllReadyH.nil
            have z0 : wa3.cell? ⟨wa2.heap.size, 0, none⟩ = some (.int .u64 0) := by have := R7.out.cell 0; simpa using this
            have f0 := R7.out.frozen 0
            have z1 : wa3.cell? ⟨wa2.heap.size, 1, none⟩ = some (.slice none 0 0) := by have := R7.out.cell 1; simpa using this
            have f1 := R7.out.frozen 1
            have z2 : wa3.cell? ⟨wa2.heap.size, 2, none⟩ = some (.slice none 0 0) := by have := R7.out.cell 2; simpa using this
            have f2 := R7.out.frozen 2
            have z3 : wa3.cell? ⟨wa2.heap.size, 3, none⟩ = some (.slice none 0 0) := by have := R7.out.cell 3; simpa using this
            have f3 := R7.out.frozen 3
            have zl := R7.out.lt
            have HLD : Hid (LaidL wa2.heap.size wa3 (limC l.cut.E A7 (cutN l) c7) ((((wa3.setCell ⟨wa2.heap.size, 0, none⟩ (.int .u64 (l.cut.E : Int))).setCell ⟨wa2.heap.size, 1, none⟩ (.slice (A7 0) ((cutN l) 0) (c7 0))).setCell ⟨wa2.heap.size, 2, none⟩ (.slice (A7 1) ((cutN l) 1) (c7 1))).setCell ⟨wa2.heap.size, 3, none⟩ (.slice (A7 2) ((cutN l) 2) (c7 2)))) := hide (laidL_of R7.out rfl)
            go_simp
            have HQ2 := hide (HQ.out.trans (HLD.out.below.mono G7.out))
            refine hK.out _ _ HQ2.out (fun _ => ?_)
            clear hK K z0 z1 z2 z3 f0 f1 f2 f3 zl
            (try simp only [Act.put, List.getElem_toArray, List.getElem_cons_succ, List.getElem_cons_zero, List.setIfInBounds_toArray, List.set_cons_zero, List.set_cons_succ])
            generalize ((((wa3.setCell ⟨wa2.heap.size, 0, none⟩ (.int .u64 (l.cut.E : Int))).setCell ⟨wa2.heap.size, 1, none⟩ (.slice (A7 0) ((cutN l) 0) (c7 0))).setCell ⟨wa2.heap.size, 2, none⟩ (.slice (A7 1) ((cutN l) 1) (c7 1))).setCell ⟨wa2.heap.size, 3, none⟩ (.slice (A7 2) ((cutN l) 2) (c7 2))) = wt7 at *
            replace D7 := hide ((D7.out.storeNe N77.out HLD.out).more HLD.out.below.size)
            replace D8 := hide ((D8.out.storeNe N87.out HLD.out).more HLD.out.below.size)
            replace R7 := hide HLD.out.row
            replace R8 := hide (show RowAt wt7 wa1.heap.size 26 zeroC from (HLD.out.block _ NE7.out).trans R8.out)
            replace HQ := HQ2
            clear HLD
            refine wpAnyH_ready (rs := [7]) (by kernel_rfl) (by simp) ?_
            refine AllReadyH.cons rfl (fun K hK => ?_) AllReadyH.nil
            have z0 : wt7.cell? ⟨wa1.heap.size, 0, none⟩ = some (.int .u64 0) := by have := R8.out.cell 0; simpa using this
            have f0 := R8.out.frozen 0
            have z1 : wt7.cell? ⟨wa1.heap.size, 1, none⟩ = some (.slice none 0 0) := by have := R8.out.cell 1; simpa using this
            have f1 := R8.out.frozen 1
            have z2 : wt7.cell? ⟨wa1.heap.size, 2, none⟩ = some (.slice none 0 0) := by have := R8.out.cell 2; simpa using this
            have f2 := R8.out.frozen 2
            have z3 : wt7.cell? ⟨wa1.heap.size, 3, none⟩ = some (.slice none 0 0) := by have := R8.out.cell 3; simpa using this
            have f3 := R8.out.frozen 3
            have zl := R8.out.lt
            have HLD : Hid (LaidL wa1.heap.size wt7 (limC l1.cut.E A8 (cutN l1) c8) ((((wt7.setCell ⟨wa1.heap.size, 0, none⟩ (.int .u64 (l1.cut.E : Int))).setCell ⟨wa1.heap.size, 1, none⟩ (.slice (A8 0) ((cutN l1) 0) (c8 0))).setCell ⟨wa1.heap.size, 2, none⟩ (.slice (A8 1) ((cutN l1) 1) (c8 1))).setCell ⟨wa1.heap.size, 3, none⟩ (.slice (A8 2) ((cutN l1) 2) (c8 2)))) := hide (laidL_of R8.out rfl)
            go_simp
            have HQ2 := hide (HQ.out.trans (HLD.out.below.mono G8.out))
            refine hK.out _ _ HQ2.out (fun _ => ?_)
            clear hK K z0 z1 z2 z3 f0 f1 f2 f3 zl
            (try simp only [Act.put, List.getElem_toArray, List.getElem_cons_succ, List.getElem_cons_zero, List.setIfInBounds_toArray, List.set_cons_zero, List.set_cons_succ])
            generalize ((((wt7.setCell ⟨wa1.heap.size, 0, none⟩ (.int .u64 (l1.cut.E : Int))).setCell ⟨wa1.heap.size, 1, none⟩ (.slice (A8 0) ((cutN l1) 0) (c8 0))).setCell ⟨wa1.heap.size, 2, none⟩ (.slice (A8 1) ((cutN l1) 1) (c8 1))).setCell ⟨wa1.heap.size, 3, none⟩ (.slice (A8 2) ((cutN l1) 2) (c8 2))) = wt8 at *
            replace D7 := hide ((D7.out.storeNe N78.out HLD.out).more HLD.out.below.size)
            replace D8 := hide ((D8.out.storeNe N88.out HLD.out).more HLD.out.below.size)
            replace R8 := hide HLD.out.row
            replace R7 := hide (show RowAt wt8 wa2.heap.size 26 (limC l.cut.E A7 (cutN l) c7) from (HLD.out.block _ NE8.out).trans R7.out)
            replace HQ := HQ2
            clear HLD
            refine wpAnyH_done (by kernel_rfl) ?_ _
            go_wp2_with fail
            go_meet
            case rel => exact ⟨_, _, A7, c7, A8, c8, rfl, rfl, R7.out, R8.out, D7.out, D8.out, HQ.out⟩
      · go_simp
        refine hK1.out _ _ (HQ.out.alloc HQ.out.size _) (fun _ => ?_)
        clear hK1 K1
        (try simp only [Act.put, List.getElem_toArray, List.getElem_cons_succ, List.getElem_cons_zero, List.setIfInBounds_toArray, List.set_cons_zero, List.set_cons_succ])
        have hb1 : Below wa0.heap.size wa0 (wa0.alloc (.cells zeroC 26)) := (Below.refl _ _).alloc (Nat.le_refl _) _
        have N77 := hide (fun (k : Nat) (p : Addr) (hk : k < 3) (hp : A7 k = some p) => (show p.block ≠ wa0.heap.size from Nat.ne_of_lt (U7.out k p hk hp)))
        replace D7 := hide ((D7.out.below hb1).more hb1.size)
        replace U7 := hide (fun (k : Nat) (p : Addr) (hk : k < 3) (hp : A7 k = some p) => Nat.lt_of_lt_of_le (U7.out k p hk hp) hb1.size)
        have R7 := hide (RowAt.new wa0 26 zeroC)
        have G7 := hide HQ.out.size
        replace HQ := hide (HQ.out.alloc HQ.out.size (.cells zeroC 26))
        clear hb1
        generalize wa0.alloc (.cells zeroC 26) = wa1 at *
        refine wpAnyH_ready (rs := [3, 5]) (by kernel_rfl) (by simp) ?_
        refine (AllReadyH.cons rfl (fun K2 hK2 => ?_) (AllReadyH.cons rfl (fun K2 hK2 => ?_) AllReadyH.nil))
        · go_simp
          refine (HO2.out _ HQ.out).mono ?_
          rintro e wa2 ⟨A8, c8, rfl, hd8, hlo8, hup8, hb2⟩
          have N87 := hide (fun (k : Nat) (p : Addr) (hk : k < 3) (hp : A8 k = some p) => (show p.block ≠ wa0.heap.size by have h1 := hlo8 k p hk hp; have h2 := R7.out.lt; omega))
          replace R7 := hide (R7.out.below hb2)
          replace D7 := hide ((D7.out.below hb2).more hb2.size)
          replace U7 := hide (fun (k : Nat) (p : Addr) (hk : k < 3) (hp : A7 k = some p) => Nat.lt_of_lt_of_le (U7.out k p hk hp) hb2.size)
          have D8 := hide hd8
          have U8 := hide hup8
          replace HQ := hide (HQ.out.trans (hb2.mono HQ.out.size))
          clear hb2 hd8 hlo8 hup8
          refine hK2.out _ _ (HQ.out) (fun _ => ?_)
          clear hK2 K2
          (try simp only [Act.put, List.getElem_toArray, List.getElem_cons_succ, List.getElem_cons_zero, List.setIfInBounds_toArray, List.set_cons_zero, List.set_cons_succ])
          refine wpAnyH_ready (rs := [5]) (by kernel_rfl) (by simp) ?_
          refine (AllReadyH.cons rfl (fun K3 hK3 => ?_) AllReadyH.nil)
          · go_simp
            refine hK3.out _ _ (HQ.out.alloc HQ.out.size _) (fun _ => ?_)
            clear hK3 K3
            (try simp only [Act.put, List.getElem_toArray, List.getElem_cons_succ, List.getElem_cons_zero, List.setIfInBounds_toArray, List.set_cons_zero, List.set_cons_succ])
            have hb3 : Below wa2.heap.size wa2 (wa2.alloc (.cells zeroC 26)) := (Below.refl _ _).alloc (Nat.le_refl _) _
            have NE7 := hide (show wa2.heap.size ≠ wa0.heap.size from Nat.ne_of_gt R7.out.lt)
            have NE8 := hide (show wa0.heap.size ≠ wa2.heap.size from Nat.ne_of_lt R7.out.lt)
            replace R7 := hide (R7.out.below hb3)
            have N78 := hide (fun (k : Nat) (p : Addr) (hk : k < 3) (hp : A7 k = some p) => (show p.block ≠ wa2.heap.size from Nat.ne_of_lt (U7.out k p hk hp)))
            replace D7 := hide ((D7.out.below hb3).more hb3.size)
            replace U7 := hide (fun (k : Nat) (p : Addr) (hk : k < 3) (hp : A7 k = some p) => Nat.lt_of_lt_of_le (U7.out k p hk hp) hb3.size)
            have N88 := hide (fun (k : Nat) (p : Addr) (hk : k < 3) (hp : A8 k = some p) => (show p.block ≠ wa2.heap.size from Nat.ne_of_lt (U8.out k p hk hp)))
            replace D8 := hide ((D8.out.below hb3).more hb3.size)
            replace U8 := hide (fun (k : Nat) (p : Addr) (hk : k < 3) (hp : A8 k = some p) => Nat.lt_of_lt_of_le (U8.out k p hk hp) hb3.size)
            have R8 := hide (RowAt.new wa2 26 zeroC)
            have G8 := hide HQ.out.size
            replace HQ := hide (HQ.out.alloc HQ.out.size (.cells zeroC 26))
            clear hb3
            generalize wa2.alloc (.cells zeroC 26) = wa3 at *
            refine wpAnyH_ready (rs := [6]) (by kernel_rfl) (by simp) ?_
            refine AllReadyH.cons rfl (fun K hK => ?_) AllReadyH.nil
            have z0 : wa3.cell? ⟨wa0.heap.size, 0, none⟩ = some (.int .u64 0) := by have := R7.out.cell 0; simpa using this
            have f0 := R7.out.frozen 0
            have z1 : wa3.cell? ⟨wa0.heap.size, 1, none⟩ = some (.slice none 0 0) := by have := R7.out.cell 1; simpa using this
            have f1 := R7.out.frozen 1
            have z2 : wa3.cell? ⟨wa0.heap.size, 2, none⟩ = some (.slice none 0 0) := by have := R7.out.cell 2; simpa using this
            have f2 := R7.out.frozen 2
            have z3 : wa3.cell? ⟨wa0.heap.size, 3, none⟩ = some (.slice none 0 0) := by have := R7.out.cell 3; simpa using this
            have f3 := R7.out.frozen 3
            have zl := R7.out.lt
            have HLD : Hid (LaidL wa0.heap.size wa3 (limC l.cut.E A7 (cutN l) c7) ((((wa3.setCell ⟨wa0.heap.size, 0, none⟩ (.int .u64 (l.cut.E : Int))).setCell ⟨wa0.heap.size, 1, none⟩ (.slice (A7 0) ((cutN l) 0) (c7 0))).setCell ⟨wa0.heap.size, 2, none⟩ (.slice (A7 1) ((cutN l) 1) (c7 1))).setCell ⟨wa0.heap.size, 3, none⟩ (.slice (A7 2) ((cutN l) 2) (c7 2)))) := hide (laidL_of R7.out rfl)
            go_simp
            have HQ2 := hide (HQ.out.trans (HLD.out.below.mono G7.out))
            refine hK.out _ _ HQ2.out (fun _ => ?_)
            clear hK K z0 z1 z2 z3 f0 f1 f2 f3 zl
            (try simp only [Act.put, List.getElem_toArray, List.getElem_cons_succ, List.getElem_cons_zero, List.setIfInBounds_toArray, List.set_cons_zero, List.set_cons_succ])
            generalize ((((wa3.setCell ⟨wa0.heap.size, 0, none⟩ (.int .u64 (l.cut.E : Int))).setCell ⟨wa0.heap.size, 1, none⟩ (.slice (A7 0) ((cutN l) 0) (c7 0))).setCell ⟨wa0.heap.size, 2, none⟩ (.slice (A7 1) ((cutN l) 1) (c7 1))).setCell ⟨wa0.heap.size, 3, none⟩ (.slice (A7 2) ((cutN l) 2) (c7 2))) = wt7 at *
            replace D7 := hide ((D7.out.storeNe N77.out HLD.out).more HLD.out.below.size)
            replace D8 := hide ((D8.out.storeNe N87.out HLD.out).more HLD.out.below.size)
            replace R7 := hide HLD.out.row
            replace R8 := hide (show RowAt wt7 wa2.heap.size 26 zeroC from (HLD.out.block _ NE7.out).trans R8.out)
            replace HQ := HQ2
            clear HLD
            refine wpAnyH_ready (rs := [7]) (by kernel_rfl) (by simp) ?_
            refine AllReadyH.cons rfl (fun K hK => ?_) AllReadyH.nil
            have z0 : wt7.cell? ⟨wa2.heap.size, 0, none⟩ = some (.int .u64 0) := by have := R8.out.cell 0; simpa using this
            have f0 := R8.out.frozen 0
            have z1 : wt7.cell? ⟨wa2.heap.size, 1, none⟩ = some (.slice none 0 0) := by have := R8.out.cell 1; simpa using this
            have f1 := R8.out.frozen 1
            have z2 : wt7.cell? ⟨wa2.heap.size, 2, none⟩ = some (.slice none 0 0) := by have := R8.out.cell 2; simpa using this
            have f2 := R8.out.frozen 2
            have z3 : wt7.cell? ⟨wa2.heap.size, 3, none⟩ = some (.slice none 0 0) := by have := R8.out.cell 3; simpa using this
            have f3 := R8.out.frozen 3
            have zl := R8.out.lt
            have HLD : Hid (LaidL wa2.heap.size wt7 (limC l1.cut.E A8 (cutN l1) c8) ((((wt7.setCell ⟨wa2.heap.size, 0, none⟩ (.int .u64 (l1.cut.E : Int))).setCell ⟨wa2.heap.size, 1, none⟩ (.slice (A8 0) ((cutN l1) 0) (c8 0))).setCell ⟨wa2.heap.size, 2, none⟩ (.slice (A8 1) ((cutN l1) 1) (c8 1))).setCell ⟨wa2.heap.size, 3, none⟩ (.slice (A8 2) ((cutN l1) 2) (c8 2)))) := hide (laidL_of R8.out rfl)
            go_simp
            have HQ2 := hide (HQ.out.trans (HLD.out.below.mono G8.out))
            refine hK.out _ _ HQ2.out (fun _ => ?_)
            clear hK K z0 z1 z2 z3 f0 f1 f2 f3 zl
            (try simp only [Act.put, List.getElem_toArray, List.getElem_cons_succ, List.getElem_cons_zero, List.setIfInBounds_toArray, List.set_cons_zero, List.set_cons_succ])
            generalize ((((wt7.setCell ⟨wa2.heap.size, 0, none⟩ (.int .u64 (l1.cut.E : Int))).setCell ⟨wa2.heap.size, 1, none⟩ (.slice (A8 0) ((cutN l1) 0) (c8 0))).setCell ⟨wa2.heap.size, 2, none⟩ (.slice (A8 1) ((cutN l1) 1) (c8 1))).setCell ⟨wa2.heap.size, 3, none⟩ (.slice (A8 2) ((cutN l1) 2) (c8 2))) = wt8 at *
            replace D7 := hide ((D7.out.storeNe N78.out HLD.out).more HLD.out.below.size)
            replace D8 := hide ((D8.out.storeNe N88.out HLD.out).more HLD.out.below.size)
            replace R8 := hide HLD.out.row
            replace R7 := hide (show RowAt wt8 wa0.heap.size 26 (limC l.cut.E A7 (cutN l) c7) from (HLD.out.block _ NE8.out).trans R7.out)
            replace HQ := HQ2
            clear HLD
            refine wpAnyH_done (by kernel_rfl) ?_ _
            go_wp2_with fail
            go_meet
            case rel => exact ⟨_, _, A7, c7, A8, c8, rfl, rfl, R7.out, R8.out, D7.out, D8.out, HQ.out⟩
        · go_simp
          refine hK2.out _ _ (HQ.out.alloc HQ.out.size _) (fun _ => ?_)
          clear hK2 K2
          (try simp only [Act.put, List.getElem_toArray, List.getElem_cons_succ, List.getElem_cons_zero, List.setIfInBounds_toArray, List.set_cons_zero, List.set_cons_succ])
          have hb2 : Below wa1.heap.size wa1 (wa1.alloc (.cells zeroC 26)) := (Below.refl _ _).alloc (Nat.le_refl _) _
          have NE7 := hide (show wa1.heap.size ≠ wa0.heap.size from Nat.ne_of_gt R7.out.lt)
          have NE8 := hide (show wa0.heap.size ≠ wa1.heap.size from Nat.ne_of_lt R7.out.lt)
          replace R7 := hide (R7.out.below hb2)
          have N78 := hide (fun (k : Nat) (p : Addr) (hk : k < 3) (hp : A7 k = some p) => (show p.block ≠ wa1.heap.size from Nat.ne_of_lt (U7.out k p hk hp)))
          replace D7 := hide ((D7.out.below hb2).more hb2.size)
          replace U7 := hide (fun (k : Nat) (p : Addr) (hk : k < 3) (hp : A7 k = some p) => Nat.lt_of_lt_of_le (U7.out k p hk hp) hb2.size)
          have R8 := hide (RowAt.new wa1 26 zeroC)
          have G8 := hide HQ.out.size
          replace HQ := hide (HQ.out.alloc HQ.out.size (.cells zeroC 26))
          clear hb2
          generalize wa1.alloc (.cells zeroC 26) = wa2 at *
          refine wpAnyH_ready (rs := [3]) (by kernel_rfl) (by simp) ?_
          refine (AllReadyH.cons rfl (fun K3 hK3 => ?_) AllReadyH.nil)
          · go_simp
            refine (HO2.out _ HQ.out).mono ?_
            rintro e wa3 ⟨A8, c8, rfl, hd8, hlo8, hup8, hb3⟩
            have N88 := hide (fun (k : Nat) (p : Addr) (hk : k < 3) (hp : A8 k = some p) => (show p.block ≠ wa1.heap.size by have h1 := hlo8 k p hk hp; have h2 := R8.out.lt; omega))
            have N87 := hide (fun (k : Nat) (p : Addr) (hk : k < 3) (hp : A8 k = some p) => (show p.block ≠ wa0.heap.size by have h1 := hlo8 k p hk hp; have h2 := R7.out.lt; omega))
            replace R8 := hide (R8.out.below hb3)
            replace R7 := hide (R7.out.below hb3)
            replace D7 := hide ((D7.out.below hb3).more hb3.size)
            replace U7 := hide (fun (k : Nat) (p : Addr) (hk : k < 3) (hp : A7 k = some p) => Nat.lt_of_lt_of_le (U7.out k p hk hp) hb3.size)
            have D8 := hide hd8
            have U8 := hide hup8
            replace HQ := hide (HQ.out.trans (hb3.mono HQ.out.size))
            clear hb3 hd8 hlo8 hup8
            refine hK3.out _ _ (HQ.out) (fun _ => ?_)
            clear hK3 K3
            (try simp only [Act.put, List.getElem_toArray, List.getElem_cons_succ, List.getElem_cons_zero, List.setIfInBounds_toArray, List.set_cons_zero, List.set_cons_succ])
            refine wpAnyH_ready (rs := [6]) (by kernel_rfl) (by simp) ?_
            refine AllReadyH.cons rfl (fun K hK => ?_) AllReadyH.nil
            have z0 : wa3.cell? ⟨wa0.heap.size, 0, none⟩ = some (.int .u64 0) := by have := R7.out.cell 0; simpa using this
            have f0 := R7.out.frozen 0
            have z1 : wa3.cell? ⟨wa0.heap.size, 1, none⟩ = some (.slice none 0 0) := by have := R7.out.cell 1; simpa using this
            have f1 := R7.out.frozen 1
            have z2 : wa3.cell? ⟨wa0.heap.size, 2, none⟩ = some (.slice none 0 0) := by have := R7.out.cell 2; simpa using this
            have f2 := R7.out.frozen 2
            have z3 : wa3.cell? ⟨wa0.heap.size, 3, none⟩ = some (.slice none 0 0) := by have := R7.out.cell 3; simpa using this
            have f3 := R7.out.frozen 3
            have zl := R7.out.lt
            have HLD : Hid (LaidL wa0.heap.size wa3 (limC l.cut.E A7 (cutN l) c7) ((((wa3.setCell ⟨wa0.heap.size, 0, none⟩ (.int .u64 (l.cut.E : Int))).setCell ⟨wa0.heap.size, 1, none⟩ (.slice (A7 0) ((cutN l) 0) (c7 0))).setCell ⟨wa0.heap.size, 2, none⟩ (.slice (A7 1) ((cutN l) 1) (c7 1))).setCell ⟨wa0.heap.size, 3, none⟩ (.slice (A7 2) ((cutN l) 2) (c7 2)))) := hide (laidL_of R7.out rfl)
            go_simp
            have HQ2 := hide (HQ.out.trans (HLD.out.below.mono G7.out))
            refine hK.out _ _ HQ2.out (fun _ => ?_)
            clear hK K z0 z1 z2 z3 f0 f1 f2 f3 zl
            (try simp only [Act.put, List.getElem_toArray, List.getElem_cons_succ, List.getElem_cons_zero, List.setIfInBounds_toArray, List.set_cons_zero, List.set_cons_succ])
            generalize ((((wa3.setCell ⟨wa0.heap.size, 0, none⟩ (.int .u64 (l.cut.E : Int))).setCell ⟨wa0.heap.size, 1, none⟩ (.slice (A7 0) ((cutN l) 0) (c7 0))).setCell ⟨wa0.heap.size, 2, none⟩ (.slice (A7 1) ((cutN l) 1) (c7 1))).setCell ⟨wa0.heap.size, 3, none⟩ (.slice (A7 2) ((cutN l) 2) (c7 2))) = wt7 at *
            replace D7 := hide ((D7.out.storeNe N77.out HLD.out).more HLD.out.below.size)
            replace D8 := hide ((D8.out.storeNe N87.out HLD.out).more HLD.out.below.size)
            replace R7 := hide HLD.out.row
            replace R8 := hide (show RowAt wt7 wa1.heap.size 26 zeroC from (HLD.out.block _ NE7.out).trans R8.out)
            replace HQ := HQ2
            clear HLD
            refine wpAnyH_ready (rs := [7]) (by kernel_rfl) (by simp) ?_
            refine AllReadyH.cons rfl (fun K hK => ?_) AllReadyH.nil
            have z0 : wt7.cell? ⟨wa1.heap.size, 0, none⟩ = some (.int .u64 0) := by have := R8.out.cell 0; simpa using this
            have f0 := R8.out.frozen 0
            have z1 : wt7.cell? ⟨wa1.heap.size, 1, none⟩ = some (.slice none 0 0) := by have := R8.out.cell 1; simpa using this
            have f1 := R8.out.frozen 1
            have z2 : wt7.cell? ⟨wa1.heap.size, 2, none⟩ = some (.slice none 0 0) := by have := R8.out.cell 2; simpa using this
            have f2 := R8.out.frozen 2
            have z3 : wt7.cell? ⟨wa1.heap.size, 3, none⟩ = some (.slice none 0 0) := by have := R8.out.cell 3; simpa using this
            have f3 := R8.out.frozen 3
            have zl := R8.out.lt
            have HLD : Hid (LaidL wa1.heap.size wt7 (limC l1.cut.E A8 (cutN l1) c8) ((((wt7.setCell ⟨wa1.heap.size, 0, none⟩ (.int .u64 (l1.cut.E : Int))).setCell ⟨wa1.heap.size, 1, none⟩ (.slice (A8 0) ((cutN l1) 0) (c8 0))).setCell ⟨wa1.heap.size, 2, none⟩ (.slice (A8 1) ((cutN l1) 1) (c8 1))).setCell ⟨wa1.heap.size, 3, none⟩ (.slice (A8 2) ((cutN l1) 2) (c8 2)))) := hide (laidL_of R8.out rfl)
            go_simp
            have HQ2 := hide (HQ.out.trans (HLD.out.below.mono G8.out))
            refine hK.out _ _ HQ2.out (fun _ => ?_)
            clear hK K z0 z1 z2 z3 f0 f1 f2 f3 zl
            (try simp only [Act.put, List.getElem_toArray, List.getElem_cons_succ, List.getElem_cons_zero, List.setIfInBounds_toArray, List.set_cons_zero, List.set_cons_succ])
            generalize ((((wt7.setCell ⟨wa1.heap.size, 0, none⟩ (.int .u64 (l1.cut.E : Int))).setCell ⟨wa1.heap.size, 1, none⟩ (.slice (A8 0) ((cutN l1) 0) (c8 0))).setCell ⟨wa1.heap.size, 2, none⟩ (.slice (A8 1) ((cutN l1) 1) (c8 1))).setCell ⟨wa1.heap.size, 3, none⟩ (.slice (A8 2) ((cutN l1) 2) (c8 2))) = wt8 at *
            replace D7 := hide ((D7.out.storeNe N78.out HLD.out).more HLD.out.below.size)
            replace D8 := hide ((D8.out.storeNe N88.out HLD.out).more HLD.out.below.size)
            replace R8 := hide HLD.out.row
            replace R7 := hide (show RowAt wt8 wa0.heap.size 26 (limC l.cut.E A7 (cutN l) c7) from (HLD.out.block _ NE8.out).trans R7.out)
            replace HQ := HQ2
            clear HLD
            refine wpAnyH_done (by kernel_rfl) ?_ _
            go_wp2_with fail
            go_meet
            case rel => exact ⟨_, _, A7, c7, A8, c8, rfl, rfl, R7.out, R8.out, D7.out, D8.out, HQ.out⟩
      · go_simp
        refine hK1.out _ _ (HQ.out.alloc HQ.out.size _) (fun _ => ?_)
        clear hK1 K1
        (try simp only [Act.put, List.getElem_toArray, List.getElem_cons_succ, List.getElem_cons_zero, List.setIfInBounds_toArray, List.set_cons_zero, List.set_cons_succ])
        have hb1 : Below wa0.heap.size wa0 (wa0.alloc (.cells zeroC 26)) := (Below.refl _ _).alloc (Nat.le_refl _) _
        have N78 := hide (fun (k : Nat) (p : Addr) (hk : k < 3) (hp : A7 k = some p) => (show p.block ≠ wa0.heap.size from Nat.ne_of_lt (U7.out k p hk hp)))
        replace D7 := hide ((D7.out.below hb1).more hb1.size)
        replace U7 := hide (fun (k : Nat) (p : Addr) (hk : k < 3) (hp : A7 k = some p) => Nat.lt_of_lt_of_le (U7.out k p hk hp) hb1.size)
        have R8 := hide (RowAt.new wa0 26 zeroC)
        have G8 := hide HQ.out.size
        replace HQ := hide (HQ.out.alloc HQ.out.size (.cells zeroC 26))
        clear hb1
        generalize wa0.alloc (.cells zeroC 26) = wa1 at *
        refine wpAnyH_ready (rs := [3, 4]) (by kernel_rfl) (by simp) ?_
        refine (AllReadyH.cons rfl (fun K2 hK2 => ?_) (AllReadyH.cons rfl (fun K2 hK2 => ?_) AllReadyH.nil))
        · go_simp
          refine (HO2.out _ HQ.out).mono ?_
          rintro e wa2 ⟨A8, c8, rfl, hd8, hlo8, hup8, hb2⟩
          have N88 := hide (fun (k : Nat) (p : Addr) (hk : k < 3) (hp : A8 k = some p) => (show p.block ≠ wa0.heap.size by have h1 := hlo8 k p hk hp; have h2 := R8.out.lt; omega))
          replace R8 := hide (R8.out.below hb2)
          replace D7 := hide ((D7.out.below hb2).more hb2.size)
          replace U7 := hide (fun (k : Nat) (p : Addr) (hk : k < 3) (hp : A7 k = some p) => Nat.lt_of_lt_of_le (U7.out k p hk hp) hb2.size)
          have D8 := hide hd8
          have U8 := hide hup8
          replace HQ := hide (HQ.out.trans (hb2.mono HQ.out.size))
          clear hb2 hd8 hlo8 hup8
          refine hK2.out _ _ (HQ.out) (fun _ => ?_)
          clear hK2 K2
          (try simp only [Act.put, List.getElem_toArray, List.getElem_cons_succ, List.getElem_cons_zero, List.setIfInBounds_toArray, List.set_cons_zero, List.set_cons_succ])
          refine wpAnyH_ready (rs := [4]) (by kernel_rfl) (by simp) ?_
          refine (AllReadyH.cons rfl (fun K3 hK3 => ?_) AllReadyH.nil)
          · go_simp
            refine hK3.out _ _ (HQ.out.alloc HQ.out.size _) (fun _ => ?_)
            clear hK3 K3
            (try simp only [Act.put, List.getElem_toArray, List.getElem_cons_succ, List.getElem_cons_zero, List.setIfInBounds_toArray, List.set_cons_zero, List.set_cons_succ])
            have hb3 : Below wa2.heap.size wa2 (wa2.alloc (.cells zeroC 26)) := (Below.refl _ _).alloc (Nat.le_refl _) _
            have NE8 := hide (show wa2.heap.size ≠ wa0.heap.size from Nat.ne_of_gt R8.out.lt)
            have NE7 := hide (show wa0.heap.size ≠ wa2.heap.size from Nat.ne_of_lt R8.out.lt)
            replace R8 := hide (R8.out.below hb3)
            have N77 := hide (fun (k : Nat) (p : Addr) (hk : k < 3) (hp : A7 k = some p) => (show p.block ≠ wa2.heap.size from Nat.ne_of_lt (U7.out k p hk hp)))
            replace D7 := hide ((D7.out.below hb3).more hb3.size)
            replace U7 := hide (fun (k : Nat) (p : Addr) (hk : k < 3) (hp : A7 k = some p) => Nat.lt_of_lt_of_le (U7.out k p hk hp) hb3.size)
            have N87 := hide (fun (k : Nat) (p : Addr) (hk : k < 3) (hp : A8 k = some p) => (show p.block ≠ wa2.heap.size from Nat.ne_of_lt (U8.out k p hk hp)))
            replace D8 := hide ((D8.out.below hb3).more hb3.size)
            replace U8 := hide (fun (k : Nat) (p : Addr) (hk : k < 3) (hp : A8 k = some p) => Nat.lt_of_lt_of_le (U8.out k p hk hp) hb3.size)
            have R7 := hide (RowAt.new wa2 26 zeroC)
            have G7 := hide HQ.out.size
            replace HQ := hide (HQ.out.alloc HQ.out.size (.cells zeroC 26))
            clear hb3
            generalize wa2.alloc (.cells zeroC 26) = wa3 at *
            refine wpAnyH_ready (rs := [6]) (by kernel_rfl) (by simp) ?_
            refine AllReadyH.cons rfl (fun K hK => ?_) AllReadyH.nil
            have z0 : wa3.cell? ⟨wa2.heap.size, 0, none⟩ = some (.int .u64 0) := by have := R7.out.cell 0; simpa using this
            have f0 := R7.out.frozen 0
            have z1 : wa3.cell? ⟨wa2.heap.size, 1, none⟩ = some (.slice none 0 0) := by have := R7.out.cell 1; simpa using this
            have f1 := R7.out.frozen 1
            have z2 : wa3.cell? ⟨wa2.heap.size, 2, none⟩ = some (.slice none 0 0) := by have := R7.out.cell 2; simpa using this
            have f2 := R7.out.frozen 2
            have z3 : wa3.cell? ⟨wa2.heap.size, 3, none⟩ = some (.slice none 0 0) := by have := R7.out.cell 3; simpa using this
            have f3 := R7.out.frozen 3
            have zl := R7.out.lt
            have HLD : Hid (LaidL wa2.heap.size wa3 (limC l.cut.E A7 (cutN l) c7) ((((wa3.setCell ⟨wa2.heap.size, 0, none⟩ (.int .u64 (l.cut.E : Int))).setCell ⟨wa2.heap.size, 1, none⟩ (.slice (A7 0) ((cutN l) 0) (c7 0))).setCell ⟨wa2.heap.size, 2, none⟩ (.slice (A7 1) ((cutN l) 1) (c7 1))).setCell ⟨wa2.heap.size, 3, none⟩ (.slice (A7 2) ((cutN l) 2) (c7 2)))) := hide (laidL_of R7.out rfl)
            go_simp
            have HQ2 := hide (HQ.out.trans (HLD.out.below.mono G7.out))
            refine hK.out _ _ HQ2.out (fun _ => ?_)
            clear hK K z0 z1 z2 z3 f0 f1 f2 f3 zl
            (try simp only [Act.put, List.getElem_toArray, List.getElem_cons_succ, List.getElem_cons_zero, List.setIfInBounds_toArray, List.set_cons_zero, List.set_cons_succ])
            generalize ((((wa3.setCell ⟨wa2.heap.size, 0, none⟩ (.int .u64 (l.cut.E : Int))).setCell ⟨wa2.heap.size, 1, none⟩ (.slice (A7 0) ((cutN l) 0) (c7 0))).setCell ⟨wa2.heap.size, 2, none⟩ (.slice (A7 1) ((cutN l) 1) (c7 1))).setCell ⟨wa2.heap.size, 3, none⟩ (.slice (A7 2) ((cutN l) 2) (c7 2))) = wt7 at *
            replace D7 := hide ((D7.out.storeNe N77.out HLD.out).more HLD.out.below.size)
            replace D8 := hide ((D8.out.storeNe N87.out HLD.out).more HLD.out.below.size)
            replace R7 := hide HLD.out.row
            replace R8 := hide (show RowAt wt7 wa0.heap.size 26 zeroC from (HLD.out.block _ NE7.out).trans R8.out)
            replace HQ := HQ2
            clear HLD
            refine wpAnyH_ready (rs := [7]) (by kernel_rfl) (by simp) ?_
            refine AllReadyH.cons rfl (fun K hK => ?_) AllReadyH.nil
            have z0 : wt7.cell? ⟨wa0.heap.size, 0, none⟩ = some (.int .u64 0) := by have := R8.out.cell 0; simpa using this
            have f0 := R8.out.frozen 0
            have z1 : wt7.cell? ⟨wa0.heap.size, 1, none⟩ = some (.slice none 0 0) := by have := R8.out.cell 1; simpa using this
            have f1 := R8.out.frozen 1
            have z2 : wt7.cell? ⟨wa0.heap.size, 2, none⟩ = some (.slice none 0 0) := by have := R8.out.cell 2; simpa using this
            have f2 := R8.out.frozen 2
            have z3 : wt7.cell? ⟨wa0.heap.size, 3, none⟩ = some (.slice none 0 0) := by have := R8.out.cell 3; simpa using this
            have f3 := R8.out.frozen 3
            have zl := R8.out.lt
            have HLD : Hid (LaidL wa0.heap.size wt7 (limC l1.cut.E A8 (cutN l1) c8) ((((wt7.setCell ⟨wa0.heap.size, 0, none⟩ (.int .u64 (l1.cut.E : Int))).setCell ⟨wa0.heap.size, 1, none⟩ (.slice (A8 0) ((cutN l1) 0) (c8 0))).setCell ⟨wa0.heap.size, 2, none⟩ (.slice (A8 1) ((cutN l1) 1) (c8 1))).setCell ⟨wa0.heap.size, 3, none⟩ (.slice (A8 2) ((cutN l1) 2) (c8 2)))) := hide (laidL_of R8.out rfl)
            go_simp
            have HQ2 := hide (HQ.out.trans (HLD.out.below.mono G8.out))
            refine hK.out _ _ HQ2.out (fun _ => ?_)
            clear hK K z0 z1 z2 z3 f0 f1 f2 f3 zl
            (try simp only [Act.put, List.getElem_toArray, List.getElem_cons_succ, List.getElem_cons_zero, List.setIfInBounds_toArray, List.set_cons_zero, List.set_cons_succ])
            generalize ((((wt7.setCell ⟨wa0.heap.size, 0, none⟩ (.int .u64 (l1.cut.E : Int))).setCell ⟨wa0.heap.size, 1, none⟩ (.slice (A8 0) ((cutN l1) 0) (c8 0))).setCell ⟨wa0.heap.size, 2, none⟩ (.slice (A8 1) ((cutN l1) 1) (c8 1))).setCell ⟨wa0.heap.size, 3, none⟩ (.slice (A8 2) ((cutN l1) 2) (c8 2))) = wt8 at *
            replace D7 := hide ((D7.out.storeNe N78.out HLD.out).more HLD.out.below.size)
            replace D8 := hide ((D8.out.storeNe N88.out HLD.out).more HLD.out.below.size)
            replace R8 := hide HLD.out.row
            replace R7 := hide (show RowAt wt8 wa2.heap.size 26 (limC l.cut.E A7 (cutN l) c7) from (HLD.out.block _ NE8.out).trans R7.out)
            replace HQ := HQ2
            clear HLD
            refine wpAnyH_done (by kernel_rfl) ?_ _
            go_wp2_with fail
            go_meet
            case rel => exact ⟨_, _, A7, c7, A8, c8, rfl, rfl, R7.out, R8.out, D7.out, D8.out, HQ.out⟩
        · go_simp
          refine hK2.out _ _ (HQ.out.alloc HQ.out.size _) (fun _ => ?_)
          clear hK2 K2
          (try simp only [Act.put, List.getElem_toArray, List.getElem_cons_succ, List.getElem_cons_zero, List.setIfInBounds_toArray, List.set_cons_zero, List.set_cons_succ])
          have hb2 : Below wa1.heap.size wa1 (wa1.alloc (.cells zeroC 26)) := (Below.refl _ _).alloc (Nat.le_refl _) _
          have NE8 := hide (show wa1.heap.size ≠ wa0.heap.size from Nat.ne_of_gt R8.out.lt)
          have NE7 := hide (show wa0.heap.size ≠ wa1.heap.size from Nat.ne_of_lt R8.out.lt)
          replace R8 := hide (R8.out.below hb2)
          have N77 := hide (fun (k : Nat) (p : Addr) (hk : k < 3) (hp : A7 k = some p) => (show p.block ≠ wa1.heap.size from Nat.ne_of_lt (U7.out k p hk hp)))
          replace D7 := hide ((D7.out.below hb2).more hb2.size)
          replace U7 := hide (fun (k : Nat) (p : Addr) (hk : k < 3) (hp : A7 k = some p) => Nat.lt_of_lt_of_le (U7.out k p hk hp) hb2.size)
          have R7 := hide (RowAt.new wa1 26 zeroC)
          have G7 := hide HQ.out.size
          replace HQ := hide (HQ.out.alloc HQ.out.size (.cells zeroC 26))
          clear hb2
          generalize wa1.alloc (.cells zeroC 26) = wa2 at *
          refine wpAnyH_ready (rs := [3]) (by kernel_rfl) (by simp) ?_
          refine (AllReadyH.cons rfl (fun K3 hK3 => ?_) AllReadyH.nil)
          · go_simp
            refine (HO2.out _ HQ.out).mono ?_
            rintro e wa3 ⟨A8, c8, rfl, hd8, hlo8, hup8, hb3⟩
            have N88 := hide (fun (k : Nat) (p : Addr) (hk : k < 3) (hp : A8 k = some p) => (show p.block ≠ wa0.heap.size by have h1 := hlo8 k p hk hp; have h2 := R8.out.lt; omega))
            have N87 := hide (fun (k : Nat) (p : Addr) (hk : k < 3) (hp : A8 k = some p) => (show p.block ≠ wa1.heap.size by have h1 := hlo8 k p hk hp; have h2 := R7.out.lt; omega))
            replace R8 := hide (R8.out.below hb3)
            replace R7 := hide (R7.out.below hb3)
            replace D7 := hide ((D7.out.below hb3).more hb3.size)
            replace U7 := hide (fun (k : Nat) (p : Addr) (hk : k < 3) (hp : A7 k = some p) => Nat.lt_of_lt_of_le (U7.out k p hk hp) hb3.size)
            have D8 := hide hd8
            have U8 := hide hup8
            replace HQ := hide (HQ.out.trans (hb3.mono HQ.out.size))
            clear hb3 hd8 hlo8 hup8
            refine hK3.out _ _ (HQ.out) (fun _ => ?_)
            clear hK3 K3
            (try simp only [Act.put, List.getElem_toArray, List.getElem_cons_succ, List.getElem_cons_zero, List.setIfInBounds_toArray, List.set_cons_zero, List.set_cons_succ])
            refine wpAnyH_ready (rs := [6]) (by kernel_rfl) (by simp) ?_
            refine AllReadyH.cons rfl (fun K hK => ?_) AllReadyH.nil
            have z0 : wa3.cell? ⟨wa1.heap.size, 0, none⟩ = some (.int .u64 0) := by have := R7.out.cell 0; simpa using this
            have f0 := R7.out.frozen 0
            have z1 : wa3.cell? ⟨wa1.heap.size, 1, none⟩ = some (.slice none 0 0) := by have := R7.out.cell 1; simpa using this
            have f1 := R7.out.frozen 1
            have z2 : wa3.cell? ⟨wa1.heap.size, 2, none⟩ = some (.slice none 0 0) := by have := R7.out.cell 2; simpa using this
            have f2 := R7.out.frozen 2
            have z3 : wa3.cell? ⟨wa1.heap.size, 3, none⟩ = some (.slice none 0 0) := by have := R7.out.cell 3; simpa using this
            have f3 := R7.out.frozen 3
            have zl := R7.out.lt
            have HLD : Hid (LaidL wa1.heap.size wa3 (limC l.cut.E A7 (cutN l) c7) ((((wa3.setCell ⟨wa1.heap.size, 0, none⟩ (.int .u64 (l.cut.E : Int))).setCell ⟨wa1.heap.size, 1, none⟩ (.slice (A7 0) ((cutN l) 0) (c7 0))).setCell ⟨wa1.heap.size, 2, none⟩ (.slice (A7 1) ((cutN l) 1) (c7 1))).setCell ⟨wa1.heap.size, 3, none⟩ (.slice (A7 2) ((cutN l) 2) (c7 2)))) := hide (laidL_of R7.out rfl)
            go_simp
            have HQ2 := hide (HQ.out.trans (HLD.out.below.mono G7.out))
            refine hK.out _ _ HQ2.out (fun _ => ?_)
            clear hK K z0 z1 z2 z3 f0 f1 f2 f3 zl
            (try simp only [Act.put, List.getElem_toArray, List.getElem_cons_succ, List.getElem_cons_zero, List.setIfInBounds_toArray, List.set_cons_zero, List.set_cons_succ])
            generalize ((((wa3.setCell ⟨wa1.heap.size, 0, none⟩ (.int .u64 (l.cut.E : Int))).setCell ⟨wa1.heap.size, 1, none⟩ (.slice (A7 0) ((cutN l) 0) (c7 0))).setCell ⟨wa1.heap.size, 2, none⟩ (.slice (A7 1) ((cutN l) 1) (c7 1))).setCell ⟨wa1.heap.size, 3, none⟩ (.slice (A7 2) ((cutN l) 2) (c7 2))) = wt7 at *
            replace D7 := hide ((D7.out.storeNe N77.out HLD.out).more HLD.out.below.size)
            replace D8 := hide ((D8.out.storeNe N87.out HLD.out).more HLD.out.below.size)
            replace R7 := hide HLD.out.row
            replace R8 := hide (show RowAt wt7 wa0.heap.size 26 zeroC from (HLD.out.block _ NE7.out).trans R8.out)
            replace HQ := HQ2
            clear HLD
            refine wpAnyH_ready (rs := [7]) (by kernel_rfl) (by simp) ?_
            refine AllReadyH.cons rfl (fun K hK => ?_) AllReadyH.nil
            have z0 : wt7.cell? ⟨wa0.heap.size, 0, none⟩ = some (.int .u64 0) := by have := R8.out.cell 0; simpa using this
            have f0 := R8.out.frozen 0
            have z1 : wt7.cell? ⟨wa0.heap.size, 1, none⟩ = some (.slice none 0 0) := by have := R8.out.cell 1; simpa using this
            have f1 := R8.out.frozen 1
            have z2 : wt7.cell? ⟨wa0.heap.size, 2, none⟩ = some (.slice none 0 0) := by have := R8.out.cell 2; simpa using this
            have f2 := R8.out.frozen 2
            have z3 : wt7.cell? ⟨wa0.heap.size, 3, none⟩ = some (.slice none 0 0) := by have := R8.out.cell 3; simpa using this
            have f3 := R8.out.frozen 3
            have zl := R8.out.lt
            have HLD : Hid (LaidL wa0.heap.size wt7 (limC l1.cut.E A8 (cutN l1) c8) ((((wt7.setCell ⟨wa0.heap.size, 0, none⟩ (.int .u64 (l1.cut.E : Int))).setCell ⟨wa0.heap.size, 1, none⟩ (.slice (A8 0) ((cutN l1) 0) (c8 0))).setCell ⟨wa0.heap.size, 2, none⟩ (.slice (A8 1) ((cutN l1) 1) (c8 1))).setCell ⟨wa0.heap.size, 3, none⟩ (.slice (A8 2) ((cutN l1) 2) (c8 2)))) := hide (laidL_of R8.out rfl)
            go_simp
            have HQ2 := hide (HQ.out.trans (HLD.out.below.mono G8.out))
            refine hK.out _ _ HQ2.out (fun _ => ?_)
            clear hK K z0 z1 z2 z3 f0 f1 f2 f3 zl
            (try simp only [Act.put, List.getElem_toArray, List.getElem_cons_succ, List.getElem_cons_zero, List.setIfInBounds_toArray, List.set_cons_zero, List.set_cons_succ])
            generalize ((((wt7.setCell ⟨wa0.heap.size, 0, none⟩ (.int .u64 (l1.cut.E : Int))).setCell ⟨wa0.heap.size, 1, none⟩ (.slice (A8 0) ((cutN l1) 0) (c8 0))).setCell ⟨wa0.heap.size, 2, none⟩ (.slice (A8 1) ((cutN l1) 1) (c8 1))).setCell ⟨wa0.heap.size, 3, none⟩ (.slice (A8 2) ((cutN l1) 2) (c8 2))) = wt8 at *
            replace D7 := hide ((D7.out.storeNe N78.out HLD.out).more HLD.out.below.size)
            replace D8 := hide ((D8.out.storeNe N88.out HLD.out).more HLD.out.below.size)
            replace R8 := hide HLD.out.row
            replace R7 := hide (show RowAt wt8 wa1.heap.size 26 (limC l.cut.E A7 (cutN l) c7) from (HLD.out.block _ NE8.out).trans R7.out)
            replace HQ := HQ2
            clear HLD
            refine wpAnyH_done (by kernel_rfl) ?_ _
            go_wp2_with fail
            go_meet
            case rel => exact ⟨_, _, A7, c7, A8, c8, rfl, rfl, R7.out, R8.out, D7.out, D8.out, HQ.out⟩
    · go_simp
      refine hK0.out _ _ (HQ.out.alloc HQ.out.size _) (fun _ => ?_)
      clear hK0 K0
      (try simp only [Act.put, List.getElem_toArray, List.getElem_cons_succ, List.getElem_cons_zero, List.setIfInBounds_toArray, List.set_cons_zero, List.set_cons_succ])
      have hb0 : Below wd.heap.size wd (wd.alloc (.cells zeroC 26)) := (Below.refl _ _).alloc (Nat.le_refl _) _
      have R7 := hide (RowAt.new wd 26 zeroC)
      have G7 := hide HQ.out.size
      replace HQ := hide (HQ.out.alloc HQ.out.size (.cells zeroC 26))
      clear hb0
      generalize wd.alloc (.cells zeroC 26) = wa0 at *
      refine wpAnyH_ready (rs := [1, 5]) (by kernel_rfl) (by simp) ?_
      refine (AllReadyH.cons rfl (fun K1 hK1 => ?_) (AllReadyH.cons rfl (fun K1 hK1 => ?_) AllReadyH.nil))
      · go_simp
        refine (HO1.out _ HQ.out).mono ?_
        rintro e wa1 ⟨A7, c7, rfl, hd7, hlo7, hup7, hb1⟩
        have N77 := hide (fun (k : Nat) (p : Addr) (hk : k < 3) (hp : A7 k = some p) => (show p.block ≠ wd.heap.size by have h1 := hlo7 k p hk hp; have h2 := R7.out.lt; omega))
        replace R7 := hide (R7.out.below hb1)
        have D7 := hide hd7
        have U7 := hide hup7
        replace HQ := hide (HQ.out.trans (hb1.mono HQ.out.size))
        clear hb1 hd7 hlo7 hup7
        refine hK1.out _ _ (HQ.out) (fun _ => ?_)
        clear hK1 K1
        (try simp only [Act.put, List.getElem_toArray, List.getElem_cons_succ, List.getElem_cons_zero, List.setIfInBounds_toArray, List.set_cons_zero, List.set_cons_succ])
        refine wpAnyH_ready (rs := [3, 5]) (by kernel_rfl) (by simp) ?_
        refine (AllReadyH.cons rfl (fun K2 hK2 => ?_) (AllReadyH.cons rfl (fun K2 hK2 => ?_) AllReadyH.nil))
        · go_simp
          refine (HO2.out _ HQ.out).mono ?_
          rintro e wa2 ⟨A8, c8, rfl, hd8, hlo8, hup8, hb2⟩
          have N87 := hide (fun (k : Nat) (p : Addr) (hk : k < 3) (hp : A8 k = some p) => (show p.block ≠ wd.heap.size by have h1 := hlo8 k p hk hp; have h2 := R7.out.lt; omega))
          replace R7 := hide (R7.out.below hb2)
          replace D7 := hide ((D7.out.below hb2).more hb2.size)
          replace U7 := hide (fun (k : Nat) (p : Addr) (hk : k < 3) (hp : A7 k = some p) => Nat.lt_of_lt_of_le (U7.out k p hk hp) hb2.size)
          have D8 := hide hd8
          have U8 := hide hup8
          replace HQ := hide (HQ.out.trans (hb2.mono HQ.out.size))
          clear hb2 hd8 hlo8 hup8
          refine hK2.out _ _ (HQ.out) (fun _ => ?_)
          clear hK2 K2
          (try simp only [Act.put, List.getElem_toArray, List.getElem_cons_succ, List.getElem_cons_zero, List.setIfInBounds_toArray, List.set_cons_zero, List.set_cons_succ])
          refine wpAnyH_ready (rs := [5]) (by kernel_rfl) (by simp) ?_
          refine (AllReadyH.cons rfl (fun K3 hK3 => ?_) AllReadyH.nil)
          · go_simp
            refine hK3.out _ _ (HQ.out.alloc HQ.out.size _) (fun _ => ?_)
            clear hK3 K3
            (try simp only [Act.put, List.getElem_toArray, List.getElem_cons_succ, List.getElem_cons_zero, List.setIfInBounds_toArray, List.set_cons_zero, List.set_cons_succ])
            have hb3 : Below wa2.heap.size wa2 (wa2.alloc (.cells zeroC 26)) := (Below.refl _ _).alloc (Nat.le_refl _) _
            have NE7 := hide (show wa2.heap.size ≠ wd.heap.size from Nat.ne_of_gt R7.out.lt)
            have NE8 := hide (show wd.heap.size ≠ wa2.heap.size from Nat.ne_of_lt R7.out.lt)
            replace R7 := hide (R7.out.below hb3)
            have N78 := hide (fun (k : Nat) (p : Addr) (hk : k < 3) (hp : A7 k = some p) => (show p.block ≠ wa2.heap.size from Nat.ne_of_lt (U7.out k p hk hp)))
            replace D7 := hide ((D7.out.below hb3).more hb3.size)
            replace U7 := hide (fun (k : Nat) (p : Addr) (hk : k < 3) (hp : A7 k = some p) => Nat.lt_of_lt_of_le (U7.out k p hk hp) hb3.size)
            have N88 := hide (fun (k : Nat) (p : Addr) (hk : k < 3) (hp : A8 k = some p) => (show p.block ≠ wa2.heap.size from Nat.ne_of_lt (U8.out k p hk hp)))
            replace D8 := hide ((D8.out.below hb3).more hb3.size)
            replace U8 := hide (fun (k : Nat) (p : Addr) (hk : k < 3) (hp : A8 k = some p) => Nat.lt_of_lt_of_le (U8.out k p hk hp) hb3.size)
            have R8 := hide (RowAt.new wa2 26 zeroC)
            have G8 := hide HQ.out.size
            replace HQ := hide (HQ.out.alloc HQ.out.size (.cells zeroC 26))
            clear hb3
            generalize wa2.alloc (.cells zeroC 26) = wa3 at *
            refine wpAnyH_ready (rs := [6]) (by kernel_rfl) (by simp) ?_
            refine AllReadyH.cons rfl (fun K hK => ?_) AllReadyH.nil
            have z0 : wa3.cell? ⟨wd.heap.size, 0, none⟩ = some (.int .u64 0) := by have := R7.out.cell 0; simpa using this
            have f0 := R7.out.frozen 0
            have z1 : wa3.cell? ⟨wd.heap.size, 1, none⟩ = some (.slice none 0 0) := by have := R7.out.cell 1; simpa using this
            have f1 := R7.out.frozen 1
            have z2 : wa3.cell? ⟨wd.heap.size, 2, none⟩ = some (.slice none 0 0) := by have := R7.out.cell 2; simpa using this
            have f2 := R7.out.frozen 2
            have z3 : wa3.cell? ⟨wd.heap.size, 3, none⟩ = some (.slice none 0 0) := by have := R7.out.cell 3; simpa using this
            have f3 := R7.out.frozen 3
            have zl := R7.out.lt
            have HLD : Hid (LaidL wd.heap.size wa3 (limC l.cut.E A7 (cutN l) c7) ((((wa3.setCell ⟨wd.heap.size, 0, none⟩ (.int .u64 (l.cut.E : Int))).setCell ⟨wd.heap.size, 1, none⟩ (.slice (A7 0) ((cutN l) 0) (c7 0))).setCell ⟨wd.heap.size, 2, none⟩ (.slice (A7 1) ((cutN l) 1) (c7 1))).setCell ⟨wd.heap.size, 3, none⟩ (.slice (A7 2) ((cutN l) 2) (c7 2)))) := hide (laidL_of R7.out rfl)
            go_simp
            have HQ2 := hide (HQ.out.trans (HLD.out.below.mono G7.out))
            refine hK.out _ _ HQ2.out (fun _ => ?_)
            clear hK K z0 z1 z2 z3 f0 f1 f2 f3 zl
            (try simp only [Act.put, List.getElem_toArray, List.getElem_cons_succ, List.getElem_cons_zero, List.setIfInBounds_toArray, List.set_cons_zero, List.set_cons_succ])
            generalize ((((wa3.setCell ⟨wd.heap.size, 0, none⟩ (.int .u64 (l.cut.E : Int))).setCell ⟨wd.heap.size, 1, none⟩ (.slice (A7 0) ((cutN l) 0) (c7 0))).setCell ⟨wd.heap.size, 2, none⟩ (.slice (A7 1) ((cutN l) 1) (c7 1))).setCell ⟨wd.heap.size, 3, none⟩ (.slice (A7 2) ((cutN l) 2) (c7 2))) = wt7 at *
            replace D7 := hide ((D7.out.storeNe N77.out HLD.out).more HLD.out.below.size)
            replace D8 := hide ((D8.out.storeNe N87.out HLD.out).more HLD.out.below.size)
            replace R7 := hide HLD.out.row
            replace R8 := hide (show RowAt wt7 wa2.heap.size 26 zeroC from (HLD.out.block _ NE7.out).trans R8.out)
            replace HQ := HQ2
            clear HLD
            refine wpAnyH_ready (rs := [7]) (by kernel_rfl) (by simp) ?_
            refine AllReadyH.cons rfl (fun K hK => ?_) AllReadyH.nil
            have z0 : wt7.cell? ⟨wa2.heap.size, 0, none⟩ = some (.int .u64 0) := by have := R8.out.cell 0; simpa using this
            have f0 := R8.out.frozen 0
            have z1 : wt7.cell? ⟨wa2.heap.size, 1, none⟩ = some (.slice none 0 0) := by have := R8.out.cell 1; simpa using this
            have f1 := R8.out.frozen 1
            have z2 : wt7.cell? ⟨wa2.heap.size, 2, none⟩ = some (.slice none 0 0) := by have := R8.out.cell 2; simpa using this
            have f2 := R8.out.frozen 2
            have z3 : wt7.cell? ⟨wa2.heap.size, 3, none⟩ = some (.slice none 0 0) := by have := R8.out.cell 3; simpa using this
            have f3 := R8.out.frozen 3
            have zl := R8.out.lt
            have HLD : Hid (LaidL wa2.heap.size wt7 (limC l1.cut.E A8 (cutN l1) c8) ((((wt7.setCell ⟨wa2.heap.size, 0, none⟩ (.int .u64 (l1.cut.E : Int))).setCell ⟨wa2.heap.size, 1, none⟩ (.slice (A8 0) ((cutN l1) 0) (c8 0))).setCell ⟨wa2.heap.size, 2, none⟩ (.slice (A8 1) ((cutN l1) 1) (c8 1))).setCell ⟨wa2.heap.size, 3, none⟩ (.slice (A8 2) ((cutN l1) 2) (c8 2)))) := hide (laidL_of R8.out rfl)
            go_simp
            have HQ2 := hide (HQ.out.trans (HLD.out.below.mono G8.out))
            refine hK.out _ _ HQ2.out (fun _ => ?_)
            clear hK K z0 z1 z2 z3 f0 f1 f2 f3 zl
            (try simp only [Act.put, List.getElem_toArray, List.getElem_cons_succ, List.getElem_cons_zero, List.setIfInBounds_toArray, List.set_cons_zero, List.set_cons_succ])
            generalize ((((wt7.setCell ⟨wa2.heap.size, 0, none⟩ (.int .u64 (l1.cut.E : Int))).setCell ⟨wa2.heap.size, 1, none⟩ (.slice (A8 0) ((cutN l1) 0) (c8 0))).setCell ⟨wa2.heap.size, 2, none⟩ (.slice (A8 1) ((cutN l1) 1) (c8 1))).setCell ⟨wa2.heap.size, 3, none⟩ (.slice (A8 2) ((cutN l1) 2) (c8 2))) = wt8 at *
            replace D7 := hide ((D7.out.storeNe N78.out HLD.out).more HLD.out.below.size)
            replace D8 := hide ((D8.out.storeNe N88.out HLD.out).more HLD.out.below.size)
            replace R8 := hide HLD.out.row
            replace R7 := hide (show RowAt wt8 wd.heap.size 26 (limC l.cut.E A7 (cutN l) c7) from (HLD.out.block _ NE8.out).trans R7.out)
            replace HQ := HQ2
            clear HLD
            refine wpAnyH_done (by kernel_rfl) ?_ _
            go_wp2_with fail
            go_meet
            case rel => exact ⟨_, _, A7, c7, A8, c8, rfl, rfl, R7.out, R8.out, D7.out, D8.out, HQ.out⟩
        · go_simp
          refine hK2.out _ _ (HQ.out.alloc HQ.out.size _) (fun _ => ?_)
          clear hK2 K2
          (try simp only [Act.put, List.getElem_toArray, List.getElem_cons_succ, List.getElem_cons_zero, List.setIfInBounds_toArray, List.set_cons_zero, List.set_cons_succ])
          have hb2 : Below wa1.heap.size wa1 (wa1.alloc (.cells zeroC 26)) := (Below.refl _ _).alloc (Nat.le_refl _) _
          have NE7 := hide (show wa1.heap.size ≠ wd.heap.size from Nat.ne_of_gt R7.out.lt)
          have NE8 := hide (show wd.heap.size ≠ wa1.heap.size from Nat.ne_of_lt R7.out.lt)
          replace R7 := hide (R7.out.below hb2)
          have N78 := hide (fun (k : Nat) (p : Addr) (hk : k < 3) (hp : A7 k = some p) => (show p.block ≠ wa1.heap.size from Nat.ne_of_lt (U7.out k p hk hp)))
          replace D7 := hide ((D7.out.below hb2).more hb2.size)
          replace U7 := hide (fun (k : Nat) (p : Addr) (hk : k < 3) (hp : A7 k = some p) => Nat.lt_of_lt_of_le (U7.out k p hk hp) hb2.size)
          have R8 := hide (RowAt.new wa1 26 zeroC)
          have G8 := hide HQ.out.size
          replace HQ := hide (HQ.out.alloc HQ.out.size (.cells zeroC 26))
          clear hb2
          generalize wa1.alloc (.cells zeroC 26) = wa2 at *
          refine wpAnyH_ready (rs := [3]) (by kernel_rfl) (by simp) ?_
          refine (AllReadyH.cons rfl (fun K3 hK3 => ?_) AllReadyH.nil)
          · go_simp
            refine (HO2.out _ HQ.out).mono ?_
            rintro e wa3 ⟨A8, c8, rfl, hd8, hlo8, hup8, hb3⟩
            have N88 := hide (fun (k : Nat) (p : Addr) (hk : k < 3) (hp : A8 k = some p) => (show p.block ≠ wa1.heap.size by have h1 := hlo8 k p hk hp; have h2 := R8.out.lt; omega))
            have N87 := hide (fun (k : Nat) (p : Addr) (hk : k < 3) (hp : A8 k = some p) => (show p.block ≠ wd.heap.size by have h1 := hlo8 k p hk hp; have h2 := R7.out.lt; omega))
            replace R8 := hide (R8.out.below hb3)
            replace R7 := hide (R7.out.below hb3)
            replace D7 := hide ((D7.out.below hb3).more hb3.size)
            replace U7 := hide (fun (k : Nat) (p : Addr) (hk : k < 3) (hp : A7 k = some p) => Nat.lt_of_lt_of_le (U7.out k p hk hp) hb3.size)
            have D8 := hide hd8
            have U8 := hide hup8
            replace HQ := hide (HQ.out.trans (hb3.mono HQ.out.size))
            clear hb3 hd8 hlo8 hup8
            refine hK3.out _ _ (HQ.out) (fun _ => ?_)
            clear hK3 K3
            (try simp only [Act.put, List.getElem_toArray, List.getElem_cons_succ, List.getElem_cons_zero, List.setIfInBounds_toArray, List.set_cons_zero, List.set_cons_succ])
            refine wpAnyH_ready (rs := [6]) (by kernel_rfl) (by simp) ?_
            refine AllReadyH.cons rfl (fun K hK => ?_) AllReadyH.nil
            have z0 : wa3.cell? ⟨wd.heap.size, 0, none⟩ = some (.int .u64 0) := by have := R7.out.cell 0; simpa using this
            have f0 := R7.out.frozen 0
            have z1 : wa3.cell? ⟨wd.heap.size, 1, none⟩ = some (.slice none 0 0) := by have := R7.out.cell 1; simpa using this
            have f1 := R7.out.frozen 1
            have z2 : wa3.cell? ⟨wd.heap.size, 2, none⟩ = some (.slice none 0 0) := by have := R7.out.cell 2; simpa using this
            have f2 := R7.out.frozen 2
            have z3 : wa3.cell? ⟨wd.heap.size, 3, none⟩ = some (.slice none 0 0) := by have := R7.out.cell 3; simpa using this
            have f3 := R7.out.frozen 3
            have zl := R7.out.lt
            have HLD : Hid (LaidL wd.heap.size wa3 (limC l.cut.E A7 (cutN l) c7) ((((wa3.setCell ⟨wd.heap.size, 0, none⟩ (.int .u64 (l.cut.E : Int))).setCell ⟨wd.heap.size, 1, none⟩ (.slice (A7 0) ((cutN l) 0) (c7 0))).setCell ⟨wd.heap.size, 2, none⟩ (.slice (A7 1) ((cutN l) 1) (c7 1))).setCell ⟨wd.heap.size, 3, none⟩ (.slice (A7 2) ((cutN l) 2) (c7 2)))) := hide (laidL_of R7.out rfl)
            go_simp
            have HQ2 := hide (HQ.out.trans (HLD.out.below.mono G7.out))
            refine hK.out _ _ HQ2.out (fun _ => ?_)
            clear hK K z0 z1 z2 z3 f0 f1 f2 f3 zl
            (try simp only [Act.put, List.getElem_toArray, List.getElem_cons_succ, List.getElem_cons_zero, List.setIfInBounds_toArray, List.set_cons_zero, List.set_cons_succ])
            generalize ((((wa3.setCell ⟨wd.heap.size, 0, none⟩ (.int .u64 (l.cut.E : Int))).setCell ⟨wd.heap.size, 1, none⟩ (.slice (A7 0) ((cutN l) 0) (c7 0))).setCell ⟨wd.heap.size, 2, none⟩ (.slice (A7 1) ((cutN l) 1) (c7 1))).setCell ⟨wd.heap.size, 3, none⟩ (.slice (A7 2) ((cutN l) 2) (c7 2))) = wt7 at *
            replace D7 := hide ((D7.out.storeNe N77.out HLD.out).more HLD.out.below.size)
            replace D8 := hide ((D8.out.storeNe N87.out HLD.out).more HLD.out.below.size)
            replace R7 := hide HLD.out.row
            replace R8 := hide (show RowAt wt7 wa1.heap.size 26 zeroC from (HLD.out.block _ NE7.out).trans R8.out)
            replace HQ := HQ2
            clear HLD
            refine wpAnyH_ready (rs := [7]) (by kernel_rfl) (by simp) ?_
            refine AllReadyH.cons rfl (fun K hK => ?_) AllReadyH.nil
            have z0 : wt7.cell? ⟨wa1.heap.size, 0, none⟩ = some (.int .u64 0) := by have := R8.out.cell 0; simpa using this
            have f0 := R8.out.frozen 0
            have z1 : wt7.cell? ⟨wa1.heap.size, 1, none⟩ = some (.slice none 0 0) := by have := R8.out.cell 1; simpa using this
            have f1 := R8.out.frozen 1
            have z2 : wt7.cell? ⟨wa1.heap.size, 2, none⟩ = some (.slice none 0 0) := by have := R8.out.cell 2; simpa using this
            have f2 := R8.out.frozen 2
            have z3 : wt7.cell? ⟨wa1.heap.size, 3, none⟩ = some (.slice none 0 0) := by have := R8.out.cell 3; simpa using this
            have f3 := R8.out.frozen 3
            have zl := R8.out.lt
            have HLD : Hid (LaidL wa1.heap.size wt7 (limC l1.cut.E A8 (cutN l1) c8) ((((wt7.setCell ⟨wa1.heap.size, 0, none⟩ (.int .u64 (l1.cut.E : Int))).setCell ⟨wa1.heap.size, 1, none⟩ (.slice (A8 0) ((cutN l1) 0) (c8 0))).setCell ⟨wa1.heap.size, 2, none⟩ (.slice (A8 1) ((cutN l1) 1) (c8 1))).setCell ⟨wa1.heap.size, 3, none⟩ (.slice (A8 2) ((cutN l1) 2) (c8 2)))) := hide (laidL_of R8.out rfl)
            go_simp
            have HQ2 := hide (HQ.out.trans (HLD.out.below.mono G8.out))
            refine hK.out _ _ HQ2.out (fun _ => ?_)
            clear hK K z0 z1 z2 z3 f0 f1 f2 f3 zl
            (try simp only [Act.put, List.getElem_toArray, List.getElem_cons_succ, List.getElem_cons_zero, List.setIfInBounds_toArray, List.set_cons_zero, List.set_cons_succ])
            generalize ((((wt7.setCell ⟨wa1.heap.size, 0, none⟩ (.int .u64 (l1.cut.E : Int))).setCell ⟨wa1.heap.size, 1, none⟩ (.slice (A8 0) ((cutN l1) 0) (c8 0))).setCell ⟨wa1.heap.size, 2, none⟩ (.slice (A8 1) ((cutN l1) 1) (c8 1))).setCell ⟨wa1.heap.size, 3, none⟩ (.slice (A8 2) ((cutN l1) 2) (c8 2))) = wt8 at *
            replace D7 := hide ((D7.out.storeNe N78.out HLD.out).more HLD.out.below.size)
            replace D8 := hide ((D8.out.storeNe N88.out HLD.out).more HLD.out.below.size)
            replace R8 := hide HLD.out.row
            replace R7 := hide (show RowAt wt8 wd.heap.size 26 (limC l.cut.E A7 (cutN l) c7) from (HLD.out.block _ NE8.out).trans R7.out)
            replace HQ := HQ2
            clear HLD
            refine wpAnyH_done (by kernel_rfl) ?_ _
            go_wp2_with fail
            go_meet
            case rel => exact ⟨_, _, A7, c7, A8, c8, rfl, rfl, R7.out, R8.out, D7.out, D8.out, HQ.out⟩
      · go_simp
        refine hK1.out _ _ (HQ.out.alloc HQ.out.size _) (fun _ => ?_)
        clear hK1 K1
        (try simp only [Act.put, List.getElem_toArray, List.getElem_cons_succ, List.getElem_cons_zero, List.setIfInBounds_toArray, List.set_cons_zero, List.set_cons_succ])
        have hb1 : Below wa0.heap.size wa0 (wa0.alloc (.cells zeroC 26)) := (Below.refl _ _).alloc (Nat.le_refl _) _
        have NE7 := hide (show wa0.heap.size ≠ wd.heap.size from Nat.ne_of_gt R7.out.lt)
        have NE8 := hide (show wd.heap.size ≠ wa0.heap.size from Nat.ne_of_lt R7.out.lt)
        replace R7 := hide (R7.out.below hb1)
        have R8 := hide (RowAt.new wa0 26 zeroC)
        have G8 := hide HQ.out.size
        replace HQ := hide (HQ.out.alloc HQ.out.size (.cells zeroC 26))
        clear hb1
        generalize wa0.alloc (.cells zeroC 26) = wa1 at *
        refine wpAnyH_ready (rs := [1]) (by kernel_rfl) (by simp) ?_
        refine (AllReadyH.cons rfl (fun K2 hK2 => ?_) AllReadyH.nil)
        · go_simp
          refine (HO1.out _ HQ.out).mono ?_
          rintro e wa2 ⟨A7, c7, rfl, hd7, hlo7, hup7, hb2⟩
          have N78 := hide (fun (k : Nat) (p : Addr) (hk : k < 3) (hp : A7 k = some p) => (show p.block ≠ wa0.heap.size by have h1 := hlo7 k p hk hp; have h2 := R8.out.lt; omega))
          have N77 := hide (fun (k : Nat) (p : Addr) (hk : k < 3) (hp : A7 k = some p) => (show p.block ≠ wd.heap.size by have h1 := hlo7 k p hk hp; have h2 := R7.out.lt; omega))
          replace R8 := hide (R8.out.below hb2)
          replace R7 := hide (R7.out.below hb2)
          have D7 := hide hd7
          have U7 := hide hup7
          replace HQ := hide (HQ.out.trans (hb2.mono HQ.out.size))
          clear hb2 hd7 hlo7 hup7
          refine hK2.out _ _ (HQ.out) (fun _ => ?_)
          clear hK2 K2
          (try simp only [Act.put, List.getElem_toArray, List.getElem_cons_succ, List.getElem_cons_zero, List.setIfInBounds_toArray, List.set_cons_zero, List.set_cons_succ])
          refine wpAnyH_ready (rs := [3]) (by kernel_rfl) (by simp) ?_
          refine (AllReadyH.cons rfl (fun K3 hK3 => ?_) AllReadyH.nil)
          · go_simp
            refine (HO2.out _ HQ.out).mono ?_
            rintro e wa3 ⟨A8, c8, rfl, hd8, hlo8, hup8, hb3⟩
            have N88 := hide (fun (k : Nat) (p : Addr) (hk : k < 3) (hp : A8 k = some p) => (show p.block ≠ wa0.heap.size by have h1 := hlo8 k p hk hp; have h2 := R8.out.lt; omega))
            have N87 := hide (fun (k : Nat) (p : Addr) (hk : k < 3) (hp : A8 k = some p) => (show p.block ≠ wd.heap.size by have h1 := hlo8 k p hk hp; have h2 := R7.out.lt; omega))
            replace R8 := hide (R8.out.below hb3)
            replace R7 := hide (R7.out.below hb3)
            replace D7 := hide ((D7.out.below hb3).more hb3.size)
            replace U7 := hide (fun (k : Nat) (p : Addr) (hk : k < 3) (hp : A7 k = some p) => Nat.lt_of_lt_of_le (U7.out k p hk hp) hb3.size)
            have D8 := hide hd8
            have U8 := hide hup8
            replace HQ := hide (HQ.out.trans (hb3.mono HQ.out.size))
            clear hb3 hd8 hlo8 hup8
            refine hK3.out _ _ (HQ.out) (fun _ => ?_)
            clear hK3 K3
            (try simp only [Act.put, List.getElem_toArray, List.getElem_cons_succ, List.getElem_cons_zero, List.setIfInBounds_toArray, List.set_cons_zero, List.set_cons_succ])
            refine wpAnyH_ready (rs := [6]) (by kernel_rfl) (by simp) ?_
            refine AllReadyH.cons rfl (fun K hK => ?_) AllReadyH.nil
            have z0 : wa3.cell? ⟨wd.heap.size, 0, none⟩ = some (.int .u64 0) := by have := R7.out.cell 0; simpa using this
            have f0 := R7.out.frozen 0
            have z1 : wa3.cell? ⟨wd.heap.size, 1, none⟩ = some (.slice none 0 0) := by have := R7.out.cell 1; simpa using this
            have f1 := R7.out.frozen 1
            have z2 : wa3.cell? ⟨wd.heap.size, 2, none⟩ = some (.slice none 0 0) := by have := R7.out.cell 2; simpa using this
            have f2 := R7.out.frozen 2
            have z3 : wa3.cell? ⟨wd.heap.size, 3, none⟩ = some (.slice none 0 0) := by have := R7.out.cell 3; simpa using this
            have f3 := R7.out.frozen 3
            have zl := R7.out.lt
            have HLD : Hid (LaidL wd.heap.size wa3 (limC l.cut.E A7 (cutN l) c7) ((((wa3.setCell ⟨wd.heap.size, 0, none⟩ (.int .u64 (l.cut.E : Int))).setCell ⟨wd.heap.size, 1, none⟩ (.slice (A7 0) ((cutN l) 0) (c7 0))).setCell ⟨wd.heap.size, 2, none⟩ (.slice (A7 1) ((cutN l) 1) (c7 1))).setCell ⟨wd.heap.size, 3, none⟩ (.slice (A7 2) ((cutN l) 2) (c7 2)))) := hide (laidL_of R7.out rfl)
            go_simp
            have HQ2 := hide (HQ.out.trans (HLD.out.below.mono G7.out))
            refine hK.out _ _ HQ2.out (fun _ => ?_)
            clear hK K z0 z1 z2 z3 f0 f1 f2 f3 zl
            (try simp only [Act.put, List.getElem_toArray, List.getElem_cons_succ, List.getElem_cons_zero, List.setIfInBounds_toArray, List.set_cons_zero, List.set_cons_succ])
            generalize ((((wa3.setCell ⟨wd.heap.size, 0, none⟩ (.int .u64 (l.cut.E : Int))).setCell ⟨wd.heap.size, 1, none⟩ (.slice (A7 0) ((cutN l) 0) (c7 0))).setCell ⟨wd.heap.size, 2, none⟩ (.slice (A7 1) ((cutN l) 1) (c7 1))).setCell ⟨wd.heap.size, 3, none⟩ (.slice (A7 2) ((cutN l) 2) (c7 2))) = wt7 at *
            replace D7 := hide ((D7.out.storeNe N77.out HLD.out).more HLD.out.below.size)
            replace D8 := hide ((D8.out.storeNe N87.out HLD.out).more HLD.out.below.size)
            replace R7 := hide HLD.out.row
            replace R8 := hide (show RowAt wt7 wa0.heap.size 26 zeroC from (HLD.out.block _ NE7.out).trans R8.out)
            replace HQ := HQ2
            clear HLD
            refine wpAnyH_ready (rs := [7]) (by kernel_rfl) (by simp) ?_
            refine AllReadyH.cons rfl (fun K hK => ?_) AllReadyH.nil
            have z0 : wt7.cell? ⟨wa0.heap.size, 0, none⟩ = some (.int .u64 0) := by have := R8.out.cell 0; simpa using this
            have f0 := R8.out.frozen 0
            have z1 : wt7.cell? ⟨wa0.heap.size, 1, none⟩ = some (.slice none 0 0) := by have := R8.out.cell 1; simpa using this
            have f1 := R8.out.frozen 1
            have z2 : wt7.cell? ⟨wa0.heap.size, 2, none⟩ = some (.slice none 0 0) := by have := R8.out.cell 2; simpa using this
            have f2 := R8.out.frozen 2
            have z3 : wt7.cell? ⟨wa0.heap.size, 3, none⟩ = some (.slice none 0 0) := by have := R8.out.cell 3; simpa using this
            have f3 := R8.out.frozen 3
            have zl := R8.out.lt
            have HLD : Hid (LaidL wa0.heap.size wt7 (limC l1.cut.E A8 (cutN l1) c8) ((((wt7.setCell ⟨wa0.heap.size, 0, none⟩ (.int .u64 (l1.cut.E : Int))).setCell ⟨wa0.heap.size, 1, none⟩ (.slice (A8 0) ((cutN l1) 0) (c8 0))).setCell ⟨wa0.heap.size, 2, none⟩ (.slice (A8 1) ((cutN l1) 1) (c8 1))).setCell ⟨wa0.heap.size, 3, none⟩ (.slice (A8 2) ((cutN l1) 2) (c8 2)))) := hide (laidL_of R8.out rfl)
            go_simp
            have HQ2 := hide (HQ.out.trans (HLD.out.below.mono G8.out))
            refine hK.out _ _ HQ2.out (fun _ => ?_)
            clear hK K z0 z1 z2 z3 f0 f1 f2 f3 zl
            (try simp only [Act.put, List.getElem_toArray, List.getElem_cons_succ, List.getElem_cons_zero, List.setIfInBounds_toArray, List.set_cons_zero, List.set_cons_succ])
            generalize ((((wt7.setCell ⟨wa0.heap.size, 0, none⟩ (.int .u64 (l1.cut.E : Int))).setCell ⟨wa0.heap.size, 1, none⟩ (.slice (A8 0) ((cutN l1) 0) (c8 0))).setCell ⟨wa0.heap.size, 2, none⟩ (.slice (A8 1) ((cutN l1) 1) (c8 1))).setCell ⟨wa0.heap.size, 3, none⟩ (.slice (A8 2) ((cutN l1) 2) (c8 2))) = wt8 at *
            replace D7 := hide ((D7.out.storeNe N78.out HLD.out).more HLD.out.below.size)
            replace D8 := hide ((D8.out.storeNe N88.out HLD.out).more HLD.out.below.size)
            replace R8 := hide HLD.out.row
            replace R7 := hide (show RowAt wt8 wd.heap.size 26 (limC l.cut.E A7 (cutN l) c7) from (HLD.out.block _ NE8.out).trans R7.out)
            replace HQ := HQ2
            clear HLD
            refine wpAnyH_done (by kernel_rfl) ?_ _
            go_wp2_with fail
            go_meet
            case rel => exact ⟨_, _, A7, c7, A8, c8, rfl, rfl, R7.out, R8.out, D7.out, D8.out, HQ.out⟩
    · go_simp
      refine hK0.out _ _ (HQ.out.alloc HQ.out.size _) (fun _ => ?_)
      clear hK0 K0
      (try simp only [Act.put, List.getElem_toArray, List.getElem_cons_succ, List.getElem_cons_zero, List.setIfInBounds_toArray, List.set_cons_zero, List.set_cons_succ])
      have hb0 : Below wd.heap.size wd (wd.alloc (.cells zeroC 26)) := (Below.refl _ _).alloc (Nat.le_refl _) _
      have R8 := hide (RowAt.new wd 26 zeroC)
      have G8 := hide HQ.out.size
      replace HQ := hide (HQ.out.alloc HQ.out.size (.cells zeroC 26))
      clear hb0
      generalize wd.alloc (.cells zeroC 26) = wa0 at *
      refine wpAnyH_ready (rs := [1, 4]) (by kernel_rfl) (by simp) ?_
      refine (AllReadyH.cons rfl (fun K1 hK1 => ?_) (AllReadyH.cons rfl (fun K1 hK1 => ?_) AllReadyH.nil))
      · go_simp
        refine (HO1.out _ HQ.out).mono ?_
        rintro e wa1 ⟨A7, c7, rfl, hd7, hlo7, hup7, hb1⟩
        have N78 := hide (fun (k : Nat) (p : Addr) (hk : k < 3) (hp : A7 k = some p) => (show p.block ≠ wd.heap.size by have h1 := hlo7 k p hk hp; have h2 := R8.out.lt; omega))
        replace R8 := hide (R8.out.below hb1)
        have D7 := hide hd7
        have U7 := hide hup7
        replace HQ := hide (HQ.out.trans (hb1.mono HQ.out.size))
        clear hb1 hd7 hlo7 hup7
        refine hK1.out _ _ (HQ.out) (fun _ => ?_)
        clear hK1 K1
        (try simp only [Act.put, List.getElem_toArray, List.getElem_cons_succ, List.getElem_cons_zero, List.setIfInBounds_toArray, List.set_cons_zero, List.set_cons_succ])
        refine wpAnyH_ready (rs := [3, 4]) (by kernel_rfl) (by simp) ?_
        refine (AllReadyH.cons rfl (fun K2 hK2 => ?_) (AllReadyH.cons rfl (fun K2 hK2 => ?_) AllReadyH.nil))
        · go_simp
          refine (HO2.out _ HQ.out).mono ?_
          rintro e wa2 ⟨A8, c8, rfl, hd8, hlo8, hup8, hb2⟩
          have N88 := hide (fun (k : Nat) (p : Addr) (hk : k < 3) (hp : A8 k = some p) => (show p.block ≠ wd.heap.size by have h1 := hlo8 k p hk hp; have h2 := R8.out.lt; omega))
          replace R8 := hide (R8.out.below hb2)
          replace D7 := hide ((D7.out.below hb2).more hb2.size)
          replace U7 := hide (fun (k : Nat) (p : Addr) (hk : k < 3) (hp : A7 k = some p) => Nat.lt_of_lt_of_le (U7.out k p hk hp) hb2.size)
          have D8 := hide hd8
          have U8 := hide hup8
          replace HQ := hide (HQ.out.trans (hb2.mono HQ.out.size))
          clear hb2 hd8 hlo8 hup8
          refine hK2.out _ _ (HQ.out) (fun _ => ?_)
          clear hK2 K2
          (try simp only [Act.put, List.getElem_toArray, List.getElem_cons_succ, List.getElem_cons_zero, List.setIfInBounds_toArray, List.set_cons_zero, List.set_cons_succ])
          refine wpAnyH_ready (rs := [4]) (by kernel_rfl) (by simp) ?_
          refine (AllReadyH.cons rfl (fun K3 hK3 => ?_) AllReadyH.nil)
          · go_simp
            refine hK3.out _ _ (HQ.out.alloc HQ.out.size _) (fun _ => ?_)
            clear hK3 K3
            (try simp only [Act.put, List.getElem_toArray, List.getElem_cons_succ, List.getElem_cons_zero, List.setIfInBounds_toArray, List.set_cons_zero, List.set_cons_succ])
            have hb3 : Below wa2.heap.size wa2 (wa2.alloc (.cells zeroC 26)) := (Below.refl _ _).alloc (Nat.le_refl _) _
            have NE8 := hide (show wa2.heap.size ≠ wd.heap.size from Nat.ne_of_gt R8.out.lt)
            have NE7 := hide (show wd.heap.size ≠ wa2.heap.size from Nat.ne_of_lt R8.out.lt)
            replace R8 := hide (R8.out.below hb3)
            have N77 := hide (fun (k : Nat) (p : Addr) (hk : k < 3) (hp : A7 k = some p) => (show p.block ≠ wa2.heap.size from Nat.ne_of_lt (U7.out k p hk hp)))
            replace D7 := hide ((D7.out.below hb3).more hb3.size)
            replace U7 := hide (fun (k : Nat) (p : Addr) (hk : k < 3) (hp : A7 k = some p) => Nat.lt_of_lt_of_le (U7.out k p hk hp) hb3.size)
            have N87 := hide (fun (k : Nat) (p : Addr) (hk : k < 3) (hp : A8 k = some p) => (show p.block ≠ wa2.heap.size from Nat.ne_of_lt (U8.out k p hk hp)))
            replace D8 := hide ((D8.out.below hb3).more hb3.size)
            replace U8 := hide (fun (k : Nat) (p : Addr) (hk : k < 3) (hp : A8 k = some p) => Nat.lt_of_lt_of_le (U8.out k p hk hp) hb3.size)
            have R7 := hide (RowAt.new wa2 26 zeroC)
            have G7 := hide HQ.out.size
            replace HQ := hide (HQ.out.alloc HQ.out.size (.cells zeroC 26))
            clear hb3
            generalize wa2.alloc (.cells zeroC 26) = wa3 at *
            refine wpAnyH_ready (rs := [6]) (by kernel_rfl) (by simp) ?_
            refine AllReadyH.cons rfl (fun K hK => ?_) AllReadyH.nil
            have z0 : wa3.cell? ⟨wa2.heap.size, 0, none⟩ = some (.int .u64 0) := by have := R7.out.cell 0; simpa using this
            have f0 := R7.out.frozen 0
            have z1 : wa3.cell? ⟨wa2.heap.size, 1, none⟩ = some (.slice none 0 0) := by have := R7.out.cell 1; simpa using this
            have f1 := R7.out.frozen 1
            have z2 : wa3.cell? ⟨wa2.heap.size, 2, none⟩ = some (.slice none 0 0) := by have := R7.out.cell 2; simpa using this
            have f2 := R7.out.frozen 2
            have z3 : wa3.cell? ⟨wa2.heap.size, 3, none⟩ = some (.slice none 0 0) := by have := R7.out.cell 3; simpa using this
            have f3 := R7.out.frozen 3
            have zl := R7.out.lt
            have HLD : Hid (LaidL wa2.heap.size wa3 (limC l.cut.E A7 (cutN l) c7) ((((wa3.setCell ⟨wa2.heap.size, 0, none⟩ (.int .u64 (l.cut.E : Int))).setCell ⟨wa2.heap.size, 1, none⟩ (.slice (A7 0) ((cutN l) 0) (c7 0))).setCell ⟨wa2.heap.size, 2, none⟩ (.slice (A7 1) ((cutN l) 1) (c7 1))).setCell ⟨wa2.heap.size, 3, none⟩ (.slice (A7 2) ((cutN l) 2) (c7 2)))) := hide (laidL_of R7.out rfl)
            go_simp
            have HQ2 := hide (HQ.out.trans (HLD.out.below.mono G7.out))
            refine hK.out _ _ HQ2.out (fun _ => ?_)
            clear hK K z0 z1 z2 z3 f0 f1 f2 f3 zl
            (try simp only [Act.put, List.getElem_toArray, List.getElem_cons_succ, List.getElem_cons_zero, List.setIfInBounds_toArray, List.set_cons_zero, List.set_cons_succ])
            generalize ((((wa3.setCell ⟨wa2.heap.size, 0, none⟩ (.int .u64 (l.cut.E : Int))).setCell ⟨wa2.heap.size, 1, none⟩ (.slice (A7 0) ((cutN l) 0) (c7 0))).setCell ⟨wa2.heap.size, 2, none⟩ (.slice (A7 1) ((cutN l) 1) (c7 1))).setCell ⟨wa2.heap.size, 3, none⟩ (.slice (A7 2) ((cutN l) 2) (c7 2))) = wt7 at *
            replace D7 := hide ((D7.out.storeNe N77.out HLD.out).more HLD.out.below.size)
            replace D8 := hide ((D8.out.storeNe N87.out HLD.out).more HLD.out.below.size)
            replace R7 := hide HLD.out.row
            replace R8 := hide (show RowAt wt7 wd.heap.size 26 zeroC from (HLD.out.block _ NE7.out).trans R8.out)
            replace HQ := HQ2
            clear HLD
            refine wpAnyH_ready (rs := [7]) (by kernel_rfl) (by simp) ?_
            refine AllReadyH.cons rfl (fun K hK => ?_) AllReadyH.nil
            have z0 : wt7.cell? ⟨wd.heap.size, 0, none⟩ = some (.int .u64 0) := by have := R8.out.cell 0; simpa using this
            have f0 := R8.out.frozen 0
            have z1 : wt7.cell? ⟨wd.heap.size, 1, none⟩ = some (.slice none 0 0) := by have := R8.out.cell 1; simpa using this
            have f1 := R8.out.frozen 1
            have z2 : wt7.cell? ⟨wd.heap.size, 2, none⟩ = some (.slice none 0 0) := by have := R8.out.cell 2; simpa using this
            have f2 := R8.out.frozen 2
            have z3 : wt7.cell? ⟨wd.heap.size, 3, none⟩ = some (.slice none 0 0) := by have := R8.out.cell 3; simpa using this
            have f3 := R8.out.frozen 3
            have zl := R8.out.lt
            have HLD : Hid (LaidL wd.heap.size wt7 (limC l1.cut.E A8 (cutN l1) c8) ((((wt7.setCell ⟨wd.heap.size, 0, none⟩ (.int .u64 (l1.cut.E : Int))).setCell ⟨wd.heap.size, 1, none⟩ (.slice (A8 0) ((cutN l1) 0) (c8 0))).setCell ⟨wd.heap.size, 2, none⟩ (.slice (A8 1) ((cutN l1) 1) (c8 1))).setCell ⟨wd.heap.size, 3, none⟩ (.slice (A8 2) ((cutN l1) 2) (c8 2)))) := hide (laidL_of R8.out rfl)
            go_simp
            have HQ2 := hide (HQ.out.trans (HLD.out.below.mono G8.out))
            refine hK.out _ _ HQ2.out (fun _ => ?_)
            clear hK K z0 z1 z2 z3 f0 f1 f2 f3 zl
            (try simp only [Act.put, List.getElem_toArray, List.getElem_cons_succ, List.getElem_cons_zero, List.setIfInBounds_toArray, List.set_cons_zero, List.set_cons_succ])
            generalize ((((wt7.setCell ⟨wd.heap.size, 0, none⟩ (.int .u64 (l1.cut.E : Int))).setCell ⟨wd.heap.size, 1, none⟩ (.slice (A8 0) ((cutN l1) 0) (c8 0))).setCell ⟨wd.heap.size, 2, none⟩ (.slice (A8 1) ((cutN l1) 1) (c8 1))).setCell ⟨wd.heap.size, 3, none⟩ (.slice (A8 2) ((cutN l1) 2) (c8 2))) = wt8 at *
            replace D7 := hide ((D7.out.storeNe N78.out HLD.out).more HLD.out.below.size)
            replace D8 := hide ((D8.out.storeNe N88.out HLD.out).more HLD.out.below.size)
            replace R8 := hide HLD.out.row
            replace R7 := hide (show RowAt wt8 wa2.heap.size 26 (limC l.cut.E A7 (cutN l) c7) from (HLD.out.block _ NE8.out).trans R7.out)
            replace HQ := HQ2
            clear HLD
            refine wpAnyH_done (by kernel_rfl) ?_ _
            go_wp2_with fail
            go_meet
            case rel => exact ⟨_, _, A7, c7, A8, c8, rfl, rfl, R7.out, R8.out, D7.out, D8.out, HQ.out⟩
        · go_simp
          refine hK2.out _ _ (HQ.out.alloc HQ.out.size _) (fun _ => ?_)
          clear hK2 K2
          (try simp only [Act.put, List.getElem_toArray, List.getElem_cons_succ, List.getElem_cons_zero, List.setIfInBounds_toArray, List.set_cons_zero, List.set_cons_succ])
          have hb2 : Below wa1.heap.size wa1 (wa1.alloc (.cells zeroC 26)) := (Below.refl _ _).alloc (Nat.le_refl _) _
          have NE8 := hide (show wa1.heap.size ≠ wd.heap.size from Nat.ne_of_gt R8.out.lt)
          have NE7 := hide (show wd.heap.size ≠ wa1.heap.size from Nat.ne_of_lt R8.out.lt)
          replace R8 := hide (R8.out.below hb2)
          have N77 := hide (fun (k : Nat) (p : Addr) (hk : k < 3) (hp : A7 k = some p) => (show p.block ≠ wa1.heap.size from Nat.ne_of_lt (U7.out k p hk hp)))
          replace D7 := hide ((D7.out.below hb2).more hb2.size)
          replace U7 := hide (fun (k : Nat) (p : Addr) (hk : k < 3) (hp : A7 k = some p) => Nat.lt_of_lt_of_le (U7.out k p hk hp) hb2.size)
          have R7 := hide (RowAt.new wa1 26 zeroC)
          have G7 := hide HQ.out.size
          replace HQ := hide (HQ.out.alloc HQ.out.size (.cells zeroC 26))
          clear hb2
          generalize wa1.alloc (.cells zeroC 26) = wa2 at *
          refine wpAnyH_ready (rs := [3]) (by kernel_rfl) (by simp) ?_
          refine (AllReadyH.cons rfl (fun K3 hK3 => ?_) AllReadyH.nil)
          · go_simp
            refine (HO2.out _ HQ.out).mono ?_
            rintro e wa3 ⟨A8, c8, rfl, hd8, hlo8, hup8, hb3⟩
            have N88 := hide (fun (k : Nat) (p : Addr) (hk : k < 3) (hp : A8 k = some p) => (show p.block ≠ wd.heap.size by have h1 := hlo8 k p hk hp; have h2 := R8.out.lt; omega))
            have N87 := hide (fun (k : Nat) (p : Addr) (hk : k < 3) (hp : A8 k = some p) => (show p.block ≠ wa1.heap.size by have h1 := hlo8 k p hk hp; have h2 := R7.out.lt; omega))
            replace R8 := hide (R8.out.below hb3)
            replace R7 := hide (R7.out.below hb3)
            replace D7 := hide ((D7.out.below hb3).more hb3.size)
            replace U7 := hide (fun (k : Nat) (p : Addr) (hk : k < 3) (hp : A7 k = some p) => Nat.lt_of_lt_of_le (U7.out k p hk hp) hb3.size)
            have D8 := hide hd8
            have U8 := hide hup8
            replace HQ := hide (HQ.out.trans (hb3.mono HQ.out.size))
            clear hb3 hd8 hlo8 hup8
            refine hK3.out _ _ (HQ.out) (fun _ => ?_)
            clear hK3 K3
            (try simp only [Act.put, List.getElem_toArray, List.getElem_cons_succ, List.getElem_cons_zero, List.setIfInBounds_toArray, List.set_cons_zero, List.set_cons_succ])
            refine wpAnyH_ready (rs := [6]) (by kernel_rfl) (by simp) ?_
            refine AllReadyH.cons rfl (fun K hK => ?_) AllReadyH.nil
            have z0 : wa3.cell? ⟨wa1.heap.size, 0, none⟩ = some (.int .u64 0) := by have := R7.out.cell 0; simpa using this
            have f0 := R7.out.frozen 0
            have z1 : wa3.cell? ⟨wa1.heap.size, 1, none⟩ = some (.slice none 0 0) := by have := R7.out.cell 1; simpa using this
            have f1 := R7.out.frozen 1
            have z2 : wa3.cell? ⟨wa1.heap.size, 2, none⟩ = some (.slice none 0 0) := by have := R7.out.cell 2; simpa using this
            have f2 := R7.out.frozen 2
            have z3 : wa3.cell? ⟨wa1.heap.size, 3, none⟩ = some (.slice none 0 0) := by have := R7.out.cell 3; simpa using this
            have f3 := R7.out.frozen 3
            have zl := R7.out.lt
            have HLD : Hid (LaidL wa1.heap.size wa3 (limC l.cut.E A7 (cutN l) c7) ((((wa3.setCell ⟨wa1.heap.size, 0, none⟩ (.int .u64 (l.cut.E : Int))).setCell ⟨wa1.heap.size, 1, none⟩ (.slice (A7 0) ((cutN l) 0) (c7 0))).setCell ⟨wa1.heap.size, 2, none⟩ (.slice (A7 1) ((cutN l) 1) (c7 1))).setCell ⟨wa1.heap.size, 3, none⟩ (.slice (A7 2) ((cutN l) 2) (c7 2)))) := hide (laidL_of R7.out rfl)
            go_simp
            have HQ2 := hide (HQ.out.trans (HLD.out.below.mono G7.out))
            refine hK.out _ _ HQ2.out (fun _ => ?_)
            clear hK K z0 z1 z2 z3 f0 f1 f2 f3 zl
            (try simp only [Act.put, List.getElem_toArray, List.getElem_cons_succ, List.getElem_cons_zero, List.setIfInBounds_toArray, List.set_cons_zero, List.set_cons_succ])
            generalize ((((wa3.setCell ⟨wa1.heap.size, 0, none⟩ (.int .u64 (l.cut.E : Int))).setCell ⟨wa1.heap.size, 1, none⟩ (.slice (A7 0) ((cutN l) 0) (c7 0))).setCell ⟨wa1.heap.size, 2, none⟩ (.slice (A7 1) ((cutN l) 1) (c7 1))).setCell ⟨wa1.heap.size, 3, none⟩ (.slice (A7 2) ((cutN l) 2) (c7 2))) = wt7 at *
            replace D7 := hide ((D7.out.storeNe N77.out HLD.out).more HLD.out.below.size)
            replace D8 := hide ((D8.out.storeNe N87.out HLD.out).more HLD.out.below.size)
            replace R7 := hide HLD.out.row
            replace R8 := hide (show RowAt wt7 wd.heap.size 26 zeroC from (HLD.out.block _ NE7.out).trans R8.out)
            replace HQ := HQ2
            clear HLD
            refine wpAnyH_ready (rs := [7]) (by kernel_rfl) (by simp) ?_
            refine AllReadyH.cons rfl (fun K hK => ?_) AllReadyH.nil
            have z0 : wt7.cell? ⟨wd.heap.size, 0, none⟩ = some (.int .u64 0) := by have := R8.out.cell 0; simpa using this
            have f0 := R8.out.frozen 0
            have z1 : wt7.cell? ⟨wd.heap.size, 1, none⟩ = some (.slice none 0 0) := by have := R8.out.cell 1; simpa using this
            have f1 := R8.out.frozen 1
            have z2 : wt7.cell? ⟨wd.heap.size, 2, none⟩ = some (.slice none 0 0) := by have := R8.out.cell 2; simpa using this
            have f2 := R8.out.frozen 2
            have z3 : wt7.cell? ⟨wd.heap.size, 3, none⟩ = some (.slice none 0 0) := by have := R8.out.cell 3; simpa using this
            have f3 := R8.out.frozen 3
            have zl := R8.out.lt
            have HLD : Hid (LaidL wd.heap.size wt7 (limC l1.cut.E A8 (cutN l1) c8) ((((wt7.setCell ⟨wd.heap.size, 0, none⟩ (.int .u64 (l1.cut.E : Int))).setCell ⟨wd.heap.size, 1, none⟩ (.slice (A8 0) ((cutN l1) 0) (c8 0))).setCell ⟨wd.heap.size, 2, none⟩ (.slice (A8 1) ((cutN l1) 1) (c8 1))).setCell ⟨wd.heap.size, 3, none⟩ (.slice (A8 2) ((cutN l1) 2) (c8 2)))) := hide (laidL_of R8.out rfl)
            go_simp
            have HQ2 := hide (HQ.out.trans (HLD.out.below.mono G8.out))
            refine hK.out _ _ HQ2.out (fun _ => ?_)
            clear hK K z0 z1 z2 z3 f0 f1 f2 f3 zl
            (try simp only [Act.put, List.getElem_toArray, List.getElem_cons_succ, List.getElem_cons_zero, List.setIfInBounds_toArray, List.set_cons_zero, List.set_cons_succ])
            generalize ((((wt7.setCell ⟨wd.heap.size, 0, none⟩ (.int .u64 (l1.cut.E : Int))).setCell ⟨wd.heap.size, 1, none⟩ (.slice (A8 0) ((cutN l1) 0) (c8 0))).setCell ⟨wd.heap.size, 2, none⟩ (.slice (A8 1) ((cutN l1) 1) (c8 1))).setCell ⟨wd.heap.size, 3, none⟩ (.slice (A8 2) ((cutN l1) 2) (c8 2))) = wt8 at *
            replace D7 := hide ((D7.out.storeNe N78.out HLD.out).more HLD.out.below.size)
            replace D8 := hide ((D8.out.storeNe N88.out HLD.out).more HLD.out.below.size)
            replace R8 := hide HLD.out.row
            replace R7 := hide (show RowAt wt8 wa1.heap.size 26 (limC l.cut.E A7 (cutN l) c7) from (HLD.out.block _ NE8.out).trans R7.out)
            replace HQ := HQ2
            clear HLD
            refine wpAnyH_done (by kernel_rfl) ?_ _
            go_wp2_with fail
            go_meet
            case rel => exact ⟨_, _, A7, c7, A8, c8, rfl, rfl, R7.out, R8.out, D7.out, D8.out, HQ.out⟩
      · go_simp
        refine hK1.out _ _ (HQ.out.alloc HQ.out.size _) (fun _ => ?_)
        clear hK1 K1
        (try simp only [Act.put, List.getElem_toArray, List.getElem_cons_succ, List.getElem_cons_zero, List.setIfInBounds_toArray, List.set_cons_zero, List.set_cons_succ])
        have hb1 : Below wa0.heap.size wa0 (wa0.alloc (.cells zeroC 26)) := (Below.refl _ _).alloc (Nat.le_refl _) _
        have NE8 := hide (show wa0.heap.size ≠ wd.heap.size from Nat.ne_of_gt R8.out.lt)
        have NE7 := hide (show wd.heap.size ≠ wa0.heap.size from Nat.ne_of_lt R8.out.lt)
        replace R8 := hide (R8.out.below hb1)
        have R7 := hide (RowAt.new wa0 26 zeroC)
        have G7 := hide HQ.out.size
        replace HQ := hide (HQ.out.alloc HQ.out.size (.cells zeroC 26))
        clear hb1
        generalize wa0.alloc (.cells zeroC 26) = wa1 at *
        refine wpAnyH_ready (rs := [1]) (by kernel_rfl) (by simp) ?_
        refine (AllReadyH.cons rfl (fun K2 hK2 => ?_) AllReadyH.nil)
        · go_simp
          refine (HO1.out _ HQ.out).mono ?_
          rintro e wa2 ⟨A7, c7, rfl, hd7, hlo7, hup7, hb2⟩
          have N78 := hide (fun (k : Nat) (p : Addr) (hk : k < 3) (hp : A7 k = some p) => (show p.block ≠ wd.heap.size by have h1 := hlo7 k p hk hp; have h2 := R8.out.lt; omega))
          have N77 := hide (fun (k : Nat) (p : Addr) (hk : k < 3) (hp : A7 k = some p) => (show p.block ≠ wa0.heap.size by have h1 := hlo7 k p hk hp; have h2 := R7.out.lt; omega))
          replace R8 := hide (R8.out.below hb2)
          replace R7 := hide (R7.out.below hb2)
          have D7 := hide hd7
          have U7 := hide hup7
          replace HQ := hide (HQ.out.trans (hb2.mono HQ.out.size))
          clear hb2 hd7 hlo7 hup7
          refine hK2.out _ _ (HQ.out) (fun _ => ?_)
          clear hK2 K2
          (try simp only [Act.put, List.getElem_toArray, List.getElem_cons_succ, List.getElem_cons_zero, List.setIfInBounds_toArray, List.set_cons_zero, List.set_cons_succ])
          refine wpAnyH_ready (rs := [3]) (by kernel_rfl) (by simp) ?_
          refine (AllReadyH.cons rfl (fun K3 hK3 => ?_) AllReadyH.nil)
          · go_simp
            refine (HO2.out _ HQ.out).mono ?_
            rintro e wa3 ⟨A8, c8, rfl, hd8, hlo8, hup8, hb3⟩
            have N88 := hide (fun (k : Nat) (p : Addr) (hk : k < 3) (hp : A8 k = some p) => (show p.block ≠ wd.heap.size by have h1 := hlo8 k p hk hp; have h2 := R8.out.lt; omega))
            have N87 := hide (fun (k : Nat) (p : Addr) (hk : k < 3) (hp : A8 k = some p) => (show p.block ≠ wa0.heap.size by have h1 := hlo8 k p hk hp; have h2 := R7.out.lt; omega))
            replace R8 := hide (R8.out.below hb3)
            replace R7 := hide (R7.out.below hb3)
            replace D7 := hide ((D7.out.below hb3).more hb3.size)
            replace U7 := hide (fun (k : Nat) (p : Addr) (hk : k < 3) (hp : A7 k = some p) => Nat.lt_of_lt_of_le (U7.out k p hk hp) hb3.size)
            have D8 := hide hd8
            have U8 := hide hup8
            replace HQ := hide (HQ.out.trans (hb3.mono HQ.out.size))
            clear hb3 hd8 hlo8 hup8
            refine hK3.out _ _ (HQ.out) (fun _ => ?_)
            clear hK3 K3
            (try simp only [Act.put, List.getElem_toArray, List.getElem_cons_succ, List.getElem_cons_zero, List.setIfInBounds_toArray, List.set_cons_zero, List.set_cons_succ])
            refine wpAnyH_ready (rs := [6]) (by kernel_rfl) (by simp) ?_
            refine AllReadyH.cons rfl (fun K hK => ?_) AllReadyH.nil
            have z0 : wa3.cell? ⟨wa0.heap.size, 0, none⟩ = some (.int .u64 0) := by have := R7.out.cell 0; simpa using this
            have f0 := R7.out.frozen 0
            have z1 : wa3.cell? ⟨wa0.heap.size, 1, none⟩ = some (.slice none 0 0) := by have := R7.out.cell 1; simpa using this
            have f1 := R7.out.frozen 1
            have z2 : wa3.cell? ⟨wa0.heap.size, 2, none⟩ = some (.slice none 0 0) := by have := R7.out.cell 2; simpa using this
            have f2 := R7.out.frozen 2
            have z3 : wa3.cell? ⟨wa0.heap.size, 3, none⟩ = some (.slice none 0 0) := by have := R7.out.cell 3; simpa using this
            have f3 := R7.out.frozen 3
            have zl := R7.out.lt
            have HLD : Hid (LaidL wa0.heap.size wa3 (limC l.cut.E A7 (cutN l) c7) ((((wa3.setCell ⟨wa0.heap.size, 0, none⟩ (.int .u64 (l.cut.E : Int))).setCell ⟨wa0.heap.size, 1, none⟩ (.slice (A7 0) ((cutN l) 0) (c7 0))).setCell ⟨wa0.heap.size, 2, none⟩ (.slice (A7 1) ((cutN l) 1) (c7 1))).setCell ⟨wa0.heap.size, 3, none⟩ (.slice (A7 2) ((cutN l) 2) (c7 2)))) := hide (laidL_of R7.out rfl)
            go_simp
            have HQ2 := hide (HQ.out.trans (HLD.out.below.mono G7.out))
            refine hK.out _ _ HQ2.out (fun _ => ?_)
            clear hK K z0 z1 z2 z3 f0 f1 f2 f3 zl
            (try simp only [Act.put, List.getElem_toArray, List.getElem_cons_succ, List.getElem_cons_zero, List.setIfInBounds_toArray, List.set_cons_zero, List.set_cons_succ])
            generalize ((((wa3.setCell ⟨wa0.heap.size, 0, none⟩ (.int .u64 (l.cut.E : Int))).setCell ⟨wa0.heap.size, 1, none⟩ (.slice (A7 0) ((cutN l) 0) (c7 0))).setCell ⟨wa0.heap.size, 2, none⟩ (.slice (A7 1) ((cutN l) 1) (c7 1))).setCell ⟨wa0.heap.size, 3, none⟩ (.slice (A7 2) ((cutN l) 2) (c7 2))) = wt7 at *
            replace D7 := hide ((D7.out.storeNe N77.out HLD.out).more HLD.out.below.size)
            replace D8 := hide ((D8.out.storeNe N87.out HLD.out).more HLD.out.below.size)
            replace R7 := hide HLD.out.row
            replace R8 := hide (show RowAt wt7 wd.heap.size 26 zeroC from (HLD.out.block _ NE7.out).trans R8.out)
            replace HQ := HQ2
            clear HLD
            refine wpAnyH_ready (rs := [7]) (by kernel_rfl) (by simp) ?_
            refine AllReadyH.cons rfl (fun K hK => ?_) AllReadyH.nil
            have z0 : wt7.cell? ⟨wd.heap.size, 0, none⟩ = some (.int .u64 0) := by have := R8.out.cell 0; simpa using this
            have f0 := R8.out.frozen 0
            have z1 : wt7.cell? ⟨wd.heap.size, 1, none⟩ = some (.slice none 0 0) := by have := R8.out.cell 1; simpa using this
            have f1 := R8.out.frozen 1
            have z2 : wt7.cell? ⟨wd.heap.size, 2, none⟩ = some (.slice none 0 0) := by have := R8.out.cell 2; simpa using this
            have f2 := R8.out.frozen 2
            have z3 : wt7.cell? ⟨wd.heap.size, 3, none⟩ = some (.slice none 0 0) := by have := R8.out.cell 3; simpa using this
            have f3 := R8.out.frozen 3
            have zl := R8.out.lt
            have HLD : Hid (LaidL wd.heap.size wt7 (limC l1.cut.E A8 (cutN l1) c8) ((((wt7.setCell ⟨wd.heap.size, 0, none⟩ (.int .u64 (l1.cut.E : Int))).setCell ⟨wd.heap.size, 1, none⟩ (.slice (A8 0) ((cutN l1) 0) (c8 0))).setCell ⟨wd.heap.size, 2, none⟩ (.slice (A8 1) ((cutN l1) 1) (c8 1))).setCell ⟨wd.heap.size, 3, none⟩ (.slice (A8 2) ((cutN l1) 2) (c8 2)))) := hide (laidL_of R8.out rfl)
            go_simp
            have HQ2 := hide (HQ.out.trans (HLD.out.below.mono G8.out))
            refine hK.out _ _ HQ2.out (fun _ => ?_)
            clear hK K z0 z1 z2 z3 f0 f1 f2 f3 zl
            (try simp only [Act.put, List.getElem_toArray, List.getElem_cons_succ, List.getElem_cons_zero, List.setIfInBounds_toArray, List.set_cons_zero, List.set_cons_succ])
            generalize ((((wt7.setCell ⟨wd.heap.size, 0, none⟩ (.int .u64 (l1.cut.E : Int))).setCell ⟨wd.heap.size, 1, none⟩ (.slice (A8 0) ((cutN l1) 0) (c8 0))).setCell ⟨wd.heap.size, 2, none⟩ (.slice (A8 1) ((cutN l1) 1) (c8 1))).setCell ⟨wd.heap.size, 3, none⟩ (.slice (A8 2) ((cutN l1) 2) (c8 2))) = wt8 at *
            replace D7 := hide ((D7.out.storeNe N78.out HLD.out).more HLD.out.below.size)
            replace D8 := hide ((D8.out.storeNe N88.out HLD.out).more HLD.out.below.size)
            replace R8 := hide HLD.out.row
            replace R7 := hide (show RowAt wt8 wa0.heap.size 26 (limC l.cut.E A7 (cutN l) c7) from (HLD.out.block _ NE8.out).trans R7.out)
            replace HQ := HQ2
            clear HLD
            refine wpAnyH_done (by kernel_rfl) ?_ _
            go_wp2_with fail
            go_meet
            case rel => exact ⟨_, _, A7, c7, A8, c8, rfl, rfl, R7.out, R8.out, D7.out, D8.out, HQ.out⟩
  case rest =>
    rename_i K hK
    refine hK _ _ ?_
    clear hK K
    obtain ⟨w2, hw2⟩ : ∃ w, w = wc := ⟨_, rfl⟩
    subst hw2
    obtain ⟨g7, g8, A7, c7, A8, c8, rfl, rfl, hr7, hr8, hd7, hd8, hb⟩ := hcut
    clear x0 x1 x2 x3 y0 y1 y2 y3 xl yl HO1 HO2
    have HT : Hid (TlAt W w2 g7 g8 l l1 A n c A7 c7 A8 c8) := hide ⟨RX.out.below hb, H.out.below (HB1.out.trans (hb.mono HB1.out.size)), hr7, hr8, hd7, hd8, HB1.out.trans (hb.mono HB1.out.size)⟩
    clear hr7 hr8 hd7 hd8 hb RX RY H H1 HCC1
    obtain ⟨q6, hq6⟩ : ∃ q, sameB l.cut l1.cut = q := ⟨_, rfl⟩
    have HQ6 := hide hq6
    clear hq6
    cases hok : l.cut.ok with
    | false =>
      have HOK := hide hok
      clear hok
      have q0 : w2.cell? ⟨g7, 0, none⟩ = some (.int .u64 (l.cut.E : Int)) := by have := RowAt.cell HT.out.r7 0; simpa [limC] using this
      have q1 : w2.cell? ⟨g7, 1, none⟩ = some (.slice (A7 0) ((cutN l) 0) (c7 0)) := by have := RowAt.cell HT.out.r7 1; simpa [limC] using this
      have q2 : w2.cell? ⟨g7, 2, none⟩ = some (.slice (A7 1) ((cutN l) 1) (c7 1)) := by have := RowAt.cell HT.out.r7 2; simpa [limC] using this
      have q3 : w2.cell? ⟨g7, 3, none⟩ = some (.slice (A7 2) ((cutN l) 2) (c7 2)) := by have := RowAt.cell HT.out.r7 3; simpa [limC] using this
      have ql := HT.out.r7.lt
      have HC := hide (right_any A7 (cutN l) c7 l.cut w2 HT.out.d7 HEQ.out (cut_len l) false HOK.out)
      go_wp2_with fail
      with_reducible refine HC.out.mono ?_
      rintro e w3 ⟨rfl, hb⟩
      replace HT := hide (HT.out.later hb)
      clear q0 q1 q2 q3 ql HC hb
      have q0 : w3.cell? ⟨g7, 0, none⟩ = some (.int .u64 (l.cut.E : Int)) := by have := RowAt.cell HT.out.r7 0; simpa [limC] using this
      have q1 : w3.cell? ⟨g7, 1, none⟩ = some (.slice (A7 0) ((cutN l) 0) (c7 0)) := by have := RowAt.cell HT.out.r7 1; simpa [limC] using this
      have q2 : w3.cell? ⟨g7, 2, none⟩ = some (.slice (A7 1) ((cutN l) 1) (c7 1)) := by have := RowAt.cell HT.out.r7 2; simpa [limC] using this
      have q3 : w3.cell? ⟨g7, 3, none⟩ = some (.slice (A7 2) ((cutN l) 2) (c7 2)) := by have := RowAt.cell HT.out.r7 3; simpa [limC] using this
      have ql := HT.out.r7.lt
      have HC := hide (check_any w3.heap.size A7 (cutN l) c7 l.cut w3 HT.out.d7 HEQ.out (Nat.le_refl _) (cut_len l) HG.out 240 (by rw [HOK.out]; rfl))
      go_wp2_with fail
      with_reducible refine HC.out.mono ?_
      rintro e w4 ⟨rfl, hb⟩
      replace HT := hide (HT.out.later hb)
      clear q0 q1 q2 q3 ql HC hb
      have q0 : w4.cell? ⟨g7, 0, none⟩ = some (.int .u64 (l.cut.E : Int)) := by have := RowAt.cell HT.out.r7 0; simpa [limC] using this
      have q1 : w4.cell? ⟨g7, 1, none⟩ = some (.slice (A7 0) ((cutN l) 0) (c7 0)) := by have := RowAt.cell HT.out.r7 1; simpa [limC] using this
      have q2 : w4.cell? ⟨g7, 2, none⟩ = some (.slice (A7 1) ((cutN l) 1) (c7 1)) := by have := RowAt.cell HT.out.r7 2; simpa [limC] using this
      have q3 : w4.cell? ⟨g7, 3, none⟩ = some (.slice (A7 2) ((cutN l) 2) (c7 2)) := by have := RowAt.cell HT.out.r7 3; simpa [limC] using this
      have ql := HT.out.r7.lt
      have p0 : w4.cell? ⟨g8, 0, none⟩ = some (.int .u64 (l1.cut.E : Int)) := by have := RowAt.cell HT.out.r8 0; simpa [limC] using this
      have p1 : w4.cell? ⟨g8, 1, none⟩ = some (.slice (A8 0) ((cutN l1) 0) (c8 0)) := by have := RowAt.cell HT.out.r8 1; simpa [limC] using this
      have p2 : w4.cell? ⟨g8, 2, none⟩ = some (.slice (A8 1) ((cutN l1) 1) (c8 1)) := by have := RowAt.cell HT.out.r8 2; simpa [limC] using this
      have p3 : w4.cell? ⟨g8, 3, none⟩ = some (.slice (A8 2) ((cutN l1) 2) (c8 2)) := by have := RowAt.cell HT.out.r8 3; simpa [limC] using this
      have pl := HT.out.r8.lt
      have x0 : w4.cell? ⟨W.heap.size, 0, none⟩ = some (.int .u64 (l.E : Int)) := by have := RowAt.cell HT.out.x 0; simpa [limC] using this
      have x1 : w4.cell? ⟨W.heap.size, 1, none⟩ = some (.slice (A 0) (n 0) (c 0)) := by have := RowAt.cell HT.out.x 1; simpa [limC] using this
      have x2 : w4.cell? ⟨W.heap.size, 2, none⟩ = some (.slice (A 1) (n 1) (c 1)) := by have := RowAt.cell HT.out.x 2; simpa [limC] using this
      have x3 : w4.cell? ⟨W.heap.size, 3, none⟩ = some (.slice (A 2) (n 2) (c 2)) := by have := RowAt.cell HT.out.x 3; simpa [limC] using this
      have xl := HT.out.x.lt
      have HSM := hide (fun (w : World) (hb : Below w4.heap.size w4 w) => same_any A7 (cutN l) c7 l.cut A8 (cutN l1) c8 l1.cut w (HT.out.later hb).d7 (HT.out.later hb).d8 (cut_len l) (cut_len l1) q6 HQ6.out)
      have HRS2 := hide (fun (w : World) (hb : Below w4.heap.size w4 w) => rsame_any A7 (cutN l) c7 l.cut A8 (cutN l1) c8 l1.cut w (HT.out.later hb).d7 (HT.out.later hb).d8 (cut_len l) (cut_len l1) q6 HQ6.out)
      have HOX := hide (fun (w : World) (hb : Below w4.heap.size w4 w) => own_res (HT.out.later hb).hx (Nat.le_trans HT.out.below.size hb.size) HCC.out)
      have HSX := hide (fun (w : World) (A9 : Nat → Option Addr) (c9 : Nat → Nat) (hd : LimRd w w.heap.size A9 (cutN l) l.cut.r) (hb : Below w4.heap.size w4 w) => same_any A7 (cutN l) c7 l.cut A9 (cutN l) c9 l.cut w (HT.out.later hb).d7 hd (cut_len l) (cut_len l) true (sameB_self _))
      go_upto_region 6 with (fail)
      refine wp_region_held_drew (S := fun wX => Below w4.heap.size w4 wX) (by kernel_rfl) (Below.refl _ _).drew (fun hHeld => ?_)
      have HQ := hide ((Below.refl w4.heap.size w4).drew)
      (refine wpAnyH_take (i := 0) (v := ?_) rfl (by kernel_rfl) (by kernel_rfl) (by kernel_rfl) (fun _ _ _ h => h) (Or.inl ⟨by rfl, ?_⟩) (by assumption) ?_; rotate_left; (focus (intro w hSw; (try dsimp only at hSw); go_simp; first | done | with_reducible rfl)); (try simp only [Act.put, List.getElem_toArray, List.getElem_cons_succ, List.getElem_cons_zero, List.setIfInBounds_toArray, List.set_cons_zero, List.set_cons_succ]))
      (refine wpAnyH_take (i := 1) (v := ?_) rfl (by kernel_rfl) (by kernel_rfl) (by kernel_rfl) (fun _ _ _ h => h) (Or.inl ⟨by rfl, ?_⟩) (by assumption) ?_; rotate_left; (focus (intro w hSw; (try dsimp only at hSw); go_simp; first | done | with_reducible rfl)); (try simp only [Act.put, List.getElem_toArray, List.getElem_cons_succ, List.getElem_cons_zero, List.setIfInBounds_toArray, List.set_cons_zero, List.set_cons_succ]))
      (refine wpAnyH_take (i := 2) (v := ?_) rfl (by kernel_rfl) (by kernel_rfl) (by kernel_rfl) (fun _ _ _ h => h) (Or.inl ⟨by rfl, ?_⟩) (by assumption) ?_; rotate_left; (focus (intro w hSw; (try dsimp only at hSw); go_simp; first | done | with_reducible rfl)); (try simp only [Act.put, List.getElem_toArray, List.getElem_cons_succ, List.getElem_cons_zero, List.setIfInBounds_toArray, List.set_cons_zero, List.set_cons_succ]))
      (refine wpAnyH_take (i := 3) (v := ?_) rfl (by kernel_rfl) (by kernel_rfl) (by kernel_rfl) (fun _ _ _ h => h) (Or.inl ⟨by rfl, ?_⟩) (by assumption) ?_; rotate_left; (focus (intro w hSw; (try dsimp only at hSw); go_simp; first | done | with_reducible rfl)); (try simp only [Act.put, List.getElem_toArray, List.getElem_cons_succ, List.getElem_cons_zero, List.setIfInBounds_toArray, List.set_cons_zero, List.set_cons_succ]))
      (refine wpAnyH_take (i := 4) (v := ?_) rfl (by kernel_rfl) (by kernel_rfl) (by kernel_rfl) (fun _ _ _ h => h) (Or.inl ⟨by rfl, ?_⟩) (by assumption) ?_; rotate_left; (focus (intro w hSw; (try dsimp only at hSw); go_simp; first | done | with_reducible rfl)); (try simp only [Act.put, List.getElem_toArray, List.getElem_cons_succ, List.getElem_cons_zero, List.setIfInBounds_toArray, List.set_cons_zero, List.set_cons_succ]))
      (refine wpAnyH_take (i := 5) (v := ?_) rfl (by kernel_rfl) (by kernel_rfl) (by kernel_rfl) (fun _ _ _ h => h) (Or.inl ⟨by rfl, ?_⟩) (by assumption) ?_; rotate_left; (focus (intro w hSw; (try dsimp only at hSw); go_simp; first | done | with_reducible rfl)); (try simp only [Act.put, List.getElem_toArray, List.getElem_cons_succ, List.getElem_cons_zero, List.setIfInBounds_toArray, List.set_cons_zero, List.set_cons_succ]))
      (refine wpAnyH_take (i := 6) (v := ?_) rfl (by kernel_rfl) (by kernel_rfl) (by kernel_rfl) (fun _ _ _ h => h) (Or.inl ⟨by rfl, ?_⟩) (by assumption) ?_; rotate_left; (focus (intro w hSw; (try dsimp only at hSw); go_simp; first | done | with_reducible rfl)); (try simp only [Act.put, List.getElem_toArray, List.getElem_cons_succ, List.getElem_cons_zero, List.setIfInBounds_toArray, List.set_cons_zero, List.set_cons_succ]))
      (refine wpAnyH_take (i := 7) (v := ?_) rfl (by kernel_rfl) (by kernel_rfl) (by kernel_rfl) (fun _ _ _ h => h) (Or.inl ⟨by rfl, ?_⟩) (by assumption) ?_; rotate_left; (focus (intro w hSw; (try dsimp only at hSw); go_simp; first | done | with_reducible rfl)); (try simp only [Act.put, List.getElem_toArray, List.getElem_cons_succ, List.getElem_cons_zero, List.setIfInBounds_toArray, List.set_cons_zero, List.set_cons_succ]))
      (refine wpAnyH_take (i := 8) (v := ?_) rfl (by kernel_rfl) (by kernel_rfl) (by kernel_rfl) (fun _ _ _ h => h) (Or.inl ⟨by rfl, ?_⟩) (by assumption) ?_; rotate_left; (focus (intro w hSw; (try dsimp only at hSw); go_simp; first | done | with_reducible rfl)); (try simp only [Act.put, List.getElem_toArray, List.getElem_cons_succ, List.getElem_cons_zero, List.setIfInBounds_toArray, List.set_cons_zero, List.set_cons_succ]))
      (refine wpAnyH_take (i := 9) (v := ?_) rfl (by kernel_rfl) (by kernel_rfl) (by kernel_rfl) (fun _ _ _ h => h) (Or.inl ⟨by rfl, ?_⟩) (by assumption) ?_; rotate_left; (focus (intro w hSw; (try dsimp only at hSw); go_simp; first | done | with_reducible rfl)); (try simp only [Act.put, List.getElem_toArray, List.getElem_cons_succ, List.getElem_cons_zero, List.setIfInBounds_toArray, List.set_cons_zero, List.set_cons_succ]))
      (refine wpAnyH_take (i := 10) (v := ?_) rfl (by kernel_rfl) (by kernel_rfl) (by kernel_rfl) (fun _ _ _ h => h) (Or.inl ⟨by rfl, ?_⟩) (by assumption) ?_; rotate_left; (focus (intro w hSw; (try dsimp only at hSw); go_simp; first | done | with_reducible rfl)); (try simp only [Act.put, List.getElem_toArray, List.getElem_cons_succ, List.getElem_cons_zero, List.setIfInBounds_toArray, List.set_cons_zero, List.set_cons_succ]))
      (refine wpAnyH_take (i := 11) (v := ?_) rfl (by kernel_rfl) (by kernel_rfl) (by kernel_rfl) (fun _ _ _ h => h) (Or.inl ⟨by rfl, ?_⟩) (by assumption) ?_; rotate_left; (focus (intro w hSw; (try dsimp only at hSw); go_simp; first | done | with_reducible rfl)); (try simp only [Act.put, List.getElem_toArray, List.getElem_cons_succ, List.getElem_cons_zero, List.setIfInBounds_toArray, List.set_cons_zero, List.set_cons_succ]))
      (refine wpAnyH_take (i := 12) (v := ?_) rfl (by kernel_rfl) (by kernel_rfl) (by kernel_rfl) (fun _ _ _ h => h) (Or.inl ⟨by rfl, ?_⟩) (by assumption) ?_; rotate_left; (focus (intro w hSw; (try dsimp only at hSw); go_simp; first | done | with_reducible rfl)); (try simp only [Act.put, List.getElem_toArray, List.getElem_cons_succ, List.getElem_cons_zero, List.setIfInBounds_toArray, List.set_cons_zero, List.set_cons_succ]))
      (refine wpAnyH_take (i := 13) (v := ?_) rfl (by kernel_rfl) (by kernel_rfl) (by kernel_rfl) (fun _ _ _ h => h) (Or.inl ⟨by rfl, ?_⟩) (by assumption) ?_; rotate_left; (focus (intro w hSw; (try dsimp only at hSw); have kf0 := kept hSw q0; have kf1 := kept hSw q1; have kf2 := kept hSw q2; have kf3 := kept hSw q3; go_simp; first | done | with_reducible rfl)); (try simp only [Act.put, List.getElem_toArray, List.getElem_cons_succ, List.getElem_cons_zero, List.setIfInBounds_toArray, List.set_cons_zero, List.set_cons_succ]))
      (refine wpAnyH_take (i := 14) (v := ?_) rfl (by kernel_rfl) (by kernel_rfl) (by kernel_rfl) (fun _ _ _ h => h) (Or.inl ⟨by rfl, ?_⟩) (by assumption) ?_; rotate_left; (focus (intro w hSw; (try dsimp only at hSw); have kf0 := kept hSw p0; have kf1 := kept hSw p1; have kf2 := kept hSw p2; have kf3 := kept hSw p3; go_simp; first | done | with_reducible rfl)); (try simp only [Act.put, List.getElem_toArray, List.getElem_cons_succ, List.getElem_cons_zero, List.setIfInBounds_toArray, List.set_cons_zero, List.set_cons_succ]))
      (refine wpAnyH_take (i := 16) (v := ?_) rfl (by kernel_rfl) (by kernel_rfl) (by kernel_rfl) (fun _ _ _ h => h) (Or.inl ⟨by rfl, ?_⟩) (by assumption) ?_; rotate_left; (focus (intro w hSw; (try dsimp only at hSw); have kf0 := kept hSw q0; have kf1 := kept hSw q1; have kf2 := kept hSw q2; have kf3 := kept hSw q3; go_simp; first | done | with_reducible rfl)); (try simp only [Act.put, List.getElem_toArray, List.getElem_cons_succ, List.getElem_cons_zero, List.setIfInBounds_toArray, List.set_cons_zero, List.set_cons_succ]))
      (refine wpAnyH_take (i := 17) (v := ?_) rfl (by kernel_rfl) (by kernel_rfl) (by kernel_rfl) (fun _ _ _ h => h) (Or.inl ⟨by rfl, ?_⟩) (by assumption) ?_; rotate_left; (focus (intro w hSw; (try dsimp only at hSw); have kf0 := kept hSw p0; have kf1 := kept hSw p1; have kf2 := kept hSw p2; have kf3 := kept hSw p3; go_simp; first | done | with_reducible rfl)); (try simp only [Act.put, List.getElem_toArray, List.getElem_cons_succ, List.getElem_cons_zero, List.setIfInBounds_toArray, List.set_cons_zero, List.set_cons_succ]))
      refine wpAnyH_ready (rs := [15]) (by kernel_rfl) (by simp) ?_
      refine (AllReadyH.cons rfl (fun K0 hK0 => ?_) AllReadyH.nil)
      go_simp
      refine (HSM.out _ HQ.out).mono ?_
      rintro e u1 ⟨rfl, hb_⟩
      replace HQ := hide (HQ.out.trans (hb_.mono HQ.out.size))
      clear hb_
      refine hK0.out _ _ (HQ.out) (fun _ => ?_)
      clear hK0 K0
      (try simp only [Act.put, List.getElem_toArray, List.getElem_cons_succ, List.getElem_cons_zero, List.setIfInBounds_toArray, List.set_cons_zero, List.set_cons_succ])
      refine wpAnyH_ready (rs := [18]) (by kernel_rfl) (by simp) ?_
      refine (AllReadyH.cons rfl (fun K1 hK1 => ?_) AllReadyH.nil)
      go_simp
      refine (HRS2.out _ HQ.out).mono ?_
      rintro e u2 ⟨rfl, hb_⟩
      replace HQ := hide (HQ.out.trans (hb_.mono HQ.out.size))
      clear hb_
      refine hK1.out _ _ (HQ.out) (fun _ => ?_)
      clear hK1 K1
      (try simp only [Act.put, List.getElem_toArray, List.getElem_cons_succ, List.getElem_cons_zero, List.setIfInBounds_toArray, List.set_cons_zero, List.set_cons_succ])
      have hqq : (q6 != q6) = false := by simp
      (refine wpAnyH_take (i := 19) (v := ?_) rfl (by kernel_rfl) (by kernel_rfl) (by kernel_rfl) (fun _ _ _ h => h) (Or.inl ⟨by rfl, ?_⟩) (by assumption) ?_; rotate_left; (focus (intro w hSw; (try dsimp only at hSw); go_simp; first | done | with_reducible rfl)); (try simp only [Act.put, List.getElem_toArray, List.getElem_cons_succ, List.getElem_cons_zero, List.setIfInBounds_toArray, List.set_cons_zero, List.set_cons_succ]))
      (refine wpAnyH_take (i := 20) (v := ?_) rfl (by kernel_rfl) (by kernel_rfl) (by kernel_rfl) (fun _ _ _ h => h) (Or.inl ⟨by rfl, ?_⟩) (by assumption) ?_; rotate_left; (focus (intro w hSw; (try dsimp only at hSw); go_simp; first | done | with_reducible rfl)); (try simp only [Act.put, List.getElem_toArray, List.getElem_cons_succ, List.getElem_cons_zero, List.setIfInBounds_toArray, List.set_cons_zero, List.set_cons_succ]))
      (refine wpAnyH_take (i := 21) (v := ?_) rfl (by kernel_rfl) (by kernel_rfl) (by kernel_rfl) (fun _ _ _ h => h) (Or.inl ⟨by rfl, ?_⟩) (by assumption) ?_; rotate_left; (focus (intro w hSw; (try dsimp only at hSw); go_simp; first | done | with_reducible rfl)); (try simp only [Act.put, List.getElem_toArray, List.getElem_cons_succ, List.getElem_cons_zero, List.setIfInBounds_toArray, List.set_cons_zero, List.set_cons_succ]))
      clear hqq
      (refine wpAnyH_take (i := 22) (v := ?_) rfl (by kernel_rfl) (by kernel_rfl) (by kernel_rfl) (fun _ _ _ h => h) (Or.inl ⟨by rfl, ?_⟩) (by assumption) ?_; rotate_left; (focus (intro w hSw; (try dsimp only at hSw); have kf0 := kept hSw q0; have kf1 := kept hSw q1; have kf2 := kept hSw q2; have kf3 := kept hSw q3; go_simp; first | done | with_reducible rfl)); (try simp only [Act.put, List.getElem_toArray, List.getElem_cons_succ, List.getElem_cons_zero, List.setIfInBounds_toArray, List.set_cons_zero, List.set_cons_succ]))
      (refine wpAnyH_take (i := 23) (v := ?_) rfl (by kernel_rfl) (by kernel_rfl) (by kernel_rfl) (fun _ _ _ h => h) (Or.inl ⟨by rfl, ?_⟩) (by assumption) ?_; rotate_left; (focus (intro w hSw; (try dsimp only at hSw); have kf0 := kept hSw x0; have kf1 := kept hSw x1; have kf2 := kept hSw x2; have kf3 := kept hSw x3; go_simp; first | done | with_reducible rfl)); (try simp only [Act.put, List.getElem_toArray, List.getElem_cons_succ, List.getElem_cons_zero, List.setIfInBounds_toArray, List.set_cons_zero, List.set_cons_succ]))
      refine wpAnyH_ready (rs := [24]) (by kernel_rfl) (by simp) ?_
      refine (AllReadyH.cons rfl (fun K2 hK2 => ?_) AllReadyH.nil)
      go_simp
      refine (HOX.out _ HQ.out).mono ?_
      rintro e u3 ⟨A9, c9, rfl, hd9, hlo9, hup9, hb_⟩
      have D9 := hide hd9
      clear hd9 hlo9 hup9
      replace HQ := hide (HQ.out.trans (hb_.mono HQ.out.size))
      clear hb_
      refine hK2.out _ _ (HQ.out) (fun _ => ?_)
      clear hK2 K2
      (try simp only [Act.put, List.getElem_toArray, List.getElem_cons_succ, List.getElem_cons_zero, List.setIfInBounds_toArray, List.set_cons_zero, List.set_cons_succ])
      refine wpAnyH_ready (rs := [25]) (by kernel_rfl) (by simp) ?_
      refine (AllReadyH.cons rfl (fun K3 hK3 => ?_) AllReadyH.nil)
      go_simp
      refine (HSX.out _ A9 c9 D9.out HQ.out).mono ?_
      rintro e u4 ⟨rfl, hb_⟩
      replace HQ := hide (HQ.out.trans (hb_.mono HQ.out.size))
      clear hb_
      refine hK3.out _ _ (HQ.out) (fun _ => ?_)
      clear hK3 K3
      (try simp only [Act.put, List.getElem_toArray, List.getElem_cons_succ, List.getElem_cons_zero, List.setIfInBounds_toArray, List.set_cons_zero, List.set_cons_succ])
      (refine wpAnyH_take (i := 26) (v := ?_) rfl (by kernel_rfl) (by kernel_rfl) (by kernel_rfl) (fun _ _ _ h => h) (Or.inl ⟨by rfl, ?_⟩) (by assumption) ?_; rotate_left; (focus (intro w hSw; (try dsimp only at hSw); go_simp; first | done | with_reducible rfl)); (try simp only [Act.put, List.getElem_toArray, List.getElem_cons_succ, List.getElem_cons_zero, List.setIfInBounds_toArray, List.set_cons_zero, List.set_cons_succ]))
      (refine wpAnyH_take (i := 27) (v := ?_) rfl (by kernel_rfl) (by kernel_rfl) (by kernel_rfl) (fun _ _ _ h => h) (Or.inl ⟨by rfl, ?_⟩) (by assumption) ?_; rotate_left; (focus (intro w hSw; (try dsimp only at hSw); go_simp; first | done | with_reducible rfl)); (try simp only [Act.put, List.getElem_toArray, List.getElem_cons_succ, List.getElem_cons_zero, List.setIfInBounds_toArray, List.set_cons_zero, List.set_cons_succ]))
      refine wpAnyH_done (by kernel_rfl) ?_ _
      replace HT := hide (HT.out.later HQ.out)
      clear q0 q1 q2 q3 ql p0 p1 p2 p3 pl x0 x1 x2 x3 xl HSM HRS2 HOX HSX HQ D9
      have HRA : Hid (Rd u4 u4.heap.size 2 none 0 (Cs encE [])) := hide Rd.none_
      have HRB : Hid (Rd u4 u4.heap.size 2 none 0 (Cs encE [])) := hide Rd.none_
      have HLA : Hid (([] : List Ent).length = 0) := hide rfl
      have HLB : Hid (([] : List Ent).length = 0) := hide rfl
      have HEA : Hid (([] : List Ent) = []) := hide rfl
      have HEB : Hid (([] : List Ent) = []) := hide rfl
      have HLC : Hid (([] : List Ent).length ≤ 4096) := hide (by simp)
      have HLD2 : Hid (([] : List Ent).length ≤ 4096) := hide (by simp)
      have q0 : u4.cell? ⟨g7, 0, none⟩ = some (.int .u64 (l.cut.E : Int)) := by have := RowAt.cell HT.out.r7 0; simpa [limC] using this
      have q1 : u4.cell? ⟨g7, 1, none⟩ = some (.slice (A7 0) ((cutN l) 0) (c7 0)) := by have := RowAt.cell HT.out.r7 1; simpa [limC] using this
      have q2 : u4.cell? ⟨g7, 2, none⟩ = some (.slice (A7 1) ((cutN l) 1) (c7 1)) := by have := RowAt.cell HT.out.r7 2; simpa [limC] using this
      have q3 : u4.cell? ⟨g7, 3, none⟩ = some (.slice (A7 2) ((cutN l) 2) (c7 2)) := by have := RowAt.cell HT.out.r7 3; simpa [limC] using this
      have ql := HT.out.r7.lt
      obtain ⟨nr, hnr⟩ : ∃ k, (([] : List Ent)).length = k := ⟨_, rfl⟩
      obtain ⟨nh, hnh⟩ : ∃ k, (([] : List Ent)).length = k := ⟨_, rfl⟩
      have HNR := hide hnr
      have HNH := hide hnh
      have hnr2 : (nr : Int) ≤ 4096 := by have := HLC.out; omega
      have hnh2 : (nh : Int) ≤ 4096 := by have := HLD2.out; omega
      clear hnr hnh
      have HRY := hide (fun (w : World) (hb : Below u4.heap.size u4 w) => row_res (ready_any w.heap.size A7 (cutN l) c7 l.cut w (HT.out.later hb).d7 HEQ.out (Nat.le_refl _) (cut_len l) HG.out (([] : List Ent)) (by rw [HOK.out]; rfl)) HNR.out)
      have HHL := hide (fun (w : World) (hb : Below u4.heap.size u4 w) => row_res (held_any w.heap.size A7 (cutN l) c7 l.cut w (HT.out.later hb).d7 HEQ.out (Nat.le_refl _) (cut_len l) HG.out (([] : List Ent)) (by rw [HOK.out]; rfl)) HNH.out)
      go_upto_region 11 with (fail)
      refine wp_region_held_drew (S := fun wX => Below u4.heap.size u4 wX) (by kernel_rfl) (Below.refl _ _).drew (fun hHeld => ?_)
      have HQ := hide ((Below.refl u4.heap.size u4).drew)
      (refine wpAnyH_take (i := 0) (v := ?_) rfl (by kernel_rfl) (by kernel_rfl) (by kernel_rfl) (fun _ _ _ h => h) (Or.inl ⟨by rfl, ?_⟩) (by assumption) ?_; rotate_left; (focus (intro w hSw; (try dsimp only at hSw); have kf0 := kept hSw q0; have kf1 := kept hSw q1; have kf2 := kept hSw q2; have kf3 := kept hSw q3; go_simp; first | done | with_reducible rfl)); (try simp only [Act.put, List.getElem_toArray, List.getElem_cons_succ, List.getElem_cons_zero, List.setIfInBounds_toArray, List.set_cons_zero, List.set_cons_succ]))
      (refine wpAnyH_take (i := 2) (v := ?_) rfl (by kernel_rfl) (by kernel_rfl) (by kernel_rfl) (fun _ _ _ h => h) (Or.inl ⟨by rfl, ?_⟩) (by assumption) ?_; rotate_left; (focus (intro w hSw; (try dsimp only at hSw); have kf0 := kept hSw q0; have kf1 := kept hSw q1; have kf2 := kept hSw q2; have kf3 := kept hSw q3; go_simp; first | done | with_reducible rfl)); (try simp only [Act.put, List.getElem_toArray, List.getElem_cons_succ, List.getElem_cons_zero, List.setIfInBounds_toArray, List.set_cons_zero, List.set_cons_succ]))
      refine wpAnyH_ready (rs := [1]) (by kernel_rfl) (by simp) ?_
      refine (AllReadyH.cons rfl (fun K0 hK0 => ?_) AllReadyH.nil)
      go_simp
      refine (HRY.out _ HQ.out).mono ?_
      rintro e u7 ⟨Ar, cr, rfl, hrr, hgr, hb_⟩
      have HRR := hide hrr
      have HGR := hide (hgr.lower HQ.out.size)
      clear hrr hgr
      replace HQ := hide (HQ.out.trans (hb_.mono HQ.out.size))
      clear hb_
      refine hK0.out _ _ (HQ.out) (fun _ => ?_)
      clear hK0 K0
      (try simp only [Act.put, List.getElem_toArray, List.getElem_cons_succ, List.getElem_cons_zero, List.setIfInBounds_toArray, List.set_cons_zero, List.set_cons_succ])
      refine wpAnyH_ready (rs := [3]) (by kernel_rfl) (by simp) ?_
      refine (AllReadyH.cons rfl (fun K1 hK1 => ?_) AllReadyH.nil)
      go_simp
      refine (HHL.out _ HQ.out).mono ?_
      rintro e u8 ⟨Ax, cx, rfl, hrx, hgx, hb_⟩
      have HRX := hide hrx
      have HGL := hide (show GLoop u4 u7.heap.size u8.heap.size Ar nr Ax nh u8 from ⟨HGR.out.keep (fun g _ hg => hb_.block g hg), hgx, HQ.out.trans (hb_.mono HQ.out.size), HQ.out.size, Nat.le_refl _, hb_.size⟩)
      replace HRR := hide ((HRR.out.below hb_).more hb_.size)
      clear hrx hgx HGR
      replace HQ := hide (HQ.out.trans (hb_.mono HQ.out.size))
      clear hb_
      refine hK1.out _ _ (HQ.out) (fun _ => ?_)
      clear hK1 K1
      (try simp only [Act.put, List.getElem_toArray, List.getElem_cons_succ, List.getElem_cons_zero, List.setIfInBounds_toArray, List.set_cons_zero, List.set_cons_succ])
      (refine wpAnyH_take (i := 4) (v := ?_) rfl (by kernel_rfl) (by kernel_rfl) (by kernel_rfl) (fun _ _ _ h => h) (Or.inl ⟨by rfl, ?_⟩) (by assumption) ?_; rotate_left; (focus (intro w hSw; (try dsimp only at hSw); go_simp; first | done | with_reducible rfl)); (try simp only [Act.put, List.getElem_toArray, List.getElem_cons_succ, List.getElem_cons_zero, List.setIfInBounds_toArray, List.set_cons_zero, List.set_cons_succ]))
      (refine wpAnyH_take (i := 5) (v := ?_) rfl (by kernel_rfl) (by kernel_rfl) (by kernel_rfl) (fun _ _ _ h => h) (Or.inl ⟨by rfl, ?_⟩) (by assumption) ?_; rotate_left; (focus (intro w hSw; (try dsimp only at hSw); go_simp; first | done | with_reducible rfl)); (try simp only [Act.put, List.getElem_toArray, List.getElem_cons_succ, List.getElem_cons_zero, List.setIfInBounds_toArray, List.set_cons_zero, List.set_cons_succ]))
      refine wpAnyH_done (by kernel_rfl) ?_ _
      replace HRA := hide ((HRA.out.below HQ.out).more HQ.out.size)
      replace HRB := hide ((HRB.out.below HQ.out).more HQ.out.size)
      clear q0 q1 q2 q3 ql HRY HHL HQ
      have HE1 := hide (equal_n u8.heap.size Ar none nr 0 cr 0 (([] : List Ent)) ([] : List Ent) u8 HRR.out HRA.out HNR.out HLA.out (Nat.le_refl _) (by omega) (by rw [← HLA.out]; exact (by simp)) true (by rw [HEA.out]; simp))
      have HE2 := hide (fun (w : World) (hb : Below u8.heap.size u8 w) => equal_n u8.heap.size Ax none nh 0 cx 0 (([] : List Ent)) ([] : List Ent) w (HRX.out.below hb) (HRB.out.below hb) HNH.out HLB.out hb.size (by omega) (by rw [← HLB.out]; exact (by simp)) true (by rw [HEB.out]; simp))
      go_wp2_with fail
      with_reducible refine HE1.out.mono ?_
      rintro e w9 ⟨rfl, hb⟩
      have HB9 := hide hb
      clear hb
      go_wp2_with fail
      with_reducible refine (HE2.out _ HB9.out).mono ?_
      rintro e w10 ⟨rfl, hb⟩
      replace HGL := hide (HGL.out.later (HB9.out.trans (hb.mono HB9.out.size)))
      clear hb HB9 HE1 HE2 HRR HRX HRA HRB HLA HLB HEA HEB HLC HLD2
      go_wp2_with fail
      go_loopw [82] (fun i wr => ∃ j : Nat, j ≤ nr ∧ i = .int .i64 j ∧ GLoop u4 u7.heap.size u8.heap.size Ar nr Ax nh wr) (fun i _ => nr - (intOf i).toNat)
      case atStart => exact ⟨0, Nat.zero_le _, rfl, HGL.out⟩
      case round =>
        obtain ⟨j, hj, rfl, hgl⟩ := hrel
        clear HGL
        have HGL := hide hgl
        clear hgl
        by_cases hlt : j < nr
        · have hltI : (j : Int) < (nr : Int) := by omega
          obtain ⟨g, cur, hA, hlo, hhi, hrow, hcur⟩ := HGL.out.g1.row (by omega)
          subst hA
          obtain ⟨z, hz⟩ := hcur j hlt
          have c1 : wr.cell? ⟨g, j * 2 + 1, none⟩ = some (.int .u64 z) := by rw [hrow.cell]; exact hz
          have f1 := hrow.frozen (j * 2 + 1)
          have l2 := hrow.lt
          have HLO := hide hlo
          have HHI := hide hhi
          clear hrow hcur hz hlo hhi
          go_wp2_with fail
          go_roundw
          case rel => exact ⟨j + 1, by omega, by go_num, HGL.out.set1 HLO.out HHI.out j _⟩
          case measure => simp [intOf]; omega
        · obtain rfl : nr = j := by omega
          go_wp2_with fail
          go_loopw [96] (fun i wr => ∃ j : Nat, j ≤ nh ∧ i = .int .i64 j ∧ GLoop u4 u7.heap.size u8.heap.size Ar nr Ax nh wr) (fun i _ => nh - (intOf i).toNat)
          case atStart => exact ⟨0, Nat.zero_le _, rfl, HGL.out⟩
          case round =>
            obtain ⟨j, hj, rfl, hgl⟩ := hrel
            clear HGL
            have HGL := hide hgl
            clear hgl
            by_cases hlt : j < nh
            · have hltI : (j : Int) < (nh : Int) := by omega
              obtain ⟨g, cur, hA, hlo, hhi, hrow, hcur⟩ := HGL.out.g2.row (by omega)
              subst hA
              obtain ⟨z, hz⟩ := hcur j hlt
              have c1 : wr.cell? ⟨g, j * 2 + 1, none⟩ = some (.int .u64 z) := by rw [hrow.cell]; exact hz
              have f1 := hrow.frozen (j * 2 + 1)
              have l2 := hrow.lt
              have HLO := hide hlo
              have HHI := hide hhi
              clear hrow hcur hz hlo hhi
              go_wp2_with fail
              go_roundw
              case rel => exact ⟨j + 1, by omega, by go_num, HGL.out.set2 HLO.out j _⟩
              case measure => simp [intOf]; omega
            · obtain rfl : nh = j := by omega
              obtain ⟨w11, hw11⟩ : ∃ w, w = wr := ⟨_, rfl⟩
              subst hw11
              replace HT := hide (HT.out.later HGL.out.below)
              clear HGL
              go_wp2_with fail
              go_loopw [110] (fun i wr => ∃ j : Nat, j ≤ n2 ∧ i = .int .i64 j ∧ Below w11.heap.size w11 wr) (fun i _ => n2 - (intOf i).toNat)
              case atStart => exact ⟨0, Nat.zero_le _, rfl, Below.refl _ _⟩
              case round =>
                obtain ⟨j, hj, rfl, hbr⟩ := hrel
                replace HT := hide (HT.out.later hbr)
                have HBR := hide hbr
                clear hbr
                by_cases hlt : j < n2
                · have hltI : (j : Int) < (n2 : Int) := by omega
                  obtain ⟨b1, o1, rfl, hbl, hc1⟩ := Rd.elem (show Rd wr W.heap.size 1 A2 xs.length (Cs encI xs) from by rw [HXS.out]; exact HRS.out.below HT.out.below) (fun _ => rfl) (show j < xs.length from by rw [HXS.out]; exact hlt)
                  have hd10 := hc1 0 _ (by omega) rfl
                  simp only [Nat.add_zero, Nat.mul_one] at hd10
                  have hbl1 : b1 < wr.heap.size := Nat.lt_of_lt_of_le hbl HT.out.below.size
                  generalize xs[j]'(by rw [HXS.out]; exact hlt) = sv at hd10
                  clear hc1 hbl
                  by_cases h10 : j = 10
                  · have h10I : ((j : Int) == 10) = true := by simp; omega
                    clear h10
                    go_wp2_with fail
                    have q0 : wr.cell? ⟨g7, 0, none⟩ = some (.int .u64 (l.cut.E : Int)) := by have := RowAt.cell HT.out.r7 0; simpa [limC] using this
                    have q1 : wr.cell? ⟨g7, 1, none⟩ = some (.slice (A7 0) ((cutN l) 0) (c7 0)) := by have := RowAt.cell HT.out.r7 1; simpa [limC] using this
                    have q2 : wr.cell? ⟨g7, 2, none⟩ = some (.slice (A7 1) ((cutN l) 1) (c7 1)) := by have := RowAt.cell HT.out.r7 2; simpa [limC] using this
                    have q3 : wr.cell? ⟨g7, 3, none⟩ = some (.slice (A7 2) ((cutN l) 2) (c7 2)) := by have := RowAt.cell HT.out.r7 3; simpa [limC] using this
                    have ql := HT.out.r7.lt
                    have x0 : wr.cell? ⟨W.heap.size, 0, none⟩ = some (.int .u64 (l.E : Int)) := by have := RowAt.cell HT.out.x 0; simpa [limC] using this
                    have x1 : wr.cell? ⟨W.heap.size, 1, none⟩ = some (.slice (A 0) (n 0) (c 0)) := by have := RowAt.cell HT.out.x 1; simpa [limC] using this
                    have x2 : wr.cell? ⟨W.heap.size, 2, none⟩ = some (.slice (A 1) (n 1) (c 1)) := by have := RowAt.cell HT.out.x 2; simpa [limC] using this
                    have x3 : wr.cell? ⟨W.heap.size, 3, none⟩ = some (.slice (A 2) (n 2) (c 2)) := by have := RowAt.cell HT.out.x 3; simpa [limC] using this
                    have xl := HT.out.x.lt
                    have HOX := hide (fun (w9 : World) (hb : Below wr.heap.size wr w9) => own_res (HT.out.later hb).hx (Nat.le_trans HT.out.below.size hb.size) HCC.out)
                    have HSX := hide (fun (w9 : World) (A9 : Nat → Option Addr) (c9 : Nat → Nat) (hd : LimRd w9 w9.heap.size A9 (cutN l) l.cut.r) (hb : Below wr.heap.size wr w9) => rsame_any A7 (cutN l) c7 l.cut A9 (cutN l) c9 l.cut w9 (HT.out.later hb).d7 hd (cut_len l) (cut_len l) true (sameB_self _))
                    go_upto_region 35 with (fail)
                    refine wp_region_held_drew (S := fun wX => Below wr.heap.size wr wX) (by kernel_rfl) (Below.refl _ _).drew (fun hHeld => ?_)
                    have HQ := hide ((Below.refl wr.heap.size wr).drew)
                    (refine wpAnyH_take (i := 0) (v := ?_) rfl (by kernel_rfl) (by kernel_rfl) (by kernel_rfl) (fun _ _ _ h => h) (Or.inl ⟨by rfl, ?_⟩) (by assumption) ?_; rotate_left; (focus (intro w hSw; (try dsimp only at hSw); have kf0 := kept hSw q0; have kf1 := kept hSw q1; have kf2 := kept hSw q2; have kf3 := kept hSw q3; go_simp; first | done | with_reducible rfl)); (try simp only [Act.put, List.getElem_toArray, List.getElem_cons_succ, List.getElem_cons_zero, List.setIfInBounds_toArray, List.set_cons_zero, List.set_cons_succ]))
                    (refine wpAnyH_take (i := 1) (v := ?_) rfl (by kernel_rfl) (by kernel_rfl) (by kernel_rfl) (fun _ _ _ h => h) (Or.inl ⟨by rfl, ?_⟩) (by assumption) ?_; rotate_left; (focus (intro w hSw; (try dsimp only at hSw); have kf0 := kept hSw x0; have kf1 := kept hSw x1; have kf2 := kept hSw x2; have kf3 := kept hSw x3; go_simp; first | done | with_reducible rfl)); (try simp only [Act.put, List.getElem_toArray, List.getElem_cons_succ, List.getElem_cons_zero, List.setIfInBounds_toArray, List.set_cons_zero, List.set_cons_succ]))
                    refine wpAnyH_ready (rs := [2]) (by kernel_rfl) (by simp) ?_
                    refine (AllReadyH.cons rfl (fun K0 hK0 => ?_) AllReadyH.nil)
                    go_simp
                    refine (HOX.out _ HQ.out).mono ?_
                    rintro e v1 ⟨A9, c9, rfl, hd9, hlo9, hup9, hb_⟩
                    have D9 := hide hd9
                    clear hd9 hlo9 hup9
                    replace HQ := hide (HQ.out.trans (hb_.mono HQ.out.size))
                    clear hb_
                    refine hK0.out _ _ (HQ.out) (fun _ => ?_)
                    clear hK0 K0
                    (try simp only [Act.put, List.getElem_toArray, List.getElem_cons_succ, List.getElem_cons_zero, List.setIfInBounds_toArray, List.set_cons_zero, List.set_cons_succ])
                    refine wpAnyH_ready (rs := [3]) (by kernel_rfl) (by simp) ?_
                    refine (AllReadyH.cons rfl (fun K1 hK1 => ?_) AllReadyH.nil)
                    go_simp
                    refine (HSX.out _ A9 c9 D9.out HQ.out).mono ?_
                    rintro e v2 ⟨rfl, hb_⟩
                    replace HQ := hide (HQ.out.trans (hb_.mono HQ.out.size))
                    clear hb_
                    refine hK1.out _ _ (HQ.out) (fun _ => ?_)
                    clear hK1 K1
                    (try simp only [Act.put, List.getElem_toArray, List.getElem_cons_succ, List.getElem_cons_zero, List.setIfInBounds_toArray, List.set_cons_zero, List.set_cons_succ])
                    (refine wpAnyH_take (i := 4) (v := ?_) rfl (by kernel_rfl) (by kernel_rfl) (by kernel_rfl) (fun _ _ _ h => h) (Or.inl ⟨by rfl, ?_⟩) (by assumption) ?_; rotate_left; (focus (intro w hSw; (try dsimp only at hSw); go_simp; first | done | with_reducible rfl)); (try simp only [Act.put, List.getElem_toArray, List.getElem_cons_succ, List.getElem_cons_zero, List.setIfInBounds_toArray, List.set_cons_zero, List.set_cons_succ]))
                    (refine wpAnyH_take (i := 6) (v := ?_) rfl (by kernel_rfl) (by kernel_rfl) (by kernel_rfl) (fun _ _ _ h => h) (Or.inl ⟨by rfl, ?_⟩) (by assumption) ?_; rotate_left; (focus (intro w hSw; (try dsimp only at hSw); go_simp; first | done | with_reducible rfl)); (try simp only [Act.put, List.getElem_toArray, List.getElem_cons_succ, List.getElem_cons_zero, List.setIfInBounds_toArray, List.set_cons_zero, List.set_cons_succ]))
                    refine wpAnyH_ready (rs := [5]) (by kernel_rfl) (by simp) ?_
                    refine (AllReadyH.cons rfl (fun K2 hK2 => ?_) AllReadyH.nil)
                    go_simp
                    refine (New_any _).mono ?_
                    rintro e v3 ⟨rfl, hb_⟩
                    replace HQ := hide (HQ.out.trans (hb_.mono HQ.out.size))
                    clear hb_
                    refine hK2.out _ _ (HQ.out) (fun _ => ?_)
                    clear hK2 K2
                    (try simp only [Act.put, List.getElem_toArray, List.getElem_cons_succ, List.getElem_cons_zero, List.setIfInBounds_toArray, List.set_cons_zero, List.set_cons_succ])
                    refine wpAnyH_ready (rs := [7]) (by kernel_rfl) (by simp) ?_
                    refine (AllReadyH.cons rfl (fun K3 hK3 => ?_) AllReadyH.nil)
                    go_simp
                    refine (zero_same _).mono ?_
                    rintro e v4 ⟨rfl, hb_⟩
                    replace HQ := hide (HQ.out.trans (hb_.mono HQ.out.size))
                    clear hb_
                    refine hK3.out _ _ (HQ.out) (fun _ => ?_)
                    clear hK3 K3
                    (try simp only [Act.put, List.getElem_toArray, List.getElem_cons_succ, List.getElem_cons_zero, List.setIfInBounds_toArray, List.set_cons_zero, List.set_cons_succ])
                    (refine wpAnyH_take (i := 8) (v := ?_) rfl (by kernel_rfl) (by kernel_rfl) (by kernel_rfl) (fun _ _ _ h => h) (Or.inl ⟨by rfl, ?_⟩) (by assumption) ?_; rotate_left; (focus (intro w hSw; (try dsimp only at hSw); go_simp; first | done | with_reducible rfl)); (try simp only [Act.put, List.getElem_toArray, List.getElem_cons_succ, List.getElem_cons_zero, List.setIfInBounds_toArray, List.set_cons_zero, List.set_cons_succ]))
                    (refine wpAnyH_take (i := 9) (v := ?_) rfl (by kernel_rfl) (by kernel_rfl) (by kernel_rfl) (fun _ _ _ h => h) (Or.inl ⟨by rfl, ?_⟩) (by assumption) ?_; rotate_left; (focus (intro w hSw; (try dsimp only at hSw); go_simp; first | done | with_reducible rfl)); (try simp only [Act.put, List.getElem_toArray, List.getElem_cons_succ, List.getElem_cons_zero, List.setIfInBounds_toArray, List.set_cons_zero, List.set_cons_succ]))
                    refine wpAnyH_done (by kernel_rfl) ?_ _
                    have HFIN := hide (HT.out.later HQ.out).below
                    clear q0 q1 q2 q3 x0 x1 x2 x3 ql xl HOX HSX HQ D9
                    go_wp2_with fail
                    go_ret
                    exact ⟨rfl, HFIN.out⟩
                  · have h10I : ((j : Int) == 10) = false := by simp; omega
                    clear h10
                    have q0 : wr.cell? ⟨g7, 0, none⟩ = some (.int .u64 (l.cut.E : Int)) := by have := RowAt.cell HT.out.r7 0; simpa [limC] using this
                    have q1 : wr.cell? ⟨g7, 1, none⟩ = some (.slice (A7 0) ((cutN l) 0) (c7 0)) := by have := RowAt.cell HT.out.r7 1; simpa [limC] using this
                    have q2 : wr.cell? ⟨g7, 2, none⟩ = some (.slice (A7 1) ((cutN l) 1) (c7 1)) := by have := RowAt.cell HT.out.r7 2; simpa [limC] using this
                    have q3 : wr.cell? ⟨g7, 3, none⟩ = some (.slice (A7 2) ((cutN l) 2) (c7 2)) := by have := RowAt.cell HT.out.r7 3; simpa [limC] using this
                    have ql := HT.out.r7.lt
                    obtain ⟨at_, is, hr⟩ : ∃ at_ is, whenR l.cut sv = (at_, is) := ⟨_, _, rfl⟩
                    have HWR := hide hr
                    clear hr
                    have HC := hide (when_any wr.heap.size A7 (cutN l) c7 l.cut sv wr HT.out.d7 HEQ.out (Nat.le_refl _) (cut_len l) HG.out at_ is HWR.out)
                    go_wp2_with fail
                    with_reducible refine HC.out.mono ?_
                    rintro e w12 ⟨rfl, hb⟩
                    replace HT := hide (HT.out.later hb)
                    replace HBR := hide (HBR.out.trans (hb.mono HBR.out.size))
                    clear hb HC q0 q1 q2 q3 ql
                    obtain ⟨rfl, rfl⟩ : at_ = 0 ∧ is = false := by have h := HWR.out; unfold whenR at h; rw [HOK.out] at h; simp at h; exact ⟨h.1.symm, h.2⟩
                    go_wp2_with fail
                    go_roundw
                    case rel => exact ⟨j + 1, by omega, by go_num, HBR.out⟩
                    case measure => simp [intOf]; omega
                · obtain rfl : n2 = j := by omega
                  go_wp2_with fail
                  have q0 : wr.cell? ⟨g7, 0, none⟩ = some (.int .u64 (l.cut.E : Int)) := by have := RowAt.cell HT.out.r7 0; simpa [limC] using this
                  have q1 : wr.cell? ⟨g7, 1, none⟩ = some (.slice (A7 0) ((cutN l) 0) (c7 0)) := by have := RowAt.cell HT.out.r7 1; simpa [limC] using this
                  have q2 : wr.cell? ⟨g7, 2, none⟩ = some (.slice (A7 1) ((cutN l) 1) (c7 1)) := by have := RowAt.cell HT.out.r7 2; simpa [limC] using this
                  have q3 : wr.cell? ⟨g7, 3, none⟩ = some (.slice (A7 2) ((cutN l) 2) (c7 2)) := by have := RowAt.cell HT.out.r7 3; simpa [limC] using this
                  have ql := HT.out.r7.lt
                  have x0 : wr.cell? ⟨W.heap.size, 0, none⟩ = some (.int .u64 (l.E : Int)) := by have := RowAt.cell HT.out.x 0; simpa [limC] using this
                  have x1 : wr.cell? ⟨W.heap.size, 1, none⟩ = some (.slice (A 0) (n 0) (c 0)) := by have := RowAt.cell HT.out.x 1; simpa [limC] using this
                  have x2 : wr.cell? ⟨W.heap.size, 2, none⟩ = some (.slice (A 1) (n 1) (c 1)) := by have := RowAt.cell HT.out.x 2; simpa [limC] using this
                  have x3 : wr.cell? ⟨W.heap.size, 3, none⟩ = some (.slice (A 2) (n 2) (c 2)) := by have := RowAt.cell HT.out.x 3; simpa [limC] using this
                  have xl := HT.out.x.lt
                  have HOX := hide (fun (w9 : World) (hb : Below wr.heap.size wr w9) => own_res (HT.out.later hb).hx (Nat.le_trans HT.out.below.size hb.size) HCC.out)
                  have HSX := hide (fun (w9 : World) (A9 : Nat → Option Addr) (c9 : Nat → Nat) (hd : LimRd w9 w9.heap.size A9 (cutN l) l.cut.r) (hb : Below wr.heap.size wr w9) => rsame_any A7 (cutN l) c7 l.cut A9 (cutN l) c9 l.cut w9 (HT.out.later hb).d7 hd (cut_len l) (cut_len l) true (sameB_self _))
                  go_upto_region 35 with (fail)
                  refine wp_region_held_drew (S := fun wX => Below wr.heap.size wr wX) (by kernel_rfl) (Below.refl _ _).drew (fun hHeld => ?_)
                  have HQ := hide ((Below.refl wr.heap.size wr).drew)
                  (refine wpAnyH_take (i := 0) (v := ?_) rfl (by kernel_rfl) (by kernel_rfl) (by kernel_rfl) (fun _ _ _ h => h) (Or.inl ⟨by rfl, ?_⟩) (by assumption) ?_; rotate_left; (focus (intro w hSw; (try dsimp only at hSw); have kf0 := kept hSw q0; have kf1 := kept hSw q1; have kf2 := kept hSw q2; have kf3 := kept hSw q3; go_simp; first | done | with_reducible rfl)); (try simp only [Act.put, List.getElem_toArray, List.getElem_cons_succ, List.getElem_cons_zero, List.setIfInBounds_toArray, List.set_cons_zero, List.set_cons_succ]))
                  (refine wpAnyH_take (i := 1) (v := ?_) rfl (by kernel_rfl) (by kernel_rfl) (by kernel_rfl) (fun _ _ _ h => h) (Or.inl ⟨by rfl, ?_⟩) (by assumption) ?_; rotate_left; (focus (intro w hSw; (try dsimp only at hSw); have kf0 := kept hSw x0; have kf1 := kept hSw x1; have kf2 := kept hSw x2; have kf3 := kept hSw x3; go_simp; first | done | with_reducible rfl)); (try simp only [Act.put, List.getElem_toArray, List.getElem_cons_succ, List.getElem_cons_zero, List.setIfInBounds_toArray, List.set_cons_zero, List.set_cons_succ]))
                  refine wpAnyH_ready (rs := [2]) (by kernel_rfl) (by simp) ?_
                  refine (AllReadyH.cons rfl (fun K0 hK0 => ?_) AllReadyH.nil)
                  go_simp
                  refine (HOX.out _ HQ.out).mono ?_
                  rintro e v1 ⟨A9, c9, rfl, hd9, hlo9, hup9, hb_⟩
                  have D9 := hide hd9
                  clear hd9 hlo9 hup9
                  replace HQ := hide (HQ.out.trans (hb_.mono HQ.out.size))
                  clear hb_
                  refine hK0.out _ _ (HQ.out) (fun _ => ?_)
                  clear hK0 K0
                  (try simp only [Act.put, List.getElem_toArray, List.getElem_cons_succ, List.getElem_cons_zero, List.setIfInBounds_toArray, List.set_cons_zero, List.set_cons_succ])
                  refine wpAnyH_ready (rs := [3]) (by kernel_rfl) (by simp) ?_
                  refine (AllReadyH.cons rfl (fun K1 hK1 => ?_) AllReadyH.nil)
                  go_simp
                  refine (HSX.out _ A9 c9 D9.out HQ.out).mono ?_
                  rintro e v2 ⟨rfl, hb_⟩
                  replace HQ := hide (HQ.out.trans (hb_.mono HQ.out.size))
                  clear hb_
                  refine hK1.out _ _ (HQ.out) (fun _ => ?_)
                  clear hK1 K1
                  (try simp only [Act.put, List.getElem_toArray, List.getElem_cons_succ, List.getElem_cons_zero, List.setIfInBounds_toArray, List.set_cons_zero, List.set_cons_succ])
                  (refine wpAnyH_take (i := 4) (v := ?_) rfl (by kernel_rfl) (by kernel_rfl) (by kernel_rfl) (fun _ _ _ h => h) (Or.inl ⟨by rfl, ?_⟩) (by assumption) ?_; rotate_left; (focus (intro w hSw; (try dsimp only at hSw); go_simp; first | done | with_reducible rfl)); (try simp only [Act.put, List.getElem_toArray, List.getElem_cons_succ, List.getElem_cons_zero, List.setIfInBounds_toArray, List.set_cons_zero, List.set_cons_succ]))
                  (refine wpAnyH_take (i := 6) (v := ?_) rfl (by kernel_rfl) (by kernel_rfl) (by kernel_rfl) (fun _ _ _ h => h) (Or.inl ⟨by rfl, ?_⟩) (by assumption) ?_; rotate_left; (focus (intro w hSw; (try dsimp only at hSw); go_simp; first | done | with_reducible rfl)); (try simp only [Act.put, List.getElem_toArray, List.getElem_cons_succ, List.getElem_cons_zero, List.setIfInBounds_toArray, List.set_cons_zero, List.set_cons_succ]))
                  refine wpAnyH_ready (rs := [5]) (by kernel_rfl) (by simp) ?_
                  refine (AllReadyH.cons rfl (fun K2 hK2 => ?_) AllReadyH.nil)
                  go_simp
                  refine (New_any _).mono ?_
                  rintro e v3 ⟨rfl, hb_⟩
                  replace HQ := hide (HQ.out.trans (hb_.mono HQ.out.size))
                  clear hb_
                  refine hK2.out _ _ (HQ.out) (fun _ => ?_)
                  clear hK2 K2
                  (try simp only [Act.put, List.getElem_toArray, List.getElem_cons_succ, List.getElem_cons_zero, List.setIfInBounds_toArray, List.set_cons_zero, List.set_cons_succ])
                  refine wpAnyH_ready (rs := [7]) (by kernel_rfl) (by simp) ?_
                  refine (AllReadyH.cons rfl (fun K3 hK3 => ?_) AllReadyH.nil)
                  go_simp
                  refine (zero_same _).mono ?_
                  rintro e v4 ⟨rfl, hb_⟩
                  replace HQ := hide (HQ.out.trans (hb_.mono HQ.out.size))
                  clear hb_
                  refine hK3.out _ _ (HQ.out) (fun _ => ?_)
                  clear hK3 K3
                  (try simp only [Act.put, List.getElem_toArray, List.getElem_cons_succ, List.getElem_cons_zero, List.setIfInBounds_toArray, List.set_cons_zero, List.set_cons_succ])
                  (refine wpAnyH_take (i := 8) (v := ?_) rfl (by kernel_rfl) (by kernel_rfl) (by kernel_rfl) (fun _ _ _ h => h) (Or.inl ⟨by rfl, ?_⟩) (by assumption) ?_; rotate_left; (focus (intro w hSw; (try dsimp only at hSw); go_simp; first | done | with_reducible rfl)); (try simp only [Act.put, List.getElem_toArray, List.getElem_cons_succ, List.getElem_cons_zero, List.setIfInBounds_toArray, List.set_cons_zero, List.set_cons_succ]))
                  (refine wpAnyH_take (i := 9) (v := ?_) rfl (by kernel_rfl) (by kernel_rfl) (by kernel_rfl) (fun _ _ _ h => h) (Or.inl ⟨by rfl, ?_⟩) (by assumption) ?_; rotate_left; (focus (intro w hSw; (try dsimp only at hSw); go_simp; first | done | with_reducible rfl)); (try simp only [Act.put, List.getElem_toArray, List.getElem_cons_succ, List.getElem_cons_zero, List.setIfInBounds_toArray, List.set_cons_zero, List.set_cons_succ]))
                  refine wpAnyH_done (by kernel_rfl) ?_ _
                  have HFIN := hide (HT.out.later HQ.out).below
                  clear q0 q1 q2 q3 x0 x1 x2 x3 ql xl HOX HSX HQ D9
                  go_wp2_with fail
                  go_ret
                  exact ⟨rfl, HFIN.out⟩
    | true =>
      have HOK := hide hok
      clear hok
      have q0 : w2.cell? ⟨g7, 0, none⟩ = some (.int .u64 (l.cut.E : Int)) := by have := RowAt.cell HT.out.r7 0; simpa [limC] using this
      have q1 : w2.cell? ⟨g7, 1, none⟩ = some (.slice (A7 0) ((cutN l) 0) (c7 0)) := by have := RowAt.cell HT.out.r7 1; simpa [limC] using this
      have q2 : w2.cell? ⟨g7, 2, none⟩ = some (.slice (A7 1) ((cutN l) 1) (c7 1)) := by have := RowAt.cell HT.out.r7 2; simpa [limC] using this
      have q3 : w2.cell? ⟨g7, 3, none⟩ = some (.slice (A7 2) ((cutN l) 2) (c7 2)) := by have := RowAt.cell HT.out.r7 3; simpa [limC] using this
      have ql := HT.out.r7.lt
      have HC := hide (right_any A7 (cutN l) c7 l.cut w2 HT.out.d7 HEQ.out (cut_len l) true HOK.out)
      go_wp2_with fail
      with_reducible refine HC.out.mono ?_
      rintro e w3 ⟨rfl, hb⟩
      replace HT := hide (HT.out.later hb)
      clear q0 q1 q2 q3 ql HC hb
      have q0 : w3.cell? ⟨g7, 0, none⟩ = some (.int .u64 (l.cut.E : Int)) := by have := RowAt.cell HT.out.r7 0; simpa [limC] using this
      have q1 : w3.cell? ⟨g7, 1, none⟩ = some (.slice (A7 0) ((cutN l) 0) (c7 0)) := by have := RowAt.cell HT.out.r7 1; simpa [limC] using this
      have q2 : w3.cell? ⟨g7, 2, none⟩ = some (.slice (A7 1) ((cutN l) 1) (c7 1)) := by have := RowAt.cell HT.out.r7 2; simpa [limC] using this
      have q3 : w3.cell? ⟨g7, 3, none⟩ = some (.slice (A7 2) ((cutN l) 2) (c7 2)) := by have := RowAt.cell HT.out.r7 3; simpa [limC] using this
      have ql := HT.out.r7.lt
      have HC := hide (check_any w3.heap.size A7 (cutN l) c7 l.cut w3 HT.out.d7 HEQ.out (Nat.le_refl _) (cut_len l) HG.out 0 (by rw [HOK.out]; rfl))
      go_wp2_with fail
      with_reducible refine HC.out.mono ?_
      rintro e w4 ⟨rfl, hb⟩
      replace HT := hide (HT.out.later hb)
      clear q0 q1 q2 q3 ql HC hb
      have q0 : w4.cell? ⟨g7, 0, none⟩ = some (.int .u64 (l.cut.E : Int)) := by have := RowAt.cell HT.out.r7 0; simpa [limC] using this
      have q1 : w4.cell? ⟨g7, 1, none⟩ = some (.slice (A7 0) ((cutN l) 0) (c7 0)) := by have := RowAt.cell HT.out.r7 1; simpa [limC] using this
      have q2 : w4.cell? ⟨g7, 2, none⟩ = some (.slice (A7 1) ((cutN l) 1) (c7 1)) := by have := RowAt.cell HT.out.r7 2; simpa [limC] using this
      have q3 : w4.cell? ⟨g7, 3, none⟩ = some (.slice (A7 2) ((cutN l) 2) (c7 2)) := by have := RowAt.cell HT.out.r7 3; simpa [limC] using this
      have ql := HT.out.r7.lt
      have p0 : w4.cell? ⟨g8, 0, none⟩ = some (.int .u64 (l1.cut.E : Int)) := by have := RowAt.cell HT.out.r8 0; simpa [limC] using this
      have p1 : w4.cell? ⟨g8, 1, none⟩ = some (.slice (A8 0) ((cutN l1) 0) (c8 0)) := by have := RowAt.cell HT.out.r8 1; simpa [limC] using this
      have p2 : w4.cell? ⟨g8, 2, none⟩ = some (.slice (A8 1) ((cutN l1) 1) (c8 1)) := by have := RowAt.cell HT.out.r8 2; simpa [limC] using this
      have p3 : w4.cell? ⟨g8, 3, none⟩ = some (.slice (A8 2) ((cutN l1) 2) (c8 2)) := by have := RowAt.cell HT.out.r8 3; simpa [limC] using this
      have pl := HT.out.r8.lt
      have x0 : w4.cell? ⟨W.heap.size, 0, none⟩ = some (.int .u64 (l.E : Int)) := by have := RowAt.cell HT.out.x 0; simpa [limC] using this
      have x1 : w4.cell? ⟨W.heap.size, 1, none⟩ = some (.slice (A 0) (n 0) (c 0)) := by have := RowAt.cell HT.out.x 1; simpa [limC] using this
      have x2 : w4.cell? ⟨W.heap.size, 2, none⟩ = some (.slice (A 1) (n 1) (c 1)) := by have := RowAt.cell HT.out.x 2; simpa [limC] using this
      have x3 : w4.cell? ⟨W.heap.size, 3, none⟩ = some (.slice (A 2) (n 2) (c 2)) := by have := RowAt.cell HT.out.x 3; simpa [limC] using this
      have xl := HT.out.x.lt
      have HSM := hide (fun (w : World) (hb : Below w4.heap.size w4 w) => same_any A7 (cutN l) c7 l.cut A8 (cutN l1) c8 l1.cut w (HT.out.later hb).d7 (HT.out.later hb).d8 (cut_len l) (cut_len l1) q6 HQ6.out)
      have HRS2 := hide (fun (w : World) (hb : Below w4.heap.size w4 w) => rsame_any A7 (cutN l) c7 l.cut A8 (cutN l1) c8 l1.cut w (HT.out.later hb).d7 (HT.out.later hb).d8 (cut_len l) (cut_len l1) q6 HQ6.out)
      have HOX := hide (fun (w : World) (hb : Below w4.heap.size w4 w) => own_res (HT.out.later hb).hx (Nat.le_trans HT.out.below.size hb.size) HCC.out)
      have HSX := hide (fun (w : World) (A9 : Nat → Option Addr) (c9 : Nat → Nat) (hd : LimRd w w.heap.size A9 (cutN l) l.cut.r) (hb : Below w4.heap.size w4 w) => same_any A7 (cutN l) c7 l.cut A9 (cutN l) c9 l.cut w (HT.out.later hb).d7 hd (cut_len l) (cut_len l) true (sameB_self _))
      go_upto_region 6 with (fail)
      refine wp_region_held_drew (S := fun wX => Below w4.heap.size w4 wX) (by kernel_rfl) (Below.refl _ _).drew (fun hHeld => ?_)
      have HQ := hide ((Below.refl w4.heap.size w4).drew)
      (refine wpAnyH_take (i := 0) (v := ?_) rfl (by kernel_rfl) (by kernel_rfl) (by kernel_rfl) (fun _ _ _ h => h) (Or.inl ⟨by rfl, ?_⟩) (by assumption) ?_; rotate_left; (focus (intro w hSw; (try dsimp only at hSw); go_simp; first | done | with_reducible rfl)); (try simp only [Act.put, List.getElem_toArray, List.getElem_cons_succ, List.getElem_cons_zero, List.setIfInBounds_toArray, List.set_cons_zero, List.set_cons_succ]))
      (refine wpAnyH_take (i := 1) (v := ?_) rfl (by kernel_rfl) (by kernel_rfl) (by kernel_rfl) (fun _ _ _ h => h) (Or.inl ⟨by rfl, ?_⟩) (by assumption) ?_; rotate_left; (focus (intro w hSw; (try dsimp only at hSw); go_simp; first | done | with_reducible rfl)); (try simp only [Act.put, List.getElem_toArray, List.getElem_cons_succ, List.getElem_cons_zero, List.setIfInBounds_toArray, List.set_cons_zero, List.set_cons_succ]))
      (refine wpAnyH_take (i := 2) (v := ?_) rfl (by kernel_rfl) (by kernel_rfl) (by kernel_rfl) (fun _ _ _ h => h) (Or.inl ⟨by rfl, ?_⟩) (by assumption) ?_; rotate_left; (focus (intro w hSw; (try dsimp only at hSw); go_simp; first | done | with_reducible rfl)); (try simp only [Act.put, List.getElem_toArray, List.getElem_cons_succ, List.getElem_cons_zero, List.setIfInBounds_toArray, List.set_cons_zero, List.set_cons_succ]))
      (refine wpAnyH_take (i := 3) (v := ?_) rfl (by kernel_rfl) (by kernel_rfl) (by kernel_rfl) (fun _ _ _ h => h) (Or.inl ⟨by rfl, ?_⟩) (by assumption) ?_; rotate_left; (focus (intro w hSw; (try dsimp only at hSw); go_simp; first | done | with_reducible rfl)); (try simp only [Act.put, List.getElem_toArray, List.getElem_cons_succ, List.getElem_cons_zero, List.setIfInBounds_toArray, List.set_cons_zero, List.set_cons_succ]))
      (refine wpAnyH_take (i := 4) (v := ?_) rfl (by kernel_rfl) (by kernel_rfl) (by kernel_rfl) (fun _ _ _ h => h) (Or.inl ⟨by rfl, ?_⟩) (by assumption) ?_; rotate_left; (focus (intro w hSw; (try dsimp only at hSw); go_simp; first | done | with_reducible rfl)); (try simp only [Act.put, List.getElem_toArray, List.getElem_cons_succ, List.getElem_cons_zero, List.setIfInBounds_toArray, List.set_cons_zero, List.set_cons_succ]))
      (refine wpAnyH_take (i := 5) (v := ?_) rfl (by kernel_rfl) (by kernel_rfl) (by kernel_rfl) (fun _ _ _ h => h) (Or.inl ⟨by rfl, ?_⟩) (by assumption) ?_; rotate_left; (focus (intro w hSw; (try dsimp only at hSw); go_simp; first | done | with_reducible rfl)); (try simp only [Act.put, List.getElem_toArray, List.getElem_cons_succ, List.getElem_cons_zero, List.setIfInBounds_toArray, List.set_cons_zero, List.set_cons_succ]))
      (refine wpAnyH_take (i := 6) (v := ?_) rfl (by kernel_rfl) (by kernel_rfl) (by kernel_rfl) (fun _ _ _ h => h) (Or.inl ⟨by rfl, ?_⟩) (by assumption) ?_; rotate_left; (focus (intro w hSw; (try dsimp only at hSw); go_simp; first | done | with_reducible rfl)); (try simp only [Act.put, List.getElem_toArray, List.getElem_cons_succ, List.getElem_cons_zero, List.setIfInBounds_toArray, List.set_cons_zero, List.set_cons_succ]))
      (refine wpAnyH_take (i := 7) (v := ?_) rfl (by kernel_rfl) (by kernel_rfl) (by kernel_rfl) (fun _ _ _ h => h) (Or.inl ⟨by rfl, ?_⟩) (by assumption) ?_; rotate_left; (focus (intro w hSw; (try dsimp only at hSw); go_simp; first | done | with_reducible rfl)); (try simp only [Act.put, List.getElem_toArray, List.getElem_cons_succ, List.getElem_cons_zero, List.setIfInBounds_toArray, List.set_cons_zero, List.set_cons_succ]))
      (refine wpAnyH_take (i := 8) (v := undef) rfl (by kernel_rfl) (by kernel_rfl) (by kernel_rfl) (fun _ _ _ h => h) (Or.inr ⟨by rfl, rfl⟩) (by assumption) ?_; (try simp only [Act.put, List.getElem_toArray, List.getElem_cons_succ, List.getElem_cons_zero, List.setIfInBounds_toArray, List.set_cons_zero, List.set_cons_succ]))
      (refine wpAnyH_take (i := 9) (v := undef) rfl (by kernel_rfl) (by kernel_rfl) (by kernel_rfl) (fun _ _ _ h => h) (Or.inr ⟨by rfl, rfl⟩) (by assumption) ?_; (try simp only [Act.put, List.getElem_toArray, List.getElem_cons_succ, List.getElem_cons_zero, List.setIfInBounds_toArray, List.set_cons_zero, List.set_cons_succ]))
      (refine wpAnyH_take (i := 10) (v := ?_) rfl (by kernel_rfl) (by kernel_rfl) (by kernel_rfl) (fun _ _ _ h => h) (Or.inl ⟨by rfl, ?_⟩) (by assumption) ?_; rotate_left; (focus (intro w hSw; (try dsimp only at hSw); go_simp; first | done | with_reducible rfl)); (try simp only [Act.put, List.getElem_toArray, List.getElem_cons_succ, List.getElem_cons_zero, List.setIfInBounds_toArray, List.set_cons_zero, List.set_cons_succ]))
      (refine wpAnyH_take (i := 11) (v := ?_) rfl (by kernel_rfl) (by kernel_rfl) (by kernel_rfl) (fun _ _ _ h => h) (Or.inl ⟨by rfl, ?_⟩) (by assumption) ?_; rotate_left; (focus (intro w hSw; (try dsimp only at hSw); go_simp; first | done | with_reducible rfl)); (try simp only [Act.put, List.getElem_toArray, List.getElem_cons_succ, List.getElem_cons_zero, List.setIfInBounds_toArray, List.set_cons_zero, List.set_cons_succ]))
      (refine wpAnyH_take (i := 12) (v := ?_) rfl (by kernel_rfl) (by kernel_rfl) (by kernel_rfl) (fun _ _ _ h => h) (Or.inl ⟨by rfl, ?_⟩) (by assumption) ?_; rotate_left; (focus (intro w hSw; (try dsimp only at hSw); go_simp; first | done | with_reducible rfl)); (try simp only [Act.put, List.getElem_toArray, List.getElem_cons_succ, List.getElem_cons_zero, List.setIfInBounds_toArray, List.set_cons_zero, List.set_cons_succ]))
      (refine wpAnyH_take (i := 13) (v := ?_) rfl (by kernel_rfl) (by kernel_rfl) (by kernel_rfl) (fun _ _ _ h => h) (Or.inl ⟨by rfl, ?_⟩) (by assumption) ?_; rotate_left; (focus (intro w hSw; (try dsimp only at hSw); have kf0 := kept hSw q0; have kf1 := kept hSw q1; have kf2 := kept hSw q2; have kf3 := kept hSw q3; go_simp; first | done | with_reducible rfl)); (try simp only [Act.put, List.getElem_toArray, List.getElem_cons_succ, List.getElem_cons_zero, List.setIfInBounds_toArray, List.set_cons_zero, List.set_cons_succ]))
      (refine wpAnyH_take (i := 14) (v := ?_) rfl (by kernel_rfl) (by kernel_rfl) (by kernel_rfl) (fun _ _ _ h => h) (Or.inl ⟨by rfl, ?_⟩) (by assumption) ?_; rotate_left; (focus (intro w hSw; (try dsimp only at hSw); have kf0 := kept hSw p0; have kf1 := kept hSw p1; have kf2 := kept hSw p2; have kf3 := kept hSw p3; go_simp; first | done | with_reducible rfl)); (try simp only [Act.put, List.getElem_toArray, List.getElem_cons_succ, List.getElem_cons_zero, List.setIfInBounds_toArray, List.set_cons_zero, List.set_cons_succ]))
      (refine wpAnyH_take (i := 16) (v := ?_) rfl (by kernel_rfl) (by kernel_rfl) (by kernel_rfl) (fun _ _ _ h => h) (Or.inl ⟨by rfl, ?_⟩) (by assumption) ?_; rotate_left; (focus (intro w hSw; (try dsimp only at hSw); have kf0 := kept hSw q0; have kf1 := kept hSw q1; have kf2 := kept hSw q2; have kf3 := kept hSw q3; go_simp; first | done | with_reducible rfl)); (try simp only [Act.put, List.getElem_toArray, List.getElem_cons_succ, List.getElem_cons_zero, List.setIfInBounds_toArray, List.set_cons_zero, List.set_cons_succ]))
      (refine wpAnyH_take (i := 17) (v := ?_) rfl (by kernel_rfl) (by kernel_rfl) (by kernel_rfl) (fun _ _ _ h => h) (Or.inl ⟨by rfl, ?_⟩) (by assumption) ?_; rotate_left; (focus (intro w hSw; (try dsimp only at hSw); have kf0 := kept hSw p0; have kf1 := kept hSw p1; have kf2 := kept hSw p2; have kf3 := kept hSw p3; go_simp; first | done | with_reducible rfl)); (try simp only [Act.put, List.getElem_toArray, List.getElem_cons_succ, List.getElem_cons_zero, List.setIfInBounds_toArray, List.set_cons_zero, List.set_cons_succ]))
      refine wpAnyH_ready (rs := [15]) (by kernel_rfl) (by simp) ?_
      refine (AllReadyH.cons rfl (fun K0 hK0 => ?_) AllReadyH.nil)
      go_simp
      refine (HSM.out _ HQ.out).mono ?_
      rintro e u1 ⟨rfl, hb_⟩
      replace HQ := hide (HQ.out.trans (hb_.mono HQ.out.size))
      clear hb_
      refine hK0.out _ _ (HQ.out) (fun _ => ?_)
      clear hK0 K0
      (try simp only [Act.put, List.getElem_toArray, List.getElem_cons_succ, List.getElem_cons_zero, List.setIfInBounds_toArray, List.set_cons_zero, List.set_cons_succ])
      refine wpAnyH_ready (rs := [18]) (by kernel_rfl) (by simp) ?_
      refine (AllReadyH.cons rfl (fun K1 hK1 => ?_) AllReadyH.nil)
      go_simp
      refine (HRS2.out _ HQ.out).mono ?_
      rintro e u2 ⟨rfl, hb_⟩
      replace HQ := hide (HQ.out.trans (hb_.mono HQ.out.size))
      clear hb_
      refine hK1.out _ _ (HQ.out) (fun _ => ?_)
      clear hK1 K1
      (try simp only [Act.put, List.getElem_toArray, List.getElem_cons_succ, List.getElem_cons_zero, List.setIfInBounds_toArray, List.set_cons_zero, List.set_cons_succ])
      have hqq : (q6 != q6) = false := by simp
      (refine wpAnyH_take (i := 19) (v := ?_) rfl (by kernel_rfl) (by kernel_rfl) (by kernel_rfl) (fun _ _ _ h => h) (Or.inl ⟨by rfl, ?_⟩) (by assumption) ?_; rotate_left; (focus (intro w hSw; (try dsimp only at hSw); go_simp; first | done | with_reducible rfl)); (try simp only [Act.put, List.getElem_toArray, List.getElem_cons_succ, List.getElem_cons_zero, List.setIfInBounds_toArray, List.set_cons_zero, List.set_cons_succ]))
      (refine wpAnyH_take (i := 20) (v := ?_) rfl (by kernel_rfl) (by kernel_rfl) (by kernel_rfl) (fun _ _ _ h => h) (Or.inl ⟨by rfl, ?_⟩) (by assumption) ?_; rotate_left; (focus (intro w hSw; (try dsimp only at hSw); go_simp; first | done | with_reducible rfl)); (try simp only [Act.put, List.getElem_toArray, List.getElem_cons_succ, List.getElem_cons_zero, List.setIfInBounds_toArray, List.set_cons_zero, List.set_cons_succ]))
      (refine wpAnyH_take (i := 21) (v := ?_) rfl (by kernel_rfl) (by kernel_rfl) (by kernel_rfl) (fun _ _ _ h => h) (Or.inl ⟨by rfl, ?_⟩) (by assumption) ?_; rotate_left; (focus (intro w hSw; (try dsimp only at hSw); go_simp; first | done | with_reducible rfl)); (try simp only [Act.put, List.getElem_toArray, List.getElem_cons_succ, List.getElem_cons_zero, List.setIfInBounds_toArray, List.set_cons_zero, List.set_cons_succ]))
      clear hqq
      (refine wpAnyH_take (i := 22) (v := ?_) rfl (by kernel_rfl) (by kernel_rfl) (by kernel_rfl) (fun _ _ _ h => h) (Or.inl ⟨by rfl, ?_⟩) (by assumption) ?_; rotate_left; (focus (intro w hSw; (try dsimp only at hSw); have kf0 := kept hSw q0; have kf1 := kept hSw q1; have kf2 := kept hSw q2; have kf3 := kept hSw q3; go_simp; first | done | with_reducible rfl)); (try simp only [Act.put, List.getElem_toArray, List.getElem_cons_succ, List.getElem_cons_zero, List.setIfInBounds_toArray, List.set_cons_zero, List.set_cons_succ]))
      (refine wpAnyH_take (i := 23) (v := ?_) rfl (by kernel_rfl) (by kernel_rfl) (by kernel_rfl) (fun _ _ _ h => h) (Or.inl ⟨by rfl, ?_⟩) (by assumption) ?_; rotate_left; (focus (intro w hSw; (try dsimp only at hSw); have kf0 := kept hSw x0; have kf1 := kept hSw x1; have kf2 := kept hSw x2; have kf3 := kept hSw x3; go_simp; first | done | with_reducible rfl)); (try simp only [Act.put, List.getElem_toArray, List.getElem_cons_succ, List.getElem_cons_zero, List.setIfInBounds_toArray, List.set_cons_zero, List.set_cons_succ]))
      refine wpAnyH_ready (rs := [24]) (by kernel_rfl) (by simp) ?_
      refine (AllReadyH.cons rfl (fun K2 hK2 => ?_) AllReadyH.nil)
      go_simp
      refine (HOX.out _ HQ.out).mono ?_
      rintro e u3 ⟨A9, c9, rfl, hd9, hlo9, hup9, hb_⟩
      have D9 := hide hd9
      clear hd9 hlo9 hup9
      replace HQ := hide (HQ.out.trans (hb_.mono HQ.out.size))
      clear hb_
      refine hK2.out _ _ (HQ.out) (fun _ => ?_)
      clear hK2 K2
      (try simp only [Act.put, List.getElem_toArray, List.getElem_cons_succ, List.getElem_cons_zero, List.setIfInBounds_toArray, List.set_cons_zero, List.set_cons_succ])
      refine wpAnyH_ready (rs := [25]) (by kernel_rfl) (by simp) ?_
      refine (AllReadyH.cons rfl (fun K3 hK3 => ?_) AllReadyH.nil)
      go_simp
      refine (HSX.out _ A9 c9 D9.out HQ.out).mono ?_
      rintro e u4 ⟨rfl, hb_⟩
      replace HQ := hide (HQ.out.trans (hb_.mono HQ.out.size))
      clear hb_
      refine hK3.out _ _ (HQ.out) (fun _ => ?_)
      clear hK3 K3
      (try simp only [Act.put, List.getElem_toArray, List.getElem_cons_succ, List.getElem_cons_zero, List.setIfInBounds_toArray, List.set_cons_zero, List.set_cons_succ])
      (refine wpAnyH_take (i := 26) (v := ?_) rfl (by kernel_rfl) (by kernel_rfl) (by kernel_rfl) (fun _ _ _ h => h) (Or.inl ⟨by rfl, ?_⟩) (by assumption) ?_; rotate_left; (focus (intro w hSw; (try dsimp only at hSw); go_simp; first | done | with_reducible rfl)); (try simp only [Act.put, List.getElem_toArray, List.getElem_cons_succ, List.getElem_cons_zero, List.setIfInBounds_toArray, List.set_cons_zero, List.set_cons_succ]))
      (refine wpAnyH_take (i := 27) (v := ?_) rfl (by kernel_rfl) (by kernel_rfl) (by kernel_rfl) (fun _ _ _ h => h) (Or.inl ⟨by rfl, ?_⟩) (by assumption) ?_; rotate_left; (focus (intro w hSw; (try dsimp only at hSw); go_simp; first | done | with_reducible rfl)); (try simp only [Act.put, List.getElem_toArray, List.getElem_cons_succ, List.getElem_cons_zero, List.setIfInBounds_toArray, List.set_cons_zero, List.set_cons_succ]))
      refine wpAnyH_done (by kernel_rfl) ?_ _
      replace HT := hide (HT.out.later HQ.out)
      clear q0 q1 q2 q3 ql p0 p1 p2 p3 pl x0 x1 x2 x3 xl HSM HRS2 HOX HSX HQ D9
      have q0 : u4.cell? ⟨g7, 0, none⟩ = some (.int .u64 (l.cut.E : Int)) := by have := RowAt.cell HT.out.r7 0; simpa [limC] using this
      have q1 : u4.cell? ⟨g7, 1, none⟩ = some (.slice (A7 0) ((cutN l) 0) (c7 0)) := by have := RowAt.cell HT.out.r7 1; simpa [limC] using this
      have q2 : u4.cell? ⟨g7, 2, none⟩ = some (.slice (A7 1) ((cutN l) 1) (c7 1)) := by have := RowAt.cell HT.out.r7 2; simpa [limC] using this
      have q3 : u4.cell? ⟨g7, 3, none⟩ = some (.slice (A7 2) ((cutN l) 2) (c7 2)) := by have := RowAt.cell HT.out.r7 3; simpa [limC] using this
      have ql := HT.out.r7.lt
      have HOF := hide (fun (w : World) => of_two (A := A7) (n := cutN l) (c := c7) HEQ.out w)
      have HRH := hide (fun (w : World) (hb : Below u4.heap.size u4 w) => row_res (rheld_any A7 (cutN l) c7 l.cut w (HT.out.later hb).d7 HEQ.out (cut_len l)) rfl)
      go_upto_region 10 with (fail)
      refine wp_region_held_drew (S := fun wX => Below u4.heap.size u4 wX) (by kernel_rfl) (Below.refl _ _).drew (fun hHeld => ?_)
      have HQ := hide ((Below.refl u4.heap.size u4).drew)
      (refine wpAnyH_take (i := 0) (v := ?_) rfl (by kernel_rfl) (by kernel_rfl) (by kernel_rfl) (fun _ _ _ h => h) (Or.inl ⟨by rfl, ?_⟩) (by assumption) ?_; rotate_left; (focus (intro w hSw; (try dsimp only at hSw); have kf0 := kept hSw q0; have kf1 := kept hSw q1; have kf2 := kept hSw q2; have kf3 := kept hSw q3; go_simp; first | done | with_reducible rfl)); (try simp only [Act.put, List.getElem_toArray, List.getElem_cons_succ, List.getElem_cons_zero, List.setIfInBounds_toArray, List.set_cons_zero, List.set_cons_succ]))
      (refine wpAnyH_take (i := 2) (v := ?_) rfl (by kernel_rfl) (by kernel_rfl) (by kernel_rfl) (fun _ _ _ h => h) (Or.inl ⟨by rfl, ?_⟩) (by assumption) ?_; rotate_left; (focus (intro w hSw; (try dsimp only at hSw); have kf0 := kept hSw q0; have kf1 := kept hSw q1; have kf2 := kept hSw q2; have kf3 := kept hSw q3; go_simp; first | done | with_reducible rfl)); (try simp only [Act.put, List.getElem_toArray, List.getElem_cons_succ, List.getElem_cons_zero, List.setIfInBounds_toArray, List.set_cons_zero, List.set_cons_succ]))
      refine wpAnyH_ready (rs := [1]) (by kernel_rfl) (by simp) ?_
      refine (AllReadyH.cons rfl (fun K0 hK0 => ?_) AllReadyH.nil)
      go_simp
      refine (HOF.out _).mono ?_
      rintro e u5 ⟨rfl, hb_⟩
      replace HQ := hide (HQ.out.trans (hb_.mono HQ.out.size))
      clear hb_
      refine hK0.out _ _ (HQ.out) (fun _ => ?_)
      clear hK0 K0
      (try simp only [Act.put, List.getElem_toArray, List.getElem_cons_succ, List.getElem_cons_zero, List.setIfInBounds_toArray, List.set_cons_zero, List.set_cons_succ])
      refine wpAnyH_ready (rs := [3]) (by kernel_rfl) (by simp) ?_
      refine (AllReadyH.cons rfl (fun K1 hK1 => ?_) AllReadyH.nil)
      go_simp
      refine (HRH.out _ HQ.out).mono ?_
      rintro e u6 ⟨Ah, ch, rfl, hrh, _, hb_⟩
      have HRB := hide hrh
      clear hrh
      replace HQ := hide (HQ.out.trans (hb_.mono HQ.out.size))
      clear hb_
      refine hK1.out _ _ (HQ.out) (fun _ => ?_)
      clear hK1 K1
      (try simp only [Act.put, List.getElem_toArray, List.getElem_cons_succ, List.getElem_cons_zero, List.setIfInBounds_toArray, List.set_cons_zero, List.set_cons_succ])
      (refine wpAnyH_take (i := 4) (v := ?_) rfl (by kernel_rfl) (by kernel_rfl) (by kernel_rfl) (fun _ _ _ h => h) (Or.inl ⟨by rfl, ?_⟩) (by assumption) ?_; rotate_left; (focus (intro w hSw; (try dsimp only at hSw); go_simp; first | done | with_reducible rfl)); (try simp only [Act.put, List.getElem_toArray, List.getElem_cons_succ, List.getElem_cons_zero, List.setIfInBounds_toArray, List.set_cons_zero, List.set_cons_succ]))
      (refine wpAnyH_take (i := 5) (v := ?_) rfl (by kernel_rfl) (by kernel_rfl) (by kernel_rfl) (fun _ _ _ h => h) (Or.inl ⟨by rfl, ?_⟩) (by assumption) ?_; rotate_left; (focus (intro w hSw; (try dsimp only at hSw); go_simp; first | done | with_reducible rfl)); (try simp only [Act.put, List.getElem_toArray, List.getElem_cons_succ, List.getElem_cons_zero, List.setIfInBounds_toArray, List.set_cons_zero, List.set_cons_succ]))
      refine wpAnyH_done (by kernel_rfl) ?_ _
      replace HT := hide (HT.out.later HQ.out)
      clear q0 q1 q2 q3 ql HOF HRH HQ
      have HRA := hide ((of_rd HT.out.d7 2).1)
      have HLA := hide (of_rd HT.out.d7 2).2
      have HLB : Hid ((heldL l.cut).length = (heldL l.cut).length) := hide rfl
      have HEA : Hid (ofL l.cut 2 = l.cut.at 2) := hide (ofL_ok HOK.out)
      have HEB : Hid (heldL l.cut = l.cut.held) := hide (heldL_ok HOK.out)
      have HLC : Hid ((l.cut.at 2).length ≤ 4096) := hide (by have := at_len HOK.out 2; omega)
      have HLD2 : Hid (l.cut.held.length ≤ 4096) := hide (by have := ok_held_len HOK.out; omega)
      have q0 : u6.cell? ⟨g7, 0, none⟩ = some (.int .u64 (l.cut.E : Int)) := by have := RowAt.cell HT.out.r7 0; simpa [limC] using this
      have q1 : u6.cell? ⟨g7, 1, none⟩ = some (.slice (A7 0) ((cutN l) 0) (c7 0)) := by have := RowAt.cell HT.out.r7 1; simpa [limC] using this
      have q2 : u6.cell? ⟨g7, 2, none⟩ = some (.slice (A7 1) ((cutN l) 1) (c7 1)) := by have := RowAt.cell HT.out.r7 2; simpa [limC] using this
      have q3 : u6.cell? ⟨g7, 3, none⟩ = some (.slice (A7 2) ((cutN l) 2) (c7 2)) := by have := RowAt.cell HT.out.r7 3; simpa [limC] using this
      have ql := HT.out.r7.lt
      obtain ⟨nr, hnr⟩ : ∃ k, (l.cut.at 2).length = k := ⟨_, rfl⟩
      obtain ⟨nh, hnh⟩ : ∃ k, (l.cut.held).length = k := ⟨_, rfl⟩
      have HNR := hide hnr
      have HNH := hide hnh
      have hnr2 : (nr : Int) ≤ 4096 := by have := HLC.out; omega
      have hnh2 : (nh : Int) ≤ 4096 := by have := HLD2.out; omega
      clear hnr hnh
      have HRY := hide (fun (w : World) (hb : Below u6.heap.size u6 w) => row_res (ready_any w.heap.size A7 (cutN l) c7 l.cut w (HT.out.later hb).d7 HEQ.out (Nat.le_refl _) (cut_len l) HG.out (l.cut.at 2) (by rw [HOK.out]; rfl)) HNR.out)
      have HHL := hide (fun (w : World) (hb : Below u6.heap.size u6 w) => row_res (held_any w.heap.size A7 (cutN l) c7 l.cut w (HT.out.later hb).d7 HEQ.out (Nat.le_refl _) (cut_len l) HG.out (l.cut.held) (by rw [HOK.out]; rfl)) HNH.out)
      go_upto_region 11 with (fail)
      refine wp_region_held_drew (S := fun wX => Below u6.heap.size u6 wX) (by kernel_rfl) (Below.refl _ _).drew (fun hHeld => ?_)
      have HQ := hide ((Below.refl u6.heap.size u6).drew)
      (refine wpAnyH_take (i := 0) (v := ?_) rfl (by kernel_rfl) (by kernel_rfl) (by kernel_rfl) (fun _ _ _ h => h) (Or.inl ⟨by rfl, ?_⟩) (by assumption) ?_; rotate_left; (focus (intro w hSw; (try dsimp only at hSw); have kf0 := kept hSw q0; have kf1 := kept hSw q1; have kf2 := kept hSw q2; have kf3 := kept hSw q3; go_simp; first | done | with_reducible rfl)); (try simp only [Act.put, List.getElem_toArray, List.getElem_cons_succ, List.getElem_cons_zero, List.setIfInBounds_toArray, List.set_cons_zero, List.set_cons_succ]))
      (refine wpAnyH_take (i := 2) (v := ?_) rfl (by kernel_rfl) (by kernel_rfl) (by kernel_rfl) (fun _ _ _ h => h) (Or.inl ⟨by rfl, ?_⟩) (by assumption) ?_; rotate_left; (focus (intro w hSw; (try dsimp only at hSw); have kf0 := kept hSw q0; have kf1 := kept hSw q1; have kf2 := kept hSw q2; have kf3 := kept hSw q3; go_simp; first | done | with_reducible rfl)); (try simp only [Act.put, List.getElem_toArray, List.getElem_cons_succ, List.getElem_cons_zero, List.setIfInBounds_toArray, List.set_cons_zero, List.set_cons_succ]))
      refine wpAnyH_ready (rs := [1]) (by kernel_rfl) (by simp) ?_
      refine (AllReadyH.cons rfl (fun K0 hK0 => ?_) AllReadyH.nil)
      go_simp
      refine (HRY.out _ HQ.out).mono ?_
      rintro e u7 ⟨Ar, cr, rfl, hrr, hgr, hb_⟩
      have HRR := hide hrr
      have HGR := hide (hgr.lower HQ.out.size)
      clear hrr hgr
      replace HQ := hide (HQ.out.trans (hb_.mono HQ.out.size))
      clear hb_
      refine hK0.out _ _ (HQ.out) (fun _ => ?_)
      clear hK0 K0
      (try simp only [Act.put, List.getElem_toArray, List.getElem_cons_succ, List.getElem_cons_zero, List.setIfInBounds_toArray, List.set_cons_zero, List.set_cons_succ])
      refine wpAnyH_ready (rs := [3]) (by kernel_rfl) (by simp) ?_
      refine (AllReadyH.cons rfl (fun K1 hK1 => ?_) AllReadyH.nil)
      go_simp
      refine (HHL.out _ HQ.out).mono ?_
      rintro e u8 ⟨Ax, cx, rfl, hrx, hgx, hb_⟩
      have HRX := hide hrx
      have HGL := hide (show GLoop u6 u7.heap.size u8.heap.size Ar nr Ax nh u8 from ⟨HGR.out.keep (fun g _ hg => hb_.block g hg), hgx, HQ.out.trans (hb_.mono HQ.out.size), HQ.out.size, Nat.le_refl _, hb_.size⟩)
      replace HRR := hide ((HRR.out.below hb_).more hb_.size)
      clear hrx hgx HGR
      replace HQ := hide (HQ.out.trans (hb_.mono HQ.out.size))
      clear hb_
      refine hK1.out _ _ (HQ.out) (fun _ => ?_)
      clear hK1 K1
      (try simp only [Act.put, List.getElem_toArray, List.getElem_cons_succ, List.getElem_cons_zero, List.setIfInBounds_toArray, List.set_cons_zero, List.set_cons_succ])
      (refine wpAnyH_take (i := 4) (v := ?_) rfl (by kernel_rfl) (by kernel_rfl) (by kernel_rfl) (fun _ _ _ h => h) (Or.inl ⟨by rfl, ?_⟩) (by assumption) ?_; rotate_left; (focus (intro w hSw; (try dsimp only at hSw); go_simp; first | done | with_reducible rfl)); (try simp only [Act.put, List.getElem_toArray, List.getElem_cons_succ, List.getElem_cons_zero, List.setIfInBounds_toArray, List.set_cons_zero, List.set_cons_succ]))
      (refine wpAnyH_take (i := 5) (v := ?_) rfl (by kernel_rfl) (by kernel_rfl) (by kernel_rfl) (fun _ _ _ h => h) (Or.inl ⟨by rfl, ?_⟩) (by assumption) ?_; rotate_left; (focus (intro w hSw; (try dsimp only at hSw); go_simp; first | done | with_reducible rfl)); (try simp only [Act.put, List.getElem_toArray, List.getElem_cons_succ, List.getElem_cons_zero, List.setIfInBounds_toArray, List.set_cons_zero, List.set_cons_succ]))
      refine wpAnyH_done (by kernel_rfl) ?_ _
      replace HRA := hide ((HRA.out.below HQ.out).more HQ.out.size)
      replace HRB := hide ((HRB.out.below HQ.out).more HQ.out.size)
      clear q0 q1 q2 q3 ql HRY HHL HQ
      have HE1 := hide (equal_n u8.heap.size Ar (ofA l.cut.E A7 2) nr (ofN l.cut.E (cutN l) 2) cr (ofN l.cut.E c7 2) (l.cut.at 2) (ofL l.cut 2) u8 HRR.out HRA.out HNR.out HLA.out (Nat.le_refl _) (by omega) (by rw [← HLA.out]; exact (by rw [HEA.out]; exact HLC.out)) true (by rw [HEA.out]; simp))
      have HE2 := hide (fun (w : World) (hb : Below u8.heap.size u8 w) => equal_n u8.heap.size Ax Ah nh (heldL l.cut).length cx ch (l.cut.held) (heldL l.cut) w (HRX.out.below hb) (HRB.out.below hb) HNH.out HLB.out hb.size (by omega) (by rw [← HLB.out]; exact (by rw [HEB.out]; exact HLD2.out)) true (by rw [HEB.out]; simp))
      go_wp2_with fail
      with_reducible refine HE1.out.mono ?_
      rintro e w9 ⟨rfl, hb⟩
      have HB9 := hide hb
      clear hb
      go_wp2_with fail
      with_reducible refine (HE2.out _ HB9.out).mono ?_
      rintro e w10 ⟨rfl, hb⟩
      replace HGL := hide (HGL.out.later (HB9.out.trans (hb.mono HB9.out.size)))
      clear hb HB9 HE1 HE2 HRR HRX HRA HRB HLA HLB HEA HEB HLC HLD2
      go_wp2_with fail
      go_loopw [82] (fun i wr => ∃ j : Nat, j ≤ nr ∧ i = .int .i64 j ∧ GLoop u6 u7.heap.size u8.heap.size Ar nr Ax nh wr) (fun i _ => nr - (intOf i).toNat)
      case atStart => exact ⟨0, Nat.zero_le _, rfl, HGL.out⟩
      case round =>
        obtain ⟨j, hj, rfl, hgl⟩ := hrel
        clear HGL
        have HGL := hide hgl
        clear hgl
        by_cases hlt : j < nr
        · have hltI : (j : Int) < (nr : Int) := by omega
          obtain ⟨g, cur, hA, hlo, hhi, hrow, hcur⟩ := HGL.out.g1.row (by omega)
          subst hA
          obtain ⟨z, hz⟩ := hcur j hlt
          have c1 : wr.cell? ⟨g, j * 2 + 1, none⟩ = some (.int .u64 z) := by rw [hrow.cell]; exact hz
          have f1 := hrow.frozen (j * 2 + 1)
          have l2 := hrow.lt
          have HLO := hide hlo
          have HHI := hide hhi
          clear hrow hcur hz hlo hhi
          go_wp2_with fail
          go_roundw
          case rel => exact ⟨j + 1, by omega, by go_num, HGL.out.set1 HLO.out HHI.out j _⟩
          case measure => simp [intOf]; omega
        · obtain rfl : nr = j := by omega
          go_wp2_with fail
          go_loopw [96] (fun i wr => ∃ j : Nat, j ≤ nh ∧ i = .int .i64 j ∧ GLoop u6 u7.heap.size u8.heap.size Ar nr Ax nh wr) (fun i _ => nh - (intOf i).toNat)
          case atStart => exact ⟨0, Nat.zero_le _, rfl, HGL.out⟩
          case round =>
            obtain ⟨j, hj, rfl, hgl⟩ := hrel
            clear HGL
            have HGL := hide hgl
            clear hgl
            by_cases hlt : j < nh
            · have hltI : (j : Int) < (nh : Int) := by omega
              obtain ⟨g, cur, hA, hlo, hhi, hrow, hcur⟩ := HGL.out.g2.row (by omega)
              subst hA
              obtain ⟨z, hz⟩ := hcur j hlt
              have c1 : wr.cell? ⟨g, j * 2 + 1, none⟩ = some (.int .u64 z) := by rw [hrow.cell]; exact hz
              have f1 := hrow.frozen (j * 2 + 1)
              have l2 := hrow.lt
              have HLO := hide hlo
              have HHI := hide hhi
              clear hrow hcur hz hlo hhi
              go_wp2_with fail
              go_roundw
              case rel => exact ⟨j + 1, by omega, by go_num, HGL.out.set2 HLO.out j _⟩
              case measure => simp [intOf]; omega
            · obtain rfl : nh = j := by omega
              obtain ⟨w11, hw11⟩ : ∃ w, w = wr := ⟨_, rfl⟩
              subst hw11
              replace HT := hide (HT.out.later HGL.out.below)
              clear HGL
              go_wp2_with fail
              go_loopw [110] (fun i wr => ∃ j : Nat, j ≤ n2 ∧ i = .int .i64 j ∧ Below w11.heap.size w11 wr) (fun i _ => n2 - (intOf i).toNat)
              case atStart => exact ⟨0, Nat.zero_le _, rfl, Below.refl _ _⟩
              case round =>
                obtain ⟨j, hj, rfl, hbr⟩ := hrel
                replace HT := hide (HT.out.later hbr)
                have HBR := hide hbr
                clear hbr
                by_cases hlt : j < n2
                · have hltI : (j : Int) < (n2 : Int) := by omega
                  obtain ⟨b1, o1, rfl, hbl, hc1⟩ := Rd.elem (show Rd wr W.heap.size 1 A2 xs.length (Cs encI xs) from by rw [HXS.out]; exact HRS.out.below HT.out.below) (fun _ => rfl) (show j < xs.length from by rw [HXS.out]; exact hlt)
                  have hd10 := hc1 0 _ (by omega) rfl
                  simp only [Nat.add_zero, Nat.mul_one] at hd10
                  have hbl1 : b1 < wr.heap.size := Nat.lt_of_lt_of_le hbl HT.out.below.size
                  generalize xs[j]'(by rw [HXS.out]; exact hlt) = sv at hd10
                  clear hc1 hbl
                  by_cases h10 : j = 10
                  · have h10I : ((j : Int) == 10) = true := by simp; omega
                    clear h10
                    go_wp2_with fail
                    have q0 : wr.cell? ⟨g7, 0, none⟩ = some (.int .u64 (l.cut.E : Int)) := by have := RowAt.cell HT.out.r7 0; simpa [limC] using this
                    have q1 : wr.cell? ⟨g7, 1, none⟩ = some (.slice (A7 0) ((cutN l) 0) (c7 0)) := by have := RowAt.cell HT.out.r7 1; simpa [limC] using this
                    have q2 : wr.cell? ⟨g7, 2, none⟩ = some (.slice (A7 1) ((cutN l) 1) (c7 1)) := by have := RowAt.cell HT.out.r7 2; simpa [limC] using this
                    have q3 : wr.cell? ⟨g7, 3, none⟩ = some (.slice (A7 2) ((cutN l) 2) (c7 2)) := by have := RowAt.cell HT.out.r7 3; simpa [limC] using this
                    have ql := HT.out.r7.lt
                    have x0 : wr.cell? ⟨W.heap.size, 0, none⟩ = some (.int .u64 (l.E : Int)) := by have := RowAt.cell HT.out.x 0; simpa [limC] using this
                    have x1 : wr.cell? ⟨W.heap.size, 1, none⟩ = some (.slice (A 0) (n 0) (c 0)) := by have := RowAt.cell HT.out.x 1; simpa [limC] using this
                    have x2 : wr.cell? ⟨W.heap.size, 2, none⟩ = some (.slice (A 1) (n 1) (c 1)) := by have := RowAt.cell HT.out.x 2; simpa [limC] using this
                    have x3 : wr.cell? ⟨W.heap.size, 3, none⟩ = some (.slice (A 2) (n 2) (c 2)) := by have := RowAt.cell HT.out.x 3; simpa [limC] using this
                    have xl := HT.out.x.lt
                    have HOX := hide (fun (w9 : World) (hb : Below wr.heap.size wr w9) => own_res (HT.out.later hb).hx (Nat.le_trans HT.out.below.size hb.size) HCC.out)
                    have HSX := hide (fun (w9 : World) (A9 : Nat → Option Addr) (c9 : Nat → Nat) (hd : LimRd w9 w9.heap.size A9 (cutN l) l.cut.r) (hb : Below wr.heap.size wr w9) => rsame_any A7 (cutN l) c7 l.cut A9 (cutN l) c9 l.cut w9 (HT.out.later hb).d7 hd (cut_len l) (cut_len l) true (sameB_self _))
                    go_upto_region 35 with (fail)
                    refine wp_region_held_drew (S := fun wX => Below wr.heap.size wr wX) (by kernel_rfl) (Below.refl _ _).drew (fun hHeld => ?_)
                    have HQ := hide ((Below.refl wr.heap.size wr).drew)
                    (refine wpAnyH_take (i := 0) (v := ?_) rfl (by kernel_rfl) (by kernel_rfl) (by kernel_rfl) (fun _ _ _ h => h) (Or.inl ⟨by rfl, ?_⟩) (by assumption) ?_; rotate_left; (focus (intro w hSw; (try dsimp only at hSw); have kf0 := kept hSw q0; have kf1 := kept hSw q1; have kf2 := kept hSw q2; have kf3 := kept hSw q3; go_simp; first | done | with_reducible rfl)); (try simp only [Act.put, List.getElem_toArray, List.getElem_cons_succ, List.getElem_cons_zero, List.setIfInBounds_toArray, List.set_cons_zero, List.set_cons_succ]))
                    (refine wpAnyH_take (i := 1) (v := ?_) rfl (by kernel_rfl) (by kernel_rfl) (by kernel_rfl) (fun _ _ _ h => h) (Or.inl ⟨by rfl, ?_⟩) (by assumption) ?_; rotate_left; (focus (intro w hSw; (try dsimp only at hSw); have kf0 := kept hSw x0; have kf1 := kept hSw x1; have kf2 := kept hSw x2; have kf3 := kept hSw x3; go_simp; first | done | with_reducible rfl)); (try simp only [Act.put, List.getElem_toArray, List.getElem_cons_succ, List.getElem_cons_zero, List.setIfInBounds_toArray, List.set_cons_zero, List.set_cons_succ]))
                    refine wpAnyH_ready (rs := [2]) (by kernel_rfl) (by simp) ?_
                    refine (AllReadyH.cons rfl (fun K0 hK0 => ?_) AllReadyH.nil)
                    go_simp
                    refine (HOX.out _ HQ.out).mono ?_
                    rintro e v1 ⟨A9, c9, rfl, hd9, hlo9, hup9, hb_⟩
                    have D9 := hide hd9
                    clear hd9 hlo9 hup9
                    replace HQ := hide (HQ.out.trans (hb_.mono HQ.out.size))
                    clear hb_
                    refine hK0.out _ _ (HQ.out) (fun _ => ?_)
                    clear hK0 K0
                    (try simp only [Act.put, List.getElem_toArray, List.getElem_cons_succ, List.getElem_cons_zero, List.setIfInBounds_toArray, List.set_cons_zero, List.set_cons_succ])
                    refine wpAnyH_ready (rs := [3]) (by kernel_rfl) (by simp) ?_
                    refine (AllReadyH.cons rfl (fun K1 hK1 => ?_) AllReadyH.nil)
                    go_simp
                    refine (HSX.out _ A9 c9 D9.out HQ.out).mono ?_
                    rintro e v2 ⟨rfl, hb_⟩
                    replace HQ := hide (HQ.out.trans (hb_.mono HQ.out.size))
                    clear hb_
                    refine hK1.out _ _ (HQ.out) (fun _ => ?_)
                    clear hK1 K1
                    (try simp only [Act.put, List.getElem_toArray, List.getElem_cons_succ, List.getElem_cons_zero, List.setIfInBounds_toArray, List.set_cons_zero, List.set_cons_succ])
                    (refine wpAnyH_take (i := 4) (v := ?_) rfl (by kernel_rfl) (by kernel_rfl) (by kernel_rfl) (fun _ _ _ h => h) (Or.inl ⟨by rfl, ?_⟩) (by assumption) ?_; rotate_left; (focus (intro w hSw; (try dsimp only at hSw); go_simp; first | done | with_reducible rfl)); (try simp only [Act.put, List.getElem_toArray, List.getElem_cons_succ, List.getElem_cons_zero, List.setIfInBounds_toArray, List.set_cons_zero, List.set_cons_succ]))
                    (refine wpAnyH_take (i := 6) (v := ?_) rfl (by kernel_rfl) (by kernel_rfl) (by kernel_rfl) (fun _ _ _ h => h) (Or.inl ⟨by rfl, ?_⟩) (by assumption) ?_; rotate_left; (focus (intro w hSw; (try dsimp only at hSw); go_simp; first | done | with_reducible rfl)); (try simp only [Act.put, List.getElem_toArray, List.getElem_cons_succ, List.getElem_cons_zero, List.setIfInBounds_toArray, List.set_cons_zero, List.set_cons_succ]))
                    refine wpAnyH_ready (rs := [5]) (by kernel_rfl) (by simp) ?_
                    refine (AllReadyH.cons rfl (fun K2 hK2 => ?_) AllReadyH.nil)
                    go_simp
                    refine (New_any _).mono ?_
                    rintro e v3 ⟨rfl, hb_⟩
                    replace HQ := hide (HQ.out.trans (hb_.mono HQ.out.size))
                    clear hb_
                    refine hK2.out _ _ (HQ.out) (fun _ => ?_)
                    clear hK2 K2
                    (try simp only [Act.put, List.getElem_toArray, List.getElem_cons_succ, List.getElem_cons_zero, List.setIfInBounds_toArray, List.set_cons_zero, List.set_cons_succ])
                    refine wpAnyH_ready (rs := [7]) (by kernel_rfl) (by simp) ?_
                    refine (AllReadyH.cons rfl (fun K3 hK3 => ?_) AllReadyH.nil)
                    go_simp
                    refine (zero_same _).mono ?_
                    rintro e v4 ⟨rfl, hb_⟩
                    replace HQ := hide (HQ.out.trans (hb_.mono HQ.out.size))
                    clear hb_
                    refine hK3.out _ _ (HQ.out) (fun _ => ?_)
                    clear hK3 K3
                    (try simp only [Act.put, List.getElem_toArray, List.getElem_cons_succ, List.getElem_cons_zero, List.setIfInBounds_toArray, List.set_cons_zero, List.set_cons_succ])
                    (refine wpAnyH_take (i := 8) (v := ?_) rfl (by kernel_rfl) (by kernel_rfl) (by kernel_rfl) (fun _ _ _ h => h) (Or.inl ⟨by rfl, ?_⟩) (by assumption) ?_; rotate_left; (focus (intro w hSw; (try dsimp only at hSw); go_simp; first | done | with_reducible rfl)); (try simp only [Act.put, List.getElem_toArray, List.getElem_cons_succ, List.getElem_cons_zero, List.setIfInBounds_toArray, List.set_cons_zero, List.set_cons_succ]))
                    (refine wpAnyH_take (i := 9) (v := ?_) rfl (by kernel_rfl) (by kernel_rfl) (by kernel_rfl) (fun _ _ _ h => h) (Or.inl ⟨by rfl, ?_⟩) (by assumption) ?_; rotate_left; (focus (intro w hSw; (try dsimp only at hSw); go_simp; first | done | with_reducible rfl)); (try simp only [Act.put, List.getElem_toArray, List.getElem_cons_succ, List.getElem_cons_zero, List.setIfInBounds_toArray, List.set_cons_zero, List.set_cons_succ]))
                    refine wpAnyH_done (by kernel_rfl) ?_ _
                    have HFIN := hide (HT.out.later HQ.out).below
                    clear q0 q1 q2 q3 x0 x1 x2 x3 ql xl HOX HSX HQ D9
                    go_wp2_with fail
                    go_ret
                    exact ⟨rfl, HFIN.out⟩
                  · have h10I : ((j : Int) == 10) = false := by simp; omega
                    clear h10
                    have q0 : wr.cell? ⟨g7, 0, none⟩ = some (.int .u64 (l.cut.E : Int)) := by have := RowAt.cell HT.out.r7 0; simpa [limC] using this
                    have q1 : wr.cell? ⟨g7, 1, none⟩ = some (.slice (A7 0) ((cutN l) 0) (c7 0)) := by have := RowAt.cell HT.out.r7 1; simpa [limC] using this
                    have q2 : wr.cell? ⟨g7, 2, none⟩ = some (.slice (A7 1) ((cutN l) 1) (c7 1)) := by have := RowAt.cell HT.out.r7 2; simpa [limC] using this
                    have q3 : wr.cell? ⟨g7, 3, none⟩ = some (.slice (A7 2) ((cutN l) 2) (c7 2)) := by have := RowAt.cell HT.out.r7 3; simpa [limC] using this
                    have ql := HT.out.r7.lt
                    obtain ⟨at_, is, hr⟩ : ∃ at_ is, whenR l.cut sv = (at_, is) := ⟨_, _, rfl⟩
                    have HWR := hide hr
                    clear hr
                    have HC := hide (when_any wr.heap.size A7 (cutN l) c7 l.cut sv wr HT.out.d7 HEQ.out (Nat.le_refl _) (cut_len l) HG.out at_ is HWR.out)
                    go_wp2_with fail
                    with_reducible refine HC.out.mono ?_
                    rintro e w12 ⟨rfl, hb⟩
                    replace HT := hide (HT.out.later hb)
                    replace HBR := hide (HBR.out.trans (hb.mono HBR.out.size))
                    clear hb HC q0 q1 q2 q3 ql
                    have q0 : w12.cell? ⟨g7, 0, none⟩ = some (.int .u64 (l.cut.E : Int)) := by have := RowAt.cell HT.out.r7 0; simpa [limC] using this
                    have q1 : w12.cell? ⟨g7, 1, none⟩ = some (.slice (A7 0) ((cutN l) 0) (c7 0)) := by have := RowAt.cell HT.out.r7 1; simpa [limC] using this
                    have q2 : w12.cell? ⟨g7, 2, none⟩ = some (.slice (A7 1) ((cutN l) 1) (c7 1)) := by have := RowAt.cell HT.out.r7 2; simpa [limC] using this
                    have q3 : w12.cell? ⟨g7, 3, none⟩ = some (.slice (A7 2) ((cutN l) 2) (c7 2)) := by have := RowAt.cell HT.out.r7 3; simpa [limC] using this
                    have ql := HT.out.r7.lt
                    have HC := hide (rwhen_any A7 (cutN l) c7 l.cut sv w12 HT.out.d7 HOK.out at_ is HWR.out)
                    go_wp2_with fail
                    with_reducible refine HC.out.mono ?_
                    rintro e w13 ⟨rfl, hb⟩
                    replace HBR := hide (HBR.out.trans (hb.mono HBR.out.size))
                    have hn1 : (at_ != at_) = false := by simp
                    have hn2 : (is != is) = false := by simp
                    clear hb HC q0 q1 q2 q3 ql
                    go_wp2_with fail
                    go_roundw
                    case rel => exact ⟨j + 1, by omega, by go_num, HBR.out⟩
                    case measure => simp [intOf]; omega
                · obtain rfl : n2 = j := by omega
                  go_wp2_with fail
                  have q0 : wr.cell? ⟨g7, 0, none⟩ = some (.int .u64 (l.cut.E : Int)) := by have := RowAt.cell HT.out.r7 0; simpa [limC] using this
                  have q1 : wr.cell? ⟨g7, 1, none⟩ = some (.slice (A7 0) ((cutN l) 0) (c7 0)) := by have := RowAt.cell HT.out.r7 1; simpa [limC] using this
                  have q2 : wr.cell? ⟨g7, 2, none⟩ = some (.slice (A7 1) ((cutN l) 1) (c7 1)) := by have := RowAt.cell HT.out.r7 2; simpa [limC] using this
                  have q3 : wr.cell? ⟨g7, 3, none⟩ = some (.slice (A7 2) ((cutN l) 2) (c7 2)) := by have := RowAt.cell HT.out.r7 3; simpa [limC] using this
                  have ql := HT.out.r7.lt
                  have x0 : wr.cell? ⟨W.heap.size, 0, none⟩ = some (.int .u64 (l.E : Int)) := by have := RowAt.cell HT.out.x 0; simpa [limC] using this
                  have x1 : wr.cell? ⟨W.heap.size, 1, none⟩ = some (.slice (A 0) (n 0) (c 0)) := by have := RowAt.cell HT.out.x 1; simpa [limC] using this
                  have x2 : wr.cell? ⟨W.heap.size, 2, none⟩ = some (.slice (A 1) (n 1) (c 1)) := by have := RowAt.cell HT.out.x 2; simpa [limC] using this
                  have x3 : wr.cell? ⟨W.heap.size, 3, none⟩ = some (.slice (A 2) (n 2) (c 2)) := by have := RowAt.cell HT.out.x 3; simpa [limC] using this
                  have xl := HT.out.x.lt
                  have HOX := hide (fun (w9 : World) (hb : Below wr.heap.size wr w9) => own_res (HT.out.later hb).hx (Nat.le_trans HT.out.below.size hb.size) HCC.out)
                  have HSX := hide (fun (w9 : World) (A9 : Nat → Option Addr) (c9 : Nat → Nat) (hd : LimRd w9 w9.heap.size A9 (cutN l) l.cut.r) (hb : Below wr.heap.size wr w9) => rsame_any A7 (cutN l) c7 l.cut A9 (cutN l) c9 l.cut w9 (HT.out.later hb).d7 hd (cut_len l) (cut_len l) true (sameB_self _))
                  go_upto_region 35 with (fail)
                  refine wp_region_held_drew (S := fun wX => Below wr.heap.size wr wX) (by kernel_rfl) (Below.refl _ _).drew (fun hHeld => ?_)
                  have HQ := hide ((Below.refl wr.heap.size wr).drew)
                  (refine wpAnyH_take (i := 0) (v := ?_) rfl (by kernel_rfl) (by kernel_rfl) (by kernel_rfl) (fun _ _ _ h => h) (Or.inl ⟨by rfl, ?_⟩) (by assumption) ?_; rotate_left; (focus (intro w hSw; (try dsimp only at hSw); have kf0 := kept hSw q0; have kf1 := kept hSw q1; have kf2 := kept hSw q2; have kf3 := kept hSw q3; go_simp; first | done | with_reducible rfl)); (try simp only [Act.put, List.getElem_toArray, List.getElem_cons_succ, List.getElem_cons_zero, List.setIfInBounds_toArray, List.set_cons_zero, List.set_cons_succ]))
                  (refine wpAnyH_take (i := 1) (v := ?_) rfl (by kernel_rfl) (by kernel_rfl) (by kernel_rfl) (fun _ _ _ h => h) (Or.inl ⟨by rfl, ?_⟩) (by assumption) ?_; rotate_left; (focus (intro w hSw; (try dsimp only at hSw); have kf0 := kept hSw x0; have kf1 := kept hSw x1; have kf2 := kept hSw x2; have kf3 := kept hSw x3; go_simp; first | done | with_reducible rfl)); (try simp only [Act.put, List.getElem_toArray, List.getElem_cons_succ, List.getElem_cons_zero, List.setIfInBounds_toArray, List.set_cons_zero, List.set_cons_succ]))
                  refine wpAnyH_ready (rs := [2]) (by kernel_rfl) (by simp) ?_
                  refine (AllReadyH.cons rfl (fun K0 hK0 => ?_) AllReadyH.nil)
                  go_simp
                  refine (HOX.out _ HQ.out).mono ?_
                  rintro e v1 ⟨A9, c9, rfl, hd9, hlo9, hup9, hb_⟩
                  have D9 := hide hd9
                  clear hd9 hlo9 hup9
                  replace HQ := hide (HQ.out.trans (hb_.mono HQ.out.size))
                  clear hb_
                  refine hK0.out _ _ (HQ.out) (fun _ => ?_)
                  clear hK0 K0
                  (try simp only [Act.put, List.getElem_toArray, List.getElem_cons_succ, List.getElem_cons_zero, List.setIfInBounds_toArray, List.set_cons_zero, List.set_cons_succ])
                  refine wpAnyH_ready (rs := [3]) (by kernel_rfl) (by simp) ?_
                  refine (AllReadyH.cons rfl (fun K1 hK1 => ?_) AllReadyH.nil)
                  go_simp
                  refine (HSX.out _ A9 c9 D9.out HQ.out).mono ?_
                  rintro e v2 ⟨rfl, hb_⟩
                  replace HQ := hide (HQ.out.trans (hb_.mono HQ.out.size))
                  clear hb_
                  refine hK1.out _ _ (HQ.out) (fun _ => ?_)
                  clear hK1 K1
                  (try simp only [Act.put, List.getElem_toArray, List.getElem_cons_succ, List.getElem_cons_zero, List.setIfInBounds_toArray, List.set_cons_zero, List.set_cons_succ])
                  (refine wpAnyH_take (i := 4) (v := ?_) rfl (by kernel_rfl) (by kernel_rfl) (by kernel_rfl) (fun _ _ _ h => h) (Or.inl ⟨by rfl, ?_⟩) (by assumption) ?_; rotate_left; (focus (intro w hSw; (try dsimp only at hSw); go_simp; first | done | with_reducible rfl)); (try simp only [Act.put, List.getElem_toArray, List.getElem_cons_succ, List.getElem_cons_zero, List.setIfInBounds_toArray, List.set_cons_zero, List.set_cons_succ]))
                  (refine wpAnyH_take (i := 6) (v := ?_) rfl (by kernel_rfl) (by kernel_rfl) (by kernel_rfl) (fun _ _ _ h => h) (Or.inl ⟨by rfl, ?_⟩) (by assumption) ?_; rotate_left; (focus (intro w hSw; (try dsimp only at hSw); go_simp; first | done | with_reducible rfl)); (try simp only [Act.put, List.getElem_toArray, List.getElem_cons_succ, List.getElem_cons_zero, List.setIfInBounds_toArray, List.set_cons_zero, List.set_cons_succ]))
                  refine wpAnyH_ready (rs := [5]) (by kernel_rfl) (by simp) ?_
                  refine (AllReadyH.cons rfl (fun K2 hK2 => ?_) AllReadyH.nil)
                  go_simp
                  refine (New_any _).mono ?_
                  rintro e v3 ⟨rfl, hb_⟩
                  replace HQ := hide (HQ.out.trans (hb_.mono HQ.out.size))
                  clear hb_
                  refine hK2.out _ _ (HQ.out) (fun _ => ?_)
                  clear hK2 K2
                  (try simp only [Act.put, List.getElem_toArray, List.getElem_cons_succ, List.getElem_cons_zero, List.setIfInBounds_toArray, List.set_cons_zero, List.set_cons_succ])
                  refine wpAnyH_ready (rs := [7]) (by kernel_rfl) (by simp) ?_
                  refine (AllReadyH.cons rfl (fun K3 hK3 => ?_) AllReadyH.nil)
                  go_simp
                  refine (zero_same _).mono ?_
                  rintro e v4 ⟨rfl, hb_⟩
                  replace HQ := hide (HQ.out.trans (hb_.mono HQ.out.size))
                  clear hb_
                  refine hK3.out _ _ (HQ.out) (fun _ => ?_)
                  clear hK3 K3
                  (try simp only [Act.put, List.getElem_toArray, List.getElem_cons_succ, List.getElem_cons_zero, List.setIfInBounds_toArray, List.set_cons_zero, List.set_cons_succ])
                  (refine wpAnyH_take (i := 8) (v := ?_) rfl (by kernel_rfl) (by kernel_rfl) (by kernel_rfl) (fun _ _ _ h => h) (Or.inl ⟨by rfl, ?_⟩) (by assumption) ?_; rotate_left; (focus (intro w hSw; (try dsimp only at hSw); go_simp; first | done | with_reducible rfl)); (try simp only [Act.put, List.getElem_toArray, List.getElem_cons_succ, List.getElem_cons_zero, List.setIfInBounds_toArray, List.set_cons_zero, List.set_cons_succ]))
                  (refine wpAnyH_take (i := 9) (v := ?_) rfl (by kernel_rfl) (by kernel_rfl) (by kernel_rfl) (fun _ _ _ h => h) (Or.inl ⟨by rfl, ?_⟩) (by assumption) ?_; rotate_left; (focus (intro w hSw; (try dsimp only at hSw); go_simp; first | done | with_reducible rfl)); (try simp only [Act.put, List.getElem_toArray, List.getElem_cons_succ, List.getElem_cons_zero, List.setIfInBounds_toArray, List.set_cons_zero, List.set_cons_succ]))
                  refine wpAnyH_done (by kernel_rfl) ?_ _
                  have HFIN := hide (HT.out.later HQ.out).below
                  clear q0 q1 q2 q3 x0 x1 x2 x3 ql xl HOX HSX HQ D9
                  go_wp2_with fail
                  go_ret
                  exact ⟨rfl, HFIN.out⟩
end Go.Proofs.YthnpcmigphpolaaDoor
