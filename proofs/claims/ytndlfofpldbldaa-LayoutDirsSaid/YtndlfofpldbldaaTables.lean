/-
  The law LayoutTables, walked.
-/
import Derived.Test.YtndlfofpldbldaaW
import Derived.Deep.CutRange
import Derived.Deep.CutBlock
set_option linter.unusedSimpArgs false
set_option linter.unusedVariables false
namespace Go.Proofs.Ytndlfofpldbldaa
open Go Go.RowKit
attribute [local go_sem] via_cell via_frozen

def tabInts (n d p c l : Int) (ys : List Int) : List Int := [n, d + 256 * p, c, l] ++ ys ++ [0, 0]
theorem tabWords_ints {X : Array Value} {n d p c l : Int} {ys : List Int} (h : Tab X n d p c l ys) : tabWords X n d p c l = Cs encW (tabInts n d p c l ys) := by
  rw [Cs_mapW, tabWords, h.rest]; simp [tabInts]
theorem hasB_r (d p c l h : Int) (hp : 0 ≤ p) (r : Bool) (hr : rtabB d p c l = r) : hasB d p c l h = (r && decide (topZ h d = p)) := by rw [hasB, flat_rtab _ _ _ _ hp, hr]

theorem own_form {w : World} {base : Nat} {e : TypeId} {sz n : Nat} {v : Value} {xs : List Value} (h : w.ownsRow base e sz v n xs) : ∃ A c, v = .slice A n c ∧ n ≤ c := by
  rcases h.2 with ⟨rfl, rfl⟩ | ⟨g, cap, cur, rfl, _, _, hnc, _⟩
  · exact ⟨none, 0, rfl, Nat.le_refl _⟩
  · exact ⟨_, _, rfl, hnc⟩
/-- Structs are compared, of which the outcome is known. -/
theorem wpList_eqlG {P : Program} {ops : Array Oper} {rest : List Oper} {o : Oper} {a : Act} {w : World} {Q : Exit → Act → World → Prop} (hgd : o.guard = none) (op : BinOp) (t t' : TypeId) (x y : Operand) (ho : o.op = .binOp op t x y t')
    (X Y : Array Value) (v : Value) (hx : a.eval x = .agg X) (hy : a.eval y = .agg Y) (hm : P.eqGuardType P.depth t = false) (heq : ∀ w, (binOp op t (.agg X) (.agg Y)).run P w = .ok v w)
    (h : wpList P ops Q rest (a.put o.dst v) w) : wpList P ops Q (o :: rest) a w :=
  wpList_plain hgd fun _ hK => by
    unfold Oper.wp execOp
    simp only [ho, hx, hy, Sem.run_bind, run_eqGuard_agg _ op t x y X Y hm, Result.andThen_ok, heq, Sem.run_pure]
    exact hK _ _ h

theorem guard55 : Try.prog.eqGuardType Try.prog.depth 55 = false := by kernel_rfl
set_option maxRecDepth 100000 in
set_option maxHeartbeats 4000000 in
theorem Tables_walk (X : Array Value) (n d p c l : Int) (ys : List Int) (hT : Tab X n d p c l ys) (A1 A2 : Option Addr) (c1 c2 : Nat) (xs hs : List Int) (W : World)
    (h1 : Rd W W.heap.size 1 A1 xs.length (Cs encW xs)) (h2 : Rd W W.heap.size 1 A2 hs.length (Cs encW hs)) (hu1 : ∀ x ∈ xs, U64 x) (hu2 : ∀ x ∈ hs, U64 x) (hn1 : xs.length ≤ c1) (hn2 : hs.length ≤ c2) (hm1 : c1 ≤ 9223372036854775807) (hm2 : c2 ≤ 9223372036854775807) :
    Calls Try.prog 6 #[.agg X, .slice A1 xs.length c1, .slice A2 hs.length c2] W fun e W' => e = .returned (.bool true) ∧ Below W.heap.size W W' := by
  have hinf : (Try.prog.info? 55).map (·.size) = some X.size := by rw [hT.cells.size]; kernel_rfl
  have HINF := hide hinf
  obtain ⟨r, hr⟩ : ∃ r, rtabB d p c l = r := ⟨_, rfl⟩
  have HR := hide hr
  have HW := hide (fun w => wakes_any w)
  have HU1 := hide hu1
  have HU2 := hide hu2
  have HM1 := hide hm1
  have HM2 := hide hm2
  clear hinf hr hu1 hu2 hm1 hm2
  go_enter Try.func6, Try.ntmps6
  go_wp2_with fail
  have hrow : RowAt (W.alloc (.cells X 55)) W.heap.size 55 X := RowAt.new _ _ _
  have hb0 : Below W.heap.size W (W.alloc (.cells X 55)) := (Below.refl _ _).alloc (Nat.le_refl _) _
  have hs0 : W.heap.size < (W.alloc (.cells X 55)).heap.size := by simp
  generalize W.alloc (.cells X 55) = w0 at *
  refine (HW.out _).mono ?_
  rintro e w1 ⟨rfl, hb1⟩
  have hrow1 := hrow.below hb1
  have hbw1 := hb0.trans (hb1.mono (by omega))
  have hs1 : W.heap.size < w1.heap.size := hrow1.lt
  clear hrow hb0 hs0 hb1
  have HROW1 := hide hrow1
  clear hrow1
  go_wp2_with (refine wpList_load_row rfl 55 _ rfl W.heap.size rfl 55 X (0, 0) _ HROW1.out Try.underlying55 rfl HINF.out ?_)
  refine (RTable_any X d p c l _ r HR.out hT.cells.c1 hT.cells.c2 hT.cells.c3 hT.cells.c4).mono ?_
  rintro e w2 ⟨rfl, hb2⟩
  have HROW2 := hide (HROW1.out.below hb2)
  have hbw2 := hbw1.trans (hb2.mono (by omega))
  have hs2 : W.heap.size < w2.heap.size := HROW2.out.lt
  clear hb2 HROW1 hbw1 hs1
  go_wp2_with (refine wpList_load_row rfl 55 _ rfl W.heap.size rfl 55 X (0, 0) _ HROW2.out Try.underlying55 rfl HINF.out ?_)
  cases r
  · refine (TableWords_no X n d p c l _ hT.cells hT.up.1 hT.up.2 (by rw [flat_rtab _ _ _ _ hT.up.1]; exact HR.out)).mono ?_
    rintro e w3 ⟨rfl, hb3⟩
    have HROW3 := hide (HROW2.out.below hb3)
    have hbw3 := hbw2.trans (hb3.mono (by omega))
    have hs3 : W.heap.size < w3.heap.size := HROW3.out.lt
    clear hb3 HROW2 hbw2 hs2
    go_wp2_with fail
    refine (EqualW 0 0 none none 0 0 [] [] _ Rd.none_ Rd.none_ (by omega) (by omega) (by simp) (by simp) true (by simp)).mono ?_
    rintro e w4 ⟨rfl, hb4⟩
    have HROW4 := hide (HROW3.out.below hb4)
    have hbw4 := hbw3.trans (hb4.mono (by omega))
    have hs4 : W.heap.size < w4.heap.size := HROW4.out.lt
    clear hb4 HROW3 hbw3 hs3
    clear HW
    go_wp2_with fail
    go_loopw [42] (fun i wr => ∃ k : Nat, k ≤ hs.length ∧ i = .int .i64 k ∧ RowAt wr W.heap.size 55 X ∧ Below W.heap.size W wr) (fun i _ => hs.length - (intOf i).toNat)
    case atStart => exact ⟨0, Nat.zero_le _, rfl, HROW4.out, hbw4⟩
    case round =>
      obtain ⟨k, hk, rfl, hrow, hbw⟩ := hrel
      have HRK := hide hrow
      have HBK := hide hbw
      have hsk : W.heap.size < wr.heap.size := hrow.lt
      clear hrow hbw
      have hmx : (hs.length : Int) ≤ 9223372036854775807 := by have := HM2.out; omega
      by_cases hlt : k < hs.length
      · obtain ⟨b1, o1, rfl, hb1, hc1⟩ := (h2.below HBK.out).elem encW_len hlt
        have hd10 := hc1 0 _ (by omega) rfl
        simp only [Nat.mul_one, Nat.add_zero] at hd10
        clear hc1
        have hh := hide (HU2.out hs[k] (List.getElem_mem hlt))
        have hbs : b1 < wr.heap.size := by omega
        generalize hs[k] = h at *
        have e1 := (HRK.out.cell 1).trans hT.cells.c1
        have e2 := (HRK.out.cell 2).trans hT.cells.c2
        by_cases hk8 : k < 8
        · have ht8 : (k : Int) < 8 := by omega
          go_wp2_with fail
          refine wp_region_via (by kernel_rfl) (by kernel_rfl) ?_
          go_big_quiet_step (fail)
          go_big_quiet_step (fail)
          go_big_quiet_step (fail)
          refine wpQuiet_load_row rfl 55 _ rfl W.heap.size rfl 55 X (0, 0) _ (fun w hC => by obtain ⟨z, rfl⟩ := hC; exact via_block HRK.out) Try.underlying55 (by kernel_rfl) HINF.out ?_
          simp only [Act.put, List.setIfInBounds_toArray, List.set_cons_zero, List.set_cons_succ]
          repeat (go_big_quiet_step ((first | (go_at_call 20; exact via_of (Has_any X n d p c l h _ hT.cells hT.up hh.out false (by rw [hasB_r _ _ _ _ _ hT.up.1 _ HR.out]; rfl))))))
          refine via_out fun w5 hb5 => ?_
          have HR5 := hide (HRK.out.below hb5)
          have HB5 := hide (HBK.out.trans (hb5.mono (by omega)))
          clear hb5 e1 e2 hd10
          skip
          all_goals
            go_wp2_with fail
            go_roundw
            case rel => exact ⟨k + 1, by omega, by go_num, HR5.out, HB5.out⟩
            case measure => simp [intOf]; omega
        · have ht8 : decide ((k : Int) < 8) = false := by simp; omega
          go_wp2_with fail
          refine wp_region_via (by kernel_rfl) (by kernel_rfl) ?_
          repeat (go_big_quiet_step (fail))
          refine via_out fun w5 hb5 => ?_
          have HR5 := hide (HRK.out.below hb5)
          have HB5 := hide (HBK.out.trans (hb5.mono (by omega)))
          clear hb5 e1 e2 hd10
          go_wp2_with fail
          go_roundw
          case rel => exact ⟨k + 1, by omega, by go_num, HR5.out, HB5.out⟩
          case measure => simp [intOf]; omega
      · skip
        have HC := hide (fun (w : World) (A : Option Addr) (n c : Nat) (ls : List Value) (hr : Rd w w.heap.size 1 A n ls) (h1 : ∀ u ∈ ls, u.oneCell' = true) (hb : n ≤ 4096) => CloneW w.heap.size A n c ls w hr (Nat.le_refl _) h1 hb)
        obtain ⟨m, hm⟩ : ∃ m, min xs.length 44 = m := ⟨_, rfl⟩
        have hm1 : m ≤ xs.length := by omega
        have hm2 : m ≤ 44 := by omega
        have hmI : min (xs.length : Int) 44 = (m : Int) := by omega
        obtain ⟨zs, hz⟩ : ∃ zs, xs.take m = zs := ⟨_, rfl⟩
        have hzl : zs.length = m := by rw [← hz]; simp; omega
        have hzu : ∀ x ∈ zs, U64 x := fun x hx => HU1.out x (by rw [← hz] at hx; exact List.mem_of_mem_take hx)
        have hrz : Rd wr wr.heap.size 1 A1 m (Cs encW zs) := by
          have h := ((h1.below HBK.out).more HBK.out.size).take hm1
          rw [← Cs_take encW_len, hz] at h
          exact h
        have HRZ := hide hrz
        have HZL := hide hzl
        have HZU := hide hzu
        have hlI : (m : Int) ≤ (c1 : Int) := by omega
        have hxl : (xs.length : Int) ≤ 9223372036854775807 := by have := HM1.out; omega
        have hcl : (c1 : Int) ≤ 9223372036854775807 := by have := HM1.out; omega
        clear hrz hzl hzu hm hz
        have HHLT := hide hlt
        go_wp2_with fail
        clear hlt hmx
        refine (HC.out _ A1 m _ (Cs encW zs) HRZ.out (Cs_one_cell encW_one _) (by omega)).mono ?_
        rintro e w6 ⟨v6, rfl, ho6, hb6⟩
        obtain ⟨A6, c6, rfl, hc6⟩ := own_form ho6
        have HRD6 := hide (Rd.of_own ho6)
        have HBW6 := hide (HBK.out.trans (hb6.mono (by omega)))
        clear ho6 hb6 HRZ hmI hxl hcl hlI
        go_wp2_with fail
        refine (HC.out _ A6 m _ (Cs encW zs) HRD6.out (Cs_one_cell encW_one _) (by omega)).mono ?_
        rintro e w7 ⟨v7, rfl, ho7, hb7⟩
        obtain ⟨A7, c7, rfl, hc7⟩ := own_form ho7
        have HRD7 := hide (Rd.of_own ho7)
        have HRD6' := hide ((HRD6.out.below hb7).more hb7.size)
        have hbw7 := HBW6.out.trans (hb7.mono (HBW6.out.size))
        clear ho7 hb7 HRD6 HBW6 HC
        go_wp2_with fail
        refine (LTable_any w7.heap.size A6 m c6 zs w7 HRD6'.out HZL.out (Nat.le_refl _) HZU.out hc6).mono ?_
        rintro e w8 ⟨rfl, hb8⟩
        obtain ⟨o, ho⟩ : ∃ o, okT zs = o := ⟨_, rfl⟩
        rw [ho]
        obtain ⟨Z, hZ⟩ : ∃ Z, (if o then readX zs else zeroT) = Z := ⟨_, rfl⟩
        have hZl : Z.length = 39 ∧ (∀ u ∈ Z, u.oneCell' = true) ∧ (∀ w, (binOp .eql 55 (.agg Z.toArray) (.agg Z.toArray)).run Try.prog w = .ok (.bool true) w) := by
          rw [← hZ]
          cases o
          · exact ⟨rfl, fun u hu => (Array.all_eq_true_iff_forall_mem.1 zeroT_one) u (by simpa using hu), eql_tab tab_zero⟩
          · have hl40 := okT_len ho
            exact ⟨readX_len zs hl40, readX_one zs, eql_tab (tab_read zs hl40 HZU.out)⟩
        obtain ⟨hZl, hZ1, hZe⟩ := hZl
        rw [hZ]
        have HZe := hide hZe
        have HZ1 := hide (all_oneCell_toArray hZ1)
        have hZs : (Try.prog.info? 55).map (·.size) = some Z.toArray.size := by rw [List.size_toArray, hZl]; kernel_rfl
        have HZs := hide hZs
        have HZc := hide (show zeroT.toArray.size = Z.toArray.size by rw [List.size_toArray, List.size_toArray, hZl]; rfl)
        have HRD7b := hide ((HRD7.out.below hb8).more hb8.size)
        have HRD6b := hide ((HRD6'.out.below hb8).more hb8.size)
        have hbw8 := hbw7.trans (hb8.mono (hbw7.size))
        clear hZe hZs hb8 HRD7 HRD6' hbw7
        generalize hoo : Value.int IntKind.i64 (if o = true then 0 else 260) = OV
        go_wp2_with (refine wpList_store_new rfl 55 _ _ rfl zeroT.toArray Z.toArray w8.heap.size rfl rfl rfl HZs.out HZc.out HZ1.out ?_)
        have hrow9 : RowAt (w8.alloc (.cells Z.toArray 55)) w8.heap.size 55 Z.toArray := RowAt.new _ _ _
        have hb9 : Below w8.heap.size w8 (w8.alloc (.cells Z.toArray 55)) := (Below.refl _ _).alloc (Nat.le_refl _) _
        have hbw9 := hbw8.trans (hb9.mono hbw8.size)
        have HRD6c := hide ((HRD6b.out.below hb9).more hb9.size)
        have HRD7c := hide ((HRD7b.out.below hb9).more hb9.size)
        obtain ⟨g9, hg9⟩ : ∃ g, w8.heap.size = g := ⟨_, rfl⟩
        rw [hg9] at hrow9
        rw [hg9]
        generalize w8.alloc (.cells Z.toArray 55) = w9 at *
        clear HRD6b HRD7b hbw8 hb9 hg9
        refine (RReadTable_all w9.heap.size A7 m c7 zs w9 HRD7c.out HZL.out (Nat.le_refl _) HZU.out).mono ?_
        rintro e w10 ⟨Y, rfl, hYl, hY1, hYo, hb10⟩
        rw [ho]
        have HRD6d := hide ((HRD6c.out.below hb10).more hb10.size)
        have HRD7d := hide ((HRD7c.out.below hb10).more hb10.size)
        have hrow10 := hrow9.below hb10
        have hbw10 := hbw9.trans (hb10.mono hbw9.size)
        have HY1 := hide (all_oneCell_toArray hY1)
        have hYs : (Try.prog.info? 55).map (·.size) = some Y.toArray.size := by rw [List.size_toArray, hYl]; kernel_rfl
        have HYs := hide hYs
        have HYc := hide (show zeroT.toArray.size = Y.toArray.size by rw [List.size_toArray, List.size_toArray, hYl]; rfl)
        have HYO := hide hYo
        clear hYs hYo hb10 hrow9 hbw9 HRD6c HRD7c
        have hrow11 : RowAt (w10.alloc (.cells Y.toArray 55)) w10.heap.size 55 Y.toArray := RowAt.new _ _ _
        have hb11 : Below w10.heap.size w10 (w10.alloc (.cells Y.toArray 55)) := (Below.refl _ _).alloc (Nat.le_refl _) _
        have hbw11 := hbw10.trans (hb11.mono hbw10.size)
        have hrow11' := hrow10.below hb11
        have hlt11 := hrow10.lt
        have HRD6e := hide (HRD6d.out.below hb11)
        have HRD7e := hide (HRD7d.out.below hb11)
        have HR11 := hide hrow11
        have HR11' := hide hrow11'
        have HB11 := hide hbw11
        obtain ⟨w11, hw11⟩ : ∃ w, w10.alloc (.cells Y.toArray 55) = w := ⟨_, rfl⟩
        have HW11 := hide hw11
        rw [hw11] at HRD6e HRD7e HR11 HR11' HB11 hb11
        clear hw11 hrow11 hrow11' hbw11 HRD6d HRD7d hrow10
        have hsz11 := hb11.size
        cases o
        · have hZz : Z = zeroT := hZ.symm
          subst hZz
          subst hoo
          clear hZ hZl hZ1 hb11
          go_upto_region 23 with (first
            | (refine wpList_store_new rfl 55 (.tmp 17) (.tmp 82) rfl zeroT.toArray Y.toArray w10.heap.size rfl rfl rfl HYs.out HYc.out HY1.out ?_; rw [HW11.out])
            | (refine wpList_store_rowAt rfl 55 (.tmp 17) (.tmp 86) rfl w10.heap.size 55 Y.toArray zeroT.toArray rfl rfl HR11.out HYc.out.symm hinf55 zeroT_one ?_; intro w12 hr12 hp12; have HR12' := hide (HR11'.out.past hp12 (by omega)); have HR12 := hide hr12; have HP12 := hide hp12; clear hr12 hp12))
          have HZS := hide hinf55
          have hB12 : Below W.heap.size W w12 := HB11.out.trans (HP12.out.below.mono (by have := hbw10.size; omega))
          have HRD6f : Hid (Rd w12 w10.heap.size 1 A6 m (Cs encW zs)) := hide (HRD6e.out.below HP12.out.below)
          have HRD7f : Hid (Rd w12 w10.heap.size 1 A7 m (Cs encW zs)) := hide (HRD7e.out.below HP12.out.below)
          have hs12 : w10.heap.size ≤ w12.heap.size := by have := HP12.out.size; omega
          have HEQ : Hid (Calls Try.prog 24 #[.slice A6 m c6, .slice A7 m c7] w12 fun e W' => e = .returned (.bool true) ∧ Below w12.heap.size w12 W') := hide (by
            have h := EqualW w10.heap.size w10.heap.size A6 A7 c6 c7 zs zs w12 (by rw [HZL.out]; exact HRD6f.out) (by rw [HZL.out]; exact HRD7f.out) hs12 hs12 (by have := HZL.out; omega) (by have := HZL.out; omega) true (by simp)
            rw [HZL.out] at h
            exact h)
          clear hs12 HRD6f HRD7f
          refine wp_region_lit ?_
          refine wpList_load_row rfl 55 (.tmp 16) rfl g9 rfl 55 zeroT.toArray (0, 0) _ HR12'.out Try.underlying55 rfl HZS.out ?_
          refine wpList_load_row rfl 55 (.tmp 17) rfl w10.heap.size rfl 55 zeroT.toArray (0, 0) _ HR12.out Try.underlying55 rfl HZS.out ?_
          refine wpList_eqlG rfl .eql 55 55 (.tmp 87) (.tmp 88) rfl zeroT.toArray zeroT.toArray (.bool true) ?_ ?_ guard55 HZe.out ?_
          · rfl
          · rfl
          simp only [Act.put, List.getElem_toArray, List.getElem_cons_succ, List.getElem_cons_zero, List.setIfInBounds_toArray, List.set_cons_zero, List.set_cons_succ]
          go_wp2_with fail
          refine HEQ.out.mono ?_
          rintro e w13 ⟨rfl, hb13⟩
          go_wp2_with fail
          go_ret
          exact ⟨rfl, hB12.trans (hb13.mono hB12.size)⟩
        · have hZz : Z = readX zs := hZ.symm
          have hYz : Y = readX zs := HYO.out ho
          subst hZz
          subst hYz
          subst hoo
          clear hZ hZl hZ1 hb11
          go_upto_region 23 with (refine wpList_store_new rfl 55 (.tmp 17) (.tmp 82) rfl zeroT.toArray (readX zs).toArray w10.heap.size rfl rfl rfl HYs.out HYc.out HY1.out ?_; rw [HW11.out])
          have HZS := hide HYs.out
          have HR12 := hide HR11.out
          have HR12' := hide HR11'.out
          have hB12 : Below W.heap.size W w11 := HB11.out
          have HRD6f : Hid (Rd w11 w10.heap.size 1 A6 m (Cs encW zs)) := hide HRD6e.out
          have HRD7f : Hid (Rd w11 w10.heap.size 1 A7 m (Cs encW zs)) := hide HRD7e.out
          have hs12 : w10.heap.size ≤ w11.heap.size := by omega
          have HEQ : Hid (Calls Try.prog 24 #[.slice A6 m c6, .slice A7 m c7] w11 fun e W' => e = .returned (.bool true) ∧ Below w11.heap.size w11 W') := hide (by
            have h := EqualW w10.heap.size w10.heap.size A6 A7 c6 c7 zs zs w11 (by rw [HZL.out]; exact HRD6f.out) (by rw [HZL.out]; exact HRD7f.out) hs12 hs12 (by have := HZL.out; omega) (by have := HZL.out; omega) true (by simp)
            rw [HZL.out] at h
            exact h)
          clear hs12 HRD6f HRD7f
          refine wp_region_lit ?_
          refine wpList_load_row rfl 55 (.tmp 16) rfl g9 rfl 55 (readX zs).toArray (0, 0) _ HR12'.out Try.underlying55 rfl HZS.out ?_
          refine wpList_load_row rfl 55 (.tmp 17) rfl w10.heap.size rfl 55 (readX zs).toArray (0, 0) _ HR12.out Try.underlying55 rfl HZS.out ?_
          refine wpList_eqlG rfl .eql 55 55 (.tmp 87) (.tmp 88) rfl (readX zs).toArray (readX zs).toArray (.bool true) ?_ ?_ guard55 HZe.out ?_
          · rfl
          · rfl
          simp only [Act.put, List.getElem_toArray, List.getElem_cons_succ, List.getElem_cons_zero, List.setIfInBounds_toArray, List.set_cons_zero, List.set_cons_succ]
          go_wp2_with fail
          refine HEQ.out.mono ?_
          rintro e w13 ⟨rfl, hb13⟩
          go_wp2_with fail
          go_ret
          exact ⟨rfl, hB12.trans (hb13.mono hB12.size)⟩
  · obtain ⟨hd0, hd1, hp1, hc0, hc1, hl0, hl1⟩ := rtabB_out HR.out
    refine (TableWords_ok X n d p c l _ hT.cells hT.up.1 (by rw [flat_rtab _ _ _ _ hT.up.1]; exact HR.out)).mono ?_
    rintro e w3 ⟨v3, rfl, ho3, hb3⟩
    obtain ⟨g3, cap3, rfl, hg3, hg3'⟩ := ho3.form (by omega)
    have HRD3 := hide (Rd.of_own ho3)
    have HROW3 := hide (HROW2.out.below hb3)
    have hbw3 := hbw2.trans (hb3.mono (by omega))
    have hs3 : W.heap.size < w3.heap.size := HROW3.out.lt
    clear hb3 HROW2 hbw2 hs2 ho3 hg3
    go_wp2_with (refine wpList_load_row rfl 55 _ rfl W.heap.size rfl 55 X (0, 0) _ HROW3.out Try.underlying55 rfl HINF.out ?_)
    refine (RTableWords_any X n d p c l _ hT.cells ys hT.len hT.rest hT.up.1 hp1 hd0 hd1 hc0 hc1 hl0 hl1).mono ?_
    rintro e w4 ⟨v4, rfl, ho4, hb4⟩
    obtain ⟨g4, cap4, rfl, hg4, hg4'⟩ := ho4.form (by omega)
    have HRD3' := hide ((HRD3.out.below hb4))
    have HRD4 := hide (Rd.of_own ho4)
    have HROW4 := hide (HROW3.out.below hb4)
    have hbw4 := hbw3.trans (hb4.mono (by omega))
    have hs4 : W.heap.size < w4.heap.size := HROW4.out.lt
    have hz4 := hb4.size
    clear hb4 HROW3 hbw3 HRD3 hs3 ho4 hg4
    have hti : (tabInts n d p c l ys).length = 40 := by have := hT.len; simp [tabInts]; omega
    have HEQ : Hid (Calls Try.prog 24 #[.slice (some ⟨g3, 0, none⟩) 40 cap3, .slice (some ⟨g4, 0, none⟩) 40 cap4] w4 fun e W' => e = .returned (.bool true) ∧ Below w4.heap.size w4 W') := hide (by
      have h := EqualW w3.heap.size w4.heap.size (some ⟨g3, 0, none⟩) (some ⟨g4, 0, none⟩) cap3 cap4 (tabInts n d p c l ys) (tabInts n d p c l ys) w4 (by rw [hti, ← tabWords_ints hT]; exact HRD3'.out) (by rw [hti, ← tabWords_ints hT]; exact HRD4.out) hz4 (Nat.le_refl _) (by omega) (by omega) true (by simp)
      rw [hti] at h
      exact h)
    clear hti hz4 HRD3' HRD4
    go_wp2_with fail
    refine HEQ.out.mono ?_
    rintro e w5 ⟨rfl, hb5⟩
    have HROW5 := hide (HROW4.out.below hb5)
    have hbw5 := hbw4.trans (hb5.mono (by omega))
    clear hb5 HROW4 hbw4 hs4 HEQ
    have hbw4 := hbw5
    have HROW4 := HROW5
    clear HW
    go_wp2_with fail
    go_loopw [42] (fun i wr => ∃ k : Nat, k ≤ hs.length ∧ i = .int .i64 k ∧ RowAt wr W.heap.size 55 X ∧ Below W.heap.size W wr) (fun i _ => hs.length - (intOf i).toNat)
    case atStart => exact ⟨0, Nat.zero_le _, rfl, HROW4.out, hbw4⟩
    case round =>
      obtain ⟨k, hk, rfl, hrow, hbw⟩ := hrel
      have HRK := hide hrow
      have HBK := hide hbw
      have hsk : W.heap.size < wr.heap.size := hrow.lt
      clear hrow hbw
      have hmx : (hs.length : Int) ≤ 9223372036854775807 := by have := HM2.out; omega
      by_cases hlt : k < hs.length
      · obtain ⟨b1, o1, rfl, hb1, hc1⟩ := (h2.below HBK.out).elem encW_len hlt
        have hd10 := hc1 0 _ (by omega) rfl
        simp only [Nat.mul_one, Nat.add_zero] at hd10
        clear hc1
        have hh := hide (HU2.out hs[k] (List.getElem_mem hlt))
        have hbs : b1 < wr.heap.size := by omega
        generalize hs[k] = h at *
        have e1 := (HRK.out.cell 1).trans hT.cells.c1
        have e2 := (HRK.out.cell 2).trans hT.cells.c2
        by_cases hk8 : k < 8
        · have ht8 : (k : Int) < 8 := by omega
          obtain ⟨b, hb'⟩ : ∃ b, decide (topZ h d = p) = b := ⟨_, rfl⟩
          have hb := hide hb'
          have hbe : (topZ h d == p) = b := by rw [← hb']; rw [Bool.eq_iff_iff]; simp
          clear hb'
          go_wp2_with fail
          refine wp_region_via (by kernel_rfl) (by kernel_rfl) ?_
          go_big_quiet_step (fail)
          go_big_quiet_step (fail)
          go_big_quiet_step (fail)
          refine wpQuiet_load_row rfl 55 _ rfl W.heap.size rfl 55 X (0, 0) _ (fun w hC => by obtain ⟨z, rfl⟩ := hC; exact via_block HRK.out) Try.underlying55 (by kernel_rfl) HINF.out ?_
          simp only [Act.put, List.setIfInBounds_toArray, List.set_cons_zero, List.set_cons_succ]
          repeat (go_big_quiet_step ((first | (go_at_call 20; exact via_of (Has_any X n d p c l h _ hT.cells hT.up hh.out b (by rw [hasB_r _ _ _ _ _ hT.up.1 _ HR.out]; rw [hb.out]; rfl))) | (go_at_call 25; exact via_of_same (RTop_any h d _ hh.out.1 hh.out.2 hd0 (by omega))))))
          refine via_out fun w5 hb5 => ?_
          have HR5 := hide (HRK.out.below hb5)
          have HB5 := hide (HBK.out.trans (hb5.mono (by omega)))
          clear hb5 e1 e2 hd10
          cases b
          all_goals
            go_wp2_with fail
            go_roundw
            case rel => exact ⟨k + 1, by omega, by go_num, HR5.out, HB5.out⟩
            case measure => simp [intOf]; omega
        · have ht8 : decide ((k : Int) < 8) = false := by simp; omega
          go_wp2_with fail
          refine wp_region_via (by kernel_rfl) (by kernel_rfl) ?_
          repeat (go_big_quiet_step (fail))
          refine via_out fun w5 hb5 => ?_
          have HR5 := hide (HRK.out.below hb5)
          have HB5 := hide (HBK.out.trans (hb5.mono (by omega)))
          clear hb5 e1 e2 hd10
          go_wp2_with fail
          go_roundw
          case rel => exact ⟨k + 1, by omega, by go_num, HR5.out, HB5.out⟩
          case measure => simp [intOf]; omega
      · skip
        have HC := hide (fun (w : World) (A : Option Addr) (n c : Nat) (ls : List Value) (hr : Rd w w.heap.size 1 A n ls) (h1 : ∀ u ∈ ls, u.oneCell' = true) (hb : n ≤ 4096) => CloneW w.heap.size A n c ls w hr (Nat.le_refl _) h1 hb)
        obtain ⟨m, hm⟩ : ∃ m, min xs.length 44 = m := ⟨_, rfl⟩
        have hm1 : m ≤ xs.length := by omega
        have hm2 : m ≤ 44 := by omega
        have hmI : min (xs.length : Int) 44 = (m : Int) := by omega
        obtain ⟨zs, hz⟩ : ∃ zs, xs.take m = zs := ⟨_, rfl⟩
        have hzl : zs.length = m := by rw [← hz]; simp; omega
        have hzu : ∀ x ∈ zs, U64 x := fun x hx => HU1.out x (by rw [← hz] at hx; exact List.mem_of_mem_take hx)
        have hrz : Rd wr wr.heap.size 1 A1 m (Cs encW zs) := by
          have h := ((h1.below HBK.out).more HBK.out.size).take hm1
          rw [← Cs_take encW_len, hz] at h
          exact h
        have HRZ := hide hrz
        have HZL := hide hzl
        have HZU := hide hzu
        have hlI : (m : Int) ≤ (c1 : Int) := by omega
        have hxl : (xs.length : Int) ≤ 9223372036854775807 := by have := HM1.out; omega
        have hcl : (c1 : Int) ≤ 9223372036854775807 := by have := HM1.out; omega
        clear hrz hzl hzu hm hz
        have HHLT := hide hlt
        go_wp2_with fail
        clear hlt hmx
        refine (HC.out _ A1 m _ (Cs encW zs) HRZ.out (Cs_one_cell encW_one _) (by omega)).mono ?_
        rintro e w6 ⟨v6, rfl, ho6, hb6⟩
        obtain ⟨A6, c6, rfl, hc6⟩ := own_form ho6
        have HRD6 := hide (Rd.of_own ho6)
        have HBW6 := hide (HBK.out.trans (hb6.mono (by omega)))
        clear ho6 hb6 HRZ hmI hxl hcl hlI
        go_wp2_with fail
        refine (HC.out _ A6 m _ (Cs encW zs) HRD6.out (Cs_one_cell encW_one _) (by omega)).mono ?_
        rintro e w7 ⟨v7, rfl, ho7, hb7⟩
        obtain ⟨A7, c7, rfl, hc7⟩ := own_form ho7
        have HRD7 := hide (Rd.of_own ho7)
        have HRD6' := hide ((HRD6.out.below hb7).more hb7.size)
        have hbw7 := HBW6.out.trans (hb7.mono (HBW6.out.size))
        clear ho7 hb7 HRD6 HBW6 HC
        go_wp2_with fail
        refine (LTable_any w7.heap.size A6 m c6 zs w7 HRD6'.out HZL.out (Nat.le_refl _) HZU.out hc6).mono ?_
        rintro e w8 ⟨rfl, hb8⟩
        obtain ⟨o, ho⟩ : ∃ o, okT zs = o := ⟨_, rfl⟩
        rw [ho]
        obtain ⟨Z, hZ⟩ : ∃ Z, (if o then readX zs else zeroT) = Z := ⟨_, rfl⟩
        have hZl : Z.length = 39 ∧ (∀ u ∈ Z, u.oneCell' = true) ∧ (∀ w, (binOp .eql 55 (.agg Z.toArray) (.agg Z.toArray)).run Try.prog w = .ok (.bool true) w) := by
          rw [← hZ]
          cases o
          · exact ⟨rfl, fun u hu => (Array.all_eq_true_iff_forall_mem.1 zeroT_one) u (by simpa using hu), eql_tab tab_zero⟩
          · have hl40 := okT_len ho
            exact ⟨readX_len zs hl40, readX_one zs, eql_tab (tab_read zs hl40 HZU.out)⟩
        obtain ⟨hZl, hZ1, hZe⟩ := hZl
        rw [hZ]
        have HZe := hide hZe
        have HZ1 := hide (all_oneCell_toArray hZ1)
        have hZs : (Try.prog.info? 55).map (·.size) = some Z.toArray.size := by rw [List.size_toArray, hZl]; kernel_rfl
        have HZs := hide hZs
        have HZc := hide (show zeroT.toArray.size = Z.toArray.size by rw [List.size_toArray, List.size_toArray, hZl]; rfl)
        have HRD7b := hide ((HRD7.out.below hb8).more hb8.size)
        have HRD6b := hide ((HRD6'.out.below hb8).more hb8.size)
        have hbw8 := hbw7.trans (hb8.mono (hbw7.size))
        clear hZe hZs hb8 HRD7 HRD6' hbw7
        generalize hoo : Value.int IntKind.i64 (if o = true then 0 else 260) = OV
        go_wp2_with (refine wpList_store_new rfl 55 _ _ rfl zeroT.toArray Z.toArray w8.heap.size rfl rfl rfl HZs.out HZc.out HZ1.out ?_)
        have hrow9 : RowAt (w8.alloc (.cells Z.toArray 55)) w8.heap.size 55 Z.toArray := RowAt.new _ _ _
        have hb9 : Below w8.heap.size w8 (w8.alloc (.cells Z.toArray 55)) := (Below.refl _ _).alloc (Nat.le_refl _) _
        have hbw9 := hbw8.trans (hb9.mono hbw8.size)
        have HRD6c := hide ((HRD6b.out.below hb9).more hb9.size)
        have HRD7c := hide ((HRD7b.out.below hb9).more hb9.size)
        obtain ⟨g9, hg9⟩ : ∃ g, w8.heap.size = g := ⟨_, rfl⟩
        rw [hg9] at hrow9
        rw [hg9]
        generalize w8.alloc (.cells Z.toArray 55) = w9 at *
        clear HRD6b HRD7b hbw8 hb9 hg9
        refine (RReadTable_all w9.heap.size A7 m c7 zs w9 HRD7c.out HZL.out (Nat.le_refl _) HZU.out).mono ?_
        rintro e w10 ⟨Y, rfl, hYl, hY1, hYo, hb10⟩
        rw [ho]
        have HRD6d := hide ((HRD6c.out.below hb10).more hb10.size)
        have HRD7d := hide ((HRD7c.out.below hb10).more hb10.size)
        have hrow10 := hrow9.below hb10
        have hbw10 := hbw9.trans (hb10.mono hbw9.size)
        have HY1 := hide (all_oneCell_toArray hY1)
        have hYs : (Try.prog.info? 55).map (·.size) = some Y.toArray.size := by rw [List.size_toArray, hYl]; kernel_rfl
        have HYs := hide hYs
        have HYc := hide (show zeroT.toArray.size = Y.toArray.size by rw [List.size_toArray, List.size_toArray, hYl]; rfl)
        have HYO := hide hYo
        clear hYs hYo hb10 hrow9 hbw9 HRD6c HRD7c
        have hrow11 : RowAt (w10.alloc (.cells Y.toArray 55)) w10.heap.size 55 Y.toArray := RowAt.new _ _ _
        have hb11 : Below w10.heap.size w10 (w10.alloc (.cells Y.toArray 55)) := (Below.refl _ _).alloc (Nat.le_refl _) _
        have hbw11 := hbw10.trans (hb11.mono hbw10.size)
        have hrow11' := hrow10.below hb11
        have hlt11 := hrow10.lt
        have HRD6e := hide (HRD6d.out.below hb11)
        have HRD7e := hide (HRD7d.out.below hb11)
        have HR11 := hide hrow11
        have HR11' := hide hrow11'
        have HB11 := hide hbw11
        obtain ⟨w11, hw11⟩ : ∃ w, w10.alloc (.cells Y.toArray 55) = w := ⟨_, rfl⟩
        have HW11 := hide hw11
        rw [hw11] at HRD6e HRD7e HR11 HR11' HB11 hb11
        clear hw11 hrow11 hrow11' hbw11 HRD6d HRD7d hrow10
        have hsz11 := hb11.size
        cases o
        · have hZz : Z = zeroT := hZ.symm
          subst hZz
          subst hoo
          clear hZ hZl hZ1 hb11
          go_upto_region 23 with (first
            | (refine wpList_store_new rfl 55 (.tmp 17) (.tmp 82) rfl zeroT.toArray Y.toArray w10.heap.size rfl rfl rfl HYs.out HYc.out HY1.out ?_; rw [HW11.out])
            | (refine wpList_store_rowAt rfl 55 (.tmp 17) (.tmp 86) rfl w10.heap.size 55 Y.toArray zeroT.toArray rfl rfl HR11.out HYc.out.symm hinf55 zeroT_one ?_; intro w12 hr12 hp12; have HR12' := hide (HR11'.out.past hp12 (by omega)); have HR12 := hide hr12; have HP12 := hide hp12; clear hr12 hp12))
          have HZS := hide hinf55
          have hB12 : Below W.heap.size W w12 := HB11.out.trans (HP12.out.below.mono (by have := hbw10.size; omega))
          have HRD6f : Hid (Rd w12 w10.heap.size 1 A6 m (Cs encW zs)) := hide (HRD6e.out.below HP12.out.below)
          have HRD7f : Hid (Rd w12 w10.heap.size 1 A7 m (Cs encW zs)) := hide (HRD7e.out.below HP12.out.below)
          have hs12 : w10.heap.size ≤ w12.heap.size := by have := HP12.out.size; omega
          have HEQ : Hid (Calls Try.prog 24 #[.slice A6 m c6, .slice A7 m c7] w12 fun e W' => e = .returned (.bool true) ∧ Below w12.heap.size w12 W') := hide (by
            have h := EqualW w10.heap.size w10.heap.size A6 A7 c6 c7 zs zs w12 (by rw [HZL.out]; exact HRD6f.out) (by rw [HZL.out]; exact HRD7f.out) hs12 hs12 (by have := HZL.out; omega) (by have := HZL.out; omega) true (by simp)
            rw [HZL.out] at h
            exact h)
          clear hs12 HRD6f HRD7f
          refine wp_region_lit ?_
          refine wpList_load_row rfl 55 (.tmp 16) rfl g9 rfl 55 zeroT.toArray (0, 0) _ HR12'.out Try.underlying55 rfl HZS.out ?_
          refine wpList_load_row rfl 55 (.tmp 17) rfl w10.heap.size rfl 55 zeroT.toArray (0, 0) _ HR12.out Try.underlying55 rfl HZS.out ?_
          refine wpList_eqlG rfl .eql 55 55 (.tmp 87) (.tmp 88) rfl zeroT.toArray zeroT.toArray (.bool true) ?_ ?_ guard55 HZe.out ?_
          · rfl
          · rfl
          simp only [Act.put, List.getElem_toArray, List.getElem_cons_succ, List.getElem_cons_zero, List.setIfInBounds_toArray, List.set_cons_zero, List.set_cons_succ]
          go_wp2_with fail
          refine HEQ.out.mono ?_
          rintro e w13 ⟨rfl, hb13⟩
          go_wp2_with fail
          go_ret
          exact ⟨rfl, hB12.trans (hb13.mono hB12.size)⟩
        · have hZz : Z = readX zs := hZ.symm
          have hYz : Y = readX zs := HYO.out ho
          subst hZz
          subst hYz
          subst hoo
          clear hZ hZl hZ1 hb11
          go_upto_region 23 with (refine wpList_store_new rfl 55 (.tmp 17) (.tmp 82) rfl zeroT.toArray (readX zs).toArray w10.heap.size rfl rfl rfl HYs.out HYc.out HY1.out ?_; rw [HW11.out])
          have HZS := hide HYs.out
          have HR12 := hide HR11.out
          have HR12' := hide HR11'.out
          have hB12 : Below W.heap.size W w11 := HB11.out
          have HRD6f : Hid (Rd w11 w10.heap.size 1 A6 m (Cs encW zs)) := hide HRD6e.out
          have HRD7f : Hid (Rd w11 w10.heap.size 1 A7 m (Cs encW zs)) := hide HRD7e.out
          have hs12 : w10.heap.size ≤ w11.heap.size := by omega
          have HEQ : Hid (Calls Try.prog 24 #[.slice A6 m c6, .slice A7 m c7] w11 fun e W' => e = .returned (.bool true) ∧ Below w11.heap.size w11 W') := hide (by
            have h := EqualW w10.heap.size w10.heap.size A6 A7 c6 c7 zs zs w11 (by rw [HZL.out]; exact HRD6f.out) (by rw [HZL.out]; exact HRD7f.out) hs12 hs12 (by have := HZL.out; omega) (by have := HZL.out; omega) true (by simp)
            rw [HZL.out] at h
            exact h)
          clear hs12 HRD6f HRD7f
          refine wp_region_lit ?_
          refine wpList_load_row rfl 55 (.tmp 16) rfl g9 rfl 55 (readX zs).toArray (0, 0) _ HR12'.out Try.underlying55 rfl HZS.out ?_
          refine wpList_load_row rfl 55 (.tmp 17) rfl w10.heap.size rfl 55 (readX zs).toArray (0, 0) _ HR12.out Try.underlying55 rfl HZS.out ?_
          refine wpList_eqlG rfl .eql 55 55 (.tmp 87) (.tmp 88) rfl (readX zs).toArray (readX zs).toArray (.bool true) ?_ ?_ guard55 HZe.out ?_
          · rfl
          · rfl
          simp only [Act.put, List.getElem_toArray, List.getElem_cons_succ, List.getElem_cons_zero, List.setIfInBounds_toArray, List.set_cons_zero, List.set_cons_succ]
          go_wp2_with fail
          refine HEQ.out.mono ?_
          rintro e w13 ⟨rfl, hb13⟩
          go_wp2_with fail
          go_ret
          exact ⟨rfl, hB12.trans (hb13.mono hB12.size)⟩
end Go.Proofs.Ytndlfofpldbldaa
