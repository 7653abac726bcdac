/-
  The law LayoutWords, walked.
-/
import Derived.Test.YtndlfofpldbldaaDe
import Derived.Deep.CutRange
import Derived.Deep.CutBlock
set_option linter.unusedSimpArgs false
set_option linter.unusedVariables false
namespace Go.Proofs.Ytndlfofpldbldaa
open Go Go.RowKit

/-- An operation that looks at no memory. -/
theorem wpList_yield {P : Program} {ops : Array Oper} {rest : List Oper} {o : Oper} {a : Act} {w : World} {Q : Exit → Act → World → Prop} (v : Value) (hw : Region.wanted o (yielded ops a.tmps) = true)
    (h : (execOp a.eval o).run P w = .ok (.value v) w) (hk : wpList P ops Q rest (a.put o.dst v) w) : wpList P ops Q (o :: rest) a w :=
  wpList_step fun _ hK => by
    rw [if_pos hw]
    unfold Oper.wp
    simp only [h]
    exact hK _ _ hk
/-- Structs are compared, of which the outcome is known; under a guard that holds. -/
theorem wpList_eqlW {P : Program} {ops : Array Oper} {rest : List Oper} {o : Oper} {a : Act} {w : World} {Q : Exit → Act → World → Prop} (hw : Region.wanted o (yielded ops a.tmps) = true) (op : BinOp) (t t' : TypeId) (x y : Operand) (ho : o.op = .binOp op t x y t')
    (X Y : Array Value) (v : Value) (hx : a.eval x = .agg X) (hy : a.eval y = .agg Y) (hm : P.eqGuardType P.depth t = false) (heq : ∀ w, (binOp op t (.agg X) (.agg Y)).run P w = .ok v w)
    (h : wpList P ops Q rest (a.put o.dst v) w) : wpList P ops Q (o :: rest) a w :=
  wpList_step fun _ hK => by
    rw [if_pos hw]
    unfold Oper.wp execOp
    simp only [ho, hx, hy, Sem.run_bind, run_eqGuard_agg _ op t x y X Y hm, Result.andThen_ok, heq, Sem.run_pure]
    exact hK _ _ h
theorem neq_self {P : Program} {t : TypeId} {cs : Array Value} (h : ∀ w, (binOp .eql t (.agg cs) (.agg cs)).run P w = .ok (.bool true) w) (w : World) : (binOp .neq t (.agg cs) (.agg cs)).run P w = .ok (.bool false) w := by
  have h1 := h w
  rw [run_eql_struct] at h1
  rw [run_neq_struct]
  cases hq : (Op.equalIn 10000 t (.agg cs) (.agg cs)).run P w with
  | ok b w' => rw [hq] at h1; simp only [Result.andThen] at h1 ⊢; injection h1 with h2 h3; injection h2 with h2; subst h2; subst h3; rfl
  | halt e w' => rw [hq] at h1; simp [Result.andThen] at h1

/-- TableWords, as one contract. -/
theorem LTableWords_any {X : Array Value} {n d p c l : Int} {ys : List Int} (hT : Tab X n d p c l ys) (W : World) :
    Calls Try.prog 22 #[.agg X] W fun e W' => Below W.heap.size W W' ∧ ((rtabB d p c l = true ∧ ∃ g cap, e = .returned (.tuple #[.slice (some ⟨g, 0, none⟩) 40 cap, .int .i64 0]) ∧ 40 ≤ cap ∧ cap ≤ 9223372036854775807 ∧ Rd W' W'.heap.size 1 (some ⟨g, 0, none⟩) 40 (Cs encW (tabInts n d p c l ys)))
      ∨ (rtabB d p c l = false ∧ e = .returned (.tuple #[.slice none 0 0, .int .i64 260]))) := by
  obtain ⟨r, hr⟩ : ∃ r, rtabB d p c l = r := ⟨_, rfl⟩
  have hf := flat_rtab d p c l hT.up.1
  cases r
  · refine (TableWords_no X n d p c l W hT.cells hT.up.1 hT.up.2 (by rw [hf, hr])).mono ?_
    rintro e W' ⟨rfl, hb⟩
    exact ⟨hb, .inr ⟨hr, rfl⟩⟩
  · refine (TableWords_ok X n d p c l W hT.cells hT.up.1 (by rw [hf, hr])).mono ?_
    rintro e W' ⟨v, rfl, ho, hb⟩
    obtain ⟨g, cap, rfl, hg, hg'⟩ := ho.form (by omega)
    have hrd := Rd.of_own ho
    rw [tabWords_ints hT] at hrd
    refine ⟨hb, .inl ⟨hr, g, cap, rfl, ?_, ?_, hrd⟩⟩
    all_goals
      rcases ho.2 with ⟨h, _⟩ | ⟨g', cap', cur, h, _, _, h1, h2, _⟩
      · cases h
      · injection h with _ _ h3
        unfold maxLen at h2
        omega

/-- DirWords, as one contract. -/
theorem LDirWords_any (B : Nat) (A : Option Addr) (c : Nat) (dep : Int) (es : List (Int × Int)) (W : World) (h : Rd W B 2 A es.length (Cs encE es)) (hB : B ≤ W.heap.size) (hu : ∀ e ∈ es, U64 e.2) (m : Nat) (hm : es.length = m) :
    Calls Try.prog 31 #[.agg #[.int .i64 dep, .slice A m c]] W fun e W' => Below W.heap.size W W' ∧ ((dirShape dep es.length = true ∧ entsOk es = true ∧ ∃ g cap, e = .returned (.tuple #[.slice (some ⟨g, 0, none⟩) 40 cap, .int .i64 0]) ∧ 40 ≤ cap ∧ cap ≤ 9223372036854775807 ∧ Rd W' W'.heap.size 1 (some ⟨g, 0, none⟩) 40 (Cs encW (dirInts dep es)))
      ∨ ((dirShape dep es.length && entsOk es) = false ∧ e = .returned (.tuple #[.slice none 0 0, .int .i64 261]))) := by
  subst hm
  obtain ⟨r, hr⟩ : ∃ r, dirShape dep es.length = r := ⟨_, rfl⟩
  cases r
  · refine (DirWords_bad A es.length c dep W hr).mono ?_
    rintro e W' ⟨rfl, hb⟩
    exact ⟨hb, .inr ⟨by rw [hr]; rfl, rfl⟩⟩
  · have hs := hr
    simp only [dirShape, decide_eq_true_eq] at hs
    obtain ⟨⟨d0, d1⟩, hn⟩ := hs
    obtain ⟨p1, p2⟩ := pow_small dep d0 d1
    refine (DirWords_any B A c dep es W h hB hu d0 d1 hn (by omega)).mono ?_
    rintro e W' (⟨ho, v, rfl, hown, hb⟩ | ⟨ho, rfl, hb⟩)
    · obtain ⟨g, cap, rfl, hg, hg'⟩ := hown.form (by omega)
      have hrd := Rd.of_own hown
      rw [dirWords_ints] at hrd
      refine ⟨hb, .inl ⟨hr, ho, g, cap, rfl, ?_, ?_, hrd⟩⟩
      all_goals
        rcases hown.2 with ⟨h, _⟩ | ⟨g', cap', cur, h, _, _, h1, h2, _⟩
        · cases h
        · injection h with _ _ h3
          unfold maxLen at h2
          omega
    · exact ⟨hb, .inr ⟨by rw [hr, ho]; rfl, rfl⟩⟩

set_option maxRecDepth 100000 in
set_option maxHeartbeats 4000000 in
theorem Words_walk (X : Array Value) (n d p c l : Int) (ys : List Int) (hT : Tab X n d p c l ys) (A1 A2 : Option Addr) (c1 c2 : Nat) (dep : Int) (es : List (Int × Int)) (xs : List Int) (W : World)
    (h1 : Rd W W.heap.size 2 A1 es.length (Cs encE es)) (h2 : Rd W W.heap.size 1 A2 xs.length (Cs encW xs)) (hu1 : ∀ e ∈ es, U64 e.2) (hu2 : ∀ x ∈ xs, U64 x) (hn1 : es.length ≤ c1) (hn2 : xs.length ≤ c2) (hm1 : c1 ≤ 9223372036854775807) (hm2 : c2 ≤ 9223372036854775807) :
    Calls Try.prog 8 #[.agg X, .agg #[.int .i64 dep, .slice A1 es.length c1], .slice A2 xs.length c2] W fun e W' => e = .returned (.bool true) ∧ Below W.heap.size W W' := by
  have hinf : (Try.prog.info? 55).map (·.size) = some X.size := by rw [hT.cells.size]; kernel_rfl
  have HINF := hide hinf
  have HW := hide (fun w => wakes_any w)
  have HU1 := hide hu1
  have HU2 := hide hu2
  have HM1 := hide hm1
  have HM2 := hide hm2
  clear hinf hu1 hu2 hm1 hm2
  go_enter Try.func8, Try.ntmps8
  go_wp2_with fail
  have hrow : RowAt ((W.alloc (.cells X 55)).alloc (.cells #[.int .i64 dep, .slice A1 es.length c1] 49)) W.heap.size 55 X := (RowAt.new _ _ _).below ((Below.refl _ _).alloc (Nat.le_refl _) _)
  have hrow2 : RowAt ((W.alloc (.cells X 55)).alloc (.cells #[.int .i64 dep, .slice A1 es.length c1] 49)) (W.heap.size + 1) 49 #[.int .i64 dep, .slice A1 es.length c1] := by
    have h := RowAt.new (W.alloc (.cells X 55)) 49 #[.int .i64 dep, .slice A1 es.length c1]
    rw [World.size_alloc] at h; exact h
  have hb0 : Below W.heap.size W ((W.alloc (.cells X 55)).alloc (.cells #[.int .i64 dep, .slice A1 es.length c1] 49)) := ((Below.refl _ _).alloc (Nat.le_refl _) _).alloc (by simp) _
  generalize ((W.alloc (.cells X 55)).alloc (.cells #[.int .i64 dep, .slice A1 es.length c1] 49)) = w0 at *
  refine (HW.out _).mono ?_
  rintro e w1 ⟨rfl, hb1⟩
  have HR1 := hide (hrow.below hb1)
  have HR2 := hide (hrow2.below hb1)
  have hbw1 := hb0.trans (hb1.mono hb0.size)
  have hs1 : W.heap.size + 1 < w1.heap.size := HR2.out.lt
  clear hrow hrow2 hb0 hb1 HW
  have d0 := HR2.out.cell 0
  have d1 := HR2.out.cell 1
  simp only [List.getElem?_toArray, List.getElem?_cons_succ, List.getElem?_cons_zero] at d0 d1
  obtain ⟨fs, hfs⟩ : ∃ fs, es.take (min es.length 40) = fs := ⟨_, rfl⟩
  obtain ⟨m, hm⟩ : ∃ m, min es.length 40 = m := ⟨_, rfl⟩
  have hm40 : m ≤ 40 := by omega
  have hfl : fs.length = m := by rw [← hfs, ← hm, List.length_take]; omega
  have hfu : ∀ e ∈ fs, U64 e.2 := fun e he => HU1.out e (by rw [← hfs] at he; exact List.mem_of_mem_take he)
  have HOWN := hide (own_any W.heap.size A1 c1 dep es w1 (h1.below hbw1) (by omega) hn1 HM1.out)
  rw [hm] at HOWN hfs
  rw [hfs] at HOWN
  have HFL := hide hfl
  have HFU := hide hfu
  clear hm hfs hfl hfu
  go_upto_region 3 with fail
  go_cut [7] from 26 to 27 (fun s7 wx => ∃ (g3 : Nat) (A3 : Option Addr) (c3 : Nat), s7 = .pointer (some ⟨g3, 0, none⟩) ∧ RowAt wx g3 49 #[.int .i64 dep, .slice A3 m c3] ∧ Rd wx wx.heap.size 2 A3 m (Cs encE fs) ∧ m ≤ c3 ∧ Below W.heap.size W wx ∧ RowAt wx W.heap.size 55 X)
  case first =>
    go_wp2_with fail
    refine HOWN.out.mono ?_
    rintro e w2 ⟨A3, c3, rfl, hc3, ho3, hb2⟩
    have HO := hide (Rd.of_own ho3)
    have HRX := hide (HR1.out.below hb2)
    have hbw2 := hbw1.trans (hb2.mono hbw1.size)
    clear ho3
    go_wp2_with fail
    go_meet
    case rel =>
      exact ⟨w2.heap.size, A3, c3, rfl, RowAt.new _ _ _, (HO.out.alloc (Nat.le_refl _) _).more (by simp), hc3, hbw2.alloc hbw2.size _, HRX.out.below ((Below.refl _ _).alloc (Nat.le_refl _) _)⟩
  case rest =>
    rename_i K hK
    refine hK _ _ (wp_seq_k fun K1 hK1 => ?_)
    clear hK K
    obtain ⟨g3, A3, c3, rfl, hrow3, hrd3, hc3, hbw3, hrowX⟩ := hcut
    have HR3 := hide hrow3
    have HD3 := hide hrd3
    have HRX := hide hrowX
    clear hrow3 hrd3 hrowX HOWN HR1 HR2 d0 d1 hbw1
    have hg3 := HR3.out.lt
    go_cut [8, 9, 10, 11] from 28 to 51 (fun _ _ _ _ wx => Below wc.heap.size wc wx)
    case first =>
      go_wp2_with (refine wpList_load_row rfl 55 (.tmp 3) rfl W.heap.size rfl 55 X (0, 0) _ HRX.out Try.underlying55 rfl HINF.out ?_)
      refine (LTableWords_any hT _).mono ?_
      rintro e w4 ⟨hb4, ⟨hr, g4, cap4, rfl, hcap, hcap2, hrd4⟩ | ⟨hr, rfl⟩⟩
      · obtain ⟨t1, t2, t3, t4⟩ := tab_back hT hr
        have HL := hide (LTable_any w4.heap.size _ 40 cap4 _ w4 hrd4 t4 (Nat.le_refl _) t3 hcap)
        rw [t1] at HL
        have HRX4 := hide (HRX.out.below hb4)
        have HB4 := hide hb4
        clear hrd4 hb4
        go_wp2_with fail
        refine HL.out.mono ?_
        rintro e w5 ⟨rfl, hb5⟩
        simp only [if_true, t2]
        have hbX : X.all (·.oneCell') = true := Array.all_eq_true_iff_forall_mem.2 (fun v hv => hT.cells.one v (by simpa using hv))
        have hsX : zeroT.toArray.size = X.size := by rw [hT.cells.size]; rfl
        have HRX5 := hide (HRX4.out.below hb5)
        have hB5 := HB4.out.trans (hb5.mono HB4.out.size)
        go_upto_region 7 with (refine wpList_store_new rfl 55 (.tmp 10) (.tmp 38) rfl zeroT.toArray X w5.heap.size rfl rfl rfl HINF.out hsX hbX ?_)
        have hrN : RowAt (w5.alloc (.cells X 55)) w5.heap.size 55 X := RowAt.new _ _ _
        have hrO : RowAt (w5.alloc (.cells X 55)) W.heap.size 55 X := HRX5.out.below ((Below.refl _ _).alloc (Nat.le_refl _) _)
        have hB6 : Below wc.heap.size wc (w5.alloc (.cells X 55)) := hB5.alloc hB5.size _
        refine wp_region_lit ?_
        refine wpList_yield (.int .i64 0) rfl rfl ?_
        refine wpList_yield (.bool false) rfl rfl ?_
        refine wpList_yield (.bool false) rfl rfl ?_
        refine wpList_load_rowG rfl 55 (.tmp 10) rfl w5.heap.size rfl 55 X (0, 0) _ hrN Try.underlying55 rfl HINF.out ?_
        refine wpList_load_rowG rfl 55 (.tmp 3) rfl W.heap.size rfl 55 X (0, 0) _ hrO Try.underlying55 rfl HINF.out ?_
        refine wpList_eqlW rfl .neq 55 55 (.tmp 43) (.tmp 44) rfl X X (.bool false) rfl rfl guard55 (neq_self (eql_tab hT)) ?_
        simp only [Act.put, List.getElem_toArray, List.getElem_cons_succ, List.getElem_cons_zero, List.setIfInBounds_toArray, List.set_cons_zero, List.set_cons_succ]
        go_wp2_with fail
        go_meet
        case rel => exact hB6
      · go_wp2_with fail
        go_meet
        case rel => exact hb4
    case rest =>
      refine hK1 _ _ (wp_seq_k fun K2 hK2 => ?_)
      have HR3 := hide (HR3.out.below hcut)
      have HD3 := hide ((HD3.out.below hcut).more hcut.size)
      have hbw3 := hbw3.trans (hcut.mono hbw3.size)
      have hg3 := HR3.out.lt
      have c0 := HR3.out.cell 0
      have c1 := HR3.out.cell 1
      simp only [List.getElem?_toArray, List.getElem?_cons_succ, List.getElem?_cons_zero] at c0 c1
      clear hK1 K1 hcut HRX HINF
      go_cut [12, 13, 14, 15] from 52 to 76 (fun _ _ _ _ wx => Below wc.heap.size wc wx)
      case first =>
        have HDW := hide (LDirWords_any wc.heap.size A3 c3 dep fs wc (by rw [HFL.out]; exact HD3.out) (Nat.le_refl _) HFU.out m HFL.out)
        go_wp2_with fail
        refine HDW.out.mono ?_
        rintro e w4 ⟨hb4, ⟨hs, hok, g4, cap4, rfl, hcap, hcap2, hrd4⟩ | ⟨hr, rfl⟩⟩
        · obtain ⟨t1, t2, t3, t4, t5, t6⟩ := dir_back dep fs hs hok HFU.out
          have HL := hide (LDir_any w4.heap.size _ 40 cap4 _ w4 hrd4 t5 (Nat.le_refl _) t4 hcap hcap2)
          have HB4 := hide hb4
          have e0 := kept hb4 c0
          have e1 := kept hb4 c1
          have HT2 := hide t2
          have HT3 := hide t3
          have HT6 := hide (t6.symm.trans HFL.out)
          clear hrd4 hb4 t2 t3 t4 t5 t6
          go_wp2_with fail
          refine HL.out.mono ?_
          rintro e w5 ⟨hb5, ⟨_, v, rfl, hown⟩ | ⟨hx, _⟩⟩
          · rw [HT6.out, HT3.out] at hown
            rw [HT2.out]
            obtain ⟨A5, cap5, rfl, hcap5⟩ := own_form hown
            have HRD5 := hide (Rd.of_own hown)
            have HSM : Hid (Calls Try.prog 33 #[.agg #[.int .i64 dep, .slice A5 m cap5], .agg #[.int .i64 dep, .slice A3 m c3]] (w5.alloc (.cells #[.int .i64 dep, .slice A5 m cap5] 49)) fun e W' => e = .returned (.bool true) ∧ Below (w5.alloc (.cells #[.int .i64 dep, .slice A5 m cap5] 49)).heap.size (w5.alloc (.cells #[.int .i64 dep, .slice A5 m cap5] 49)) W') := hide (by
              have hb6 : Below w5.heap.size w5 (w5.alloc (.cells #[.int .i64 dep, .slice A5 m cap5] 49)) := (Below.refl _ _).alloc (Nat.le_refl _) _
              have h5 : wc.heap.size ≤ w5.heap.size := Nat.le_trans HB4.out.size hb5.size
              have h := Same_any w5.heap.size wc.heap.size A5 A3 cap5 c3 dep dep fs fs (w5.alloc (.cells #[.int .i64 dep, .slice A5 m cap5] 49)) (by rw [HFL.out]; exact HRD5.out.below hb6) (by rw [HFL.out]; exact ((HD3.out.below HB4.out).below (hb5.mono HB4.out.size)).below (hb6.mono h5)) (by simp) (by simp; omega) (by have := HFL.out; omega) (by have := HFL.out; omega) true (by simp)
              rw [HFL.out] at h
              exact h)
            have f0 := kept hb5 e0
            have f1 := kept hb5 e1
            have hB5 := HB4.out.trans (hb5.mono HB4.out.size)
            have hg5 : g3 < w5.heap.size := Nat.lt_of_lt_of_le hg3 hB5.size
            clear hown hb5 HRD5 e0 e1
            go_wp2_with fail
            refine HSM.out.mono ?_
            rintro e w6 ⟨rfl, hb6⟩
            go_wp2_with fail
            go_meet
            case rel => exact (hB5.alloc hB5.size _).trans (hb6.mono (by have := hB5.size; simp; omega))
          · rw [t1] at hx; cases hx
        · go_wp2_with fail
          go_meet
          case rel => exact hb4
      case rest =>
        refine hK2 _ _ (wp_seq_k fun K3 hK3 => ?_)
        have hbw4 := hbw3.trans (hcut.mono hbw3.size)
        clear hK2 K2 hcut HR3 HD3 hbw3 hg3 c0 c1
        obtain ⟨k, hk⟩ : ∃ k, min xs.length 44 = k := ⟨_, rfl⟩
        have hk1 : k ≤ xs.length := by omega
        have hk2 : k ≤ 44 := by omega
        have hkI : min (xs.length : Int) 44 = (k : Int) := by omega
        obtain ⟨zs, hz⟩ : ∃ zs, xs.take k = zs := ⟨_, rfl⟩
        have hzl : zs.length = k := by rw [← hz, List.length_take]; omega
        have hzu : ∀ x ∈ zs, U64 x := fun x hx => HU2.out x (by rw [← hz] at hx; exact List.mem_of_mem_take hx)
        have hrz : Rd wc wc.heap.size 1 A2 k (Cs encW zs) := by
          have h := ((h2.below hbw4).more hbw4.size).take hk1
          rw [← Cs_take encW_len, hz] at h
          exact h
        have HRZ := hide hrz
        have HZL := hide hzl
        have HZU := hide hzu
        have hlI : (k : Int) ≤ (c2 : Int) := by omega
        have hxl : (xs.length : Int) ≤ 9223372036854775807 := by have := HM2.out; omega
        have hcl : (c2 : Int) ≤ 9223372036854775807 := by have := HM2.out; omega
        clear hrz hzl hzu hk hz
        go_cut [2] from 77 to 81 (fun s2 wx => s2 = .slice A2 k c2 ∧ wx = wc)
        case first =>
          go_wp2_with fail
          go_meet
          case rel => exact ⟨rfl, rfl⟩
        case rest =>
          obtain ⟨rfl, rfl⟩ := hcut
          refine hK3 _ _ (wp_seq_k fun K4 hK4 => ?_)
          clear hK3 K3
          go_cut [16, 17, 18, 19] from 82 to 101 (fun _ _ _ _ wx => Below wc.heap.size wc wx)
          case first =>
            have HL := hide (LTable_any wc.heap.size A2 k c2 zs wc HRZ.out HZL.out (Nat.le_refl _) HZU.out (by omega))
            obtain ⟨o, ho⟩ : ∃ o, okT zs = o := ⟨_, rfl⟩
            rw [ho] at HL
            cases o
            · simp only [Bool.false_eq_true, if_false] at HL
              have hz1 : (Try.prog.info? 55).map (·.size) = some zeroT.toArray.size := hinf55
              go_wp2_with fail
              refine HL.out.mono ?_
              rintro e w4 ⟨rfl, hb4⟩
              go_wp2_with (refine wpList_store_new rfl 55 (.tmp 16) (.tmp 85) rfl zeroT.toArray zeroT.toArray w4.heap.size rfl rfl rfl hinf55 rfl zeroT_one ?_)
              go_meet
              case rel => exact hb4.alloc hb4.size _
            · simp only [if_true] at HL
              have hl40 := okT_len ho
              have hk40 : k = 40 := by have := HZL.out; omega
              subst hk40
              obtain ⟨q1, q2⟩ := read_words zs hl40 ho
              have hT2 := tab_read zs hl40 HZU.out
              have hzs : (Try.prog.info? 55).map (·.size) = some (readX zs).toArray.size := by rw [List.size_toArray, readX_len zs hl40]; kernel_rfl
              have HZS := hide hzs
              have HZ1 := hide (all_oneCell_toArray (readX_one zs))
              have HZC := hide (show zeroT.toArray.size = (readX zs).toArray.size by rw [List.size_toArray, List.size_toArray, readX_len zs hl40]; rfl)
              clear hzs
              go_wp2_with fail
              refine HL.out.mono ?_
              rintro e w4 ⟨rfl, hb4⟩
              have HB4 := hide hb4
              clear hb4
              go_wp2_with (first
                | (refine wpList_store_new rfl 55 (.tmp 16) (.tmp 85) rfl zeroT.toArray (readX zs).toArray w4.heap.size rfl rfl rfl HZS.out HZC.out HZ1.out ?_)
                | (refine wpList_load_row rfl 55 (.tmp 16) rfl w4.heap.size rfl 55 (readX zs).toArray (0, 0) _ (RowAt.new w4 55 _) Try.underlying55 rfl HZS.out ?_))
              have hb5 : Below wc.heap.size wc (w4.alloc (.cells (readX zs).toArray 55)) := HB4.out.alloc HB4.out.size _
              refine (LTableWords_any hT2 _).mono ?_
              rintro e w5 ⟨hb6, ⟨_, g5, cap5, rfl, _, _, hrd5⟩ | ⟨hr, _⟩⟩
              · rw [← tabWords_ints hT2, q2] at hrd5
                have hb7 := hb5.trans (hb6.mono hb5.size)
                have HEQ : Hid (Calls Try.prog 24 #[.slice (some ⟨g5, 0, none⟩) 40 cap5, .slice A2 40 c2] w5 fun e W' => e = .returned (.bool true) ∧ Below w5.heap.size w5 W') := hide (by
                  have h := EqualW w5.heap.size wc.heap.size (some ⟨g5, 0, none⟩) A2 cap5 c2 zs zs w5 (by rw [hl40]; exact hrd5) (by rw [hl40]; exact HRZ.out.below hb7) (Nat.le_refl _) hb7.size (by omega) (by omega) true (by simp)
                  rw [hl40] at h
                  exact h)
                have HB7 := hide hb7
                clear hrd5 hb6 hb5 hb7
                go_wp2_with fail
                refine HEQ.out.mono ?_
                rintro e w6 ⟨rfl, hb8⟩
                go_wp2_with fail
                go_meet
                case rel => exact HB7.out.trans (hb8.mono HB7.out.size)
              · rw [q1] at hr; cases hr
          case rest =>
            have hbw5 := hbw4.trans (hcut.mono hbw4.size)
            have HRZ5 := hide ((HRZ.out.below hcut).more hcut.size)
            clear hcut HRZ hbw4 h1 h2
            have HD := hide (LDir_any wc.heap.size A2 k c2 zs wc HRZ5.out HZL.out (Nat.le_refl _) HZU.out (by omega) (by omega))
            refine hK4 _ _ ?_
            clear hK4 K4
            go_wp2_with fail
            refine HD.out.mono ?_
            rintro e w6 ⟨hb6, ⟨hok, v, rfl, hown⟩ | ⟨hok, rfl⟩⟩
            · obtain ⟨t1, t2, t3, t4, t5, t6⟩ := read_dir zs hok HZU.out
              have hk40 : k = 40 := by have := HZL.out; omega
              subst hk40
              obtain ⟨A7, cap7, rfl, hcap7⟩ := own_form hown
              have hrd7 := Rd.of_own hown
              have hb7 : Below w6.heap.size w6 (w6.alloc (.cells #[.int .i64 (depQ zs), .slice A7 (2 ^ depQ zs) cap7] 49)) := (Below.refl _ _).alloc (Nat.le_refl _) _
              have HDW := hide (LDirWords_any w6.heap.size A7 cap7 (depQ zs) ((entsOf zs).map unp) (w6.alloc (.cells #[.int .i64 (depQ zs), .slice A7 (2 ^ depQ zs) cap7] 49)) (by rw [t4]; exact hrd7.below hb7) (by simp) t6 (2 ^ depQ zs) t4)
              have hbw6 := hbw5.trans (hb6.mono hbw5.size)
              have HRZ6 := hide ((HRZ5.out.below hb6).more hb6.size)
              have HBW6 := hide hbw6
              have hshape : dirShape (depQ zs) ((entsOf zs).map unp).length = true := by
                rw [t4]; unfold dirShape; simp; omega
              have HSH := hide hshape
              have HT3 := hide t3
              have HT5 := hide t5
              clear hown hrd7 hb6 hbw6 hb7 t3 t4 t5 t6 hshape
              go_wp2_with fail
              refine HDW.out.mono ?_
              rintro e w8 ⟨hb8, ⟨_, _, g8, cap8, rfl, _, _, hrd8⟩ | ⟨hx, _⟩⟩
              · rw [HT5.out] at hrd8
                have hb9 : Below w6.heap.size w6 w8 := ((Below.refl w6.heap.size w6).alloc (Nat.le_refl _) _).trans (hb8.mono (by simp))
                have HEQ : Hid (Calls Try.prog 24 #[.slice (some ⟨g8, 0, none⟩) 40 cap8, .slice A2 40 c2] w8 fun e W' => e = .returned (.bool true) ∧ Below w8.heap.size w8 W') := hide (by
                  have h := EqualW w8.heap.size w6.heap.size (some ⟨g8, 0, none⟩) A2 cap8 c2 zs zs w8 (by rw [t1]; exact hrd8) (by rw [t1]; exact HRZ6.out.below hb9) (Nat.le_refl _) hb9.size (by omega) (by omega) true (by simp)
                  rw [t1] at h
                  exact h)
                have HB9 := hide (HBW6.out.trans (hb9.mono HBW6.out.size))
                clear hb8 hb9 hrd8
                go_wp2_with fail
                refine HEQ.out.mono ?_
                rintro e w9 ⟨rfl, hb10⟩
                go_wp2_with fail
                go_ret
                exact ⟨rfl, HB9.out.trans (hb10.mono HB9.out.size)⟩
              · rw [HSH.out, HT3.out] at hx; cases hx
            · have HB6 := hide (hbw5.trans (hb6.mono hbw5.size))
              clear hb6
              go_wp2_with fail
              go_ret
              exact ⟨rfl, HB6.out.alloc HB6.out.size _⟩
end Go.Proofs.Ytndlfofpldbldaa
