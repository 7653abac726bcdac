/-
  The law LayoutCells, walked.
-/
import Derived.Test.YtndlfofpldbldaaBack
import Derived.Deep.DeepCutAuto
import Derived.Deep.CutBlock
namespace Go.Proofs.Ytndlfofpldbldaa
open Go Go.RowKit
attribute [local go_sem] via_cell via_frozen
set_option linter.unusedSimpArgs false
set_option linter.unusedVariables false

def encII (x : Int × Int) : List Value := [.int .i64 x.1, .int .i64 x.2]
theorem encII_len : ∀ x, (encII x).length = 2 := fun _ => rfl

theorem neqE_of (w : World) (a b c d : Int) (r : Bool) (hr : decide ((a, b) = (c, d)) = r) :
    (binOp .neq 36 (.agg #[.int .i64 a, .int .u64 b]) (.agg #[.int .i64 c, .int .u64 d])).run Try.prog w = .ok (.bool (!r)) w := neqE w (a, b) (c, d) r hr

set_option maxRecDepth 100000 in
set_option maxHeartbeats 4000000 in
theorem Cells_walk (A1 A2 A3 : Option Addr) (c1 c2 c3 : Nat) (ps es : List (Int × Int)) (ws : List Int) (W : World)
    (h1 : Rd W W.heap.size 2 A1 ps.length (Cs encII ps)) (h2 : Rd W W.heap.size 2 A2 es.length (Cs encE es)) (h3 : Rd W W.heap.size 1 A3 ws.length (Cs encW ws))
    (i1 : ∀ x ∈ ps, I64 x.1 ∧ I64 x.2) (i2 : ∀ x ∈ es, I64 x.1 ∧ U64 x.2) (i3 : ∀ x ∈ ws, U64 x) (l1 : ps.length ≤ maxLen) (l2 : es.length ≤ maxLen) (l3 : ws.length ≤ maxLen) :
    Calls Try.prog 3 #[.slice A1 ps.length c1, .slice A2 es.length c2, .slice A3 ws.length c3] W fun e W' => e = .returned (.bool true) ∧ Below W.heap.size W W' := by
  have HW := hide (wakes_any W)
  have I1 := hide i1
  have I2 := hide i2
  have I3 := hide i3
  clear i1 i2 i3
  go_enter Try.func3, Try.ntmps3
  go_upto_block 0 with (go_at_call 9; refine HW.out.mono ?_; rintro e w1 ⟨rfl, hb1⟩)
  go_cut [] from 35 to 114 (fun wx => Below W.heap.size W wx)
  case first =>
    go_wp2_with fail
    go_loopw [35] (fun i wr => ∃ k : Nat, k ≤ ps.length ∧ k ≤ 12 ∧ i = .int .i64 k ∧ Below W.heap.size W wr) (fun i _ => 13 - (intOf i).toNat)
    case atStart => exact ⟨0, Nat.zero_le _, by omega, rfl, hb1⟩
    case round =>
      obtain ⟨k, hk, hk12, rfl, hbw⟩ := hrel
      have HB := hide hbw
      have hzw := hbw.size
      clear hbw
      by_cases hlt : k < ps.length
      · obtain ⟨b, off, rfl, hb, hc⟩ := (h1.below HB.out).elem encII_len hlt
        have hd0 := hc 0 _ (by omega) rfl
        have hd1 := hc 1 _ (by omega) rfl
        simp only [Nat.add_zero] at hd0
        have hI := hide (I1.out ps[k] (List.getElem_mem hlt))
        have hbs : b < wr.heap.size := by omega
        clear hc
        generalize ps[k] = x at *
        obtain ⟨s, o⟩ := x
        simp only at hd0 hd1 hI
        by_cases h12 : k = 12
        · subst h12
          go_wp2_with fail
          go_meet
          case rel => exact HB.out.alloc hzw _
        · have h12' : ((k : Int) == 12) = false := by rw [beq_eq_false_iff_ne]; omega
          have hsd : (16 + s * 40 + o != 16 + 40 * s + o) = false := by rw [bne_eq_false_iff_eq]; omega
          have hcell : (0 ≤ s ∧ s < 128 ∧ 0 ≤ o ∧ o < 40) ∨ (0 ≤ s ∧ s < 128 ∧ o < 0) ∨ (0 ≤ s ∧ s < 128 ∧ 40 ≤ o) ∨ s < 0 ∨ 128 ≤ s := by omega
          have HI1 := hide hI.out.1.1
          have HI2 := hide hI.out.1.2
          clear hI
          rcases hcell with ⟨e1, e2, e3, e4⟩ | ⟨e1, e2, e3⟩ | ⟨e1, e2, e3⟩ | e1 | e1
          all_goals
            by_cases hof : 16 ≤ s ∧ s < 5136
            · first
              | (exfalso; omega)
              | (obtain ⟨o1, o2⟩ := hof
                 go_wp2_with (first
                 | (go_at_call 10; (with_reducible refine (Cell_ok _ _ _ (by omega) (by omega) (by omega) (by omega)).mono ?_); rintro e w2 ⟨rfl, rfl⟩)
                 | (go_at_call 10; (with_reducible refine (Cell_no _ _ _ (by omega)).mono ?_); rintro e w2 ⟨rfl, rfl⟩)
                 | (go_at_call 11; (with_reducible refine (Slab_any _ s true (by simp [okSlab]; omega)).mono ?_); rintro e w2 ⟨rfl, rfl⟩)
                 | (go_at_call 11; (with_reducible refine (Slab_any _ s false (by simp [okSlab]; omega)).mono ?_); rintro e w2 ⟨rfl, rfl⟩)
                 | (go_at_call 12; (with_reducible refine (RCell_any _ _ _ (by omega) (by omega) (by omega) (by omega)).mono ?_); rintro e w2 ⟨rfl, rfl⟩)
                 | (go_at_call 13; (with_reducible refine (Of_ok _ _ (by omega) (by omega)).mono ?_); rintro e w2 ⟨rfl, rfl⟩)
                 | (go_at_call 13; (with_reducible refine (Of_no _ _ HI1.out HI2.out (by omega)).mono ?_); rintro e w2 ⟨rfl, rfl⟩))
                 go_quiet (fail)
                 go_wp2_with fail
                 go_roundw
                 case rel => exact ⟨k + 1, by omega, by omega, by go_num, below_drewN (HB.out.alloc hzw _) _⟩
                 case measure => simp [intOf]; omega)
            · go_wp2_with (first
              | (go_at_call 10; (with_reducible refine (Cell_ok _ _ _ (by omega) (by omega) (by omega) (by omega)).mono ?_); rintro e w2 ⟨rfl, rfl⟩)
              | (go_at_call 10; (with_reducible refine (Cell_no _ _ _ (by omega)).mono ?_); rintro e w2 ⟨rfl, rfl⟩)
              | (go_at_call 11; (with_reducible refine (Slab_any _ s true (by simp [okSlab]; omega)).mono ?_); rintro e w2 ⟨rfl, rfl⟩)
              | (go_at_call 11; (with_reducible refine (Slab_any _ s false (by simp [okSlab]; omega)).mono ?_); rintro e w2 ⟨rfl, rfl⟩)
              | (go_at_call 12; (with_reducible refine (RCell_any _ _ _ (by omega) (by omega) (by omega) (by omega)).mono ?_); rintro e w2 ⟨rfl, rfl⟩)
              | (go_at_call 13; (with_reducible refine (Of_ok _ _ (by omega) (by omega)).mono ?_); rintro e w2 ⟨rfl, rfl⟩)
              | (go_at_call 13; (with_reducible refine (Of_no _ _ HI1.out HI2.out (by omega)).mono ?_); rintro e w2 ⟨rfl, rfl⟩))
              go_roundw
              case rel => exact ⟨k + 1, by omega, by omega, by go_num, HB.out.alloc hzw _⟩
              case measure => simp [intOf]; omega
      · go_wp2_with fail
        go_meet
        case rel => exact HB.out
  case rest =>
    clear HW h1 I1 l1
    go_upto_block 2 with fail
    go_cut [] from 117 to 141 (fun wx => Below W.heap.size W wx)
    case first =>
      go_wp2_with fail
      go_loopw [117] (fun i wr => ∃ k : Nat, k ≤ es.length ∧ k ≤ 12 ∧ i = .int .i64 k ∧ Below W.heap.size W wr) (fun i _ => 13 - (intOf i).toNat)
      case atStart => exact ⟨0, Nat.zero_le _, by omega, rfl, hcut⟩
      case round =>
        obtain ⟨k, hk, hk12, rfl, hbw⟩ := hrel
        have HB := hide hbw
        have hzw := hbw.size
        clear hbw hcut
        by_cases hlt : k < es.length
        · obtain ⟨b, off, rfl, hb, hc⟩ := (h2.below HB.out).elem encE_len hlt
          have hd0 := hc 0 _ (by omega) rfl
          have hd1 := hc 1 _ (by omega) rfl
          simp only [Nat.add_zero] at hd0
          have hI := hide (I2.out es[k] (List.getElem_mem hlt)).2
          have hbs : b < wr.heap.size := by omega
          clear hc
          generalize es[k] = x at *
          obtain ⟨s, g⟩ := x
          simp only at hd0 hd1 hI
          by_cases h12 : k = 12
          · subst h12
            go_wp2_with fail
            go_meet
            case rel => exact HB.out.alloc hzw _
          · have h12' : ((k : Int) == 12) = false := by rw [beq_eq_false_iff_ne]; omega
            have hg0 := hI.out.1
            have HG := hide hI.out.2
            obtain ⟨bb, hbb⟩ : ∃ bb, okEnt s g = bb := ⟨_, rfl⟩
            have HO := hide hbb
            have hk11 : k < 12 := by omega
            clear hI hbb h12
            cases bb
            · have HE := hide (okEnt_no HO.out)
              go_wp2_with (first
                | (go_at_call 14; (with_reducible refine (Pack_no _ s g hg0 HG.out HE.out).mono ?_); rintro e w3 ⟨rfl, hb3⟩; have f0 := kept hb3 (g := wr.heap.size) (o := 0) (v := .int .i64 s) (by simp); have f1 := kept hb3 (g := wr.heap.size) (o := 1) (v := .int .u64 g) (by simp))
                | (go_at_call 15; (with_reducible refine (Entry_any _ s g false hg0 HO.out).mono ?_); rintro e w4 ⟨rfl, hb4⟩))
              have hB3 := (HB.out.alloc hzw _).trans (hb3.mono (by simp; omega))
              go_roundw
              case rel => exact ⟨k + 1, by omega, by omega, by go_num, hB3.trans (hb4.mono hB3.size)⟩
              case measure => simp [intOf]; omega
            · obtain ⟨e1, e2, e3⟩ := okEnt_out HO.out
              go_wp2_with (first
                | (go_at_call 14; (with_reducible refine (Pack_ok _ s g e1 e2 hg0 e3).mono ?_); rintro e w3 ⟨rfl, hb3⟩; have f0 := kept hb3 (g := wr.heap.size) (o := 0) (v := .int .i64 s) (by simp); have f1 := kept hb3 (g := wr.heap.size) (o := 1) (v := .int .u64 g) (by simp))
                | (go_at_call 15; (with_reducible refine (Entry_any _ s g true hg0 HO.out).mono ?_); rintro e w4 ⟨rfl, hb4⟩; have k0 := kept hb4 f0; have k1 := kept hb4 f1)
                | (go_at_call 16; (with_reducible refine (RPack_any _ s g e1 e2 hg0 e3).mono ?_); rintro e w5 ⟨rfl, hb5⟩))
              have hB3 := (HB.out.alloc hzw _).trans (hb3.mono (by simp; omega))
              have hB4 := hB3.trans (hb4.mono hB3.size)
              go_roundw
              case rel => exact ⟨k + 1, by omega, by omega, by go_num, hB4.trans (hb5.mono hB4.size)⟩
              case measure => simp [intOf]; omega
        · go_wp2_with fail
          go_meet
          case rel => exact HB.out
    case rest =>
      clear h2 I2 l2
      go_upto_block 4 with fail
      go_cut [] from 144 to 181 (fun wx => Below W.heap.size W wx)
      case first =>
        go_wp2_with fail
        go_loopw [144] (fun i wr => ∃ k : Nat, k ≤ ws.length ∧ k ≤ 12 ∧ i = .int .i64 k ∧ Below W.heap.size W wr) (fun i _ => 13 - (intOf i).toNat)
        case atStart => exact ⟨0, Nat.zero_le _, by omega, rfl, hcut⟩
        case round =>
          obtain ⟨k, hk, hk12, rfl, hbw⟩ := hrel
          have HB := hide hbw
          have hzw := hbw.size
          clear hbw hcut
          by_cases hlt : k < ws.length
          · obtain ⟨b, off, rfl, hb, hc⟩ := (h3.below HB.out).elem encW_len hlt
            have hd0 := hc 0 _ (by omega) rfl
            simp only [Nat.add_zero, Nat.mul_one] at hd0
            have hI := hide (I3.out ws[k] (List.getElem_mem hlt))
            have hbs : b < wr.heap.size := by omega
            clear hc
            generalize ws[k] = x at *
            by_cases h12 : k = 12
            · subst h12
              go_wp2_with fail
              go_meet
              case rel => exact HB.out
            · have h12' : ((k : Int) == 12) = false := by rw [beq_eq_false_iff_ne]; omega
              have hk11 : k < 12 := by omega
              have X1 := hide hI.out.1
              have X2 := hide hI.out.2
              obtain ⟨bb, hbb⟩ : ∃ bb, okEnt (x % 65536 - 1) (x / 65536) = bb := ⟨_, rfl⟩
              have HO := hide hbb
              clear hI hbb h12
              cases bb
              · have HU := hide (fun w => Unpack_no w x X1.out X2.out HO.out)
                have HR := hide (fun w => RUnpack_any w x false X1.out X2.out HO.out)
                have heq := fun w => neqE_of w 0 0 0 0 true (by simp)
                clear X1 X2 HO
                generalize x % 65536 - 1 = s at *
                generalize x / 65536 = g at *
                go_wp2_with (first
                  | (go_at_call 17; refine (HU.out _).mono ?_; rintro e w2 ⟨rfl, hb2⟩)
                  | (go_at_call 18; refine (HR.out _).mono ?_; rintro e w3 ⟨rfl, hb3⟩; have f0 := kept hb3 (g := w2.heap.size) (o := 0) (v := .int .i64 0) (by simp [go_sem]); have f1 := kept hb3 (g := w2.heap.size) (o := 1) (v := .int .u64 0) (by simp [go_sem]); have hz3 : w2.heap.size < w3.heap.size := by have := hb3.size; simp at this; omega))
                have hB2 := HB.out.trans (hb2.mono hzw)
                have hB3 := (hB2.alloc hB2.size _).trans (hb3.mono (by have := hB2.size; simp; omega))
                have hz4 := hB3.size
                go_roundw
                case rel => exact ⟨k + 1, by omega, by omega, by go_num, by go_grown⟩
                case measure => simp [intOf]; omega
              · have HU := hide (fun w => Unpack_ok w x X1.out X2.out HO.out)
                have HR := hide (fun w => RUnpack_any w x true X1.out X2.out HO.out)
                have heq := fun w => neqE_of w (x % 65536 - 1) (x / 65536) (x % 65536 - 1) (x / 65536) true (by simp)
                clear X1 X2 HO
                generalize x % 65536 - 1 = s at *
                generalize x / 65536 = g at *
                go_wp2_with (first
                  | (go_at_call 17; refine (HU.out _).mono ?_; rintro e w2 ⟨rfl, hb2⟩)
                  | (go_at_call 18; refine (HR.out _).mono ?_; rintro e w3 ⟨rfl, hb3⟩; have f0 := kept hb3 (g := w2.heap.size) (o := 0) (v := .int .i64 s) (by simp [go_sem]); have f1 := kept hb3 (g := w2.heap.size) (o := 1) (v := .int .u64 g) (by simp [go_sem]); have hz3 : w2.heap.size < w3.heap.size := by have := hb3.size; simp at this; omega))
                have hB2 := HB.out.trans (hb2.mono hzw)
                have hB3 := (hB2.alloc hB2.size _).trans (hb3.mono (by have := hB2.size; simp; omega))
                have hz4 := hB3.size
                go_roundw
                case rel => exact ⟨k + 1, by omega, by omega, by go_num, by go_grown⟩
                case measure => simp [intOf]; omega
          · go_wp2_with fail
            go_meet
            case rel => exact HB.out
      case rest =>
        go_wp2_with fail
        go_ret
        exact ⟨rfl, hcut⟩
end Go.Proofs.Ytndlfofpldbldaa
