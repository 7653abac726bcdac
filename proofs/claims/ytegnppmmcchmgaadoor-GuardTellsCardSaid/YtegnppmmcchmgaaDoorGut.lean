/-
  GuardTells: the walk through the law.
-/
import Derived.Test.YtegnppmmcchmgaaDoorGum
import Derived.Test.YtegnppmmcchmgaaDoorGupl
set_option linter.unusedSimpArgs false
set_option linter.unusedVariables false
namespace Go.Proofs.YtegnppmmcchmgaaDoor
open Go Go.RowKit
attribute [local go_sem] via_cell via_frozen

theorem readsV_one (l : List Sec) (k : Int × Int) : (chk 0 l = true ∧ lookB k.1 k.2 = true ∧ readsV l [k] = ([goodL l k], 0)) ∨ (clearB l k.1 k.2 = false ∧ ∃ er : Int, er ≠ 0 ∧ readsV l [k] = ([], er)) := by
  cases h : chk 0 l with
  | false => exact .inr ⟨by unfold clearB; rw [h]; rfl, 160, by omega, by unfold readsV; rw [h]; rfl⟩
  | true =>
    cases h2 : lookB k.1 k.2 with
    | false => exact .inr ⟨by unfold clearB; rw [h, h2]; rfl, 2, by omega, by unfold readsV noneB; rw [h]; simp [h2]⟩
    | true => exact .inl ⟨rfl, rfl, by unfold readsV noneB; rw [h]; simp [h2]⟩
set_option maxHeartbeats 4000000 in
theorem Tells_walk (k : Int × Int) (A : Option Addr) (c n : Nat) (X : List Sec) (W : World) (ht : TwoAt W W.heap.size) (hr : Rd W W.heap.size 2 A n (Cs encS X)) (hx : X.length = n) (hn : n ≤ c) (hc : c ≤ 9223372036854775807) :
    Calls Tryd.prog 6 #[.slice A n c, .agg #[.int .i64 k.1, .int .i64 k.2]] W fun e W' => e = .returned (.bool true) ∧ Below W.heap.size W W' := by
  obtain ⟨k1, k2⟩ := k
  dsimp only
  have HBN := hide (show Below W.heap.size W (W.alloc (.cells #[.int .i64 k1, .int .i64 k2] 23)) from (Below.refl _ _).alloc (Nat.le_refl _) _)
  have HRN := hide (RowAt.new W 23 #[.int .i64 k1, .int .i64 k2])
  have HW := hide (wakes_any W.heap.size _ (ht.below HBN.out) HBN.out.size)
  have HR := hide hr
  obtain ⟨l, hl⟩ : ∃ l, X.take 16 = l := ⟨_, rfl⟩
  have hl16 : l.length ≤ 16 := by rw [← hl, List.length_take]; omega
  have HFW := hide (fun (w : World) (hb : Below W.heap.size W w) => few_any W.heap.size A c n X w (HR.out.below hb) hx (by omega) (by omega) hb.size)
  rw [hl] at HFW
  clear ht hr hl
  go_enter Tryd.func6, Tryd.ntmps6
  go_wp2_with fail
  generalize W.alloc (.cells #[.int .i64 k1, .int .i64 k2] 23) = w0 at *
  with_reducible refine HW.out.mono ?_
  rintro e w1 ⟨rfl, hb1⟩
  have HB1 := hide (HBN.out.trans (hb1.mono HBN.out.size))
  have HR1 := hide (HRN.out.below hb1)
  clear hb1
  go_wp2_with fail
  with_reducible refine (HFW.out w1 HB1.out).mono ?_
  rintro e w2 ⟨v, rfl, hown, hb2⟩
  have HB2 := hide (HB1.out.trans (hb2.mono HB1.out.size))
  have HR2 := hide (HR1.out.below hb2)
  obtain ⟨Al, cl, rfl, _⟩ := own_form hown
  have HL2 := hide (Rd.of_own hown)
  obtain ⟨m, hm⟩ : ∃ m, l.length = m := ⟨_, rfl⟩
  have HM := hide hm
  rw [hm] at HL2 hl16 ⊢
  clear hb2 hown hm
  have q0 := row20 HR2.out
  have q1 := row21 HR2.out
  have ql := HR2.out.lt
  have HNE := hide (show Rd (w2.alloc (.cells #[.int .i64 k1, .int .i64 k2] 23)) (w2.heap.size + 1) 2 (some ⟨w2.heap.size, 0, none⟩) ([(k1, k2)] : List Sec).length (Cs encS [(k1, k2)]) from Rd.new w2 #[.int .i64 k1, .int .i64 k2] 23 2 1 rfl)
  have HBX := hide (show Below w2.heap.size w2 (w2.alloc (.cells #[.int .i64 k1, .int .i64 k2] 23)) from (Below.refl _ _).alloc (Nat.le_refl _) _)
  have HSX := hide (show w2.heap.size + 1 ≤ (w2.alloc (.cells #[.int .i64 k1, .int .i64 k2] 23)).heap.size from by simp)
  go_wp2_with fail
  generalize w2.alloc (.cells #[.int .i64 k1, .int .i64 k2] 23) = w3 at *
  have HRDS := hide (fun xs er hv => show Calls Tryd.prog 13 #[.slice Al m cl, .slice (some ⟨w2.heap.size, 0, none⟩) 1 1] w3 _ from reads_any w2.heap.size (w2.heap.size + 1) Al (some ⟨w2.heap.size, 0, none⟩) cl 1 m l [(k1, k2)] w3 (HL2.out.below HBX.out) HM.out (by have := HSX.out; omega) (by omega) HNE.out HSX.out (by simp) xs er hv)
  have HLATE := hide (fun (w : World) (hb : Below w3.heap.size w3 w) => (HL2.out.below HBX.out).below (hb.mono (show w2.heap.size ≤ w3.heap.size from by have := HSX.out; omega)))
  have hs3 : w2.heap.size ≤ w3.heap.size := by have := HSX.out; omega
  have HR3 := hide (HR2.out.below HBX.out)
  have HB3 := hide (HB2.out.trans (HBX.out.mono HB2.out.size))
  rcases readsV_one l (k1, k2) with ⟨hck, hlk, hv⟩ | ⟨hcb, er, her, hv⟩
  · have hla := lookB_out hlk
    obtain ⟨a, ha⟩ : ∃ a : Int, (cnt l k1 : Int) = a := ⟨_, rfl⟩
    obtain ⟨b, hb⟩ : ∃ b : Int, (cnt l k2 : Int) = b := ⟨_, rfl⟩
    obtain ⟨r, hr⟩ : ∃ r, clearB l k1 k2 = r := ⟨_, rfl⟩
    have hg : goodB a b = r := by rw [← ha, ← hb, ← hr]; exact tell_law hck hlk
    have hgl : goodL l (k1, k2) = r := by
      unfold goodL
      dsimp only
      rw [cntE_right (Int.le_refl 0) hck, cntE_right (Int.le_refl 0) hck, ha, hb, hg]
    rw [hgl] at hv
    have hst : ∀ x, 0 ≤ x → x ≤ MAX → countV l x = ((cnt l x : Int), 0) := fun x h0 h1 => by unfold countV stepB; rw [hck]; simp [h0, h1]
    have HCA := hide (show countV l k1 = (a, 0) from by rw [hst _ hla.1 hla.2.1, ha])
    have HCB := hide (show countV l k2 = (b, 0) from by rw [hst _ hla.2.2.1 hla.2.2.2.1, hb])
    have hle : a ≤ b := by rw [← ha, ← hb]; exact_mod_cast cnt_mono l hla.2.2.2.2
    have hau : U64 a := by have := cnt_le l k1; have := HM.out; unfold U64; omega
    have HG := hide (fun w => good_any a b hau w)
    rw [hg] at HG
    have HRR := hide hr
    clear hla ha hb hg hgl hst hck hlk
    with_reducible refine (HRDS.out _ _ hv).mono ?_
    rintro e w4 ⟨vg, rfl, hog, hb4⟩
    obtain ⟨Ag, cg, rfl, hcg⟩ := own_form hog
    obtain ⟨g, cc, hAg, hge, hgl⟩ := hog.form (by simp)
    injection hAg with hAg _ _
    subst hAg
    have HRG := hide (Rd.of_own hog)
    have HB4 := hide (HB3.out.trans (hb4.mono HB3.out.size))
    have HBL4 := hide hb4
    have HR4 := hide (HR3.out.below hb4)
    clear hb4 hog hv q0 q1 ql
    dsimp only [List.length_cons, List.length_nil] at *
    have q0 := row20 HR4.out
    have q1 := row21 HR4.out
    have ql := HR4.out.lt
    go_wp2_with fail
    with_reducible refine (countN_any w2.heap.size Al cl m l k1 w4 (HLATE.out w4 HBL4.out) HM.out (Nat.le_trans hs3 HBL4.out.size) (by omega) (a, 0) HCA.out).mono ?_
    rintro e w5 ⟨rfl, hb5⟩
    have HBL5 := hide (HBL4.out.trans (hb5.mono HBL4.out.size))
    have HB5 := hide (HB4.out.trans (hb5.mono HB4.out.size))
    have HR5 := hide (HR4.out.below hb5)
    have HRG5 := hide ((HRG.out.below hb5).more hb5.size)
    clear hb5 q0 q1 ql
    have q0 := row20 HR5.out
    have q1 := row21 HR5.out
    have ql := HR5.out.lt
    dsimp only [pairU]
    go_wp2_with fail
    with_reducible refine (countN_any w2.heap.size Al cl m l k2 w5 (HLATE.out w5 HBL5.out) HM.out (Nat.le_trans hs3 HBL5.out.size) (by omega) (b, 0) HCB.out).mono ?_
    rintro e w6 ⟨rfl, hb6⟩
    have HBL6 := hide (HBL5.out.trans (hb6.mono HBL5.out.size))
    have HB6 := hide (HB5.out.trans (hb6.mono HB5.out.size))
    have HR6 := hide (HR5.out.below hb6)
    have HRG6 := hide ((HRG5.out.below hb6).more hb6.size)
    clear hb6 q0 q1 ql
    have q0 := row20 HR6.out
    have q1 := row21 HR6.out
    have ql := HR6.out.lt
    obtain ⟨b9, o9, hA9, hb9, hc9⟩ := HRG6.out.2 (by omega)
    injection hA9 with hA9
    injection hA9 with e1 e2
    subst e1
    subst e2
    have d0 : w6.cell? ⟨g, 0, none⟩ = some (.bool r) := hc9 0 _ rfl
    have hleb : decide (a ≤ b) = true := by simpa using hle
    have HCL := hide (fun (w : World) (hb : Below w6.heap.size w6 w) => clear_any w2.heap.size Al cl m l k1 k2 w (HLATE.out w (HBL6.out.trans (hb.mono HBL6.out.size))) HM.out (Nat.le_trans hs3 (Nat.le_trans HBL6.out.size hb.size)) (by omega) r HRR.out)
    have HV := hide (fun z => via_below w6 z)
    clear hc9 hle
    dsimp only [pairU]
    go_wp2_with fail
    cases r <;>
    · refine wp_region_via (by kernel_rfl) (by kernel_rfl) ?_
      repeat (go_big_quiet_step (first | (go_at_call 11; with_reducible exact via_of_same (HG.out _)) | (go_at_call 23; with_reducible exact via_of (HCL.out _ (HV.out _)))))
      refine via_out fun w7 hb7 => ?_
      have HB7 := hide (HB6.out.trans (hb7.mono HB6.out.size))
      clear hb7
      go_wp2_with fail
      go_ret
      exact ⟨rfl, HB7.out⟩
  · have hd : (er != 0) = true := by simpa using her
    have HCB := hide hcb
    clear hcb her
    with_reducible refine (HRDS.out _ _ hv).mono ?_
    rintro e w4 ⟨vg, rfl, hog, hb4⟩
    obtain ⟨Ag, cg, rfl, hcg⟩ := own_form hog
    have HB4 := hide (HB3.out.trans (hb4.mono HB3.out.size))
    have HBL4 := hide hb4
    have HR4 := hide (HR3.out.below hb4)
    clear hb4 hog hv q0 q1 ql
    have q0 := row20 HR4.out
    have q1 := row21 HR4.out
    have ql := HR4.out.lt
    dsimp only [List.length_nil]
    go_wp2_with fail
    with_reducible refine (clear_any w2.heap.size Al cl m l k1 k2 w4 (HLATE.out w4 HBL4.out) HM.out (Nat.le_trans hs3 HBL4.out.size) (by omega) false HCB.out).mono ?_
    rintro e w5 ⟨rfl, hb5⟩
    have HB5 := hide (HB4.out.trans (hb5.mono HB4.out.size))
    clear hb5
    go_wp2_with fail
    go_ret
    exact ⟨rfl, HB5.out⟩
end Go.Proofs.YtegnppmmcchmgaaDoor
