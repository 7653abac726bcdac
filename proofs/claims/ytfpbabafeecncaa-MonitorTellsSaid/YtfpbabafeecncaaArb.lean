/-
  Arenas: which may be, which entries are meant (the program's and the reference's); leaving by an error.
-/
import Derived.Test.YtfpbabafeecncaaAra
import Derived.Test.YtfpbabafeecncaaArp
set_option linter.unusedSimpArgs false
set_option linter.unusedVariables false
namespace Go.Proofs.Ytfpbabafeecncaa
open Go Go.RowKit
attribute [local go_sem] via_cell via_frozen

/-- What is thrown. -/
def errX (k : Int) : List PanicEntry := [{ v := .iface 33 (.int .i64 k), recovered := false }]
theorem need_ok (k : Int) (W : World) : Calls Try.prog 89 #[.bool true, .int .i64 k] W fun e W' => e = .returned (.tuple #[]) ∧ W = W' := by
  go_enter Try.func89, Try.ntmps89
  go_wp2
  go_end0
  exact ⟨rfl, rfl⟩
theorem need_no (k : Int) (W : World) : Calls Try.prog 89 #[.bool false, .int .i64 k] W fun e W' => e = .panicked (errX k) ∧ W = W' := by
  go_enter Try.func89, Try.ntmps89
  go_wp2
  exact ⟨rfl, rfl, rfl⟩

theorem right_any (t g : Int) (W : World) (r : Bool) (hr : slabOk (t, g) = r) : Calls Try.prog 60 #[.agg #[.int .i64 t, .int .u64 g]] W fun e W' => e = .returned (.bool r) ∧ Below W.heap.size W W' := by
  have HR := hide hr
  clear hr
  by_cases h0 : 0 ≤ t
  · by_cases h1 : t ≤ 2
    · obtain ⟨b, hb⟩ : ∃ b, decide (g ≤ 1099511627775) = b := ⟨_, rfl⟩
      go_enter Try.func60, Try.ntmps60
      go_wp2
      go_ret
      exact ⟨ret_bool (by rw [← HR.out]; simp [slabOk, h0, h1, ← hb]), (Below.refl _ _).alloc (Nat.le_refl _) _⟩
    · have h1' : decide (t ≤ 2) = false := by simp; omega
      go_enter Try.func60, Try.ntmps60
      go_wp2
      go_ret
      exact ⟨ret_bool (by rw [← HR.out]; simp [slabOk]; omega), (Below.refl _ _).alloc (Nat.le_refl _) _⟩
  · have h0' : decide (0 ≤ t) = false := by simp; omega
    go_enter Try.func60, Try.ntmps60
    go_wp2
    go_ret
    exact ⟨ret_bool (by rw [← HR.out]; simp [slabOk]; omega), (Below.refl _ _).alloc (Nat.le_refl _) _⟩

theorem all1_any (gb : Nat) (t g : Int) (W : World) (hc : W.cell? ⟨gb, 0, none⟩ = some (.func (.func 60) #[] #[])) (hgb : gb < W.heap.size) :
    Calls Try.prog 80 #[.agg #[.int .i64 t, .int .u64 g], .pointer (some ⟨gb, 0, none⟩)] W fun e W' => e = .returned (.bool (!slabOk (t, g))) ∧ Below W.heap.size W W' := by
  obtain ⟨r, hr⟩ : ∃ r, slabOk (t, g) = r := ⟨_, rfl⟩
  have HR := hide (fun w => right_any t g w r hr)
  rw [hr]
  clear hr
  go_enter Try.func80, Try.ntmps80
  go_wp2_with fail
  refine (HR.out _).mono ?_
  rintro e w1 ⟨rfl, hb⟩
  go_wp2_with fail
  go_ret
  exact ⟨rfl, ((Below.refl _ _).alloc (Nat.le_refl _) _).trans (hb.mono (by simp))⟩

theorem all_any (B : Nat) (A : Option Addr) (c : Nat) (xs : List (Int × Int)) (W : World) (h1 : Rd W B 2 A xs.length (Cs encE xs)) (hB1 : B ≤ W.heap.size) (hl1 : xs.length ≤ 4096) :
    Calls Try.prog 61 #[.slice A xs.length c, .func (.func 60) #[] #[]] W fun e W' => e = .returned (.bool (xs.all slabOk)) ∧ Below W.heap.size W W' := by
  have hbn : Below W.heap.size W (W.alloc (.cells #[.func (.func 60) #[] #[]] 100)) := (Below.refl _ _).alloc (Nat.le_refl _) _
  have hrow : RowAt (W.alloc (.cells #[.func (.func 60) #[] #[]] 100)) W.heap.size 100 #[.func (.func 60) #[] #[]] := RowAt.new _ _ _
  have HC := hide (ContainsFS B A c 80 #[.pointer (some ⟨W.heap.size, 0, none⟩)] (enters_of Try.func80 (by kernel_rfl) rfl) (fun s => !slabOk s) xs (W.alloc (.cells #[.func (.func 60) #[] #[]] 100)) (h1.below (hbn.mono hB1)) (by simp; omega) hl1
    (fun w x hw hx => all1_any W.heap.size x.1 x.2 w ((hrow.below hw).cell 0) (hrow.below hw).lt))
  clear hrow hbn
  go_enter Try.func61, Try.ntmps61
  go_wp2_with fail
  refine HC.out.mono ?_
  rintro e w1 ⟨rfl, hb⟩
  go_wp2_with fail
  go_ret
  refine ⟨ret_bool ?_, ((Below.refl _ _).alloc (Nat.le_refl _) _).trans (hb.mono (by simp))⟩
  rw [List.all_eq_not_any_not]

theorem check_any (B : Nat) (A : Option Addr) (c n : Nat) (xs : List (Int × Int)) (W : World) (h1 : Rd W B 2 A n (Cs encE xs)) (hx : xs.length = n) (hB1 : B ≤ W.heap.size) (k : Int) (hk : chk xs = k) (hl : n ≤ 4611686018427387904) :
    Calls Try.prog 34 #[.agg #[.slice A n c]] W fun e W' => e = .returned (.int .i64 k) ∧ Below W.heap.size W W' := by
  subst hx
  have HK := hide hk
  have hbn : Below W.heap.size W (W.alloc (.cells #[.slice A xs.length c] 27)) := (Below.refl _ _).alloc (Nat.le_refl _) _
  clear hk
  by_cases h2 : 2 ≤ xs.length
  · by_cases h3 : xs.length ≤ 128
    · have HC := hide (all_any B A c xs (W.alloc (.cells #[.slice A xs.length c] 27)) (h1.below (hbn.mono hB1)) (by simp; omega) (by omega))
      obtain ⟨r, hr⟩ : ∃ r, xs.all slabOk = r := ⟨_, rfl⟩
      rw [hr] at HC
      have HR := hide hr
      clear hr
      have HB := hide hbn
      clear hbn
      go_enter Try.func34, Try.ntmps34
      go_wp2_with fail
      refine HC.out.mono ?_
      rintro e w1 ⟨rfl, hb⟩
      cases r
      · go_wp2_with fail
        go_ret
        exact ⟨ret_int (by rw [← HK.out]; simp [chk, arOk, HR.out]), HB.out.trans (hb.mono HB.out.size)⟩
      · go_wp2_with fail
        go_ret
        exact ⟨ret_int (by rw [← HK.out]; simp [chk, arOk, HR.out, h2, h3]), HB.out.trans (hb.mono HB.out.size)⟩
    · have h3' : ¬ ((xs.length : Int) ≤ 128) := by omega
      go_enter Try.func34, Try.ntmps34
      go_wp2_with fail
      go_ret
      exact ⟨ret_int (by rw [← HK.out]; simp [chk, arOk, h3]), hbn⟩
  · go_enter Try.func34, Try.ntmps34
    go_wp2_with fail
    go_ret
    exact ⟨ret_int (by rw [← HK.out]; simp [chk, arOk, h2]), hbn⟩

theorem meant_any (B : Nat) (A : Option Addr) (c n : Nat) (s g : Int) (xs : List (Int × Int)) (W : World) (h1 : Rd W B 2 A n (Cs encE xs)) (hx : xs.length = n) (hB1 : B ≤ W.heap.size) (hl : n ≤ 4611686018427387904) (r : Bool) (hr : meantB xs (s, g) = r) :
    Calls Try.prog 35 #[.agg #[.slice A n c], .agg #[.int .i64 s, .int .u64 g]] W fun e W' => e = .returned (.bool r) ∧ Below W.heap.size W W' := by
  subst hx
  have HR := hide hr
  clear hr
  have HB := hide ((((Below.refl W.heap.size W).alloc (Nat.le_refl _) (.cells #[.slice A xs.length c] 27))).alloc (by simp) (.cells #[.int .i64 s, .int .u64 g] 43))
  by_cases h0 : 0 ≤ s
  · obtain ⟨k, rfl⟩ := Int.eq_ofNat_of_zero_le h0
    by_cases hlt : k < xs.length
    · obtain ⟨b1, o1, rfl, hb1, hc1⟩ := h1.elem encE_len hlt
      have hd10 := hc1 0 _ (by omega) rfl
      have hd11 := hc1 1 _ (by omega) rfl
      simp only [Nat.add_zero] at hd10
      clear hc1
      have HG := hide (show xs.getD k (0, 0) = xs[k] by rw [List.getD_eq_getElem?_getD, List.getElem?_eq_getElem hlt]; rfl)
      generalize xs[k] = x at *
      have hkI : (k : Int) < (xs.length : Int) := by omega
      have hbb : b1 < W.heap.size := by omega
      go_enter Try.func35, Try.ntmps35
      go_wp2_with fail
      go_quiet (fail)
      go_wp2_with fail
      go_ret
      refine ⟨ret_bool ?_, below_drewN HB.out _⟩
      rw [← HR.out]
      simp only [meantB, Int.toNat_natCast, HG.out]
      by_cases hg : x.2 = g <;> simp [hg, hlt]
    · have hkI : decide ((k : Int) < (xs.length : Int)) = false := by simp; omega
      go_enter Try.func35, Try.ntmps35
      go_wp2_with fail
      go_quiet (fail)
      go_wp2_with fail
      go_ret
      exact ⟨ret_bool (by rw [← HR.out]; simp [meantB, hlt]), below_drewN HB.out _⟩
  · have h0' : decide (0 ≤ s) = false := by simp; omega
    go_enter Try.func35, Try.ntmps35
    go_wp2_with fail
    go_quiet (fail)
    go_wp2_with fail
    go_ret
    exact ⟨ret_bool (by rw [← HR.out]; simp [meantB]; omega), below_drewN HB.out _⟩

theorem rmeant_any (B : Nat) (A : Option Addr) (c n : Nat) (s g : Int) (xs : List (Int × Int)) (W : World) (h1 : Rd W B 2 A n (Cs encE xs)) (hx : xs.length = n) (hB1 : B ≤ W.heap.size) (hl : n ≤ 4611686018427387904) (r : Bool) (hr : meantB xs (s, g) = r) :
    Calls Try.prog 78 #[.agg #[.slice A n c], .agg #[.int .i64 s, .int .u64 g]] W fun e W' => e = .returned (.bool r) ∧ Below W.heap.size W W' := by
  subst hx
  have HR := hide hr
  clear hr
  have HB := hide ((((Below.refl W.heap.size W).alloc (Nat.le_refl _) (.cells #[.slice A xs.length c] 27))).alloc (by simp) (.cells #[.int .i64 s, .int .u64 g] 43))
  by_cases h0 : 0 ≤ s
  · obtain ⟨k, rfl⟩ := Int.eq_ofNat_of_zero_le h0
    by_cases hlt : k < xs.length
    · obtain ⟨b1, o1, rfl, hb1, hc1⟩ := h1.elem encE_len hlt
      have hd10 := hc1 0 _ (by omega) rfl
      have hd11 := hc1 1 _ (by omega) rfl
      simp only [Nat.add_zero] at hd10
      clear hc1
      have HG := hide (show xs.getD k (0, 0) = xs[k] by rw [List.getD_eq_getElem?_getD, List.getElem?_eq_getElem hlt]; rfl)
      generalize xs[k] = x at *
      have hkI : (k : Int) < (xs.length : Int) := by omega
      have hbb : b1 < W.heap.size := by omega
      go_enter Try.func78, Try.ntmps78
      go_wp2_with fail
      go_quiet (fail)
      go_wp2_with fail
      go_ret
      refine ⟨ret_bool ?_, below_drewN HB.out _⟩
      rw [← HR.out]
      simp only [meantB, Int.toNat_natCast, HG.out]
      by_cases hg : x.2 = g <;> simp [hg, hlt]
    · have hkI : decide ((k : Int) < (xs.length : Int)) = false := by simp; omega
      go_enter Try.func78, Try.ntmps78
      go_wp2_with fail
      go_quiet (fail)
      go_wp2_with fail
      go_ret
      exact ⟨ret_bool (by rw [← HR.out]; simp [meantB, hlt]), below_drewN HB.out _⟩
  · have h0' : decide (0 ≤ s) = false := by simp; omega
    go_enter Try.func78, Try.ntmps78
    go_wp2_with fail
    go_quiet (fail)
    go_wp2_with fail
    go_ret
    exact ⟨ret_bool (by rw [← HR.out]; simp [meantB]; omega), below_drewN HB.out _⟩

theorem rmany_any (n : Int) (W : World) (r : Bool) (hr : decide (2 ≤ n ∧ n ≤ 128) = r) : Calls Try.prog 9 #[.int .i64 n] W fun e W' => e = .returned (.bool r) ∧ W = W' := by
  have HR := hide hr
  clear hr
  by_cases h0 : 2 ≤ n
  · obtain ⟨b, hb⟩ : ∃ b, decide (n ≤ 128) = b := ⟨_, rfl⟩
    go_enter Try.func9, Try.ntmps9
    go_wp2
    go_ret
    exact ⟨ret_bool (by rw [← HR.out]; simp [h0, ← hb]), rfl⟩
  · have h0' : decide (2 ≤ n) = false := by simp; omega
    go_enter Try.func9, Try.ntmps9
    go_wp2
    go_ret
    exact ⟨ret_bool (by rw [← HR.out]; simp; omega), rfl⟩

theorem rright_any (B : Nat) (A : Option Addr) (c n : Nat) (xs : List (Int × Int)) (W : World) (h1 : Rd W B 2 A n (Cs encE xs)) (hx : xs.length = n) (hB1 : B ≤ W.heap.size) (r : Bool) (hr : arOk xs = r) (hl : n ≤ 4096) :
    Calls Try.prog 50 #[.agg #[.slice A n c]] W fun e W' => e = .returned (.bool r) ∧ Below W.heap.size W W' := by
  subst hx
  have HR := hide hr
  have HM := hide (fun w => rmany_any xs.length w (decide (2 ≤ xs.length ∧ xs.length ≤ 128)) (by congr 1; simp; omega))
  have hb0 : Below W.heap.size W (W.alloc (.cells #[.slice A xs.length c] 27)) := (Below.refl _ _).alloc (Nat.le_refl _) _
  have hrow : RowAt (W.alloc (.cells #[.slice A xs.length c] 27)) W.heap.size 27 #[.slice A xs.length c] := RowAt.new _ _ _
  have HROW := hide hrow
  have HB0 := hide hb0
  clear hr hrow hb0
  go_enter Try.func50, Try.ntmps50
  go_wp2_with fail
  go_loopw [8] (fun i wr => ∃ k : Nat, k ≤ xs.length ∧ i = .int .i64 k ∧ (xs.take k).all slabOk = true ∧ Below (W.alloc (.cells #[.slice A xs.length c] 27)).heap.size (W.alloc (.cells #[.slice A xs.length c] 27)) wr) (fun i _ => xs.length - (intOf i).toNat)
  case atStart => exact ⟨0, Nat.zero_le _, rfl, rfl, Below.refl _ _⟩
  case round =>
    obtain ⟨k, hk, rfl, hpre, hbw⟩ := hrel
    have HP := hide hpre
    have HROW := hide (HROW.out.below hbw)
    have HBW := hide (HB0.out.trans (hbw.mono HB0.out.size))
    have HBK := hide hbw
    have q0 := HROW.out.cell 0
    have hq := HROW.out.lt
    simp only [List.getElem?_toArray, List.getElem?_cons_succ, List.getElem?_cons_zero] at q0
    clear hpre hbw
    by_cases hlt : k < xs.length
    · obtain ⟨b1, o1, rfl, hb1, hc1⟩ := (h1.below (HBW.out.mono hB1)).elem encE_len hlt
      have hd10 := hc1 0 _ (by omega) rfl
      have hd11 := hc1 1 _ (by omega) rfl
      simp only [Nat.add_zero] at hd10
      clear hc1
      have hb1w : b1 < wr.heap.size := by omega
      have HX := hide (show xs.take (k + 1) = xs.take k ++ [xs[k]] from List.take_succ_eq_append_getElem hlt)
      have HM := hide (List.getElem_mem hlt)
      generalize xs[k] = x at *
      obtain ⟨t, g⟩ := x
      dsimp only at hd10 hd11
      have hno : slabOk (t, g) = false → arOk xs = false := fun h => by
        have : xs.all slabOk = false := by rw [List.all_eq_false]; exact ⟨_, HM.out, by rw [h]; simp⟩
        simp [arOk, this]
      have HNO := hide hno
      have hyes : slabOk (t, g) = true → (xs.take (k + 1)).all slabOk = true := fun h => by rw [HX.out, List.all_append, HP.out]; simp [h]
      have HYES := hide hyes
      have HBA : Hid (Below (W.alloc (.cells #[.slice (some ⟨b1, o1, none⟩) xs.length c] 27)).heap.size (W.alloc (.cells #[.slice (some ⟨b1, o1, none⟩) xs.length c] 27)) (wr.alloc (.cells #[.int .i64 t, .int .u64 g] 47))) := hide (HBK.out.alloc HBK.out.size _)
      have HBR : Hid (Below W.heap.size W (wr.alloc (.cells #[.int .i64 t, .int .u64 g] 47))) := hide (HBW.out.alloc HBW.out.size _)
      clear hno hyes
      by_cases c0 : t < 0
      · go_wp2_with fail
        go_ret
        exact ⟨ret_bool (by rw [← HR.out, HNO.out (by simp [slabOk]; omega)]), HBR.out⟩
      · have c0' : decide (t < 0) = false := by simp; omega
        by_cases c1 : 2 < t
        · go_wp2_with fail
          go_ret
          exact ⟨ret_bool (by rw [← HR.out, HNO.out (by simp [slabOk]; omega)]), HBR.out⟩
        · have c1' : decide (2 < t) = false := by simp; omega
          by_cases c2 : 1099511627775 < g
          · go_wp2_with fail
            go_ret
            exact ⟨ret_bool (by rw [← HR.out, HNO.out (by simp [slabOk]; omega)]), HBR.out⟩
          · have c2' : decide (1099511627775 < g) = false := by simp; omega
            have HS := hide (HYES.out (by simp [slabOk]; omega))
            go_wp2_with fail
            go_roundw
            case rel => exact ⟨k + 1, by omega, by go_num, HS.out, HBA.out⟩
            case measure => simp [intOf]; omega
    · go_wp2_with fail
      refine (HM.out _).mono ?_
      rintro e w1 ⟨rfl, rfl⟩
      go_wp2_with fail
      go_ret
      have h := HP.out
      rw [List.take_of_length_le (by omega)] at h
      exact ⟨ret_bool (by rw [← HR.out]; simp [arOk, h]), HBW.out⟩
end Go.Proofs.Ytfpbabafeecncaa
