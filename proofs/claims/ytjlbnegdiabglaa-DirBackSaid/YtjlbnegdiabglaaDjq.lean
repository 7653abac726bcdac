/-
  DirBack, walked.
-/
import Derived.Test.YtjlbnegdiabglaaDjc
import Derived.Test.YtjlbnegdiabglaaDjp
import Derived.Deep.RegionHeld3
set_option linter.unusedSimpArgs false
set_option linter.unusedVariables false
namespace Go.Proofs.Ytjlbnegdiabglaa
open Go Go.RowKit
attribute [local go_sem] via_cell via_frozen

set_option maxRecDepth 100000 in
set_option maxHeartbeats 16000000 in
theorem Back_walk (A0 : Option Addr) (c0 n0 : Nat) (dep : Int) (es : List En) (W : World) (h0 : Rd W W.heap.size 2 A0 n0 (Cs encE es)) (hx0 : es.length = n0) (hn0 : n0 ≤ c0) (hm0 : c0 ≤ 9223372036854775807) (hu0 : ∀ e ∈ es, U64 e.2) :
    Calls Try.prog 6 #[.agg #[.int .i64 dep, .slice A0 n0 c0]] W fun e W' => e = .returned (.bool true) ∧ Below W.heap.size W W' := by
  obtain ⟨L, hL⟩ : ∃ L, es.take 34 = L := ⟨_, rfl⟩
  have HUL := hide (show ∀ e ∈ L, U64 e.2 from fun e he => hu0 e (by rw [← hL] at he; exact List.mem_of_mem_take he))
  have HLL := hide (show L.length ≤ 34 from by rw [← hL, List.length_take]; omega)
  have hb1 : Below W.heap.size W (W.alloc (.cells #[.int .i64 dep, .slice A0 n0 c0] 24)) := (Below.refl _ _).alloc (Nat.le_refl _) _
  have HR1 := hide (RowAt.new W 24 #[.int .i64 dep, .slice A0 n0 c0])
  have HOWN := hide (fun w (hb : Below W.heap.size W w) => own_any W.heap.size A0 c0 n0 dep es w (h0.below hb) hx0 hb.size hn0 hm0)
  rw [hL] at HOWN
  have HB := hide hb1
  clear h0 hu0 hx0 hL hb1
  go_enter Try.func6, Try.ntmps6
  go_upto_region 1 with (fail)
  generalize W.alloc (.cells #[.int .i64 dep, .slice A0 n0 c0] 24) = w1 at *
  go_wp2_with fail
  with_reducible refine (wakes_any w1).mono ?_
  rintro e w2 ⟨rfl, hb⟩
  replace HR1 := hide (HR1.out.below hb)
  replace HB := hide (HB.out.trans (hb.mono HB.out.size))
  clear hb
  have q0 := row20 HR1.out
  have q1 := row21 HR1.out
  have ql := HR1.out.lt
  go_wp2_with fail
  refine (HOWN.out w2 HB.out).mono ?_
  rintro e w3 ⟨A, c, rfl, ho, hb⟩
  have O := hide (ownsRow_base (base' := W.heap.size) ho HB.out.size)
  replace HB := hide (HB.out.trans (hb.mono HB.out.size))
  clear hb ho q0 q1 ql HR1 HOWN
  dsimp only
  obtain ⟨n, hn⟩ : ∃ n, L.length = n := ⟨_, rfl⟩
  have HN := hide hn
  rw [hn] at O
  have hn34 : n ≤ 34 := by have := HLL.out; omega
  obtain ⟨_, _, hsf, hnc, hcm⟩ := own_form2 O.out
  obtain ⟨-, -, rfl⟩ := slice_form hsf
  clear hsf
  rw [hn]
  clear hn
  go_upto_region 4 with (fail)
  have hba := (Below.refl _ w3).alloc (Nat.le_refl _) (.cells #[.int .i64 dep, .slice A n c] 24)
  have R3 := hide (RowAt.new w3 24 #[.int .i64 dep, .slice A n c])
  replace O := hide (own_keepB O.out hba)
  replace HB := hide (HB.out.trans (hba.mono HB.out.size))
  clear hba
  generalize hg : w3.heap.size = g3 at *
  clear hg
  generalize w3.alloc (.cells #[.int .i64 dep, .slice A n c] 24) = w4 at *
  have q0 := row20 R3.out
  have q1 := row21 R3.out
  have ql := R3.out.lt
  have HDA := hide (show ∀ w, Below w4.heap.size w4 w → DirAt w w.heap.size A c L from fun w hb => DirAt.of_own (base := W.heap.size) (by rw [HN.out]; exact own_keepB O.out hb) HUL.out)
  obtain ⟨o, ho⟩ : ∃ o, (if mayB dep L then doubleO dep L else .error 310) = o := ⟨_, rfl⟩
  have HDB := hide (Double_any A c dep L w4 (HDA.out w4 (Below.refl _ _)) o ho)
  rw [HN.out] at HDB
  have HO := hide ho
  clear ho
  by_cases hgood : mayB dep L = true ∧ dep < 5
  case neg =>
    obtain ⟨k, k2, ho, hk1, hk2, hkk⟩ : ∃ k k2 : Int, (Except.error k : Except Int (Int × List En)) = o ∧ (if mayB dep L then 0 else 310) = k2 ∧ (k != 0) = true ∧ ((k == 310) == (k2 != 0)) = true := by
      by_cases hm : mayB dep L = true
      · have hd : ¬ dep < 5 := fun h => hgood ⟨hm, h⟩
        exact ⟨342, 0, by rw [← HO.out, if_pos hm]; unfold doubleO; rw [if_neg hd], by rw [if_pos hm], by decide, by decide⟩
      · exact ⟨310, 310, by rw [← HO.out, if_neg hm], by rw [if_neg hm], by decide, by decide⟩
    have HDB2 := hide (show Calls Try.prog 25 #[.agg #[.int .i64 dep, .slice A n c]] w4 (NoD w4 k) from by have h := HDB.out; rw [← ho] at h; exact h)
    go_wp2_with fail
    refine HDB2.out.mono ?_
    rintro e w5 ⟨rfl, hb⟩
    dsimp only
    have hba := (Below.refl _ w5).alloc (Nat.le_refl _) (.cells #[.int .i64 0, .slice none 0 0] 24)
    have R4 := hide (RowAt.new w5 24 #[.int .i64 0, .slice none 0 0])
    have hb2 := hb.trans (hba.mono hb.size)
    have R3' := hide (R3.out.below hb2)
    have HBX := hide (HB.out.trans (hb2.mono HB.out.size))
    have HDX := hide (HDA.out _ hb2)
    clear hb hba hb2 q0 q1 ql HDB HDB2 ho
    go_upto_region 5 with (fail)
    generalize hg : w5.heap.size = g4 at *
    clear hg
    generalize w5.alloc (.cells #[.int .i64 0, .slice none 0 0] 24) = w6 at *
    have HCK := hide (check_any w6.heap.size A c dep L w6 HDX.out (Nat.le_refl _) k2 hk1)
    rw [HN.out] at HCK
    have q0 := row20 R3'.out
    have q1 := row21 R3'.out
    have ql := R3'.out.lt
    have p1 := row21 R4.out
    have pl := R4.out.lt
    go_wp2_with fail
    with_reducible refine HCK.out.mono ?_
    rintro e w7 ⟨rfl, hb⟩
    have HBF := hide (HBX.out.trans (hb.mono HBX.out.size))
    clear hb
    dsimp only
    go_wp2_with fail
    go_ret
    exact ⟨ret_bool (by simp [hkk]), HBF.out⟩
  case pos =>
    obtain ⟨hm, hd⟩ := hgood
    have HM := hide hm
    have HMD := hide (may_dbl hm hd)
    have HBK := hide (back_plain hm hd)
    obtain rfl : Except.ok (dep + 1, dbl L) = o := by rw [← HO.out, if_pos hm]; unfold doubleO; rw [if_pos hd]
    obtain ⟨hd0, hd5, -⟩ := may_shape hm
    obtain ⟨M, hM⟩ : ∃ M, dbl L = M := ⟨_, rfl⟩
    have HHF := hide (show (if mayB (dep + 1) M then halveO (dep + 1) M else .error 310 : Except Int (Int × List En)) = .ok (dep, L) from by
      rw [← hM, if_pos HMD.out]
      unfold halveO
      rw [if_pos (by omega), half_dbl]
      show Except.ok (dep + 1 - 1, L) = _
      rw [show dep + 1 - 1 = dep by omega])
    rw [hM] at HBK HDB
    have HUM := hide (show ∀ e ∈ M, U64 e.2 from by
      intro x hx
      rw [← hM] at hx
      obtain ⟨y, hy, hxy⟩ := List.mem_flatMap.1 hx
      have : x = y := by simpa using hxy
      subst this
      exact HUL.out _ hy)
    have HML := hide (show M.length = 2 * n from by rw [← hM, dbl_length, HN.out])
    clear hm hM HO
    go_wp2_with fail
    refine HDB.out.mono ?_
    rintro e w5 ⟨A4, c4, rfl, ho, hb⟩
    dsimp only at ho ⊢
    rw [HML.out] at ho
    rw [HML.out]
    have O4 := hide (ownsRow_base (base' := W.heap.size) ho HB.out.size)
    have hba := (Below.refl _ w5).alloc (Nat.le_refl _) (.cells #[.int .i64 (dep + 1), .slice A4 (2 * n) c4] 24)
    have R4 := hide (RowAt.new w5 24 #[.int .i64 (dep + 1), .slice A4 (2 * n) c4])
    have hb2 := hb.trans (hba.mono hb.size)
    replace R3 := hide (R3.out.below hb2)
    replace O := hide (own_keepB O.out hb2)
    replace O4 := hide (own_keepB O4.out hba)
    replace HB := hide (HB.out.trans (hb2.mono HB.out.size))
    clear hb hba hb2 q0 q1 ql HDB ho HDA
    go_upto_region 7 with (fail)
    generalize hg : w5.heap.size = g4 at *
    clear hg
    generalize w5.alloc (.cells #[.int .i64 (dep + 1), .slice A4 (2 * n) c4] 24) = w6 at *
    have HDA := hide (show ∀ w, Below w6.heap.size w6 w → DirAt w w.heap.size A c L from fun w hb => DirAt.of_own (base := W.heap.size) (by rw [HN.out]; exact own_keepB O.out hb) HUL.out)
    have HD4 := hide (show ∀ w, Below w6.heap.size w6 w → DirAt w w.heap.size A4 c4 M from fun w hb => DirAt.of_own (base := W.heap.size) (by rw [HML.out]; exact own_keepB O4.out hb) HUM.out)
    have HHV := hide (Halve_any A4 c4 (dep + 1) M w6 (HD4.out w6 (Below.refl _ _)) _ HHF.out)
    rw [HML.out] at HHV
    have p0 := row20 R4.out
    have p1 := row21 R4.out
    have pl := R4.out.lt
    go_wp2_with fail
    refine HHV.out.mono ?_
    rintro e w7 ⟨A6, c6, rfl, ho, hb⟩
    dsimp only at ho ⊢
    rw [HN.out] at ho
    rw [HN.out]
    have O6 := hide (ownsRow_base (base' := W.heap.size) ho HB.out.size)
    have hba := (Below.refl _ w7).alloc (Nat.le_refl _) (.cells #[.int .i64 dep, .slice A6 n c6] 24)
    have R6 := hide (RowAt.new w7 24 #[.int .i64 dep, .slice A6 n c6])
    have hb2 := hb.trans (hba.mono hb.size)
    replace R3 := hide (R3.out.below hb2)
    replace R4 := hide (R4.out.below hb2)
    replace HDA := hide (fun w (hw : Below (w7.alloc (.cells #[.int .i64 dep, .slice A6 n c6] 24)).heap.size (w7.alloc (.cells #[.int .i64 dep, .slice A6 n c6] 24)) w) => HDA.out w (hb2.trans (hw.mono hb2.size)))
    replace HD4 := hide (fun w (hw : Below (w7.alloc (.cells #[.int .i64 dep, .slice A6 n c6] 24)).heap.size (w7.alloc (.cells #[.int .i64 dep, .slice A6 n c6] 24)) w) => HD4.out w (hb2.trans (hw.mono hb2.size)))
    replace O6 := hide (own_keepB O6.out hba)
    replace HB := hide (HB.out.trans (hb2.mono HB.out.size))
    clear hb hba hb2 p0 p1 pl HHV ho O O4
    go_upto_region 8 with (fail)
    generalize hg : w7.heap.size = g6 at *
    clear hg
    generalize w7.alloc (.cells #[.int .i64 dep, .slice A6 n c6] 24) = w8 at *
    have q0 := row20 R3.out
    have q1 := row21 R3.out
    have ql := R3.out.lt
    have p0 := row20 R4.out
    have p1 := row21 R4.out
    have pl := R4.out.lt
    have r0 := row20 R6.out
    have r1 := row21 R6.out
    have rl := R6.out.lt
    obtain ⟨s1, hs1⟩ : ∃ s, (spansX (dep + 1) M).length = s := ⟨_, rfl⟩
    have hs2 := HBK.out.2.2
    have HS1 := hide hs1
    have HS2 := hide (show (spansX dep L).length = s1 from by rw [← hs2]; exact hs1)
    have HEQ := hide (fun (w : World) (hb : Below w8.heap.size w8 w) => (show Calls Try.prog 20 #[.slice A6 n c6, .slice A n c] w (fun e Wn => e = .returned (.bool true) ∧ Below w.heap.size w Wn) from by
      have h := EqualE w.heap.size w.heap.size A6 A c6 c L L w (by have h := Rd.of_own (own_keepB O6.out hb); rw [← HN.out] at h; exact h) (HDA.out w hb).rd (Nat.le_refl _) (Nat.le_refl _) (by have := HLL.out; omega) (by have := HLL.out; omega) true (by simp)
      rw [HN.out] at h
      exact h))
    have HF1 := hide (fun (w : World) (hb : Below w8.heap.size w8 w) => (show Calls Try.prog 15 #[.agg #[.int .i64 (dep + 1), .slice A4 (2 * n) c4], .agg #[.int .i64 dep, .slice A n c]] w (fun e Wn => e = .returned (.bool true) ∧ Below w.heap.size w Wn) from by
      have h := Finer_any A4 A c4 c (dep + 1) dep M L w (HD4.out w hb) (HDA.out w hb) true HBK.out.1
      rw [HN.out, HML.out] at h
      exact h))
    have HF2 := hide (fun (w : World) (hb : Below w8.heap.size w8 w) => (show Calls Try.prog 15 #[.agg #[.int .i64 dep, .slice A n c], .agg #[.int .i64 (dep + 1), .slice A4 (2 * n) c4]] w (fun e Wn => e = .returned (.bool true) ∧ Below w.heap.size w Wn) from by
      have h := Finer_any A A4 c c4 dep (dep + 1) L M w (HDA.out w hb) (HD4.out w hb) true HBK.out.2.1
      rw [HN.out, HML.out] at h
      exact h))
    have HP1 := hide (fun (w : World) (hb : Below w8.heap.size w8 w) => (show Calls Try.prog 10 #[.agg #[.int .i64 (dep + 1), .slice A4 (2 * n) c4]] w (fun e Wn => (∃ Ax cx, e = .returned (.slice Ax s1 cx)) ∧ Below w.heap.size w Wn) from by
      have h : Calls Try.prog 10 #[.agg #[.int .i64 (dep + 1), .slice A4 M.length c4]] w (fun e Wn => (∃ Ax cx, e = .returned (.slice Ax s1 cx)) ∧ Below w.heap.size w Wn) := (Spans_any w.heap.size A4 c4 (dep + 1) M w (HD4.out w hb) (Nat.le_refl _) _ rfl).mono (fun e Wn h => by
        obtain ⟨Ax, cx, h1, _, h3⟩ := h
        exact ⟨⟨Ax, cx, by rw [h1, HS1.out]⟩, h3⟩)
      rw [HML.out] at h
      exact h))
    have HP2 := hide (fun (w : World) (hb : Below w8.heap.size w8 w) => (show Calls Try.prog 10 #[.agg #[.int .i64 dep, .slice A n c]] w (fun e Wn => (∃ Ax cx, e = .returned (.slice Ax s1 cx)) ∧ Below w.heap.size w Wn) from by
      have h : Calls Try.prog 10 #[.agg #[.int .i64 dep, .slice A L.length c]] w (fun e Wn => (∃ Ax cx, e = .returned (.slice Ax s1 cx)) ∧ Below w.heap.size w Wn) := (Spans_any w.heap.size A c dep L w (HDA.out w hb) (Nat.le_refl _) _ rfl).mono (fun e Wn h => by
        obtain ⟨Ax, cx, h1, _, h3⟩ := h
        exact ⟨⟨Ax, cx, by rw [h1, HS2.out]⟩, h3⟩)
      rw [HN.out] at h
      exact h))
    clear hs1 hs2
    have HS : Hid (∀ w w', Below w.heap.size w w' → (Below w8.heap.size w8 w ∧ w.cell? ⟨g3, 0, none⟩ = some (.int .i64 dep) ∧ w.cell? ⟨g3, 1, none⟩ = some (.slice A n c) ∧ w.cell? ⟨g4, 0, none⟩ = some (.int .i64 (dep + 1)) ∧ w.cell? ⟨g4, 1, none⟩ = some (.slice A4 (2 * n) c4) ∧ w.cell? ⟨g6, 0, none⟩ = some (.int .i64 dep) ∧ w.cell? ⟨g6, 1, none⟩ = some (.slice A6 n c6)) → (Below w8.heap.size w8 w' ∧ w'.cell? ⟨g3, 0, none⟩ = some (.int .i64 dep) ∧ w'.cell? ⟨g3, 1, none⟩ = some (.slice A n c) ∧ w'.cell? ⟨g4, 0, none⟩ = some (.int .i64 (dep + 1)) ∧ w'.cell? ⟨g4, 1, none⟩ = some (.slice A4 (2 * n) c4) ∧ w'.cell? ⟨g6, 0, none⟩ = some (.int .i64 dep) ∧ w'.cell? ⟨g6, 1, none⟩ = some (.slice A6 n c6))) := hide (fun w w' hb h => ⟨h.1.trans (hb.mono h.1.size), kept hb h.2.1, kept hb h.2.2.1, kept hb h.2.2.2.1, kept hb h.2.2.2.2.1, kept hb h.2.2.2.2.2.1, kept hb h.2.2.2.2.2.2⟩)
    have hS0 : Below w8.heap.size w8 w8.drew ∧ w8.drew.cell? ⟨g3, 0, none⟩ = some (.int .i64 dep) ∧ w8.drew.cell? ⟨g3, 1, none⟩ = some (.slice A n c) ∧ w8.drew.cell? ⟨g4, 0, none⟩ = some (.int .i64 (dep + 1)) ∧ w8.drew.cell? ⟨g4, 1, none⟩ = some (.slice A4 (2 * n) c4) ∧ w8.drew.cell? ⟨g6, 0, none⟩ = some (.int .i64 dep) ∧ w8.drew.cell? ⟨g6, 1, none⟩ = some (.slice A6 n c6) := ⟨(Below.refl _ _).drew, q0, q1, p0, p1, r0, r1⟩
    go_region_held3 (fun wX => Below w8.heap.size w8 wX ∧ wX.cell? ⟨g3, 0, none⟩ = some (.int .i64 dep) ∧ wX.cell? ⟨g3, 1, none⟩ = some (.slice A n c) ∧ wX.cell? ⟨g4, 0, none⟩ = some (.int .i64 (dep + 1)) ∧ wX.cell? ⟨g4, 1, none⟩ = some (.slice A4 (2 * n) c4) ∧ wX.cell? ⟨g6, 0, none⟩ = some (.int .i64 dep) ∧ wX.cell? ⟨g6, 1, none⟩ = some (.slice A6 n c6))
      (first | exact hS0 | exact HS.out _ _ hb (by assumption) | go_keep)
      (first
        | (go_at_call 20; (with_reducible refine (HEQ.out _ (And.left ‹Below w8.heap.size w8 _ ∧ _›)).mono ?_); rintro e wq ⟨rfl, hb⟩)
        | (go_at_call 15; (with_reducible refine (HF1.out _ (And.left ‹Below w8.heap.size w8 _ ∧ _›)).mono ?_); rintro e wq ⟨rfl, hb⟩)
        | (go_at_call 15; (with_reducible refine (HF2.out _ (And.left ‹Below w8.heap.size w8 _ ∧ _›)).mono ?_); rintro e wq ⟨rfl, hb⟩)
        | (go_at_call 10; (with_reducible refine (HP1.out _ (And.left ‹Below w8.heap.size w8 _ ∧ _›)).mono ?_); rintro e wq ⟨⟨Ax, cx, rfl⟩, hb⟩)
        | (go_at_call 10; (with_reducible refine (HP2.out _ (And.left ‹Below w8.heap.size w8 _ ∧ _›)).mono ?_); rintro e wq ⟨⟨Ay, cy, rfl⟩, hb⟩))
    rename_i hHeld
    have HBF := hide (HB.out.trans ((And.left hHeld).mono HB.out.size))
    clear hHeld hS0 HS HEQ HF1 HF2 HP1 HP2
    go_wp2_with fail
    go_ret
    exact ⟨ret_bool (by simp), HBF.out⟩
end Go.Proofs.Ytjlbnegdiabglaa
