/-
  The reference's Split, walked.
-/
import Derived.Test.YtjlbnegdiabglaaDke
import Derived.Test.YtjlbnegdiabglaaDkd
set_option linter.unusedSimpArgs false
set_option linter.unusedVariables false
namespace Go.Proofs.Ytjlbnegdiabglaa
open Go Go.RowKit
attribute [local go_sem] via_cell via_frozen

theorem cntE_take {e : En} {es : List En} {i : Nat} (hi : i < es.length) : cntE e (es.take (i + 1)) = cntE e (es.take i) + (if es[i] = e then 1 else 0) := by
  rw [List.take_succ_eq_append_getElem hi, cntE_append]
  simp [cntE]
theorem cntE_le (e : En) : ∀ l : List En, cntE e l ≤ l.length
  | [] => Nat.le_refl _
  | x :: l => by
    have := cntE_le e l
    simp only [cntE, List.length_cons]
    split <;> omega
theorem refOut_take {e low high : En} {h : Nat} {es : List En} {i : Nat} (hi : i < es.length) : refOut e low high h 0 (es.take (i + 1)) = refOut e low high h 0 (es.take i) ++ [if es[i] = e then (if cntE e (es.take i) + 1 ≤ h then low else high) else es[i]] := by
  rw [List.take_succ_eq_append_getElem hi, refOut_append, Nat.zero_add]
  congr 1
  simp only [refOut]
  split <;> rfl
theorem refOut_length (e low high : En) (h : Nat) : ∀ (l : List En) (m : Nat), (refOut e low high h m l).length = l.length
  | [], _ => rfl
  | x :: l, m => by
    simp only [refOut]
    split <;> simp [refOut_length e low high h l]
theorem new_at {w : World} {g : Nat} {t : TypeId} {cs : Array Value} (h : w.heap.size = g) : RowAt (w.alloc (.cells cs t)) g t cs := by subst h; exact RowAt.new _ _ _
/-- While a directory is split: what came of the first i, in the box. -/
structure SplI (base g13 : Nat) (d : Int) (L : List En) (i : Nat) (w wr : World) : Prop where
  own : ∃ v, RowAt wr g13 24 #[.int .i64 d, v] ∧ wr.ownsRow base 31 2 v i (Cs encE L)
  below : Below w.heap.size w wr
  size : base ≤ wr.heap.size
set_option maxRecDepth 100000 in
set_option maxHeartbeats 16000000 in
theorem SplitR_any (A : Option Addr) (c : Nat) (dep : Int) (es : List En) (e low high : En) (W : World) (h : DirAt W W.heap.size A c es) (hl : es.length ≤ 32) (hd0 : 0 ≤ dep) (hd5 : dep ≤ 5) (hlo : U64 low.2) (hhi : U64 high.2) (o : Except Int (Int × List En)) (ho : refSplit dep es e low high = o) :
    Calls Try.prog 32 #[.agg #[.int .i64 dep, .slice A es.length c], vE e, vE low, vE high] W (DirO W o) := by
  obtain ⟨n, hn⟩ : ∃ n, es.length = n := ⟨_, rfl⟩
  have hmk : ∃ w5, ((((W.alloc (.cells #[.int .i64 dep, .slice A n c] 24)).alloc (.cells #[.int .i64 e.1, .int .u64 e.2] 31)).alloc (.cells #[.int .i64 low.1, .int .u64 low.2] 31)).alloc (.cells #[.int .i64 high.1, .int .u64 high.2] 31)).alloc (.cells #[.int .i64 0, .slice none 0 0] 24) = w5 ∧ Below W.heap.size W w5 ∧ w5.heap.size = W.heap.size + 1 + 1 + 1 + 1 + 1 ∧
      RowAt w5 W.heap.size 24 #[.int .i64 dep, .slice A n c] ∧ RowAt w5 (W.heap.size + 1) 31 #[.int .i64 e.1, .int .u64 e.2] ∧ RowAt w5 (W.heap.size + 1 + 1) 31 #[.int .i64 low.1, .int .u64 low.2] ∧ RowAt w5 (W.heap.size + 1 + 1 + 1) 31 #[.int .i64 high.1, .int .u64 high.2] ∧ RowAt w5 (W.heap.size + 1 + 1 + 1 + 1) 24 #[.int .i64 0, .slice none 0 0] := by
    refine ⟨_, rfl, ((((Below.refl _ W).alloc (Nat.le_refl _) _).alloc (by simp) _).alloc (by simp; omega) _).alloc (by simp; omega) _ |>.alloc (by simp; omega) _, by simp, ?_, ?_, ?_, ?_, ?_⟩
    · exact ((((RowAt.new W 24 _).below ((Below.refl _ _).alloc (Nat.le_refl _) _)).below ((Below.refl _ _).alloc (Nat.le_refl _) _)).below ((Below.refl _ _).alloc (Nat.le_refl _) _)).below ((Below.refl _ _).alloc (Nat.le_refl _) _)
    · exact (((new_at (by simp)).below ((Below.refl _ _).alloc (Nat.le_refl _) _)).below ((Below.refl _ _).alloc (Nat.le_refl _) _)).below ((Below.refl _ _).alloc (Nat.le_refl _) _)
    · exact ((new_at (by simp)).below ((Below.refl _ _).alloc (Nat.le_refl _) _)).below ((Below.refl _ _).alloc (Nat.le_refl _) _)
    · exact (new_at (by simp)).below ((Below.refl _ _).alloc (Nat.le_refl _) _)
    · exact new_at (by simp)
  obtain ⟨w5, hw5, hb5, hs5, r4, r5, r6, r7, r8⟩ := hmk
  have HB := hide hb5
  have S5 := hide hs5
  have R4 := hide r4
  have R5 := hide r5
  have R6 := hide r6
  have R7 := hide r7
  have R8 := hide r8
  have HN := hide hn
  have HO := hide ho
  have HU := hide h.u
  have HRD := hide (fun w (hb : Below W.heap.size W w) => h.rd.below hb)
  have hl2 := hl
  rw [hn] at hl2
  clear hb5 hs5 r4 r5 r6 r7 r8 ho
  rw [hn]
  clear hn
  go_enter Try.func32, Try.ntmps32
  go_upto_region 1 with (fail)
  (try rw [hw5])
  clear hw5
  obtain ⟨b1, hb1⟩ : ∃ b, es.any (fun x => decide (x = e)) = b := ⟨_, rfl⟩
  have HC1 := hide (hasR_any W.heap.size A c dep es e w5 (HRD.out w5 HB.out) HB.out.size (by omega) b1 hb1)
  rw [HN.out] at HC1
  have q0 := row20 R4.out
  have q1 := row21 R4.out
  have ql := R4.out.lt
  have e0 := row20 R5.out
  have e1 := row21 R5.out
  have el := R5.out.lt
  go_wp2_with fail
  refine HC1.out.mono ?_
  rintro ee w6 ⟨rfl, hb⟩
  dsimp only
  replace R4 := hide (R4.out.below hb)
  replace R5 := hide (R5.out.below hb)
  replace R6 := hide (R6.out.below hb)
  replace R7 := hide (R7.out.below hb)
  replace R8 := hide (R8.out.below hb)
  replace HB := hide (HB.out.trans (hb.mono HB.out.size))
  clear hb q0 q1 ql e0 e1 el HC1
  cases b1
  · have HB1 := hide hb1
    clear hb1
    obtain rfl : Except.error 4 = o := by
      rw [← HO.out]
      unfold refSplit
      rw [if_pos HB1.out]
    have z0 := row20 R8.out
    have z1 := row21 R8.out
    have zl := R8.out.lt
    have zf0 := R8.out.frozen 0
    have zf1 := R8.out.frozen 1
    have hr9 := (R8.out.set 0 (.int .i64 0)).set 1 (.slice none 0 0)
    have HR9 := hide (show RowAt ((w6.setCell ⟨W.heap.size + 1 + 1 + 1 + 1, 0, none⟩ (.int .i64 0)).setCell ⟨W.heap.size + 1 + 1 + 1 + 1, 1, none⟩ (.slice none 0 0)) (W.heap.size + 1 + 1 + 1 + 1) 24 #[.int .i64 0, .slice none 0 0] from hr9)
    have HB9 := hide ((HB.out.setCell (p := ⟨W.heap.size + 1 + 1 + 1 + 1, 0, none⟩) (by simp; omega) (.int .i64 0)).setCell (p := ⟨W.heap.size + 1 + 1 + 1 + 1, 1, none⟩) (by simp; omega) (.slice none 0 0))
    clear hr9
    go_wp2_with fail
    have hr9 := HR9.out
    have hb9 := HB9.out
    generalize (w6.setCell ⟨W.heap.size + 1 + 1 + 1 + 1, 0, none⟩ (.int .i64 0)).setCell ⟨W.heap.size + 1 + 1 + 1 + 1, 1, none⟩ (.slice none 0 0) = w9 at *
    have x0 := row20 hr9
    have x1 := row21 hr9
    have xl := hr9.lt
    exact bodyPost_ret (v := .tuple #[.agg #[.int .i64 0, .slice none 0 0], .int .i64 4]) (by simp [results, Try.results32, go_sem, x0, x1, xl]) rfl ⟨rfl, hb9⟩
  · have HB1 := hide hb1
    clear hb1
    obtain ⟨c1, hc1⟩ : ∃ b, okEnt low.1 low.2 = b := ⟨_, rfl⟩
    obtain ⟨c2, hc2⟩ : ∃ b, okEnt high.1 high.2 = b := ⟨_, rfl⟩
    obtain ⟨c3, hc3⟩ : ∃ b, (low.1 == high.1) = b := ⟨_, rfl⟩
    have HE1 := hide (fun w => Entry_any (W := w) low.1 low.2 c1 hlo.1 hc1)
    have HE2 := hide (fun w => Entry_any (W := w) high.1 high.2 c2 hhi.1 hc2)
    have HARG := hide (show (okEnt low.1 low.2 && okEnt high.1 high.2 && !decide (low.1 = high.1)) = (c1 && c2 && !c3) from by rw [hc1, hc2, ← hc3]; congr 2)
    clear hc1 hc2
    have l0 := row20 R6.out
    have l1 := row21 R6.out
    have ll := R6.out.lt
    go_wp2_with fail
    refine (HE1.out w6).mono ?_
    rintro ee w7 ⟨rfl, hb⟩
    dsimp only
    replace R4 := hide (R4.out.below hb)
    replace R5 := hide (R5.out.below hb)
    replace R6 := hide (R6.out.below hb)
    replace R7 := hide (R7.out.below hb)
    replace R8 := hide (R8.out.below hb)
    replace HB := hide (HB.out.trans (hb.mono HB.out.size))
    clear hb l0 l1 ll HE1
    cases c1
    · clear hc3
      obtain rfl : Except.error 2 = o := by
        rw [← HO.out]
        unfold refSplit
        rw [if_neg (by rw [HB1.out]; simp), if_pos (by rw [HARG.out]; rfl)]
      have z0 := row20 R8.out
      have z1 := row21 R8.out
      have zl := R8.out.lt
      have zf0 := R8.out.frozen 0
      have zf1 := R8.out.frozen 1
      have hr9 := (R8.out.set 0 (.int .i64 0)).set 1 (.slice none 0 0)
      have HR9 := hide (show RowAt ((w7.setCell ⟨W.heap.size + 1 + 1 + 1 + 1, 0, none⟩ (.int .i64 0)).setCell ⟨W.heap.size + 1 + 1 + 1 + 1, 1, none⟩ (.slice none 0 0)) (W.heap.size + 1 + 1 + 1 + 1) 24 #[.int .i64 0, .slice none 0 0] from hr9)
      have HB9 := hide ((HB.out.setCell (p := ⟨W.heap.size + 1 + 1 + 1 + 1, 0, none⟩) (by simp; omega) (.int .i64 0)).setCell (p := ⟨W.heap.size + 1 + 1 + 1 + 1, 1, none⟩) (by simp; omega) (.slice none 0 0))
      clear hr9
      go_wp2_with fail
      have hr9 := HR9.out
      have hb9 := HB9.out
      generalize (w7.setCell ⟨W.heap.size + 1 + 1 + 1 + 1, 0, none⟩ (.int .i64 0)).setCell ⟨W.heap.size + 1 + 1 + 1 + 1, 1, none⟩ (.slice none 0 0) = w9 at *
      have x0 := row20 hr9
      have x1 := row21 hr9
      have xl := hr9.lt
      exact bodyPost_ret (v := .tuple #[.agg #[.int .i64 0, .slice none 0 0], .int .i64 2]) (by simp [results, Try.results32, go_sem, x0, x1, xl]) rfl ⟨rfl, hb9⟩
    · have l0 := row20 R7.out
      have l1 := row21 R7.out
      have ll := R7.out.lt
      go_wp2_with fail
      refine (HE2.out w7).mono ?_
      rintro ee w8 ⟨rfl, hb⟩
      dsimp only
      replace R4 := hide (R4.out.below hb)
      replace R5 := hide (R5.out.below hb)
      replace R6 := hide (R6.out.below hb)
      replace R7 := hide (R7.out.below hb)
      replace R8 := hide (R8.out.below hb)
      replace HB := hide (HB.out.trans (hb.mono HB.out.size))
      clear hb l0 l1 ll HE2
      cases c2
      · clear hc3
        obtain rfl : Except.error 2 = o := by
          rw [← HO.out]
          unfold refSplit
          rw [if_neg (by rw [HB1.out]; simp), if_pos (by rw [HARG.out]; rfl)]
        have z0 := row20 R8.out
        have z1 := row21 R8.out
        have zl := R8.out.lt
        have zf0 := R8.out.frozen 0
        have zf1 := R8.out.frozen 1
        have hr9 := (R8.out.set 0 (.int .i64 0)).set 1 (.slice none 0 0)
        have HR9 := hide (show RowAt ((w8.setCell ⟨W.heap.size + 1 + 1 + 1 + 1, 0, none⟩ (.int .i64 0)).setCell ⟨W.heap.size + 1 + 1 + 1 + 1, 1, none⟩ (.slice none 0 0)) (W.heap.size + 1 + 1 + 1 + 1) 24 #[.int .i64 0, .slice none 0 0] from hr9)
        have HB9 := hide ((HB.out.setCell (p := ⟨W.heap.size + 1 + 1 + 1 + 1, 0, none⟩) (by simp; omega) (.int .i64 0)).setCell (p := ⟨W.heap.size + 1 + 1 + 1 + 1, 1, none⟩) (by simp; omega) (.slice none 0 0))
        clear hr9
        go_wp2_with fail
        have hr9 := HR9.out
        have hb9 := HB9.out
        generalize (w8.setCell ⟨W.heap.size + 1 + 1 + 1 + 1, 0, none⟩ (.int .i64 0)).setCell ⟨W.heap.size + 1 + 1 + 1 + 1, 1, none⟩ (.slice none 0 0) = w9 at *
        have x0 := row20 hr9
        have x1 := row21 hr9
        have xl := hr9.lt
        exact bodyPost_ret (v := .tuple #[.agg #[.int .i64 0, .slice none 0 0], .int .i64 2]) (by simp [results, Try.results32, go_sem, x0, x1, xl]) rfl ⟨rfl, hb9⟩
      · have l0 := row20 R6.out
        have ll := R6.out.lt
        have k0 := row20 R7.out
        have kl := R7.out.lt
        cases c3
        · go_upto_region 5 with (fail)
          clear l0 ll k0 kl hc3
          obtain ⟨s1, hs1⟩ : ∃ b, es.any (fun x => decide (x.1 = low.1)) = b := ⟨_, rfl⟩
          obtain ⟨s2, hs2⟩ : ∃ b, es.any (fun x => decide (x.1 = high.1)) = b := ⟨_, rfl⟩
          have HS1 := hide (fun w (hb : Below W.heap.size W w) => slabR_any W.heap.size A c dep low.1 es w (HRD.out w hb) hb.size (by omega) s1 hs1)
          have HS2 := hide (fun w (hb : Below W.heap.size W w) => slabR_any W.heap.size A c dep high.1 es w (HRD.out w hb) hb.size (by omega) s2 hs2)
          rw [HN.out] at HS1 HS2
          have HTH := hide (show (es.any (fun x => decide (x.1 = low.1)) || es.any (fun x => decide (x.1 = high.1))) = (s1 || s2) from by rw [hs1, hs2])
          clear hs1 hs2
          have q0 := row20 R4.out
          have q1 := row21 R4.out
          have ql := R4.out.lt
          have l0 := row20 R6.out
          have ll := R6.out.lt
          go_wp2_with fail
          refine (HS1.out _ HB.out).mono ?_
          rintro ee w9 ⟨rfl, hb⟩
          dsimp only
          replace R4 := hide (R4.out.below hb)
          replace R5 := hide (R5.out.below hb)
          replace R6 := hide (R6.out.below hb)
          replace R7 := hide (R7.out.below hb)
          replace R8 := hide (R8.out.below hb)
          replace HB := hide (HB.out.trans (hb.mono HB.out.size))
          clear hb q0 q1 ql l0 ll HS1
          cases s1
          · have q0 := row20 R4.out
            have q1 := row21 R4.out
            have ql := R4.out.lt
            have l0 := row20 R7.out
            have ll := R7.out.lt
            go_wp2_with fail
            refine (HS2.out _ HB.out).mono ?_
            rintro ee w10 ⟨rfl, hb⟩
            dsimp only
            replace R4 := hide (R4.out.below hb)
            replace R5 := hide (R5.out.below hb)
            replace R6 := hide (R6.out.below hb)
            replace R7 := hide (R7.out.below hb)
            replace R8 := hide (R8.out.below hb)
            replace HB := hide (HB.out.trans (hb.mono HB.out.size))
            clear hb q0 q1 ql l0 ll HS2
            cases s2
            · have q1 := row21 R4.out
              have ql := R4.out.lt
              go_wp2_with fail
              clear q1 ql
              go_loopw [10, 55] (fun mv iv wr => ∃ i : Nat, i ≤ n ∧ iv = .int .i64 i ∧ mv = .int .i64 ((cntE e (es.take i) : Nat) : Int) ∧ Below w10.heap.size w10 wr) (fun _ iv _ => n - (intOf iv).toNat)
              case atStart => exact ⟨0, Nat.zero_le _, rfl, rfl, Below.refl _ _⟩
              case round =>
                obtain ⟨i, hi, rfl, rfl, hb⟩ := hrel
                have HBW := hide hb
                replace R4 := hide (R4.out.below hb)
                replace R5 := hide (R5.out.below hb)
                replace R6 := hide (R6.out.below hb)
                replace R7 := hide (R7.out.below hb)
                replace R8 := hide (R8.out.below hb)
                replace HB := hide (HB.out.trans (hb.mono HB.out.size))
                clear hb
                by_cases hlt : i < n
                · have hix : i < es.length := by rw [HN.out]; exact hlt
                  obtain ⟨b, off, hA, hbl, hc⟩ := (HRD.out _ HB.out).elem encE_len hix
                  subst hA
                  obtain ⟨x, hx⟩ : ∃ x, es[i] = x := ⟨_, rfl⟩
                  obtain ⟨be, hbe⟩ : ∃ b, decide (x = e) = b := ⟨_, rfl⟩
                  have HBE := hide hbe
                  have hne := fun w => eqlE w x e be hbe
                  have HCT := hide (cntE_take (e := e) hix)
                  rw [hx] at hc HCT
                  have hcl : cntE e (es.take i) ≤ i := Nat.le_trans (cntE_le e _) (by rw [List.length_take]; omega)
                  obtain ⟨m, hm⟩ : ∃ m, cntE e (es.take i) = m := ⟨_, rfl⟩
                  rw [hm] at HCT hcl
                  rw [hm]
                  have z0 := hc 0 _ (by omega) rfl
                  have z1 := hc 1 _ (by omega) rfl
                  simp only [Nat.add_zero] at z0
                  try dsimp only at z1
                  have hbX : b < wr.heap.size := Nat.lt_of_lt_of_le hbl HB.out.size
                  have hiI : (i : Int) < (n : Int) := by omega
                  have hba := (Below.refl _ wr).alloc (Nat.le_refl _) (.cells #[.int .i64 x.1, .int .u64 x.2] 31)
                  have R12 := hide (RowAt.new wr 31 #[.int .i64 x.1, .int .u64 x.2])
                  replace R5 := hide (R5.out.below hba)
                  have HB3 := hide (HBW.out.trans (hba.mono HBW.out.size))
                  clear hc hx hba hbe hbl hm
                  go_upto_region 11 with (fail)
                  clear z0 z1
                  generalize hg8 : wr.heap.size = g12 at *
                  clear hg8
                  generalize wr.alloc (.cells #[.int .i64 x.1, .int .u64 x.2] 31) = w11 at *
                  have u0 := row20 R12.out
                  have u1 := row21 R12.out
                  have ul := R12.out.lt
                  have v0 := row20 R5.out
                  have v1 := row21 R5.out
                  have vl := R5.out.lt
                  cases be
                  · go_wp2_with fail
                    go_roundw
                    case rel => exact ⟨i + 1, by omega, by go_num, by rw [HCT.out, if_neg (by simpa using HBE.out)]; go_num, HB3.out⟩
                    case measure => simp [intOf]; omega
                  · go_wp2_with fail
                    go_roundw
                    case rel => exact ⟨i + 1, by omega, by go_num, by rw [HCT.out, if_pos (by simpa using HBE.out)]; go_num, HB3.out⟩
                    case measure => simp [intOf]; omega
                · obtain rfl : i = n := by omega
                  have HTK := hide (show es.take i = es from List.take_of_length_le (by rw [HN.out]; exact Nat.le_refl _))
                  rw [HTK.out]
                  obtain ⟨N, hNN⟩ : ∃ m, cntE e es = m := ⟨_, rfl⟩
                  have hN32 : N ≤ i := by rw [← hNN, ← HN.out]; exact cntE_le e es
                  have HNN := hide hNN
                  rw [hNN]
                  clear hNN HBW
                  have HRF := hide (show refSplit dep es e low high = if N = 1 then (if dep = 5 then .error 342 else .ok (dep + 1, refOut e low high 1 0 (dbl es))) else .ok (dep, refOut e low high (N / 2) 0 es) from by
                    unfold refSplit
                    rw [if_neg (by rw [HB1.out]; simp), if_neg (by rw [HARG.out]; simp), if_neg (by rw [HTH.out]; simp), HNN.out])
                  by_cases hN1 : N = 1
                  · subst hN1
                    have d0 := row20 R4.out
                    have d1 := row21 R4.out
                    have dl := R4.out.lt
                    by_cases hd : dep = 5
                    · have hdb : (dep == 5) = true := by rw [hd]; rfl
                      obtain rfl : Except.error 342 = o := by
                        rw [← HO.out]
                        skip
                        rw [HRF.out]
                        simp [hd]
                      have z0 := row20 R8.out
                      have z1 := row21 R8.out
                      have zl := R8.out.lt
                      have zf0 := R8.out.frozen 0
                      have zf1 := R8.out.frozen 1
                      have hr9 := (R8.out.set 0 (.int .i64 0)).set 1 (.slice none 0 0)
                      have HR9 := hide (show RowAt ((wr.setCell ⟨W.heap.size + 1 + 1 + 1 + 1, 0, none⟩ (.int .i64 0)).setCell ⟨W.heap.size + 1 + 1 + 1 + 1, 1, none⟩ (.slice none 0 0)) (W.heap.size + 1 + 1 + 1 + 1) 24 #[.int .i64 0, .slice none 0 0] from hr9)
                      have HB9 := hide ((HB.out.setCell (p := ⟨W.heap.size + 1 + 1 + 1 + 1, 0, none⟩) (by simp; omega) (.int .i64 0)).setCell (p := ⟨W.heap.size + 1 + 1 + 1 + 1, 1, none⟩) (by simp; omega) (.slice none 0 0))
                      clear hr9
                      go_wp2_with fail
                      have hr9 := HR9.out
                      have hb9 := HB9.out
                      generalize (wr.setCell ⟨W.heap.size + 1 + 1 + 1 + 1, 0, none⟩ (.int .i64 0)).setCell ⟨W.heap.size + 1 + 1 + 1 + 1, 1, none⟩ (.slice none 0 0) = w9 at *
                      have x0 := row20 hr9
                      have x1 := row21 hr9
                      have xl := hr9.lt
                      exact bodyPost_ret (v := .tuple #[.agg #[.int .i64 0, .slice none 0 0], .int .i64 342]) (by simp [results, Try.results32, go_sem, x0, x1, xl]) rfl ⟨rfl, hb9⟩
                    · have hdb : (dep == 5) = false := by rw [beq_eq_false_iff_ne]; exact hd
                      have HDB := hide (DoubleR_any wr.heap.size A c dep es wr ((HRD.out wr HB.out).more HB.out.size) (Nat.le_refl _) hl hd0 hd5)
                      rw [HN.out] at HDB
                      go_wp2_with fail
                      refine HDB.out.mono ?_
                      rintro ee w11 ⟨A2, c2, rfl, hown, hb⟩
                      dsimp only
                      obtain ⟨n2, hn2⟩ : ∃ n, (dbl es).length = n := ⟨_, rfl⟩
                      have HN2 := hide hn2
                      have hn64 : n2 ≤ 64 := by rw [← hn2, dbl_length]; omega
                      rw [hn2] at hown
                      rw [hn2]
                      have OD := hide hown
                      replace R4 := hide (R4.out.below hb)
                      replace R5 := hide (R5.out.below hb)
                      replace R6 := hide (R6.out.below hb)
                      replace R7 := hide (R7.out.below hb)
                      replace R8 := hide (R8.out.below hb)
                      replace HB := hide (HB.out.trans (hb.mono HB.out.size))
                      have HSZ := hide hb.size
                      clear hb hown hn2 d0 d1 dl
                      have d0 := row20 R4.out
                      have d1 := row21 R4.out
                      have dl := R4.out.lt
                      have df0 := R4.out.frozen 0
                      have df1 := R4.out.frozen 1
                      have R4n := hide ((R4.out.set 0 (.int .i64 (dep + 1))).set 1 (.slice A2 n2 c2))
                      have R5n := hide ((R5.out.setNe (g2 := W.heap.size) (o := 0) (v := .int .i64 (dep + 1)) (by omega)).setNe (g2 := W.heap.size) (o := 1) (v := .slice A2 n2 c2) (by omega))
                      have R6n := hide ((R6.out.setNe (g2 := W.heap.size) (o := 0) (v := .int .i64 (dep + 1)) (by omega)).setNe (g2 := W.heap.size) (o := 1) (v := .slice A2 n2 c2) (by omega))
                      have R7n := hide ((R7.out.setNe (g2 := W.heap.size) (o := 0) (v := .int .i64 (dep + 1)) (by omega)).setNe (g2 := W.heap.size) (o := 1) (v := .slice A2 n2 c2) (by omega))
                      have R8n := hide ((R8.out.setNe (g2 := W.heap.size) (o := 0) (v := .int .i64 (dep + 1)) (by omega)).setNe (g2 := W.heap.size) (o := 1) (v := .slice A2 n2 c2) (by omega))
                      have ODn := hide (own_setBox (own_setBox OD.out R4.out (by decide) 0 (.int .i64 (dep + 1))) (R4.out.set 0 (.int .i64 (dep + 1))) (by decide) 1 (.slice A2 n2 c2))
                      have HBn := hide ((HB.out.setCell (p := ⟨W.heap.size, 0, none⟩) (Nat.le_refl _) (.int .i64 (dep + 1))).setCell (p := ⟨W.heap.size, 1, none⟩) (Nat.le_refl _) (.slice A2 n2 c2))
                      go_upto_region 18 with (fail)
                      clear d0 d1 dl df0 df1 R4 R5 R6 R7 R8 OD HB
                      have R4n : Hid (RowAt ((w11.setCell ⟨W.heap.size, 0, none⟩ (.int .i64 (dep + 1))).setCell ⟨W.heap.size, 1, none⟩ (.slice A2 n2 c2)) W.heap.size 24 #[.int .i64 (dep + 1), .slice A2 n2 c2]) := R4n
                      generalize (w11.setCell ⟨W.heap.size, 0, none⟩ (.int .i64 (dep + 1))).setCell ⟨W.heap.size, 1, none⟩ (.slice A2 n2 c2) = w12 at *
                      have R4 := hide R4n.out
                      have R5 := hide R5n.out
                      have R6 := hide R6n.out
                      have R7 := hide R7n.out
                      have R8 := hide R8n.out
                      have HB := hide HBn.out
                      have HRX := hide (show ∀ w, Below w12.heap.size w12 w → Rd w w12.heap.size 2 A2 (dbl es).length (Cs encE (dbl es)) from fun w hb => by rw [HN2.out]; exact (Rd.of_own ODn.out).below hb)
                      clear R4n R5n R6n R7n R8n HBn
                      obtain rfl : Except.ok (dep + 1, refOut e low high 1 0 (dbl es)) = o := by
                        rw [← HO.out, HRF.out]
                        simp [hd]
                      have HBZ := hide HB.out
                      have q0 := row20 R4.out
                      have q1 := row21 R4.out
                      have ql := R4.out.lt
                      have hba := (Below.refl _ w12).alloc (Nat.le_refl _) (.cells #[.int .i64 (dep + 1), .slice none 0 0] 24)
                      have R13 := hide (RowAt.new w12 24 #[.int .i64 (dep + 1), .slice none 0 0])
                      have S13 := hide (show (w12.alloc (.cells #[.int .i64 (dep + 1), .slice none 0 0] 24)).heap.size = w12.heap.size + 1 from by simp)
                      have HBA := hide hba
                      have HZ8 := hide (show W.heap.size + 1 + 1 + 1 + 1 < w12.heap.size from R8.out.lt)
                      clear hba
                      go_upto_region 20 with (fail)
                      generalize w12.alloc (.cells #[.int .i64 (dep + 1), .slice none 0 0] 24) = w13 at *
                      have p1 := row21 (R4.out.below HBA.out)
                      have pl := (R4.out.below HBA.out).lt
                      clear q0 q1 ql
                      go_wp2_with fail
                      clear p1 pl
                      go_loopw [14, 79] (fun mv iv wr => ∃ jj : Nat, jj ≤ n2 ∧ iv = .int .i64 jj ∧ mv = .int .i64 ((cntE e ((dbl es).take jj) : Nat) : Int) ∧ SplI w13.heap.size w12.heap.size (dep + 1) (refOut e low high 1 0 ((dbl es).take jj)) jj w12 wr) (fun _ iv _ => n2 - (intOf iv).toNat)
                      case atStart => exact ⟨0, Nat.zero_le _, rfl, rfl, ⟨⟨_, R13.out, ⟨rfl, .inl ⟨rfl, rfl⟩⟩⟩, HBA.out, Nat.le_refl _⟩⟩
                      case round =>
                        obtain ⟨j, hj, rfl, rfl, ⟨⟨v, hrow, hown⟩, hbel, hsz⟩⟩ := hrel
                        obtain ⟨Av, cv, rfl, hcv, hcvm⟩ := own_form2 hown
                        have RB := hide hrow
                        have OB := hide hown
                        have HBL := hide hbel
                        have s13 := S13.out
                        clear hrow hown hbel R13
                        by_cases hlt : j < n2
                        · have hjx : j < (dbl es).length := by rw [HN2.out]; exact hlt
                          obtain ⟨b, off, hA, hbl, hc⟩ := (HRX.out _ HBL.out).elem encE_len hjx
                          obtain ⟨x, hx⟩ : ∃ x, (dbl es)[j] = x := ⟨_, rfl⟩
                          obtain ⟨be, hbe⟩ : ∃ b, decide (x = e) = b := ⟨_, rfl⟩
                          have HBE := hide hbe
                          have hne := fun w => eqlE w x e be hbe
                          have HCT := hide (cntE_take (e := e) hjx)
                          have HOT := hide (refOut_take (e := e) (low := low) (high := high) (h := 1) hjx)
                          rw [hx] at hc HCT HOT
                          have hcl : cntE e ((dbl es).take j) ≤ j := Nat.le_trans (cntE_le e _) (by rw [List.length_take]; omega)
                          obtain ⟨m, hm⟩ : ∃ m, cntE e ((dbl es).take j) = m := ⟨_, rfl⟩
                          rw [hm] at HCT hcl HOT
                          rw [hm]
                          obtain ⟨L, hL⟩ : ∃ L, refOut e low high 1 0 ((dbl es).take j) = L := ⟨_, rfl⟩
                          rw [hL] at HOT OB
                          have z0 := hc 0 _ (by omega) rfl
                          have z1 := hc 1 _ (by omega) rfl
                          simp only [Nat.add_zero] at z0
                          try dsimp only at z1
                          subst hA
                          have hbX : b < wr.heap.size := Nat.lt_of_lt_of_le hbl HBL.out.size
                          have hjI : (j : Int) < (n2 : Int) := by omega
                          have hba := (Below.refl _ wr).alloc (Nat.le_refl _) (.cells #[.int .i64 x.1, .int .u64 x.2] 31)
                          have R16 := hide (RowAt.new wr 31 #[.int .i64 x.1, .int .u64 x.2])
                          have Q13 := hide (RB.out.below hba)
                          have O5 := hide (own_keepB OB.out hba)
                          have HBX := hide (HBL.out.trans (hba.mono HBL.out.size))
                          have HN16 := hide (show ∀ g, (Value.slice Av j cv).ownBlock = some g → g ≠ wr.heap.size from fun g e => by have := (own_blk OB.out e).2; omega)
                          have HN13 := hide (show some w12.heap.size ≠ (Value.slice Av j cv).ownBlock from fun e => by have := (own_blk OB.out e.symm).1; omega)
                          have HG16 := hide (show w12.heap.size < wr.heap.size ∧ w12.heap.size ≠ wr.heap.size from ⟨by omega, by omega⟩)
                          have hs5 : w13.heap.size ≤ (wr.alloc (.cells #[.int .i64 x.1, .int .u64 x.2] 31)).heap.size := by simp; omega
                          clear hc hx hba hbl hm hL hbe OB RB HBL
                          go_upto_region 24 with (fail)
                          clear z0 z1 hbX
                          generalize hg8 : wr.heap.size = g16 at *
                          clear hg8
                          generalize wr.alloc (.cells #[.int .i64 x.1, .int .u64 x.2] 31) = w16 at *
                          have u0 := row20 R16.out
                          have u1 := row21 R16.out
                          have ul := R16.out.lt
                          have R5x := hide (R5.out.belowB (by have := HZ8.out; omega) HBX.out)
                          have v0 := row20 R5x.out
                          have v1 := row21 R5x.out
                          have vl := R5x.out.lt
                          cases be
                          · have HY := hide (show (if x = e then (if m + 1 ≤ 1 then low else high) else x) = x from if_neg (by simpa using HBE.out))
                            go_upto_region 29 with (fail)
                            clear u0 u1 ul v0 v1 vl
                            have u0 := row20 R16.out
                            have u1 := row21 R16.out
                            have ul := R16.out.lt
                            have p1 := row21 Q13.out
                            have pl := Q13.out.lt
                            go_wp2_with (at_builtin; refine wpList_app elE (v := .slice Av j cv) rfl _ _ rfl rfl (O5.out.alloc _) rfl (Rd.new w16 #[.int .i64 x.1, .int .u64 x.2] 31 2 1 rfl) (by simp [Value.oneCell']) (by omega) (by rw [World.size_alloc]; exact Nat.le_succ_of_le hs5) ?_; intro vA wA hownA hbA hgA hvA; obtain ⟨AA, cAA, rfl, hcAA, hcAAm⟩ := own_form2 hownA; have HOA := hide hownA; have RA := hide (row_grownE (Q13.out.below ((Below.refl _ w16).alloc (Nat.le_refl _) (.cells #[.int .i64 x.1, .int .u64 x.2] 31))) hgA HN13.out); have HBA2 := hide (((Below.refl _ w16).alloc hs5 (.cells #[.int .i64 x.1, .int .u64 x.2] 31)).trans hbA); have hsA : w13.heap.size ≤ wA.heap.size := Nat.le_trans (by rw [World.size_alloc]; exact Nat.le_succ_of_le hs5) hgA.size; have a1 := row21 RA.out; have al := RA.out.lt; have af := RA.out.frozen 1; clear hownA hbA hgA hvA)
                            have HCB := hide (show Cs encE (L ++ [x]) = Cs encE L ++ [.int .i64 x.1, .int .u64 x.2] from by rw [Cs_append]; rfl)
                            have RN := hide (RA.out.set 1 (.slice AA (j + 1) cAA))
                            have OBN := hide (own_other2 (w' := wA.setCell ⟨w12.heap.size, 1, none⟩ (.slice AA (j + 1) cAA)) HOA.out (fun g hg _ => heap_setCell_ne _ _ _ _ (by simp; omega)))
                            have HBN := hide ((HBX.out.trans (HBA2.out.mono (by omega))).setCell (p := ⟨w12.heap.size, 1, none⟩) (Nat.le_refl _) (.slice AA (j + 1) cAA))
                            go_roundw
                            case rel =>
                              refine ⟨j + 1, by omega, by go_num, by rw [HCT.out, if_neg (by simpa using HBE.out)]; go_num, ⟨⟨.slice AA (j + 1) cAA, RN.out, ?_⟩, HBN.out, by simp; exact hsA⟩⟩
                              rw [HOT.out, HY.out, HCB.out]
                              exact OBN.out
                            case measure => simp [intOf]; omega
                          · by_cases hmh : m + 1 ≤ 1
                            · have hdh : decide ((m : Int) + 1 ≤ (2 : Int) / 2) = true := decide_eq_true (by omega)
                              have HY := hide (show (if x = e then (if m + 1 ≤ 1 then low else high) else x) = low from by rw [if_pos (by simpa using HBE.out), if_pos hmh])
                              have Ryx := hide (R6.out.belowB (by have := HZ8.out; omega) HBX.out)
                              have y0 := row20 Ryx.out
                              have y1 := row21 Ryx.out
                              have yl := Ryx.out.lt
                              have uf0 := R16.out.frozen 0
                              have uf1 := R16.out.frozen 1
                              have R16n := hide ((R16.out.set 0 (.int .i64 low.1)).set 1 (.int .u64 low.2))
                              have Q13n := hide ((Q13.out.setNe (g2 := g16) (o := 0) (v := .int .i64 low.1) HG16.out.2).setNe (g2 := g16) (o := 1) (v := .int .u64 low.2) HG16.out.2)
                              have O5n := hide (own_at (w' := (w16.setCell ⟨g16, 0, none⟩ (.int .i64 low.1)).setCell ⟨g16, 1, none⟩ (.int .u64 low.2)) O5.out (fun g hg => by rw [heap_setCell_ne _ _ _ _ (HN16.out g hg), heap_setCell_ne _ _ _ _ (HN16.out g hg)]))
                              have HBXn := hide ((HBX.out.setCell (p := ⟨g16, 0, none⟩) (Nat.le_of_lt HG16.out.1) (.int .i64 low.1)).setCell (p := ⟨g16, 1, none⟩) (Nat.le_of_lt HG16.out.1) (.int .u64 low.2))
                              have hs5n : w13.heap.size ≤ ((w16.setCell ⟨g16, 0, none⟩ (.int .i64 low.1)).setCell ⟨g16, 1, none⟩ (.int .u64 low.2)).heap.size := by simp; exact hs5
                              go_upto_region 29 with (fail)
                              clear u0 u1 ul v0 v1 vl y0 y1 yl uf0 uf1 hs5 hdh R16 Q13 O5 HBX
                              have R16n : Hid (RowAt ((w16.setCell ⟨g16, 0, none⟩ (.int .i64 low.1)).setCell ⟨g16, 1, none⟩ (.int .u64 low.2)) g16 31 #[.int .i64 low.1, .int .u64 low.2]) := R16n
                              generalize (w16.setCell ⟨g16, 0, none⟩ (.int .i64 low.1)).setCell ⟨g16, 1, none⟩ (.int .u64 low.2) = w17 at *
                              have R16 := hide R16n.out
                              have Q13 := hide Q13n.out
                              have O5 := hide O5n.out
                              have HBX := hide HBXn.out
                              have hs5 := hs5n
                              clear R16n Q13n O5n HBXn hs5n
                              have u0 := row20 R16.out
                              have u1 := row21 R16.out
                              have ul := R16.out.lt
                              have p1 := row21 Q13.out
                              have pl := Q13.out.lt
                              go_wp2_with (at_builtin; refine wpList_app elE (v := .slice Av j cv) rfl _ _ rfl rfl (O5.out.alloc _) rfl (Rd.new w17 #[.int .i64 low.1, .int .u64 low.2] 31 2 1 rfl) (by simp [Value.oneCell']) (by omega) (by rw [World.size_alloc]; exact Nat.le_succ_of_le hs5) ?_; intro vA wA hownA hbA hgA hvA; obtain ⟨AA, cAA, rfl, hcAA, hcAAm⟩ := own_form2 hownA; have HOA := hide hownA; have RA := hide (row_grownE (Q13.out.below ((Below.refl _ w17).alloc (Nat.le_refl _) (.cells #[.int .i64 low.1, .int .u64 low.2] 31))) hgA HN13.out); have HBA2 := hide (((Below.refl _ w17).alloc hs5 (.cells #[.int .i64 low.1, .int .u64 low.2] 31)).trans hbA); have hsA : w13.heap.size ≤ wA.heap.size := Nat.le_trans (by rw [World.size_alloc]; exact Nat.le_succ_of_le hs5) hgA.size; have a1 := row21 RA.out; have al := RA.out.lt; have af := RA.out.frozen 1; clear hownA hbA hgA hvA)
                              have HCB := hide (show Cs encE (L ++ [low]) = Cs encE L ++ [.int .i64 low.1, .int .u64 low.2] from by rw [Cs_append]; rfl)
                              have RN := hide (RA.out.set 1 (.slice AA (j + 1) cAA))
                              have OBN := hide (own_other2 (w' := wA.setCell ⟨w12.heap.size, 1, none⟩ (.slice AA (j + 1) cAA)) HOA.out (fun g hg _ => heap_setCell_ne _ _ _ _ (by simp; omega)))
                              have HBN := hide ((HBX.out.trans (HBA2.out.mono (by omega))).setCell (p := ⟨w12.heap.size, 1, none⟩) (Nat.le_refl _) (.slice AA (j + 1) cAA))
                              go_roundw
                              case rel =>
                                refine ⟨j + 1, by omega, by go_num, by rw [HCT.out, if_pos (by simpa using HBE.out)]; go_num, ⟨⟨.slice AA (j + 1) cAA, RN.out, ?_⟩, HBN.out, by simp; exact hsA⟩⟩
                                rw [HOT.out, HY.out, HCB.out]
                                exact OBN.out
                              case measure => simp [intOf]; omega
                            · have hdh : decide ((m : Int) + 1 ≤ (2 : Int) / 2) = false := decide_eq_false (by omega)
                              have HY := hide (show (if x = e then (if m + 1 ≤ 1 then low else high) else x) = high from by rw [if_pos (by simpa using HBE.out), if_neg hmh])
                              have Ryx := hide (R7.out.belowB (by have := HZ8.out; omega) HBX.out)
                              have y0 := row20 Ryx.out
                              have y1 := row21 Ryx.out
                              have yl := Ryx.out.lt
                              have uf0 := R16.out.frozen 0
                              have uf1 := R16.out.frozen 1
                              have R16n := hide ((R16.out.set 0 (.int .i64 high.1)).set 1 (.int .u64 high.2))
                              have Q13n := hide ((Q13.out.setNe (g2 := g16) (o := 0) (v := .int .i64 high.1) HG16.out.2).setNe (g2 := g16) (o := 1) (v := .int .u64 high.2) HG16.out.2)
                              have O5n := hide (own_at (w' := (w16.setCell ⟨g16, 0, none⟩ (.int .i64 high.1)).setCell ⟨g16, 1, none⟩ (.int .u64 high.2)) O5.out (fun g hg => by rw [heap_setCell_ne _ _ _ _ (HN16.out g hg), heap_setCell_ne _ _ _ _ (HN16.out g hg)]))
                              have HBXn := hide ((HBX.out.setCell (p := ⟨g16, 0, none⟩) (Nat.le_of_lt HG16.out.1) (.int .i64 high.1)).setCell (p := ⟨g16, 1, none⟩) (Nat.le_of_lt HG16.out.1) (.int .u64 high.2))
                              have hs5n : w13.heap.size ≤ ((w16.setCell ⟨g16, 0, none⟩ (.int .i64 high.1)).setCell ⟨g16, 1, none⟩ (.int .u64 high.2)).heap.size := by simp; exact hs5
                              go_upto_region 29 with (fail)
                              clear u0 u1 ul v0 v1 vl y0 y1 yl uf0 uf1 hs5 hdh R16 Q13 O5 HBX
                              have R16n : Hid (RowAt ((w16.setCell ⟨g16, 0, none⟩ (.int .i64 high.1)).setCell ⟨g16, 1, none⟩ (.int .u64 high.2)) g16 31 #[.int .i64 high.1, .int .u64 high.2]) := R16n
                              generalize (w16.setCell ⟨g16, 0, none⟩ (.int .i64 high.1)).setCell ⟨g16, 1, none⟩ (.int .u64 high.2) = w17 at *
                              have R16 := hide R16n.out
                              have Q13 := hide Q13n.out
                              have O5 := hide O5n.out
                              have HBX := hide HBXn.out
                              have hs5 := hs5n
                              clear R16n Q13n O5n HBXn hs5n
                              have u0 := row20 R16.out
                              have u1 := row21 R16.out
                              have ul := R16.out.lt
                              have p1 := row21 Q13.out
                              have pl := Q13.out.lt
                              go_wp2_with (at_builtin; refine wpList_app elE (v := .slice Av j cv) rfl _ _ rfl rfl (O5.out.alloc _) rfl (Rd.new w17 #[.int .i64 high.1, .int .u64 high.2] 31 2 1 rfl) (by simp [Value.oneCell']) (by omega) (by rw [World.size_alloc]; exact Nat.le_succ_of_le hs5) ?_; intro vA wA hownA hbA hgA hvA; obtain ⟨AA, cAA, rfl, hcAA, hcAAm⟩ := own_form2 hownA; have HOA := hide hownA; have RA := hide (row_grownE (Q13.out.below ((Below.refl _ w17).alloc (Nat.le_refl _) (.cells #[.int .i64 high.1, .int .u64 high.2] 31))) hgA HN13.out); have HBA2 := hide (((Below.refl _ w17).alloc hs5 (.cells #[.int .i64 high.1, .int .u64 high.2] 31)).trans hbA); have hsA : w13.heap.size ≤ wA.heap.size := Nat.le_trans (by rw [World.size_alloc]; exact Nat.le_succ_of_le hs5) hgA.size; have a1 := row21 RA.out; have al := RA.out.lt; have af := RA.out.frozen 1; clear hownA hbA hgA hvA)
                              have HCB := hide (show Cs encE (L ++ [high]) = Cs encE L ++ [.int .i64 high.1, .int .u64 high.2] from by rw [Cs_append]; rfl)
                              have RN := hide (RA.out.set 1 (.slice AA (j + 1) cAA))
                              have OBN := hide (own_other2 (w' := wA.setCell ⟨w12.heap.size, 1, none⟩ (.slice AA (j + 1) cAA)) HOA.out (fun g hg _ => heap_setCell_ne _ _ _ _ (by simp; omega)))
                              have HBN := hide ((HBX.out.trans (HBA2.out.mono (by omega))).setCell (p := ⟨w12.heap.size, 1, none⟩) (Nat.le_refl _) (.slice AA (j + 1) cAA))
                              go_roundw
                              case rel =>
                                refine ⟨j + 1, by omega, by go_num, by rw [HCT.out, if_pos (by simpa using HBE.out)]; go_num, ⟨⟨.slice AA (j + 1) cAA, RN.out, ?_⟩, HBN.out, by simp; exact hsA⟩⟩
                                rw [HOT.out, HY.out, HCB.out]
                                exact OBN.out
                              case measure => simp [intOf]; omega
                        · obtain rfl : j = n2 := by omega
                          have HTK2 := hide (show (dbl es).take j = (dbl es) from List.take_of_length_le (by rw [HN2.out]; exact Nat.le_refl _))
                          rw [HTK2.out] at OB
                          rw [HTK2.out]
                          have R8x := hide (R8.out.belowB HZ8.out HBL.out)
                          have p0 := row20 RB.out
                          have p1 := row21 RB.out
                          have pl := RB.out.lt
                          have z0 := row20 R8x.out
                          have z1 := row21 R8x.out
                          have zl := R8x.out.lt
                          have zf0 := R8x.out.frozen 0
                          have zf1 := R8x.out.frozen 1
                          have hr9 := (R8x.out.set 0 (.int .i64 (dep + 1))).set 1 (.slice Av j cv)
                          have HR9 := hide (show RowAt ((wr.setCell ⟨W.heap.size + 1 + 1 + 1 + 1, 0, none⟩ (.int .i64 (dep + 1))).setCell ⟨W.heap.size + 1 + 1 + 1 + 1, 1, none⟩ (.slice Av j cv)) (W.heap.size + 1 + 1 + 1 + 1) 24 #[.int .i64 (dep + 1), .slice Av j cv] from hr9)
                          have HO9 := hide (own_other2 (w' := (wr.setCell ⟨W.heap.size + 1 + 1 + 1 + 1, 0, none⟩ (.int .i64 (dep + 1))).setCell ⟨W.heap.size + 1 + 1 + 1 + 1, 1, none⟩ (.slice Av j cv)) OB.out (fun g hg _ => by have := HZ8.out; rw [heap_setCell_ne _ _ _ _ (by simp; omega), heap_setCell_ne _ _ _ _ (by simp; omega)]))
                          have HB9 := hide (((HBZ.out.trans (HBL.out.mono HBZ.out.size)).setCell (p := ⟨W.heap.size + 1 + 1 + 1 + 1, 0, none⟩) (by simp; omega) (.int .i64 (dep + 1))).setCell (p := ⟨W.heap.size + 1 + 1 + 1 + 1, 1, none⟩) (by simp; omega) (.slice Av j cv))
                          have hWw : W.heap.size ≤ w13.heap.size := Nat.le_trans HBZ.out.size HBA.out.size
                          clear hr9
                          go_wp2_with fail
                          have hr9 := HR9.out
                          have hb9 := HB9.out
                          have ho9 := HO9.out
                          generalize (wr.setCell ⟨W.heap.size + 1 + 1 + 1 + 1, 0, none⟩ (.int .i64 (dep + 1))).setCell ⟨W.heap.size + 1 + 1 + 1 + 1, 1, none⟩ (.slice Av j cv) = w9 at *
                          have x0 := row20 hr9
                          have x1 := row21 hr9
                          have xl := hr9.lt
                          refine bodyPost_ret (v := .tuple #[.agg #[.int .i64 (dep + 1), .slice Av j cv], .int .i64 0]) (by simp [results, Try.results32, go_sem, x0, x1, xl]) rfl ⟨Av, cv, ?_, ?_, hb9⟩
                          · dsimp only; rw [refOut_length, HN2.out]
                          · dsimp only; rw [refOut_length, HN2.out]; exact ownsRow_base ho9 hWw
                  · have hNb : ((N : Int) == 1) = false := by rw [beq_eq_false_iff_ne]; omega
                    obtain ⟨w12, hw12⟩ : ∃ w, w = wr := ⟨_, rfl⟩
                    subst hw12
                    have HRX := hide (show ∀ w, Below w12.heap.size w12 w → Rd w w12.heap.size 2 A es.length (Cs encE es) from fun w hb => ((HRD.out w12 HB.out).below (hb.mono HB.out.size)).more HB.out.size)
                    obtain rfl : Except.ok (dep, refOut e low high (N / 2) 0 es) = o := by
                      rw [← HO.out, HRF.out, if_neg hN1]
                    have HBZ := hide HB.out
                    have q0 := row20 R4.out
                    have q1 := row21 R4.out
                    have ql := R4.out.lt
                    have hba := (Below.refl _ w12).alloc (Nat.le_refl _) (.cells #[.int .i64 (dep), .slice none 0 0] 24)
                    have R13 := hide (RowAt.new w12 24 #[.int .i64 (dep), .slice none 0 0])
                    have S13 := hide (show (w12.alloc (.cells #[.int .i64 (dep), .slice none 0 0] 24)).heap.size = w12.heap.size + 1 from by simp)
                    have HBA := hide hba
                    have HZ8 := hide (show W.heap.size + 1 + 1 + 1 + 1 < w12.heap.size from R8.out.lt)
                    clear hba
                    go_upto_region 20 with (fail)
                    generalize w12.alloc (.cells #[.int .i64 (dep), .slice none 0 0] 24) = w13 at *
                    have p1 := row21 (R4.out.below HBA.out)
                    have pl := (R4.out.below HBA.out).lt
                    clear q0 q1 ql
                    go_wp2_with fail
                    clear p1 pl
                    go_loopw [14, 79] (fun mv iv wr => ∃ jj : Nat, jj ≤ i ∧ iv = .int .i64 jj ∧ mv = .int .i64 ((cntE e (es.take jj) : Nat) : Int) ∧ SplI w13.heap.size w12.heap.size (dep) (refOut e low high (N / 2) 0 (es.take jj)) jj w12 wr) (fun _ iv _ => i - (intOf iv).toNat)
                    case atStart => exact ⟨0, Nat.zero_le _, rfl, rfl, ⟨⟨_, R13.out, ⟨rfl, .inl ⟨rfl, rfl⟩⟩⟩, HBA.out, Nat.le_refl _⟩⟩
                    case round =>
                      obtain ⟨j, hj, rfl, rfl, ⟨⟨v, hrow, hown⟩, hbel, hsz⟩⟩ := hrel
                      obtain ⟨Av, cv, rfl, hcv, hcvm⟩ := own_form2 hown
                      have RB := hide hrow
                      have OB := hide hown
                      have HBL := hide hbel
                      have s13 := S13.out
                      clear hrow hown hbel R13
                      by_cases hlt : j < i
                      · have hjx : j < es.length := by rw [HN.out]; exact hlt
                        obtain ⟨b, off, hA, hbl, hc⟩ := (HRX.out _ HBL.out).elem encE_len hjx
                        obtain ⟨x, hx⟩ : ∃ x, es[j] = x := ⟨_, rfl⟩
                        obtain ⟨be, hbe⟩ : ∃ b, decide (x = e) = b := ⟨_, rfl⟩
                        have HBE := hide hbe
                        have hne := fun w => eqlE w x e be hbe
                        have HCT := hide (cntE_take (e := e) hjx)
                        have HOT := hide (refOut_take (e := e) (low := low) (high := high) (h := (N / 2)) hjx)
                        rw [hx] at hc HCT HOT
                        have hcl : cntE e (es.take j) ≤ j := Nat.le_trans (cntE_le e _) (by rw [List.length_take]; omega)
                        obtain ⟨m, hm⟩ : ∃ m, cntE e (es.take j) = m := ⟨_, rfl⟩
                        rw [hm] at HCT hcl HOT
                        rw [hm]
                        obtain ⟨L, hL⟩ : ∃ L, refOut e low high (N / 2) 0 (es.take j) = L := ⟨_, rfl⟩
                        rw [hL] at HOT OB
                        have z0 := hc 0 _ (by omega) rfl
                        have z1 := hc 1 _ (by omega) rfl
                        simp only [Nat.add_zero] at z0
                        try dsimp only at z1
                        subst hA
                        have hbX : b < wr.heap.size := Nat.lt_of_lt_of_le hbl HBL.out.size
                        have hjI : (j : Int) < (i : Int) := by omega
                        have hba := (Below.refl _ wr).alloc (Nat.le_refl _) (.cells #[.int .i64 x.1, .int .u64 x.2] 31)
                        have R16 := hide (RowAt.new wr 31 #[.int .i64 x.1, .int .u64 x.2])
                        have Q13 := hide (RB.out.below hba)
                        have O5 := hide (own_keepB OB.out hba)
                        have HBX := hide (HBL.out.trans (hba.mono HBL.out.size))
                        have HN16 := hide (show ∀ g, (Value.slice Av j cv).ownBlock = some g → g ≠ wr.heap.size from fun g e => by have := (own_blk OB.out e).2; omega)
                        have HN13 := hide (show some w12.heap.size ≠ (Value.slice Av j cv).ownBlock from fun e => by have := (own_blk OB.out e.symm).1; omega)
                        have HG16 := hide (show w12.heap.size < wr.heap.size ∧ w12.heap.size ≠ wr.heap.size from ⟨by omega, by omega⟩)
                        have hs5 : w13.heap.size ≤ (wr.alloc (.cells #[.int .i64 x.1, .int .u64 x.2] 31)).heap.size := by simp; omega
                        clear hc hx hba hbl hm hL hbe OB RB HBL
                        go_upto_region 24 with (fail)
                        clear z0 z1 hbX
                        generalize hg8 : wr.heap.size = g16 at *
                        clear hg8
                        generalize wr.alloc (.cells #[.int .i64 x.1, .int .u64 x.2] 31) = w16 at *
                        have u0 := row20 R16.out
                        have u1 := row21 R16.out
                        have ul := R16.out.lt
                        have R5x := hide (R5.out.belowB (by have := HZ8.out; omega) HBX.out)
                        have v0 := row20 R5x.out
                        have v1 := row21 R5x.out
                        have vl := R5x.out.lt
                        cases be
                        · have HY := hide (show (if x = e then (if m + 1 ≤ (N / 2) then low else high) else x) = x from if_neg (by simpa using HBE.out))
                          go_upto_region 29 with (fail)
                          clear u0 u1 ul v0 v1 vl
                          have u0 := row20 R16.out
                          have u1 := row21 R16.out
                          have ul := R16.out.lt
                          have p1 := row21 Q13.out
                          have pl := Q13.out.lt
                          go_wp2_with (at_builtin; refine wpList_app elE (v := .slice Av j cv) rfl _ _ rfl rfl (O5.out.alloc _) rfl (Rd.new w16 #[.int .i64 x.1, .int .u64 x.2] 31 2 1 rfl) (by simp [Value.oneCell']) (by omega) (by rw [World.size_alloc]; exact Nat.le_succ_of_le hs5) ?_; intro vA wA hownA hbA hgA hvA; obtain ⟨AA, cAA, rfl, hcAA, hcAAm⟩ := own_form2 hownA; have HOA := hide hownA; have RA := hide (row_grownE (Q13.out.below ((Below.refl _ w16).alloc (Nat.le_refl _) (.cells #[.int .i64 x.1, .int .u64 x.2] 31))) hgA HN13.out); have HBA2 := hide (((Below.refl _ w16).alloc hs5 (.cells #[.int .i64 x.1, .int .u64 x.2] 31)).trans hbA); have hsA : w13.heap.size ≤ wA.heap.size := Nat.le_trans (by rw [World.size_alloc]; exact Nat.le_succ_of_le hs5) hgA.size; have a1 := row21 RA.out; have al := RA.out.lt; have af := RA.out.frozen 1; clear hownA hbA hgA hvA)
                          have HCB := hide (show Cs encE (L ++ [x]) = Cs encE L ++ [.int .i64 x.1, .int .u64 x.2] from by rw [Cs_append]; rfl)
                          have RN := hide (RA.out.set 1 (.slice AA (j + 1) cAA))
                          have OBN := hide (own_other2 (w' := wA.setCell ⟨w12.heap.size, 1, none⟩ (.slice AA (j + 1) cAA)) HOA.out (fun g hg _ => heap_setCell_ne _ _ _ _ (by simp; omega)))
                          have HBN := hide ((HBX.out.trans (HBA2.out.mono (by omega))).setCell (p := ⟨w12.heap.size, 1, none⟩) (Nat.le_refl _) (.slice AA (j + 1) cAA))
                          go_roundw
                          case rel =>
                            refine ⟨j + 1, by omega, by go_num, by rw [HCT.out, if_neg (by simpa using HBE.out)]; go_num, ⟨⟨.slice AA (j + 1) cAA, RN.out, ?_⟩, HBN.out, by simp; exact hsA⟩⟩
                            rw [HOT.out, HY.out, HCB.out]
                            exact OBN.out
                          case measure => simp [intOf]; omega
                        · by_cases hmh : m + 1 ≤ (N / 2)
                          · have hdh : decide ((m : Int) + 1 ≤ (N : Int) / 2) = true := decide_eq_true (by omega)
                            have HY := hide (show (if x = e then (if m + 1 ≤ (N / 2) then low else high) else x) = low from by rw [if_pos (by simpa using HBE.out), if_pos hmh])
                            have Ryx := hide (R6.out.belowB (by have := HZ8.out; omega) HBX.out)
                            have y0 := row20 Ryx.out
                            have y1 := row21 Ryx.out
                            have yl := Ryx.out.lt
                            have uf0 := R16.out.frozen 0
                            have uf1 := R16.out.frozen 1
                            have R16n := hide ((R16.out.set 0 (.int .i64 low.1)).set 1 (.int .u64 low.2))
                            have Q13n := hide ((Q13.out.setNe (g2 := g16) (o := 0) (v := .int .i64 low.1) HG16.out.2).setNe (g2 := g16) (o := 1) (v := .int .u64 low.2) HG16.out.2)
                            have O5n := hide (own_at (w' := (w16.setCell ⟨g16, 0, none⟩ (.int .i64 low.1)).setCell ⟨g16, 1, none⟩ (.int .u64 low.2)) O5.out (fun g hg => by rw [heap_setCell_ne _ _ _ _ (HN16.out g hg), heap_setCell_ne _ _ _ _ (HN16.out g hg)]))
                            have HBXn := hide ((HBX.out.setCell (p := ⟨g16, 0, none⟩) (Nat.le_of_lt HG16.out.1) (.int .i64 low.1)).setCell (p := ⟨g16, 1, none⟩) (Nat.le_of_lt HG16.out.1) (.int .u64 low.2))
                            have hs5n : w13.heap.size ≤ ((w16.setCell ⟨g16, 0, none⟩ (.int .i64 low.1)).setCell ⟨g16, 1, none⟩ (.int .u64 low.2)).heap.size := by simp; exact hs5
                            go_upto_region 29 with (fail)
                            clear u0 u1 ul v0 v1 vl y0 y1 yl uf0 uf1 hs5 hdh R16 Q13 O5 HBX
                            have R16n : Hid (RowAt ((w16.setCell ⟨g16, 0, none⟩ (.int .i64 low.1)).setCell ⟨g16, 1, none⟩ (.int .u64 low.2)) g16 31 #[.int .i64 low.1, .int .u64 low.2]) := R16n
                            generalize (w16.setCell ⟨g16, 0, none⟩ (.int .i64 low.1)).setCell ⟨g16, 1, none⟩ (.int .u64 low.2) = w17 at *
                            have R16 := hide R16n.out
                            have Q13 := hide Q13n.out
                            have O5 := hide O5n.out
                            have HBX := hide HBXn.out
                            have hs5 := hs5n
                            clear R16n Q13n O5n HBXn hs5n
                            have u0 := row20 R16.out
                            have u1 := row21 R16.out
                            have ul := R16.out.lt
                            have p1 := row21 Q13.out
                            have pl := Q13.out.lt
                            go_wp2_with (at_builtin; refine wpList_app elE (v := .slice Av j cv) rfl _ _ rfl rfl (O5.out.alloc _) rfl (Rd.new w17 #[.int .i64 low.1, .int .u64 low.2] 31 2 1 rfl) (by simp [Value.oneCell']) (by omega) (by rw [World.size_alloc]; exact Nat.le_succ_of_le hs5) ?_; intro vA wA hownA hbA hgA hvA; obtain ⟨AA, cAA, rfl, hcAA, hcAAm⟩ := own_form2 hownA; have HOA := hide hownA; have RA := hide (row_grownE (Q13.out.below ((Below.refl _ w17).alloc (Nat.le_refl _) (.cells #[.int .i64 low.1, .int .u64 low.2] 31))) hgA HN13.out); have HBA2 := hide (((Below.refl _ w17).alloc hs5 (.cells #[.int .i64 low.1, .int .u64 low.2] 31)).trans hbA); have hsA : w13.heap.size ≤ wA.heap.size := Nat.le_trans (by rw [World.size_alloc]; exact Nat.le_succ_of_le hs5) hgA.size; have a1 := row21 RA.out; have al := RA.out.lt; have af := RA.out.frozen 1; clear hownA hbA hgA hvA)
                            have HCB := hide (show Cs encE (L ++ [low]) = Cs encE L ++ [.int .i64 low.1, .int .u64 low.2] from by rw [Cs_append]; rfl)
                            have RN := hide (RA.out.set 1 (.slice AA (j + 1) cAA))
                            have OBN := hide (own_other2 (w' := wA.setCell ⟨w12.heap.size, 1, none⟩ (.slice AA (j + 1) cAA)) HOA.out (fun g hg _ => heap_setCell_ne _ _ _ _ (by simp; omega)))
                            have HBN := hide ((HBX.out.trans (HBA2.out.mono (by omega))).setCell (p := ⟨w12.heap.size, 1, none⟩) (Nat.le_refl _) (.slice AA (j + 1) cAA))
                            go_roundw
                            case rel =>
                              refine ⟨j + 1, by omega, by go_num, by rw [HCT.out, if_pos (by simpa using HBE.out)]; go_num, ⟨⟨.slice AA (j + 1) cAA, RN.out, ?_⟩, HBN.out, by simp; exact hsA⟩⟩
                              rw [HOT.out, HY.out, HCB.out]
                              exact OBN.out
                            case measure => simp [intOf]; omega
                          · have hdh : decide ((m : Int) + 1 ≤ (N : Int) / 2) = false := decide_eq_false (by omega)
                            have HY := hide (show (if x = e then (if m + 1 ≤ (N / 2) then low else high) else x) = high from by rw [if_pos (by simpa using HBE.out), if_neg hmh])
                            have Ryx := hide (R7.out.belowB (by have := HZ8.out; omega) HBX.out)
                            have y0 := row20 Ryx.out
                            have y1 := row21 Ryx.out
                            have yl := Ryx.out.lt
                            have uf0 := R16.out.frozen 0
                            have uf1 := R16.out.frozen 1
                            have R16n := hide ((R16.out.set 0 (.int .i64 high.1)).set 1 (.int .u64 high.2))
                            have Q13n := hide ((Q13.out.setNe (g2 := g16) (o := 0) (v := .int .i64 high.1) HG16.out.2).setNe (g2 := g16) (o := 1) (v := .int .u64 high.2) HG16.out.2)
                            have O5n := hide (own_at (w' := (w16.setCell ⟨g16, 0, none⟩ (.int .i64 high.1)).setCell ⟨g16, 1, none⟩ (.int .u64 high.2)) O5.out (fun g hg => by rw [heap_setCell_ne _ _ _ _ (HN16.out g hg), heap_setCell_ne _ _ _ _ (HN16.out g hg)]))
                            have HBXn := hide ((HBX.out.setCell (p := ⟨g16, 0, none⟩) (Nat.le_of_lt HG16.out.1) (.int .i64 high.1)).setCell (p := ⟨g16, 1, none⟩) (Nat.le_of_lt HG16.out.1) (.int .u64 high.2))
                            have hs5n : w13.heap.size ≤ ((w16.setCell ⟨g16, 0, none⟩ (.int .i64 high.1)).setCell ⟨g16, 1, none⟩ (.int .u64 high.2)).heap.size := by simp; exact hs5
                            go_upto_region 29 with (fail)
                            clear u0 u1 ul v0 v1 vl y0 y1 yl uf0 uf1 hs5 hdh R16 Q13 O5 HBX
                            have R16n : Hid (RowAt ((w16.setCell ⟨g16, 0, none⟩ (.int .i64 high.1)).setCell ⟨g16, 1, none⟩ (.int .u64 high.2)) g16 31 #[.int .i64 high.1, .int .u64 high.2]) := R16n
                            generalize (w16.setCell ⟨g16, 0, none⟩ (.int .i64 high.1)).setCell ⟨g16, 1, none⟩ (.int .u64 high.2) = w17 at *
                            have R16 := hide R16n.out
                            have Q13 := hide Q13n.out
                            have O5 := hide O5n.out
                            have HBX := hide HBXn.out
                            have hs5 := hs5n
                            clear R16n Q13n O5n HBXn hs5n
                            have u0 := row20 R16.out
                            have u1 := row21 R16.out
                            have ul := R16.out.lt
                            have p1 := row21 Q13.out
                            have pl := Q13.out.lt
                            go_wp2_with (at_builtin; refine wpList_app elE (v := .slice Av j cv) rfl _ _ rfl rfl (O5.out.alloc _) rfl (Rd.new w17 #[.int .i64 high.1, .int .u64 high.2] 31 2 1 rfl) (by simp [Value.oneCell']) (by omega) (by rw [World.size_alloc]; exact Nat.le_succ_of_le hs5) ?_; intro vA wA hownA hbA hgA hvA; obtain ⟨AA, cAA, rfl, hcAA, hcAAm⟩ := own_form2 hownA; have HOA := hide hownA; have RA := hide (row_grownE (Q13.out.below ((Below.refl _ w17).alloc (Nat.le_refl _) (.cells #[.int .i64 high.1, .int .u64 high.2] 31))) hgA HN13.out); have HBA2 := hide (((Below.refl _ w17).alloc hs5 (.cells #[.int .i64 high.1, .int .u64 high.2] 31)).trans hbA); have hsA : w13.heap.size ≤ wA.heap.size := Nat.le_trans (by rw [World.size_alloc]; exact Nat.le_succ_of_le hs5) hgA.size; have a1 := row21 RA.out; have al := RA.out.lt; have af := RA.out.frozen 1; clear hownA hbA hgA hvA)
                            have HCB := hide (show Cs encE (L ++ [high]) = Cs encE L ++ [.int .i64 high.1, .int .u64 high.2] from by rw [Cs_append]; rfl)
                            have RN := hide (RA.out.set 1 (.slice AA (j + 1) cAA))
                            have OBN := hide (own_other2 (w' := wA.setCell ⟨w12.heap.size, 1, none⟩ (.slice AA (j + 1) cAA)) HOA.out (fun g hg _ => heap_setCell_ne _ _ _ _ (by simp; omega)))
                            have HBN := hide ((HBX.out.trans (HBA2.out.mono (by omega))).setCell (p := ⟨w12.heap.size, 1, none⟩) (Nat.le_refl _) (.slice AA (j + 1) cAA))
                            go_roundw
                            case rel =>
                              refine ⟨j + 1, by omega, by go_num, by rw [HCT.out, if_pos (by simpa using HBE.out)]; go_num, ⟨⟨.slice AA (j + 1) cAA, RN.out, ?_⟩, HBN.out, by simp; exact hsA⟩⟩
                              rw [HOT.out, HY.out, HCB.out]
                              exact OBN.out
                            case measure => simp [intOf]; omega
                      · obtain rfl : j = i := by omega
                        have HTK2 := hide (show es.take j = es from List.take_of_length_le (by rw [HN.out]; exact Nat.le_refl _))
                        rw [HTK2.out] at OB
                        rw [HTK2.out]
                        have R8x := hide (R8.out.belowB HZ8.out HBL.out)
                        have p0 := row20 RB.out
                        have p1 := row21 RB.out
                        have pl := RB.out.lt
                        have z0 := row20 R8x.out
                        have z1 := row21 R8x.out
                        have zl := R8x.out.lt
                        have zf0 := R8x.out.frozen 0
                        have zf1 := R8x.out.frozen 1
                        have hr9 := (R8x.out.set 0 (.int .i64 (dep))).set 1 (.slice Av j cv)
                        have HR9 := hide (show RowAt ((wr.setCell ⟨W.heap.size + 1 + 1 + 1 + 1, 0, none⟩ (.int .i64 (dep))).setCell ⟨W.heap.size + 1 + 1 + 1 + 1, 1, none⟩ (.slice Av j cv)) (W.heap.size + 1 + 1 + 1 + 1) 24 #[.int .i64 (dep), .slice Av j cv] from hr9)
                        have HO9 := hide (own_other2 (w' := (wr.setCell ⟨W.heap.size + 1 + 1 + 1 + 1, 0, none⟩ (.int .i64 (dep))).setCell ⟨W.heap.size + 1 + 1 + 1 + 1, 1, none⟩ (.slice Av j cv)) OB.out (fun g hg _ => by have := HZ8.out; rw [heap_setCell_ne _ _ _ _ (by simp; omega), heap_setCell_ne _ _ _ _ (by simp; omega)]))
                        have HB9 := hide (((HBZ.out.trans (HBL.out.mono HBZ.out.size)).setCell (p := ⟨W.heap.size + 1 + 1 + 1 + 1, 0, none⟩) (by simp; omega) (.int .i64 (dep))).setCell (p := ⟨W.heap.size + 1 + 1 + 1 + 1, 1, none⟩) (by simp; omega) (.slice Av j cv))
                        have hWw : W.heap.size ≤ w13.heap.size := Nat.le_trans HBZ.out.size HBA.out.size
                        clear hr9
                        go_wp2_with fail
                        have hr9 := HR9.out
                        have hb9 := HB9.out
                        have ho9 := HO9.out
                        generalize (wr.setCell ⟨W.heap.size + 1 + 1 + 1 + 1, 0, none⟩ (.int .i64 (dep))).setCell ⟨W.heap.size + 1 + 1 + 1 + 1, 1, none⟩ (.slice Av j cv) = w9 at *
                        have x0 := row20 hr9
                        have x1 := row21 hr9
                        have xl := hr9.lt
                        refine bodyPost_ret (v := .tuple #[.agg #[.int .i64 (dep), .slice Av j cv], .int .i64 0]) (by simp [results, Try.results32, go_sem, x0, x1, xl]) rfl ⟨Av, cv, ?_, ?_, hb9⟩
                        · dsimp only; rw [refOut_length, HN.out]
                        · dsimp only; rw [refOut_length, HN.out]; exact ownsRow_base ho9 hWw
            · have HB4 := HB.out
              obtain rfl : Except.error 5 = o := by
                rw [← HO.out]
                unfold refSplit
                rw [if_neg (by rw [HB1.out]; simp), if_neg (by rw [HARG.out]; simp), if_pos (by rw [HTH.out]; rfl)]
              have z0 := row20 R8.out
              have z1 := row21 R8.out
              have zl := R8.out.lt
              have zf0 := R8.out.frozen 0
              have zf1 := R8.out.frozen 1
              have hr9 := (R8.out.set 0 (.int .i64 0)).set 1 (.slice none 0 0)
              have HR9 := hide (show RowAt ((w10.setCell ⟨W.heap.size + 1 + 1 + 1 + 1, 0, none⟩ (.int .i64 0)).setCell ⟨W.heap.size + 1 + 1 + 1 + 1, 1, none⟩ (.slice none 0 0)) (W.heap.size + 1 + 1 + 1 + 1) 24 #[.int .i64 0, .slice none 0 0] from hr9)
              have HB9 := hide ((HB.out.setCell (p := ⟨W.heap.size + 1 + 1 + 1 + 1, 0, none⟩) (by simp; omega) (.int .i64 0)).setCell (p := ⟨W.heap.size + 1 + 1 + 1 + 1, 1, none⟩) (by simp; omega) (.slice none 0 0))
              clear hr9
              go_wp2_with fail
              have hr9 := HR9.out
              have hb9 := HB9.out
              generalize (w10.setCell ⟨W.heap.size + 1 + 1 + 1 + 1, 0, none⟩ (.int .i64 0)).setCell ⟨W.heap.size + 1 + 1 + 1 + 1, 1, none⟩ (.slice none 0 0) = w9 at *
              have x0 := row20 hr9
              have x1 := row21 hr9
              have xl := hr9.lt
              exact bodyPost_ret (v := .tuple #[.agg #[.int .i64 0, .slice none 0 0], .int .i64 5]) (by simp [results, Try.results32, go_sem, x0, x1, xl]) rfl ⟨rfl, hb9⟩
          · have HB4 := HB.out
            obtain rfl : Except.error 5 = o := by
              rw [← HO.out]
              unfold refSplit
              rw [if_neg (by rw [HB1.out]; simp), if_neg (by rw [HARG.out]; simp), if_pos (by rw [HTH.out]; rfl)]
            have z0 := row20 R8.out
            have z1 := row21 R8.out
            have zl := R8.out.lt
            have zf0 := R8.out.frozen 0
            have zf1 := R8.out.frozen 1
            have hr9 := (R8.out.set 0 (.int .i64 0)).set 1 (.slice none 0 0)
            have HR9 := hide (show RowAt ((w9.setCell ⟨W.heap.size + 1 + 1 + 1 + 1, 0, none⟩ (.int .i64 0)).setCell ⟨W.heap.size + 1 + 1 + 1 + 1, 1, none⟩ (.slice none 0 0)) (W.heap.size + 1 + 1 + 1 + 1) 24 #[.int .i64 0, .slice none 0 0] from hr9)
            have HB9 := hide ((HB.out.setCell (p := ⟨W.heap.size + 1 + 1 + 1 + 1, 0, none⟩) (by simp; omega) (.int .i64 0)).setCell (p := ⟨W.heap.size + 1 + 1 + 1 + 1, 1, none⟩) (by simp; omega) (.slice none 0 0))
            clear hr9
            go_wp2_with fail
            have hr9 := HR9.out
            have hb9 := HB9.out
            generalize (w9.setCell ⟨W.heap.size + 1 + 1 + 1 + 1, 0, none⟩ (.int .i64 0)).setCell ⟨W.heap.size + 1 + 1 + 1 + 1, 1, none⟩ (.slice none 0 0) = w9 at *
            have x0 := row20 hr9
            have x1 := row21 hr9
            have xl := hr9.lt
            exact bodyPost_ret (v := .tuple #[.agg #[.int .i64 0, .slice none 0 0], .int .i64 5]) (by simp [results, Try.results32, go_sem, x0, x1, xl]) rfl ⟨rfl, hb9⟩
        · have HK3 := hide hc3
          obtain rfl : Except.error 2 = o := by
            rw [← HO.out]
            unfold refSplit
            rw [if_neg (by rw [HB1.out]; simp), if_pos (by rw [HARG.out]; rfl)]
          have z0 := row20 R8.out
          have z1 := row21 R8.out
          have zl := R8.out.lt
          have zf0 := R8.out.frozen 0
          have zf1 := R8.out.frozen 1
          have hr9 := (R8.out.set 0 (.int .i64 0)).set 1 (.slice none 0 0)
          have HR9 := hide (show RowAt ((w8.setCell ⟨W.heap.size + 1 + 1 + 1 + 1, 0, none⟩ (.int .i64 0)).setCell ⟨W.heap.size + 1 + 1 + 1 + 1, 1, none⟩ (.slice none 0 0)) (W.heap.size + 1 + 1 + 1 + 1) 24 #[.int .i64 0, .slice none 0 0] from hr9)
          have HB9 := hide ((HB.out.setCell (p := ⟨W.heap.size + 1 + 1 + 1 + 1, 0, none⟩) (by simp; omega) (.int .i64 0)).setCell (p := ⟨W.heap.size + 1 + 1 + 1 + 1, 1, none⟩) (by simp; omega) (.slice none 0 0))
          clear hr9
          go_wp2_with fail
          have hr9 := HR9.out
          have hb9 := HB9.out
          generalize (w8.setCell ⟨W.heap.size + 1 + 1 + 1 + 1, 0, none⟩ (.int .i64 0)).setCell ⟨W.heap.size + 1 + 1 + 1 + 1, 1, none⟩ (.slice none 0 0) = w9 at *
          have x0 := row20 hr9
          have x1 := row21 hr9
          have xl := hr9.lt
          exact bodyPost_ret (v := .tuple #[.agg #[.int .i64 0, .slice none 0 0], .int .i64 2]) (by simp [results, Try.results32, go_sem, x0, x1, xl]) rfl ⟨rfl, hb9⟩
end Go.Proofs.Ytjlbnegdiabglaa
