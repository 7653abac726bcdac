/-
  The reference: has somebody got it; rows of entries; tagged slabs; good touches; who holds; what is safe.
-/
import Derived.Test.YtfpbabafeecncaaMov
import Derived.Test.YtfpbabafeecncaaMor
import Derived.Deep.CutRange
set_option linter.unusedSimpArgs false
set_option linter.unusedVariables false
namespace Go.Proofs.Ytfpbabafeecncaa
open Go Go.RowKit
attribute [local go_sem] via_cell via_frozen

set_option maxRecDepth 20000 in
set_option maxHeartbeats 1000000 in
theorem rhas_any (B : Nat) (A : Option Addr) (c n : Nat) (s z : Int) (xs : List Ent) (W : World) (h : Rd W B 2 A n (Cs encE xs)) (hx : xs.length = n) (hB : B ≤ W.heap.size) (hn : n ≤ 4096) (r : Bool) (hr : hasE xs (s, z) = r) :
    Calls Try.prog 58 #[.slice A n c, .agg #[.int .i64 s, .int .u64 z]] W fun e W' => e = .returned (.bool r) ∧ Below W.heap.size W W' := by
  have HB := hide (show Below W.heap.size W (W.alloc (.cells #[.int .i64 s, .int .u64 z] 43)) from (Below.refl _ _).alloc (Nat.le_refl _) _)
  have RE := hide (RowAt.new W 43 #[.int .i64 s, .int .u64 z])
  have H := hide (h.below (HB.out.mono hB))
  have HX := hide hx
  have HR := hide hr
  clear h hx hr
  go_enter Try.func58, Try.ntmps58
  go_wp2_with fail
  have HSZ := hide HB.out.size
  generalize W.alloc (.cells #[.int .i64 s, .int .u64 z] 43) = w1 at *
  go_loopw [9] (fun i wr => ∃ k : Nat, k ≤ n ∧ i = .int .i64 k ∧ hasE (xs.take k) (s, z) = false ∧ Below w1.heap.size w1 wr) (fun i _ => n - (intOf i).toNat)
  case atStart => exact ⟨0, Nat.zero_le _, rfl, rfl, Below.refl _ _⟩
  case round =>
    obtain ⟨k, hk, rfl, hno, hbr⟩ := hrel
    have HNO := hide hno
    have HBR := hide hbr
    clear hno hbr
    by_cases hlt : k < n
    · obtain ⟨b, o, rfl, hb, d0, d1⟩ := (H.out.below (HBR.out.mono (Nat.le_trans hB HSZ.out))).entAt HX.out hlt
      have hbl : b < wr.heap.size := Nat.lt_of_lt_of_le hb (Nat.le_trans hB (Nat.le_trans HSZ.out HBR.out.size))
      have hkm : (k : Int) < (n : Int) := by omega
      have hlx : k < xs.length := by rw [HX.out]; exact hlt
      have HTK := hide (show xs.take (k + 1) = xs.take k ++ [xs.getD k (0, 0)] from by rw [List.take_succ_eq_append_getElem hlx, List.getD_eq_getElem?_getD, List.getElem?_eq_getElem hlx]; rfl)
      have HME := hide (show xs.getD k (0, 0) ∈ xs from by rw [List.getD_eq_getElem?_getD, List.getElem?_eq_getElem hlx]; exact List.getElem_mem hlx)
      have RE2 := hide (RE.out.below HBR.out)
      generalize xs.getD k (0, 0) = t at *
      obtain ⟨t1, t2⟩ := t
      dsimp only at *
      clear hb hlx
      go_upto_region 4 with (refine wpList_store_new rfl 43 _ _ rfl _ #[.int .i64 t1, .int .u64 t2] wr.heap.size rfl rfl rfl (by kernel_rfl) rfl (by simp [Value.oneCell']) ?_)
      have HBN := hide (show Below wr.heap.size wr (wr.alloc (.cells #[.int .i64 t1, .int .u64 t2] 43)) from (Below.refl _ _).alloc (Nat.le_refl _) _)
      have RN := hide (RowAt.new wr 43 #[.int .i64 t1, .int .u64 t2])
      replace RE2 := hide (RE2.out.below HBN.out)
      have HB5 := hide (HBR.out.trans (HBN.out.mono HBR.out.size))
      generalize wr.alloc (.cells #[.int .i64 t1, .int .u64 t2] 43) = w5 at *
      have y0 := row20 RN.out
      have y1 := row21 RN.out
      have yl := RN.out.lt
      have z0 := row20 RE2.out
      have z1 := row21 RE2.out
      have zl := RE2.out.lt
      clear d0 d1 hbl
      by_cases he : t1 = s ∧ t2 = z
      · obtain ⟨rfl, rfl⟩ := he
        have HF := hide (show true = r from by rw [← HR.out]; exact (hasE_iff.2 HME.out).symm)
        go_wp2_with fail
        go_ret
        rw [← HF.out]
        exact ⟨rfl, HB.out.trans (HB5.out.mono HSZ.out)⟩
      · have HN := hide (show hasE (xs.take (k + 1)) (s, z) = false from by rw [HTK.out]; unfold hasE at *; rw [List.any_append, HNO.out]; simp; intro h1 h2; exact he ⟨h1, h2⟩)
        have he1 : (t1 == s && t2 == z) = false := by simp; intro h1 h2; exact he ⟨h1, h2⟩
        have he2 : (t1 == s) = true → (t2 == z) = false := by intro h1; simp at h1 ⊢; exact fun h2 => he ⟨h1, h2⟩
        by_cases h1 : t1 = s
        · have h2 : ¬ t2 = z := fun h2 => he ⟨h1, h2⟩
          have hd2 : (t2 == z) = false := by simpa using h2
          subst h1
          clear he he1 he2 h2
          go_wp2_with fail
          go_roundw
          case rel => exact ⟨k + 1, by omega, by go_num, HN.out, HB5.out⟩
          case measure => simp [intOf]; omega
        · have hd1 : (t1 == s) = false := by simpa using h1
          clear he he1 he2 h1
          go_wp2_with fail
          go_roundw
          case rel => exact ⟨k + 1, by omega, by go_num, HN.out, HB5.out⟩
          case measure => simp [intOf]; omega
    · obtain rfl : k = n := by omega
      have HF := hide (show false = r from by rw [← HR.out, ← HNO.out, List.take_of_length_le (by rw [HX.out]; exact Nat.le_refl _)])
      go_wp2_with fail
      go_ret
      rw [← HF.out]
      exact ⟨rfl, HB.out.trans (HBR.out.mono HSZ.out)⟩

theorem Rd.upX {w w' : World} {sz n : Nat} {A : Option Addr} {cs : List Value} (h : Rd w w.heap.size sz A n cs) (hb : Below w.heap.size w w') : Rd w' w'.heap.size sz A n cs := (h.below hb).more hb.size
set_option maxRecDepth 20000 in
set_option maxHeartbeats 1000000 in
theorem rlist_any (A1 A2 : Option Addr) (c1 c2 n1 n2 : Nat) (xs ys : List Ent) (W : World) (h1 : Rd W W.heap.size 2 A1 n1 (Cs encE xs)) (h2 : Rd W W.heap.size 2 A2 n2 (Cs encE ys)) (hx : xs.length = n1) (hy : ys.length = n2) (hn1 : n1 ≤ 4096) (hn2 : n2 ≤ 4096) (r : Bool) (hr : decide (xs = ys) = r) :
    Calls Try.prog 33 #[.slice A1 n1 c1, .slice A2 n2 c2] W fun e W' => e = .returned (.bool r) ∧ Below W.heap.size W W' := by
  have H1 := hide h1
  have H2 := hide h2
  have HX := hide hx
  have HY := hide hy
  have HR := hide hr
  clear h1 h2 hx hy hr
  go_enter Try.func33, Try.ntmps33
  by_cases hne : n1 = n2
  case neg =>
    have hd : ((n1 : Int) == (n2 : Int)) = false := by rw [beq_eq_false_iff_ne]; omega
    have hf := hide (show false = r from by rw [← HR.out]; symm; exact decide_eq_false (fun e => hne (by rw [← HX.out, ← HY.out, e])))
    clear hne
    go_wp2_with fail
    go_ret
    rw [← hf.out]
    exact ⟨rfl, Below.refl _ _⟩
  case pos =>
    subst hne
    go_wp2_with fail
    go_loopw [14] (fun i wr => ∃ k : Nat, k ≤ n1 ∧ i = .int .i64 k ∧ xs.take k = ys.take k ∧ Below W.heap.size W wr) (fun i _ => n1 - (intOf i).toNat)
    case atStart => exact ⟨0, Nat.zero_le _, rfl, rfl, Below.refl _ _⟩
    case round =>
      obtain ⟨k, hk, rfl, heq, hbr⟩ := hrel
      have HEQ := hide heq
      have HBR := hide hbr
      clear heq hbr
      by_cases hlt : k < n1
      · have hkm : (k : Int) < (n1 : Int) := by omega
        obtain ⟨b1, o1, rfl, hb1, d0, d1⟩ := (H1.out.upX HBR.out).entAt HX.out hlt
        obtain ⟨b2, o2, rfl, hb2, e0, e1⟩ := (H2.out.upX HBR.out).entAt HY.out hlt
        have HT1 := hide (show xs.take (k + 1) = xs.take k ++ [xs.getD k (0, 0)] from by rw [List.take_succ_eq_append_getElem (by rw [HX.out]; exact hlt), List.getD_eq_getElem?_getD, List.getElem?_eq_getElem (by rw [HX.out]; exact hlt)]; rfl)
        have HT2 := hide (show ys.take (k + 1) = ys.take k ++ [ys.getD k (0, 0)] from by rw [List.take_succ_eq_append_getElem (by rw [HY.out]; exact hlt), List.getD_eq_getElem?_getD, List.getElem?_eq_getElem (by rw [HY.out]; exact hlt)]; rfl)
        have HG := hide (show xs.getD k (0, 0) ≠ ys.getD k (0, 0) → xs ≠ ys from fun h e => h (by rw [e]))
        generalize xs.getD k (0, 0) = s at *
        generalize ys.getD k (0, 0) = t at *
        obtain ⟨s1, s2⟩ := s
        obtain ⟨t1, t2⟩ := t
        dsimp only at *
        go_upto_region 6 with (refine wpList_store_new rfl 43 _ _ rfl _ #[.int .i64 s1, .int .u64 s2] wr.heap.size rfl rfl rfl (by kernel_rfl) rfl (by simp [Value.oneCell']) ?_)
        have hbn : Below wr.heap.size wr (wr.alloc (.cells #[.int .i64 s1, .int .u64 s2] 43)) := (Below.refl _ _).alloc (Nat.le_refl _) _
        have RN := hide (RowAt.new wr 43 #[.int .i64 s1, .int .u64 s2])
        have x0 := kept hbn e0
        have x1 := kept hbn e1
        have xl : b2 < (wr.alloc (.cells #[.int .i64 s1, .int .u64 s2] 43)).heap.size := Nat.lt_of_lt_of_le hb2 hbn.size
        have HB5 := hide (HBR.out.trans (hbn.mono HBR.out.size))
        clear d0 d1 e0 e1 hb1 hb2 hbn
        generalize wr.alloc (.cells #[.int .i64 s1, .int .u64 s2] 43) = w5 at *
        have y0 := row20 RN.out
        have y1 := row21 RN.out
        have yl := RN.out.lt
        by_cases he : s1 = t1 ∧ s2 = t2
        · obtain ⟨rfl, rfl⟩ := he
          have HN := hide (show xs.take (k + 1) = ys.take (k + 1) from by rw [HT1.out, HT2.out, HEQ.out])
          go_quiet (fail)
          have HB6 := hide (HB5.out.trans ((below_drewN (Below.refl w5.heap.size w5) nq).mono HB5.out.size))
          clear x0 x1 xl y0 y1 yl
          generalize w5.drewN nq = w6 at *
          go_wp2_with fail
          go_roundw
          case rel => exact ⟨k + 1, by omega, by go_num, HN.out, HB6.out⟩
          case measure => simp [intOf]; omega
        · have HF := hide (show false = r from by rw [← HR.out]; symm; exact decide_eq_false (HG.out (fun e => he (by injection e with h1 h2; exact ⟨h1, h2⟩))))
          have he1 : (s1 == t1 && s2 == t2) = false := by simp; intro h1 h2; exact he ⟨h1, h2⟩
          by_cases h1 : s1 = t1
          · have h2 : ¬ s2 = t2 := fun h2 => he ⟨h1, h2⟩
            have hd2 : (s2 == t2) = false := by simpa using h2
            subst h1
            clear he he1 h2
            go_quiet (fail)
            have HB6 := hide (HB5.out.trans ((below_drewN (Below.refl w5.heap.size w5) nq).mono HB5.out.size))
            clear x0 x1 xl y0 y1 yl
            generalize w5.drewN nq = w6 at *
            go_wp2_with fail
            go_ret
            rw [← HF.out]
            exact ⟨rfl, HB6.out⟩
          · have hd1 : (s1 == t1) = false := by simpa using h1
            clear he he1 h1
            go_quiet (fail)
            have HB6 := hide (HB5.out.trans ((below_drewN (Below.refl w5.heap.size w5) nq).mono HB5.out.size))
            clear x0 x1 xl y0 y1 yl
            generalize w5.drewN nq = w6 at *
            go_wp2_with fail
            go_ret
            rw [← HF.out]
            exact ⟨rfl, HB6.out⟩
      · obtain rfl : k = n1 := by omega
        have HF := hide (show true = r from by rw [← HR.out]; symm; exact decide_eq_true (by have := HEQ.out; rwa [List.take_of_length_le (by rw [HX.out]; exact Nat.le_refl _), List.take_of_length_le (by rw [HY.out]; exact Nat.le_refl _)] at this))
        go_wp2_with fail
        go_ret
        rw [← HF.out]
        exact ⟨rfl, HBR.out⟩
set_option maxRecDepth 20000 in
set_option maxHeartbeats 1000000 in
theorem rtagged_any (a0 a1 a2 a3 : Option Addr) (n0 n1 n2 n3 c0 c1 c2 c3 : Nat) (ts : List Hm) (m : Mon) (s z t : Int) (W : World) (h : MonX W W.heap.size a0 a1 a2 a3 n0 n1 n2 n3 ts m) (hs : SmallX n0 n1 n2 n3 ts) (r : Bool) (hr : (meantB m.sl (s, z) && decide (tagOf m.sl (s, z) = t)) = r) :
    Calls Try.prog 57 #[.agg #[.slice a0 n0 c0, .slice a1 n1 c1, .slice a2 n2 c2, .slice a3 n3 c3], .agg #[.int .i64 s, .int .u64 z], .int .i64 t] W fun e W' => e = .returned (.bool r) ∧ Below W.heap.size W W' := by
  obtain ⟨w1, hw1⟩ : ∃ w1, W.alloc (.cells #[.slice a0 n0 c0, .slice a1 n1 c1, .slice a2 n2 c2, .slice a3 n3 c3] 32) = w1 := ⟨_, rfl⟩
  obtain ⟨w2, hw2⟩ : ∃ w2, w1.alloc (.cells #[.int .i64 s, .int .u64 z] 43) = w2 := ⟨_, rfl⟩
  have s1 : w1.heap.size = W.heap.size + 1 := by rw [← hw1]; simp
  have b1 : Below W.heap.size W w1 := by rw [← hw1]; exact (Below.refl _ _).alloc (Nat.le_refl _) _
  have b2 : Below w1.heap.size w1 w2 := by rw [← hw2]; exact (Below.refl _ _).alloc (Nat.le_refl _) _
  have R1 := hide (show RowAt w2 W.heap.size 32 #[.slice a0 n0 c0, .slice a1 n1 c1, .slice a2 n2 c2, .slice a3 n3 c3] by have h := RowAt.new W 32 #[.slice a0 n0 c0, .slice a1 n1 c1, .slice a2 n2 c2, .slice a3 n3 c3]; rw [hw1] at h; exact h.below b2)
  have R2 := hide (show RowAt w2 (W.heap.size + 1) 43 #[.int .i64 s, .int .u64 z] by have h := RowAt.new w1 43 #[.int .i64 s, .int .u64 z]; rw [hw2, s1] at h; exact h)
  have HB := hide (b1.trans (b2.mono b1.size))
  have HSL := hide (h.sl.upX HB.out)
  have HL0 := hide h.l0
  have HS0 := hide hs.s0
  have HR := hide hr
  clear b1 b2 s1 h hs hr
  subst hw2 hw1
  go_enter Try.func57, Try.ntmps57
  go_wp2_with fail
  generalize (W.alloc (.cells #[.slice a0 n0 c0, .slice a1 n1 c1, .slice a2 n2 c2, .slice a3 n3 c3] 32)).alloc (.cells #[.int .i64 s, .int .u64 z] 43) = w2 at *
  have q0 := (row4 R1.out).1
  have ql := R1.out.lt
  have y0 := row20 R2.out
  have y1 := row21 R2.out
  have yl := R2.out.lt
  go_wp2_with fail
  obtain ⟨mb, hmb⟩ : ∃ b, meantB m.sl (s, z) = b := ⟨_, rfl⟩
  have HMB := hide hmb
  have HC := hide (rmeant_any w2.heap.size a0 c0 n0 s z m.sl w2 HSL.out HL0.out (Nat.le_refl _) (by have := HS0.out; omega) mb hmb)
  clear hmb
  with_reducible refine HC.out.mono ?_
  rintro e w3 ⟨rfl, hb⟩
  have HB3 := hide (HB.out.trans (hb.mono HB.out.size))
  have R13 := hide (R1.out.below hb)
  have R23 := hide (R2.out.below hb)
  have HSL3 := hide (HSL.out.upX hb)
  clear hb HC q0 ql y0 y1 yl
  have q0 := (row4 R13.out).1
  have ql := R13.out.lt
  have y0 := row20 R23.out
  have y1 := row21 R23.out
  have yl := R23.out.lt
  cases mb
  · have HF := hide (show false = r from by rw [← HR.out, HMB.out]; rfl)
    go_wp2_with fail
    go_ret
    rw [← HF.out]
    exact ⟨rfl, HB3.out⟩
  · obtain ⟨k, hk, hkl, hge⟩ := meantB_out HMB.out
    dsimp only at hk
    subst hk
    rw [HL0.out] at hkl
    obtain ⟨b, o, rfl, hb, d0, d1⟩ := HSL3.out.entAt HL0.out hkl
    have hkm : (k : Int) < (n0 : Int) := by omega
    have hn4 : (n0 : Int) ≤ 4096 := by have := HS0.out; omega
    have bl : b < w3.heap.size := hb
    have HF := hide (show decide ((m.sl.getD k (0, 0)).1 = t) = r from by rw [← HR.out, HMB.out]; unfold tagOf; simp)
    clear hb hge d1
    generalize (m.sl.getD k (0, 0)).1 = tg at *
    by_cases he : tg = t
    · subst he
      have HF2 := hide (show true = r from by rw [← HF.out]; simp)
      go_wp2_with fail
      go_ret
      rw [← HF2.out]
      exact ⟨rfl, HB3.out⟩
    · have hd : (tg == t) = false := by simpa using he
      have HF2 := hide (show false = r from by rw [← HF.out]; symm; exact decide_eq_false he)
      clear he
      go_wp2_with fail
      go_ret
      rw [← HF2.out]
      exact ⟨rfl, HB3.out⟩

set_option maxRecDepth 20000 in
set_option maxHeartbeats 1000000 in
theorem rrow_any (A : Option Addr) (c n : Nat) (p : Bool) (xs : List Ent) (W : World) (h : Rd W W.heap.size 2 A n (Cs encE xs)) (hx : xs.length = n) (hn : n ≤ 4096) (hc : n ≤ c ∧ c ≤ 9223372036854775807) (r : Bool) (hr : rowB p xs = r) :
    Calls Try.prog 51 #[.slice A n c, .bool p] W fun e W' => e = .returned (.bool r) ∧ Below W.heap.size W W' := by
  have H := hide h
  have HX := hide hx
  have HR := hide (hr ▸ (rowB_ref p xs).symm)
  clear h hx hr
  go_enter Try.func51, Try.ntmps51
  go_wp2_with fail
  go_loopw [9] (fun i wr => ∃ k : Nat, k ≤ n ∧ i = .int .i64 k ∧ chkR [] (xs.take k) = true ∧ Below W.heap.size W wr) (fun i _ => n - (intOf i).toNat)
  case atStart => exact ⟨0, Nat.zero_le _, rfl, rfl, Below.refl _ _⟩
  case round =>
    obtain ⟨k, hk, rfl, hck, hbr⟩ := hrel
    have HCK := hide hck
    have HBR := hide hbr
    clear hck hbr
    by_cases hlt : k < n
    · have hkm : (k : Int) < (n : Int) := by omega
      have hkc : (k : Int) ≤ (c : Int) := by omega
      obtain ⟨b, o, rfl, hb, d0, d1⟩ := (H.out.upX HBR.out).entAt HX.out hlt
      have HTK := hide (show xs.take (k + 1) = xs.take k ++ [xs.getD k (0, 0)] from by rw [List.take_succ_eq_append_getElem (by rw [HX.out]; exact hlt), List.getD_eq_getElem?_getD, List.getElem?_eq_getElem (by rw [HX.out]; exact hlt)]; rfl)
      generalize xs.getD k (0, 0) = t at *
      obtain ⟨t1, t2⟩ := t
      dsimp only at *
      go_upto_region 4 with (refine wpList_store_new rfl 43 _ _ rfl _ #[.int .i64 t1, .int .u64 t2] wr.heap.size rfl rfl rfl (by kernel_rfl) rfl (by simp [Value.oneCell']) ?_)
      have hbn : Below wr.heap.size wr (wr.alloc (.cells #[.int .i64 t1, .int .u64 t2] 43)) := (Below.refl _ _).alloc (Nat.le_refl _) _
      have RN := hide (RowAt.new wr 43 #[.int .i64 t1, .int .u64 t2])
      have HB5 := hide (HBR.out.trans (hbn.mono HBR.out.size))
      clear d0 d1 hb hbn
      generalize wr.alloc (.cells #[.int .i64 t1, .int .u64 t2] 43) = w5 at *
      have y0 := row20 RN.out
      have y1 := row21 RN.out
      have yl := RN.out.lt
      obtain ⟨eb, heb⟩ : ∃ b, entB (t1, t2) = b := ⟨_, rfl⟩
      obtain ⟨hb, hhb⟩ : ∃ b, hasE (xs.take k) (t1, t2) = b := ⟨_, rfl⟩
      have HE := hide (fun z => rentry_any t1 t2 (via w5 z) eb heb)
      have HC := hide (fun z => rhas_any (via w5 z).heap.size (some ⟨b, o, none⟩) c k t1 t2 (xs.take k) (via w5 z) (Rd.firstE ((H.out.upX HB5.out).upX (via_below w5 z)) HX.out hk) (by rw [List.length_take, HX.out]; omega) (Nat.le_refl _) (by omega) hb hhb)
      have HSN := hide (show chkR [] (xs.take (k + 1)) = (eb && !hb) from by rw [HTK.out, chkR_snoc, HCK.out, heb, hhb]; rfl)
      have HPR := hide (show chkR [] (xs.take (k + 1)) = false → chkR [] xs = false from fun h => by have := chkR_pre (r := xs.drop (k + 1)) h; rwa [List.take_append_drop] at this)
      clear heb hhb
      simp only [Act.put]
      refine wp_region_via (by kernel_rfl) (by kernel_rfl) ?_
      cases eb
      · repeat (go_big_quiet_step (first | (go_at_call 52; with_reducible exact via_of (HE.out _)) | (go_at_call 58; with_reducible exact via_of (HC.out _))))
        refine via_out fun w6 hb6 => ?_
        have HB6 := hide (HB5.out.trans (hb6.mono HB5.out.size))
        have HF := hide (show false = r from by rw [← HR.out, HPR.out (by rw [HSN.out]; rfl)]; rfl)
        clear hb6 HE HC y0 y1 yl
        go_wp2_with fail
        go_ret
        rw [← HF.out]
        exact ⟨rfl, HB6.out⟩
      · cases hb
        · repeat (go_big_quiet_step (first | (go_at_call 52; with_reducible exact via_of (HE.out _)) | (go_at_call 58; with_reducible exact via_of (HC.out _))))
          refine via_out fun w6 hb6 => ?_
          have HB6 := hide (HB5.out.trans (hb6.mono HB5.out.size))
          clear hb6 HE HC y0 y1 yl
          go_wp2_with fail
          go_roundw
          case rel => exact ⟨k + 1, by omega, by go_num, HSN.out, HB6.out⟩
          case measure => simp [intOf]; omega
        · repeat (go_big_quiet_step (first | (go_at_call 52; with_reducible exact via_of (HE.out _)) | (go_at_call 58; with_reducible exact via_of (HC.out _))))
          refine via_out fun w6 hb6 => ?_
          have HB6 := hide (HB5.out.trans (hb6.mono HB5.out.size))
          have HF := hide (show false = r from by rw [← HR.out, HPR.out (by rw [HSN.out]; rfl)]; rfl)
          clear hb6 HE HC y0 y1 yl
          go_wp2_with fail
          go_ret
          rw [← HF.out]
          exact ⟨rfl, HB6.out⟩
    · obtain rfl : k = n := by omega
      have HF := hide (show (p || decide (k = 0)) = r from by
        have := HCK.out
        rw [List.take_of_length_le (by rw [HX.out]; exact Nat.le_refl _)] at this
        rw [← HR.out, this, HX.out]; rfl)
      cases p
      · by_cases h0 : k = 0
        · subst h0
          have HF2 := hide (show true = r from by rw [← HF.out]; rfl)
          go_wp2_with fail
          go_ret
          rw [← HF2.out]
          exact ⟨rfl, HBR.out⟩
        · have hd : ((k : Int) == 0) = false := by rw [beq_eq_false_iff_ne]; omega
          have HF2 := hide (show false = r from by rw [← HF.out]; simp [h0])
          clear h0
          go_wp2_with fail
          go_ret
          rw [← HF2.out]
          exact ⟨rfl, HBR.out⟩
      · have HF2 := hide (show true = r from by rw [← HF.out]; rfl)
        go_wp2_with fail
        go_ret
        rw [← HF2.out]
        exact ⟨rfl, HBR.out⟩
/-- The reference's good touches. -/
def rgoodB (m : Mon) (k : Int) (g : Nat) (e : Ent) : Bool := pinM m g && (hasE (rowM m g) e && ((meantB m.sl e && decide (tagOf m.sl e = 1)) || (decide (k = 4) && (meantB m.sl e && decide (tagOf m.sl e = 2)))))
set_option maxRecDepth 20000 in
set_option maxHeartbeats 2000000 in
theorem rgood_any (a0 a1 a2 a3 : Option Addr) (n0 n1 n2 n3 c0 c1 c2 c3 : Nat) (ts : List Hm) (m : Mon) (k s z : Int) (g : Nat) (W : World) (h : MonX W W.heap.size a0 a1 a2 a3 n0 n1 n2 n3 ts m) (hs : SmallX n0 n1 n2 n3 ts) (hg : g < n1) (hg2 : g < n2) (r : Bool) (hr : rgoodB m k g (s, z) = r) :
    Calls Try.prog 24 #[.agg #[.slice a0 n0 c0, .slice a1 n1 c1, .slice a2 n2 c2, .slice a3 n3 c3], .agg #[.int .i64 k, .int .i64 (g : Int), .int .i64 s, .int .u64 z]] W fun e W' => e = .returned (.bool r) ∧ Below W.heap.size W W' := by
  obtain ⟨w1, hw1⟩ : ∃ w1, W.alloc (.cells #[.slice a0 n0 c0, .slice a1 n1 c1, .slice a2 n2 c2, .slice a3 n3 c3] 32) = w1 := ⟨_, rfl⟩
  obtain ⟨w2, hw2⟩ : ∃ w2, w1.alloc (.cells #[.int .i64 k, .int .i64 (g : Int), .int .i64 s, .int .u64 z] 45) = w2 := ⟨_, rfl⟩
  have s1 : w1.heap.size = W.heap.size + 1 := by rw [← hw1]; simp
  have b1 : Below W.heap.size W w1 := by rw [← hw1]; exact (Below.refl _ _).alloc (Nat.le_refl _) _
  have b2 : Below w1.heap.size w1 w2 := by rw [← hw2]; exact (Below.refl _ _).alloc (Nat.le_refl _) _
  have R1 := hide (show RowAt w2 W.heap.size 32 #[.slice a0 n0 c0, .slice a1 n1 c1, .slice a2 n2 c2, .slice a3 n3 c3] by have h := RowAt.new W 32 #[.slice a0 n0 c0, .slice a1 n1 c1, .slice a2 n2 c2, .slice a3 n3 c3]; rw [hw1] at h; exact h.below b2)
  have R2 := hide (show RowAt w2 (W.heap.size + 1) 45 #[.int .i64 k, .int .i64 (g : Int), .int .i64 s, .int .u64 z] by have h := RowAt.new w1 45 #[.int .i64 k, .int .i64 (g : Int), .int .i64 s, .int .u64 z]; rw [hw2, s1] at h; exact h)
  have HB := hide (b1.trans (b2.mono b1.size))
  have HM := hide ((h.below HB.out).more HB.out.size)
  have HS := hide hs
  have HR := hide hr
  clear b1 b2 s1 h hs hr
  subst hw2 hw1
  go_enter Try.func24, Try.ntmps24
  go_upto_region 1 with (fail)
  generalize (W.alloc (.cells #[.slice a0 n0 c0, .slice a1 n1 c1, .slice a2 n2 c2, .slice a3 n3 c3] 32)).alloc (.cells #[.int .i64 k, .int .i64 (g : Int), .int .i64 s, .int .u64 z] 45) = w2 at *
  obtain ⟨q0, q1, q2, q3⟩ := row4 R1.out
  have ql := R1.out.lt
  obtain ⟨y0, y1, y2, y3⟩ := row4 R2.out
  have yl := R2.out.lt
  obtain ⟨t1, ht1⟩ : ∃ b, (meantB m.sl (s, z) && decide (tagOf m.sl (s, z) = 1)) = b := ⟨_, rfl⟩
  obtain ⟨t2, ht2⟩ : ∃ b, (meantB m.sl (s, z) && decide (tagOf m.sl (s, z) = 2)) = b := ⟨_, rfl⟩
  have HT1 := hide ht1
  have HT2 := hide ht2
  have hgI : (g : Int) < (n1 : Int) := by omega
  have hgI2 : (g : Int) < (n2 : Int) := by omega
  have hn1 : (n1 : Int) ≤ 4096 := by have := HS.out.s1; omega
  have hn2 : (n2 : Int) ≤ 4096 := by have := HS.out.s2; omega
  clear ht1 ht2
  go_cut [5] from 6 to 20 (fun s5 wx => s5 = .bool (t1 || (decide (k = 4) && t2)) ∧ Below w2.heap.size w2 wx)
  case first =>
    go_wp2_with fail
    with_reducible refine (rtagged_any a0 a1 a2 a3 n0 n1 n2 n3 c0 c1 c2 c3 ts m s z 1 w2 HM.out HS.out t1 HT1.out).mono ?_
    rintro e w3 ⟨rfl, hb⟩
    have HB3 := hide hb
    have R13 := hide (R1.out.below hb)
    have R23 := hide (R2.out.below hb)
    have HM3 := hide ((HM.out.below hb).more hb.size)
    clear hb q0 q1 q2 q3 ql y0 y1 y2 y3 yl
    obtain ⟨q0, q1, q2, q3⟩ := row4 R13.out
    have ql := R13.out.lt
    obtain ⟨y0, y1, y2, y3⟩ := row4 R23.out
    have yl := R23.out.lt
    cases t1
    · by_cases h4 : k = 4
      · subst h4
        go_wp2_with fail
        with_reducible refine (rtagged_any a0 a1 a2 a3 n0 n1 n2 n3 c0 c1 c2 c3 ts m s z 2 w3 HM3.out HS.out t2 HT2.out).mono ?_
        rintro e w4 ⟨rfl, hb⟩
        have HB4 := hide (HB3.out.trans (hb.mono HB3.out.size))
        clear hb
        go_wp2_with fail
        go_meet
        case rel => exact ⟨by simp, HB4.out⟩
      · have hd : (k == 4) = false := by simpa using h4
        have hd2 : decide (k = 4) = false := by simpa using h4
        clear h4
        go_wp2_with fail
        go_meet
        case rel => exact ⟨by rw [hd2]; rfl, HB3.out⟩
    · go_wp2_with fail
      go_meet
      case rel => exact ⟨by simp, HB3.out⟩
  case rest =>
    obtain ⟨rfl, hb⟩ := hcut
    obtain ⟨w5, hw5⟩ : ∃ w, w = wc := ⟨_, rfl⟩
    subst hw5
    have HB5 := hide (HB.out.trans (hb.mono HB.out.size))
    replace R1 := hide (R1.out.below hb)
    replace R2 := hide (R2.out.below hb)
    replace HM := hide ((HM.out.below hb).more hb.size)
    clear hb q0 q1 q2 q3 ql y0 y1 y2 y3 yl HB
    obtain ⟨q0, q1, q2, q3⟩ := row4 R1.out
    have ql := R1.out.lt
    obtain ⟨y0, y1, y2, y3⟩ := row4 R2.out
    have yl := R2.out.lt
    obtain ⟨b1, o1, rfl, hb1, d1⟩ := HM.out.pin.boolAt HM.out.l1 hg
    obtain ⟨b2, o2, rfl, hb2, d2, hr2⟩ := HM.out.has.at_ hg2
    have HRJ := hide (show rowM m g = (ts.getD g hmZ).q from by unfold rowM; rw [HM.out.hs]; exact rowsQ_at ts g)
    have HR2 := hide hr2
    have HLQ := hide (HS.out.rows _ (getH_mem (by rw [HM.out.has.len]; exact hg2)))
    have HFI := hide (show (m.pin.getD g false && (hasE (rowM m g) (s, z) && (t1 || (decide (k = 4) && t2)))) = r from by rw [← HR.out, ← HT1.out, ← HT2.out]; rfl)
    rw [HRJ.out] at HFI
    clear hr2 HRJ HT1 HT2 HR
    generalize (t1 || (decide (k = 4) && t2)) = is at *
    generalize m.pin.getD g false = pg at *
    generalize ts.getD g hmZ = hu at *
    obtain ⟨uA, uc, uq⟩ := hu
    dsimp only at *
    obtain ⟨hh, hhh⟩ : ∃ b, hasE uq (s, z) = b := ⟨_, rfl⟩
    rw [hhh] at HFI
    have HC := hide (fun zz => rhas_any w5.heap.size uA uc uq.length s z uq (via w5 zz) (HR2.out.below (via_below w5 zz)) rfl (via_below w5 zz).size HLQ.out hh hhh)
    have e1 : b1 < w5.heap.size := hb1
    have e2 : b2 < w5.heap.size := hb2
    clear hhh hb1 hb2
    generalize uq.length = ul at *
    go_upto_region 2 with (fail)
    refine wp_region_via (by kernel_rfl) (by kernel_rfl) ?_
    cases pg
    · repeat (go_big_quiet_step (first | (go_at_call 58; with_reducible exact via_of (HC.out _))))
      refine via_out fun w6 hb6 => ?_
      have HB6 := hide (HB5.out.trans (hb6.mono HB5.out.size))
      have HF := hide (show false = r from by rw [← HFI.out]; rfl)
      clear hb6 HC
      go_wp2_with fail
      go_ret
      rw [← HF.out]
      exact ⟨rfl, HB6.out⟩
    · cases hh
      · repeat (go_big_quiet_step (first | (go_at_call 58; with_reducible exact via_of (HC.out _))))
        refine via_out fun w6 hb6 => ?_
        have HB6 := hide (HB5.out.trans (hb6.mono HB5.out.size))
        have HF := hide (show false = r from by rw [← HFI.out]; rfl)
        clear hb6 HC
        go_wp2_with fail
        go_ret
        rw [← HF.out]
        exact ⟨rfl, HB6.out⟩
      · repeat (go_big_quiet_step (first | (go_at_call 58; with_reducible exact via_of (HC.out _))))
        refine via_out fun w6 hb6 => ?_
        have HB6 := hide (HB5.out.trans (hb6.mono HB5.out.size))
        have HF := hide (show is = r from by rw [← HFI.out]; simp)
        clear hb6 HC
        go_wp2_with fail
        go_ret
        rw [← HF.out]
        exact ⟨rfl, HB6.out⟩
theorem hold_snoc (s z : Int) (l : List (List Ent)) (j : Nat) (hj : j < l.length) : holdersGo (s, z) 0 (l.take (j + 1)) = holdersGo (s, z) 0 (l.take j) ++ (if hasE (l.getD j []) (s, z) = true then [(j : Int)] else []) := by
  rw [List.take_succ_eq_append_getElem hj, holdersGo_append, List.length_take, Nat.min_eq_left (Nat.le_of_lt hj), Nat.zero_add]
  have : l.getD j [] = l[j] := by rw [List.getD_eq_getElem?_getD, List.getElem?_eq_getElem hj]; rfl
  rw [this]
  simp only [holdersGo]
theorem hold_len2 (e : Ent) : ∀ (l : List (List Ent)) (i : Nat), (holdersGo e i l).length ≤ l.length
  | [], _ => by simp [holdersGo]
  | x :: l, i => by
    have := hold_len2 e l (i + 1)
    unfold holdersGo
    split <;> simp <;> omega
set_option maxRecDepth 20000 in
set_option maxHeartbeats 2000000 in
theorem rhold_any (a0 a1 a2 a3 : Option Addr) (n0 n1 n2 n3 c0 c1 c2 c3 : Nat) (ts : List Hm) (m : Mon) (s z : Int) (W : World) (h : MonX W W.heap.size a0 a1 a2 a3 n0 n1 n2 n3 ts m) (hs : SmallX n0 n1 n2 n3 ts) (ys : List Int) (hy : holdM m (s, z) = ys) (q : Nat) (hq : ys.length = q) :
    Calls Try.prog 25 #[.agg #[.slice a0 n0 c0, .slice a1 n1 c1, .slice a2 n2 c2, .slice a3 n3 c3], .agg #[.int .i64 s, .int .u64 z]] W fun e W' => (∃ A' c', e = .returned (.slice A' q c') ∧ Rd W' W'.heap.size 1 A' q (Cs encI ys)) ∧ Below W.heap.size W W' := by
  obtain ⟨w1, hw1⟩ : ∃ w1, W.alloc (.cells #[.slice a0 n0 c0, .slice a1 n1 c1, .slice a2 n2 c2, .slice a3 n3 c3] 32) = w1 := ⟨_, rfl⟩
  obtain ⟨w2, hw2⟩ : ∃ w2, w1.alloc (.cells #[.int .i64 s, .int .u64 z] 43) = w2 := ⟨_, rfl⟩
  have s1 : w1.heap.size = W.heap.size + 1 := by rw [← hw1]; simp
  have b1 : Below W.heap.size W w1 := by rw [← hw1]; exact (Below.refl _ _).alloc (Nat.le_refl _) _
  have b2 : Below w1.heap.size w1 w2 := by rw [← hw2]; exact (Below.refl _ _).alloc (Nat.le_refl _) _
  have R1 := hide (show RowAt w2 W.heap.size 32 #[.slice a0 n0 c0, .slice a1 n1 c1, .slice a2 n2 c2, .slice a3 n3 c3] by have h := RowAt.new W 32 #[.slice a0 n0 c0, .slice a1 n1 c1, .slice a2 n2 c2, .slice a3 n3 c3]; rw [hw1] at h; exact h.below b2)
  have R2 := hide (show RowAt w2 (W.heap.size + 1) 43 #[.int .i64 s, .int .u64 z] by have h := RowAt.new w1 43 #[.int .i64 s, .int .u64 z]; rw [hw2, s1] at h; exact h)
  have HB := hide (b1.trans (b2.mono b1.size))
  have HM := hide ((h.below HB.out).more HB.out.size)
  have HS := hide hs
  clear b1 b2 s1 h hs
  subst hw2 hw1
  have HY := hide (show holdersGo (s, z) 0 (rowsQ ts) = ys from by rw [← hy]; unfold holdM; rw [HM.out.hs])
  clear hy
  go_enter Try.func25, Try.ntmps25
  go_upto_region 1 with (fail)
  generalize (W.alloc (.cells #[.slice a0 n0 c0, .slice a1 n1 c1, .slice a2 n2 c2, .slice a3 n3 c3] 32)).alloc (.cells #[.int .i64 s, .int .u64 z] 43) = w2 at *
  obtain ⟨q0, q1, q2, q3⟩ := row4 R1.out
  have ql := R1.out.lt
  have HQ8 := hide HB.out.size
  go_wp2_with fail
  clear q0 q1 q2 q3 ql
  go_loopw [5, 11] (fun v i wr => ∃ j : Nat, j ≤ n2 ∧ i = .int .i64 j ∧ wr.ownsRow w2.heap.size 3 1 v (holdersGo (s, z) 0 ((rowsQ ts).take j)).length (Cs encI (holdersGo (s, z) 0 ((rowsQ ts).take j))) ∧ Below w2.heap.size w2 wr) (fun _ i _ => n2 - (intOf i).toNat)
  case atStart => exact ⟨0, Nat.zero_le _, rfl, World.ownsRow_nil _ _ _ _, Below.refl _ _⟩
  case round =>
    obtain ⟨j, hj, rfl, hown, hbr⟩ := hrel
    have HO := hide hown
    have HBR := hide hbr
    clear hown hbr
    by_cases hlt : j < n2
    · have hjm : (j : Int) < (n2 : Int) := by omega
      obtain ⟨b, o, rfl, hb, d0, hr2⟩ := (HM.out.has.below HBR.out).at_ hlt
      have HSN := hide (hold_snoc s z (rowsQ ts) j (by rw [rowsQ_len, HM.out.has.len]; exact hlt))
      rw [rowsQ_at] at HSN
      have HLQ := hide (HS.out.rows _ (getH_mem (by rw [HM.out.has.len]; exact hlt)))
      have HR2 := hide (hr2.more HBR.out.size)
      have hbl : b < wr.heap.size := Nat.lt_of_lt_of_le hb HBR.out.size
      have R2B := hide (R2.out.below HBR.out)
      have y0 := row20 R2B.out
      have y1 := row21 R2B.out
      have yl := R2B.out.lt
      clear hr2 hb
      generalize ts.getD j hmZ = hu at *
      obtain ⟨uA, uc, uq⟩ := hu
      dsimp only at *
      obtain ⟨hh, hhh⟩ : ∃ b, hasE uq (s, z) = b := ⟨_, rfl⟩
      rw [hhh] at HSN
      obtain ⟨w3, hw3⟩ : ∃ w, w = wr := ⟨_, rfl⟩
      subst hw3
      go_wp2_with fail
      with_reducible refine (rhas_any w3.heap.size uA uc uq.length s z uq w3 HR2.out rfl (Nat.le_refl _) HLQ.out hh hhh).mono ?_
      rintro e w4 ⟨rfl, hb⟩
      have HB4 := hide (HBR.out.trans (hb.mono HBR.out.size))
      have HO4 := hide (own_keepB HO.out hb)
      have hjn : j ≤ 4096 := by have := HS.out.s2; omega
      have HLL := hide (show (holdersGo (s, z) 0 ((rowsQ ts).take j)).length ≤ 4096 from by
        have h1 := hold_len2 (s, z) ((rowsQ ts).take j) 0
        rw [List.length_take] at h1
        omega)
      clear hb hhh d0 y0 y1 yl hbl
      generalize holdersGo (s, z) 0 ((rowsQ ts).take j) = hd at *
      cases hh
      · have HN := hide (show holdersGo (s, z) 0 ((rowsQ ts).take (j + 1)) = hd from by rw [HSN.out]; simp)
        go_wp2_with fail
        go_roundw
        case rel =>
          refine ⟨j + 1, by omega, by go_num, ?_, HB4.out⟩
          rw [HN.out]
          exact HO4.out
        case measure => simp [intOf]; omega
      · have HN := hide (show holdersGo (s, z) 0 ((rowsQ ts).take (j + 1)) = hd ++ [(j : Int)] from by rw [HSN.out]; simp)
        have hbs : w2.heap.size ≤ w4.heap.size := HB4.out.size
        have hrn := Rd.new w4 #[.int .i64 (j : Int)] 3 1 1 rfl
        have HRN := hide hrn
        have hl4 := HLL.out
        clear hrn
        go_wp2_with (at_builtin; refine wpList_app elI rfl _ _ rfl rfl (HO4.out.alloc _) rfl HRN.out (by simp [Value.oneCell']) (by omega) (by simp; omega) ?_; intro v2 w5 hown2 hb3 _ _; have HB5 := hide (((Below.refl w2.heap.size w4).alloc hbs (.cells #[.int .i64 (j : Int)] 3)).trans hb3); have HO5 := hide hown2; clear hown2 hb3)
        go_roundw
        case rel =>
          refine ⟨j + 1, by omega, by go_num, ?_, HB4.out.trans (HB5.out.mono (Nat.le_refl _))⟩
          rw [HN.out, Cs_append, List.length_append]
          exact HO5.out
        case measure => simp [intOf]; omega
    · obtain rfl : j = n2 := by omega
      have h := HO.out
      rw [List.take_of_length_le (by rw [rowsQ_len, HM.out.has.len]; exact Nat.le_refl _), HY.out, hq] at h
      obtain ⟨A3, c3, rfl, hc3, hcm3⟩ := own_form2 h
      have H := hide (Rd.of_own h)
      clear h
      go_wp2_with fail
      go_ret
      exact ⟨⟨A3, c3, rfl, H.out⟩, HB.out.trans (HBR.out.mono HB.out.size)⟩
set_option maxRecDepth 20000 in
set_option maxHeartbeats 2000000 in
theorem rsafe_any (a0 a1 a2 a3 : Option Addr) (n0 n1 n2 n3 c0 c1 c2 c3 : Nat) (ts : List Hm) (m : Mon) (s z : Int) (W : World) (h : MonX W W.heap.size a0 a1 a2 a3 n0 n1 n2 n3 ts m) (hs : SmallX n0 n1 n2 n3 ts) (r : Bool) (hr : (decide (holdM m (s, z) = []) && ((meantB m.sl (s, z) && decide (tagOf m.sl (s, z) = 1)) || (meantB m.sl (s, z) && decide (tagOf m.sl (s, z) = 2)))) = r) :
    Calls Try.prog 26 #[.agg #[.slice a0 n0 c0, .slice a1 n1 c1, .slice a2 n2 c2, .slice a3 n3 c3], .agg #[.int .i64 s, .int .u64 z]] W fun e W' => e = .returned (.bool r) ∧ Below W.heap.size W W' := by
  obtain ⟨w1, hw1⟩ : ∃ w1, W.alloc (.cells #[.slice a0 n0 c0, .slice a1 n1 c1, .slice a2 n2 c2, .slice a3 n3 c3] 32) = w1 := ⟨_, rfl⟩
  obtain ⟨w2, hw2⟩ : ∃ w2, w1.alloc (.cells #[.int .i64 s, .int .u64 z] 43) = w2 := ⟨_, rfl⟩
  have s1 : w1.heap.size = W.heap.size + 1 := by rw [← hw1]; simp
  have b1 : Below W.heap.size W w1 := by rw [← hw1]; exact (Below.refl _ _).alloc (Nat.le_refl _) _
  have b2 : Below w1.heap.size w1 w2 := by rw [← hw2]; exact (Below.refl _ _).alloc (Nat.le_refl _) _
  have R1 := hide (show RowAt w2 W.heap.size 32 #[.slice a0 n0 c0, .slice a1 n1 c1, .slice a2 n2 c2, .slice a3 n3 c3] by have h := RowAt.new W 32 #[.slice a0 n0 c0, .slice a1 n1 c1, .slice a2 n2 c2, .slice a3 n3 c3]; rw [hw1] at h; exact h.below b2)
  have R2 := hide (show RowAt w2 (W.heap.size + 1) 43 #[.int .i64 s, .int .u64 z] by have h := RowAt.new w1 43 #[.int .i64 s, .int .u64 z]; rw [hw2, s1] at h; exact h)
  have HB := hide (b1.trans (b2.mono b1.size))
  have HM := hide ((h.below HB.out).more HB.out.size)
  have HS := hide hs
  clear b1 b2 s1 h hs
  subst hw2 hw1
  have HR := hide hr
  clear hr
  go_enter Try.func26, Try.ntmps26
  go_upto_region 1 with (fail)
  generalize (W.alloc (.cells #[.slice a0 n0 c0, .slice a1 n1 c1, .slice a2 n2 c2, .slice a3 n3 c3] 32)).alloc (.cells #[.int .i64 s, .int .u64 z] 43) = w2 at *
  obtain ⟨q0, q1, q2, q3⟩ := row4 R1.out
  have ql := R1.out.lt
  have y0 := row20 R2.out
  have y1 := row21 R2.out
  have yl := R2.out.lt
  obtain ⟨t1, ht1⟩ : ∃ b, (meantB m.sl (s, z) && decide (tagOf m.sl (s, z) = 1)) = b := ⟨_, rfl⟩
  obtain ⟨t2, ht2⟩ : ∃ b, (meantB m.sl (s, z) && decide (tagOf m.sl (s, z) = 2)) = b := ⟨_, rfl⟩
  have HT1 := hide ht1
  have HT2 := hide ht2
  rw [ht1, ht2] at HR
  clear ht1 ht2
  obtain ⟨ys, hys⟩ : ∃ ys, holdM m (s, z) = ys := ⟨_, rfl⟩
  obtain ⟨qn, hqn⟩ : ∃ q, ys.length = q := ⟨_, rfl⟩
  have HYS := hide hys
  have HQN := hide hqn
  rw [hys] at HR
  clear hys hqn
  go_wp2_with fail
  with_reducible refine (rhold_any a0 a1 a2 a3 n0 n1 n2 n3 c0 c1 c2 c3 ts m s z w2 HM.out HS.out ys HYS.out qn HQN.out).mono ?_
  rintro e w3 ⟨⟨A', c', rfl, _⟩, hb⟩
  have HB3 := hide (HB.out.trans (hb.mono HB.out.size))
  replace R1 := hide (R1.out.below hb)
  replace R2 := hide (R2.out.below hb)
  replace HM := hide ((HM.out.below hb).more hb.size)
  clear hb q0 q1 q2 q3 ql y0 y1 yl HB
  obtain ⟨q0, q1, q2, q3⟩ := row4 R1.out
  have ql := R1.out.lt
  have y0 := row20 R2.out
  have y1 := row21 R2.out
  have yl := R2.out.lt
  by_cases h0 : qn = 0
  · subst h0
    have HN := hide (List.eq_nil_of_length_eq_zero HQN.out)
    have HF := hide (show (t1 || t2) = r from by rw [← HR.out, HN.out]; simp)
    go_wp2_with fail
    with_reducible refine (rtagged_any a0 a1 a2 a3 n0 n1 n2 n3 c0 c1 c2 c3 ts m s z 1 w3 HM.out HS.out t1 HT1.out).mono ?_
    rintro e w4 ⟨rfl, hb⟩
    have HB4 := hide (HB3.out.trans (hb.mono HB3.out.size))
    replace R1 := hide (R1.out.below hb)
    replace R2 := hide (R2.out.below hb)
    replace HM := hide ((HM.out.below hb).more hb.size)
    clear hb q0 q1 q2 q3 ql y0 y1 yl
    obtain ⟨q0, q1, q2, q3⟩ := row4 R1.out
    have ql := R1.out.lt
    have y0 := row20 R2.out
    have y1 := row21 R2.out
    have yl := R2.out.lt
    cases t1
    · go_wp2_with fail
      with_reducible refine (rtagged_any a0 a1 a2 a3 n0 n1 n2 n3 c0 c1 c2 c3 ts m s z 2 w4 HM.out HS.out t2 HT2.out).mono ?_
      rintro e w5 ⟨rfl, hb⟩
      have HB5 := hide (HB4.out.trans (hb.mono HB4.out.size))
      have HF2 := hide (show t2 = r from by rw [← HF.out]; rfl)
      clear hb q0 q1 q2 q3 ql y0 y1 yl
      go_wp2_with fail
      go_ret
      rw [← HF2.out]
      exact ⟨rfl, HB5.out⟩
    · have HF2 := hide (show true = r from by rw [← HF.out]; rfl)
      go_wp2_with fail
      go_ret
      rw [← HF2.out]
      exact ⟨rfl, HB4.out⟩
  · have hd0 : ((qn : Int) == 0) = false := by rw [beq_eq_false_iff_ne]; omega
    have HF := hide (show false = r from by
      rw [← HR.out]
      have : ys ≠ [] := fun e => h0 (by rw [← HQN.out, e]; rfl)
      simp [this])
    clear h0
    go_wp2_with fail
    go_ret
    rw [← HF.out]
    exact ⟨rfl, HB3.out⟩
end Go.Proofs.Ytfpbabafeecncaa
