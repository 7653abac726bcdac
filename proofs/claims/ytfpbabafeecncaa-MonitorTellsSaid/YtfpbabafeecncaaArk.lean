/-
  Arenas: retired, given back (the closures).
-/
import Derived.Test.YtfpbabafeecncaaArj
set_option linter.unusedSimpArgs false
set_option linter.unusedVariables false
namespace Go.Proofs.Ytfpbabafeecncaa
open Go Go.RowKit
attribute [local go_sem] via_cell via_frozen

theorem retS_append : ∀ (l m xs : List (Int × Int)), retS xs (l ++ m) = (retS xs l).bind fun ys => retS ys m
  | [], m, xs => by simp [retS]
  | e :: l, m, xs => by
    simp only [List.cons_append, retS]
    by_cases h : meantB xs e = true ∧ tagOf xs e = 1
    · rw [if_pos h, if_pos h]; exact retS_append l m _
    · rw [if_neg h, if_neg h]; rfl
theorem givS_append : ∀ (l m xs : List (Int × Int)), givS xs (l ++ m) = match givS xs l with | .ok ys => givS ys m | .error k => .error k
  | [], m, xs => by simp [givS]
  | e :: l, m, xs => by
    simp only [List.cons_append, givS]
    by_cases h : meantB xs e = true ∧ tagOf xs e ≠ 0
    · rw [if_pos h, if_pos h]
      by_cases hg : e.2 < 1099511627775
      · rw [if_pos hg, if_pos hg]; exact givS_append l m _
      · rw [if_neg hg, if_neg hg]
    · rw [if_neg h, if_neg h]
theorem take_split {α : Type} (l : List α) (j : Nat) (hj : j < l.length) : l = l.take j ++ (l[j] :: l.drop (j + 1)) := by
  exact (List.take_append_drop j l).symm.trans (by rw [List.drop_eq_getElem_cons hj])

set_option maxHeartbeats 1000000 in
theorem retire1_any (kl gh gs gl n m c B : Nat) (A : Option Addr) (l xs : List (Int × Int)) (w : World) (h : HandAt w gh gs n xs) (hn : n ≤ 4096) (hl : RowAt w gl 54 #[.slice A m c]) (hr : Rd w B 2 A m (Cs encE l)) (hlm : l.length = m) (hm : m ≤ 4096) (hBs : B ≤ gs) (hBw : B ≤ w.heap.size) (hne : gl ≠ gs) :
    Calls Try.prog 91 #[.pointer (some ⟨gh, 0, none⟩), .pointer (some ⟨gl, 0, none⟩)] w (DoesRes kl gh gs n (fun ys => retS xs l = some ys) (fun k => k = 4 ∧ retS xs l = none) (fun _ _ => True) w) := by
  subst hlm
  have HH := hide h
  have HR := hide hr
  have d0 := row1 hl
  have hll := hl.lt
  have hgs := h.row.lt
  clear h hr
  go_enter Try.func91, Try.ntmps91
  go_wp2_with fail
  go_loopw [7] (fun i wr => ∃ (j : Nat) (ys : List (Int × Int)), j ≤ l.length ∧ i = .int .i64 j ∧ retS xs (l.take j) = some ys ∧ HandAt wr gh gs n ys ∧ Past gs w wr) (fun i _ => l.length - (intOf i).toNat)
  case atStart => exact ⟨0, xs, Nat.zero_le _, rfl, by simp [retS], HH.out, Past.refl _ _⟩
  case round =>
    obtain ⟨j, ys, hj, rfl, hret, hhj, hpj⟩ := hrel
    have HRT := hide hret
    have HHJ := hide hhj
    have HPJ := hide hpj
    have hsz := hpj.size
    clear hret hhj hpj
    by_cases hlt : j < l.length
    · obtain ⟨b1, o1, rfl, hb1, hc1⟩ := (HR.out.keep (w' := wr) (fun p hp => HPJ.out.cell p (by omega) (by omega))).elem encE_len hlt
      have hd10 := hc1 0 _ (by omega) rfl
      have hd11 := hc1 1 _ (by omega) rfl
      simp only [Nat.add_zero] at hd10
      have hbl1 : b1 < wr.heap.size := by omega
      have HS := hide (List.take_succ_eq_append_getElem hlt)
      have HSP := hide (take_split l j hlt)
      clear hc1
      generalize l[j] = x at *
      obtain ⟨s, g⟩ := x
      dsimp only at hd10 hd11
      have hbn : Below wr.heap.size wr ((wr.alloc (.cells #[.int .i64 s, .int .u64 g] 43)).alloc (.cells #[.int .i64 1] 3)) := ((Below.refl _ _).alloc (Nat.le_refl _) _).alloc (by simp) _
      have hrT := Rd.new (wr.alloc (.cells #[.int .i64 s, .int .u64 g] 43)) #[.int .i64 1] 3 1 1 rfl
      rw [World.size_alloc] at hrT
      have HSL := hide (slab_any gh gs n 1 1 (some ⟨wr.heap.size + 1, 0, none⟩) s g [1] ys _ (HHJ.out.below hbn) hn (by rw [World.size_alloc, World.size_alloc]; exact hrT) rfl (by omega))
      have HBN := hide hbn
      clear hbn hrT
      go_wp2_with fail
      refine HSL.out.mono ?_
      rintro e w1 ⟨hb, hres⟩
      have HB1 := hide (HBN.out.trans (hb.mono HBN.out.size))
      have HH1 := hide (HHJ.out.below HB1.out)
      clear hb HSL
      rcases hres with ⟨hm1, ht1, rfl⟩ | ⟨hno, rfl⟩
      · obtain ⟨k, hk, hkl, hg⟩ := meantB_out hm1
        dsimp only at hk hg
        subst hk
        have hkn : k < n := by have := HHJ.out.len; omega
        have c0 := HH1.out.cell0 hkn
        have f0 := HH1.out.row.frozen (k * 2)
        have hl1 := HH1.out.row.lt
        have HM := hide hm1
        have HT := hide (show tagOf ys ((k : Int), g) = 1 by simpa [eq_comm] using ht1)
        have HG := hide hg
        clear hm1 ht1 hg
        simp only [Int.toNat_natCast]
        go_wp2_with fail
        go_roundw
        case rel =>
          refine ⟨j + 1, put1 2 ys ((k : Int), g), by omega, by go_num, ?_, ⟨by rw [put1_length, HHJ.out.len], HHJ.out.ne, ?_, ?_⟩, (HPJ.out.trans (Past.of_below (by omega) HB1.out)).trans (Past.set _ _)⟩
          · rw [HS.out, retS_append, HRT.out]
            simp [retS, HM.out, HT.out]
          · exact HH1.out.box.setNe (Ne.symm HHJ.out.ne)
          · have h := HH1.out.row.set (k * 2) (.int .i64 2)
            rw [List.setIfInBounds_toArray, Cs_set0 ys k 2 (by rw [HHJ.out.len]; exact hkn), HG.out] at h
            simpa [put1] using h
        case measure => simp [intOf]; omega
      · go_wp2_with fail
        refine ⟨rfl, Past2.of_past (HPJ.out.trans (Past.of_below (by omega) HB1.out)), .inr ⟨4, rfl, rfl, ?_⟩⟩
        rw [HSP.out, retS_append, HRT.out]
        simp only [Option.bind_some, retS]
        rw [if_neg]
        rintro ⟨h1, h2⟩
        rw [h1, h2] at hno
        simp at hno
    · go_wp2_with fail
      go_end0
      have h := HRT.out
      rw [List.take_of_length_le (by omega)] at h
      exact ⟨Past2.of_past HPJ.out, .inl ⟨rfl, ys, HHJ.out, h, trivial⟩⟩

set_option maxHeartbeats 1000000 in
theorem give1_any (kl gh gs gl n m c B : Nat) (A : Option Addr) (l xs : List (Int × Int)) (w : World) (h : HandAt w gh gs n xs) (ho : arOk xs = true) (hl : RowAt w gl 54 #[.slice A m c]) (hr : Rd w B 2 A m (Cs encE l)) (hu : ∀ e ∈ l, U64 e.2) (hlm : l.length = m) (hm : m ≤ 4096) (hBs : B ≤ gs) (hBw : B ≤ w.heap.size) (hne : gl ≠ gs) :
    Calls Try.prog 93 #[.pointer (some ⟨gh, 0, none⟩), .pointer (some ⟨gl, 0, none⟩)] w (DoesRes kl gh gs n (fun ys => givS xs l = .ok ys) (fun k => givS xs l = .error k) (fun _ _ => True) w) := by
  subst hlm
  have hn : n ≤ 4096 := by have := (arOk_out ho).2.1; have := h.len; omega
  have HH := hide h
  have HR := hide hr
  have HO := hide ho
  have HU := hide hu
  have d0 := row1 hl
  have hll := hl.lt
  have hgs := h.row.lt
  clear h hr ho hu
  go_enter Try.func93, Try.ntmps93
  go_wp2_with fail
  go_loopw [8] (fun i wr => ∃ (j : Nat) (ys : List (Int × Int)), j ≤ l.length ∧ i = .int .i64 j ∧ givS xs (l.take j) = .ok ys ∧ HandAt wr gh gs n ys ∧ Past gs w wr) (fun i _ => l.length - (intOf i).toNat)
  case atStart => exact ⟨0, xs, Nat.zero_le _, rfl, by simp [givS], HH.out, Past.refl _ _⟩
  case round =>
    obtain ⟨j, ys, hj, rfl, hret, hhj, hpj⟩ := hrel
    have HRT := hide hret
    have HHJ := hide hhj
    have HPJ := hide hpj
    have HOY := hide (arOk_giv _ _ _ HO.out hret)
    have hsz := hpj.size
    clear hret hhj hpj
    by_cases hlt : j < l.length
    · obtain ⟨b1, o1, rfl, hb1, hc1⟩ := (HR.out.keep (w' := wr) (fun p hp => HPJ.out.cell p (by omega) (by omega))).elem encE_len hlt
      have hd10 := hc1 0 _ (by omega) rfl
      have hd11 := hc1 1 _ (by omega) rfl
      simp only [Nat.add_zero] at hd10
      have hbl1 : b1 < wr.heap.size := by omega
      have HS := hide (List.take_succ_eq_append_getElem hlt)
      have HSP := hide (take_split l j hlt)
      have HUX := hide (HU.out _ (List.getElem_mem hlt))
      clear hc1
      generalize l[j] = x at *
      obtain ⟨s, g⟩ := x
      dsimp only at hd10 hd11 HUX
      have hbn : Below wr.heap.size wr ((wr.alloc (.cells #[.int .i64 s, .int .u64 g] 43)).alloc (.cells #[.int .i64 1, .int .i64 2] 3)) := ((Below.refl _ _).alloc (Nat.le_refl _) _).alloc (by simp) _
      have hrT := Rd.new (wr.alloc (.cells #[.int .i64 s, .int .u64 g] 43)) #[.int .i64 1, .int .i64 2] 3 1 2 rfl
      rw [World.size_alloc] at hrT
      have HSL := hide (slab_any gh gs n 2 2 (some ⟨wr.heap.size + 1, 0, none⟩) s g [1, 2] ys _ (HHJ.out.below hbn) hn (by rw [World.size_alloc, World.size_alloc]; exact hrT) rfl (by omega))
      have HBN := hide hbn
      clear hbn hrT
      go_wp2_with fail
      refine HSL.out.mono ?_
      rintro e w1 ⟨hb, hres⟩
      have HB1 := hide (HBN.out.trans (hb.mono HBN.out.size))
      have HH1 := hide (HHJ.out.below HB1.out)
      clear hb HSL
      rcases hres with ⟨hm1, ht1, rfl⟩ | ⟨hno, rfl⟩
      · obtain ⟨k, hk, hkl, hg⟩ := meantB_out hm1
        dsimp only at hk hg
        subst hk
        have hkn : k < n := by have := HHJ.out.len; omega
        have c0 := HH1.out.cell0 hkn
        have c1 := HH1.out.cell1 hkn
        rw [hg] at c1
        have f0 := HH1.out.row.frozen (k * 2)
        have f1 := HH1.out.row.frozen (k * 2 + 1)
        have hl1 := HH1.out.row.lt
        have HM := hide hm1
        have HT := hide (show tagOf ys ((k : Int), g) ≠ 0 by intro h; rw [h] at ht1; simp at ht1)
        have HG := hide hg
        clear hm1 ht1 hg
        simp only [Int.toNat_natCast]
        by_cases hgm : g < 1099511627775
        · have g0 := HUX.out.1
          have g0' : (0 : Int) ≤ g + 1 := by omega
          have g1' : g + 1 < 18446744073709551616 := by omega
          go_wp2_with fail
          refine (need_ok 6 _).mono ?_
          rintro e w5 ⟨rfl, rfl⟩
          dsimp only
          go_wp2_with fail
          go_roundw
          case rel =>
            refine ⟨j + 1, ys.set k (0, g + 1), by omega, by go_num, ?_, ⟨by rw [List.length_set, HHJ.out.len], HHJ.out.ne, ?_, ?_⟩, ((HPJ.out.trans (Past.of_below (by omega) HB1.out)).trans (Past.set _ _)).trans (Past.set _ _)⟩
            · rw [HS.out, givS_append, HRT.out]
              simp [givS, HM.out, HT.out, hgm]
            · exact (HH1.out.box.setNe (Ne.symm HHJ.out.ne)).setNe (Ne.symm HHJ.out.ne)
            · have h := (HH1.out.row.set (k * 2) (.int .i64 0)).set (k * 2 + 1) (.int .u64 (g + 1))
              have hk' : k < ys.length := by rw [HHJ.out.len]; exact hkn
              rw [List.setIfInBounds_toArray, List.setIfInBounds_toArray, Cs_set0 ys k 0 hk', Cs_set1 _ k (g + 1) (by simpa using hk')] at h
              simpa [hk'] using h
          case measure => simp [intOf]; omega
        · have hgm' : decide (g < 1099511627775) = false := by simp; omega
          go_wp2_with fail
          refine (need_no 6 _).mono ?_
          rintro e w5 ⟨rfl, rfl⟩
          dsimp only
          refine ⟨rfl, Past2.of_past (HPJ.out.trans (Past.of_below (by omega) HB1.out)), .inr ⟨6, rfl, ?_⟩⟩
          show givS xs l = .error 6
          rw [HSP.out, givS_append, HRT.out]
          simp [givS, HM.out, HT.out, hgm]
          exact fun h => by omega
      · go_wp2_with fail
        refine ⟨rfl, Past2.of_past (HPJ.out.trans (Past.of_below (by omega) HB1.out)), .inr ⟨4, rfl, ?_⟩⟩
        show givS xs l = .error 4
        rw [HSP.out, givS_append, HRT.out]
        simp only [givS]
        rw [if_neg]
        rintro ⟨h1, h2⟩
        obtain ⟨k, hk, hkl, hg⟩ := meantB_out h1
        dsimp only at hk
        have hok := slabOk_out (arOk_at HOY.out hkl)
        rw [h1, Bool.true_and] at hno
        have ht : tagOf ys (s, g) = (ys.getD k (0, 0)).1 := by rw [hk]; simp [tagOf]
        obtain ⟨t, htt⟩ : ∃ t, (ys.getD k (0, 0)).1 = t := ⟨_, rfl⟩
        rw [ht, htt] at hno h2
        rw [htt] at hok
        simp at hno
        omega
    · go_wp2_with fail
      go_end0
      have h := HRT.out
      rw [List.take_of_length_le (by omega)] at h
      exact ⟨Past2.of_past HPJ.out, .inl ⟨rfl, ys, HHJ.out, h, trivial⟩⟩
end Go.Proofs.Ytfpbabafeecncaa
