/-
  Pins: who holds the epoch back (the program's, the reference's).
-/
import Derived.Test.YtopaopfebgonjaaPnd
set_option linter.unusedSimpArgs false
set_option linter.unusedVariables false
namespace Go.Proofs.Ytopaopfebgonjaa
open Go Go.RowKit
attribute [local go_sem] via_cell via_frozen

theorem back_step (e : Int) (S : List Int) (j : Nat) (b : Bool) (h8 : j < 8) (h : (flags e S)[j]? = some b) : backL e (S.take (j + 1)) = backL e (S.take j) ++ if b = true then [(j : Int)] else [] := by
  by_cases hj : j < S.length
  · rw [flags_get e S j hj] at h
    injection h with h
    subst h
    exact backL_snoc e S j hj
  · rw [flags_out e S j (by omega) h8] at h
    injection h with h
    subst h
    rw [List.take_of_length_le (by omega), List.take_of_length_le (by omega)]
    simp

/-- 'a[i]' of an array of flags, by value. -/
theorem index_arr (F : List Bool) (j : Nat) (b : Bool) (h : F[j]? = some b) (h8 : j < 8) (w : World) : (Instr.index 68 (.agg (Cs encB F).toArray) (.int .i64 (j : Int))).run Try.prog w = .ok (.bool b) w := by
  have h1 : (Cs encB F)[j]? = some (.bool b) := by
    obtain ⟨hl, hv⟩ := List.getElem?_eq_some_iff.1 h
    rw [encB_cells F j hl, hv]
  have h2 : (0 : Int) ≤ (j : Int) ∧ (j : Int) < ((8 : Nat) : Int) := by omega
  have hi : (Try.prog.info? 4).map (·.size) = some 1 := by kernel_rfl
  cases hq : Try.prog.info? 4 with
  | none => simp [hq] at hi
  | some i =>
    simp [hq] at hi
    simp [Instr.index, run_underlying Try.underlying68, asIntOf, h2, sizeOf, typeInfo, hq, hi, part, go_sem, h1, h8]

set_option maxHeartbeats 1000000 in
theorem Back_any (A : Option Addr) (c n : Nat) (e : Int) (S : List Int) (W : World) (h : Rd W W.heap.size 1 A n (Cs encW S)) (hx : S.length = n) (h0 : 0 ≤ e) (hS : ∀ s ∈ S, U64 s) (hl : n ≤ 4096) (L : List Int) (hL : (if pOk e S = true then backL e S else []) = L) (m : Nat) (hm : L.length = m) :
    Calls Try.prog 25 #[.agg #[.int .u64 e, .slice A n c]] W fun x W' => ∃ A' c', x = .returned (.slice A' m c') ∧ m ≤ c' ∧ c' ≤ 9223372036854775807 ∧ Rd W' W'.heap.size 1 A' m (Cs encI L) ∧ Below W.heap.size W W' := by
  have hb0 : Below W.heap.size W (W.alloc (.cells #[.int .u64 e, .slice A n c] 25)) := (Below.refl _ _).alloc (Nat.le_refl _) _
  have r1 : RowAt (W.alloc (.cells #[.int .u64 e, .slice A n c] 25)) W.heap.size 25 #[.int .u64 e, .slice A n c] := RowAt.new _ _ _
  obtain ⟨k, hk⟩ : ∃ k : Int, (if pOk e S = true then 0 else 230) = k := ⟨_, rfl⟩
  have HC := hide (check_any A c n e S _ ((h.below hb0).more hb0.size) hx h0 hl k hk)
  obtain ⟨p, hp⟩ : ∃ p, pOk e S = p := ⟨_, rfl⟩
  have HB := hide hb0
  have R1 := hide r1
  have HR := hide h
  have HM := hide hm
  have HX := hide hx
  have HS := hide hS
  rw [hp] at hk hL
  cases p
  · simp at hk hL
    subst hk hL
    simp at hm
    subst hm
    clear hb0 r1 h hx hS hp HM
    go_enter Try.func25, Try.ntmps25
    go_wp2_with fail
    refine HC.out.mono ?_
    rintro x w1 ⟨rfl, hb⟩
    go_wp2_with fail
    go_ret
    exact ⟨none, 0, rfl, Nat.le_refl _, by omega, Rd.none_, HB.out.trans (hb.mono HB.out.size)⟩
  · simp at hk hL
    subst hk
    have HL := hide hL
    have HP := hide hp
    have g8 := (pOk_out hp).2.1
    have hmm : m ≤ 8 := by rw [← hm, ← hL]; have := backL_length e S; omega
    clear hb0 r1 h hx hS hp hm hL
    go_enter Try.func25, Try.ntmps25
    go_wp2_with fail
    refine HC.out.mono ?_
    rintro x w1 ⟨rfl, hb⟩
    replace R1 := hide (R1.out.below hb)
    replace HB := hide (HB.out.trans (hb.mono HB.out.size))
    have HBK := hide (back_any A c n e S w1 ((HR.out.below HB.out).more HB.out.size) HX.out HS.out HP.out)
    have q0 := row20 R1.out
    have q1 := row21 R1.out
    have l0 := R1.out.lt
    clear hb HC
    go_wp2_with fail
    refine HBK.out.mono ?_
    rintro x w2 ⟨rfl, hb⟩
    replace HB := hide (HB.out.trans (hb.mono HB.out.size))
    have hlw := HB.out.size
    clear q0 q1 l0 hb HBK R1
    have HFS := hide (back_step e S)
    have hfl8 := hide (flags_length e S g8)
    obtain ⟨F, hF⟩ : ∃ F, flags e S = F := ⟨_, rfl⟩
    rw [hF] at HFS hfl8 ⊢
    have HIX := hide (index_arr F)
    clear hF
    go_wp2_with fail
    go_loopw [3, 11] (fun v i wr => ∃ j : Nat, j ≤ 8 ∧ i = .int .i64 j ∧ wr.ownsRow W.heap.size 3 1 v (backL e (S.take j)).length (Cs encI (backL e (S.take j))) ∧ Below W.heap.size W wr) (fun _ i _ => 8 - (intOf i).toNat)
    case atStart => exact ⟨0, by omega, rfl, World.ownsRow_nil _ _ _ _, HB.out⟩
    case round =>
      obtain ⟨j, hj, rfl, hown, hbw⟩ := hrel
      replace HB := hide hbw
      have HO := hide hown
      have hsz := hbw.size
      clear hown hbw
      by_cases hlt : j < 8
      · have hle : (backL e (S.take j)).length ≤ 8 := by have := backL_length e (S.take j); have : (S.take j).length ≤ 8 := by { rw [List.length_take]; omega }; omega
        obtain ⟨b, hb⟩ : ∃ b, F[j]? = some b := ⟨F[j]'(by rw [hfl8.out]; exact hlt), List.getElem?_eq_getElem _⟩
        have HSt := hide (HFS.out j b hlt hb)
        have hix := HIX.out j b hb hlt
        clear HFS hb
        cases b
        · go_wp2_with fail
          go_roundw
          case rel => exact ⟨j + 1, by omega, by go_num, by have h := HSt.out; simp at h; rw [h]; exact HO.out, HB.out⟩
          case measure => simp [intOf]; omega
        · have HRN := hide (Rd.new wr #[.int .i64 (j : Int)] 3 1 1 rfl)
          go_wp2_with (at_builtin; refine wpList_app elI rfl _ _ rfl rfl (HO.out.alloc _) rfl HRN.out (by simp [Value.oneCell']) (by omega) (by simp; omega) ?_; intro v2 w3 hown2 hb3 _ _; have HB4 := hide (((Below.refl W.heap.size wr).alloc (by omega) (.cells #[.int .i64 (j : Int)] 3)).trans hb3); have HO4 := hide hown2; clear hown2 hb3)
          go_roundw
          case rel =>
            refine ⟨j + 1, by omega, by go_num, ?_, HB.out.trans HB4.out⟩
            have h := HSt.out
            simp at h
            rw [h, Cs_append, List.length_append]
            exact HO4.out
          case measure => simp [intOf]; omega
      · obtain rfl : j = 8 := by omega
        have h := HO.out
        rw [List.take_of_length_le g8, HL.out, HM.out] at h
        obtain ⟨A3, c3, rfl, hc3, hcm3⟩ := own_form2 h
        have H := hide (Rd.of_own h)
        clear h HO
        go_wp2_with fail
        go_ret
        exact ⟨A3, c3, rfl, hc3, hcm3, H.out, HB.out⟩

set_option maxHeartbeats 1000000 in
theorem rBack_any (A : Option Addr) (c n : Nat) (e : Int) (S : List Int) (W : World) (h : Rd W W.heap.size 1 A n (Cs encW S)) (hx : S.length = n) (hS : ∀ s ∈ S, U64 s) (hn : n ≤ 4096) (m : Nat) (hm : (backL e S).length = m) :
    Calls Try.prog 22 #[.agg #[.int .u64 e, .slice A n c]] W fun x W' => ∃ A' c', x = .returned (.slice A' m c') ∧ m ≤ c' ∧ c' ≤ 9223372036854775807 ∧ Rd W' W'.heap.size 1 A' m (Cs encI (backL e S)) ∧ Below W.heap.size W W' := by
  subst hx hm
  have HS := hide hS
  clear hS
  go_enter Try.func22, Try.ntmps22
  go_wp2_with fail
  have hb0 : Below W.heap.size W (W.alloc (.cells #[.int .u64 e, .slice A S.length c] 25)) := (Below.refl _ _).alloc (Nat.le_refl _) _
  have r1 : RowAt (W.alloc (.cells #[.int .u64 e, .slice A S.length c] 25)) W.heap.size 25 #[.int .u64 e, .slice A S.length c] := RowAt.new _ _ _
  have hs0 : (W.alloc (.cells #[.int .u64 e, .slice A S.length c] 25)).heap.size = W.heap.size + 1 := by simp
  generalize (W.alloc (.cells #[.int .u64 e, .slice A S.length c] 25)) = w0 at *
  have H0 := hide hb0
  have H1 := hide r1
  clear hb0 r1
  go_loopw [3, 9] (fun v i wr => ∃ j : Nat, j ≤ S.length ∧ i = .int .i64 j ∧ RowAt wr W.heap.size 25 #[.int .u64 e, .slice A S.length c] ∧ wr.ownsRow (W.heap.size + 1) 3 1 v (backL e (S.take j)).length (Cs encI (backL e (S.take j))) ∧ Below W.heap.size W wr) (fun _ i _ => S.length - (intOf i).toNat)
  case atStart => exact ⟨0, Nat.zero_le _, rfl, H1.out, World.ownsRow_nil _ _ _ _, H0.out⟩
  case round =>
    obtain ⟨j, hj, rfl, hr1, hown, hbw⟩ := hrel
    have HB := hide hbw
    have HO := hide hown
    have R1 := hide hr1
    have hsz : W.heap.size < wr.heap.size := hr1.lt
    have x0 := row20 hr1
    have x1 := row21 hr1
    clear hr1 hown hbw
    by_cases hlt : j < S.length
    · obtain ⟨b1, o1, rfl, hb1, hc1⟩ := (h.below HB.out).elem encW_len hlt
      have hd10 := hc1 0 _ (by omega) rfl
      simp only [Nat.mul_one, Nat.add_zero] at hd10
      clear hc1
      have hbl1 : b1 < wr.heap.size := by omega
      have HSt := hide (backL_snoc e S j hlt)
      have HU := hide (HS.out _ (List.getElem_mem hlt))
      have hle := backL_length e (S.take j)
      have hlt2 : (S.take j).length ≤ 4096 := by rw [List.length_take]; omega
      generalize S[j] = s at *
      by_cases h0 : 0 < s
      · have u0 : (0 : Int) ≤ s - 1 := by omega
        have u1 : s - 1 < 18446744073709551616 := by have := HU.out; unfold U64 at this; omega
        by_cases hse : s - 1 < e
        · have HH := hide (show heldB e s = true by simp [heldB]; omega)
          have HRN := hide (Rd.new wr #[.int .i64 (j : Int)] 3 1 1 rfl)
          go_wp2_with (at_builtin; refine wpList_app elI rfl _ _ rfl rfl (HO.out.alloc _) rfl HRN.out (by simp [Value.oneCell']) (by omega) (by simp; omega) ?_; intro v2 w2 hown2 hb3 _ _; have HB4 := hide (((Below.refl (W.heap.size + 1) wr).alloc (by omega) (.cells #[.int .i64 (j : Int)] 3)).trans hb3); have HO4 := hide hown2; clear hown2 hb3)
          go_roundw
          case rel =>
            refine ⟨j + 1, by omega, by go_num, R1.out.belowB (by omega) HB4.out, ?_, HB.out.trans (HB4.out.mono (by omega))⟩
            rw [HSt.out, if_pos HH.out, Cs_append, List.length_append]
            exact HO4.out
          case measure => simp [intOf]; omega
        · have hse' : decide (s - 1 < e) = false := by simp; omega
          have HH := hide (show ¬ heldB e s = true by simp [heldB]; omega)
          go_wp2_with fail
          go_roundw
          case rel => exact ⟨j + 1, by omega, by go_num, R1.out, by rw [HSt.out, if_neg HH.out, List.append_nil]; exact HO.out, HB.out⟩
          case measure => simp [intOf]; omega
      · have h0' : decide (0 < s) = false := by simp; omega
        have HH := hide (show ¬ heldB e s = true by simp [heldB]; omega)
        go_wp2_with fail
        go_roundw
        case rel => exact ⟨j + 1, by omega, by go_num, R1.out, by rw [HSt.out, if_neg HH.out, List.append_nil]; exact HO.out, HB.out⟩
        case measure => simp [intOf]; omega
    · obtain rfl : j = S.length := by omega
      have h := HO.out
      rw [List.take_length] at h
      obtain ⟨A3, c3, rfl, hc3, hcm3⟩ := own_form2 h
      have H := hide (Rd.of_own h)
      clear h
      go_wp2_with fail
      go_ret
      exact ⟨A3, c3, rfl, hc3, hcm3, H.out, HB.out⟩
end Go.Proofs.Ytopaopfebgonjaa
