/-
  The reference's: what marks tell of a cell: what it held.
-/
import Derived.Test.YtadgihmokmfejaaCei
set_option linter.unusedSimpArgs false
set_option linter.unusedVariables false
namespace Go.Proofs.Ytadgihmokmfejaa
open Go Go.RowKit
attribute [local go_sem] via_cell via_frozen

theorem ne_own {w : World} {base : Nat} {e : TypeId} {size n : Nat} {v : Value} {xs : List Value} (h : w.ownsRow base e size v n xs) : some w.heap.size ≠ v.ownBlock := fun e => by
  obtain ⟨o, h1, _⟩ := own_cells h e.symm
  rw [Array.getElem?_eq_none (Nat.le_refl _)] at h1
  cases h1

set_option maxRecDepth 100000 in
set_option maxHeartbeats 2000000 in
theorem rheld_any (A : Option Addr) (c n : Nat) (ms : List Mk) (at_ : Int) (W : World) (h : Rd W W.heap.size 4 A n (Cs encM ms)) (hx : ms.length = n) (hl : n ≤ 1000) (Y : List Int) (hY : heldX ms at_ = Y) :
    Calls Try.prog 33 #[.slice A n c, .int .i64 at_] W fun e W' => ∃ A' c', e = .returned (.slice A' Y.length c') ∧ Y.length ≤ c' ∧ c' ≤ 9223372036854775807 ∧ Rd W' W'.heap.size 1 A' Y.length (Cs encW Y) ∧ Below W.heap.size W W' := by
  have H := hide h
  have HX := hide hx
  have HR := hide hY
  clear h hx hY
  go_enter Try.func33, Try.ntmps33
  go_wp2_with fail
  go_loopw [5, 10] (fun v i wr => ∃ j : Nat, j ≤ n ∧ i = .int .i64 j ∧ wr.ownsRow W.heap.size 31 1 v (heldX (ms.take j) at_).length (Cs encW (heldX (ms.take j) at_)) ∧ Below W.heap.size W wr) (fun _ i _ => n - (intOf i).toNat)
  case atStart => exact ⟨0, Nat.zero_le _, rfl, World.ownsRow_nil _ _ _ _, Below.refl _ _⟩
  case round =>
    obtain ⟨j, hj, rfl, hown, hbw⟩ := hrel
    have HO := hide hown
    clear hown
    by_cases hlt : j < n
    · obtain ⟨b, o, rfl, hb, m, hm, d0, d1, d2, d3⟩ := (H.out.below hbw).mark HX.out hlt
      have hsz := hbw.size
      have hbl : b < wr.heap.size := by omega
      have hsn : heldX (ms.take (j + 1)) at_ = held1 at_ (heldX (ms.take j) at_) m := by
        have hj2 : j < ms.length := by rw [HX.out]; exact hlt
        rw [List.take_succ_eq_append_getElem hj2, heldX_snoc]
        rw [List.getElem?_eq_getElem hj2] at hm
        injection hm with hm
        rw [hm]
      have hlen : (heldX (ms.take j) at_).length ≤ 2000 := by have := heldX_length (ms.take j) at_; have h2 : (ms.take j).length ≤ n := by { rw [List.length_take]; omega }; omega
      have HSN := hide hsn
      have HB2 := hide (show Below W.heap.size W (wr.alloc (.cells #[.int .i64 m.1, .int .i64 m.2.1, .int .u64 m.2.2.1, .int .u64 m.2.2.2] 57)) from hbw.alloc hsz _)
      generalize heldX (ms.take j) at_ = L at *
      obtain ⟨A0, c0, rfl, hc0, hcm0⟩ := own_form2 HO.out
      clear hsn hm hb
      by_cases he : m.2.1 = at_
      · have he2 : (m.2.1 != at_) = false := by simpa using he
        have HRN := hide (fun (w : World) (v : Int) => Rd.new w #[.int .u64 v] 31 1 1 rfl)
        have HR1 := hide (fun (v : Int) => (show Rd ((wr.alloc (.cells #[.int .i64 m.1, .int .i64 m.2.1, .int .u64 m.2.2.1, .int .u64 m.2.2.2] 57)).alloc (.cells #[.int .u64 v] 31)) (wr.heap.size + 1 + 1) 1 (some ⟨wr.heap.size + 1, 0, none⟩) 1 [.int .u64 v] from by
          have h := Rd.new (wr.alloc (.cells #[.int .i64 m.1, .int .i64 m.2.1, .int .u64 m.2.2.1, .int .u64 m.2.2.2] 57)) #[.int .u64 v] 31 1 1 rfl
          rw [World.size_alloc] at h
          exact h))
        by_cases hz : L.length = 0
        · obtain rfl := List.eq_nil_of_length_eq_zero hz
          have hl1 : held1 at_ [] m = [m.2.2.1] ++ [m.2.2.2] := by unfold held1; rw [if_pos he]; rfl
          rw [hl1] at HSN
          clear hl1 he hz
          go_wp2_with (first | (at_builtin; refine wpList_app elW rfl _ _ rfl rfl ((HO.out.alloc _).alloc _) rfl (HR1.out _) (by simp [Value.oneCell']) (by simp) (by simp; omega) ?_; intro v2 w3 hown2 hb3 hgr3 _; obtain ⟨A2, c2, rfl, hc2, hcm2⟩ := own_form2 hown2; have HG3 := hide hgr3; clear hgr3; have HB4 := hide (HB2.out.trans (((Below.refl W.heap.size _).alloc (by simp; omega) (.cells #[.int .u64 m.2.2.1] 31)).trans hb3)); have HO4 := hide hown2; have R3 : RowAt w3 wr.heap.size 57 #[.int .i64 m.1, .int .i64 m.2.1, .int .u64 m.2.2.1, .int .u64 m.2.2.2] := (HG3.out.block wr.heap.size (by simp; omega) (ne_own HO.out)).trans ((RowAt.new wr 57 #[.int .i64 m.1, .int .i64 m.2.1, .int .u64 m.2.2.1, .int .u64 m.2.2.2]).below ((Below.refl _ _).alloc (Nat.le_refl _) _)); have m3 : w3.cell? ⟨wr.heap.size, 3, none⟩ = some (.int .u64 m.2.2.2) := R3.cell 3; have lm := R3.lt; clear hown2 hb3) | (at_builtin; refine wpList_app elW rfl _ _ rfl rfl (HO4.out.alloc _) rfl (HRN.out w3 m.2.2.2) (by simp [Value.oneCell']) (by simp) (by simp; have := HB4.out.size; omega) ?_; intro v3 w4 hown3 hb4 _ _; have HB5 := hide (((Below.refl W.heap.size w3).alloc (by have := HB4.out.size; omega) (.cells #[.int .u64 m.2.2.2] 31)).trans hb4); have HO5 := hide hown3; clear hown3 hb4))
          go_roundw
          case rel => exact ⟨j + 1, by omega, by go_num, by rw [HSN.out, Cs_append]; exact HO5.out, HB4.out.trans HB5.out⟩
          case measure => simp [intOf]; omega
        · have hz2 : ((L.length : Int) == 0) = false := by rw [beq_eq_false_iff_ne]; omega
          have hl1 : held1 at_ L m = L ++ [m.2.2.2] := by unfold held1; rw [if_pos he, if_neg hz]
          rw [hl1] at HSN
          clear hl1 he
          go_wp2_with (at_builtin; refine wpList_app elW rfl _ _ rfl rfl ((HO.out.alloc _).alloc _) rfl (HR1.out _) (by simp [Value.oneCell']) (by omega) (by simp; omega) ?_; intro v2 w3 hown2 hb3 _ _; have HB4 := hide (HB2.out.trans (((Below.refl W.heap.size _).alloc (by simp; omega) (.cells #[.int .u64 m.2.2.2] 31)).trans hb3)); have HO4 := hide hown2; clear hown2 hb3)
          go_roundw
          case rel => exact ⟨j + 1, by omega, by go_num, by rw [HSN.out, Cs_append, List.length_append]; exact HO4.out, HB4.out⟩
          case measure => simp [intOf]; omega
      · have he2 : (m.2.1 != at_) = true := by simpa using he
        have hl1 : held1 at_ L m = L := by unfold held1; rw [if_neg he]
        rw [hl1] at HSN
        clear hl1 he
        go_wp2_with fail
        go_roundw
        case rel => exact ⟨j + 1, by omega, by go_num, by rw [HSN.out]; exact HO.out.alloc _, HB2.out⟩
        case measure => simp [intOf]; omega
    · obtain ⟨A0, c0, rfl, hc0, hcm0⟩ := own_form2 HO.out
      go_wp2_with fail
      go_ret
      have hjn : ms.take j = ms := List.take_of_length_le (by rw [HX.out]; omega)
      have h := HO.out
      rw [hjn, HR.out] at h hc0 ⊢
      exact ⟨A0, c0, rfl, hc0, hcm0, Rd.of_own h, hbw⟩
end Go.Proofs.Ytadgihmokmfejaa
