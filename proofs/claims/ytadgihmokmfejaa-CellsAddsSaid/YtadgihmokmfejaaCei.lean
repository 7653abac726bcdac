/-
  The reference's: what marks tell of a cell: the last one.
-/
import Derived.Test.YtadgihmokmfejaaCec
set_option linter.unusedSimpArgs false
set_option linter.unusedVariables false
namespace Go.Proofs.Ytadgihmokmfejaa
open Go Go.RowKit
attribute [local go_sem] via_cell via_frozen

theorem Rd.mark {w : World} {B n : Nat} {A : Option Addr} {ms : List Mk} (h : Rd w B 4 A n (Cs encM ms)) (hx : ms.length = n) {j : Nat} (hj : j < n) :
    ∃ b o, A = some ⟨b, o, none⟩ ∧ b < B ∧ ∃ m : Mk, ms[j]? = some m ∧ w.cell? ⟨b, o + j * 4, none⟩ = some (.int .i64 m.1) ∧ w.cell? ⟨b, o + j * 4 + 1, none⟩ = some (.int .i64 m.2.1) ∧ w.cell? ⟨b, o + j * 4 + 2, none⟩ = some (.int .u64 m.2.2.1) ∧ w.cell? ⟨b, o + j * 4 + 3, none⟩ = some (.int .u64 m.2.2.2) := by
  subst hx
  obtain ⟨b, o, h1, h2, h3⟩ := h.elem encM_len hj
  have d0 := h3 0 _ (by omega) rfl
  simp only [Nat.add_zero] at d0
  exact ⟨b, o, h1, h2, ms[j], List.getElem?_eq_getElem hj, d0, h3 1 _ (by omega) rfl, h3 2 _ (by omega) rfl, h3 3 _ (by omega) rfl⟩

set_option maxHeartbeats 1000000 in
theorem rlast_any (A : Option Addr) (c n : Nat) (ms : List Mk) (at_ : Int) (W : World) (h : Rd W W.heap.size 4 A n (Cs encM ms)) (hx : ms.length = n) (hl : n ≤ 4096) (r : Int × Bool) (hr : lastX ms at_ = r) :
    Calls Try.prog 31 #[.slice A n c, .int .i64 at_] W fun e W' => e = .returned (.tuple #[.int .i64 r.1, .bool r.2]) ∧ Below W.heap.size W W' := by
  have H := hide h
  have HX := hide hx
  have HR := hide hr
  clear h hx hr
  go_enter Try.func31, Try.ntmps31
  go_wp2_with fail
  go_loopw [6, 7, 12] (fun v6 v7 i wr => ∃ j : Nat, j ≤ n ∧ i = .int .i64 j ∧ v6 = .int .i64 (lastX (ms.take j) at_).1 ∧ v7 = .bool (lastX (ms.take j) at_).2 ∧ Below W.heap.size W wr) (fun _ _ i _ => n - (intOf i).toNat)
  case atStart => exact ⟨0, Nat.zero_le _, rfl, rfl, rfl, Below.refl _ _⟩
  case round =>
    obtain ⟨j, hj, rfl, rfl, rfl, hbw⟩ := hrel
    by_cases hlt : j < n
    · obtain ⟨b, o, rfl, hb, m, hm, d0, d1, d2, d3⟩ := (H.out.below hbw).mark HX.out hlt
      have hsz := hbw.size
      have hbl : b < wr.heap.size := by omega
      have hsn : lastX (ms.take (j + 1)) at_ = last1 at_ (lastX (ms.take j) at_) m := by
        have hj2 : j < ms.length := by rw [HX.out]; exact hlt
        rw [List.take_succ_eq_append_getElem hj2, lastX_snoc]
        rw [List.getElem?_eq_getElem hj2] at hm
        injection hm with hm
        rw [hm]
      have HSN := hide hsn
      have hb2 : Below W.heap.size W (wr.alloc (.cells #[.int .i64 m.1, .int .i64 m.2.1, .int .u64 m.2.2.1, .int .u64 m.2.2.2] 57)) := hbw.alloc hsz _
      have HB2 := hide hb2
      clear hsn hm hb2 hsz hb
      by_cases he : m.2.1 = at_
      · have he2 : (m.2.1 == at_) = true := by simpa using he
        have hl1 : ∀ b, last1 at_ b m = (m.1, true) := fun b => by unfold last1; rw [if_pos he]
        rw [hl1] at HSN
        clear hl1 he
        go_wp2_with fail
        go_roundw
        case rel => exact ⟨j + 1, by omega, by go_num, by rw [HSN.out], by rw [HSN.out], HB2.out⟩
        case measure => simp [intOf]; omega
      · have he2 : (m.2.1 == at_) = false := by simpa using he
        have hl1 : ∀ b, last1 at_ b m = b := fun b => by unfold last1; rw [if_neg he]
        rw [hl1] at HSN
        clear hl1 he
        go_wp2_with fail
        go_roundw
        case rel => exact ⟨j + 1, by omega, by go_num, by rw [HSN.out], by rw [HSN.out], HB2.out⟩
        case measure => simp [intOf]; omega
    · go_wp2_with fail
      go_ret2
      have hjn : ms.take j = ms := List.take_of_length_le (by rw [HX.out]; omega)
      rw [hjn, HR.out]
      exact ⟨rfl, hbw⟩
end Go.Proofs.Ytadgihmokmfejaa
