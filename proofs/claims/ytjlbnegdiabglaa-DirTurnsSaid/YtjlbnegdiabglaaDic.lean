/-
  What is another entry than a reach's; the first one that is.
-/
import Derived.Test.YtjlbnegdiabglaaDib
set_option linter.unusedSimpArgs false
set_option linter.unusedVariables false
namespace Go.Proofs.Ytjlbnegdiabglaa
open Go Go.RowKit
attribute [local go_sem] via_cell via_frozen

set_option maxHeartbeats 1000000 in
theorem other_any (gs : Nat) (X : Array Value) (x e : En) (W : World) (h : RowAt W gs 33 X) (h0 : X[0]? = some (.int .i64 e.1)) (h1 : X[1]? = some (.int .u64 e.2)) (r : Bool) (hr : decide (x = e) = r) :
    Calls Try.prog 60 #[.agg #[.int .i64 x.1, .int .u64 x.2], .pointer (some ⟨gs, 0, none⟩)] W fun e' W' => e' = .returned (.bool (!r)) ∧ Below W.heap.size W W' := by
  have HB := hide (show Below W.heap.size W (W.alloc (.cells #[.int .i64 x.1, .int .u64 x.2] 31)) from (Below.refl _ _).alloc (Nat.le_refl _) _)
  have d0 := (h.cell 0).trans h0
  have d1 := (h.cell 1).trans h1
  have dl := h.lt
  have hne := fun w => neqE w x e r hr
  clear h h0 h1 hr
  go_enter Try.func60, Try.ntmps60
  go_wp2_with fail
  go_ret
  exact ⟨rfl, HB.out⟩
/-- The first one that is another one; -1: none. -/
def leadX (e : En) (xs : List En) : Int := if lead e xs = xs.length then -1 else (lead e xs : Nat)
set_option maxHeartbeats 1000000 in
theorem indexO_any (B : Nat) (A : Option Addr) (c m gs : Nat) (xs : List En) (e : En) (X : Array Value) (W : World) (h : Rd W B 2 A m (Cs encE xs)) (hm : xs.length = m) (hl : m ≤ 4096) (hB : B ≤ W.heap.size) (hs : RowAt W gs 33 X) (h0 : X[0]? = some (.int .i64 e.1)) (h1 : X[1]? = some (.int .u64 e.2)) :
    Calls Try.prog 61 #[.slice A m c, .func (.func 60) #[] #[.pointer (some ⟨gs, 0, none⟩)]] W fun e' W' => e' = .returned (.int .i64 (leadX e xs)) ∧ Below W.heap.size W W' := by
  have HL := hide hm
  have H := hide h
  have HX := hide hs
  clear h hm hs
  go_enter Try.func61, Try.ntmps61
  go_wp2_with fail
  go_loopw [8] (fun i wr => ∃ k : Nat, k ≤ m ∧ i = .int .i64 k ∧ (∀ x ∈ xs.take k, x = e) ∧ Below W.heap.size W wr) (fun i _ => m - (intOf i).toNat)
  case atStart => exact ⟨0, Nat.zero_le _, rfl, by simp, Below.refl _ _⟩
  case round =>
    obtain ⟨k, hk, rfl, hno, hbw⟩ := hrel
    have HN := hide hno
    have HBW := hide hbw
    clear hno hbw
    by_cases hlt : k < m
    · have hlx : k < xs.length := by rw [HL.out]; exact hlt
      obtain ⟨b, o, rfl, hb, hc⟩ := (show Rd wr B 2 A xs.length (Cs encE xs) from by rw [HL.out]; exact H.out.below (HBW.out.mono hB)).elem encE_len hlx
      have d0 := hc 0 _ (by omega) rfl
      have d1 := hc 1 _ (by omega) rfl
      simp only [Nat.add_zero] at d0
      have hbl : b < wr.heap.size := Nat.lt_of_lt_of_le hb (Nat.le_trans hB HBW.out.size)
      have hkm : (k : Int) < (m : Int) := by omega
      have HT := hide (show xs.take (k + 1) = xs.take k ++ [xs[k]] from List.take_succ_eq_append_getElem hlx)
      have HG := hide (show xs[k]? = some xs[k] from List.getElem?_eq_getElem hlx)
      generalize xs[k] = x at *
      obtain ⟨r, hr⟩ : ∃ r : Bool, decide (x = e) = r := ⟨_, rfl⟩
      have HM := hide (other_any gs X x e wr (HX.out.below HBW.out) h0 h1 r hr)
      have HR := hide hr
      clear hb hc hr
      go_wp2_with fail
      with_reducible refine HM.out.mono ?_
      rintro e2 w2 ⟨rfl, hb2⟩
      have HB2 := hide (HBW.out.trans (hb2.mono HBW.out.size))
      clear hb2
      cases r
      · have HF := hide (show leadX e xs = (k : Nat) from by
          have hne : x ≠ e := of_decide_eq_false HR.out
          have h2 : lead e xs = k := lead_snoc e xs k (by omega) HN.out (fun _ => by rw [HG.out]; simpa using hne)
          unfold leadX
          rw [h2, if_neg (by omega)])
        go_wp2_with fail
        go_ret
        exact ⟨by rw [HF.out]; rfl, HB2.out⟩
      · have HNX := hide (show ∀ y ∈ xs.take (k + 1), y = e from by
          rw [HT.out]
          intro y hy
          rcases List.mem_append.1 hy with hy | hy
          · exact HN.out y hy
          · rw [List.mem_singleton.1 hy]; exact of_decide_eq_true HR.out)
        go_wp2_with fail
        go_roundw
        case rel => exact ⟨k + 1, by omega, by go_num, HNX.out, HB2.out⟩
        case measure => simp [intOf]; omega
    · have HF := hide (show leadX e xs = -1 from by
        obtain rfl : k = m := by omega
        have h2 : lead e xs = k := lead_snoc e xs k (by rw [HL.out]; exact Nat.le_refl _) HN.out (fun h => by have := HL.out; omega)
        unfold leadX
        rw [h2, if_pos HL.out.symm])
      go_wp2_with fail
      go_ret
      exact ⟨by rw [HF.out]; rfl, HBW.out⟩
end Go.Proofs.Ytjlbnegdiabglaa
