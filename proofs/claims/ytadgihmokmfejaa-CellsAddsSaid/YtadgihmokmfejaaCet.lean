/-
  Cells that others access, too: the atomic ones; a shared cell.
-/
import Derived.Test.YtadgihmokmfejaaCef
import Derived.Laws.LoneSync
import Derived.Laws.Pointers
set_option linter.unusedSimpArgs false
set_option linter.unusedVariables false
namespace Go.Proofs.Ytadgihmokmfejaa
open Go Go.RowKit
attribute [local go_sem] via_cell via_frozen

theorem ustore_any (g k : Nat) (t : TypeId) (X : List Int) (v : Int) (W : World) (h : RowAt W g t (Cs encW X).toArray) (hk : k < X.length) :
    Calls Try.prog 34 #[.pointer (some ⟨g, k, none⟩), .int .u64 v] W fun e W' => (∃ r, e = .returned r) ∧ W' = W.setCell ⟨g, k, none⟩ (.int .u64 v) := by
  have hd := row_word h hk
  have hf := h.frozen k
  have hl := h.lt
  have hst := run_call_store (P := Try.prog) Try.func42 (by kernel_rfl) (by kernel_rfl) (by kernel_rfl) (by kernel_rfl) (k := .u64) (y := v) hd hf
  clear h
  go_enter Try.func34, Try.ntmps34
  go_wp2
  first | go_end0 | (simp only [Exit.inBlock, Exit.then]; refine bodyPost_ret (results_none rfl _ _ _) rfl ?_) | refine bodyPost_ret (results_none rfl _ _ _) rfl ?_
  exact ⟨⟨_, rfl⟩, rfl⟩
theorem uload_any (g k : Nat) (t : TypeId) (X : List Int) (W : World) (h : RowAt W g t (Cs encW X).toArray) (hk : k < X.length) :
    Calls Try.prog 37 #[.pointer (some ⟨g, k, none⟩)] W fun e W' => e = .returned (.int .u64 (ceAt X k)) ∧ W = W' := by
  have hd := row_word h hk
  have hl := h.lt
  have hst := run_call_load (P := Try.prog) Try.func47 (by kernel_rfl) (by kernel_rfl) (by kernel_rfl) .u64 (by kernel_rfl) hd
  clear h
  go_enter Try.func37, Try.ntmps37
  go_wp2
  go_ret
  exact ⟨rfl, rfl⟩
theorem ucas_hit (g k : Nat) (t : TypeId) (X : List Int) (ol nw : Int) (W : World) (h : RowAt W g t (Cs encW X).toArray) (hk : k < X.length) (he : ceAt X k = ol) :
    Calls Try.prog 69 #[.pointer (some ⟨g, k, none⟩), .int .u64 ol, .int .u64 nw] W fun e W' => e = .returned (.bool true) ∧ W' = W.setCell ⟨g, k, none⟩ (.int .u64 nw) := by
  have hd := row_word h hk
  rw [he] at hd
  have hf := h.frozen k
  have hl := h.lt
  have hst := run_call_cas_hit (P := Try.prog) Try.func70 (by kernel_rfl) (by kernel_rfl) (by kernel_rfl) .u64 (by kernel_rfl) (y := nw) hd hf
  clear h he
  go_enter Try.func69, Try.ntmps69
  go_wp2
  go_ret
  exact ⟨rfl, rfl⟩
theorem ucas_miss (g k : Nat) (t : TypeId) (X : List Int) (ol nw : Int) (W : World) (h : RowAt W g t (Cs encW X).toArray) (hk : k < X.length) (he : ¬ ceAt X k = ol) :
    Calls Try.prog 69 #[.pointer (some ⟨g, k, none⟩), .int .u64 ol, .int .u64 nw] W fun e W' => e = .returned (.bool false) ∧ W' = W := by
  have hd := row_word h hk
  have hf := h.frozen k
  have hl := h.lt
  have hst := run_call_cas_miss (P := Try.prog) Try.func70 (by kernel_rfl) (by kernel_rfl) (by kernel_rfl) .u64 (by kernel_rfl) (y := nw) hd hf he
  clear h he
  go_enter Try.func69, Try.ntmps69
  go_wp2
  go_ret
  exact ⟨rfl, rfl⟩

theorem sload_any (g k : Nat) (t : TypeId) (X : List Int) (q : Int) (W : World) (h : RowAt W g t (Cs encW X).toArray) (hk : k < X.length) (hq : ceAt X k = q) :
    Calls Try.prog 67 #[.agg #[.pointer (some ⟨g, k, none⟩)]] W fun e W' => e = .returned (.int .u64 q) ∧ Below W.heap.size W W' := by
  have HB := hide (show Below W.heap.size W (W.alloc (.cells #[.pointer (some ⟨g, k, none⟩)] 82)) from (Below.refl _ _).alloc (Nat.le_refl _) _)
  have H := hide h
  subst hq
  have HC := hide (fun (w : World) (hb : Below W.heap.size W w) => uload_any g k t X w (h.below hb) hk)
  clear h
  go_enter Try.func67, Try.ntmps67
  go_wp2_with fail
  generalize (W.alloc (.cells #[.pointer (some ⟨g, k, none⟩)] 82)) = w1 at *
  with_reducible refine (HC.out _ HB.out).mono ?_
  rintro e w2 ⟨rfl, rfl⟩
  go_wp2_with fail
  go_ret
  exact ⟨rfl, HB.out⟩
theorem sswap_any (g k : Nat) (t : TypeId) (X : List Int) (ol nw : Int) (W : World) (h : RowAt W g t (Cs encW X).toArray) (hk : k < X.length) (Y : List Int) (hY : (if ceAt X k = ol then X.set k nw else X) = Y) (r : Bool) (hr : (ceAt X k == ol) = r) :
    Calls Try.prog 68 #[.agg #[.pointer (some ⟨g, k, none⟩)], .int .u64 ol, .int .u64 nw] W (CellRes W g t Y (.bool r)) := by
  have hl := h.lt
  have HB := hide (show Below W.heap.size W (W.alloc (.cells #[.pointer (some ⟨g, k, none⟩)] 82)) from (Below.refl _ _).alloc (Nat.le_refl _) _)
  have HR := hide (h.below HB.out)
  by_cases he : ceAt X k = ol
  · have HC := hide (fun (w : World) (hb : Below W.heap.size W w) => ucas_hit g k t X ol nw w (h.below hb) hk he)
    obtain rfl : true = r := by rw [← hr]; simpa using he
    rw [if_pos he] at hY
    subst hY
    clear h hr he
    go_enter Try.func68, Try.ntmps68
    go_wp2_with fail
    generalize (W.alloc (.cells #[.pointer (some ⟨g, k, none⟩)] 82)) = w1 at *
    with_reducible refine (HC.out _ HB.out).mono ?_
    rintro e w2 ⟨rfl, rfl⟩
    go_wp2_with fail
    go_ret
    exact ⟨rfl, row_set HR.out k nw, (Past.of_below hl HB.out).trans (Past.set k _)⟩
  · have HC := hide (fun (w : World) (hb : Below W.heap.size W w) => ucas_miss g k t X ol nw w (h.below hb) hk he)
    obtain rfl : false = r := by rw [← hr]; simpa using he
    rw [if_neg he] at hY
    subst hY
    clear h hr he
    go_enter Try.func68, Try.ntmps68
    go_wp2_with fail
    generalize (W.alloc (.cells #[.pointer (some ⟨g, k, none⟩)] 82)) = w1 at *
    with_reducible refine (HC.out _ HB.out).mono ?_
    rintro e w2 ⟨rfl, rfl⟩
    go_wp2_with fail
    go_ret
    exact ⟨rfl, HR.out, Past.of_below hl HB.out⟩
end Go.Proofs.Ytadgihmokmfejaa
