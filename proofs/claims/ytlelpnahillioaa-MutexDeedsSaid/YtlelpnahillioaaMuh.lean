/-
  Mutexes that a goroutine does something with: the hand, the one that is meant.
-/
import Derived.Test.YtlelpnahillioaaMug
import Derived.Test.YtlelpnahillioaaTail
set_option linter.unusedSimpArgs false
set_option linter.unusedVariables false
namespace Go.Proofs.Ytlelpnahillioaa
open Go Go.RowKit
attribute [local go_sem] via_cell via_frozen

/-- The hand's cells. -/
abbrev hC (A : Option Addr) (m c : Nat) (g w : Int) (got : Bool) (nx : Int) : Array Value := #[.slice A m c, .int .i64 g, .int .i64 w, .bool got, .int .i64 nx]
section
variable {W : World} {gh : Nat} {v0 v1 v2 v3 v4 : Value} {t : TypeId}
theorem row50 (h : RowAt W gh t #[v0, v1, v2, v3, v4]) : W.cell? ⟨gh, 0, none⟩ = some v0 := by have := h.cell 0; simpa using this
theorem row51 (h : RowAt W gh t #[v0, v1, v2, v3, v4]) : W.cell? ⟨gh, 1, none⟩ = some v1 := by have := h.cell 1; simpa using this
theorem row52 (h : RowAt W gh t #[v0, v1, v2, v3, v4]) : W.cell? ⟨gh, 2, none⟩ = some v2 := by have := h.cell 2; simpa using this
theorem row53 (h : RowAt W gh t #[v0, v1, v2, v3, v4]) : W.cell? ⟨gh, 3, none⟩ = some v3 := by have := h.cell 3; simpa using this
theorem row54 (h : RowAt W gh t #[v0, v1, v2, v3, v4]) : W.cell? ⟨gh, 4, none⟩ = some v4 := by have := h.cell 4; simpa using this
end
def argB (m : Nat) (w g : Int) : Bool := decide (0 ≤ w) && decide (w < m) && goerB g
def MuRes (W : World) (gl : Nat) (w : Int) (b : Bool) (e : Ending) (W' : World) : Prop :=
  Below W.heap.size W W' ∧ ((b = true ∧ e = .returned (.pointer (some ⟨gl, w.toNat * 2, none⟩))) ∨ (b = false ∧ e = .panicked (errX 2)))
set_option maxHeartbeats 1000000 in
theorem mutex_any (gh gl m c : Nat) (g w nx : Int) (got : Bool) (W : World) (h : RowAt W gh 66 (hC (some ⟨gl, 0, none⟩) m c g w got nx)) (hgl : gl < W.heap.size) (b : Bool) (hb : argB m w g = b) :
    Calls Try.prog 52 #[.pointer (some ⟨gh, 0, none⟩)] W (MuRes W gl w b) := by
  have H := hide h
  have q0 := row50 h
  have q1 := row51 h
  have q2 := row52 h
  have ql := h.lt
  clear h
  unfold argB at hb
  by_cases c1 : 0 ≤ w
  case neg =>
    have hd : decide (0 ≤ w) = false := by simpa using c1
    obtain rfl : false = b := by rw [← hb, hd]; rfl
    clear hb c1
    go_enter Try.func52, Try.ntmps52
    go_wp2_with fail
    refine wp_region_tail 25 (by kernel_rfl) (by kernel_rfl) ?_
    simp only [List.take_succ_cons, List.take_zero, List.drop_succ_cons, List.drop_zero]
    repeat (go_big_quiet_step (fail))
    refine tail_out fun w2 hb2 => ?_
    have HB2 := hide hb2
    clear hb2 q0 q1 q2
    go_wp2_with fail
    refine (need_no 2 _).mono ?_
    rintro e w3 ⟨rfl, rfl⟩
    go_wp2_with fail
    exact ⟨rfl, HB2.out, .inr ⟨rfl, rfl⟩⟩
  have hd : decide (0 ≤ w) = true := by simpa using c1
  by_cases c2 : w < (m : Int)
  case neg =>
    have hd2 : decide (w < (m : Int)) = false := by simpa using c2
    obtain rfl : false = b := by rw [← hb, hd, hd2]; rfl
    clear hb c1 c2
    go_enter Try.func52, Try.ntmps52
    go_wp2_with fail
    refine wp_region_tail 25 (by kernel_rfl) (by kernel_rfl) ?_
    simp only [List.take_succ_cons, List.take_zero, List.drop_succ_cons, List.drop_zero]
    repeat (go_big_quiet_step (fail))
    refine tail_out fun w2 hb2 => ?_
    have HB2 := hide hb2
    clear hb2 q0 q1 q2
    go_wp2_with fail
    refine (need_no 2 _).mono ?_
    rintro e w3 ⟨rfl, rfl⟩
    go_wp2_with fail
    exact ⟨rfl, HB2.out, .inr ⟨rfl, rfl⟩⟩
  have hd2 : decide (w < (m : Int)) = true := by simpa using c2
  rw [hd, hd2] at hb
  have HC := hide (fun z => via_of_same (is_any g (via W z) b (by rw [← hb]; simp)))
  clear hb
  cases b
  · go_enter Try.func52, Try.ntmps52
    go_wp2_with fail
    refine wp_region_tail 25 (by kernel_rfl) (by kernel_rfl) ?_
    simp only [List.take_succ_cons, List.take_zero, List.drop_succ_cons, List.drop_zero]
    repeat (go_big_quiet_step ((first | (go_at_call 41; exact HC.out _))))
    refine tail_out fun w2 hb2 => ?_
    have HB2 := hide hb2
    clear hb2 q0 q1 q2
    go_wp2_with fail
    refine (need_no 2 _).mono ?_
    rintro e w3 ⟨rfl, rfl⟩
    go_wp2_with fail
    exact ⟨rfl, HB2.out, .inr ⟨rfl, rfl⟩⟩
  · obtain ⟨k, rfl⟩ := Int.eq_ofNat_of_zero_le c1
    have hkI : (k : Int) < (m : Int) := c2
    clear c1 c2
    go_enter Try.func52, Try.ntmps52
    go_wp2_with fail
    refine wp_region_tail 25 (by kernel_rfl) (by kernel_rfl) ?_
    simp only [List.take_succ_cons, List.take_zero, List.drop_succ_cons, List.drop_zero]
    repeat (go_big_quiet_step ((first | (go_at_call 41; exact HC.out _))))
    refine tail_out fun w2 hb2 => ?_
    have hz2 : gl < w2.heap.size := Nat.lt_of_lt_of_le hgl hb2.size
    have k0 := kept hb2 q0
    have k2 := kept hb2 q2
    have kl : gh < w2.heap.size := Nat.lt_of_lt_of_le ql hb2.size
    have HB2 := hide hb2
    clear hb2 q0 q1 q2
    go_wp2_with fail
    refine (need_ok 2 _).mono ?_
    rintro e w3 ⟨rfl, rfl⟩
    go_wp2_with fail
    go_quiet (fail)
    go_wp2_with fail
    go_ret
    exact ⟨below_drewN HB2.out _, .inl ⟨rfl, rfl⟩⟩
end Go.Proofs.Ytlelpnahillioaa
