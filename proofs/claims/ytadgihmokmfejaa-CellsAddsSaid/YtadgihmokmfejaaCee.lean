/-
  The program's: why an access is none; cells of their own; a plain cell.
-/
import Derived.Test.YtadgihmokmfejaaCed
import Derived.Test.YtadgihmokmfejaaTail
import Derived.Test.YtadgihmokmfejaaCopy
set_option linter.unusedSimpArgs false
set_option linter.unusedVariables false
namespace Go.Proofs.Ytadgihmokmfejaa
open Go Go.RowKit
attribute [local go_sem] via_cell via_frozen

theorem check_any (n : Nat) (wh kd at_ ol nw : Int) (W : World) (r : Int) (hr : why n (wh, kd, at_, ol, nw) = r) :
    Calls Try.prog 35 #[.agg #[.int .i64 wh, .int .i64 kd, .int .i64 at_, .int .u64 ol, .int .u64 nw], .int .i64 n] W fun e W' => e = .returned (.int .i64 r) ∧ Below W.heap.size W W' := by
  have hbn : Below W.heap.size W (W.alloc (.cells #[.int .i64 wh, .int .i64 kd, .int .i64 at_, .int .u64 ol, .int .u64 nw] 77)) := (Below.refl _ _).alloc (Nat.le_refl _) _
  have HB := hide hbn
  have HR := hide hr
  clear hbn hr
  by_cases h0 : n < 1
  · skip
    have hv : why n (wh, kd, at_, ol, nw) = 120 := by unfold why; dsimp only; rw [if_pos (by omega)]
    obtain rfl := hv.symm.trans HR.out
    clear hv
    have y0 : (n : Int) < 1 := by omega
    go_enter Try.func35, Try.ntmps35
    go_wp2_with fail
    go_ret
    exact ⟨rfl, HB.out⟩
  · skip
    by_cases h1 : 8192 < n
    · skip
      have hv : why n (wh, kd, at_, ol, nw) = 120 := by unfold why; dsimp only; rw [if_pos (by omega)]
      obtain rfl := hv.symm.trans HR.out
      clear hv
      have p0 : (1 : Int) ≤ n := by omega
      have y1 : (8192 : Int) < n := by omega
      go_enter Try.func35, Try.ntmps35
      go_wp2_with fail
      go_ret
      exact ⟨rfl, HB.out⟩
    · skip
      by_cases h2 : kd < 1
      · skip
        have hv : why n (wh, kd, at_, ol, nw) = 121 := by unfold why; dsimp only; rw [if_neg (by omega), if_pos (by omega)]
        obtain rfl := hv.symm.trans HR.out
        clear hv
        have p0 : (1 : Int) ≤ n := by omega
        have p1 : (n : Int) ≤ 8192 := by omega
        go_enter Try.func35, Try.ntmps35
        go_wp2_with fail
        go_ret
        exact ⟨rfl, HB.out⟩
      · skip
        by_cases h3 : 4 < kd
        · skip
          have hv : why n (wh, kd, at_, ol, nw) = 121 := by unfold why; dsimp only; rw [if_neg (by omega), if_pos (by omega)]
          obtain rfl := hv.symm.trans HR.out
          clear hv
          have p0 : (1 : Int) ≤ n := by omega
          have p1 : (n : Int) ≤ 8192 := by omega
          have p2 : 1 ≤ kd := by omega
          go_enter Try.func35, Try.ntmps35
          go_wp2_with fail
          go_ret
          exact ⟨rfl, HB.out⟩
        · skip
          by_cases h4 : wh < 0
          · skip
            have hv : why n (wh, kd, at_, ol, nw) = 121 := by unfold why; dsimp only; rw [if_neg (by omega), if_pos (by omega)]
            obtain rfl := hv.symm.trans HR.out
            clear hv
            have p0 : (1 : Int) ≤ n := by omega
            have p1 : (n : Int) ≤ 8192 := by omega
            have p2 : 1 ≤ kd := by omega
            have p3 : kd ≤ 4 := by omega
            go_enter Try.func35, Try.ntmps35
            go_wp2_with fail
            go_ret
            exact ⟨rfl, HB.out⟩
          · skip
            by_cases h5 : 7 < wh
            · skip
              have hv : why n (wh, kd, at_, ol, nw) = 121 := by unfold why; dsimp only; rw [if_neg (by omega), if_pos (by omega)]
              obtain rfl := hv.symm.trans HR.out
              clear hv
              have p0 : (1 : Int) ≤ n := by omega
              have p1 : (n : Int) ≤ 8192 := by omega
              have p2 : 1 ≤ kd := by omega
              have p3 : kd ≤ 4 := by omega
              have p4 : 0 ≤ wh := by omega
              have y5 : 8 ≤ wh := by omega
              go_enter Try.func35, Try.ntmps35
              go_wp2_with fail
              go_ret
              exact ⟨rfl, HB.out⟩
            · skip
              by_cases h6 : at_ < 0
              · skip
                have hv : why n (wh, kd, at_, ol, nw) = 2 := by unfold why; dsimp only; rw [if_neg (by omega), if_neg (by omega), if_pos (by omega)]
                obtain rfl := hv.symm.trans HR.out
                clear hv
                have p0 : (1 : Int) ≤ n := by omega
                have p1 : (n : Int) ≤ 8192 := by omega
                have p2 : 1 ≤ kd := by omega
                have p3 : kd ≤ 4 := by omega
                have p4 : 0 ≤ wh := by omega
                have p5 : wh < 8 := by omega
                go_enter Try.func35, Try.ntmps35
                go_wp2_with fail
                go_ret
                exact ⟨rfl, HB.out⟩
              · skip
                by_cases h7 : (n : Int) ≤ at_
                · skip
                  have hv : why n (wh, kd, at_, ol, nw) = 2 := by unfold why; dsimp only; rw [if_neg (by omega), if_neg (by omega), if_pos (by omega)]
                  obtain rfl := hv.symm.trans HR.out
                  clear hv
                  have p0 : (1 : Int) ≤ n := by omega
                  have p1 : (n : Int) ≤ 8192 := by omega
                  have p2 : 1 ≤ kd := by omega
                  have p3 : kd ≤ 4 := by omega
                  have p4 : 0 ≤ wh := by omega
                  have p5 : wh < 8 := by omega
                  have p6 : 0 ≤ at_ := by omega
                  go_enter Try.func35, Try.ntmps35
                  go_wp2_with fail
                  go_ret
                  exact ⟨rfl, HB.out⟩
                · skip
                  have hv : why n (wh, kd, at_, ol, nw) = 0 := by unfold why; dsimp only; rw [if_neg (by omega), if_neg (by omega), if_neg (by omega)]
                  obtain rfl := hv.symm.trans HR.out
                  clear hv
                  have p0 : (1 : Int) ≤ n := by omega
                  have p1 : (n : Int) ≤ 8192 := by omega
                  have p2 : 1 ≤ kd := by omega
                  have p3 : kd ≤ 4 := by omega
                  have p4 : 0 ≤ wh := by omega
                  have p5 : wh < 8 := by omega
                  have p6 : 0 ≤ at_ := by omega
                  have p7 : at_ < (n : Int) := by omega
                  go_enter Try.func35, Try.ntmps35
                  go_wp2_with fail
                  go_ret
                  exact ⟨rfl, HB.out⟩

/-- A plain cell is a slice of one. -/
theorem pload_any (g k : Nat) (q : Int) (W : World) (hc : W.cell? ⟨g, k, none⟩ = some (.int .u64 q)) (hg : g < W.heap.size) :
    Calls Try.prog 71 #[.agg #[.slice (some ⟨g, k, none⟩) 1 1]] W fun e W' => e = .returned (.int .u64 q) ∧ Below W.heap.size W W' := by
  have hb : Below W.heap.size W (W.alloc (.cells #[.slice (some ⟨g, k, none⟩) 1 1] 86)) := (Below.refl _ _).alloc (Nat.le_refl _) _
  go_enter Try.func71, Try.ntmps71
  go_wp2_with fail
  go_ret
  exact ⟨rfl, hb⟩
end Go.Proofs.Ytadgihmokmfejaa
