/-
  Count, Next, Clear: the program's.
-/
import Derived.Test.YtegnppmmcchmgaaDoorGuh
set_option linter.unusedSimpArgs false
set_option linter.unusedVariables false
namespace Go.Proofs.YtegnppmmcchmgaaDoor
open Go Go.RowKit
attribute [local go_sem] via_cell via_frozen

def countV (l : List Sec) (at_ : Int) : Int × Int := if chk 0 l then (if stepB at_ then ((cnt l at_ : Int), 0) else (0, 2)) else (0, 160)
def nextV (l : List Sec) (at_ : Int) : Int × Int := if chk 0 l then (if stepB at_ then (if stepB (nxt l at_) then (nxt l at_, 0) else (0, 4)) else (0, 2)) else (0, 160)
theorem ret_pairI {a b : Int × Int} (h : a = b) : Ending.returned (pairI a) = .returned (pairI b) := by rw [h]
theorem countN_any (B : Nat) (A : Option Addr) (c m : Nat) (l : List Sec) (at_ : Int) (W : World) (h : Rd W B 2 A m (Cs encS l)) (hx : l.length = m) (hB : B ≤ W.heap.size) (hm : m ≤ 4096) (r : Int × Int) (hr : countV l at_ = r) :
    Calls Tryd.prog 12 #[.slice A m c, .int .i64 at_] W fun e W' => e = .returned (pairU r) ∧ Below W.heap.size W W' := by
  obtain ⟨x, hx1⟩ : ∃ x, chk 0 l = x := ⟨_, rfl⟩
  have HC := hide (check_any B A c m l W h hx hB hm x hx1)
  have H := hide h
  cases x with
  | false =>
    have HF := hide (show ((0, 160) : Int × Int) = r from by rw [← hr]; unfold countV; rw [hx1]; rfl)
    clear h hr hx1
    go_enter Tryd.func12, Tryd.ntmps12
    go_wp2_with fail
    with_reducible refine HC.out.mono ?_
    rintro e w1 ⟨rfl, hb1⟩
    go_wp2_with fail
    go_ret2
    exact ⟨ret_pairU HF.out, hb1⟩
  | true =>
    have HS := hide (step_any at_)
    obtain ⟨y, hy⟩ : ∃ y, stepB at_ = y := ⟨_, rfl⟩
    rw [hy] at HS
    cases y with
    | false =>
      have HF := hide (show ((0, 2) : Int × Int) = r from by rw [← hr]; unfold countV; rw [hx1, hy]; rfl)
      clear h hr hx1 hy
      go_enter Tryd.func12, Tryd.ntmps12
      go_wp2_with fail
      with_reducible refine HC.out.mono ?_
      rintro e w1 ⟨rfl, hb1⟩
      go_wp2_with fail
      with_reducible refine (HS.out _).mono ?_
      rintro e w2 ⟨rfl, rfl⟩
      go_wp2_with fail
      go_ret2
      exact ⟨ret_pairU HF.out, hb1⟩
    | true =>
      have HF := hide (show ((cntE (edg l) at_ : Int), (0 : Int)) = r from by rw [← hr]; unfold countV; rw [hx1, hy, cntE_right (Int.le_refl 0) hx1]; rfl)
      clear h hr hx1 hy
      go_enter Tryd.func12, Tryd.ntmps12
      go_wp2_with fail
      with_reducible refine HC.out.mono ?_
      rintro e w1 ⟨rfl, hb1⟩
      go_wp2_with fail
      with_reducible refine (HS.out _).mono ?_
      rintro e w2 ⟨rfl, rfl⟩
      go_wp2_with fail
      with_reducible refine (count_any B A c m l at_ w1 (H.out.below (hb1.mono hB)) hx (Nat.le_trans hB hb1.size) hm _ rfl).mono ?_
      rintro e w2 ⟨rfl, hb2⟩
      have HB := hide (hb1.trans (hb2.mono hb1.size))
      clear hb1 hb2
      generalize (cntE (edg l) at_ : Int) = q at *
      go_wp2_with fail
      go_ret2
      exact ⟨ret_pairU HF.out, HB.out⟩
theorem nextN_any (B : Nat) (A : Option Addr) (c m : Nat) (l : List Sec) (at_ : Int) (W : World) (h : Rd W B 2 A m (Cs encS l)) (hx : l.length = m) (hB : B ≤ W.heap.size) (hm : m ≤ 4096) (r : Int × Int) (hr : nextV l at_ = r) :
    Calls Tryd.prog 14 #[.slice A m c, .int .i64 at_] W fun e W' => e = .returned (pairI r) ∧ Below W.heap.size W W' := by
  obtain ⟨x, hx1⟩ : ∃ x, chk 0 l = x := ⟨_, rfl⟩
  have HC := hide (check_any B A c m l W h hx hB hm x hx1)
  have H := hide h
  cases x with
  | false =>
    have HF := hide (show ((0, 160) : Int × Int) = r from by rw [← hr]; unfold nextV; rw [hx1]; rfl)
    clear h hr hx1
    go_enter Tryd.func14, Tryd.ntmps14
    go_wp2_with fail
    with_reducible refine HC.out.mono ?_
    rintro e w1 ⟨rfl, hb1⟩
    go_wp2_with fail
    go_ret2
    exact ⟨ret_pairI HF.out, hb1⟩
  | true =>
    have HS := hide (step_any at_)
    obtain ⟨y, hy⟩ : ∃ y, stepB at_ = y := ⟨_, rfl⟩
    rw [hy] at HS
    cases y with
    | false =>
      have HF := hide (show ((0, 2) : Int × Int) = r from by rw [← hr]; unfold nextV; rw [hx1, hy]; rfl)
      clear h hr hx1 hy
      go_enter Tryd.func14, Tryd.ntmps14
      go_wp2_with fail
      with_reducible refine HC.out.mono ?_
      rintro e w1 ⟨rfl, hb1⟩
      go_wp2_with fail
      with_reducible refine (HS.out _).mono ?_
      rintro e w2 ⟨rfl, rfl⟩
      go_wp2_with fail
      go_ret2
      exact ⟨ret_pairI HF.out, hb1⟩
    | true =>
      obtain ⟨n, hn⟩ : ∃ n, nxt l at_ = n := ⟨_, rfl⟩
      have HS2 := hide (step_any n)
      obtain ⟨z, hz⟩ : ∃ z, stepB n = z := ⟨_, rfl⟩
      have HF := hide (show (if z then ((n, 0) : Int × Int) else (0, 4)) = r from by rw [← hr]; unfold nextV; rw [hx1, hy, hn, hz]; rfl)
      have HNX := hide (fun (w : World) (hb : Below B W w) (hs : B ≤ w.heap.size) => next_any B A c m l at_ w (H.out.below hb) hx hs hm hx1 n hn)
      rw [hz] at HS2
      clear h hr hx1 hy hn hz
      cases z
      · go_enter Tryd.func14, Tryd.ntmps14
        go_wp2_with fail
        with_reducible refine HC.out.mono ?_
        rintro e w1 ⟨rfl, hb1⟩
        go_wp2_with fail
        with_reducible refine (HS.out _).mono ?_
        rintro e w2 ⟨rfl, rfl⟩
        go_wp2_with fail
        with_reducible refine (HNX.out w1 (hb1.mono hB) (Nat.le_trans hB hb1.size)).mono ?_
        rintro e w2 ⟨rfl, hb2⟩
        have HB := hide (hb1.trans (hb2.mono hb1.size))
        clear hb1 hb2
        go_wp2_with fail
        with_reducible refine (HS2.out _).mono ?_
        rintro e w3 ⟨rfl, rfl⟩
        go_wp2_with fail
        go_ret2
        exact ⟨ret_pairI (a := (0, 4)) HF.out, HB.out⟩
      · go_enter Tryd.func14, Tryd.ntmps14
        go_wp2_with fail
        with_reducible refine HC.out.mono ?_
        rintro e w1 ⟨rfl, hb1⟩
        go_wp2_with fail
        with_reducible refine (HS.out _).mono ?_
        rintro e w2 ⟨rfl, rfl⟩
        go_wp2_with fail
        with_reducible refine (HNX.out w1 (hb1.mono hB) (Nat.le_trans hB hb1.size)).mono ?_
        rintro e w2 ⟨rfl, hb2⟩
        have HB := hide (hb1.trans (hb2.mono hb1.size))
        clear hb1 hb2
        go_wp2_with fail
        with_reducible refine (HS2.out _).mono ?_
        rintro e w3 ⟨rfl, rfl⟩
        go_wp2_with fail
        go_ret2
        exact ⟨ret_pairI (a := (n, 0)) HF.out, HB.out⟩
theorem clear_any (B : Nat) (A : Option Addr) (c m : Nat) (l : List Sec) (a b : Int) (W : World) (h : Rd W B 2 A m (Cs encS l)) (hx : l.length = m) (hB : B ≤ W.heap.size) (hm : m ≤ 4096) (r : Bool) (hr : clearB l a b = r) :
    Calls Tryd.prog 23 #[.slice A m c, .int .i64 a, .int .i64 b] W fun e W' => e = .returned (.bool r) ∧ Below W.heap.size W W' := by
  obtain ⟨x, hx1⟩ : ∃ x, chk 0 l = x := ⟨_, rfl⟩
  have HC := hide (check_any B A c m l W h hx hB hm x hx1)
  have H := hide h
  cases x with
  | false =>
    have HF := hide (show false = r from by rw [← hr]; unfold clearB; rw [hx1]; rfl)
    clear h hr hx1
    go_enter Tryd.func23, Tryd.ntmps23
    go_wp2_with fail
    with_reducible refine HC.out.mono ?_
    rintro e w1 ⟨rfl, hb1⟩
    go_wp2_with fail
    go_ret
    exact ⟨ret_bool HF.out, hb1⟩
  | true =>
    have HS := hide (look_any a b)
    obtain ⟨y, hy⟩ : ∃ y, lookB a b = y := ⟨_, rfl⟩
    rw [hy] at HS
    cases y with
    | false =>
      have HF := hide (show false = r from by rw [← hr]; unfold clearB; rw [hx1, hy]; rfl)
      clear h hr hx1 hy
      go_enter Tryd.func23, Tryd.ntmps23
      go_wp2_with fail
      with_reducible refine HC.out.mono ?_
      rintro e w1 ⟨rfl, hb1⟩
      go_wp2_with fail
      with_reducible refine (HS.out _).mono ?_
      rintro e w2 ⟨rfl, rfl⟩
      go_wp2_with fail
      go_ret
      exact ⟨ret_bool HF.out, hb1⟩
    | true =>
      obtain ⟨n, hn⟩ : ∃ n, nxt l a = n := ⟨_, rfl⟩
      have HNX := hide (fun (w : World) (hb : Below B W w) (hs : B ≤ w.heap.size) => next_any B A c m l a w (H.out.below hb) hx hs hm hx1 n hn)
      by_cases hna : n = a
      · obtain ⟨s, hs⟩ : ∃ s, spn l a b = s := ⟨_, rfl⟩
        have HSP := hide (fun (w : World) (hb : Below B W w) (hs0 : B ≤ w.heap.size) => span_any B A c m l a b w (H.out.below hb) hx hs0 hm hx1 s hs)
        have HF := hide (show (s.2 == b) = r from by rw [← hr]; unfold clearB; rw [hx1, hy, hn, hs]; simp [hna]; rfl)
        subst hna
        clear h hr hx1 hy hn hs
        obtain ⟨s1, s2⟩ := s
        have hfd : ∀ w : World, (Instr.field 23 (.agg #[.int .i64 s1, .int .i64 s2]) 1).run Tryd.prog w = .ok (.int .i64 s2) w := fun _ => by kernel_rfl
        go_enter Tryd.func23, Tryd.ntmps23
        go_wp2_with fail
        with_reducible refine HC.out.mono ?_
        rintro e w1 ⟨rfl, hb1⟩
        go_wp2_with fail
        with_reducible refine (HS.out _).mono ?_
        rintro e w2 ⟨rfl, rfl⟩
        go_wp2_with fail
        with_reducible refine (HNX.out w1 (hb1.mono hB) (Nat.le_trans hB hb1.size)).mono ?_
        rintro e w2 ⟨rfl, hb2⟩
        have HB := hide (hb1.trans (hb2.mono hb1.size))
        clear hb1 hb2
        go_wp2_with fail
        with_reducible refine (HSP.out w2 (HB.out.mono hB) (Nat.le_trans hB HB.out.size)).mono ?_
        rintro e w3 ⟨rfl, hb3⟩
        have HB3 := hide (HB.out.trans (hb3.mono HB.out.size))
        clear hb3
        dsimp only [lookV]
        go_wp2_with fail
        go_ret
        exact ⟨ret_bool HF.out, HB3.out⟩
      · have hd : (n == a) = false := by rw [beq_eq_false_iff_ne]; exact hna
        have HF := hide (show false = r from by rw [← hr]; unfold clearB; rw [hx1, hy, hn]; simp [hna])
        clear h hr hx1 hy hn hna
        go_enter Tryd.func23, Tryd.ntmps23
        go_wp2_with fail
        with_reducible refine HC.out.mono ?_
        rintro e w1 ⟨rfl, hb1⟩
        go_wp2_with fail
        with_reducible refine (HS.out _).mono ?_
        rintro e w2 ⟨rfl, rfl⟩
        go_wp2_with fail
        with_reducible refine (HNX.out w1 (hb1.mono hB) (Nat.le_trans hB hb1.size)).mono ?_
        rintro e w2 ⟨rfl, hb2⟩
        have HB := hide (hb1.trans (hb2.mono hb1.size))
        clear hb1 hb2
        go_wp2_with fail
        go_ret
        exact ⟨ret_bool HF.out, HB.out⟩
end Go.Proofs.YtegnppmmcchmgaaDoor
