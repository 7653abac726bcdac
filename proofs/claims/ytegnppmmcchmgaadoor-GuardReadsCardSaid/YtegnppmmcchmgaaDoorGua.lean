/-
  Slices of sections, of looks, of flags: cloned, compared.
-/
import Derived.Test.YtegnppmmcchmgaaDoorProg
import Derived.Test.YtegnppmmcchmgaaDoorMore
set_option linter.unusedSimpArgs false
set_option linter.unusedVariables false
namespace Go.Proofs.YtegnppmmcchmgaaDoor
open Go Go.RowKit
attribute [local go_sem] via_cell via_frozen

def encI (x : Int) : List Value := [.int .i64 x]
def encW (x : Int) : List Value := [.int .u64 x]
def encB (x : Bool) : List Value := [.bool x]
def encS (x : Int × Int) : List Value := [.int .i64 x.1, .int .i64 x.2]
theorem encI_len : ∀ x, (encI x).length = 1 := fun _ => rfl
theorem encW_len : ∀ x, (encW x).length = 1 := fun _ => rfl
theorem encB_len : ∀ x, (encB x).length = 1 := fun _ => rfl
theorem encS_len : ∀ x, (encS x).length = 2 := fun _ => rfl
theorem encI_one : ∀ x, ∀ u ∈ encI x, u.oneCell' = true := by intro x u hu; simp [encI] at hu; subst hu; rfl
theorem encW_one : ∀ x, ∀ u ∈ encW x, u.oneCell' = true := by intro x u hu; simp [encW] at hu; subst hu; rfl
theorem encB_one : ∀ x, ∀ u ∈ encB x, u.oneCell' = true := by intro x u hu; simp [encB] at hu; subst hu; rfl
theorem encS_one : ∀ x, ∀ u ∈ encS x, u.oneCell' = true := by intro x u hu; simp [encS] at hu; rcases hu with rfl | rfl <;> rfl

theorem elS : ElemOk Tryd.prog 26 33 2 16 (.agg #[.int .i64 0, .int .i64 0]) := ⟨Tryd.underlying26, by kernel_rfl, rfl, by omega, by omega, by intro u hu; simp [Value.cells] at hu; rcases hu with rfl | rfl <;> rfl⟩
theorem elL : ElemOk Tryd.prog 50 23 2 16 (.agg #[.int .i64 0, .int .i64 0]) := ⟨Tryd.underlying50, by kernel_rfl, rfl, by omega, by omega, by intro u hu; simp [Value.cells] at hu; rcases hu with rfl | rfl <;> rfl⟩
theorem elB : ElemOk Tryd.prog 35 4 1 1 (.bool false) := ⟨Tryd.underlying35, by kernel_rfl, rfl, by omega, by omega, by intro u hu; simp [Value.cells] at hu; subst hu; rfl⟩

theorem neqS (w : World) (x y : Int × Int) (r : Bool) (hr : decide (x = y) = r) :
    (binOp .neq 33 (.agg #[.int .i64 x.1, .int .i64 x.2]) (.agg #[.int .i64 y.1, .int .i64 y.2])).run Tryd.prog w = .ok (.bool (!r)) w := by
  obtain ⟨a, b⟩ := x
  obtain ⟨c, d⟩ := y
  simp only [binOp]
  simp [Op.equal, Op.maxDepth, go_sem, run_equalIn_struct]
  subst hr
  by_cases h1 : a = c <;> by_cases h2 : b = d <;> simp [h1, h2]

theorem neqL (w : World) (x y : Int × Int) (r : Bool) (hr : decide (x = y) = r) :
    (binOp .neq 23 (.agg #[.int .i64 x.1, .int .i64 x.2]) (.agg #[.int .i64 y.1, .int .i64 y.2])).run Tryd.prog w = .ok (.bool (!r)) w := by
  obtain ⟨a, b⟩ := x
  obtain ⟨c, d⟩ := y
  simp only [binOp]
  simp [Op.equal, Op.maxDepth, go_sem, run_equalIn_struct]
  subst hr
  by_cases h1 : a = c <;> by_cases h2 : b = d <;> simp [h1, h2]

set_option maxHeartbeats 400000 in
theorem CloneS (B : Nat) (A : Option Addr) (n c : Nat) (xs : List Value) (W : World) (hr : Rd W B 2 A n xs) (hB : B ≤ W.heap.size) (h1 : ∀ u ∈ xs, u.oneCell' = true) (hb : n ≤ 4096) :
    Calls Tryd.prog 38 #[.slice A n c] W fun e W' => ∃ v, e = .returned v ∧ W'.ownsRow W.heap.size 33 2 v n xs ∧ Below W.heap.size W W' := by
  cases A with
  | none =>
    obtain rfl := rd_none hr
    obtain rfl := hr.nil
    have hn := fun w => Lib.run_eql_slice_nil (P := Tryd.prog) w 26 33 none 0 c 0 0 Tryd.underlying26
    go_enter Tryd.func38, Tryd.ntmps38
    go_wp2
    go_ret
    exact ⟨_, rfl, World.ownsRow_nil _ _ _ _, Below.refl _ _⟩
  | some a =>
    have hn := fun w => Lib.run_eql_slice_nil (P := Tryd.prog) w 26 33 (some a) n c 0 0 Tryd.underlying26
    have hown := World.ownsRow_lit (base := W.heap.size) (e := 33) (size := 2) W #[] 0 (Nat.le_refl _) (by simp [maxLen]) rfl
    go_enter Tryd.func38, Tryd.ntmps38
    go_wp2_with (at_builtin; refine wpList_app elS rfl _ _ rfl rfl hown rfl (hr.alloc hB _) h1 (by omega) (by simp) ?_; intro v1 w1 hown1 hb1 _ _)
    go_ret
    exact ⟨v1, rfl, by simpa using hown1, ((Below.refl _ _).alloc (Nat.le_refl _) _).trans hb1⟩

set_option maxHeartbeats 400000 in
theorem CloneL (B : Nat) (A : Option Addr) (n c : Nat) (xs : List Value) (W : World) (hr : Rd W B 2 A n xs) (hB : B ≤ W.heap.size) (h1 : ∀ u ∈ xs, u.oneCell' = true) (hb : n ≤ 4096) :
    Calls Tryd.prog 21 #[.slice A n c] W fun e W' => ∃ v, e = .returned v ∧ W'.ownsRow W.heap.size 23 2 v n xs ∧ Below W.heap.size W W' := by
  cases A with
  | none =>
    obtain rfl := rd_none hr
    obtain rfl := hr.nil
    have hn := fun w => Lib.run_eql_slice_nil (P := Tryd.prog) w 50 23 none 0 c 0 0 Tryd.underlying50
    go_enter Tryd.func21, Tryd.ntmps21
    go_wp2
    go_ret
    exact ⟨_, rfl, World.ownsRow_nil _ _ _ _, Below.refl _ _⟩
  | some a =>
    have hn := fun w => Lib.run_eql_slice_nil (P := Tryd.prog) w 50 23 (some a) n c 0 0 Tryd.underlying50
    have hown := World.ownsRow_lit (base := W.heap.size) (e := 23) (size := 2) W #[] 0 (Nat.le_refl _) (by simp [maxLen]) rfl
    go_enter Tryd.func21, Tryd.ntmps21
    go_wp2_with (at_builtin; refine wpList_app elL rfl _ _ rfl rfl hown rfl (hr.alloc hB _) h1 (by omega) (by simp) ?_; intro v1 w1 hown1 hb1 _ _)
    go_ret
    exact ⟨v1, rfl, by simpa using hown1, ((Below.refl _ _).alloc (Nat.le_refl _) _).trans hb1⟩

set_option maxHeartbeats 1000000 in
theorem EqualS (B1 B2 : Nat) (A1 A2 : Option Addr) (c1 c2 : Nat) (xs ys : List (Int × Int)) (W : World) (h1 : Rd W B1 2 A1 xs.length (Cs encS xs)) (h2 : Rd W B2 2 A2 ys.length (Cs encS ys)) (hB1 : B1 ≤ W.heap.size) (hB2 : B2 ≤ W.heap.size)
    (hl1 : xs.length ≤ 4096) (hl2 : ys.length ≤ 4096) (r : Bool) (hr : decide (xs = ys) = r) :
    Calls Tryd.prog 20 #[.slice A1 xs.length c1, .slice A2 ys.length c2] W fun e W' => e = .returned (.bool r) ∧ Below W.heap.size W W' := by
  subst hr
  by_cases hlen : xs.length = ys.length
  · have ht : ((xs.length : Int) != (ys.length : Int)) = false := by rw [bne_eq_false_iff_eq]; omega
    have HL := hide hlen
    clear hlen
    go_enter Tryd.func20, Tryd.ntmps20
    go_wp2_with fail
    go_loopw [13] (fun i wr => ∃ k : Nat, k ≤ xs.length ∧ i = .int .i64 k ∧ xs.take k = ys.take k ∧ Below W.heap.size W wr) (fun i _ => xs.length - (intOf i).toNat)
    case atStart => exact ⟨0, Nat.zero_le _, rfl, rfl, Below.refl _ _⟩
    case round =>
      obtain ⟨k, hk, rfl, hpre, hbw⟩ := hrel
      have HP := hide hpre
      clear hpre
      by_cases hlt : k < xs.length
      · have hlt2 : k < ys.length := by have := HL.out; omega
        obtain ⟨b1, o1, rfl, hb1, hc1⟩ := (h1.below (hbw.mono hB1)).elem encS_len hlt
        obtain ⟨b2, o2, rfl, hb2, hc2⟩ := (h2.below (hbw.mono hB2)).elem encS_len hlt2
        have hd10 := hc1 0 _ (by omega) rfl
        have hd11 := hc1 1 _ (by omega) rfl
        have hd20 := hc2 0 _ (by omega) rfl
        have hd21 := hc2 1 _ (by omega) rfl
        simp only [Nat.add_zero] at hd10 hd20
        clear hc1 hc2
        have hi2 : (k : Int) < (ys.length : Int) := by omega
        generalize hx : xs[k] = x at *
        generalize hy : ys[k] = y at *
        have HX := hide hx
        have HY := hide hy
        clear hx hy
        by_cases hxy : x = y
        · subst hxy
          have hne := fun w => neqS w x x true (by simp)
          go_wp2_with fail
          go_quiet (fail)
          go_wp2_with fail
          go_roundw
          case rel => exact ⟨k + 1, by omega, by go_num, by rw [List.take_succ_eq_append_getElem hlt, List.take_succ_eq_append_getElem hlt2, HP.out, HX.out, HY.out], hbw.trans ⟨rfl, rfl, rfl, Nat.le_refl _, fun _ _ => rfl⟩⟩
          case measure => simp [intOf]; omega
        · have hne := fun w => neqS w x y false (by simpa using hxy)
          go_wp2_with fail
          go_quiet (fail)
          go_wp2_with fail
          go_ret
          exact ⟨ret_bool (by rw [eq_comm, decide_eq_false_iff_not]; intro h; apply hxy; rw [← HX.out, ← HY.out]; simp [h]), hbw.trans ⟨rfl, rfl, rfl, Nat.le_refl _, fun _ _ => rfl⟩⟩
      · go_wp2_with fail
        go_ret
        have he : xs = ys := by have h := HP.out; rw [List.take_of_length_le (by omega), List.take_of_length_le (by have := HL.out; omega)] at h; exact h
        exact ⟨ret_bool (by rw [eq_comm, decide_eq_true_iff]; exact he), hbw⟩
  · have ht : ((xs.length : Int) != (ys.length : Int)) = true := by rw [bne_iff_ne]; omega
    go_enter Tryd.func20, Tryd.ntmps20
    go_wp2
    go_ret
    exact ⟨ret_bool (by rw [eq_comm, decide_eq_false_iff_not]; intro h; exact hlen (by rw [h])), Below.refl _ _⟩

set_option maxHeartbeats 1000000 in
theorem EqualL (B1 B2 : Nat) (A1 A2 : Option Addr) (c1 c2 : Nat) (xs ys : List (Int × Int)) (W : World) (h1 : Rd W B1 2 A1 xs.length (Cs encS xs)) (h2 : Rd W B2 2 A2 ys.length (Cs encS ys)) (hB1 : B1 ≤ W.heap.size) (hB2 : B2 ≤ W.heap.size)
    (hl1 : xs.length ≤ 4096) (hl2 : ys.length ≤ 4096) (r : Bool) (hr : decide (xs = ys) = r) :
    Calls Tryd.prog 27 #[.slice A1 xs.length c1, .slice A2 ys.length c2] W fun e W' => e = .returned (.bool r) ∧ Below W.heap.size W W' := by
  subst hr
  by_cases hlen : xs.length = ys.length
  · have ht : ((xs.length : Int) != (ys.length : Int)) = false := by rw [bne_eq_false_iff_eq]; omega
    have HL := hide hlen
    clear hlen
    go_enter Tryd.func27, Tryd.ntmps27
    go_wp2_with fail
    go_loopw [13] (fun i wr => ∃ k : Nat, k ≤ xs.length ∧ i = .int .i64 k ∧ xs.take k = ys.take k ∧ Below W.heap.size W wr) (fun i _ => xs.length - (intOf i).toNat)
    case atStart => exact ⟨0, Nat.zero_le _, rfl, rfl, Below.refl _ _⟩
    case round =>
      obtain ⟨k, hk, rfl, hpre, hbw⟩ := hrel
      have HP := hide hpre
      clear hpre
      by_cases hlt : k < xs.length
      · have hlt2 : k < ys.length := by have := HL.out; omega
        obtain ⟨b1, o1, rfl, hb1, hc1⟩ := (h1.below (hbw.mono hB1)).elem encS_len hlt
        obtain ⟨b2, o2, rfl, hb2, hc2⟩ := (h2.below (hbw.mono hB2)).elem encS_len hlt2
        have hd10 := hc1 0 _ (by omega) rfl
        have hd11 := hc1 1 _ (by omega) rfl
        have hd20 := hc2 0 _ (by omega) rfl
        have hd21 := hc2 1 _ (by omega) rfl
        simp only [Nat.add_zero] at hd10 hd20
        clear hc1 hc2
        have hi2 : (k : Int) < (ys.length : Int) := by omega
        generalize hx : xs[k] = x at *
        generalize hy : ys[k] = y at *
        have HX := hide hx
        have HY := hide hy
        clear hx hy
        by_cases hxy : x = y
        · subst hxy
          have hne := fun w => neqL w x x true (by simp)
          go_wp2_with fail
          go_quiet (fail)
          go_wp2_with fail
          go_roundw
          case rel => exact ⟨k + 1, by omega, by go_num, by rw [List.take_succ_eq_append_getElem hlt, List.take_succ_eq_append_getElem hlt2, HP.out, HX.out, HY.out], hbw.trans ⟨rfl, rfl, rfl, Nat.le_refl _, fun _ _ => rfl⟩⟩
          case measure => simp [intOf]; omega
        · have hne := fun w => neqL w x y false (by simpa using hxy)
          go_wp2_with fail
          go_quiet (fail)
          go_wp2_with fail
          go_ret
          exact ⟨ret_bool (by rw [eq_comm, decide_eq_false_iff_not]; intro h; apply hxy; rw [← HX.out, ← HY.out]; simp [h]), hbw.trans ⟨rfl, rfl, rfl, Nat.le_refl _, fun _ _ => rfl⟩⟩
      · go_wp2_with fail
        go_ret
        have he : xs = ys := by have h := HP.out; rw [List.take_of_length_le (by omega), List.take_of_length_le (by have := HL.out; omega)] at h; exact h
        exact ⟨ret_bool (by rw [eq_comm, decide_eq_true_iff]; exact he), hbw⟩
  · have ht : ((xs.length : Int) != (ys.length : Int)) = true := by rw [bne_iff_ne]; omega
    go_enter Tryd.func27, Tryd.ntmps27
    go_wp2
    go_ret
    exact ⟨ret_bool (by rw [eq_comm, decide_eq_false_iff_not]; intro h; exact hlen (by rw [h])), Below.refl _ _⟩

set_option maxHeartbeats 1000000 in
theorem EqualB (B1 B2 : Nat) (A1 A2 : Option Addr) (c1 c2 : Nat) (xs ys : List (Bool)) (W : World) (h1 : Rd W B1 1 A1 xs.length (Cs encB xs)) (h2 : Rd W B2 1 A2 ys.length (Cs encB ys)) (hB1 : B1 ≤ W.heap.size) (hB2 : B2 ≤ W.heap.size)
    (hl1 : xs.length ≤ 4096) (hl2 : ys.length ≤ 4096) (r : Bool) (hr : decide (xs = ys) = r) :
    Calls Tryd.prog 25 #[.slice A1 xs.length c1, .slice A2 ys.length c2] W fun e W' => e = .returned (.bool r) ∧ Below W.heap.size W W' := by
  subst hr
  by_cases hlen : xs.length = ys.length
  · have ht : ((xs.length : Int) != (ys.length : Int)) = false := by rw [bne_eq_false_iff_eq]; omega
    have HL := hide hlen
    clear hlen
    go_enter Tryd.func25, Tryd.ntmps25
    go_wp2_with fail
    go_loopw [13] (fun i wr => ∃ k : Nat, k ≤ xs.length ∧ i = .int .i64 k ∧ xs.take k = ys.take k ∧ Below W.heap.size W wr) (fun i _ => xs.length - (intOf i).toNat)
    case atStart => exact ⟨0, Nat.zero_le _, rfl, rfl, Below.refl _ _⟩
    case round =>
      obtain ⟨k, hk, rfl, hpre, hbw⟩ := hrel
      have HP := hide hpre
      clear hpre
      by_cases hlt : k < xs.length
      · have hlt2 : k < ys.length := by have := HL.out; omega
        obtain ⟨b1, o1, rfl, hb1, hc1⟩ := (h1.below (hbw.mono hB1)).elem encB_len hlt
        obtain ⟨b2, o2, rfl, hb2, hc2⟩ := (h2.below (hbw.mono hB2)).elem encB_len hlt2
        have hd10 := hc1 0 _ (by omega) rfl
        have hd20 := hc2 0 _ (by omega) rfl
        simp only [Nat.mul_one, Nat.add_zero] at hd10 hd20
        clear hc1 hc2
        have hi2 : (k : Int) < (ys.length : Int) := by omega
        generalize hx : xs[k] = x at *
        generalize hy : ys[k] = y at *
        have HX := hide hx
        have HY := hide hy
        clear hx hy
        by_cases hxy : x = y
        · subst hxy
          have hne : (x != x) = false := by simp
          go_wp2_with fail
          go_quiet (fail)
          go_wp2_with fail
          go_roundw
          case rel => exact ⟨k + 1, by omega, by go_num, by rw [List.take_succ_eq_append_getElem hlt, List.take_succ_eq_append_getElem hlt2, HP.out, HX.out, HY.out], hbw.trans ⟨rfl, rfl, rfl, Nat.le_refl _, fun _ _ => rfl⟩⟩
          case measure => simp [intOf]; omega
        · have hF : false = decide (xs = ys) := by rw [eq_comm, decide_eq_false_iff_not]; intro h; apply hxy; rw [← HX.out, ← HY.out]; simp [h]
          have HF := hide hF
          clear hF HX HY
          cases x <;> cases y <;> first
            | exact absurd rfl hxy
            | (clear hxy
               go_wp2_with fail
               go_quiet (fail)
               go_wp2_with fail
               go_ret
               exact ⟨ret_bool HF.out, hbw.trans ⟨rfl, rfl, rfl, Nat.le_refl _, fun _ _ => rfl⟩⟩)
      · go_wp2_with fail
        go_ret
        have he : xs = ys := by have h := HP.out; rw [List.take_of_length_le (by omega), List.take_of_length_le (by have := HL.out; omega)] at h; exact h
        exact ⟨ret_bool (by rw [eq_comm, decide_eq_true_iff]; exact he), hbw⟩
  · have ht : ((xs.length : Int) != (ys.length : Int)) = true := by rw [bne_iff_ne]; omega
    go_enter Tryd.func25, Tryd.ntmps25
    go_wp2
    go_ret
    exact ⟨ret_bool (by rw [eq_comm, decide_eq_false_iff_not]; intro h; exact hlen (by rw [h])), Below.refl _ _⟩

end Go.Proofs.YtegnppmmcchmgaaDoor
