/-
  Slices of words, of accesses, of what was seen, of marks: cloned, compared.
-/
import Derived.Test.YtadgihmokmfejaaProg
import Derived.Test.YtadgihmokmfejaaMore
set_option linter.unusedSimpArgs false
set_option linter.unusedVariables false
namespace Go.Proofs.Ytadgihmokmfejaa
open Go Go.RowKit
attribute [local go_sem] via_cell via_frozen

/-- who, kind, at, old, new -/
abbrev Acc := Int × Int × Int × Int × Int
/-- by, at, was, is -/
abbrev Mk := Int × Int × Int × Int
def encW (x : Int) : List Value := [.int .u64 x]
def encI (x : Int) : List Value := [.int .i64 x]
def encA (x : Acc) : List Value := [.int .i64 x.1, .int .i64 x.2.1, .int .i64 x.2.2.1, .int .u64 x.2.2.2.1, .int .u64 x.2.2.2.2]
def encS (x : Int × Bool) : List Value := [.int .u64 x.1, .bool x.2]
def encM (x : Mk) : List Value := [.int .i64 x.1, .int .i64 x.2.1, .int .u64 x.2.2.1, .int .u64 x.2.2.2]
theorem encW_len : ∀ x, (encW x).length = 1 := fun _ => rfl
theorem encI_len : ∀ x, (encI x).length = 1 := fun _ => rfl
theorem encA_len : ∀ x, (encA x).length = 5 := fun _ => rfl
theorem encS_len : ∀ x, (encS x).length = 2 := fun _ => rfl
theorem encM_len : ∀ x, (encM x).length = 4 := fun _ => rfl
theorem encW_one : ∀ x, ∀ u ∈ encW x, u.oneCell' = true := by intro x u hu; simp [encW] at hu; subst hu; rfl
theorem encI_one : ∀ x, ∀ u ∈ encI x, u.oneCell' = true := by intro x u hu; simp [encI] at hu; subst hu; rfl
theorem encA_one : ∀ x, ∀ u ∈ encA x, u.oneCell' = true := by intro x u hu; simp [encA] at hu; rcases hu with rfl | rfl | rfl | rfl | rfl <;> rfl
theorem encS_one : ∀ x, ∀ u ∈ encS x, u.oneCell' = true := by intro x u hu; simp [encS] at hu; rcases hu with rfl | rfl <;> rfl
theorem encM_one : ∀ x, ∀ u ∈ encM x, u.oneCell' = true := by intro x u hu; simp [encM] at hu; rcases hu with rfl | rfl | rfl | rfl <;> rfl

theorem elW : ElemOk Try.prog 22 31 1 8 (.int .u64 0) := ⟨Try.underlying22, by kernel_rfl, rfl, by omega, by omega, by intro u hu; simp [Value.cells] at hu; subst hu; rfl⟩
theorem elI : ElemOk Try.prog 58 3 1 8 (.int .i64 0) := ⟨Try.underlying58, by kernel_rfl, rfl, by omega, by omega, by intro u hu; simp [Value.cells] at hu; subst hu; rfl⟩
theorem elA : ElemOk Try.prog 23 37 5 40 (.agg #[.int .i64 0, .int .i64 0, .int .i64 0, .int .u64 0, .int .u64 0]) := ⟨Try.underlying23, by kernel_rfl, rfl, by omega, by omega, by intro u hu; simp [Value.cells] at hu; rcases hu with rfl | rfl | rfl | rfl | rfl <;> rfl⟩
theorem elS : ElemOk Try.prog 45 33 2 16 (.agg #[.int .u64 0, .bool false]) := ⟨Try.underlying45, by kernel_rfl, rfl, by omega, by omega, by intro u hu; simp [Value.cells] at hu; rcases hu with rfl | rfl <;> rfl⟩
theorem elM : ElemOk Try.prog 46 57 4 32 (.agg #[.int .i64 0, .int .i64 0, .int .u64 0, .int .u64 0]) := ⟨Try.underlying46, by kernel_rfl, rfl, by omega, by omega, by intro u hu; simp [Value.cells] at hu; rcases hu with rfl | rfl | rfl | rfl <;> rfl⟩

theorem neqS (w : World) (x y : Int × Bool) (r : Bool) (hr : decide (x = y) = r) :
    (binOp .neq 33 (.agg #[.int .u64 x.1, .bool x.2]) (.agg #[.int .u64 y.1, .bool y.2])).run Try.prog w = .ok (.bool (!r)) w := by
  obtain ⟨a, b⟩ := x
  obtain ⟨c, d⟩ := y
  simp only [binOp]
  simp [Op.equal, Op.maxDepth, go_sem, run_equalIn_struct]
  subst hr
  by_cases h1 : a = c <;> by_cases h2 : b = d <;> simp [h1, h2]

theorem neqM (w : World) (x y : Mk) (r : Bool) (hr : decide (x = y) = r) :
    (binOp .neq 57 (.agg #[.int .i64 x.1, .int .i64 x.2.1, .int .u64 x.2.2.1, .int .u64 x.2.2.2]) (.agg #[.int .i64 y.1, .int .i64 y.2.1, .int .u64 y.2.2.1, .int .u64 y.2.2.2])).run Try.prog w = .ok (.bool (!r)) w := by
  obtain ⟨a, b, c, d⟩ := x
  obtain ⟨a', b', c', d'⟩ := y
  simp only [binOp]
  simp [Op.equal, Op.maxDepth, go_sem, run_equalIn_struct]
  subst hr
  by_cases h1 : a = a' <;> by_cases h2 : b = b' <;> by_cases h3 : c = c' <;> by_cases h4 : d = d' <;> simp [h1, h2, h3, h4]

set_option maxHeartbeats 400000 in
theorem CloneW (B : Nat) (A : Option Addr) (n c : Nat) (xs : List Value) (W : World) (hr : Rd W B 1 A n xs) (hB : B ≤ W.heap.size) (h1 : ∀ u ∈ xs, u.oneCell' = true) (hb : n ≤ 4096) :
    Calls Try.prog 22 #[.slice A n c] W fun e W' => ∃ v, e = .returned v ∧ W'.ownsRow W.heap.size 31 1 v n xs ∧ Below W.heap.size W W' := by
  cases A with
  | none =>
    obtain rfl := rd_none hr
    obtain rfl := hr.nil
    have hn := fun w => Lib.run_eql_slice_nil (P := Try.prog) w 22 31 none 0 c 0 0 Try.underlying22
    go_enter Try.func22, Try.ntmps22
    go_wp2
    go_ret
    exact ⟨_, rfl, World.ownsRow_nil _ _ _ _, Below.refl _ _⟩
  | some a =>
    have hn := fun w => Lib.run_eql_slice_nil (P := Try.prog) w 22 31 (some a) n c 0 0 Try.underlying22
    have hown := World.ownsRow_lit (base := W.heap.size) (e := 31) (size := 1) W #[] 0 (Nat.le_refl _) (by simp [maxLen]) rfl
    go_enter Try.func22, Try.ntmps22
    go_wp2_with (at_builtin; refine wpList_app elW rfl _ _ rfl rfl hown rfl (hr.alloc hB _) h1 (by omega) (by simp) ?_; intro v1 w1 hown1 hb1 _ _)
    go_ret
    exact ⟨v1, rfl, by simpa using hown1, ((Below.refl _ _).alloc (Nat.le_refl _) _).trans hb1⟩

set_option maxHeartbeats 400000 in
theorem CloneI (B : Nat) (A : Option Addr) (n c : Nat) (xs : List Value) (W : World) (hr : Rd W B 1 A n xs) (hB : B ≤ W.heap.size) (h1 : ∀ u ∈ xs, u.oneCell' = true) (hb : n ≤ 4096) :
    Calls Try.prog 29 #[.slice A n c] W fun e W' => ∃ v, e = .returned v ∧ W'.ownsRow W.heap.size 3 1 v n xs ∧ Below W.heap.size W W' := by
  cases A with
  | none =>
    obtain rfl := rd_none hr
    obtain rfl := hr.nil
    have hn := fun w => Lib.run_eql_slice_nil (P := Try.prog) w 58 3 none 0 c 0 0 Try.underlying58
    go_enter Try.func29, Try.ntmps29
    go_wp2
    go_ret
    exact ⟨_, rfl, World.ownsRow_nil _ _ _ _, Below.refl _ _⟩
  | some a =>
    have hn := fun w => Lib.run_eql_slice_nil (P := Try.prog) w 58 3 (some a) n c 0 0 Try.underlying58
    have hown := World.ownsRow_lit (base := W.heap.size) (e := 3) (size := 1) W #[] 0 (Nat.le_refl _) (by simp [maxLen]) rfl
    go_enter Try.func29, Try.ntmps29
    go_wp2_with (at_builtin; refine wpList_app elI rfl _ _ rfl rfl hown rfl (hr.alloc hB _) h1 (by omega) (by simp) ?_; intro v1 w1 hown1 hb1 _ _)
    go_ret
    exact ⟨v1, rfl, by simpa using hown1, ((Below.refl _ _).alloc (Nat.le_refl _) _).trans hb1⟩

set_option maxHeartbeats 400000 in
theorem CloneA (B : Nat) (A : Option Addr) (n c : Nat) (xs : List Value) (W : World) (hr : Rd W B 5 A n xs) (hB : B ≤ W.heap.size) (h1 : ∀ u ∈ xs, u.oneCell' = true) (hb : n ≤ 4096) :
    Calls Try.prog 21 #[.slice A n c] W fun e W' => ∃ v, e = .returned v ∧ W'.ownsRow W.heap.size 37 5 v n xs ∧ Below W.heap.size W W' := by
  cases A with
  | none =>
    obtain rfl := rd_none hr
    obtain rfl := hr.nil
    have hn := fun w => Lib.run_eql_slice_nil (P := Try.prog) w 23 37 none 0 c 0 0 Try.underlying23
    go_enter Try.func21, Try.ntmps21
    go_wp2
    go_ret
    exact ⟨_, rfl, World.ownsRow_nil _ _ _ _, Below.refl _ _⟩
  | some a =>
    have hn := fun w => Lib.run_eql_slice_nil (P := Try.prog) w 23 37 (some a) n c 0 0 Try.underlying23
    have hown := World.ownsRow_lit (base := W.heap.size) (e := 37) (size := 5) W #[] 0 (Nat.le_refl _) (by simp [maxLen]) rfl
    go_enter Try.func21, Try.ntmps21
    go_wp2_with (at_builtin; refine wpList_app elA rfl _ _ rfl rfl hown rfl (hr.alloc hB _) h1 (by omega) (by simp) ?_; intro v1 w1 hown1 hb1 _ _)
    go_ret
    exact ⟨v1, rfl, by simpa using hown1, ((Below.refl _ _).alloc (Nat.le_refl _) _).trans hb1⟩

set_option maxHeartbeats 400000 in
theorem CloneM (B : Nat) (A : Option Addr) (n c : Nat) (xs : List Value) (W : World) (hr : Rd W B 4 A n xs) (hB : B ≤ W.heap.size) (h1 : ∀ u ∈ xs, u.oneCell' = true) (hb : n ≤ 4096) :
    Calls Try.prog 26 #[.slice A n c] W fun e W' => ∃ v, e = .returned v ∧ W'.ownsRow W.heap.size 57 4 v n xs ∧ Below W.heap.size W W' := by
  cases A with
  | none =>
    obtain rfl := rd_none hr
    obtain rfl := hr.nil
    have hn := fun w => Lib.run_eql_slice_nil (P := Try.prog) w 46 57 none 0 c 0 0 Try.underlying46
    go_enter Try.func26, Try.ntmps26
    go_wp2
    go_ret
    exact ⟨_, rfl, World.ownsRow_nil _ _ _ _, Below.refl _ _⟩
  | some a =>
    have hn := fun w => Lib.run_eql_slice_nil (P := Try.prog) w 46 57 (some a) n c 0 0 Try.underlying46
    have hown := World.ownsRow_lit (base := W.heap.size) (e := 57) (size := 4) W #[] 0 (Nat.le_refl _) (by simp [maxLen]) rfl
    go_enter Try.func26, Try.ntmps26
    go_wp2_with (at_builtin; refine wpList_app elM rfl _ _ rfl rfl hown rfl (hr.alloc hB _) h1 (by omega) (by simp) ?_; intro v1 w1 hown1 hb1 _ _)
    go_ret
    exact ⟨v1, rfl, by simpa using hown1, ((Below.refl _ _).alloc (Nat.le_refl _) _).trans hb1⟩

set_option maxHeartbeats 1000000 in
theorem EqualW (B1 B2 : Nat) (A1 A2 : Option Addr) (c1 c2 : Nat) (xs ys : List (Int)) (W : World) (h1 : Rd W B1 1 A1 xs.length (Cs encW xs)) (h2 : Rd W B2 1 A2 ys.length (Cs encW ys)) (hB1 : B1 ≤ W.heap.size) (hB2 : B2 ≤ W.heap.size)
    (hl1 : xs.length ≤ 4096) (hl2 : ys.length ≤ 4096) (r : Bool) (hr : decide (xs = ys) = r) :
    Calls Try.prog 19 #[.slice A1 xs.length c1, .slice A2 ys.length c2] W fun e W' => e = .returned (.bool r) ∧ Below W.heap.size W W' := by
  subst hr
  by_cases hlen : xs.length = ys.length
  · have ht : ((xs.length : Int) != (ys.length : Int)) = false := by rw [bne_eq_false_iff_eq]; omega
    have HL := hide hlen
    clear hlen
    go_enter Try.func19, Try.ntmps19
    go_wp2_with fail
    go_loopw [13] (fun i wr => ∃ k : Nat, k ≤ xs.length ∧ i = .int .i64 k ∧ xs.take k = ys.take k ∧ Below W.heap.size W wr) (fun i _ => xs.length - (intOf i).toNat)
    case atStart => exact ⟨0, Nat.zero_le _, rfl, rfl, Below.refl _ _⟩
    case round =>
      obtain ⟨k, hk, rfl, hpre, hbw⟩ := hrel
      have HP := hide hpre
      clear hpre
      by_cases hlt : k < xs.length
      · have hlt2 : k < ys.length := by have := HL.out; omega
        obtain ⟨b1, o1, rfl, hb1, hc1⟩ := (h1.below (hbw.mono hB1)).elem encW_len hlt
        obtain ⟨b2, o2, rfl, hb2, hc2⟩ := (h2.below (hbw.mono hB2)).elem encW_len hlt2
        have hd10 := hc1 0 _ (by omega) rfl
        have hd20 := hc2 0 _ (by omega) rfl
        simp only [Nat.mul_one, Nat.add_zero] at hd10 hd20
        clear hc1 hc2
        have hi2 : (k : Int) < (ys.length : Int) := by omega
        generalize hx : xs[k] = x at *
        generalize hy : ys[k] = y at *
        have HX := hide hx
        have HY := hide hy
        clear hx hy
        by_cases hxy : x = y
        · subst hxy
          have hne : (x != x) = false := by simp
          go_wp2_with fail
          go_quiet (fail)
          go_wp2_with fail
          go_roundw
          case rel => exact ⟨k + 1, by omega, by go_num, by rw [List.take_succ_eq_append_getElem hlt, List.take_succ_eq_append_getElem hlt2, HP.out, HX.out, HY.out], hbw.trans ⟨rfl, rfl, rfl, Nat.le_refl _, fun _ _ => rfl⟩⟩
          case measure => simp [intOf]; omega
        · have hne : (x != y) = true := by simpa using hxy
          go_wp2_with fail
          go_quiet (fail)
          go_wp2_with fail
          go_ret
          exact ⟨ret_bool (by rw [eq_comm, decide_eq_false_iff_not]; intro h; apply hxy; rw [← HX.out, ← HY.out]; simp [h]), hbw.trans ⟨rfl, rfl, rfl, Nat.le_refl _, fun _ _ => rfl⟩⟩
      · go_wp2_with fail
        go_ret
        have he : xs = ys := by have h := HP.out; rw [List.take_of_length_le (by omega), List.take_of_length_le (by have := HL.out; omega)] at h; exact h
        exact ⟨ret_bool (by rw [eq_comm, decide_eq_true_iff]; exact he), hbw⟩
  · have ht : ((xs.length : Int) != (ys.length : Int)) = true := by rw [bne_iff_ne]; omega
    go_enter Try.func19, Try.ntmps19
    go_wp2
    go_ret
    exact ⟨ret_bool (by rw [eq_comm, decide_eq_false_iff_not]; intro h; exact hlen (by rw [h])), Below.refl _ _⟩

set_option maxHeartbeats 1000000 in
theorem EqualS (B1 B2 : Nat) (A1 A2 : Option Addr) (c1 c2 : Nat) (xs ys : List (Int × Bool)) (W : World) (h1 : Rd W B1 2 A1 xs.length (Cs encS xs)) (h2 : Rd W B2 2 A2 ys.length (Cs encS ys)) (hB1 : B1 ≤ W.heap.size) (hB2 : B2 ≤ W.heap.size)
    (hl1 : xs.length ≤ 4096) (hl2 : ys.length ≤ 4096) (r : Bool) (hr : decide (xs = ys) = r) :
    Calls Try.prog 24 #[.slice A1 xs.length c1, .slice A2 ys.length c2] W fun e W' => e = .returned (.bool r) ∧ Below W.heap.size W W' := by
  subst hr
  by_cases hlen : xs.length = ys.length
  · have ht : ((xs.length : Int) != (ys.length : Int)) = false := by rw [bne_eq_false_iff_eq]; omega
    have HL := hide hlen
    clear hlen
    go_enter Try.func24, Try.ntmps24
    go_wp2_with fail
    go_loopw [13] (fun i wr => ∃ k : Nat, k ≤ xs.length ∧ i = .int .i64 k ∧ xs.take k = ys.take k ∧ Below W.heap.size W wr) (fun i _ => xs.length - (intOf i).toNat)
    case atStart => exact ⟨0, Nat.zero_le _, rfl, rfl, Below.refl _ _⟩
    case round =>
      obtain ⟨k, hk, rfl, hpre, hbw⟩ := hrel
      have HP := hide hpre
      clear hpre
      by_cases hlt : k < xs.length
      · have hlt2 : k < ys.length := by have := HL.out; omega
        obtain ⟨b1, o1, rfl, hb1, hc1⟩ := (h1.below (hbw.mono hB1)).elem encS_len hlt
        obtain ⟨b2, o2, rfl, hb2, hc2⟩ := (h2.below (hbw.mono hB2)).elem encS_len hlt2
        have hd10 := hc1 0 _ (by omega) rfl
        have hd11 := hc1 1 _ (by omega) rfl
        have hd20 := hc2 0 _ (by omega) rfl
        have hd21 := hc2 1 _ (by omega) rfl
        simp only [Nat.add_zero] at hd10 hd20
        clear hc1 hc2
        have hi2 : (k : Int) < (ys.length : Int) := by omega
        generalize hx : xs[k] = x at *
        generalize hy : ys[k] = y at *
        have HX := hide hx
        have HY := hide hy
        clear hx hy
        by_cases hxy : x = y
        · subst hxy
          have hne := fun w => neqS w x x true (by simp)
          go_wp2_with fail
          go_quiet (fail)
          go_wp2_with fail
          go_roundw
          case rel => exact ⟨k + 1, by omega, by go_num, by rw [List.take_succ_eq_append_getElem hlt, List.take_succ_eq_append_getElem hlt2, HP.out, HX.out, HY.out], hbw.trans ⟨rfl, rfl, rfl, Nat.le_refl _, fun _ _ => rfl⟩⟩
          case measure => simp [intOf]; omega
        · have hne := fun w => neqS w x y false (by simpa using hxy)
          go_wp2_with fail
          go_quiet (fail)
          go_wp2_with fail
          go_ret
          exact ⟨ret_bool (by rw [eq_comm, decide_eq_false_iff_not]; intro h; apply hxy; rw [← HX.out, ← HY.out]; simp [h]), hbw.trans ⟨rfl, rfl, rfl, Nat.le_refl _, fun _ _ => rfl⟩⟩
      · go_wp2_with fail
        go_ret
        have he : xs = ys := by have h := HP.out; rw [List.take_of_length_le (by omega), List.take_of_length_le (by have := HL.out; omega)] at h; exact h
        exact ⟨ret_bool (by rw [eq_comm, decide_eq_true_iff]; exact he), hbw⟩
  · have ht : ((xs.length : Int) != (ys.length : Int)) = true := by rw [bne_iff_ne]; omega
    go_enter Try.func24, Try.ntmps24
    go_wp2
    go_ret
    exact ⟨ret_bool (by rw [eq_comm, decide_eq_false_iff_not]; intro h; exact hlen (by rw [h])), Below.refl _ _⟩

set_option maxHeartbeats 1000000 in
theorem EqualM (B1 B2 : Nat) (A1 A2 : Option Addr) (c1 c2 : Nat) (xs ys : List (Mk)) (W : World) (h1 : Rd W B1 4 A1 xs.length (Cs encM xs)) (h2 : Rd W B2 4 A2 ys.length (Cs encM ys)) (hB1 : B1 ≤ W.heap.size) (hB2 : B2 ≤ W.heap.size)
    (hl1 : xs.length ≤ 4096) (hl2 : ys.length ≤ 4096) (r : Bool) (hr : decide (xs = ys) = r) :
    Calls Try.prog 25 #[.slice A1 xs.length c1, .slice A2 ys.length c2] W fun e W' => e = .returned (.bool r) ∧ Below W.heap.size W W' := by
  subst hr
  by_cases hlen : xs.length = ys.length
  · have ht : ((xs.length : Int) != (ys.length : Int)) = false := by rw [bne_eq_false_iff_eq]; omega
    have HL := hide hlen
    clear hlen
    go_enter Try.func25, Try.ntmps25
    go_wp2_with fail
    go_loopw [13] (fun i wr => ∃ k : Nat, k ≤ xs.length ∧ i = .int .i64 k ∧ xs.take k = ys.take k ∧ Below W.heap.size W wr) (fun i _ => xs.length - (intOf i).toNat)
    case atStart => exact ⟨0, Nat.zero_le _, rfl, rfl, Below.refl _ _⟩
    case round =>
      obtain ⟨k, hk, rfl, hpre, hbw⟩ := hrel
      have HP := hide hpre
      clear hpre
      by_cases hlt : k < xs.length
      · have hlt2 : k < ys.length := by have := HL.out; omega
        obtain ⟨b1, o1, rfl, hb1, hc1⟩ := (h1.below (hbw.mono hB1)).elem encM_len hlt
        obtain ⟨b2, o2, rfl, hb2, hc2⟩ := (h2.below (hbw.mono hB2)).elem encM_len hlt2
        have hd10 := hc1 0 _ (by omega) rfl
        have hd11 := hc1 1 _ (by omega) rfl
        have hd12 := hc1 2 _ (by omega) rfl
        have hd13 := hc1 3 _ (by omega) rfl
        have hd20 := hc2 0 _ (by omega) rfl
        have hd21 := hc2 1 _ (by omega) rfl
        have hd22 := hc2 2 _ (by omega) rfl
        have hd23 := hc2 3 _ (by omega) rfl
        simp only [Nat.add_zero] at hd10 hd20
        clear hc1 hc2
        have hi2 : (k : Int) < (ys.length : Int) := by omega
        generalize hx : xs[k] = x at *
        generalize hy : ys[k] = y at *
        have HX := hide hx
        have HY := hide hy
        clear hx hy
        by_cases hxy : x = y
        · subst hxy
          have hne := fun w => neqM w x x true (by simp)
          go_wp2_with fail
          go_quiet (fail)
          go_wp2_with fail
          go_roundw
          case rel => exact ⟨k + 1, by omega, by go_num, by rw [List.take_succ_eq_append_getElem hlt, List.take_succ_eq_append_getElem hlt2, HP.out, HX.out, HY.out], hbw.trans ⟨rfl, rfl, rfl, Nat.le_refl _, fun _ _ => rfl⟩⟩
          case measure => simp [intOf]; omega
        · have hne := fun w => neqM w x y false (by simpa using hxy)
          go_wp2_with fail
          go_quiet (fail)
          go_wp2_with fail
          go_ret
          exact ⟨ret_bool (by rw [eq_comm, decide_eq_false_iff_not]; intro h; apply hxy; rw [← HX.out, ← HY.out]; simp [h]), hbw.trans ⟨rfl, rfl, rfl, Nat.le_refl _, fun _ _ => rfl⟩⟩
      · go_wp2_with fail
        go_ret
        have he : xs = ys := by have h := HP.out; rw [List.take_of_length_le (by omega), List.take_of_length_le (by have := HL.out; omega)] at h; exact h
        exact ⟨ret_bool (by rw [eq_comm, decide_eq_true_iff]; exact he), hbw⟩
  · have ht : ((xs.length : Int) != (ys.length : Int)) = true := by rw [bne_iff_ne]; omega
    go_enter Try.func25, Try.ntmps25
    go_wp2
    go_ret
    exact ⟨ret_bool (by rw [eq_comm, decide_eq_false_iff_not]; intro h; exact hlen (by rw [h])), Below.refl _ _⟩

end Go.Proofs.Ytadgihmokmfejaa
