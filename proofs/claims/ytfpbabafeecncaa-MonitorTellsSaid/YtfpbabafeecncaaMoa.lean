/-
  Slices of bools and of watches: cloned, compared, searched; entries searched; ints compared.
-/
import Derived.Test.YtfpbabafeecncaaAra
import Derived.BigQuiet
set_option linter.unusedSimpArgs false
set_option linter.unusedVariables false
namespace Go.Proofs.Ytfpbabafeecncaa
open Go Go.RowKit
attribute [local go_sem] via_cell via_frozen

/-- Something watched: its kind, who, the entry. -/
abbrev Wt := Int × Int × Int × Int
def encB (x : Bool) : List Value := [.bool x]
theorem encB_len : ∀ x, (encB x).length = 1 := fun _ => rfl
theorem encB_one : ∀ x, ∀ u ∈ encB x, u.oneCell' = true := by intro x u hu; simp [encB] at hu; subst hu; rfl
theorem elB : ElemOk Try.prog 28 4 1 1 (.bool false) := ⟨Try.underlying28, by kernel_rfl, rfl, by omega, by omega, by intro u hu; simp [Value.cells] at hu; subst hu; rfl⟩
def encX (x : Wt) : List Value := [.int .i64 x.1, .int .i64 x.2.1, .int .i64 x.2.2.1, .int .u64 x.2.2.2]
theorem encX_len : ∀ x, (encX x).length = 4 := fun _ => rfl
theorem encX_one : ∀ x, ∀ u ∈ encX x, u.oneCell' = true := by intro x u hu; simp [encX] at hu; rcases hu with rfl | rfl | rfl | rfl <;> rfl
theorem elX : ElemOk Try.prog 30 45 4 32 (.agg #[.int .i64 0, .int .i64 0, .int .i64 0, .int .u64 0]) := ⟨Try.underlying30, by kernel_rfl, rfl, by omega, by omega, by intro u hu; simp [Value.cells] at hu; rcases hu with rfl | rfl | rfl | rfl <;> rfl⟩
abbrev xC (x : Wt) : Array Value := #[.int .i64 x.1, .int .i64 x.2.1, .int .i64 x.2.2.1, .int .u64 x.2.2.2]
theorem neqX (w : World) (x y : Wt) (r : Bool) (hr : decide (x = y) = r) :
    (binOp .neq 45 (.agg #[.int .i64 x.1, .int .i64 x.2.1, .int .i64 x.2.2.1, .int .u64 x.2.2.2]) (.agg #[.int .i64 y.1, .int .i64 y.2.1, .int .i64 y.2.2.1, .int .u64 y.2.2.2])).run Try.prog w = .ok (.bool (!r)) w := by
  obtain ⟨a1, a2, a3, a4⟩ := x
  obtain ⟨b1, b2, b3, b4⟩ := y
  simp only [binOp]
  simp [Op.equal, Op.maxDepth, go_sem, run_equalIn_struct]
  subst hr
  by_cases h1 : a1 = b1 <;> by_cases h2 : a2 = b2 <;> by_cases h3 : a3 = b3 <;> by_cases h4 : a4 = b4 <;> simp [h1, h2, h3, h4]
theorem eqlE (w : World) (x y : Int × Int) (r : Bool) (hr : decide (x = y) = r) :
    (binOp .eql 43 (.agg #[.int .i64 x.1, .int .u64 x.2]) (.agg #[.int .i64 y.1, .int .u64 y.2])).run Try.prog w = .ok (.bool r) w := by
  obtain ⟨a, b⟩ := x
  obtain ⟨c, d⟩ := y
  simp only [binOp]
  simp [Op.equal, Op.maxDepth, go_sem, run_equalIn_struct]
  subst hr
  by_cases h1 : a = c <;> by_cases h2 : b = d <;> simp [h1, h2]

set_option maxHeartbeats 400000 in
theorem CloneB (B : Nat) (A : Option Addr) (n c : Nat) (xs : List Value) (W : World) (hr : Rd W B 1 A n xs) (hB : B ≤ W.heap.size) (h1 : ∀ u ∈ xs, u.oneCell' = true) (hb : n ≤ 4096) :
    Calls Try.prog 47 #[.slice A n c] W fun e W' => ∃ v, e = .returned v ∧ W'.ownsRow W.heap.size 4 1 v n xs ∧ Below W.heap.size W W' := by
  cases A with
  | none =>
    obtain rfl := rd_none hr
    obtain rfl := hr.nil
    have hn := fun w => Lib.run_eql_slice_nil (P := Try.prog) w 28 4 none 0 c 0 0 Try.underlying28
    go_enter Try.func47, Try.ntmps47
    go_wp2
    go_ret
    exact ⟨_, rfl, World.ownsRow_nil _ _ _ _, Below.refl _ _⟩
  | some a =>
    have hn := fun w => Lib.run_eql_slice_nil (P := Try.prog) w 28 4 (some a) n c 0 0 Try.underlying28
    have hown := World.ownsRow_lit (base := W.heap.size) (e := 4) (size := 1) W #[] 0 (Nat.le_refl _) (by simp [maxLen]) rfl
    go_enter Try.func47, Try.ntmps47
    go_wp2_with (at_builtin; refine wpList_app elB rfl _ _ rfl rfl hown rfl (hr.alloc hB _) h1 (by omega) (by simp) ?_; intro v1 w1 hown1 hb1 _ _)
    go_ret
    exact ⟨v1, rfl, by simpa using hown1, ((Below.refl _ _).alloc (Nat.le_refl _) _).trans hb1⟩

set_option maxHeartbeats 400000 in
theorem CloneX (B : Nat) (A : Option Addr) (n c : Nat) (xs : List Value) (W : World) (hr : Rd W B 4 A n xs) (hB : B ≤ W.heap.size) (h1 : ∀ u ∈ xs, u.oneCell' = true) (hb : n ≤ 4096) :
    Calls Try.prog 48 #[.slice A n c] W fun e W' => ∃ v, e = .returned v ∧ W'.ownsRow W.heap.size 45 4 v n xs ∧ Below W.heap.size W W' := by
  cases A with
  | none =>
    obtain rfl := rd_none hr
    obtain rfl := hr.nil
    have hn := fun w => Lib.run_eql_slice_nil (P := Try.prog) w 30 45 none 0 c 0 0 Try.underlying30
    go_enter Try.func48, Try.ntmps48
    go_wp2
    go_ret
    exact ⟨_, rfl, World.ownsRow_nil _ _ _ _, Below.refl _ _⟩
  | some a =>
    have hn := fun w => Lib.run_eql_slice_nil (P := Try.prog) w 30 45 (some a) n c 0 0 Try.underlying30
    have hown := World.ownsRow_lit (base := W.heap.size) (e := 45) (size := 4) W #[] 0 (Nat.le_refl _) (by simp [maxLen]) rfl
    go_enter Try.func48, Try.ntmps48
    go_wp2_with (at_builtin; refine wpList_app elX rfl _ _ rfl rfl hown rfl (hr.alloc hB _) h1 (by omega) (by simp) ?_; intro v1 w1 hown1 hb1 _ _)
    go_ret
    exact ⟨v1, rfl, by simpa using hown1, ((Below.refl _ _).alloc (Nat.le_refl _) _).trans hb1⟩

set_option maxHeartbeats 1000000 in
theorem EqualB (B1 B2 : Nat) (A1 A2 : Option Addr) (c1 c2 : Nat) (xs ys : List (Bool)) (W : World) (h1 : Rd W B1 1 A1 xs.length (Cs encB xs)) (h2 : Rd W B2 1 A2 ys.length (Cs encB ys)) (hB1 : B1 ≤ W.heap.size) (hB2 : B2 ≤ W.heap.size)
    (hl1 : xs.length ≤ 4096) (hl2 : ys.length ≤ 4096) (r : Bool) (hr : decide (xs = ys) = r) :
    Calls Try.prog 55 #[.slice A1 xs.length c1, .slice A2 ys.length c2] W fun e W' => e = .returned (.bool r) ∧ Below W.heap.size W W' := by
  subst hr
  by_cases hlen : xs.length = ys.length
  · have ht : ((xs.length : Int) != (ys.length : Int)) = false := by rw [bne_eq_false_iff_eq]; omega
    have HL := hide hlen
    clear hlen
    go_enter Try.func55, Try.ntmps55
    go_wp2_with fail
    go_loopw [13] (fun i wr => ∃ k : Nat, k ≤ xs.length ∧ i = .int .i64 k ∧ xs.take k = ys.take k ∧ Below W.heap.size W wr) (fun i _ => xs.length - (intOf i).toNat)
    case atStart => exact ⟨0, Nat.zero_le _, rfl, rfl, Below.refl _ _⟩
    case round =>
      obtain ⟨k, hk, rfl, hpre, hbw⟩ := hrel
      have HP := hide hpre
      clear hpre
      by_cases hlt : k < xs.length
      · have hlt2 : k < ys.length := by have := HL.out; omega
        obtain ⟨b1, o1, rfl, hb1, hc1⟩ := (h1.below (hbw.mono hB1)).elem encB_len hlt
        obtain ⟨b2, o2, rfl, hb2, hc2⟩ := (h2.below (hbw.mono hB2)).elem encB_len hlt2
        have hd10 := hc1 0 _ (by omega) rfl
        have hd20 := hc2 0 _ (by omega) rfl
        simp only [Nat.mul_one, Nat.add_zero] at hd10 hd20
        clear hc1 hc2
        have hi2 : (k : Int) < (ys.length : Int) := by omega
        generalize hx : xs[k] = x at *
        generalize hy : ys[k] = y at *
        have HX := hide hx
        have HY := hide hy
        clear hx hy
        by_cases hxy : x = y
        · subst hxy
          have hne : (x == x) = true := by simp
          go_wp2_with fail
          go_quiet (fail)
          go_wp2_with fail
          go_roundw
          case rel => exact ⟨k + 1, by omega, by go_num, by rw [List.take_succ_eq_append_getElem hlt, List.take_succ_eq_append_getElem hlt2, HP.out, HX.out, HY.out], hbw.trans ⟨rfl, rfl, rfl, Nat.le_refl _, fun _ _ => rfl⟩⟩
          case measure => simp [intOf]; omega
        · have hne : (x == y) = false := by simpa using hxy
          go_wp2_with fail
          go_quiet (fail)
          go_wp2_with fail
          go_ret
          exact ⟨ret_bool (by rw [eq_comm, decide_eq_false_iff_not]; intro h; apply hxy; rw [← HX.out, ← HY.out]; simp [h]), hbw.trans ⟨rfl, rfl, rfl, Nat.le_refl _, fun _ _ => rfl⟩⟩
      · go_wp2_with fail
        go_ret
        have he : xs = ys := by have h := HP.out; rw [List.take_of_length_le (by omega), List.take_of_length_le (by have := HL.out; omega)] at h; exact h
        exact ⟨ret_bool (by rw [eq_comm, decide_eq_true_iff]; exact he), hbw⟩
  · have ht : ((xs.length : Int) != (ys.length : Int)) = true := by rw [bne_iff_ne]; omega
    go_enter Try.func55, Try.ntmps55
    go_wp2
    go_ret
    exact ⟨ret_bool (by rw [eq_comm, decide_eq_false_iff_not]; intro h; exact hlen (by rw [h])), Below.refl _ _⟩

set_option maxHeartbeats 1000000 in
theorem EqualX (B1 B2 : Nat) (A1 A2 : Option Addr) (c1 c2 : Nat) (xs ys : List (Wt)) (W : World) (h1 : Rd W B1 4 A1 xs.length (Cs encX xs)) (h2 : Rd W B2 4 A2 ys.length (Cs encX ys)) (hB1 : B1 ≤ W.heap.size) (hB2 : B2 ≤ W.heap.size)
    (hl1 : xs.length ≤ 4096) (hl2 : ys.length ≤ 4096) (r : Bool) (hr : decide (xs = ys) = r) :
    Calls Try.prog 28 #[.slice A1 xs.length c1, .slice A2 ys.length c2] W fun e W' => e = .returned (.bool r) ∧ Below W.heap.size W W' := by
  subst hr
  by_cases hlen : xs.length = ys.length
  · have ht : ((xs.length : Int) != (ys.length : Int)) = false := by rw [bne_eq_false_iff_eq]; omega
    have HL := hide hlen
    clear hlen
    go_enter Try.func28, Try.ntmps28
    go_wp2_with fail
    go_loopw [13] (fun i wr => ∃ k : Nat, k ≤ xs.length ∧ i = .int .i64 k ∧ xs.take k = ys.take k ∧ Below W.heap.size W wr) (fun i _ => xs.length - (intOf i).toNat)
    case atStart => exact ⟨0, Nat.zero_le _, rfl, rfl, Below.refl _ _⟩
    case round =>
      obtain ⟨k, hk, rfl, hpre, hbw⟩ := hrel
      have HP := hide hpre
      clear hpre
      by_cases hlt : k < xs.length
      · have hlt2 : k < ys.length := by have := HL.out; omega
        obtain ⟨b1, o1, rfl, hb1, hc1⟩ := (h1.below (hbw.mono hB1)).elem encX_len hlt
        obtain ⟨b2, o2, rfl, hb2, hc2⟩ := (h2.below (hbw.mono hB2)).elem encX_len hlt2
        have hd10 := hc1 0 _ (by omega) rfl
        have hd11 := hc1 1 _ (by omega) rfl
        have hd12 := hc1 2 _ (by omega) rfl
        have hd13 := hc1 3 _ (by omega) rfl
        have hd20 := hc2 0 _ (by omega) rfl
        have hd21 := hc2 1 _ (by omega) rfl
        have hd22 := hc2 2 _ (by omega) rfl
        have hd23 := hc2 3 _ (by omega) rfl
        simp only [Nat.add_zero] at hd10 hd20
        clear hc1 hc2
        have hi2 : (k : Int) < (ys.length : Int) := by omega
        generalize hx : xs[k] = x at *
        generalize hy : ys[k] = y at *
        have HX := hide hx
        have HY := hide hy
        clear hx hy
        by_cases hxy : x = y
        · subst hxy
          have hne := fun w => neqX w x x true (by simp)
          go_wp2_with fail
          go_quiet (fail)
          go_wp2_with fail
          go_roundw
          case rel => exact ⟨k + 1, by omega, by go_num, by rw [List.take_succ_eq_append_getElem hlt, List.take_succ_eq_append_getElem hlt2, HP.out, HX.out, HY.out], hbw.trans ⟨rfl, rfl, rfl, Nat.le_refl _, fun _ _ => rfl⟩⟩
          case measure => simp [intOf]; omega
        · have hne := fun w => neqX w x y false (by simpa using hxy)
          go_wp2_with fail
          go_quiet (fail)
          go_wp2_with fail
          go_ret
          exact ⟨ret_bool (by rw [eq_comm, decide_eq_false_iff_not]; intro h; apply hxy; rw [← HX.out, ← HY.out]; simp [h]), hbw.trans ⟨rfl, rfl, rfl, Nat.le_refl _, fun _ _ => rfl⟩⟩
      · go_wp2_with fail
        go_ret
        have he : xs = ys := by have h := HP.out; rw [List.take_of_length_le (by omega), List.take_of_length_le (by have := HL.out; omega)] at h; exact h
        exact ⟨ret_bool (by rw [eq_comm, decide_eq_true_iff]; exact he), hbw⟩
  · have ht : ((xs.length : Int) != (ys.length : Int)) = true := by rw [bne_iff_ne]; omega
    go_enter Try.func28, Try.ntmps28
    go_wp2
    go_ret
    exact ⟨ret_bool (by rw [eq_comm, decide_eq_false_iff_not]; intro h; exact hlen (by rw [h])), Below.refl _ _⟩

set_option maxHeartbeats 1000000 in
theorem EqualI (B1 B2 : Nat) (A1 A2 : Option Addr) (c1 c2 : Nat) (xs ys : List (Int)) (W : World) (h1 : Rd W B1 1 A1 xs.length (Cs encI xs)) (h2 : Rd W B2 1 A2 ys.length (Cs encI ys)) (hB1 : B1 ≤ W.heap.size) (hB2 : B2 ≤ W.heap.size)
    (hl1 : xs.length ≤ 4096) (hl2 : ys.length ≤ 4096) (r : Bool) (hr : decide (xs = ys) = r) :
    Calls Try.prog 27 #[.slice A1 xs.length c1, .slice A2 ys.length c2] W fun e W' => e = .returned (.bool r) ∧ Below W.heap.size W W' := by
  subst hr
  by_cases hlen : xs.length = ys.length
  · have ht : ((xs.length : Int) != (ys.length : Int)) = false := by rw [bne_eq_false_iff_eq]; omega
    have HL := hide hlen
    clear hlen
    go_enter Try.func27, Try.ntmps27
    go_wp2_with fail
    go_loopw [13] (fun i wr => ∃ k : Nat, k ≤ xs.length ∧ i = .int .i64 k ∧ xs.take k = ys.take k ∧ Below W.heap.size W wr) (fun i _ => xs.length - (intOf i).toNat)
    case atStart => exact ⟨0, Nat.zero_le _, rfl, rfl, Below.refl _ _⟩
    case round =>
      obtain ⟨k, hk, rfl, hpre, hbw⟩ := hrel
      have HP := hide hpre
      clear hpre
      by_cases hlt : k < xs.length
      · have hlt2 : k < ys.length := by have := HL.out; omega
        obtain ⟨b1, o1, rfl, hb1, hc1⟩ := (h1.below (hbw.mono hB1)).elem encI_len hlt
        obtain ⟨b2, o2, rfl, hb2, hc2⟩ := (h2.below (hbw.mono hB2)).elem encI_len hlt2
        have hd10 := hc1 0 _ (by omega) rfl
        have hd20 := hc2 0 _ (by omega) rfl
        simp only [Nat.mul_one, Nat.add_zero] at hd10 hd20
        clear hc1 hc2
        have hi2 : (k : Int) < (ys.length : Int) := by omega
        generalize hx : xs[k] = x at *
        generalize hy : ys[k] = y at *
        have HX := hide hx
        have HY := hide hy
        clear hx hy
        by_cases hxy : x = y
        · subst hxy
          have hne : (x != x) = false := by simp
          go_wp2_with fail
          go_quiet (fail)
          go_wp2_with fail
          go_roundw
          case rel => exact ⟨k + 1, by omega, by go_num, by rw [List.take_succ_eq_append_getElem hlt, List.take_succ_eq_append_getElem hlt2, HP.out, HX.out, HY.out], hbw.trans ⟨rfl, rfl, rfl, Nat.le_refl _, fun _ _ => rfl⟩⟩
          case measure => simp [intOf]; omega
        · have hne : (x != y) = true := by simpa using hxy
          go_wp2_with fail
          go_quiet (fail)
          go_wp2_with fail
          go_ret
          exact ⟨ret_bool (by rw [eq_comm, decide_eq_false_iff_not]; intro h; apply hxy; rw [← HX.out, ← HY.out]; simp [h]), hbw.trans ⟨rfl, rfl, rfl, Nat.le_refl _, fun _ _ => rfl⟩⟩
      · go_wp2_with fail
        go_ret
        have he : xs = ys := by have h := HP.out; rw [List.take_of_length_le (by omega), List.take_of_length_le (by have := HL.out; omega)] at h; exact h
        exact ⟨ret_bool (by rw [eq_comm, decide_eq_true_iff]; exact he), hbw⟩
  · have ht : ((xs.length : Int) != (ys.length : Int)) = true := by rw [bne_iff_ne]; omega
    go_enter Try.func27, Try.ntmps27
    go_wp2
    go_ret
    exact ⟨ret_bool (by rw [eq_comm, decide_eq_false_iff_not]; intro h; exact hlen (by rw [h])), Below.refl _ _⟩


set_option maxHeartbeats 1000000 in
theorem IndexEE (B : Nat) (A : Option Addr) (c : Nat) (s g : Int) (xs : List (Int × Int)) (W : World) (h1 : Rd W B 2 A xs.length (Cs encE xs)) (hB1 : B ≤ W.heap.size) (hl1 : xs.length ≤ 4096) :
    Calls Try.prog 40 #[.slice A xs.length c, .agg #[.int .i64 s, .int .u64 g]] W fun e W' => ∃ i : Int, e = .returned (.int .i64 i) ∧ decide (0 ≤ i) = xs.any (fun y => decide (y = (s, g))) ∧ Below W.heap.size W W' := by
  have HB := hide (show Below W.heap.size W (W.alloc (.cells #[.int .i64 s, .int .u64 g] 43)) from (Below.refl _ _).alloc (Nat.le_refl _) _)
  have HR := hide (RowAt.new W 43 #[.int .i64 s, .int .u64 g])
  have H1 := hide (h1.below (HB.out.mono hB1))
  clear h1
  go_enter Try.func40, Try.ntmps40
  go_wp2_with fail
  generalize W.alloc (.cells #[.int .i64 s, .int .u64 g] 43) = w0 at *
  go_loopw [8] (fun i wr => ∃ k : Nat, k ≤ xs.length ∧ i = .int .i64 k ∧ (xs.take k).any (fun y => decide (y = (s, g))) = false ∧ Below w0.heap.size w0 wr) (fun i _ => xs.length - (intOf i).toNat)
  case atStart => exact ⟨0, Nat.zero_le _, rfl, rfl, Below.refl _ _⟩
  case round =>
    obtain ⟨k, hk, rfl, hpre, hbw⟩ := hrel
    have HP := hide hpre
    have HBW := hide (HB.out.trans (hbw.mono HB.out.size))
    have HBR := hide hbw
    clear hpre
    by_cases hlt : k < xs.length
    · obtain ⟨b1, o1, rfl, hb1, hc1⟩ := (H1.out.below (hbw.mono (Nat.le_trans hB1 HB.out.size))).elem encE_len hlt
      have hd10 := hc1 0 _ (by omega) rfl
      have hd11 := hc1 1 _ (by omega) rfl
      simp only [Nat.add_zero] at hd10
      have hbl : b1 < wr.heap.size := Nat.lt_of_lt_of_le hb1 (Nat.le_trans hB1 HBW.out.size)
      have e0 := row20 (HR.out.below hbw)
      have e1 := row21 (HR.out.below hbw)
      have el := (HR.out.below hbw).lt
      clear hc1 hbw
      have HX := hide (show xs.take (k + 1) = xs.take k ++ [xs[k]] from List.take_succ_eq_append_getElem hlt)
      have HM := hide (List.getElem_mem hlt)
      have hki : (k : Int) < (xs.length : Int) := by omega
      generalize xs[k] = x at *
      by_cases hv : x = (s, g)
      · subst hv
        have hne := fun w => eqlE w (s, g) (s, g) true (by simp)
        go_wp2_with fail
        go_quiet (fail)
        go_wp2_with fail
        go_ret
        refine ⟨_, rfl, ?_, HBW.out.trans ⟨rfl, rfl, rfl, Nat.le_refl _, fun _ _ => rfl⟩⟩
        have h2 : xs.any (fun y => decide (y = (s, g))) = true := by rw [List.any_eq_true]; exact ⟨(s, g), HM.out, by simp⟩
        rw [h2]; simp
      · have hne := fun w => eqlE w (s, g) x false (by simpa using fun h => hv h.symm)
        have HV := hide hv
        clear hv
        go_wp2_with fail
        go_quiet (fail)
        go_wp2_with fail
        go_roundw
        case rel => exact ⟨k + 1, by omega, by go_num, by rw [HX.out, List.any_append, HP.out]; have := HV.out; simp; exact this, HBR.out.trans ⟨rfl, rfl, rfl, Nat.le_refl _, fun _ _ => rfl⟩⟩
        case measure => simp [intOf]; omega
    · go_wp2_with fail
      go_ret
      refine ⟨_, rfl, ?_, HBW.out⟩
      have h := HP.out
      rw [List.take_of_length_le (by omega)] at h
      rw [h]; simp

theorem ContainsEE (B : Nat) (A : Option Addr) (c : Nat) (s g : Int) (xs : List (Int × Int)) (W : World) (h1 : Rd W B 2 A xs.length (Cs encE xs)) (hB1 : B ≤ W.heap.size) (hl1 : xs.length ≤ 4096) (r : Bool) (hr : xs.any (fun y => decide (y = (s, g))) = r) :
    Calls Try.prog 15 #[.slice A xs.length c, .agg #[.int .i64 s, .int .u64 g]] W fun e W' => e = .returned (.bool r) ∧ Below W.heap.size W W' := by
  subst hr
  have HB := hide (show Below W.heap.size W (W.alloc (.cells #[.int .i64 s, .int .u64 g] 43)) from (Below.refl _ _).alloc (Nat.le_refl _) _)
  have HR := hide (RowAt.new W 43 #[.int .i64 s, .int .u64 g])
  have HI := hide (IndexEE B A c s g xs _ (h1.below (HB.out.mono hB1)) (Nat.le_trans hB1 HB.out.size) hl1)
  clear h1
  have e0 := row20 HR.out
  have e1 := row21 HR.out
  go_enter Try.func15, Try.ntmps15
  go_wp2_with fail
  refine HI.out.mono ?_
  rintro e w1 ⟨i, rfl, hi, hb⟩
  have HI := hide hi
  have HB1 := hide (HB.out.trans (hb.mono HB.out.size))
  clear hi hb
  go_wp2_with fail
  go_ret
  exact ⟨ret_bool HI.out, HB1.out⟩

/-- Searched by a closure that says p, whatever it makes besides. -/
theorem IndexFX (B : Nat) (A : Option Addr) (c g : Nat) (lb : Array Value) (hg : ∀ args w, (callFunc g args).run Try.prog w = .ok (.enter g args) w) (p : Wt → Bool) (xs : List Wt) (W : World) (h1 : Rd W B 4 A xs.length (Cs encX xs)) (hB1 : B ≤ W.heap.size) (hl1 : xs.length ≤ 4096)
    (HC : ∀ w x, Below W.heap.size W w → x ∈ xs → Calls Try.prog g (#[.agg (xC x)] ++ lb) w fun e w' => e = .returned (.bool (p x)) ∧ Below w.heap.size w w') :
    Calls Try.prog 76 #[.slice A xs.length c, .func (.func g) #[] lb] W fun e W' => ∃ i : Int, e = .returned (.int .i64 i) ∧ decide (0 ≤ i) = xs.any p ∧ Below W.heap.size W W' := by
  have HC := hide HC
  go_enter Try.func76, Try.ntmps76
  go_wp2_with fail
  go_loopw [8] (fun i wr => ∃ k : Nat, k ≤ xs.length ∧ i = .int .i64 k ∧ (xs.take k).any p = false ∧ Below W.heap.size W wr) (fun i _ => xs.length - (intOf i).toNat)
  case atStart => exact ⟨0, Nat.zero_le _, rfl, rfl, Below.refl _ _⟩
  case round =>
    obtain ⟨k, hk, rfl, hpre, hbw⟩ := hrel
    have HP := hide hpre
    clear hpre
    by_cases hlt : k < xs.length
    · obtain ⟨b1, o1, rfl, hb1, hc1⟩ := (h1.below (hbw.mono hB1)).elem encX_len hlt
      have hd10 := hc1 0 _ (by omega) rfl
      have hd11 := hc1 1 _ (by omega) rfl
      have hd12 := hc1 2 _ (by omega) rfl
      have hd13 := hc1 3 _ (by omega) rfl
      simp only [Nat.add_zero] at hd10
      clear hc1
      have HK := hide (HC.out wr xs[k] hbw (List.getElem_mem hlt))
      have HX := hide (show xs.take (k + 1) = xs.take k ++ [xs[k]] from List.take_succ_eq_append_getElem hlt)
      have HM := hide (List.getElem_mem hlt)
      generalize xs[k] = x at *
      obtain ⟨r, hr⟩ : ∃ r, p x = r := ⟨_, rfl⟩
      have HR := hide hr
      rw [hr] at HK
      clear hr
      cases r
      · go_wp2_with fail
        refine HK.out.mono ?_
        rintro e w1 ⟨rfl, hb2⟩
        go_wp2_with fail
        go_roundw
        case rel => exact ⟨k + 1, by omega, by go_num, by rw [HX.out, List.any_append, HP.out]; simpa using HR.out, hbw.trans (hb2.mono hbw.size)⟩
        case measure => simp [intOf]; omega
      · go_wp2_with fail
        refine HK.out.mono ?_
        rintro e w1 ⟨rfl, hb2⟩
        go_wp2_with fail
        go_ret
        refine ⟨_, rfl, ?_, hbw.trans (hb2.mono hbw.size)⟩
        have h2 : xs.any p = true := by
          rw [List.any_eq_true]
          exact ⟨x, HM.out, HR.out⟩
        rw [h2]; simp
    · go_wp2_with fail
      go_ret
      refine ⟨_, rfl, ?_, hbw⟩
      have h := HP.out
      rw [List.take_of_length_le (by omega)] at h
      rw [h]; simp

theorem ContainsFX (B : Nat) (A : Option Addr) (c g : Nat) (lb : Array Value) (hg : ∀ args w, (callFunc g args).run Try.prog w = .ok (.enter g args) w) (p : Wt → Bool) (xs : List Wt) (W : World) (h1 : Rd W B 4 A xs.length (Cs encX xs)) (hB1 : B ≤ W.heap.size) (hl1 : xs.length ≤ 4096)
    (HC : ∀ w x, Below W.heap.size W w → x ∈ xs → Calls Try.prog g (#[.agg (xC x)] ++ lb) w fun e w' => e = .returned (.bool (p x)) ∧ Below w.heap.size w w') :
    Calls Try.prog 45 #[.slice A xs.length c, .func (.func g) #[] lb] W fun e W' => e = .returned (.bool (xs.any p)) ∧ Below W.heap.size W W' := by
  have HI := hide (IndexFX B A c g lb hg p xs W h1 hB1 hl1 HC)
  clear HC
  go_enter Try.func45, Try.ntmps45
  go_wp2_with fail
  refine HI.out.mono ?_
  rintro e w1 ⟨i, rfl, hi, hb⟩
  have HI := hide hi
  clear hi
  go_wp2_with fail
  go_ret
  exact ⟨ret_bool HI.out, hb⟩

end Go.Proofs.Ytfpbabafeecncaa
