import Derived.Test.YtjlbnegdiabglaaProg
import Derived.Test.YtjlbnegdiabglaaMem
import Derived.Test.YtjlbnegdiabglaaMore
/-
  Contracts of the functions on cells and entries: Cell, Of, Pack, Unpack, of the program and of the reference.
-/
namespace Go.Proofs.Ytjlbnegdiabglaa
open Go Go.RowKit
attribute [local go_sem] via_cell via_frozen
set_option linter.unusedSimpArgs false
set_option linter.unusedVariables false

theorem or_add (a b : Nat) (ha : a < 65536) : a ||| (b * 65536) = a + 65536 * b := by
  rw [Nat.or_comm, show b * 65536 = 2 ^ 16 * b from by omega, ← Nat.two_pow_add_eq_or_of_lt (by simpa using ha)]
  omega

theorem bits_or_add (s g : Int) (h0 : 0 ≤ s) (h1 : s < 65536) (h2 : 0 ≤ g) (h3 : g < 281474976710656) : bits BinOp.or IntKind.u64 s (g * 65536) = s + 65536 * g := by
  obtain ⟨a, rfl⟩ := Int.eq_ofNat_of_zero_le h0
  obtain ⟨b, rfl⟩ := Int.eq_ofNat_of_zero_le h2
  rw [show ((b : Int) * 65536) = ((b * 65536 : Nat) : Int) from by omega, u64_or_nat a (b * 65536) (by omega) (by omega), or_add a b (by omega)]
  omega

theorem bits_and_low (w : Int) (h0 : 0 ≤ w) (h1 : w < 18446744073709551616) : bits BinOp.and IntKind.u64 w 65535 = w % 65536 := by
  obtain ⟨a, rfl⟩ := Int.eq_ofNat_of_zero_le h0
  have := u64_and_nat a 65535 (by omega) (by omega)
  rw [show ((65535 : Nat) : Int) = 65535 from rfl] at this
  rw [this, show (65535 : Nat) = 2 ^ 16 - 1 from rfl, Nat.and_two_pow_sub_one_eq_mod]
  omega

/-- A slab and a generation that an entry may have. -/
def okEnt (s g : Int) : Bool := decide (0 ≤ s ∧ s < 128 ∧ g < 1099511627776)
theorem okEnt_mk {s g : Int} (h0 : 0 ≤ s) (h1 : s < 128) (h2 : g < 1099511627776) : okEnt s g = true := by simp [okEnt, h0, h1, h2]
theorem okEnt_out {s g : Int} (h : okEnt s g = true) : 0 ≤ s ∧ s < 128 ∧ g < 1099511627776 := by simpa [okEnt] using h
theorem okEnt_no {s g : Int} (h : okEnt s g = false) : ¬ (0 ≤ s ∧ s < 128 ∧ g < 1099511627776) := by simpa [okEnt] using h
def okSlab (s : Int) : Bool := decide (0 ≤ s ∧ s < 128)

section
variable (W : World)

set_option maxHeartbeats 400000 in
theorem Slab_any (s : Int) (r : Bool) (hr : okSlab s = r) :
    Calls Try.prog 48 #[.int .i64 s] W fun e W' => e = .returned (.bool r) ∧ W = W' := by
  subst hr
  by_cases h0 : 0 ≤ s
  all_goals
    go_enter Try.func48, Try.ntmps48
    go_wp2
    go_ret
    simp [okSlab]
    try omega

set_option maxHeartbeats 400000 in
theorem Pack_ok (s g : Int) (h0 : 0 ≤ s) (h1 : s < 128) (h2 : 0 ≤ g) (h3 : g < 1099511627776) :
    Calls Try.prog 65 #[.agg #[.int .i64 s, .int .u64 g]] W fun e W' => e = .returned (.tuple #[.int .u64 (s + 1 + 65536 * g), .int .i64 0]) ∧ Below W.heap.size W W' := by
  have hg : (g / 1099511627776 != 0) = false := by rw [bne_eq_false_iff_eq]; omega
  go_enter Try.func65, Try.ntmps65
  go_wp2
  go_ret2
  refine ⟨?_, by go_grown⟩
  simp [bits_or_add (s + 1) g (by omega) (by omega) (by omega) (by omega)]

set_option maxHeartbeats 400000 in
theorem Pack_no (s g : Int) (h2 : 0 ≤ g) (hg : g < 18446744073709551616) (h : ¬ (0 ≤ s ∧ s < 128 ∧ g < 1099511627776)) :
    Calls Try.prog 65 #[.agg #[.int .i64 s, .int .u64 g]] W fun e W' => e = .returned (.tuple #[.int .u64 0, .int .i64 262]) ∧ Below W.heap.size W W' := by
  have hg : 0 ≤ s → s < 128 → (g / 1099511627776 != 0) = true := by intro a b; rw [bne_iff_ne]; omega
  by_cases h0 : 0 ≤ s
  · by_cases h1 : s < 128
    · have hg' := hg h0 h1
      clear hg
      go_enter Try.func65, Try.ntmps65
      go_wp2
      go_ret2
      exact ⟨rfl, by go_grown⟩
    · clear hg
      go_enter Try.func65, Try.ntmps65
      go_wp2
      go_ret2
      exact ⟨rfl, by go_grown⟩
  · clear hg
    go_enter Try.func65, Try.ntmps65
    go_wp2
    go_ret2
    exact ⟨rfl, by go_grown⟩

set_option maxHeartbeats 400000 in
theorem power_any (n : Nat) (hn : n ≤ 63) :
    Calls Try.prog 49 #[.int .i64 (n : Int)] W fun e W' => e = .returned (.int .u64 ((2 ^ n : Nat) : Int)) ∧ W = W' := by
  go_enter Try.func49, Try.ntmps49
  go_wp2
  go_loop [3, 5] (fun o i => ∃ k : Nat, k ≤ n ∧ i = .int .i64 k ∧ o = .int .u64 ((2 ^ k : Nat) : Int)) (fun _ i => n - (intOf i).toNat)
  case atStart => exact ⟨0, Nat.zero_le _, rfl, rfl⟩
  case round =>
    obtain ⟨k, hk, rfl, rfl⟩ := hrel
    have hp : (2 : Nat) ^ k ≤ 2 ^ 63 := Nat.pow_le_pow_right (by omega) (by omega)
    by_cases hlt : k < n
    · have hp' : (2 : Nat) ^ (k + 1) ≤ 2 ^ 63 := Nat.pow_le_pow_right (by omega) (by omega)
      have H := hide (show ((2 : Nat) ^ (k + 1) : Nat) = 2 * 2 ^ k from by omega)
      have hb : (2 : Nat) ^ k ≤ 4611686018427387904 := by omega
      clear hp hp'
      generalize hq : (2 : Nat) ^ k = q at *
      clear hq
      go_wp2
      go_round
      case rel => exact ⟨k + 1, by omega, by go_num, by rw [H.out]; go_num⟩
      case measure => simp [intOf]; omega
    · obtain rfl : k = n := by omega
      clear hp
      go_wp2
      go_ret
      exact ⟨rfl, rfl⟩

theorem power40 : Calls Try.prog 49 #[.int .i64 40] W fun e W' => e = .returned (.int .u64 1099511627776) ∧ W = W' := power_any W 40 (by omega)

set_option maxHeartbeats 400000 in
theorem Entry_any (s g : Int) (r : Bool) (h2 : 0 ≤ g) (hr : okEnt s g = r) :
    Calls Try.prog 19 #[.agg #[.int .i64 s, .int .u64 g]] W fun e W' => e = .returned (.bool r) ∧ Below W.heap.size W W' := by
  subst hr
  obtain ⟨b, hb⟩ : ∃ b, okSlab s = b := ⟨_, rfl⟩
  have Hb := hide hb
  clear hb
  cases b
  all_goals
    go_enter Try.func19, Try.ntmps19
    go_wp2_with fail
    refine wp_region_via (by kernel_rfl) (by kernel_rfl) ?_
    repeat (go_big_quiet_step ((first | (go_at_call 48; exact via_of_same (Slab_any _ s _ Hb.out)) | (go_at_call 49; exact via_of_same (power40 _)))))
    refine via_out fun w1 hb1 => ?_
    go_wp2
    go_ret
    refine ⟨?_, ?_⟩
    · have h := Hb.out; exact ret_bool (by rw [Bool.eq_iff_iff]; simp [okEnt, okSlab] at h ⊢; omega)
    · exact ((Below.refl _ _).alloc (Nat.le_refl _) _).trans (hb1.mono (by simp))

end
end Go.Proofs.Ytjlbnegdiabglaa
/-
  Contracts of the slices' functions at words and entries: Clone, Equal, Grow, Concat, padded; of the directory's and the table's words.
-/
namespace Go.Proofs.Ytjlbnegdiabglaa
open Go Go.RowKit
attribute [local go_sem] via_cell via_frozen
set_option linter.unusedSimpArgs false
set_option linter.unusedVariables false

/-- A word's cells; an entry's. -/
def encW (x : Int) : List Value := [.int .u64 x]
def encE (x : Int × Int) : List Value := [.int .i64 x.1, .int .u64 x.2]
theorem encW_len : ∀ x, (encW x).length = 1 := fun _ => rfl
theorem encE_len : ∀ x, (encE x).length = 2 := fun _ => rfl
theorem encW_one : ∀ x, ∀ u ∈ encW x, u.oneCell' = true := by intro x u hu; simp [encW] at hu; subst hu; rfl
theorem encE_one : ∀ x, ∀ u ∈ encE x, u.oneCell' = true := by intro x u hu; simp [encE] at hu; rcases hu with rfl | rfl <;> rfl

theorem elW : ElemOk Try.prog 40 25 1 8 (.int .u64 0) := ⟨Try.underlying40, by kernel_rfl, rfl, by omega, by omega, by intro u hu; simp [Value.cells] at hu; subst hu; rfl⟩
theorem elE : ElemOk Try.prog 22 31 2 16 (.agg #[.int .i64 0, .int .u64 0]) := ⟨Try.underlying22, by kernel_rfl, rfl, by omega, by omega, by intro u hu; simp [Value.cells] at hu; rcases hu with rfl | rfl <;> rfl⟩


set_option maxHeartbeats 400000 in
theorem CloneE (B : Nat) (A : Option Addr) (n c : Nat) (xs : List Value) (W : World) (hr : Rd W B 2 A n xs) (hB : B ≤ W.heap.size) (h1 : ∀ u ∈ xs, u.oneCell' = true) (hb : n ≤ 4096) :
    Calls Try.prog 35 #[.slice A n c] W fun e W' => ∃ v, e = .returned v ∧ W'.ownsRow W.heap.size 31 2 v n xs ∧ Below W.heap.size W W' := by
  cases A with
  | none =>
    obtain rfl := rd_none hr
    obtain rfl := hr.nil
    have hn := fun w => Lib.run_eql_slice_nil (P := Try.prog) w 22 31 none 0 c 0 0 Try.underlying22
    go_enter Try.func35, Try.ntmps35
    go_wp2
    go_ret
    exact ⟨_, rfl, World.ownsRow_nil _ _ _ _, Below.refl _ _⟩
  | some a =>
    have hn := fun w => Lib.run_eql_slice_nil (P := Try.prog) w 22 31 (some a) n c 0 0 Try.underlying22
    have hown := World.ownsRow_lit (base := W.heap.size) (e := 31) (size := 2) W #[] 0 (Nat.le_refl _) (by simp [maxLen]) rfl
    go_enter Try.func35, Try.ntmps35
    go_wp2_with (at_builtin; refine wpList_app elE rfl _ _ rfl rfl hown rfl (hr.alloc hB _) h1 (by omega) (by simp) ?_; intro v1 w1 hown1 hb1 _ _)
    go_ret
    exact ⟨v1, rfl, by simpa using hown1, ((Below.refl _ _).alloc (Nat.le_refl _) _).trans hb1⟩

theorem neqE (w : World) (x y : Int × Int) (r : Bool) (hr : decide (x = y) = r) :
    (binOp .neq 31 (.agg #[.int .i64 x.1, .int .u64 x.2]) (.agg #[.int .i64 y.1, .int .u64 y.2])).run Try.prog w = .ok (.bool (!r)) w := by
  obtain ⟨a, b⟩ := x
  obtain ⟨c, d⟩ := y
  simp only [binOp]
  simp [Op.equal, Op.maxDepth, go_sem, run_equalIn_struct]
  subst hr
  by_cases h1 : a = c <;> by_cases h2 : b = d <;> simp [h1, h2]

set_option maxHeartbeats 1000000 in
theorem EqualE (B1 B2 : Nat) (A1 A2 : Option Addr) (c1 c2 : Nat) (xs ys : List (Int × Int)) (W : World) (h1 : Rd W B1 2 A1 xs.length (Cs encE xs)) (h2 : Rd W B2 2 A2 ys.length (Cs encE ys)) (hB1 : B1 ≤ W.heap.size) (hB2 : B2 ≤ W.heap.size)
    (hl1 : xs.length ≤ 4096) (hl2 : ys.length ≤ 4096) (r : Bool) (hr : decide (xs = ys) = r) :
    Calls Try.prog 20 #[.slice A1 xs.length c1, .slice A2 ys.length c2] W fun e W' => e = .returned (.bool r) ∧ Below W.heap.size W W' := by
  subst hr
  by_cases hlen : xs.length = ys.length
  · have ht : ((xs.length : Int) != (ys.length : Int)) = false := by rw [bne_eq_false_iff_eq]; omega
    have HL := hide hlen
    clear hlen
    go_enter Try.func20, Try.ntmps20
    go_wp2_with fail
    go_loopw [13] (fun i wr => ∃ k : Nat, k ≤ xs.length ∧ i = .int .i64 k ∧ xs.take k = ys.take k ∧ Below W.heap.size W wr) (fun i _ => xs.length - (intOf i).toNat)
    case atStart => exact ⟨0, Nat.zero_le _, rfl, rfl, Below.refl _ _⟩
    case round =>
      obtain ⟨k, hk, rfl, hpre, hbw⟩ := hrel
      have HP := hide hpre
      clear hpre
      by_cases hlt : k < xs.length
      · have hlt2 : k < ys.length := by have := HL.out; omega
        obtain ⟨b1, o1, rfl, hb1, hc1⟩ := (h1.below (hbw.mono hB1)).elem encE_len hlt
        obtain ⟨b2, o2, rfl, hb2, hc2⟩ := (h2.below (hbw.mono hB2)).elem encE_len hlt2
        have hd10 := hc1 0 _ (by omega) rfl
        have hd11 := hc1 1 _ (by omega) rfl
        have hd20 := hc2 0 _ (by omega) rfl
        have hd21 := hc2 1 _ (by omega) rfl
        simp only [Nat.add_zero] at hd10 hd20
        clear hc1 hc2
        have hi2 : (k : Int) < (ys.length : Int) := by omega
        generalize hx : xs[k] = x at *
        generalize hy : ys[k] = y at *
        have HX := hide hx
        have HY := hide hy
        clear hx hy
        by_cases hxy : x = y
        · subst hxy
          have hne := fun w => neqE w x x true (by simp)
          go_wp2_with fail
          go_quiet (fail)
          go_wp2_with fail
          go_roundw
          case rel => exact ⟨k + 1, by omega, by go_num, by rw [List.take_succ_eq_append_getElem hlt, List.take_succ_eq_append_getElem hlt2, HP.out, HX.out, HY.out], hbw.trans ⟨rfl, rfl, rfl, Nat.le_refl _, fun _ _ => rfl⟩⟩
          case measure => simp [intOf]; omega
        · have hne := fun w => neqE w x y false (by simpa using hxy)
          go_wp2_with fail
          go_quiet (fail)
          go_wp2_with fail
          go_ret
          exact ⟨ret_bool (by rw [eq_comm, decide_eq_false_iff_not]; intro h; apply hxy; rw [← HX.out, ← HY.out]; simp [h]), hbw.trans ⟨rfl, rfl, rfl, Nat.le_refl _, fun _ _ => rfl⟩⟩
      · go_wp2_with fail
        go_ret
        have he : xs = ys := by have h := HP.out; rw [List.take_of_length_le (by omega), List.take_of_length_le (by have := HL.out; omega)] at h; exact h
        exact ⟨ret_bool (by rw [eq_comm, decide_eq_true_iff]; exact he), hbw⟩
  · have ht : ((xs.length : Int) != (ys.length : Int)) = true := by rw [bne_iff_ne]; omega
    go_enter Try.func20, Try.ntmps20
    go_wp2
    go_ret
    exact ⟨ret_bool (by rw [eq_comm, decide_eq_false_iff_not]; intro h; exact hlen (by rw [h])), Below.refl _ _⟩

end Go.Proofs.Ytjlbnegdiabglaa
/-
  Contracts of the functions that the layout's words are made by: top, flat, padded, Grow, Concat, TableWords, DirWords, At, Has.
-/
namespace Go.Proofs.Ytjlbnegdiabglaa
open Go Go.RowKit
attribute [local go_sem] via_cell via_frozen
set_option linter.unusedSimpArgs false
set_option linter.unusedVariables false

/-- The numbers of a table that are asked. -/
def flatB (d p c l : Int) : Bool := decide ((0 ≤ d ∧ d ≤ 5) ∧ p / 2 ^ d.toNat = 0 ∧ (0 ≤ c ∧ c ≤ 14) ∧ (0 ≤ l ∧ l ≤ 14))

def topZ (h bits : Int) : Int := h / 2 / 2 ^ (63 - bits).toNat

set_option maxHeartbeats 400000 in
theorem top_any (h bits : Int) (W : World) (h0 : 0 ≤ h) (h1 : h < 18446744073709551616) (hb : 0 ≤ bits) (hb2 : bits ≤ 63) :
    Calls Try.prog 63 #[.int .u64 h, .int .i64 bits] W fun e W' => e = .returned (.int .u64 (topZ h bits)) ∧ W = W' := by
  have H := hide h1
  clear h1
  go_enter Try.func63, Try.ntmps63
  go_wp2
  go_ret
  exact ⟨rfl, rfl⟩

end Go.Proofs.Ytjlbnegdiabglaa
/-
  Contracts of the functions that the layout's words are made by: padded, Grow, Concat, TableWords, DirWords, At, Has.
-/
namespace Go.Proofs.Ytjlbnegdiabglaa
open Go Go.RowKit
attribute [local go_sem] via_cell via_frozen
set_option linter.unusedSimpArgs false
set_option linter.unusedVariables false

set_option maxHeartbeats 400000 in
theorem padded_any (A : Option Addr) (n c : Nat) (xs : List Value) (W : World) (base : Nat) (hown : W.ownsRow base 25 1 (.slice A n c) n xs) (hb : n ≤ 40) (hbase : base ≤ W.heap.size) :
    Calls Try.prog 70 #[.slice A n c] W fun e W' => ∃ v, e = .returned v ∧ W'.ownsRow base 25 1 v 40 (xs ++ List.replicate (40 - n) (.int .u64 0)) ∧ Below base W W' := by
  have hk := hide hbase
  clear hbase
  go_enter Try.func70, Try.ntmps70
  go_wp2_with (at_builtin; refine wpList_appmake elW Try.underlying3 rfl _ _ rfl rfl hown (m := 40 - n) (congrArg (Value.int .i64) (by omega)) (by omega) hk.out ?_; intro v1 w1 hown1 hb1 _ _)
  go_ret
  refine ⟨v1, rfl, ?_, hb1⟩
  rw [zeroCells_one _ rfl, show n + (40 - n) = 40 from by omega] at hown1
  exact hown1

/-- A slice among the slices that are laid end to end. -/
structure Part where
  A : Option Addr
  n : Nat
  c : Nat
  xs : List Value
def sumN (l : List Part) : Nat := (l.map (·.n)).sum
def flatX (l : List Part) : List Value := l.flatMap (·.xs)
def encP (p : Part) : List Value := [.slice p.A p.n p.c]
theorem encP_len : ∀ x, (encP x).length = 1 := fun _ => rfl
theorem sumN_app (a b : List Part) : sumN (a ++ b) = sumN a + sumN b := by simp only [sumN, List.map_append, List.sum_append]
theorem sumN_succ (l : List Part) (k : Nat) (h : k < l.length) : sumN (l.take (k + 1)) = sumN (l.take k) + (l[k]).n := by
  rw [List.take_succ_eq_append_getElem h, sumN_app]
  simp only [sumN, List.map_cons, List.map_nil, List.sum_cons, List.sum_nil, Nat.add_zero]
theorem flatX_succ (l : List Part) (k : Nat) (h : k < l.length) : flatX (l.take (k + 1)) = flatX (l.take k) ++ (l[k]).xs := by
  rw [List.take_succ_eq_append_getElem h]
  simp only [flatX, List.flatMap_append, List.flatMap_cons, List.flatMap_nil, List.append_nil]
theorem sumN_le (l : List Part) (k : Nat) : sumN (l.take k) ≤ sumN l := by
  have h := sumN_app (l.take k) (l.drop k)
  rw [List.take_append_drop] at h
  omega

end Go.Proofs.Ytjlbnegdiabglaa
/-
  Contracts of the directory's words: DirWords, At, Has.
-/
namespace Go.Proofs.Ytjlbnegdiabglaa
open Go Go.RowKit
attribute [local go_sem] via_cell via_frozen
set_option linter.unusedSimpArgs false
set_option linter.unusedVariables false

def packW (e : Int × Int) : Int := e.1 + 1 + 65536 * e.2
def entsOk (es : List (Int × Int)) : Bool := es.all fun e => okEnt e.1 e.2
def dirWords (dep : Int) (es : List (Int × Int)) : List Value := [.int .u64 dep] ++ Cs encW (es.map packW) ++ List.replicate (40 - (1 + es.length)) (.int .u64 0)

/-- What DirWords comes to, where the depth and the number of entries fit. -/
def DirPost (W : World) (dep : Int) (es : List (Int × Int)) (e : Ending) (W' : World) : Prop :=
  (entsOk es = true ∧ ∃ v, e = .returned (.tuple #[v, .int .i64 0]) ∧ W'.ownsRow W.heap.size 25 1 v 40 (dirWords dep es) ∧ Below W.heap.size W W') ∨
  (entsOk es = false ∧ e = .returned (.tuple #[.slice none 0 0, .int .i64 261]) ∧ Below W.heap.size W W')

theorem entsOk_take (es : List (Int × Int)) (k : Nat) (h : k < es.length) : entsOk (es.take (k + 1)) = (entsOk (es.take k) && okEnt es[k].1 es[k].2) := by
  rw [List.take_succ_eq_append_getElem h]
  simp only [entsOk, List.all_append, List.all_cons, List.all_nil, Bool.and_true]
theorem entsOk_no (es : List (Int × Int)) (k : Nat) (h : k < es.length) (hn : okEnt es[k].1 es[k].2 = false) : entsOk es = false := by
  rw [entsOk, List.all_eq_false]
  exact ⟨es[k], List.getElem_mem h, by simp [hn]⟩
theorem packs_succ (es : List (Int × Int)) (k : Nat) (h : k < es.length) : Cs encW ((es.take (k + 1)).map packW) = Cs encW ((es.take k).map packW) ++ [.int .u64 (packW es[k])] := by
  rw [List.take_succ_eq_append_getElem h]
  simp only [List.map_append, List.map_cons, List.map_nil, Cs_append, Cs_one, encW]

set_option maxHeartbeats 1000000 in
theorem DirWords_any (B : Nat) (A : Option Addr) (c : Nat) (dep : Int) (es : List (Int × Int)) (W : World) (h : Rd W B 2 A es.length (Cs encE es)) (hB : B ≤ W.heap.size) (hu : ∀ e ∈ es, U64 e.2)
    (hd0 : 0 ≤ dep) (hd1 : dep ≤ 5) (hn : (es.length : Int) = 2 ^ dep.toNat) (hl : es.length ≤ 32) :
    Calls Try.prog 62 #[.agg #[.int .i64 dep, .slice A es.length c]] W (DirPost W dep es) := by
  have HU := hide hu
  clear hu
  have hw : IntKind.i64.wrap (2 ^ dep.toNat) = 2 ^ dep.toNat := IntWalk.i64_in _ (by rw [← hn]; omega)
  have ht : ((es.length : Int) != 2 ^ dep.toNat) = false := by rw [bne_eq_false_iff_eq]; exact hn
  clear hn
  go_enter Try.func62, Try.ntmps62
  go_wp2_with fail
  go_quiet (fail)
  go_wp2_with fail
  have hbox := World.ownsRow_lit (base := W.heap.size) (e := 25) (size := 1) ((W.alloc (.cells #[.int .i64 dep, .slice A es.length c] 24)).drewN nq) #[.int .u64 dep] 1 (by simp) (by simp [maxLen]) rfl
  go_loopw [4, 33] (fun v i wr => ∃ k : Nat, k ≤ es.length ∧ i = .int .i64 k ∧ entsOk (es.take k) = true ∧ wr.ownsRow W.heap.size 25 1 v (1 + k) ([.int .u64 dep] ++ Cs encW ((es.take k).map packW)) ∧ Below W.heap.size W wr) (fun _ i _ => es.length - (intOf i).toNat)
  case atStart => exact ⟨0, Nat.zero_le _, rfl, rfl, by simpa [Cs] using hbox, (below_drewN ((Below.refl _ _).alloc (Nat.le_refl _) _) nq).alloc (by simp) _⟩
  case round =>
    obtain ⟨k, hk, rfl, hall, hown, hbw⟩ := hrel
    have HA := hide hall
    clear hall
    by_cases hlt : k < es.length
    · obtain ⟨b, off, rfl, hb, hc⟩ := (h.below (hbw.mono hB)).elem encE_len hlt
      have hd0 := hc 0 _ (by omega) rfl
      have hd1 := hc 1 _ (by omega) rfl
      simp only [Nat.add_zero] at hd0
      clear hc
      have hux := hide (HU.out es[k] (List.getElem_mem hlt))
      have HS := hide (packs_succ es k hlt)
      have HT := hide (entsOk_take es k hlt)
      have HN := hide (entsOk_no es k hlt)
      have hbs : b < wr.heap.size := by have := hbw.size; omega
      generalize hx : es[k] = x at *
      clear hx
      obtain ⟨bb, hbb⟩ : ∃ bb, okEnt x.1 x.2 = bb := ⟨_, rfl⟩
      have HO := hide hbb
      clear hbb
      cases bb
      · go_wp2_with fail
        refine (Pack_no _ _ _ hux.out.1 hux.out.2 (okEnt_no HO.out)).mono ?_
        rintro e w1 ⟨rfl, hb1⟩
        go_wp2_with fail
        go_ret2
        exact .inr ⟨HN.out HO.out, rfl, (hbw.alloc hbw.size _).trans (hb1.mono (by have := hbw.size; simp; omega))⟩
      · obtain ⟨ho1, ho2, ho3⟩ := okEnt_out HO.out
        go_wp2_with fail
        refine (Pack_ok _ _ _ ho1 ho2 hux.out.1 ho3).mono ?_
        rintro e w1 ⟨rfl, hb1⟩
        have hb2 : Below W.heap.size W w1 := (hbw.alloc hbw.size _).trans (hb1.mono (by have := hbw.size; simp; omega))
        have hown1 := own_keepB (hown.alloc (.cells #[.int .i64 x.1, .int .u64 x.2] 31)) hb1
        go_wp2_with (at_builtin; refine wpList_app elW rfl _ _ rfl rfl (hown1.alloc _) rfl (Rd.new w1 #[.int .u64 (x.1 + 1 + 65536 * x.2)] 25 1 1 rfl) (by simp [Value.oneCell']) (by omega) (by have := hb2.size; simp; omega) ?_; intro v2 w2 hown2 hb3 _ _)
        go_roundw
        case rel => exact ⟨k + 1, by omega, by go_num, by rw [HT.out, HA.out, HO.out]; rfl, by rw [HS.out, ← List.append_assoc]; exact hown2, (hb2.alloc hb2.size _).trans hb3⟩
        case measure => simp [intOf]; omega
    · obtain rfl : k = es.length := by omega
      rw [List.take_length] at hown HA
      have HZ := hide (show es.length = es.length from rfl)
      have hform : ∃ A c, u4 = .slice A (1 + es.length) c := by
        obtain ⟨g, cap, hv, _⟩ := hown.form (by omega)
        exact ⟨_, _, hv⟩
      obtain ⟨A', c', hv⟩ := hform
      subst hv
      have hp := hide (padded_any A' (1 + es.length) c' _ wr W.heap.size hown (by omega) hbw.size)
      go_wp2_with fail
      refine hp.out.mono ?_
      rintro e w1 ⟨v1, rfl, ho1, hb1⟩
      go_wp2_with fail
      go_ret2
      exact .inl ⟨HA.out, v1, rfl, ho1, hbw.trans hb1⟩

/-- The shape of a directory: its depth, and as many entries as there are prefixes. -/
def dirShape (dep : Int) (n : Nat) : Bool := decide ((0 ≤ dep ∧ dep ≤ 5) ∧ (n : Int) = 2 ^ dep.toNat)

theorem pow_small (dep : Int) (h0 : 0 ≤ dep) (h1 : dep ≤ 5) : (1 : Int) ≤ 2 ^ dep.toNat ∧ (2 : Int) ^ dep.toNat ≤ 32 := by
  have h4 : dep.toNat = 0 ∨ dep.toNat = 1 ∨ dep.toNat = 2 ∨ dep.toNat = 3 ∨ dep.toNat = 4 ∨ dep.toNat = 5 := by omega
  rcases h4 with h | h | h | h | h | h <;> rw [h] <;> decide

set_option maxHeartbeats 1000000 in
theorem DirWords_bad (A : Option Addr) (n c : Nat) (dep : Int) (W : World) (h : dirShape dep n = false) :
    Calls Try.prog 62 #[.agg #[.int .i64 dep, .slice A n c]] W fun e W' => e = .returned (.tuple #[.slice none 0 0, .int .i64 261]) ∧ Below W.heap.size W W' := by
  have HS := hide h
  clear h
  by_cases h0 : 0 ≤ dep
  · by_cases h1 : dep ≤ 5
    · obtain ⟨p1, p2⟩ := pow_small dep h0 h1
      have hw : IntKind.i64.wrap (2 ^ dep.toNat) = 2 ^ dep.toNat := IntWalk.i64_in _ (by omega)
      have ht : ((n : Int) != 2 ^ dep.toNat) = true := by
        rw [bne_iff_ne]; intro he
        have := HS.out
        simp [dirShape, h0, h1, he] at this
      clear p1 p2
      go_enter Try.func62, Try.ntmps62
      go_wp2_with fail
      go_quiet (fail)
      go_wp2_with fail
      go_ret2
      exact ⟨rfl, below_drewN ((Below.refl _ _).alloc (Nat.le_refl _) _) _⟩
    · have hd : decide (5 < dep) = true := by simp; omega
      go_enter Try.func62, Try.ntmps62
      go_wp2_with fail
      go_quiet (fail)
      go_wp2_with fail
      go_ret2
      exact ⟨rfl, below_drewN ((Below.refl _ _).alloc (Nat.le_refl _) _) _⟩
  · have hd : decide (dep < 0) = true := by simp; omega
    go_enter Try.func62, Try.ntmps62
    go_wp2_with fail
    go_quiet (fail)
    go_wp2_with fail
    go_ret2
    exact ⟨rfl, below_drewN ((Below.refl _ _).alloc (Nat.le_refl _) _) _⟩

set_option maxHeartbeats 1000000 in
theorem At_no (B : Nat) (A : Option Addr) (c : Nat) (dep h : Int) (es : List (Int × Int)) (W : World) (hr : Rd W B 2 A es.length (Cs encE es)) (hB : B ≤ W.heap.size) (hu : ∀ e ∈ es, U64 e.2)
    (hno : (dirShape dep es.length && entsOk es) = false) :
    Calls Try.prog 37 #[.agg #[.int .i64 dep, .slice A es.length c], .int .u64 h] W fun e W' => e = .returned (.tuple #[.int .i64 0, .int .i64 261]) ∧ Below W.heap.size W W' := by
  have hcall : ∀ w : World, Rd w B 2 A es.length (Cs encE es) → B ≤ w.heap.size → Calls Try.prog 62 #[.agg #[.int .i64 dep, .slice A es.length c]] w fun e W' => e = .returned (.tuple #[.slice none 0 0, .int .i64 261]) ∧ Below w.heap.size w W' := by
    intro w hr hB
    by_cases hs : dirShape dep es.length = true
    · have he : entsOk es = false := by simpa [hs] using hno
      simp [dirShape] at hs
      obtain ⟨⟨h0, h1⟩, h2⟩ := hs
      have := (pow_small dep h0 h1).2
      refine (DirWords_any B A c dep es w hr hB hu h0 h1 h2 (by omega)).mono ?_
      rintro e W' (⟨h, _⟩ | ⟨_, h⟩)
      · rw [he] at h; cases h
      · exact h
    · exact DirWords_bad A es.length c dep w (by simpa using hs)
  have HC := hide (hcall (W.alloc (.cells #[.int .i64 dep, .slice A es.length c] 24)) (hr.alloc hB _) (by simp; omega))
  clear hcall hu hno
  go_enter Try.func37, Try.ntmps37
  go_wp2_with (go_at_call 62; refine HC.out.mono ?_; rintro e w1 ⟨rfl, hb1⟩)
  go_ret2
  exact ⟨rfl, ((Below.refl _ _).alloc (Nat.le_refl _) _).trans (hb1.mono (by simp))⟩

theorem topZ_lt (h dep : Int) (h0 : 0 ≤ h) (h1 : h < 18446744073709551616) (hd0 : 0 ≤ dep) (hd1 : dep ≤ 5) : 0 ≤ topZ h dep ∧ topZ h dep < 32 := by
  have h4 : dep = 0 ∨ dep = 1 ∨ dep = 2 ∨ dep = 3 ∨ dep = 4 ∨ dep = 5 := by omega
  rcases h4 with rfl | rfl | rfl | rfl | rfl | rfl <;> simp [topZ] <;> omega

set_option maxHeartbeats 1000000 in
theorem At_ok (B : Nat) (A : Option Addr) (c : Nat) (dep h : Int) (es : List (Int × Int)) (W : World) (hr : Rd W B 2 A es.length (Cs encE es)) (hB : B ≤ W.heap.size) (hu : ∀ e ∈ es, U64 e.2) (hh : U64 h)
    (hs : dirShape dep es.length = true) (he : entsOk es = true) :
    Calls Try.prog 37 #[.agg #[.int .i64 dep, .slice A es.length c], .int .u64 h] W fun e W' => e = .returned (.tuple #[.int .i64 (topZ h dep), .int .i64 0]) ∧ Below W.heap.size W W' := by
  simp [dirShape] at hs
  obtain ⟨⟨h0, h1⟩, h2⟩ := hs
  have hp2 := (pow_small dep h0 h1).2
  have HC := hide (DirWords_any B A c dep es (W.alloc (.cells #[.int .i64 dep, .slice A es.length c] 24)) (hr.alloc hB _) (by simp; omega) hu h0 h1 h2 (by omega))
  obtain ⟨t0, t1⟩ := topZ_lt h dep hh.1 hh.2 h0 h1
  have HT := hide (fun w => top_any h dep w hh.1 hh.2 h0 (by omega))
  have HE := hide he
  clear hu hp2 h2 hh he
  go_enter Try.func37, Try.ntmps37
  go_wp2_with fail
  refine HC.out.mono ?_
  rintro e w1 (⟨_, v1, rfl, ho1, hb1⟩ | ⟨hf, _⟩)
  · have e0 : w1.cell? ⟨W.heap.size, 0, none⟩ = some (.int .i64 dep) := by rw [hb1.cell (by simp)]; simp
    generalize hq : topZ h dep = q at *
    have HQ := hide hq
    clear hq
    go_wp2_with (go_at_call 63; refine (HT.out _).mono ?_; rintro e w2 ⟨rfl, rfl⟩)
    go_ret2
    exact ⟨by rw [HQ.out]; rfl, ((Below.refl _ _).alloc (Nat.le_refl _) _).trans (hb1.mono (by simp))⟩
  · rw [HE.out] at hf; cases hf
end Go.Proofs.Ytjlbnegdiabglaa
/-
  honeycombref16: SameDir, DirWords, Dir.
-/
set_option linter.unusedSimpArgs false
set_option linter.unusedVariables false
namespace Go.Proofs.Ytjlbnegdiabglaa
open Go Go.RowKit
attribute [local go_sem] via_cell via_frozen

set_option maxHeartbeats 1000000 in
theorem SameDir_any (B1 B2 : Nat) (A1 A2 : Option Addr) (c1 c2 : Nat) (d1 d2 : Int) (xs ys : List (Int × Int)) (W : World) (h1 : Rd W B1 2 A1 xs.length (Cs encE xs)) (h2 : Rd W B2 2 A2 ys.length (Cs encE ys)) (hB1 : B1 ≤ W.heap.size) (hB2 : B2 ≤ W.heap.size)
    (hl1 : xs.length ≤ 4096) (hl2 : ys.length ≤ 4096) (r : Bool) (hr : (decide (d1 = d2) && decide (xs = ys)) = r) :
    Calls Try.prog 21 #[.agg #[.int .i64 d1, .slice A1 xs.length c1], .agg #[.int .i64 d2, .slice A2 ys.length c2]] W fun e W' => e = .returned (.bool r) ∧ Below W.heap.size W W' := by
  have HRR := hide hr
  clear hr
  by_cases hd : d1 = d2
  · subst hd
    by_cases hlen : xs.length = ys.length
    · have ht : ((xs.length : Int) != (ys.length : Int)) = false := by rw [bne_eq_false_iff_eq]; omega
      have hdd : (d1 != d1) = false := by simp
      have HL := hide hlen
      clear hlen
      go_enter Try.func21, Try.ntmps21
      go_wp2_with fail
      have hb0 : Below W.heap.size W ((W.alloc (.cells #[.int .i64 d1, .slice A1 xs.length c1] 24)).alloc (.cells #[.int .i64 d1, .slice A2 ys.length c2] 24)) := ((Below.refl _ _).alloc (Nat.le_refl _) _).alloc (by simp) _
      have hr2 : RowAt ((W.alloc (.cells #[.int .i64 d1, .slice A1 xs.length c1] 24)).alloc (.cells #[.int .i64 d1, .slice A2 ys.length c2] 24)) (W.heap.size + 1) 24 #[.int .i64 d1, .slice A2 ys.length c2] := by
        have h := RowAt.new (W.alloc (.cells #[.int .i64 d1, .slice A1 xs.length c1] 24)) 24 #[.int .i64 d1, .slice A2 ys.length c2]
        rw [World.size_alloc] at h; exact h
      generalize ((W.alloc (.cells #[.int .i64 d1, .slice A1 xs.length c1] 24)).alloc (.cells #[.int .i64 d1, .slice A2 ys.length c2] 24)) = w0 at *
      have HB0 := hide hb0
      have HR2 := hide hr2
      have hs0 := hb0.size
      clear hb0 hr2
      go_loopw [24] (fun i wr => ∃ k : Nat, k ≤ xs.length ∧ i = .int .i64 k ∧ xs.take k = ys.take k ∧ Below w0.heap.size w0 wr) (fun i _ => xs.length - (intOf i).toNat)
      case atStart => exact ⟨0, Nat.zero_le _, rfl, rfl, Below.refl _ _⟩
      case round =>
        obtain ⟨k, hk, rfl, hpre, hbw⟩ := hrel
        have HP := hide hpre
        have hbW := HB0.out.trans (hbw.mono hs0)
        have HBW := hide hbw
        have e1 := (HR2.out.below hbw).cell 1
        simp only [List.getElem?_toArray, List.getElem?_cons_succ, List.getElem?_cons_zero] at e1
        have hsr : W.heap.size + 1 < wr.heap.size := (HR2.out.below hbw).lt
        clear hpre hbw
        by_cases hlt : k < xs.length
        · have hlt2 : k < ys.length := by have := HL.out; omega
          obtain ⟨b1, o1, rfl, hb1, hc1⟩ := (h1.below (hbW.mono hB1)).elem encE_len hlt
          obtain ⟨b2, o2, rfl, hb2, hc2⟩ := (h2.below (hbW.mono hB2)).elem encE_len hlt2
          have hd10 := hc1 0 _ (by omega) rfl
          have hd11 := hc1 1 _ (by omega) rfl
          have hd20 := hc2 0 _ (by omega) rfl
          have hd21 := hc2 1 _ (by omega) rfl
          simp only [Nat.add_zero] at hd10 hd20
          clear hc1 hc2
          have hi2 : (k : Int) < (ys.length : Int) := by omega
          have hbl1 : b1 < wr.heap.size := by omega
          have hbl2 : b2 < wr.heap.size := by omega
          generalize hx : xs[k] = x at *
          generalize hy : ys[k] = y at *
          have HX := hide hx
          have HY := hide hy
          clear hx hy
          by_cases hxy : x = y
          · subst hxy
            have hne := fun w => neqE w x x true (by simp)
            go_wp2_with fail
            go_quiet (fail)
            go_wp2_with fail
            go_roundw
            case rel => exact ⟨k + 1, by omega, by go_num, by rw [List.take_succ_eq_append_getElem hlt, List.take_succ_eq_append_getElem hlt2, HP.out, HX.out, HY.out], below_drewN (HBW.out.alloc HBW.out.size _) _⟩
            case measure => simp [intOf]; omega
          · have hne := fun w => neqE w x y false (by simpa using hxy)
            go_wp2_with fail
            go_quiet (fail)
            go_wp2_with fail
            go_ret
            exact ⟨ret_bool (by rw [← HRR.out]; simp; intro h; apply hxy; rw [← HX.out, ← HY.out]; simp [h]), hbW.trans (below_drewN ((Below.refl _ _).alloc (by omega) _) _)⟩
        · go_wp2_with fail
          go_ret
          have he : xs = ys := by have h := HP.out; rw [List.take_of_length_le (by omega), List.take_of_length_le (by have := HL.out; omega)] at h; exact h
          exact ⟨ret_bool (by rw [← HRR.out]; simp [he]), hbW⟩
    · have ht : ((xs.length : Int) != (ys.length : Int)) = true := by rw [bne_iff_ne]; omega
      have hdd : (d1 != d1) = false := by simp
      go_enter Try.func21, Try.ntmps21
      go_wp2
      go_ret
      exact ⟨ret_bool (by rw [← HRR.out]; simp; intro h; exact hlen (by rw [h])), ((Below.refl _ _).alloc (Nat.le_refl _) _).alloc (by simp) _⟩
  · have hdd : (d1 != d2) = true := by rw [bne_iff_ne]; exact hd
    go_enter Try.func21, Try.ntmps21
    go_wp2
    go_ret
    exact ⟨ret_bool (by rw [← HRR.out]; simp [hd]), ((Below.refl _ _).alloc (Nat.le_refl _) _).alloc (by simp) _⟩

/-- honeycombref16.Dir. -/
theorem RDir_any (B : Nat) (A : Option Addr) (c : Nat) (dep : Int) (es : List (Int × Int)) (W : World) (h : Rd W B 2 A es.length (Cs encE es)) (hB : B ≤ W.heap.size) (hu : ∀ e ∈ es, U64 e.2) (hl : es.length ≤ 4096) (r : Bool) (hr : (dirShape dep es.length && entsOk es) = r) :
    Calls Try.prog 39 #[.agg #[.int .i64 dep, .slice A es.length c]] W fun e W' => e = .returned (.bool r) ∧ Below W.heap.size W W' := by
  have HU := hide hu
  have HRR := hide hr
  clear hu hr
  go_enter Try.func39, Try.ntmps39
  go_wp2_with fail
  have hb0 : Below W.heap.size W (W.alloc (.cells #[.int .i64 dep, .slice A es.length c] 24)) := (Below.refl _ _).alloc (Nat.le_refl _) _
  have hr0 : RowAt (W.alloc (.cells #[.int .i64 dep, .slice A es.length c] 24)) W.heap.size 24 #[.int .i64 dep, .slice A es.length c] := RowAt.new _ _ _
  generalize (W.alloc (.cells #[.int .i64 dep, .slice A es.length c] 24)) = w0 at *
  have HR0 := hide hr0
  clear hr0
  go_loopw [8] (fun i wr => ∃ k : Nat, k ≤ es.length ∧ i = .int .i64 k ∧ entsOk (es.take k) = true ∧ Below w0.heap.size w0 wr) (fun i _ => es.length - (intOf i).toNat)
  case atStart => exact ⟨0, Nat.zero_le _, rfl, rfl, Below.refl _ _⟩
  case round =>
    obtain ⟨k, hk, rfl, hall, hbw⟩ := hrel
    have HA := hide hall
    have hbW := hb0.trans (hbw.mono hb0.size)
    have HBW := hide hbw
    have hrw := HR0.out.below hbw
    have hsr := hrw.lt
    have d0 := hrw.cell 0
    have d1 := hrw.cell 1
    simp only [List.getElem?_toArray, List.getElem?_cons_succ, List.getElem?_cons_zero] at d0 d1
    clear hall hbw hrw
    by_cases hlt : k < es.length
    · obtain ⟨b, off, rfl, hb, hc⟩ := (h.below (hbW.mono hB)).elem encE_len hlt
      have hd0 := hc 0 _ (by omega) rfl
      have hd1 := hc 1 _ (by omega) rfl
      simp only [Nat.add_zero] at hd0
      clear hc
      have hux := hide (HU.out es[k] (List.getElem_mem hlt))
      have HT := hide (entsOk_take es k hlt)
      have HN := hide (entsOk_no es k hlt)
      have hbs : b < wr.heap.size := by omega
      generalize hx : es[k] = x at *
      clear hx
      obtain ⟨bb, hbb⟩ : ∃ bb, okEnt x.1 x.2 = bb := ⟨_, rfl⟩
      have HO := hide hbb
      clear hbb
      cases bb
      · go_wp2_with (go_at_call 19; refine (Entry_any _ x.1 x.2 false hux.out.1 HO.out).mono ?_; rintro e w1 ⟨rfl, hb1⟩)
        go_ret
        exact ⟨ret_bool (by rw [← HRR.out, HN.out HO.out, Bool.and_false]), (hbW.alloc hbW.size _).trans (hb1.mono (by have := hbW.size; simp; omega))⟩
      · go_wp2_with (go_at_call 19; refine (Entry_any _ x.1 x.2 true hux.out.1 HO.out).mono ?_; rintro e w1 ⟨rfl, hb1⟩)
        go_roundw
        case rel => exact ⟨k + 1, by omega, by go_num, by rw [HT.out, HA.out, HO.out]; rfl, (HBW.out.alloc HBW.out.size _).trans (hb1.mono (by have := HBW.out.size; simp; omega))⟩
        case measure => simp [intOf]; omega
    · obtain rfl : k = es.length := by omega
      rw [List.take_length] at HA
      have hlI : (es.length : Int) ≤ 9223372036854775807 := by omega
      by_cases a1 : 0 ≤ dep
      · obtain ⟨n, rfl⟩ := Int.eq_ofNat_of_zero_le a1
        by_cases a2 : (n : Int) ≤ 5
        · have HP := fun W => power_any W n (by omega)
          have HPh := hide HP
          clear HP
          have hq : dirShape (n : Int) es.length = ((es.length : Int) == ((2 ^ n : Nat) : Int)) := by
            unfold dirShape
            rw [Bool.eq_iff_iff]; simp; omega
          obtain ⟨q, hq2⟩ : ∃ q : Int, ((2 ^ n : Nat) : Int) = q := ⟨_, rfl⟩
          rw [hq2] at HPh hq
          obtain ⟨t, ht⟩ : ∃ t, ((es.length : Int) == q) = t := ⟨_, rfl⟩
          rw [ht] at hq
          have HQ := hide hq
          clear hq2 hq
          cases t
          all_goals
            go_wp2_with fail
            refine wp_region_via (by kernel_rfl) (by kernel_rfl) ?_
            repeat (go_big_quiet_step ((go_at_call 49; exact via_of_same (HPh.out _))))
            refine via_out fun w1 hb1 => ?_
            go_wp2
            go_ret
            exact ⟨ret_bool (by rw [← HRR.out, HQ.out, HA.out]; rfl), hbW.trans (hb1.mono hbW.size)⟩
        · have b2 : decide ((n : Int) ≤ 5) = false := by simpa using a2
          go_wp2_with fail
          refine wp_region_via (by kernel_rfl) (by kernel_rfl) ?_
          repeat (go_big_quiet_step (fail))
          refine via_out fun w1 hb1 => ?_
          go_wp2
          go_ret
          exact ⟨ret_bool (by rw [← HRR.out, HA.out]; unfold dirShape; rw [decide_eq_false (by omega)]; rfl), hbW.trans (hb1.mono hbW.size)⟩
      · have b1 : decide (0 ≤ dep) = false := by simpa using a1
        go_wp2_with fail
        refine wp_region_via (by kernel_rfl) (by kernel_rfl) ?_
        repeat (go_big_quiet_step (fail))
        refine via_out fun w1 hb1 => ?_
        go_wp2
        go_ret
        exact ⟨ret_bool (by rw [← HRR.out, HA.out]; unfold dirShape; rw [decide_eq_false (by omega)]; rfl), hbW.trans (hb1.mono hbW.size)⟩

end Go.Proofs.Ytjlbnegdiabglaa
