/-
  Pins: which may be, the same ones, what is safe, new ones (the program's and the reference's); leaving by an error.
-/
import Derived.Test.YtopaopfebgonjaaPna
import Derived.Test.YtopaopfebgonjaaPnp
import Derived.Laws.NewBlocks
set_option linter.unusedSimpArgs false
set_option linter.unusedVariables false
namespace Go.Proofs.Ytopaopfebgonjaa
open Go Go.RowKit
attribute [local go_sem] via_cell via_frozen

/-- What is thrown. -/
def errX (k : Int) : List PanicEntry := [{ v := .iface 33 (.int .i64 k), recovered := false }]
theorem need_ok (k : Int) (W : World) : Calls Try.prog 44 #[.bool true, .int .i64 k] W fun e W' => e = .returned (.tuple #[]) ∧ W = W' := by
  go_enter Try.func44, Try.ntmps44
  go_wp2
  go_end0
  exact ⟨rfl, rfl⟩
theorem need_no (k : Int) (W : World) : Calls Try.prog 44 #[.bool false, .int .i64 k] W fun e W' => e = .panicked (errX k) ∧ W = W' := by
  go_enter Try.func44, Try.ntmps44
  go_wp2
  exact ⟨rfl, rfl, rfl⟩

theorem right_any (gP : Nat) (e s : Int) (v : Value) (W : World) (hr : RowAt W gP 25 #[.int .u64 e, v]) (h0 : 0 ≤ e) (h1 : e ≤ 4611686018427387904) :
    Calls Try.prog 33 #[.int .u64 s, .pointer (some ⟨gP, 0, none⟩)] W fun x W' => x = .returned (.bool (decide (s ≤ e + 1))) ∧ W = W' := by
  have q0 := row20 hr
  have l0 := hr.lt
  have e0 : (0 : Int) ≤ e + 1 := by omega
  have e1 : e + 1 < 18446744073709551616 := by omega
  clear hr
  go_enter Try.func33, Try.ntmps33
  go_wp2
  go_ret
  exact ⟨rfl, rfl⟩

theorem all1_any (gb gP : Nat) (e s : Int) (v : Value) (W : World) (hr : RowAt W gP 25 #[.int .u64 e, v]) (hc : W.cell? ⟨gb, 0, none⟩ = some (.func (.func 33) #[] #[.pointer (some ⟨gP, 0, none⟩)])) (hgb : gb < W.heap.size) (h0 : 0 ≤ e) (h1 : e ≤ 4611686018427387904) (r : Bool) (hrr : (!decide (s ≤ e + 1)) = r) :
    Calls Try.prog 42 #[.int .u64 s, .pointer (some ⟨gb, 0, none⟩)] W fun x W' => x = .returned (.bool r) ∧ W = W' := by
  obtain ⟨q, hq⟩ : ∃ q, decide (s ≤ e + 1) = q := ⟨_, rfl⟩
  have HC := hide (right_any gP e s v W hr h0 h1)
  rw [hq] at HC hrr
  clear hq hr
  subst hrr
  go_enter Try.func42, Try.ntmps42
  go_wp2_with fail
  refine HC.out.mono ?_
  rintro e w1 ⟨rfl, rfl⟩
  go_wp2_with fail
  go_ret
  exact ⟨rfl, rfl⟩

theorem all_any (B gP : Nat) (A : Option Addr) (c n : Nat) (e : Int) (v : Value) (xs : List Int) (W : World) (h : Rd W B 1 A n (Cs encW xs)) (hx : xs.length = n) (hB : B ≤ W.heap.size) (hl : n ≤ 4096) (hr : RowAt W gP 25 #[.int .u64 e, v]) (h0 : 0 ≤ e) (h1 : e ≤ 4611686018427387904)
    (r : Bool) (hrr : (xs.all fun s => decide (s ≤ e + 1)) = r) :
    Calls Try.prog 32 #[.slice A n c, .func (.func 33) #[] #[.pointer (some ⟨gP, 0, none⟩)]] W fun x W' => x = .returned (.bool r) ∧ Below W.heap.size W W' := by
  subst hx
  have hbn : Below W.heap.size W (W.alloc (.cells #[.func (.func 33) #[] #[.pointer (some ⟨gP, 0, none⟩)]] 63)) := (Below.refl _ _).alloc (Nat.le_refl _) _
  have hrow : RowAt (W.alloc (.cells #[.func (.func 33) #[] #[.pointer (some ⟨gP, 0, none⟩)]] 63)) W.heap.size 63 #[.func (.func 33) #[] #[.pointer (some ⟨gP, 0, none⟩)]] := RowAt.new _ _ _
  have hr1 := hr.below hbn
  have HC := hide (ContainsFW B A c 42 #[.pointer (some ⟨W.heap.size, 0, none⟩)] (enters_of Try.func42 (by kernel_rfl) rfl) (fun s => !decide (s ≤ e + 1)) xs _ (h.below (hbn.mono hB)) (by simp; omega) hl
    (fun w x hw hx => (all1_any W.heap.size gP e x v w (hr1.below hw) ((hrow.below hw).cell 0) (hrow.below hw).lt h0 h1 _ rfl).mono fun _ _ ⟨h1, h2⟩ => ⟨h1, h2 ▸ Below.refl _ _⟩))
  have HR := hide hrr
  clear hrow hbn hr1 hr hrr
  go_enter Try.func32, Try.ntmps32
  go_wp2_with fail
  refine HC.out.mono ?_
  rintro e w1 ⟨rfl, hb⟩
  go_wp2_with fail
  go_ret
  refine ⟨ret_bool ?_, ((Below.refl _ _).alloc (Nat.le_refl _) _).trans (hb.mono (by simp))⟩
  rw [← HR.out, List.all_eq_not_any_not]

theorem check_any (A : Option Addr) (c n : Nat) (e : Int) (S : List Int) (W : World) (h1 : Rd W W.heap.size 1 A n (Cs encW S)) (hx : S.length = n) (h0 : 0 ≤ e) (hl : n ≤ 4096) (k : Int) (hk : (if pOk e S = true then 0 else 230) = k) :
    Calls Try.prog 18 #[.agg #[.int .u64 e, .slice A n c]] W fun x W' => x = .returned (.int .i64 k) ∧ Below W.heap.size W W' := by
  have HK := hide hk
  have hbn : Below W.heap.size W (W.alloc (.cells #[.int .u64 e, .slice A n c] 25)) := (Below.refl _ _).alloc (Nat.le_refl _) _
  have hrow : RowAt (W.alloc (.cells #[.int .u64 e, .slice A n c] 25)) W.heap.size 25 #[.int .u64 e, .slice A n c] := RowAt.new _ _ _
  clear hk
  by_cases g1 : 1 ≤ n
  · by_cases g8 : n ≤ 8
    · by_cases ge : e ≤ 4611686018427387904
      · obtain ⟨r, hr⟩ : ∃ r, (S.all fun s => decide (s ≤ e + 1)) = r := ⟨_, rfl⟩
        have HC := hide (all_any W.heap.size W.heap.size A c n e (.slice A n c) S _ (h1.below hbn) hx hbn.size hl hrow h0 ge r hr)
        have HR := hide hr
        have HB := hide hbn
        have HX := hide hx
        have ge' : decide (4611686018427387904 < e) = false := by simp; omega
        clear hr hbn hrow hx
        go_enter Try.func18, Try.ntmps18
        go_wp2_with fail
        refine HC.out.mono ?_
        rintro x w1 ⟨rfl, hb⟩
        cases r
        · go_wp2_with fail
          go_ret
          exact ⟨ret_int (by have hp : pOk e S = false := by { rw [pOk, HR.out]; simp }; rw [← HK.out, hp]; rfl), HB.out.trans (hb.mono HB.out.size)⟩
        · go_wp2_with fail
          go_ret
          exact ⟨ret_int (by rw [← HK.out]; have hp : pOk e S = true := by { rw [pOk, HR.out, HX.out]; simp [g1, g8, ge] }; rw [hp]; rfl), HB.out.trans (hb.mono HB.out.size)⟩
      · have ge' : 4611686018427387904 < e := by omega
        have HX := hide hx
        clear hx hrow
        go_enter Try.func18, Try.ntmps18
        go_wp2_with fail
        go_ret
        exact ⟨ret_int (by rw [← HK.out]; simp [pOk]; intros; omega), hbn⟩
    · have g8' : ¬ ((n : Int) ≤ 8) := by omega
      have HX := hide hx
      clear hx hrow
      go_enter Try.func18, Try.ntmps18
      go_wp2_with fail
      go_ret
      exact ⟨ret_int (by rw [← HK.out]; simp [pOk, HX.out, g8]), hbn⟩
  · have HX := hide hx
    clear hx hrow
    go_enter Try.func18, Try.ntmps18
    go_wp2_with fail
    go_ret
    exact ⟨ret_int (by rw [← HK.out]; simp [pOk, HX.out, g1]), hbn⟩

set_option maxHeartbeats 1000000 in
theorem rright_any (A : Option Addr) (c n : Nat) (e : Int) (S : List Int) (W : World) (h1 : Rd W W.heap.size 1 A n (Cs encW S)) (hx : S.length = n) (hl : n ≤ 4096) (h0 : 0 ≤ e) (hS : ∀ s ∈ S, U64 s) (r : Bool) (hr : pOk e S = r) :
    Calls Try.prog 10 #[.agg #[.int .u64 e, .slice A n c]] W fun x W' => x = .returned (.bool r) ∧ Below W.heap.size W W' := by
  subst hx
  have HR := hide hr
  have HS := hide hS
  have hb0 : Below W.heap.size W (W.alloc (.cells #[.int .u64 e, .slice A S.length c] 25)) := (Below.refl _ _).alloc (Nat.le_refl _) _
  have hrow : RowAt (W.alloc (.cells #[.int .u64 e, .slice A S.length c] 25)) W.heap.size 25 #[.int .u64 e, .slice A S.length c] := RowAt.new _ _ _
  have h1' := h1.below hb0
  clear hr hS h1
  go_enter Try.func10, Try.ntmps10
  go_wp2_with fail
  generalize (W.alloc (.cells #[.int .u64 e, .slice A S.length c] 25)) = w0 at *
  have q0 := row20 hrow
  have q1 := row21 hrow
  have l0 := hrow.lt
  have HB := hide hb0
  clear hrow hb0
  go_loop [8] (fun i => ∃ k : Nat, k ≤ S.length ∧ i = .int .i64 k ∧ ∀ s ∈ S.take k, s ≤ e + 1) (fun i => S.length - (intOf i).toNat)
  case atStart => exact ⟨0, Nat.zero_le _, rfl, by simp⟩
  case round =>
    obtain ⟨k, hk, rfl, hpre⟩ := hrel
    have HP := hide hpre
    clear hpre
    by_cases hlt : k < S.length
    · obtain ⟨b1, o1, rfl, hb1, hc1⟩ := h1'.elem encW_len hlt
      have hd10 := hc1 0 _ (by omega) rfl
      simp only [Nat.mul_one, Nat.add_zero] at hd10
      clear hc1
      have hb1w : b1 < w0.heap.size := by have := HB.out.size; omega
      have HX := hide (show S.take (k + 1) = S.take k ++ [S[k]] from List.take_succ_eq_append_getElem hlt)
      have HM := hide (List.getElem_mem hlt)
      have HU := hide (HS.out _ (List.getElem_mem hlt))
      generalize S[k] = s at *
      by_cases hs0 : 0 < s
      · have u0 : (0 : Int) ≤ s - 1 := by omega
        have u1 : s - 1 < 18446744073709551616 := by have := HU.out; unfold U64 at this; omega
        by_cases hse : e < s - 1
        · go_wp2_with fail
          go_ret
          refine ⟨ret_bool ?_, HB.out⟩
          rw [← HR.out, eq_comm]
          cases hp : pOk e S with
          | false => rfl
          | true => have := (pOk_out hp).2.2.2 s HM.out; omega
        · have hse' : decide (e < s - 1) = false := by simp; omega
          go_wp2_with fail
          go_round
          case rel => exact ⟨k + 1, by omega, by go_num, fun x hx => by rw [HX.out, List.mem_append] at hx; rcases hx with hx | hx; exact HP.out x hx; simp at hx; omega⟩
          case measure => simp [intOf]; omega
      · have hs0' : decide (0 < s) = false := by simp; omega
        go_wp2_with fail
        go_round
        case rel => exact ⟨k + 1, by omega, by go_num, fun x hx => by rw [HX.out, List.mem_append] at hx; rcases hx with hx | hx; exact HP.out x hx; simp at hx; omega⟩
        case measure => simp [intOf]; omega
    · have HE := hide (show pOk e S = (decide (1 ≤ S.length) && (decide (S.length ≤ 8) && decide (e ≤ 4611686018427387904))) by
        have h := HP.out
        rw [List.take_of_length_le (by omega)] at h
        have : (S.all fun s => decide (s ≤ e + 1)) = true := by rw [List.all_eq_true]; intro s hs; simpa using h s hs
        rw [pOk, this, Bool.and_true])
      by_cases g1 : 1 ≤ S.length
      · by_cases g8 : S.length ≤ 8
        · obtain ⟨b, hb⟩ : ∃ b, decide (e ≤ 4611686018427387904) = b := ⟨_, rfl⟩
          go_wp2_with fail
          go_ret
          exact ⟨ret_bool (by rw [← HR.out, HE.out]; simp [g1, g8, ← hb]), HB.out⟩
        · have g8' : ¬ ((S.length : Int) ≤ 8) := by omega
          go_wp2_with fail
          go_ret
          exact ⟨ret_bool (by rw [← HR.out, HE.out]; simp [g8]), HB.out⟩
      · go_wp2_with fail
        go_ret
        exact ⟨ret_bool (by rw [← HR.out, HE.out]; simp [g1]), HB.out⟩

theorem same_any (A1 A2 : Option Addr) (c1 c2 n1 n2 : Nat) (e1 e2 : Int) (xs ys : List Int) (W : World) (h1 : Rd W W.heap.size 1 A1 n1 (Cs encW xs)) (h2 : Rd W W.heap.size 1 A2 n2 (Cs encW ys)) (hx : xs.length = n1) (hy : ys.length = n2)
    (hl1 : n1 ≤ 4096) (hl2 : n2 ≤ 4096) (r : Bool) (hr : decide (e1 = e2 ∧ xs = ys) = r) :
    Calls Try.prog 21 #[.agg #[.int .u64 e1, .slice A1 n1 c1], .agg #[.int .u64 e2, .slice A2 n2 c2]] W fun e W' => e = .returned (.bool r) ∧ Below W.heap.size W W' := by
  subst hx hy
  have hb := ((Below.refl W.heap.size W).alloc (Nat.le_refl _) (.cells #[.int .u64 e1, .slice A1 xs.length c1] 25)).alloc (by simp) (.cells #[.int .u64 e2, .slice A2 ys.length c2] 25)
  obtain ⟨q, hq⟩ : ∃ q, decide (xs = ys) = q := ⟨_, rfl⟩
  have HC := hide (EqualW W.heap.size W.heap.size A1 A2 c1 c2 xs ys _ (h1.below hb) (h2.below hb) hb.size hb.size hl1 hl2 q hq)
  have HB := hide hb
  have HR := hide hr
  have HQ := hide hq
  clear hb hr hq
  by_cases he : e1 = e2
  · subst he
    have hee : (e1 == e1) = true := by simp
    go_enter Try.func21, Try.ntmps21
    go_wp2_with fail
    refine HC.out.mono ?_
    rintro e w1 ⟨rfl, hb⟩
    go_wp2_with fail
    go_ret
    exact ⟨ret_bool (by rw [← HR.out, ← HQ.out]; simp), HB.out.trans (hb.mono HB.out.size)⟩
  · have hee : (e1 == e2) = false := by simpa using he
    go_enter Try.func21, Try.ntmps21
    go_wp2_with fail
    go_ret
    exact ⟨ret_bool (by rw [← HR.out]; simp [he]), HB.out⟩

set_option maxHeartbeats 1000000 in
theorem rsame_any (A1 A2 : Option Addr) (c1 c2 n1 n2 : Nat) (e1 e2 : Int) (xs ys : List Int) (W : World) (h1 : Rd W W.heap.size 1 A1 n1 (Cs encW xs)) (h2 : Rd W W.heap.size 1 A2 n2 (Cs encW ys)) (hx : xs.length = n1) (hy : ys.length = n2)
    (hl1 : n1 ≤ 4096) (hl2 : n2 ≤ 4096) (r : Bool) (hr : decide (e1 = e2 ∧ xs = ys) = r) :
    Calls Try.prog 14 #[.agg #[.int .u64 e1, .slice A1 n1 c1], .agg #[.int .u64 e2, .slice A2 n2 c2]] W fun e W' => e = .returned (.bool r) ∧ Below W.heap.size W W' := by
  subst hx hy
  have HRR := hide hr
  clear hr
  have hb0 := ((Below.refl W.heap.size W).alloc (Nat.le_refl _) (.cells #[.int .u64 e1, .slice A1 xs.length c1] 25)).alloc (by simp) (.cells #[.int .u64 e2, .slice A2 ys.length c2] 25)
  by_cases he : e1 = e2
  · subst he
    have hee : (e1 != e1) = false := by simp
    by_cases hlen : xs.length = ys.length
    · have ht : ((xs.length : Int) != (ys.length : Int)) = false := by rw [bne_eq_false_iff_eq]; omega
      have HL := hide hlen
      clear hlen
      have hr2 : RowAt ((W.alloc (.cells #[.int .u64 e1, .slice A1 xs.length c1] 25)).alloc (.cells #[.int .u64 e1, .slice A2 ys.length c2] 25)) (W.heap.size + 1) 25 #[.int .u64 e1, .slice A2 ys.length c2] := by
        have h := RowAt.new (W.alloc (.cells #[.int .u64 e1, .slice A1 xs.length c1] 25)) 25 #[.int .u64 e1, .slice A2 ys.length c2]
        rw [World.size_alloc] at h; exact h
      have h1' := h1.below hb0
      have h2' := h2.below hb0
      have HR2 := hide hr2
      clear hr2 h1 h2
      go_enter Try.func14, Try.ntmps14
      go_wp2_with fail
      generalize ((W.alloc (.cells #[.int .u64 e1, .slice A1 xs.length c1] 25)).alloc (.cells #[.int .u64 e1, .slice A2 ys.length c2] 25)) = w0 at *
      have HB0 := hide hb0
      have hs0 := hb0.size
      have q2 := row21 HR2.out
      have l2 := HR2.out.lt
      clear hb0
      go_loop [24] (fun i => ∃ k : Nat, k ≤ xs.length ∧ i = .int .i64 k ∧ xs.take k = ys.take k) (fun i => xs.length - (intOf i).toNat)
      case atStart => exact ⟨0, Nat.zero_le _, rfl, rfl⟩
      case round =>
        obtain ⟨k, hk, rfl, hpre⟩ := hrel
        have HP := hide hpre
        clear hpre
        by_cases hlt : k < xs.length
        · have hlt2 : k < ys.length := by have := HL.out; omega
          obtain ⟨b1, o1, rfl, hb1, hc1⟩ := h1'.elem encW_len hlt
          obtain ⟨b2, o2, rfl, hb2, hc2⟩ := h2'.elem encW_len hlt2
          have hd10 := hc1 0 _ (by omega) rfl
          have hd20 := hc2 0 _ (by omega) rfl
          simp only [Nat.mul_one, Nat.add_zero] at hd10 hd20
          clear hc1 hc2
          have hi2 : (k : Int) < (ys.length : Int) := by omega
          have hbl1 : b1 < w0.heap.size := by omega
          have hbl2 : b2 < w0.heap.size := by omega
          generalize hx : xs[k] = x at *
          generalize hy : ys[k] = y at *
          have HX := hide hx
          have HY := hide hy
          clear hx hy
          by_cases hxy : x = y
          · subst hxy
            have hne : (x != x) = false := by simp
            go_wp2_with fail
            go_round
            case rel => exact ⟨k + 1, by omega, by go_num, by rw [List.take_succ_eq_append_getElem hlt, List.take_succ_eq_append_getElem hlt2, HP.out, HX.out, HY.out]⟩
            case measure => simp [intOf]; omega
          · have hne : (x != y) = true := by simpa using hxy
            go_wp2_with fail
            go_ret
            exact ⟨ret_bool (by rw [← HRR.out]; simp; intro h; apply hxy; rw [← HX.out, ← HY.out]; simp [h]), HB0.out⟩
        · go_wp2_with fail
          go_ret
          have he : xs = ys := by have h := HP.out; rw [List.take_of_length_le (by omega), List.take_of_length_le (by have := HL.out; omega)] at h; exact h
          exact ⟨ret_bool (by rw [← HRR.out]; simp [he]), HB0.out⟩
    · have ht : ((xs.length : Int) != (ys.length : Int)) = true := by rw [bne_iff_ne]; omega
      go_enter Try.func14, Try.ntmps14
      go_wp2
      go_ret
      exact ⟨ret_bool (by rw [← HRR.out]; simp; intro h; exact hlen (by rw [h])), hb0⟩
  · have hee : (e1 != e2) = true := by simpa using he
    go_enter Try.func14, Try.ntmps14
    go_wp2
    go_ret
    exact ⟨ret_bool (by rw [← HRR.out]; simp [he]), hb0⟩

theorem safe_any (A : Option Addr) (c n : Nat) (e x : Int) (S : List Int) (W : World) (h1 : Rd W W.heap.size 1 A n (Cs encW S)) (hx : S.length = n) (h0 : U64 e) (hl : n ≤ 4096) (r : Bool) (hr : (pOk e S && decide (x ≤ e - 2 ∧ 2 ≤ e)) = r) :
    Calls Try.prog 19 #[.agg #[.int .u64 e, .slice A n c], .int .u64 x] W fun v W' => v = .returned (.bool r) ∧ Below W.heap.size W W' := by
  have hbn : Below W.heap.size W (W.alloc (.cells #[.int .u64 e, .slice A n c] 25)) := (Below.refl _ _).alloc (Nat.le_refl _) _
  have hrow : RowAt (W.alloc (.cells #[.int .u64 e, .slice A n c] 25)) W.heap.size 25 #[.int .u64 e, .slice A n c] := RowAt.new _ _ _
  obtain ⟨k, hk⟩ : ∃ k : Int, (if pOk e S = true then 0 else 230) = k := ⟨_, rfl⟩
  have HC := hide (check_any A c n e S _ ((h1.below hbn).more hbn.size) hx h0.1 hl k hk)
  obtain ⟨p, hp⟩ : ∃ p, pOk e S = p := ⟨_, rfl⟩
  rw [hp] at hk hr
  have HR := hide hr
  have HB := hide hbn
  have HW := hide hrow
  have HU := hide h0
  clear hr hbn hrow hp h1 hx h0
  cases p
  · simp at hk
    subst hk
    go_enter Try.func19, Try.ntmps19
    go_wp2_with fail
    refine HC.out.mono ?_
    rintro v w1 ⟨rfl, hb⟩
    go_wp2_with fail
    go_ret
    exact ⟨ret_bool (by rw [← HR.out]; simp), HB.out.trans (hb.mono HB.out.size)⟩
  · simp at hk
    subst hk
    go_enter Try.func19, Try.ntmps19
    go_wp2_with fail
    refine HC.out.mono ?_
    rintro v w1 ⟨rfl, hb⟩
    have HW1 := hide (HW.out.below hb)
    have q0 := row20 HW1.out
    have l0 := HW1.out.lt
    have HB1 := hide (HB.out.trans (hb.mono HB.out.size))
    clear hb
    by_cases h2 : 2 ≤ e
    · have u0 : (0 : Int) ≤ e - 2 := by omega
      have u1 : e - 2 < 18446744073709551616 := by have := HU.out; unfold U64 at this; omega
      obtain ⟨b, hb⟩ : ∃ b, decide (x ≤ e - 2) = b := ⟨_, rfl⟩
      go_wp2_with fail
      go_ret
      exact ⟨ret_bool (by rw [← HR.out]; simp [h2, ← hb]), HB1.out⟩
    · have h2' : decide (2 ≤ e) = false := by simp; omega
      go_wp2_with fail
      go_ret
      exact ⟨ret_bool (by rw [← HR.out]; simp [h2]), HB1.out⟩

theorem rsafe_any (v : Value) (e x : Int) (W : World) (h0 : U64 e) (hx0 : 0 ≤ x) (r : Bool) (hr : decide (x ≤ e - 2 ∧ 2 ≤ e) = r) :
    Calls Try.prog 26 #[.agg #[.int .u64 e, v], .int .u64 x] W fun v W' => v = .returned (.bool r) ∧ Below W.heap.size W W' := by
  have HB := hide (show Below W.heap.size W (W.alloc (.cells #[.int .u64 e, v] 25)) from (Below.refl _ _).alloc (Nat.le_refl _) _)
  have HR := hide hr
  have HU := hide h0
  clear hr h0
  by_cases h2 : x < e
  · have u0 : (0 : Int) ≤ e - x := by omega
    have u1 : e - x < 18446744073709551616 := by have := HU.out; unfold U64 at this; omega
    obtain ⟨b, hb⟩ : ∃ b, decide (2 ≤ e - x) = b := ⟨_, rfl⟩
    go_enter Try.func26, Try.ntmps26
    go_wp2_with fail
    go_ret
    exact ⟨ret_bool (by rw [← HR.out, ← hb]; rw [decide_eq_decide]; omega), HB.out⟩
  · have h2' : decide (x < e) = false := by simp; omega
    go_enter Try.func26, Try.ntmps26
    go_wp2_with fail
    go_ret
    exact ⟨ret_bool (by rw [← HR.out]; simp; omega), HB.out⟩

theorem Cs_rep (n : Nat) : (madeCells (Value.int .u64 0).cells (n * 1)).toList = Cs encW (List.replicate n 0) := by
  apply List.ext_getElem?
  intro j
  by_cases hj : j < n
  · have h2 : j < (List.replicate n (0 : Int)).length := by simpa using hj
    have h4 := Cs_at encW_len (List.replicate n 0) j 0 h2 (by omega)
    simp only [Nat.mul_one, Nat.add_zero] at h4
    rw [h4]
    simp [madeCells, hj, Value.cells, encW, Nat.mod_one]
  · rw [List.getElem?_eq_none (l := Cs encW (List.replicate n 0)) (by rw [Cs_length encW_len]; simp; omega), List.getElem?_eq_none (by simp [madeCells]; omega)]

theorem new_yes (n : Nat) (W : World) (h0 : 1 ≤ n) (h1 : n ≤ 8) :
    Calls Try.prog 27 #[.int .i64 (n : Int)] W fun e W' => ∃ A c, e = .returned (.tuple #[.agg #[.int .u64 0, .slice A n c], .int .i64 0]) ∧ n ≤ c ∧ c ≤ 4096 ∧ Rd W' W'.heap.size 1 A n (Cs encW (List.replicate n 0)) ∧ Below W.heap.size W W' := by
  obtain ⟨i0, hi0, hz0, hz1, hz2⟩ := info_parts elW.info
  have hmk := fun w => run_make_rowN (P := Try.prog) 23 22 i0 _ Try.underlying23 hi0 hz0 .i64 .i64 n n (Nat.le_refl _) (by rw [hz2]; omega) (by omega) w
  rw [hz1, Nat.mul_one] at hmk
  have hg0 : decide ((n : Int) < 1) = false := by simp; omega
  have hg1 : decide (8 < (n : Int)) = false := by simp; omega
  clear hi0 hz0 hz1 hz2
  go_enter Try.func27, Try.ntmps27
  go_wp2_with fail
  have hM := Cs_rep n
  obtain ⟨w1, hw1⟩ : ∃ w1, W.alloc (.cells #[.int .u64 0, .slice (some ⟨W.heap.size + 1, 0, none⟩) n n] 25) = w1 := ⟨_, rfl⟩
  have hs1 : w1.heap.size = W.heap.size + 1 := by rw [← hw1]; simp
  have hb1 : Below W.heap.size W w1 := by rw [← hw1]; exact (Below.refl _ _).alloc (Nat.le_refl _) _
  have hrd := Rd.new w1 (madeCells #[.int .u64 0] n) 22 1 n (by simp [madeCells])
  have hM2 : (madeCells #[.int .u64 0] n).toList = Cs encW (List.replicate n 0) := by simpa [Value.cells] using hM
  rw [hM2, hs1] at hrd
  refine bodyPost_ret (v := .tuple #[.agg #[.int .u64 0, .slice (some ⟨W.heap.size + 1, 0, none⟩) n n], .int .i64 0]) (by simp [results, Try.results27, go_sem]) rfl ⟨_, n, rfl, Nat.le_refl _, by omega, ?_, ?_⟩
  · rw [hw1]; exact hrd.more (by rw [World.size_alloc, hs1]; omega)
  · rw [hw1]; exact hb1.alloc (by omega) _
theorem new_no (n : Int) (W : World) (h : ¬ (1 ≤ n ∧ n ≤ 8)) :
    Calls Try.prog 27 #[.int .i64 n] W fun e W' => e = .returned (.tuple #[.agg #[.int .u64 0, .slice none 0 0], .int .i64 2]) ∧ Below W.heap.size W W' := by
  by_cases h0 : n < 1
  · go_enter Try.func27, Try.ntmps27
    go_wp2
    refine bodyPost_ret (v := .tuple #[.agg #[.int .u64 0, .slice none 0 0], .int .i64 2]) (by simp [results, Try.results27, go_sem]) rfl ⟨rfl, ?_⟩
    exact (Below.refl _ _).alloc (Nat.le_refl _) _
  · have h0' : decide (n < 1) = false := by simp; omega
    have h1 : 8 < n := by omega
    go_enter Try.func27, Try.ntmps27
    go_wp2
    refine bodyPost_ret (v := .tuple #[.agg #[.int .u64 0, .slice none 0 0], .int .i64 2]) (by simp [results, Try.results27, go_sem]) rfl ⟨rfl, ?_⟩
    exact (Below.refl _ _).alloc (Nat.le_refl _) _
end Go.Proofs.Ytopaopfebgonjaa
