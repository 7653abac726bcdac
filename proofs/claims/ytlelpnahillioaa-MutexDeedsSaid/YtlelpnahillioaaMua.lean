/-
  Slices of ints: cloned, compared, sought in.
-/
import Derived.Test.YtlelpnahillioaaProg
import Derived.Test.YtlelpnahillioaaMore
import Derived.Test.YtlelpnahillioaaMup
set_option linter.unusedSimpArgs false
set_option linter.unusedVariables false
namespace Go.Proofs.Ytlelpnahillioaa
open Go Go.RowKit
attribute [local go_sem] via_cell via_frozen

def encI (x : Int) : List Value := [.int .i64 x]
theorem encI_len : ∀ x, (encI x).length = 1 := fun _ => rfl
theorem encI_one : ∀ x, ∀ u ∈ encI x, u.oneCell' = true := by intro x u hu; simp [encI] at hu; subst hu; rfl
theorem elI : ElemOk Try.prog 40 3 1 8 (.int .i64 0) := ⟨Try.underlying40, by kernel_rfl, rfl, by omega, by omega, by intro u hu; simp [Value.cells] at hu; subst hu; rfl⟩

set_option maxHeartbeats 400000 in
theorem CloneI (B : Nat) (A : Option Addr) (n c : Nat) (xs : List Value) (W : World) (hr : Rd W B 1 A n xs) (hB : B ≤ W.heap.size) (h1 : ∀ u ∈ xs, u.oneCell' = true) (hb : n ≤ 4096) :
    Calls Try.prog 31 #[.slice A n c] W fun e W' => ∃ v, e = .returned v ∧ W'.ownsRow W.heap.size 3 1 v n xs ∧ Below W.heap.size W W' := by
  cases A with
  | none =>
    obtain rfl := rd_none hr
    obtain rfl := hr.nil
    have hn := fun w => Lib.run_eql_slice_nil (P := Try.prog) w 40 3 none 0 c 0 0 Try.underlying40
    go_enter Try.func31, Try.ntmps31
    go_wp2
    go_ret
    exact ⟨_, rfl, World.ownsRow_nil _ _ _ _, Below.refl _ _⟩
  | some a =>
    have hn := fun w => Lib.run_eql_slice_nil (P := Try.prog) w 40 3 (some a) n c 0 0 Try.underlying40
    have hown := World.ownsRow_lit (base := W.heap.size) (e := 3) (size := 1) W #[] 0 (Nat.le_refl _) (by simp [maxLen]) rfl
    go_enter Try.func31, Try.ntmps31
    go_wp2_with (at_builtin; refine wpList_app elI rfl _ _ rfl rfl hown rfl (hr.alloc hB _) h1 (by omega) (by simp) ?_; intro v1 w1 hown1 hb1 _ _)
    go_ret
    exact ⟨v1, rfl, by simpa using hown1, ((Below.refl _ _).alloc (Nat.le_refl _) _).trans hb1⟩

set_option maxHeartbeats 1000000 in
theorem EqualI (B1 B2 : Nat) (A1 A2 : Option Addr) (c1 c2 : Nat) (xs ys : List (Int)) (W : World) (h1 : Rd W B1 1 A1 xs.length (Cs encI xs)) (h2 : Rd W B2 1 A2 ys.length (Cs encI ys)) (hB1 : B1 ≤ W.heap.size) (hB2 : B2 ≤ W.heap.size)
    (hl1 : xs.length ≤ 4096) (hl2 : ys.length ≤ 4096) (r : Bool) (hr : decide (xs = ys) = r) :
    Calls Try.prog 30 #[.slice A1 xs.length c1, .slice A2 ys.length c2] W fun e W' => e = .returned (.bool r) ∧ Below W.heap.size W W' := by
  subst hr
  by_cases hlen : xs.length = ys.length
  · have ht : ((xs.length : Int) != (ys.length : Int)) = false := by rw [bne_eq_false_iff_eq]; omega
    have HL := hide hlen
    clear hlen
    go_enter Try.func30, Try.ntmps30
    go_wp2_with fail
    go_loopw [13] (fun i wr => ∃ k : Nat, k ≤ xs.length ∧ i = .int .i64 k ∧ xs.take k = ys.take k ∧ Below W.heap.size W wr) (fun i _ => xs.length - (intOf i).toNat)
    case atStart => exact ⟨0, Nat.zero_le _, rfl, rfl, Below.refl _ _⟩
    case round =>
      obtain ⟨k, hk, rfl, hpre, hbw⟩ := hrel
      have HP := hide hpre
      clear hpre
      by_cases hlt : k < xs.length
      · have hlt2 : k < ys.length := by have := HL.out; omega
        obtain ⟨b1, o1, rfl, hb1, hc1⟩ := (h1.below (hbw.mono hB1)).elem encI_len hlt
        obtain ⟨b2, o2, rfl, hb2, hc2⟩ := (h2.below (hbw.mono hB2)).elem encI_len hlt2
        have hd10 := hc1 0 _ (by omega) rfl
        have hd20 := hc2 0 _ (by omega) rfl
        simp only [Nat.mul_one, Nat.add_zero] at hd10 hd20
        clear hc1 hc2
        have hi2 : (k : Int) < (ys.length : Int) := by omega
        generalize hx : xs[k] = x at *
        generalize hy : ys[k] = y at *
        have HX := hide hx
        have HY := hide hy
        clear hx hy
        by_cases hxy : x = y
        · subst hxy
          have hne : (x != x) = false := by simp
          go_wp2_with fail
          go_quiet (fail)
          go_wp2_with fail
          go_roundw
          case rel => exact ⟨k + 1, by omega, by go_num, by rw [List.take_succ_eq_append_getElem hlt, List.take_succ_eq_append_getElem hlt2, HP.out, HX.out, HY.out], hbw.trans ⟨rfl, rfl, rfl, Nat.le_refl _, fun _ _ => rfl⟩⟩
          case measure => simp [intOf]; omega
        · have hne : (x != y) = true := by simpa using hxy
          go_wp2_with fail
          go_quiet (fail)
          go_wp2_with fail
          go_ret
          exact ⟨ret_bool (by rw [eq_comm, decide_eq_false_iff_not]; intro h; apply hxy; rw [← HX.out, ← HY.out]; simp [h]), hbw.trans ⟨rfl, rfl, rfl, Nat.le_refl _, fun _ _ => rfl⟩⟩
      · go_wp2_with fail
        go_ret
        have he : xs = ys := by have h := HP.out; rw [List.take_of_length_le (by omega), List.take_of_length_le (by have := HL.out; omega)] at h; exact h
        exact ⟨ret_bool (by rw [eq_comm, decide_eq_true_iff]; exact he), hbw⟩
  · have ht : ((xs.length : Int) != (ys.length : Int)) = true := by rw [bne_iff_ne]; omega
    go_enter Try.func30, Try.ntmps30
    go_wp2
    go_ret
    exact ⟨ret_bool (by rw [eq_comm, decide_eq_false_iff_not]; intro h; exact hlen (by rw [h])), Below.refl _ _⟩

theorem Rd.numE {w : World} {B n : Nat} {A : Option Addr} {X : List Int} (h : Rd w B 1 A n (Cs encI X)) (hx : X.length = n) {k : Nat} (hk : k < X.length) :
    ∃ b off, A = some ⟨b, off, none⟩ ∧ b < B ∧ w.cell? ⟨b, off + k, none⟩ = some (.int .i64 X[k]) := by
  subst hx
  obtain ⟨b, off, h1, h2, h3⟩ := h.elem encI_len hk
  exact ⟨b, off, h1, h2, by simpa using h3 0 _ (by omega) rfl⟩
theorem Rd.numD {w : World} {B n : Nat} {A : Option Addr} {X : List Int} (h : Rd w B 1 A n (Cs encI X)) (hx : X.length = n) {k : Nat} (hk : k < n) :
    ∃ b off, A = some ⟨b, off, none⟩ ∧ b < B ∧ w.cell? ⟨b, off + k, none⟩ = some (.int .i64 (X.getD k 0)) := by
  have hk2 : k < X.length := by omega
  obtain ⟨b, off, h1, h2, h3⟩ := h.numE hx hk2
  exact ⟨b, off, h1, h2, by rw [h3, List.getD_eq_getElem?_getD, List.getElem?_eq_getElem hk2]; rfl⟩
theorem index_any (B : Nat) (A : Option Addr) (c m : Nat) (xs : List Int) (g : Int) (W : World) (h : Rd W B 1 A m (Cs encI xs)) (hx : xs.length = m) (hm : m ≤ 4096) (hB : B ≤ W.heap.size) (r : Bool) (hr : xs.contains g = r) :
    Calls Try.prog 43 #[.slice A m c, .int .i64 g] W fun e W' => ∃ i : Int, e = .returned (.int .i64 i) ∧ decide (0 ≤ i) = r ∧ W = W' := by
  have HX := hide hx
  have HR := hide hr
  have H := hide h
  clear h hx hr
  go_enter Try.func43, Try.ntmps43
  go_wp2_with fail
  go_loopw [8] (fun i wr => ∃ k : Nat, k ≤ m ∧ i = .int .i64 k ∧ (xs.take k).contains g = false ∧ wr = W) (fun i _ => m - (intOf i).toNat)
  case atStart => exact ⟨0, Nat.zero_le _, rfl, rfl, rfl⟩
  case round =>
    obtain ⟨k, hk, rfl, hno, rfl⟩ := hrel
    have HN := hide hno
    clear hno
    by_cases hlt : k < m
    · have hlx : k < xs.length := by rw [HX.out]; exact hlt
      obtain ⟨b, o, rfl, hb, d0⟩ := H.out.numE HX.out hlx
      have hbl : b < wr.heap.size := Nat.lt_of_lt_of_le hb hB
      have hkm : (k : Int) < (m : Int) := by omega
      have HT := hide (show xs.take (k + 1) = xs.take k ++ [xs[k]] from List.take_succ_eq_append_getElem hlx)
      have HM := hide (List.getElem_mem hlx)
      generalize xs[k] = x at *
      clear hb
      by_cases hxg : g = x
      · have hd : (g == x) = true := by simpa using hxg
        have HF := hide (show true = r by rw [← HR.out]; subst hxg; simpa using HM.out)
        clear hxg
        go_wp2_with fail
        go_ret
        exact ⟨_, rfl, by rw [← HF.out]; simp, rfl⟩
      · have hd : (g == x) = false := by simpa using hxg
        have HNX := hide (show (xs.take (k + 1)).contains g = false by
          rw [HT.out]
          have h := HN.out
          simp at h ⊢
          exact ⟨h, hxg⟩)
        clear hxg
        go_wp2_with fail
        go_roundw
        case rel => exact ⟨k + 1, by omega, by go_num, HNX.out, by trivial⟩
        case measure => simp [intOf]; omega
    · go_wp2_with fail
      go_ret
      have h := HN.out
      rw [List.take_of_length_le (by rw [HX.out]; omega), HR.out] at h
      exact ⟨_, rfl, by rw [h]; rfl, rfl⟩
theorem contains_any (B : Nat) (A : Option Addr) (c m : Nat) (xs : List Int) (g : Int) (W : World) (h : Rd W B 1 A m (Cs encI xs)) (hx : xs.length = m) (hm : m ≤ 4096) (hB : B ≤ W.heap.size) (r : Bool) (hr : xs.contains g = r) :
    Calls Try.prog 21 #[.slice A m c, .int .i64 g] W fun e W' => e = .returned (.bool r) ∧ W = W' := by
  have HI := hide (index_any B A c m xs g W h hx hm hB r hr)
  clear h hx hr
  go_enter Try.func21, Try.ntmps21
  go_wp2_with fail
  with_reducible refine HI.out.mono ?_
  rintro e w1 ⟨i, rfl, hi, rfl⟩
  have HII := hide hi
  clear hi
  go_wp2_with fail
  go_ret
  exact ⟨ret_bool HII.out, rfl⟩
def errX (k : Int) : List PanicEntry := [{ v := .iface 30 (.int .i64 k), recovered := false }]
theorem need_ok (k : Int) (W : World) : Calls Try.prog 51 #[.bool true, .int .i64 k] W fun e W' => e = .returned (.tuple #[]) ∧ W = W' := by
  go_enter Try.func51, Try.ntmps51
  go_wp2
  go_end0
  exact ⟨rfl, rfl⟩
theorem need_no (k : Int) (W : World) : Calls Try.prog 51 #[.bool false, .int .i64 k] W fun e W' => e = .panicked (errX k) ∧ W = W' := by
  go_enter Try.func51, Try.ntmps51
  go_wp2
  exact ⟨rfl, rfl, rfl⟩
theorem any_take_succ {p : Int → Bool} {xs : List Int} {k : Nat} (h : k < xs.length) : (xs.take (k + 1)).any p = ((xs.take k).any p || p (xs.getD k 0)) := by
  rw [List.take_succ_eq_append_getElem h, List.any_append, List.getD_eq_getElem?_getD, List.getElem?_eq_getElem h]
  simp
theorem any_of_take {p : Int → Bool} {xs : List Int} {k : Nat} (h : (xs.take k).any p = true) : xs.any p = true := by
  obtain ⟨x, hx, hp⟩ := List.any_eq_true.1 h
  exact List.any_eq_true.2 ⟨x, List.mem_of_mem_take hx, hp⟩
theorem getD_mem {xs : List Int} {k : Nat} (h : k < xs.length) : xs.getD k 0 ∈ xs := by
  rw [List.getD_eq_getElem?_getD, List.getElem?_eq_getElem h]; exact List.getElem_mem h
/-- A place that is one just if p holds of some element. -/
def IdxRes (p : Int → Bool) (xs : List Int) (e : Ending) : Prop := ∃ i : Int, e = .returned (.int .i64 i) ∧ decide (0 ≤ i) = xs.any p
set_option maxHeartbeats 1000000 in
theorem indexF_any (B : Nat) (A : Option Addr) (c m gf : Nat) (lb : Array Value) (hg : ∀ args w, (callFunc gf args).run Try.prog w = .ok (.enter gf args) w) (p : Int → Bool) (xs : List Int) (W : World) (h : Rd W B 1 A m (Cs encI xs)) (hx : xs.length = m) (hm : m ≤ 4096) (hB : B ≤ W.heap.size)
    (HC : ∀ x ∈ xs, ∀ w, Below W.heap.size W w → Calls Try.prog gf (#[.int .i64 x] ++ lb) w fun e w' => e = .returned (.bool (p x)) ∧ Below w.heap.size w w') :
    Calls Try.prog 58 #[.slice A m c, .func (.func gf) #[] lb] W fun e W' => IdxRes p xs e ∧ Below W.heap.size W W' := by
  have HX := hide hx
  have H := hide h
  have HCH := hide HC
  clear h hx HC
  go_enter Try.func58, Try.ntmps58
  go_wp2_with fail
  go_loopw [8] (fun i wr => ∃ k : Nat, k ≤ m ∧ i = .int .i64 k ∧ (xs.take k).any p = false ∧ Below W.heap.size W wr) (fun i _ => m - (intOf i).toNat)
  case atStart => exact ⟨0, Nat.zero_le _, rfl, rfl, Below.refl _ _⟩
  case round =>
    obtain ⟨k, hk, rfl, hno, hbw⟩ := hrel
    have HN := hide hno
    have HBW := hide hbw
    clear hno hbw
    by_cases hlt : k < m
    · have hlx : k < xs.length := by rw [HX.out]; exact hlt
      obtain ⟨b, o, rfl, hb, d0⟩ := (H.out.below (HBW.out.mono hB)).numD HX.out hlt
      have hbl : b < wr.heap.size := Nat.lt_of_lt_of_le hb (Nat.le_trans hB HBW.out.size)
      have hkm : (k : Int) < (m : Int) := by omega
      have HM := hide (HCH.out (xs.getD k 0) (getD_mem hlx) wr HBW.out)
      have HT := hide (any_take_succ (p := p) hlx)
      obtain ⟨x, hxx⟩ : ∃ x, xs.getD k 0 = x := ⟨_, rfl⟩
      rw [hxx] at d0 HM HT
      obtain ⟨q, hq⟩ : ∃ q, p x = q := ⟨_, rfl⟩
      rw [hq, HN.out] at HT
      rw [hq] at HM
      clear hxx hq hb
      go_wp2_with fail
      with_reducible refine HM.out.mono ?_
      rintro e w2 ⟨rfl, hb2⟩
      have HB2 := hide (HBW.out.trans (hb2.mono HBW.out.size))
      clear hb2
      cases q
      · go_wp2_with fail
        go_roundw
        case rel => exact ⟨k + 1, by omega, by go_num, HT.out, HB2.out⟩
        case measure => simp [intOf]; omega
      · have HF := hide (show decide ((0 : Int) ≤ (k : Int)) = xs.any p from by rw [any_of_take HT.out]; simp)
        go_wp2_with fail
        go_ret
        exact ⟨⟨_, rfl, HF.out⟩, HB2.out⟩
    · have HF := hide (show decide ((0 : Int) ≤ -1) = xs.any p from by
        have := HN.out
        rw [List.take_of_length_le (by rw [HX.out]; omega)] at this
        rw [this]; rfl)
      go_wp2_with fail
      go_ret
      exact ⟨⟨_, rfl, HF.out⟩, HBW.out⟩
theorem contF_any (B : Nat) (A : Option Addr) (c m gf : Nat) (lb : Array Value) (hg : ∀ args w, (callFunc gf args).run Try.prog w = .ok (.enter gf args) w) (p : Int → Bool) (xs : List Int) (W : World) (h : Rd W B 1 A m (Cs encI xs)) (hx : xs.length = m) (hm : m ≤ 4096) (hB : B ≤ W.heap.size)
    (HC : ∀ x ∈ xs, ∀ w, Below W.heap.size W w → Calls Try.prog gf (#[.int .i64 x] ++ lb) w fun e w' => e = .returned (.bool (p x)) ∧ Below w.heap.size w w') :
    Calls Try.prog 53 #[.slice A m c, .func (.func gf) #[] lb] W fun e W' => e = .returned (.bool (xs.any p)) ∧ Below W.heap.size W W' := by
  have HI := hide (indexF_any B A c m gf lb hg p xs W h hx hm hB HC)
  clear h hx HC
  go_enter Try.func53, Try.ntmps53
  go_wp2_with fail
  with_reducible refine HI.out.mono ?_
  rintro e w1 ⟨⟨i, rfl, hi⟩, hb⟩
  have HF := hide hi
  have HB := hide hb
  clear hi hb
  go_wp2_with fail
  go_ret
  exact ⟨ret_bool HF.out, HB.out⟩
theorem is_any (g : Int) (W : World) (r : Bool) (hr : goerB g = r) : Calls Try.prog 41 #[.int .i64 g] W fun e W' => e = .returned (.bool r) ∧ W = W' := by
  unfold goerB at hr
  by_cases h : 0 ≤ g
  · have hd : decide (0 ≤ g) = true := by simpa using h
    rw [hd, Bool.true_and] at hr
    subst hr
    go_enter Try.func41, Try.ntmps41
    go_wp2_with fail
    go_ret
    exact ⟨rfl, rfl⟩
  · have hd : decide (0 ≤ g) = false := by simpa using h
    rw [hd, Bool.false_and] at hr
    subst hr
    go_enter Try.func41, Try.ntmps41
    go_wp2_with fail
    go_ret
    exact ⟨rfl, rfl⟩
theorem goer_any (g : Int) (W : World) (r : Bool) (hr : goerB g = r) : Calls Try.prog 32 #[.int .i64 g] W fun e W' => e = .returned (.bool r) ∧ W = W' := by
  unfold goerB at hr
  have h7 : decide (g ≤ 7) = decide (g < 8) := by rw [Bool.eq_iff_iff]; simp; omega
  by_cases h : 0 ≤ g
  · have hd : decide (0 ≤ g) = true := by simpa using h
    rw [hd, Bool.true_and] at hr
    subst hr
    go_enter Try.func32, Try.ntmps32
    go_wp2_with fail
    go_ret
    exact ⟨ret_bool (by first | rfl | exact h7), rfl⟩
  · have hd : decide (0 ≤ g) = false := by simpa using h
    rw [hd, Bool.false_and] at hr
    subst hr
    go_enter Try.func32, Try.ntmps32
    go_wp2_with fail
    go_ret
    exact ⟨rfl, rfl⟩
theorem allC_any (g : Nat) (x : Int) (W : World) (h : RowAt W g 59 #[.func (.func 41) #[] #[]]) :
    Calls Try.prog 54 #[.int .i64 x, .pointer (some ⟨g, 0, none⟩)] W fun e W' => e = .returned (.bool (!goerB x)) ∧ Below W.heap.size W W' := by
  have d0 := row1 h
  have hl := h.lt
  obtain ⟨q, hq⟩ : ∃ q, goerB x = q := ⟨_, rfl⟩
  have HC := hide (is_any x W q hq)
  rw [hq]
  clear h hq
  go_enter Try.func54, Try.ntmps54
  go_wp2_with fail
  with_reducible refine HC.out.mono ?_
  rintro e w1 ⟨rfl, rfl⟩
  go_wp2_with fail
  go_ret
  exact ⟨rfl, Below.refl _ _⟩
theorem allI_any (B : Nat) (A : Option Addr) (c m : Nat) (xs : List Int) (W : World) (h : Rd W B 1 A m (Cs encI xs)) (hx : xs.length = m) (hm : m ≤ 4096) (hB : B ≤ W.heap.size) (r : Bool) (hr : xs.all goerB = r) :
    Calls Try.prog 45 #[.slice A m c, .func (.func 41) #[] #[]] W fun e W' => e = .returned (.bool r) ∧ Below W.heap.size W W' := by
  have HBN := hide (show Below W.heap.size W (W.alloc (.cells #[.func (.func 41) #[] #[]] 59)) from (Below.refl _ _).alloc (Nat.le_refl _) _)
  have HRN := hide (RowAt.new W 59 #[.func (.func 41) #[] #[]])
  have HRR := hide (show (!(xs.any fun x => !goerB x)) = r from by rw [← hr, List.all_eq_not_any_not])
  have HC := hide (contF_any B A c m 54 #[.pointer (some ⟨W.heap.size, 0, none⟩)] (enters_of Try.func54 (by kernel_rfl) rfl) (fun x => !goerB x) xs _ (h.below (HBN.out.mono hB)) hx hm (Nat.le_trans hB HBN.out.size)
    (fun x _ w hb => allC_any W.heap.size x w (HRN.out.below hb)))
  clear h hx hr
  go_enter Try.func45, Try.ntmps45
  go_wp2_with fail
  with_reducible refine HC.out.mono ?_
  rintro e w1 ⟨rfl, hb⟩
  have HBF := hide (HBN.out.trans (hb.mono HBN.out.size))
  clear hb
  go_wp2_with fail
  go_ret
  exact ⟨ret_bool HRR.out, HBF.out⟩
end Go.Proofs.Ytlelpnahillioaa
