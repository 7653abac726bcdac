/-
  Slices of entries: cloned, compared, searched.
-/
import Derived.Test.YthnpcmigphpolaaDoorProg
import Derived.Test.YthnpcmigphpolaaDoorLiq
import Derived.Test.YthnpcmigphpolaaDoorLia
set_option linter.unusedSimpArgs false
set_option linter.unusedVariables false
namespace Go.Proofs.YthnpcmigphpolaaDoor
open Go Go.RowKit
attribute [local go_sem] via_cell via_frozen

theorem elE : ElemOk Tryd.prog 23 34 2 16 (.agg #[.int .i64 0, .int .u64 0]) := ⟨Tryd.underlying23, by kernel_rfl, rfl, by omega, by omega, by intro u hu; simp [Value.cells] at hu; rcases hu with rfl | rfl <;> rfl⟩
theorem neqE (w : World) (x y : Ent) (r : Bool) (hr : decide (x = y) = r) :
    (binOp .neq 34 (.agg #[.int .i64 x.1, .int .u64 x.2]) (.agg #[.int .i64 y.1, .int .u64 y.2])).run Tryd.prog w = .ok (.bool (!r)) w := by
  obtain ⟨a, b⟩ := x
  obtain ⟨c, d⟩ := y
  simp only [binOp]
  simp [Op.equal, Op.maxDepth, go_sem, run_equalIn_struct]
  subst hr
  by_cases h1 : a = c <;> by_cases h2 : b = d <;> simp [h1, h2]
/-- The element at place k. -/
theorem Rd.ent {w : World} {B m : Nat} {A : Option Addr} {xs : List Ent} (h : Rd w B 2 A m (Cs encE xs)) (hx : xs.length = m) {k : Nat} (hk : k < m) :
    ∃ b o, A = some ⟨b, o, none⟩ ∧ b < B ∧ w.cell? ⟨b, o + k * 2, none⟩ = some (.int .i64 (xs.getD k (0, 0)).1) ∧ w.cell? ⟨b, o + k * 2 + 1, none⟩ = some (.int .u64 (xs.getD k (0, 0)).2) := by
  subst hx
  obtain ⟨b, o, hA, hb, hc⟩ := h.elem encE_len hk
  have hg : xs.getD k (0, 0) = xs[k] := by rw [List.getD_eq_getElem?_getD, List.getElem?_eq_getElem hk]; rfl
  rw [hg]
  refine ⟨b, o, hA, hb, ?_, ?_⟩
  · have := hc 0 _ (by omega) rfl
    simpa using this
  · exact hc 1 _ (by omega) rfl
theorem getD_mem {xs : List Ent} {k : Nat} (h : k < xs.length) : xs.getD k (0, 0) ∈ xs := by
  rw [List.getD_eq_getElem?_getD, List.getElem?_eq_getElem h]; exact List.getElem_mem _

set_option maxHeartbeats 400000 in
theorem CloneE (B : Nat) (A : Option Addr) (n c : Nat) (xs : List Value) (W : World) (hr : Rd W B 2 A n xs) (hB : B ≤ W.heap.size) (h1 : ∀ u ∈ xs, u.oneCell' = true) (hb : n ≤ 4096) :
    Calls Tryd.prog 13 #[.slice A n c] W fun e W' => ∃ v, e = .returned v ∧ W'.ownsRow W.heap.size 34 2 v n xs ∧ Below W.heap.size W W' := by
  cases A with
  | none =>
    obtain rfl := rd_none hr
    obtain rfl := hr.nil
    have hn := fun w => Lib.run_eql_slice_nil (P := Tryd.prog) w 23 34 none 0 c 0 0 Tryd.underlying23
    go_enter Tryd.func13, Tryd.ntmps13
    go_wp2
    go_ret
    exact ⟨_, rfl, World.ownsRow_nil _ _ _ _, Below.refl _ _⟩
  | some a =>
    have hn := fun w => Lib.run_eql_slice_nil (P := Tryd.prog) w 23 34 (some a) n c 0 0 Tryd.underlying23
    have hown := World.ownsRow_lit (base := W.heap.size) (e := 34) (size := 2) W #[] 0 (Nat.le_refl _) (by simp [maxLen]) rfl
    go_enter Tryd.func13, Tryd.ntmps13
    go_wp2_with (at_builtin; refine wpList_app elE rfl _ _ rfl rfl hown rfl (hr.alloc hB _) h1 (by omega) (by simp) ?_; intro v1 w1 hown1 hb1 _ _)
    go_ret
    exact ⟨v1, rfl, by simpa using hown1, ((Below.refl _ _).alloc (Nat.le_refl _) _).trans hb1⟩

set_option maxHeartbeats 1000000 in
theorem EqualE (B1 B2 : Nat) (A1 A2 : Option Addr) (c1 c2 : Nat) (xs ys : List (Int × Int)) (W : World) (h1 : Rd W B1 2 A1 xs.length (Cs encE xs)) (h2 : Rd W B2 2 A2 ys.length (Cs encE ys)) (hB1 : B1 ≤ W.heap.size) (hB2 : B2 ≤ W.heap.size)
    (hl1 : xs.length ≤ 4096) (hl2 : ys.length ≤ 4096) (r : Bool) (hr : decide (xs = ys) = r) :
    Calls Tryd.prog 12 #[.slice A1 xs.length c1, .slice A2 ys.length c2] W fun e W' => e = .returned (.bool r) ∧ Below W.heap.size W W' := by
  subst hr
  by_cases hlen : xs.length = ys.length
  · have ht : ((xs.length : Int) != (ys.length : Int)) = false := by rw [bne_eq_false_iff_eq]; omega
    have HL := hide hlen
    clear hlen
    go_enter Tryd.func12, Tryd.ntmps12
    go_wp2_with fail
    go_loopw [13] (fun i wr => ∃ k : Nat, k ≤ xs.length ∧ i = .int .i64 k ∧ xs.take k = ys.take k ∧ Below W.heap.size W wr) (fun i _ => xs.length - (intOf i).toNat)
    case atStart => exact ⟨0, Nat.zero_le _, rfl, rfl, Below.refl _ _⟩
    case round =>
      obtain ⟨k, hk, rfl, hpre, hbw⟩ := hrel
      have HP := hide hpre
      clear hpre
      by_cases hlt : k < xs.length
      · have hlt2 : k < ys.length := by have := HL.out; omega
        obtain ⟨b1, o1, rfl, hb1, hc1⟩ := (h1.below (hbw.mono hB1)).elem encE_len hlt
        obtain ⟨b2, o2, rfl, hb2, hc2⟩ := (h2.below (hbw.mono hB2)).elem encE_len hlt2
        have hd10 := hc1 0 _ (by omega) rfl
        have hd11 := hc1 1 _ (by omega) rfl
        have hd20 := hc2 0 _ (by omega) rfl
        have hd21 := hc2 1 _ (by omega) rfl
        simp only [Nat.add_zero] at hd10 hd20
        clear hc1 hc2
        have hi2 : (k : Int) < (ys.length : Int) := by omega
        generalize hx : xs[k] = x at *
        generalize hy : ys[k] = y at *
        have HX := hide hx
        have HY := hide hy
        clear hx hy
        by_cases hxy : x = y
        · subst hxy
          have hne := fun w => neqE w x x true (by simp)
          go_wp2_with fail
          go_quiet (fail)
          go_wp2_with fail
          go_roundw
          case rel => exact ⟨k + 1, by omega, by go_num, by rw [List.take_succ_eq_append_getElem hlt, List.take_succ_eq_append_getElem hlt2, HP.out, HX.out, HY.out], hbw.trans ⟨rfl, rfl, rfl, Nat.le_refl _, fun _ _ => rfl⟩⟩
          case measure => simp [intOf]; omega
        · have hne := fun w => neqE w x y false (by simpa using hxy)
          go_wp2_with fail
          go_quiet (fail)
          go_wp2_with fail
          go_ret
          exact ⟨ret_bool (by rw [eq_comm, decide_eq_false_iff_not]; intro h; apply hxy; rw [← HX.out, ← HY.out]; simp [h]), hbw.trans ⟨rfl, rfl, rfl, Nat.le_refl _, fun _ _ => rfl⟩⟩
      · go_wp2_with fail
        go_ret
        have he : xs = ys := by have h := HP.out; rw [List.take_of_length_le (by omega), List.take_of_length_le (by have := HL.out; omega)] at h; exact h
        exact ⟨ret_bool (by rw [eq_comm, decide_eq_true_iff]; exact he), hbw⟩
  · have ht : ((xs.length : Int) != (ys.length : Int)) = true := by rw [bne_iff_ne]; omega
    go_enter Tryd.func12, Tryd.ntmps12
    go_wp2
    go_ret
    exact ⟨ret_bool (by rw [eq_comm, decide_eq_false_iff_not]; intro h; exact hlen (by rw [h])), Below.refl _ _⟩


def errX (k : Int) : List PanicEntry := [{ v := .iface 30 (.int .i64 k), recovered := false }]
theorem need_ok (k : Int) (W : World) : Calls Tryd.prog 50 #[.bool true, .int .i64 k] W fun e W' => e = .returned (.tuple #[]) ∧ W = W' := by
  go_enter Tryd.func50, Tryd.ntmps50
  go_wp2
  go_end0
  exact ⟨rfl, rfl⟩
theorem need_no (k : Int) (W : World) : Calls Tryd.prog 50 #[.bool false, .int .i64 k] W fun e W' => e = .panicked (errX k) ∧ W = W' := by
  go_enter Tryd.func50, Tryd.ntmps50
  go_wp2
  exact ⟨rfl, rfl, rfl⟩
def entV (x : Ent) : Value := .agg #[.int .i64 x.1, .int .u64 x.2]
theorem any_take_succ {p : Ent → Bool} {xs : List Ent} {k : Nat} (h : k < xs.length) : (xs.take (k + 1)).any p = ((xs.take k).any p || p (xs.getD k (0, 0))) := by
  rw [List.take_succ_eq_append_getElem h, List.any_append, List.getD_eq_getElem?_getD, List.getElem?_eq_getElem h]
  simp
theorem any_of_take {p : Ent → Bool} {xs : List Ent} {k : Nat} (h : (xs.take k).any p = true) : xs.any p = true := by
  obtain ⟨x, hx, hp⟩ := List.any_eq_true.1 h
  exact List.any_eq_true.2 ⟨x, List.mem_of_mem_take hx, hp⟩
/-- A place that is one just if p holds of some element. -/
def IdxRes (p : Ent → Bool) (xs : List Ent) (e : Ending) : Prop := ∃ i : Int, e = .returned (.int .i64 i) ∧ decide (0 ≤ i) = xs.any p
set_option maxHeartbeats 1000000 in
theorem indexF_any (B : Nat) (A : Option Addr) (c m gf : Nat) (lb : Array Value) (hg : ∀ args w, (callFunc gf args).run Tryd.prog w = .ok (.enter gf args) w) (p : Ent → Bool) (xs : List Ent) (W : World) (h : Rd W B 2 A m (Cs encE xs)) (hx : xs.length = m) (hm : m ≤ 4096) (hB : B ≤ W.heap.size)
    (HC : ∀ x ∈ xs, ∀ w, Below W.heap.size W w → Calls Tryd.prog gf (#[entV x] ++ lb) w fun e w' => e = .returned (.bool (p x)) ∧ Below w.heap.size w w') :
    Calls Tryd.prog 54 #[.slice A m c, .func (.func gf) #[] lb] W fun e W' => IdxRes p xs e ∧ Below W.heap.size W W' := by
  have HX := hide hx
  have H := hide h
  have HCH := hide HC
  clear h hx HC
  go_enter Tryd.func54, Tryd.ntmps54
  go_wp2_with fail
  go_loopw [8] (fun i wr => ∃ k : Nat, k ≤ m ∧ i = .int .i64 k ∧ (xs.take k).any p = false ∧ Below W.heap.size W wr) (fun i _ => m - (intOf i).toNat)
  case atStart => exact ⟨0, Nat.zero_le _, rfl, rfl, Below.refl _ _⟩
  case round =>
    obtain ⟨k, hk, rfl, hno, hbw⟩ := hrel
    have HN := hide hno
    have HBW := hide hbw
    clear hno hbw
    by_cases hlt : k < m
    · have hlx : k < xs.length := by rw [HX.out]; exact hlt
      obtain ⟨b, o, rfl, hb, d0, d1⟩ := (H.out.below (HBW.out.mono hB)).ent HX.out hlt
      have hbl : b < wr.heap.size := Nat.lt_of_lt_of_le hb (Nat.le_trans hB HBW.out.size)
      have hkm : (k : Int) < (m : Int) := by omega
      have HM := hide (HCH.out (xs.getD k (0, 0)) (getD_mem hlx) wr HBW.out)
      have HT := hide (any_take_succ (p := p) hlx)
      obtain ⟨x, hxx⟩ : ∃ x, xs.getD k (0, 0) = x := ⟨_, rfl⟩
      rw [hxx] at d0 d1 HM HT
      unfold entV at HM
      obtain ⟨q, hq⟩ : ∃ q, p x = q := ⟨_, rfl⟩
      rw [hq, HN.out] at HT
      rw [hq] at HM
      obtain ⟨x1, x2⟩ := x
      dsimp only at d0 d1 HM
      clear hxx hq hb
      go_wp2_with fail
      with_reducible refine HM.out.mono ?_
      rintro e w2 ⟨rfl, hb2⟩
      have HB2 := hide (HBW.out.trans (hb2.mono HBW.out.size))
      clear hb2
      cases q
      · go_wp2_with fail
        go_roundw
        case rel => exact ⟨k + 1, by omega, by go_num, HT.out, HB2.out⟩
        case measure => simp [intOf]; omega
      · have HF := hide (show decide ((0 : Int) ≤ (k : Int)) = xs.any p from by rw [any_of_take HT.out]; simp)
        go_wp2_with fail
        go_ret
        exact ⟨⟨_, rfl, HF.out⟩, HB2.out⟩
    · have HF := hide (show decide ((0 : Int) ≤ -1) = xs.any p from by
        have := HN.out
        rw [List.take_of_length_le (by rw [HX.out]; omega)] at this
        rw [this]; rfl)
      go_wp2_with fail
      go_ret
      exact ⟨⟨_, rfl, HF.out⟩, HBW.out⟩
theorem contF_any (B : Nat) (A : Option Addr) (c m gf : Nat) (lb : Array Value) (hg : ∀ args w, (callFunc gf args).run Tryd.prog w = .ok (.enter gf args) w) (p : Ent → Bool) (xs : List Ent) (W : World) (h : Rd W B 2 A m (Cs encE xs)) (hx : xs.length = m) (hm : m ≤ 4096) (hB : B ≤ W.heap.size)
    (HC : ∀ x ∈ xs, ∀ w, Below W.heap.size W w → Calls Tryd.prog gf (#[entV x] ++ lb) w fun e w' => e = .returned (.bool (p x)) ∧ Below w.heap.size w w') :
    Calls Tryd.prog 53 #[.slice A m c, .func (.func gf) #[] lb] W fun e W' => e = .returned (.bool (xs.any p)) ∧ Below W.heap.size W W' := by
  have HI := hide (indexF_any B A c m gf lb hg p xs W h hx hm hB HC)
  clear h hx HC
  go_enter Tryd.func53, Tryd.ntmps53
  go_wp2_with fail
  with_reducible refine HI.out.mono ?_
  rintro e w1 ⟨⟨i, rfl, hi⟩, hb⟩
  have HF := hide hi
  have HB := hide hb
  clear hi hb
  go_wp2_with fail
  go_ret
  exact ⟨ret_bool HF.out, HB.out⟩
theorem hasF_any (B : Nat) (A : Option Addr) (c m gf : Nat) (lb : Array Value) (hg : ∀ args w, (callFunc gf args).run Tryd.prog w = .ok (.enter gf args) w) (p : Ent → Bool) (xs : List Ent) (W : World) (h : Rd W B 2 A m (Cs encE xs)) (hx : xs.length = m) (hm : m ≤ 4096) (hB : B ≤ W.heap.size)
    (HC : ∀ x ∈ xs, ∀ w, Below W.heap.size W w → Calls Tryd.prog gf (#[entV x] ++ lb) w fun e w' => e = .returned (.bool (p x)) ∧ Below w.heap.size w w') :
    Calls Tryd.prog 51 #[.slice A m c, .func (.func gf) #[] lb] W fun e W' => e = .returned (.bool (xs.any p)) ∧ Below W.heap.size W W' := by
  have HI := hide (contF_any B A c m gf lb hg p xs W h hx hm hB HC)
  clear h hx HC
  go_enter Tryd.func51, Tryd.ntmps51
  go_wp2_with fail
  with_reducible refine HI.out.mono ?_
  rintro e w1 ⟨rfl, hb⟩
  have HB := hide hb
  clear hb
  go_wp2_with fail
  go_ret
  exact ⟨rfl, HB.out⟩
theorem entB_cases (s g : Int) : (entB (s, g)) = (decide (0 ≤ s) && (decide (s < 128) && decide (g ≤ 1099511627775))) := rfl
theorem entry_any (s g : Int) (hg : 0 ≤ g ∧ g < 18446744073709551616) (W : World) (r : Bool) (hr : entB (s, g) = r) : Calls Tryd.prog 38 #[.agg #[.int .i64 s, .int .u64 g]] W fun e W' => e = .returned (.bool r) ∧ Below W.heap.size W W' := by
  rw [entB_cases] at hr
  have HB := hide (show Below W.heap.size W (W.alloc (.cells #[.int .i64 s, .int .u64 g] 34)) from (Below.refl _ _).alloc (Nat.le_refl _) _)
  by_cases h1 : 0 ≤ s
  · have d1 : decide (0 ≤ s) = true := by simpa using h1
    by_cases h2 : s < 128
    · have d2 : decide (s < 128) = true := by simpa using h2
      rw [d1, d2] at hr
      go_enter Tryd.func38, Tryd.ntmps38
      have HF := hide (show (g / 1099511627776 == 0) = r from by
        rw [← hr]
        simp only [Bool.true_and]
        by_cases hh : g ≤ 1099511627775
        · have : g / 1099511627776 = 0 := by omega
          simp [hh, this]
        · have : g / 1099511627776 ≠ 0 := by omega
          simp [hh, this])
      clear hr hg
      go_wp2
      go_ret
      exact ⟨ret_bool HF.out, HB.out⟩
    · have d2 : decide (s < 128) = false := by simpa using h2
      rw [d1, d2] at hr
      subst hr
      go_enter Tryd.func38, Tryd.ntmps38
      go_wp2
      go_ret
      exact ⟨rfl, HB.out⟩
  · have d1 : decide (0 ≤ s) = false := by simpa using h1
    rw [d1] at hr
    subst hr
    go_enter Tryd.func38, Tryd.ntmps38
    go_wp2
    go_ret
    exact ⟨rfl, HB.out⟩
theorem refentry_any (s g : Int) (W : World) (r : Bool) (hr : entB (s, g) = r) : Calls Tryd.prog 39 #[.agg #[.int .i64 s, .int .u64 g]] W fun e W' => e = .returned (.bool r) ∧ Below W.heap.size W W' := by
  rw [entB_cases] at hr
  have HB := hide (show Below W.heap.size W (W.alloc (.cells #[.int .i64 s, .int .u64 g] 34)) from (Below.refl _ _).alloc (Nat.le_refl _) _)
  by_cases h1 : 0 ≤ s
  · have d1 : decide (0 ≤ s) = true := by simpa using h1
    by_cases h2 : s < 128
    · have d2 : decide (s < 128) = true := by simpa using h2
      rw [d1, d2] at hr
      have HR := hide (show decide (g ≤ 1099511627775) = r from by simpa using hr)
      clear hr
      go_enter Tryd.func39, Tryd.ntmps39
      go_wp2
      go_ret
      exact ⟨ret_bool HR.out, HB.out⟩
    · have d2 : decide (s < 128) = false := by simpa using h2
      rw [d1, d2] at hr
      subst hr
      go_enter Tryd.func39, Tryd.ntmps39
      go_wp2
      go_ret
      exact ⟨rfl, HB.out⟩
  · have d1 : decide (0 ≤ s) = false := by simpa using h1
    rw [d1] at hr
    subst hr
    go_enter Tryd.func39, Tryd.ntmps39
    go_wp2
    go_ret
    exact ⟨rfl, HB.out⟩
end Go.Proofs.YthnpcmigphpolaaDoor
