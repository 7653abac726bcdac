/-
  Monitors in memory: rows of rows of entries; entries; whether a touch that was kept may be.
-/
import Derived.Test.YtfpbabafeecncaaMop
import Derived.BigQuiet
set_option linter.unusedSimpArgs false
set_option linter.unusedVariables false
namespace Go.Proofs.Ytfpbabafeecncaa
open Go Go.RowKit
attribute [local go_sem] via_cell via_frozen

/-- A row of entries as it lies in a row of rows: where, its room, and what it holds. -/
structure Hm where
  A : Option Addr
  c : Nat
  q : List Ent
def encH (t : Hm) : List Value := [.slice t.A t.q.length t.c]
theorem encH_len : ∀ x, (encH x).length = 1 := fun _ => rfl
theorem encH_one : ∀ x, ∀ u ∈ encH x, u.oneCell' = true := by intro x u hu; simp [encH] at hu; subst hu; rfl
theorem elH : ElemOk Try.prog 29 54 1 24 (.slice none 0 0) := ⟨Try.underlying29, by kernel_rfl, rfl, by omega, by omega, by intro u hu; simp [Value.cells] at hu; subst hu; rfl⟩
structure RH (w : World) (B : Nat) (A : Option Addr) (m : Nat) (ts : List Hm) : Prop where
  rd : Rd w B 1 A m (Cs encH ts)
  len : ts.length = m
  qs : ∀ t ∈ ts, Rd w B 2 t.A t.q.length (Cs encE t.q)
theorem RH.below {w w' : World} {B m : Nat} {A : Option Addr} {ts : List Hm} (h : RH w B A m ts) (hb : Below B w w') : RH w' B A m ts := ⟨h.rd.below hb, h.len, fun t ht => (h.qs t ht).below hb⟩
theorem RH.more {w : World} {B B' m : Nat} {A : Option Addr} {ts : List Hm} (h : RH w B A m ts) (hb : B ≤ B') : RH w B' A m ts := ⟨h.rd.more hb, h.len, fun t ht => (h.qs t ht).more hb⟩
def hmZ : Hm := ⟨none, 0, []⟩
theorem RH.at_ {w : World} {B m : Nat} {A : Option Addr} {ts : List Hm} (h : RH w B A m ts) {k : Nat} (hk : k < m) :
    ∃ b o, A = some ⟨b, o, none⟩ ∧ b < B ∧ w.cell? ⟨b, o + k, none⟩ = some (.slice (ts.getD k hmZ).A (ts.getD k hmZ).q.length (ts.getD k hmZ).c) ∧ Rd w B 2 (ts.getD k hmZ).A (ts.getD k hmZ).q.length (Cs encE (ts.getD k hmZ).q) := by
  obtain ⟨hrd, rfl, hc⟩ := h
  obtain ⟨b, o, h1, h2, h3⟩ := hrd.elem encH_len hk
  have e : ts.getD k hmZ = ts[k] := by rw [List.getD_eq_getElem?_getD, List.getElem?_eq_getElem hk]; rfl
  rw [e]
  exact ⟨b, o, h1, h2, by simpa using h3 0 _ (by omega) rfl, hc _ (List.getElem_mem hk)⟩
def rowsQ (ts : List Hm) : List (List Ent) := ts.map Hm.q
theorem rowsQ_len (ts : List Hm) : (rowsQ ts).length = ts.length := List.length_map _
theorem rowsQ_at (ts : List Hm) (k : Nat) : (rowsQ ts).getD k [] = (ts.getD k hmZ).q := by
  unfold rowsQ
  rw [List.getD_eq_getElem?_getD, List.getD_eq_getElem?_getD, List.getElem?_map]
  cases ts[k]? <;> rfl
theorem getH_mem {ts : List Hm} {k : Nat} (h : k < ts.length) : ts.getD k hmZ ∈ ts := by
  rw [List.getD_eq_getElem?_getD, List.getElem?_eq_getElem h]; exact List.getElem_mem h
theorem getH_get {ts : List Hm} {k : Nat} (h : k < ts.length) : ts.getD k hmZ = ts[k] := by rw [List.getD_eq_getElem?_getD, List.getElem?_eq_getElem h]; rfl
theorem takeH_succ {ts : List Hm} {k : Nat} (h : k < ts.length) : ts.take (k + 1) = ts.take k ++ [ts.getD k hmZ] := by
  rw [List.take_succ_eq_append_getElem h, getH_get h]
/-- A monitor's cells. -/
abbrev moC (a0 a1 a2 a3 : Option Addr) (n0 n1 n2 n3 c0 c1 c2 c3 : Nat) : Array Value := #[.slice a0 n0 c0, .slice a1 n1 c1, .slice a2 n2 c2, .slice a3 n3 c3]
abbrev monC (A : Nat → Option Addr) (n c : Nat → Nat) : Array Value := #[.slice (A 0) (n 0) (c 0), .slice (A 1) (n 1) (c 1), .slice (A 2) (n 2) (c 2), .slice (A 3) (n 3) (c 3)]
structure MonX (w : World) (B : Nat) (a0 a1 a2 a3 : Option Addr) (n0 n1 n2 n3 : Nat) (ts : List Hm) (m : Mon) : Prop where
  sl : Rd w B 2 a0 n0 (Cs encE m.sl)
  l0 : m.sl.length = n0
  pin : Rd w B 1 a1 n1 (Cs encB m.pin)
  l1 : m.pin.length = n1
  has : RH w B a2 n2 ts
  hs : m.has = rowsQ ts
  bad : Rd w B 4 a3 n3 (Cs encX m.bad)
  l3 : m.bad.length = n3
abbrev MonRd (w : World) (B : Nat) (A : Nat → Option Addr) (n : Nat → Nat) (ts : List Hm) (m : Mon) : Prop := MonX w B (A 0) (A 1) (A 2) (A 3) (n 0) (n 1) (n 2) (n 3) ts m
theorem MonX.below {w w' : World} {B : Nat} {a0 a1 a2 a3 : Option Addr} {n0 n1 n2 n3 : Nat} {ts : List Hm} {m : Mon} (h : MonX w B a0 a1 a2 a3 n0 n1 n2 n3 ts m) (hb : Below B w w') : MonX w' B a0 a1 a2 a3 n0 n1 n2 n3 ts m :=
  ⟨h.sl.below hb, h.l0, h.pin.below hb, h.l1, h.has.below hb, h.hs, h.bad.below hb, h.l3⟩
theorem MonX.more {w : World} {B B' : Nat} {a0 a1 a2 a3 : Option Addr} {n0 n1 n2 n3 : Nat} {ts : List Hm} {m : Mon} (h : MonX w B a0 a1 a2 a3 n0 n1 n2 n3 ts m) (hb : B ≤ B') : MonX w B' a0 a1 a2 a3 n0 n1 n2 n3 ts m :=
  ⟨h.sl.more hb, h.l0, h.pin.more hb, h.l1, h.has.more hb, h.hs, h.bad.more hb, h.l3⟩
/-- As much as can be gone through. -/
structure SmallX (n0 n1 n2 n3 : Nat) (ts : List Hm) : Prop where
  s0 : n0 ≤ 4096
  s1 : n1 ≤ 4096
  s2 : n2 ≤ 4096
  s3 : n3 ≤ 4096
  rows : ∀ t ∈ ts, t.q.length ≤ 4096
  caps : ∀ t ∈ ts, t.q.length ≤ t.c ∧ t.c ≤ 9223372036854775807
abbrev SmallN (n : Nat → Nat) (ts : List Hm) : Prop := SmallX (n 0) (n 1) (n 2) (n 3) ts
abbrev zeroM : Array Value := #[.slice none 0 0, .slice none 0 0, .slice none 0 0, .slice none 0 0]
theorem zero_mon (w : World) (B : Nat) : MonRd w B (fun _ => none) (fun _ => 0) [] mon0 := ⟨Rd.none_, rfl, Rd.none_, rfl, ⟨Rd.none_, rfl, fun _ h => by cases h⟩, rfl, Rd.none_, rfl⟩
theorem zero_small : SmallN (fun _ => 0) [] := ⟨Nat.zero_le _, Nat.zero_le _, Nat.zero_le _, Nat.zero_le _, (by intro t h; cases h), (by intro t h; cases h)⟩
theorem Rd.boolAt {w : World} {B n : Nat} {A : Option Addr} {xs : List Bool} (h : Rd w B 1 A n (Cs encB xs)) (hx : xs.length = n) {k : Nat} (hk : k < n) : ∃ b o, A = some ⟨b, o, none⟩ ∧ b < B ∧ w.cell? ⟨b, o + k, none⟩ = some (.bool (xs.getD k false)) := by
  subst hx
  obtain ⟨b, o, h1, h2, h3⟩ := h.elem encB_len hk
  have e : xs.getD k false = xs[k] := by rw [List.getD_eq_getElem?_getD, List.getElem?_eq_getElem hk]; rfl
  rw [e]
  exact ⟨b, o, h1, h2, by simpa using h3 0 _ (by omega) rfl⟩
theorem Rd.entAt {w : World} {B n : Nat} {A : Option Addr} {xs : List Ent} (h : Rd w B 2 A n (Cs encE xs)) (hx : xs.length = n) {k : Nat} (hk : k < n) : ∃ b o, A = some ⟨b, o, none⟩ ∧ b < B ∧ w.cell? ⟨b, o + k * 2, none⟩ = some (.int .i64 (xs.getD k (0, 0)).1) ∧ w.cell? ⟨b, o + k * 2 + 1, none⟩ = some (.int .u64 (xs.getD k (0, 0)).2) := by
  subst hx
  obtain ⟨b, o, h1, h2, h3⟩ := h.elem encE_len hk
  have e : xs.getD k (0, 0) = xs[k] := by rw [List.getD_eq_getElem?_getD, List.getElem?_eq_getElem hk]; rfl
  rw [e]
  exact ⟨b, o, h1, h2, by simpa using h3 0 _ (by omega) rfl, h3 1 _ (by omega) rfl⟩
theorem Rd.watchAt {w : World} {B n : Nat} {A : Option Addr} {xs : List Wt} (h : Rd w B 4 A n (Cs encX xs)) (hx : xs.length = n) {k : Nat} (hk : k < n) : ∃ b o, A = some ⟨b, o, none⟩ ∧ b < B ∧ w.cell? ⟨b, o + k * 4, none⟩ = some (.int .i64 (xs.getD k (0, 0, 0, 0)).1) ∧ w.cell? ⟨b, o + k * 4 + 1, none⟩ = some (.int .i64 (xs.getD k (0, 0, 0, 0)).2.1) ∧ w.cell? ⟨b, o + k * 4 + 2, none⟩ = some (.int .i64 (xs.getD k (0, 0, 0, 0)).2.2.1) ∧ w.cell? ⟨b, o + k * 4 + 3, none⟩ = some (.int .u64 (xs.getD k (0, 0, 0, 0)).2.2.2) := by
  subst hx
  obtain ⟨b, o, h1, h2, h3⟩ := h.elem encX_len hk
  have e : xs.getD k (0, 0, 0, 0) = xs[k] := by rw [List.getD_eq_getElem?_getD, List.getElem?_eq_getElem hk]; rfl
  rw [e]
  exact ⟨b, o, h1, h2, by simpa using h3 0 _ (by omega) rfl, h3 1 _ (by omega) rfl, h3 2 _ (by omega) rfl, h3 3 _ (by omega) rfl⟩
theorem Rd.firstE {w : World} {B n k : Nat} {A : Option Addr} {X : List Ent} (h : Rd w B 2 A n (Cs encE X)) (hx : X.length = n) (hk : k ≤ n) : Rd w B 2 A k (Cs encE (X.take k)) := by
  have e : (Cs encE X).take (k * 2) = Cs encE (X.take k) := (Cs_take encE_len X k).symm
  have hl : (X.take k).length = k := by rw [List.length_take]; omega
  refine ⟨by rw [← e, List.length_take, h.1]; omega, fun h0 => ?_⟩
  obtain ⟨b, o, e1, hb, hc⟩ := h.2 (by omega)
  refine ⟨b, o, e1, hb, fun j u hu => hc j u ?_⟩
  rw [← e, List.getElem?_take] at hu
  split at hu
  · exact hu
  · cases hu
theorem entB_cases (s g : Int) : entB (s, g) = (decide (0 ≤ s) && (decide (s < 128) && decide (g ≤ 1099511627775))) := rfl
theorem entry_any (s g : Int) (W : World) (r : Bool) (hr : entB (s, g) = r) : Calls Try.prog 44 #[.agg #[.int .i64 s, .int .u64 g]] W fun e W' => e = .returned (.bool r) ∧ Below W.heap.size W W' := by
  rw [entB_cases] at hr
  have HB := hide (show Below W.heap.size W (W.alloc (.cells #[.int .i64 s, .int .u64 g] 43)) from (Below.refl _ _).alloc (Nat.le_refl _) _)
  by_cases h1 : 0 ≤ s
  · have d1 : decide (0 ≤ s) = true := by simpa using h1
    by_cases h2 : s < 128
    · have d2 : decide (s < 128) = true := by simpa using h2
      rw [d1, d2] at hr
      have HR := hide (show decide (g ≤ 1099511627775) = r from by simpa using hr)
      clear hr
      go_enter Try.func44, Try.ntmps44
      go_wp2
      go_ret
      exact ⟨ret_bool HR.out, HB.out⟩
    · have d2 : decide (s < 128) = false := by simpa using h2
      rw [d1, d2] at hr
      subst hr
      go_enter Try.func44, Try.ntmps44
      go_wp2
      go_ret
      exact ⟨rfl, HB.out⟩
  · have d1 : decide (0 ≤ s) = false := by simpa using h1
    rw [d1] at hr
    subst hr
    go_enter Try.func44, Try.ntmps44
    go_wp2
    go_ret
    exact ⟨rfl, HB.out⟩
theorem rentry_any (s g : Int) (W : World) (r : Bool) (hr : entB (s, g) = r) : Calls Try.prog 52 #[.agg #[.int .i64 s, .int .u64 g]] W fun e W' => e = .returned (.bool r) ∧ Below W.heap.size W W' := by
  rw [entB_cases] at hr
  have HB := hide (show Below W.heap.size W (W.alloc (.cells #[.int .i64 s, .int .u64 g] 43)) from (Below.refl _ _).alloc (Nat.le_refl _) _)
  by_cases h1 : 0 ≤ s
  · have d1 : decide (0 ≤ s) = true := by simpa using h1
    by_cases h2 : s < 128
    · have d2 : decide (s < 128) = true := by simpa using h2
      rw [d1, d2] at hr
      have HR := hide (show decide (g ≤ 1099511627775) = r from by simpa using hr)
      clear hr
      go_enter Try.func52, Try.ntmps52
      go_wp2
      go_ret
      exact ⟨ret_bool HR.out, HB.out⟩
    · have d2 : decide (s < 128) = false := by simpa using h2
      rw [d1, d2] at hr
      subst hr
      go_enter Try.func52, Try.ntmps52
      go_wp2
      go_ret
      exact ⟨rfl, HB.out⟩
  · have d1 : decide (0 ≤ s) = false := by simpa using h1
    rw [d1] at hr
    subst hr
    go_enter Try.func52, Try.ntmps52
    go_wp2
    go_ret
    exact ⟨rfl, HB.out⟩
set_option maxHeartbeats 1000000 in
theorem wrong_any (gb n : Nat) (x : Wt) (W : World) (hc : RowAt W gb 3 #[.int .i64 (n : Int)]) (r : Bool) (hr : wtB (n : Int) x = r) :
    Calls Try.prog 43 (#[.agg (xC x)] ++ #[.pointer (some ⟨gb, 0, none⟩)]) W fun e W' => e = .returned (.bool (!r)) ∧ Below W.heap.size W W' := by
  obtain ⟨k, g, s, z⟩ := x
  dsimp only [xC]
  have HB := hide (show Below W.heap.size W (W.alloc (.cells #[.int .i64 k, .int .i64 g, .int .i64 s, .int .u64 z] 45)) from (Below.refl _ _).alloc (Nat.le_refl _) _)
  have c0 := row1 (hc.below HB.out)
  have cl := (hc.below HB.out).lt
  unfold wtB at hr
  dsimp only at hr
  obtain ⟨be, hbe⟩ : ∃ b, entB (s, z) = b := ⟨_, rfl⟩
  rw [hbe] at hr
  have HE := hide (fun w => entry_any s z w be hbe)
  clear hbe hc
  have app : (#[.agg #[.int .i64 k, .int .i64 g, .int .i64 s, .int .u64 z]] ++ #[.pointer (some ⟨gb, 0, none⟩)] : Array Value) = #[.agg #[.int .i64 k, .int .i64 g, .int .i64 s, .int .u64 z], .pointer (some ⟨gb, 0, none⟩)] := rfl
  rw [app]
  obtain ⟨b1, hb1⟩ : ∃ b, (k != 4 && k != 5) = b := ⟨_, rfl⟩
  have hk1 : (decide (k = 4) || decide (k = 5)) = !b1 := by rw [← hb1]; by_cases h4 : k = 4 <;> by_cases h5 : k = 5 <;> simp [h4, h5]
  rw [hk1] at hr
  have HB1 := hide hb1
  clear hk1 hb1
  by_cases k4 : k = 4
  case pos =>
    have d1 : (k != 4) = false := by simp [k4]
    have hb : b1 = false := by rw [← HB1.out, d1]; rfl
    subst hb
    clear k4 HB1
    simp only [Bool.not_false, Bool.true_and] at hr
    by_cases g0 : 0 ≤ g
    case neg =>
      have e1 : decide (g < 0) = true := by simp; omega
      have e2 : decide (0 ≤ g) = false := by simpa using g0
      rw [e2] at hr
      subst hr
      clear g0
      go_enter Try.func43, Try.ntmps43
      go_wp2_with fail
      go_ret
      exact ⟨rfl, HB.out⟩
    have e1 : decide (g < 0) = false := by simp; omega
    have e2 : decide (0 ≤ g) = true := by simpa using g0
    rw [e2] at hr
    clear g0
    by_cases g1 : g < (n : Int)
    case neg =>
      have e3 : decide ((n : Int) ≤ g) = true := by simp; omega
      have e4 : decide (g < (n : Int)) = false := by simpa using g1
      rw [e4] at hr
      subst hr
      clear g1
      go_enter Try.func43, Try.ntmps43
      go_wp2_with fail
      go_ret
      exact ⟨rfl, HB.out⟩
    have e3 : decide ((n : Int) ≤ g) = false := by simp; omega
    have e4 : decide (g < (n : Int)) = true := by simpa using g1
    rw [e4] at hr
    simp only [Bool.true_and] at hr
    subst hr
    clear g1
    go_enter Try.func43, Try.ntmps43
    go_wp2_with fail
    with_reducible refine (HE.out _).mono ?_
    rintro e w1 ⟨rfl, hb⟩
    have HBE := hide (HB.out.trans (hb.mono HB.out.size))
    clear hb
    go_wp2_with fail
    go_ret
    exact ⟨rfl, HBE.out⟩
  case neg =>
    have d1 : (k != 4) = true := by simpa using k4
    by_cases k5 : k = 5
    case pos =>
      have d2 : (k != 5) = false := by simp [k5]
      have hb : b1 = false := by rw [← HB1.out, d1, d2]; rfl
      subst hb
      clear k4 k5 HB1
      simp only [Bool.not_false, Bool.true_and] at hr
      by_cases g0 : 0 ≤ g
      case neg =>
        have e1 : decide (g < 0) = true := by simp; omega
        have e2 : decide (0 ≤ g) = false := by simpa using g0
        rw [e2] at hr
        subst hr
        clear g0
        go_enter Try.func43, Try.ntmps43
        go_wp2_with fail
        go_ret
        exact ⟨rfl, HB.out⟩
      have e1 : decide (g < 0) = false := by simp; omega
      have e2 : decide (0 ≤ g) = true := by simpa using g0
      rw [e2] at hr
      clear g0
      by_cases g1 : g < (n : Int)
      case neg =>
        have e3 : decide ((n : Int) ≤ g) = true := by simp; omega
        have e4 : decide (g < (n : Int)) = false := by simpa using g1
        rw [e4] at hr
        subst hr
        clear g1
        go_enter Try.func43, Try.ntmps43
        go_wp2_with fail
        go_ret
        exact ⟨rfl, HB.out⟩
      have e3 : decide ((n : Int) ≤ g) = false := by simp; omega
      have e4 : decide (g < (n : Int)) = true := by simpa using g1
      rw [e4] at hr
      simp only [Bool.true_and] at hr
      subst hr
      clear g1
      go_enter Try.func43, Try.ntmps43
      go_wp2_with fail
      with_reducible refine (HE.out _).mono ?_
      rintro e w1 ⟨rfl, hb⟩
      have HBE := hide (HB.out.trans (hb.mono HB.out.size))
      clear hb
      go_wp2_with fail
      go_ret
      exact ⟨rfl, HBE.out⟩
    case neg =>
      have d2 : (k != 5) = true := by simpa using k5
      have hb : b1 = true := by rw [← HB1.out, d1, d2]; rfl
      subst hb
      simp only [Bool.not_true, Bool.false_and] at hr
      subst hr
      clear k4 k5 HB1
      go_enter Try.func43, Try.ntmps43
      go_wp2_with fail
      go_ret
      exact ⟨rfl, HB.out⟩
end Go.Proofs.Ytfpbabafeecncaa
