/-
  An int's place in a slice, and the greatest one; a place sought in a rising slice; the pick that chooses one.
-/
import Derived.Test.YtogjokoaghpjiaaPkd
set_option linter.unusedSimpArgs false
set_option linter.unusedVariables false
namespace Go.Proofs.Ytogjokoaghpjiaa
open Go Go.RowKit
attribute [local go_sem] via_cell via_frozen

theorem index_any (B : Nat) (A : Option Addr) (c m : Nat) (xs : List Int) (g : Int) (W : World) (h : Rd W B 1 A m (Cs encI xs)) (hx : xs.length = m) (hm : m ≤ 4096) (hB : B ≤ W.heap.size) (r : Bool) (hr : xs.contains g = r) :
    Calls Try.prog 34 #[.slice A m c, .int .i64 g] W fun e W' => ∃ i : Int, e = .returned (.int .i64 i) ∧ decide (0 ≤ i) = r ∧ W = W' := by
  have HX := hide hx
  have HR := hide hr
  have H := hide h
  clear h hx hr
  go_enter Try.func34, Try.ntmps34
  go_wp2_with fail
  go_loopw [8] (fun i wr => ∃ k : Nat, k ≤ m ∧ i = .int .i64 k ∧ (xs.take k).contains g = false ∧ wr = W) (fun i _ => m - (intOf i).toNat)
  case atStart => exact ⟨0, Nat.zero_le _, rfl, rfl, rfl⟩
  case round =>
    obtain ⟨k, hk, rfl, hno, rfl⟩ := hrel
    have HN := hide hno
    clear hno
    by_cases hlt : k < m
    · have hlx : k < xs.length := by rw [HX.out]; exact hlt
      obtain ⟨b, o, rfl, hb, d0⟩ := H.out.numE HX.out hlx
      have hbl : b < wr.heap.size := Nat.lt_of_lt_of_le hb hB
      have hkm : (k : Int) < (m : Int) := by omega
      have HT := hide (show xs.take (k + 1) = xs.take k ++ [xs[k]] from List.take_succ_eq_append_getElem hlx)
      have HM := hide (List.getElem_mem hlx)
      generalize xs[k] = x at *
      clear hb
      by_cases hxg : g = x
      · have hd : (g == x) = true := by simpa using hxg
        have HF := hide (show true = r by rw [← HR.out]; subst hxg; simpa using HM.out)
        clear hxg
        go_wp2_with fail
        go_ret
        exact ⟨_, rfl, by rw [← HF.out]; simp, rfl⟩
      · have hd : (g == x) = false := by simpa using hxg
        have HNX := hide (show (xs.take (k + 1)).contains g = false by
          rw [HT.out]
          have h := HN.out
          simp at h ⊢
          exact ⟨h, hxg⟩)
        clear hxg
        go_wp2_with fail
        go_roundw
        case rel => exact ⟨k + 1, by omega, by go_num, HNX.out, by trivial⟩
        case measure => simp [intOf]; omega
    · go_wp2_with fail
      go_ret
      have h := HN.out
      rw [List.take_of_length_le (by rw [HX.out]; omega), HR.out] at h
      exact ⟨_, rfl, by rw [h]; rfl, rfl⟩
theorem contains_any (B : Nat) (A : Option Addr) (c m : Nat) (xs : List Int) (g : Int) (W : World) (h : Rd W B 1 A m (Cs encI xs)) (hx : xs.length = m) (hm : m ≤ 4096) (hB : B ≤ W.heap.size) (r : Bool) (hr : xs.contains g = r) :
    Calls Try.prog 15 #[.slice A m c, .int .i64 g] W fun e W' => e = .returned (.bool r) ∧ W = W' := by
  have HI := hide (index_any B A c m xs g W h hx hm hB r hr)
  clear h hx hr
  go_enter Try.func15, Try.ntmps15
  go_wp2_with fail
  with_reducible refine HI.out.mono ?_
  rintro e w1 ⟨i, rfl, hi, rfl⟩
  have HII := hide hi
  clear hi
  go_wp2_with fail
  go_ret
  exact ⟨ret_bool HII.out, rfl⟩
theorem nanC_any (x : Int) (W : World) : Calls Try.prog 55 #[.int .i64 x] W fun e W' => e = .returned (.bool false) ∧ W = W' := by
  have h : (x != x) = false := by simp
  go_enter Try.func55, Try.ntmps55
  go_wp2
  go_ret
  exact ⟨rfl, rfl⟩
theorem nan_any (x : Int) (W : World) : Calls Try.prog 48 #[.int .i64 x] W fun e W' => e = .returned (.bool false) ∧ W = W' := by
  have h : (x != x) = false := by simp
  go_enter Try.func48, Try.ntmps48
  go_wp2
  go_ret
  exact ⟨rfl, rfl⟩
theorem less_any (x y : Int) (W : World) (r : Bool) (hr : decide (x < y) = r) : Calls Try.prog 47 #[.int .i64 x, .int .i64 y] W fun e W' => e = .returned (.bool r) ∧ W = W' := by
  subst hr
  go_enter Try.func47, Try.ntmps47
  go_wp2_with (go_at_call 55; with_reducible refine (nanC_any x W).mono ?_; rintro e w1 ⟨rfl, rfl⟩)
  go_ret
  exact ⟨rfl, rfl⟩
/-- A place in a rising row at which something lies, or would lie. -/
def PlaceX (xs : List Int) (g : Int) (i : Nat) : Prop := i ≤ xs.length ∧ (∀ k, k < i → xs.getD k 0 < g) ∧ (∀ k, i ≤ k → k < xs.length → g ≤ xs.getD k 0)
def FoundX (xs : List Int) (g : Int) (i : Nat) (r : Bool) : Prop := PlaceX xs g i ∧ decide (i < xs.length ∧ xs.getD i 0 = g) = r
def SearchRes (xs : List Int) (g : Int) (e : Ending) : Prop := ∃ (i : Nat) (r : Bool), FoundX xs g i r ∧ e = .returned (.tuple #[.int .i64 i, .bool r])
def SortedX (xs : List Int) : Prop := ∀ a b, a ≤ b → b < xs.length → xs.getD a 0 ≤ xs.getD b 0
def PlaceAt (xs : List Int) (g : Int) (i j : Nat) : Prop := i ≤ j ∧ j ≤ xs.length ∧ (∀ k, k < i → xs.getD k 0 < g) ∧ (∀ k, j ≤ k → k < xs.length → g ≤ xs.getD k 0)
theorem Rd.numD {w : World} {B n : Nat} {A : Option Addr} {X : List Int} (h : Rd w B 1 A n (Cs encI X)) (hx : X.length = n) {k : Nat} (hk : k < n) :
    ∃ b off, A = some ⟨b, off, none⟩ ∧ b < B ∧ w.cell? ⟨b, off + k, none⟩ = some (.int .i64 (X.getD k 0)) := by
  have hk2 : k < X.length := by omega
  obtain ⟨b, off, h1, h2, h3⟩ := h.numE hx hk2
  exact ⟨b, off, h1, h2, by rw [h3, List.getD_eq_getElem?_getD, List.getElem?_eq_getElem hk2]; rfl⟩
set_option maxHeartbeats 1000000 in
theorem search_any (B : Nat) (A : Option Addr) (c m : Nat) (xs : List Int) (g : Int) (W : World) (h : Rd W B 1 A m (Cs encI xs)) (hx : xs.length = m) (hm : m ≤ 4096) (hB : B ≤ W.heap.size) (hs : SortedX xs) :
    Calls Try.prog 33 #[.slice A m c, .int .i64 g] W fun e W' => SearchRes xs g e ∧ W = W' := by
  have HX := hide hx
  have H := hide h
  have HS := hide hs
  have H0 := hide (show PlaceAt xs g 0 m from ⟨Nat.zero_le _, by omega, fun k hk => absurd hk (by omega), fun k hk hk2 => absurd hk (by omega)⟩)
  clear h hx hs
  go_enter Try.func33, Try.ntmps33
  go_wp2_with fail
  go_loopw [7, 8] (fun i j wr => ∃ a b : Nat, b ≤ m ∧ i = .int .i64 a ∧ j = .int .i64 b ∧ PlaceAt xs g a b ∧ wr = W) (fun i j _ => (intOf j).toNat - (intOf i).toNat)
  case atStart => exact ⟨0, m, Nat.le_refl _, rfl, rfl, H0.out, rfl⟩
  case round =>
    obtain ⟨a, b, hbm, rfl, rfl, hp, rfl⟩ := hrel
    have HP := hide hp
    have hab := hp.1
    clear hp
    by_cases hlt : a < b
    · have h1 : a ≤ (a + b) / 2 := by omega
      have h2 : (a + b) / 2 < b := by omega
      have h2m : (a + b) / 2 < m := by omega
      obtain ⟨bl, o, rfl, hb, d0⟩ := H.out.numD HX.out h2m
      have hbl : bl < wr.heap.size := Nat.lt_of_lt_of_le hb hB
      have hI : ((a : Int) + (b : Int)) / 2 < (m : Int) := by omega
      have hltI : (a : Int) < (b : Int) := by omega
      obtain ⟨q, hq⟩ : ∃ q, decide (xs.getD ((a + b) / 2) 0 < g) = q := ⟨_, rfl⟩
      have HC := hide (less_any _ g wr q hq)
      have HY := hide (show xs.getD ((a + b) / 2) 0 < g → PlaceAt xs g ((a + b) / 2 + 1) b from fun hl => ⟨by omega, HP.out.2.1, fun k hk => by
        have := HS.out k ((a + b) / 2) (by omega) (by have := HX.out; omega)
        omega, HP.out.2.2.2⟩)
      have HN := hide (show ¬ xs.getD ((a + b) / 2) 0 < g → PlaceAt xs g a ((a + b) / 2) from fun hl => ⟨by omega, by have := HX.out; omega, HP.out.2.2.1, fun k hk hk2 => by
        have := HS.out ((a + b) / 2) k hk hk2
        omega⟩)
      have HQ := hide hq
      generalize xs.getD ((a + b) / 2) 0 = v at *
      clear hq hb
      cases q
      · have HD := hide (HN.out (by simpa using HQ.out))
        go_wp2_with fail
        with_reducible refine HC.out.mono ?_
        rintro e w2 ⟨rfl, rfl⟩
        go_wp2_with fail
        go_roundw
        case rel => exact ⟨a, (a + b) / 2, by omega, rfl, by go_num, HD.out, by trivial⟩
        case measure => simp [intOf]; omega
      · have HD := hide (HY.out (by simpa using HQ.out))
        go_wp2_with fail
        with_reducible refine HC.out.mono ?_
        rintro e w2 ⟨rfl, rfl⟩
        go_wp2_with fail
        go_roundw
        case rel => exact ⟨(a + b) / 2 + 1, b, by omega, by go_num, rfl, HD.out, by trivial⟩
        case measure => simp [intOf]; omega
    · obtain rfl : a = b := by omega
      have HPL := hide (show PlaceX xs g a from ⟨HP.out.2.1, HP.out.2.2⟩)
      have hge : ¬ (a : Int) < (a : Int) := by omega
      by_cases ham : a < m
      · obtain ⟨bl, o, rfl, hb, d0⟩ := H.out.numD HX.out ham
        have hbl : bl < wr.heap.size := Nat.lt_of_lt_of_le hb hB
        have hI : (a : Int) < (m : Int) := by omega
        have hI2 : decide ((a : Int) < (m : Int)) = true := by simpa using hI
        have HR := hide (show ∀ v, xs.getD a 0 = v → FoundX xs g a (v == g) from fun v hv => ⟨HPL.out, by rw [hv, HX.out]; simp [ham]; rfl⟩)
        obtain ⟨v, hve⟩ : ∃ v, xs.getD a 0 = v := ⟨_, rfl⟩
        replace HR := hide (HR.out v hve)
        rw [hve] at d0
        clear hve
        have HCN := hide (fun w => nan_any v w)
        clear hb
        by_cases hv : v = g
        · have hd : (v == g) = true := by simpa using hv
          go_wp2_with fail
          go_ret2
          rw [hd] at HR; exact ⟨⟨a, _, HR.out, rfl⟩, rfl⟩
        · have hd : (v == g) = false := by simpa using hv
          go_wp2_with fail
          with_reducible refine (HCN.out _).mono ?_
          rintro e w2 ⟨rfl, rfl⟩
          go_wp2_with fail
          go_ret2
          rw [hd] at HR; exact ⟨⟨a, _, HR.out, rfl⟩, rfl⟩
      · have hI2 : decide ((a : Int) < (m : Int)) = false := by simp; omega
        have HR := hide (show FoundX xs g a false from ⟨HPL.out, by rw [HX.out]; simp; omega⟩)
        go_wp2_with fail
        go_ret2
        exact ⟨⟨a, _, HR.out, rfl⟩, rfl⟩
theorem risesB_sorted {n last : Int} {xs : List Int} (h : risesB n last xs = true) : ∀ a b, a < b → b < xs.length → xs.getD a 0 < xs.getD b 0 := by
  induction xs generalizing last with
  | nil => intro a b _ hb; simp at hb
  | cons x xs ih =>
    simp only [risesB, Bool.and_eq_true, decide_eq_true_eq] at h
    intro a b hab hb
    cases b with
    | zero => omega
    | succ b =>
      have hb' : b < xs.length := by simpa using hb
      cases a with
      | zero =>
        have hm : xs.getD b 0 ∈ xs := by rw [List.getD_eq_getElem?_getD, List.getElem?_eq_getElem hb']; exact List.getElem_mem _
        have := (risesB_all h.2 _ hm).1
        simpa using this
      | succ a =>
        have := ih h.2 a b (by omega) hb'
        simpa using this
theorem canB_sorted {n : Int} {xs : List Int} (h : canB n xs = true) : SortedX xs := by
  unfold canB at h
  simp only [Bool.and_eq_true] at h
  intro a b hab hb
  rcases Nat.lt_or_ge a b with h1 | h1
  · exact Int.le_of_lt (risesB_sorted h.2 a b h1 hb)
  · obtain rfl : a = b := by omega
    omega
/-- What the pick that chooses one is. -/
def SteerRes (xs : List Int) (g : Int) (e : Ending) : Prop := ∃ (i : Nat) (r : Bool), FoundX xs g i r ∧ e = .returned (.tuple (if r then #[.int .i64 i, .int .i64 0] else #[.int .i64 0, .int .i64 4]))
theorem steer_no (A : Option Addr) (c m : Nat) (xs : List Int) (p : Int) (W : World) (h : Rd W W.heap.size 1 A m (Cs encI xs)) (hx : xs.length = m) (hm : m ≤ 4096) (hr : canB 8 xs = false) :
    Calls Try.prog 13 #[.slice A m c, .int .i64 p] W fun e W' => e = .returned (.tuple #[.int .i64 0, .int .i64 2]) ∧ Below W.heap.size W W' := by
  have HA := hide (able_any A c m 8 xs W h hx hm false hr)
  clear h hx hr
  go_enter Try.func13, Try.ntmps13
  go_wp2_with fail
  with_reducible refine HA.out.mono ?_
  rintro e w1 ⟨rfl, hb⟩
  go_wp2_with fail
  go_ret2
  exact ⟨rfl, hb⟩
theorem steer_yes (A : Option Addr) (c m : Nat) (xs : List Int) (p : Int) (W : World) (h : Rd W W.heap.size 1 A m (Cs encI xs)) (hx : xs.length = m) (hm : m ≤ 4096) (hr : canB 8 xs = true) :
    Calls Try.prog 13 #[.slice A m c, .int .i64 p] W fun e W' => SteerRes xs p e ∧ Below W.heap.size W W' := by
  have HA := hide (able_any A c m 8 xs W h hx hm true hr)
  have HS := hide (canB_sorted hr)
  have H := hide h
  have HX := hide hx
  clear h hx hr
  go_enter Try.func13, Try.ntmps13
  go_wp2_with fail
  with_reducible refine HA.out.mono ?_
  rintro e w1 ⟨rfl, hb⟩
  have HB := hide hb
  have HC := hide (search_any w1.heap.size A c m xs p w1 ((H.out.below hb).more hb.size) HX.out hm (Nat.le_refl _) HS.out)
  clear hb
  go_wp2_with fail
  with_reducible refine HC.out.mono ?_
  rintro e w2 ⟨⟨i, r, hf, rfl⟩, rfl⟩
  have HF := hide hf
  clear hf
  cases r
  · go_wp2_with fail
    go_ret2
    exact ⟨⟨i, false, HF.out, rfl⟩, HB.out⟩
  · go_wp2_with fail
    go_ret2
    exact ⟨⟨i, true, HF.out, rfl⟩, HB.out⟩
/-- The greatest one. -/
def MaxX (xs : List Int) (r : Int) : Prop := (∃ k, k < xs.length ∧ xs.getD k 0 = r) ∧ ∀ k, k < xs.length → xs.getD k 0 ≤ r
theorem max_any (B : Nat) (A : Option Addr) (c m : Nat) (xs : List Int) (W : World) (h : Rd W B 1 A m (Cs encI xs)) (hx : xs.length = m) (hm : m ≤ 4096) (hm0 : 0 < m) (hB : B ≤ W.heap.size) (r : Int) (hr : MaxX xs r) :
    Calls Try.prog 38 #[.slice A m c] W fun e W' => e = .returned (.int .i64 r) ∧ W = W' := by
  have HX := hide hx
  have H := hide h
  have HR := hide hr
  obtain ⟨bl, o, rfl, hb, d0⟩ := H.out.numD HX.out hm0
  have hbl : bl < W.heap.size := Nat.lt_of_lt_of_le hb hB
  have h0I : (0 : Int) < (m : Int) := by omega
  have h1I : ¬ (m : Int) < 1 := by omega
  have HV := hide (show MaxX (xs.take 1) (xs.getD 0 0) from by
    have hl : (xs.take 1).length = 1 := by rw [List.length_take, HX.out]; omega
    have hg : (xs.take 1).getD 0 0 = xs.getD 0 0 := by simp [List.getD_eq_getElem?_getD, List.getElem?_take]
    refine ⟨⟨0, by omega, hg⟩, fun k hk => ?_⟩
    obtain rfl : k = 0 := by omega
    rw [hg]; exact Int.le_refl _)
  generalize xs.getD 0 0 = v0 at *
  simp only [Nat.add_zero] at d0
  clear h hx hr hb
  go_enter Try.func38, Try.ntmps38
  go_wp2_with fail
  go_loopw [3, 4] (fun v i wr => ∃ (k : Nat) (z : Int), 1 ≤ k ∧ k ≤ m ∧ i = .int .i64 k ∧ v = .int .i64 z ∧ MaxX (xs.take k) z ∧ wr = W) (fun _ i _ => m - (intOf i).toNat)
  case atStart => exact ⟨1, v0, Nat.le_refl _, hm0, rfl, rfl, HV.out, rfl⟩
  case round =>
    obtain ⟨k, z, hk1, hk, rfl, rfl, hz, rfl⟩ := hrel
    have HZ := hide hz
    clear hz
    by_cases hlt : k < m
    · obtain ⟨b2, o2, he, hb2, d1⟩ := H.out.numD HX.out hlt
      injection he with he
      injection he with e1 e2
      subst e1 e2
      have hkm : (k : Int) < (m : Int) := by omega
      have HT := hide (show xs.take (k + 1) = xs.take k ++ [xs.getD k 0] from by
        rw [List.take_succ_eq_append_getElem (show k < xs.length by rw [HX.out]; exact hlt), List.getD_eq_getElem?_getD, List.getElem?_eq_getElem]; rfl)
      generalize xs.getD k 0 = y at *
      have HN := hide (show MaxX (xs.take (k + 1)) (max z y) from by
        have hl : (xs.take k).length = k := by rw [List.length_take, HX.out]; omega
        have hl1 : (xs.take k ++ [y]).length = k + 1 := by rw [List.length_append, hl]; rfl
        have hlast : (xs.take k ++ [y]).getD k 0 = y := by rw [List.getD_eq_getElem?_getD, List.getElem?_append_right (by omega), hl]; simp
        have hold : ∀ j, j < k → (xs.take k ++ [y]).getD j 0 = (xs.take k).getD j 0 := fun j hj => by
          rw [List.getD_eq_getElem?_getD, List.getElem?_append_left (by omega), ← List.getD_eq_getElem?_getD]
        rw [HT.out]
        obtain ⟨⟨j, hj, hje⟩, hall⟩ := HZ.out
        rw [hl] at hj hall
        refine ⟨?_, fun j hj => ?_⟩
        · rcases Int.le_total z y with h | h
          · exact ⟨k, by omega, by rw [hlast, Int.max_eq_right h]⟩
          · exact ⟨j, by omega, by rw [hold j hj, hje, Int.max_eq_left h]⟩
        · rw [hl1] at hj
          by_cases hjk : j = k
          · subst hjk; rw [hlast]; exact Int.le_max_right _ _
          · rw [hold j (by omega)]; exact Int.le_trans (hall j (by omega)) (Int.le_max_left _ _))
      clear hb2
      go_wp2_with fail
      go_roundw
      case rel => exact ⟨k + 1, max z y, by omega, by omega, by go_num, rfl, HN.out, by trivial⟩
      case measure => simp [intOf]; omega
    · go_wp2_with fail
      go_ret
      have h := HZ.out
      rw [List.take_of_length_le (by rw [HX.out]; omega)] at h
      obtain ⟨⟨a, ha, hae⟩, hall⟩ := h
      obtain ⟨⟨b, hb, hbe⟩, hall2⟩ := HR.out
      have h1 := hall b hb
      have h2 := hall2 a ha
      have he : z = r := by omega
      exact ⟨ret_int he, rfl⟩
end Go.Proofs.Ytogjokoaghpjiaa
