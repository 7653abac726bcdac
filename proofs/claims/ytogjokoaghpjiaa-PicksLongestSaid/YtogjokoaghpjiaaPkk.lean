/-
  What is deleted from a row of ints.
-/
import Derived.Test.YtogjokoaghpjiaaPkj
set_option linter.unusedSimpArgs false
set_option linter.unusedVariables false
namespace Go.Proofs.Ytogjokoaghpjiaa
open Go Go.RowKit
attribute [local go_sem] via_cell via_frozen

/-- The first place of which p holds, or -1. -/
def FirstX (p : Int → Bool) (xs : List Int) (i : Int) : Prop := (i = -1 ∧ ∀ x ∈ xs, p x = false) ∨ ∃ k : Nat, k < xs.length ∧ i = k ∧ p (xs.getD k 0) = true ∧ ∀ j, j < k → p (xs.getD j 0) = false
theorem indexF_any (B : Nat) (A : Option Addr) (c m gf : Nat) (lb : Array Value) (hg : ∀ args w, (callFunc gf args).run Try.prog w = .ok (.enter gf args) w) (p : Int → Bool) (xs : List Int) (W : World) (h : Rd W B 1 A m (Cs encI xs)) (hx : xs.length = m) (hm : m ≤ 4096) (hB : B ≤ W.heap.size)
    (HC : ∀ x ∈ xs, Calls Try.prog gf (#[.int .i64 x] ++ lb) W fun e w' => e = .returned (.bool (p x)) ∧ W = w') :
    Calls Try.prog 54 #[.slice A m c, .func (.func gf) #[] lb] W fun e W' => (∃ i : Int, e = .returned (.int .i64 i) ∧ FirstX p xs i) ∧ W = W' := by
  have HX := hide hx
  have H := hide h
  have HCH := hide HC
  clear h hx HC
  go_enter Try.func54, Try.ntmps54
  go_wp2_with fail
  go_loopw [8] (fun i wr => ∃ k : Nat, k ≤ m ∧ i = .int .i64 k ∧ (∀ j, j < k → p (xs.getD j 0) = false) ∧ wr = W) (fun i _ => m - (intOf i).toNat)
  case atStart => exact ⟨0, Nat.zero_le _, rfl, fun j hj => absurd hj (Nat.not_lt_zero _), rfl⟩
  case round =>
    obtain ⟨k, hk, rfl, hno, rfl⟩ := hrel
    have HN := hide hno
    clear hno
    by_cases hlt : k < m
    · have hlx : k < xs.length := by rw [HX.out]; exact hlt
      obtain ⟨b, o, rfl, hb, d0⟩ := H.out.numD HX.out hlt
      have hbl : b < wr.heap.size := Nat.lt_of_lt_of_le hb hB
      have hkm : (k : Int) < (m : Int) := by omega
      have HM := hide (HCH.out (xs.getD k 0) (by rw [List.getD_eq_getElem?_getD, List.getElem?_eq_getElem hlx]; exact List.getElem_mem _))
      have HG := hide (rfl : xs.getD k 0 = xs.getD k 0)
      obtain ⟨x, hxx⟩ : ∃ x, xs.getD k 0 = x := ⟨_, rfl⟩
      rw [hxx] at d0 HM
      have HXX := hide hxx
      obtain ⟨q, hq⟩ : ∃ q, p x = q := ⟨_, rfl⟩
      have HQ := hide hq
      rw [hq] at HM
      clear hxx hq hb HG
      go_wp2_with fail
      with_reducible refine HM.out.mono ?_
      rintro e w2 ⟨rfl, rfl⟩
      cases q
      · have HN2 := hide (show ∀ j, j < k + 1 → p (xs.getD j 0) = false from fun j hj => by
          by_cases hjk : j = k
          · subst hjk; rw [HXX.out]; exact HQ.out
          · exact HN.out j (by omega))
        go_wp2_with fail
        go_roundw
        case rel => exact ⟨k + 1, by omega, by go_num, HN2.out, by trivial⟩
        case measure => simp [intOf]; omega
      · have HF := hide (show FirstX p xs k from .inr ⟨k, hlx, rfl, by rw [HXX.out]; exact HQ.out, HN.out⟩)
        go_wp2_with fail
        go_ret
        exact ⟨⟨_, rfl, HF.out⟩, rfl⟩
    · have HF := hide (show FirstX p xs (-1) from .inl ⟨rfl, fun x hx => by
        obtain ⟨j, hj, e⟩ := List.getElem_of_mem hx
        have := HN.out j (by have := HX.out; omega)
        rw [List.getD_eq_getElem?_getD, List.getElem?_eq_getElem hj] at this
        rw [← e]; exact this⟩)
      go_wp2_with fail
      go_ret
      exact ⟨⟨_, rfl, HF.out⟩, rfl⟩
/-- While elements are deleted: i are kept, j have been looked at. -/
structure DelAt (W wr : World) (g n c : Nat) (np : Int → Bool) (xs : List Int) (i j : Nat) : Prop where
  row : ∃ cur : Array Value, RowAt wr g 3 cur ∧ cur.size = c ∧ (∀ a, a < i → cur[a]? = some (valI (((xs.take j).filter np).getD a 0))) ∧ ∀ a, j ≤ a → a < n → cur[a]? = some (valI (xs.getD a 0))
  len : ((xs.take j).filter np).length = i
  lt : i < j
  le : j ≤ n
  past : Past g W wr
theorem DelAt.skip {W wr : World} {g n c : Nat} {np : Int → Bool} {xs : List Int} {i j : Nat} (h : DelAt W wr g n c np xs i j) (hx : xs.length = n) (hj : j < n) (hp : np (xs.getD j 0) = false) : DelAt W wr g n c np xs i (j + 1) := by
  obtain ⟨⟨cur, h1, h2, h3, h4⟩, hl, hlt, hle, hpa⟩ := h
  have hT : xs.take (j + 1) = xs.take j ++ [xs.getD j 0] := by
    rw [List.take_succ_eq_append_getElem (show j < xs.length by omega), List.getD_eq_getElem?_getD, List.getElem?_eq_getElem]; rfl
  have hF : (xs.take (j + 1)).filter np = (xs.take j).filter np := by rw [hT, List.filter_append, List.filter_cons, hp]; simp
  exact ⟨⟨cur, h1, h2, by rw [hF]; exact h3, fun a ha hn => h4 a (by omega) hn⟩, by rw [hF]; exact hl, by omega, by omega, hpa⟩
theorem DelAt.keep {W wr : World} {g n c : Nat} {np : Int → Bool} {xs : List Int} {i j : Nat} (h : DelAt W wr g n c np xs i j) (hx : xs.length = n) (hj : j < n) (hc : n ≤ c) {x : Int} (hxx : xs.getD j 0 = x) (hp : np x = true) : DelAt W (wr.setCell ⟨g, i, none⟩ (.int .i64 x)) g n c np xs (i + 1) (j + 1) := by
  subst hxx
  obtain ⟨⟨cur, h1, h2, h3, h4⟩, hl, hlt, hle, hpa⟩ := h
  have hT : xs.take (j + 1) = xs.take j ++ [xs.getD j 0] := by
    rw [List.take_succ_eq_append_getElem (show j < xs.length by omega), List.getD_eq_getElem?_getD, List.getElem?_eq_getElem]; rfl
  have hF : (xs.take (j + 1)).filter np = (xs.take j).filter np ++ [xs.getD j 0] := by rw [hT, List.filter_append, List.filter_cons, hp]; simp
  refine ⟨⟨_, h1.set i (.int .i64 (xs.getD j 0)), by simp [h2], fun a ha => ?_, fun a ha hn => ?_⟩, by rw [hF, List.length_append, hl]; rfl, by omega, by omega, hpa.trans (Past.set i _)⟩
  · rw [Array.getElem?_setIfInBounds]
    by_cases hai : i = a
    · subst hai
      have e : ∀ (l : List Int) (y : Int), l.length = i → (l ++ [y]).getD i 0 = y := by
        intro l y hly
        rw [List.getD_eq_getElem?_getD, List.getElem?_append_right (by omega), hly]
        simp
      rw [if_pos rfl, if_pos (by omega), hF, e _ _ hl]
      rfl
    · rw [if_neg hai, h3 a (by omega), hF]
      congr 2
      rw [List.getD_eq_getElem?_getD, List.getD_eq_getElem?_getD, List.getElem?_append_left (by omega)]
  · rw [Array.getElem?_setIfInBounds, if_neg (by omega)]
    exact h4 a (by omega) hn
theorem run_clear_row (w : World) (g i n c : Nat) (ty : TypeId) (cur : Array Value) (hrow : RowAt w g 3 cur) (hn : i + n ≤ cur.size) :
    ∃ w', (Builtin.clear_ #[22] ty #[.slice (some ⟨g, i, none⟩) n c]).run Try.prog w = .ok (.tuple #[]) w' ∧ Past g w w' ∧ ∃ cur' : Array Value, RowAt w' g 3 cur' ∧ cur'.size = cur.size ∧ ∀ a, a < i → cur'[a]? = cur[a]? := by
  by_cases h0 : n = 0
  · subst h0
    exact ⟨w, by simp [Builtin.clear_, run_underlying Try.underlying22], Past.refl _ _, cur, hrow, rfl, fun _ _ => rfl⟩
  · obtain ⟨inf, hi, hz, hs, hby⟩ := info_parts elI.info
    have hst := run_storeCells_at Try.prog g i 3 (Builtin.zeroCells (Value.int .i64 0).cells n).toList 0 cur w hrow (by simp [Builtin.zeroCells, Value.cells]; omega) (oneCell_zeroCells _ _ elI.h1)
    have hl : (Builtin.zeroCells (Value.int .i64 0).cells n).toList.length = n := by simp [Builtin.zeroCells, Value.cells]
    generalize hZ : (Builtin.zeroCells (Value.int .i64 0).cells n).toList = Z at hst hl
    simp only [Nat.add_zero] at hst
    obtain ⟨X, hX⟩ : ∃ X : Array Value, (List.take i cur.toList ++ Z ++ List.drop (i + Z.length) cur.toList).toArray = X := ⟨_, rfl⟩
    rw [hX] at hst
    refine ⟨w.setRow g X, ?_, setRow_past _ g _, X, setRow_heap w g cur X 3 _ hrow, ?_, ?_⟩
    · cases n with
      | zero => exact absurd rfl h0
      | succ n => simp [Builtin.clear_, run_underlying Try.underlying22, zeroValue, typeInfo, hi, hz, hZ, hst]
    · rw [← hX]
      simp only [List.size_toArray, List.length_append, List.length_take, List.length_drop, Array.length_toList, hl]
      omega
    · intro a ha
      rw [← hX, List.getElem?_toArray, List.append_assoc, List.getElem?_append_left (by simp; omega), List.getElem?_take, if_pos (by omega)]
      simp
/-- What is left in the row, behind deleting. -/
def DelRes (W : World) (base g c : Nat) (ys : List Int) (e : Ending) (W' : World) : Prop :=
  e = .returned (.slice (some ⟨g, 0, none⟩) ys.length c) ∧ W'.ownsRow base 3 1 (.slice (some ⟨g, 0, none⟩) ys.length c) ys.length (Cs encI ys) ∧ Past g W W'
theorem own_row {w : World} {base n c g : Nat} {xs : List Value} (h : w.ownsRow base 3 1 (.slice (some ⟨g, 0, none⟩) n c) n xs) : ∃ cur : Array Value, RowAt w g 3 cur ∧ n ≤ c ∧ c ≤ maxLen ∧ cur.size = c ∧ cur.toList.take n = xs ∧ base ≤ g := by
  rcases h.2 with ⟨h', _⟩ | ⟨g', cap', cur, h', hb, hg, hnc, hcm, hcs, ht⟩
  · cases h'
  · injection h' with h1 h2 h3
    injection h1 with h1
    injection h1 with h1
    subst h1; subst h3
    exact ⟨cur, hg, hnc, hcm, by simpa using hcs, by simpa using ht, hb⟩
theorem own_of_row {w : World} {base c g : Nat} {ys : List Int} {cur : Array Value} (hr : RowAt w g 3 cur) (hn : ys.length ≤ c) (hcm : c ≤ maxLen) (hs : cur.size = c) (hb : base ≤ g) (h : ∀ a, a < ys.length → cur[a]? = some (valI (ys.getD a 0))) :
    w.ownsRow base 3 1 (.slice (some ⟨g, 0, none⟩) ys.length c) ys.length (Cs encI ys) := by
  refine ⟨by rw [Cs_length encI_len], .inr ⟨g, c, cur, rfl, hb, hr, hn, hcm, by omega, ?_⟩⟩
  apply List.ext_getElem?
  intro a
  by_cases ha : a < ys.length
  · rw [List.getElem?_take, if_pos (by omega), Array.getElem?_toList, h a ha]
    have h1 := Cs_at (enc := encI) encI_len ys a 0 ha (by omega)
    simp only [Nat.mul_one, Nat.add_zero] at h1
    rw [h1, List.getD_eq_getElem?_getD, List.getElem?_eq_getElem ha]
    rfl
  · rw [List.getElem?_eq_none (by rw [List.length_take]; omega), List.getElem?_eq_none (by rw [Cs_length encI_len]; omega)]
theorem first_filter {p : Int → Bool} {xs : List Int} {k : Nat} (hk : k < xs.length) (hno : ∀ j, j < k → p (xs.getD j 0) = false) (hp : p (xs.getD k 0) = true) : (xs.take (k + 1)).filter (fun x => !p x) = xs.take k := by
  have hT : xs.take (k + 1) = xs.take k ++ [xs.getD k 0] := by
    rw [List.take_succ_eq_append_getElem hk, List.getD_eq_getElem?_getD, List.getElem?_eq_getElem]; rfl
  rw [hT, List.filter_append, List.filter_cons, hp]
  simp only [Bool.not_true, Bool.false_eq_true, if_false, List.filter_nil, List.append_nil]
  rw [List.filter_eq_self]
  intro x hx
  obtain ⟨j, hj, e⟩ := List.getElem_of_mem hx
  rw [List.length_take] at hj
  have := hno j (by omega)
  rw [List.getD_eq_getElem?_getD, List.getElem?_eq_getElem (by omega)] at this
  rw [List.getElem_take] at e
  rw [← e]
  simpa using this
set_option maxHeartbeats 1000000 in
theorem delF_any (base g n c gf : Nat) (lb : Array Value) (hg : ∀ args w, (callFunc gf args).run Try.prog w = .ok (.enter gf args) w) (p : Int → Bool) (xs : List Int) (W : World) (h : W.ownsRow base 3 1 (.slice (some ⟨g, 0, none⟩) n c) n (Cs encI xs)) (hx : xs.length = n) (hm : n ≤ 4096) (hgs : g < W.heap.size)
    (HC : ∀ w x, Past g W w → x ∈ xs → Calls Try.prog gf (#[.int .i64 x] ++ lb) w fun e w' => e = .returned (.bool (p x)) ∧ w = w') :
    Calls Try.prog 51 #[.slice (some ⟨g, 0, none⟩) n c, .func (.func gf) #[] lb] W fun e W' => DelRes W base g c (xs.filter (fun x => !p x)) e W' := by
  have HO := hide h
  have HX := hide hx
  have HCH := hide HC
  have hrd : Rd W W.heap.size 1 (some ⟨g, 0, none⟩) n (Cs encI xs) := Rd.of_own h
  have HI := hide (indexF_any W.heap.size (some ⟨g, 0, none⟩) c n gf lb hg p xs W hrd hx hm (Nat.le_refl _) (fun x hxm => HC W x (Past.refl _ _) hxm))
  obtain ⟨cur0, hr0, hnc, hcm, hcs, hct, hbg⟩ := own_row h
  have HR0 := hide hr0
  have HCT := hide hct
  have HCS := hide hcs
  have hcI : (c : Int) ≤ 9223372036854775807 := by unfold maxLen at hcm; omega
  clear h hx HC hrd hr0 hct hcs
  go_enter Try.func51, Try.ntmps51
  go_wp2_with fail
  with_reducible refine HI.out.mono ?_
  rintro e w1 ⟨⟨i, rfl, hf⟩, rfl⟩
  rcases hf with ⟨rfl, hall⟩ | ⟨k, hk, rfl, hpk, hno⟩
  · have HF := hide (show xs.filter (fun x => !p x) = xs from by
      rw [List.filter_eq_self]
      intro x hx
      rw [hall x hx]; rfl)
    clear hall
    go_wp2_with fail
    go_ret
    rw [HF.out]
    have e : xs.length = n := HX.out
    exact ⟨by rw [e]; rfl, by rw [e]; exact HO.out, Past.refl _ _⟩
  · have hkn : k < n := by have := HX.out; omega
    have hne : ((k : Int) == -1) = false := by rw [beq_eq_false_iff_ne]; omega
    have H0 := hide (show DelAt W W g n c (fun x => !p x) xs k (k + 1) from by
      have hfl := first_filter hk hno hpk
      have hcell : ∀ a, a < n → cur0[a]? = some (valI (xs.getD a 0)) := by
        intro a ha
        have h1 := Cs_at (enc := encI) encI_len xs a 0 (by have := HX.out; omega) (by omega)
        simp only [Nat.mul_one, Nat.add_zero] at h1
        have h2 : (cur0.toList.take n)[a]? = (Cs encI xs)[a]? := by rw [HCT.out]
        rw [List.getElem?_take, if_pos ha, Array.getElem?_toList, h1] at h2
        rw [h2, List.getD_eq_getElem?_getD, List.getElem?_eq_getElem (show a < xs.length by have := HX.out; omega)]
        rfl
      refine ⟨⟨cur0, HR0.out, HCS.out, fun a ha => ?_, fun a ha hn => hcell a hn⟩, by rw [hfl, List.length_take]; omega, by omega, by omega, Past.refl _ _⟩
      rw [hfl, hcell a (by omega), List.getD_eq_getElem?_getD, List.getD_eq_getElem?_getD, List.getElem?_take, if_pos ha])
    clear hpk hno hk HI
    go_wp2_with fail
    go_loopw [5, 6] (fun si sj wr => ∃ (i j : Nat), si = .int .i64 i ∧ sj = .int .i64 j ∧ DelAt W wr g n c (fun x => !p x) xs i j) (fun _ j _ => n - (intOf j).toNat)
    case atStart => exact ⟨k, k + 1, rfl, by go_num, H0.out⟩
    case round =>
      obtain ⟨i, j, rfl, rfl, hat⟩ := hrel
      have HAT := hide hat
      have hij := hat.lt
      have hjn := hat.le
      have hgw := Nat.lt_of_lt_of_le hgs hat.past.size
      clear hat
      by_cases hlt : j < n
      · have hjI : (j : Int) < (n : Int) := by omega
        have hiI : (i : Int) < (n : Int) := by omega
        obtain ⟨cur, hr, hs, hlo, hhi⟩ := HAT.out.row
        have HXX := hide (rfl : xs.getD j 0 = xs.getD j 0)
        have hmem : xs.getD j 0 ∈ xs := by rw [List.getD_eq_getElem?_getD, List.getElem?_eq_getElem (show j < xs.length by have := HX.out; omega)]; exact List.getElem_mem _
        have HCC := hide (HCH.out wr _ HAT.out.past hmem)
        have d0 : wr.cell? ⟨g, j, none⟩ = some (.int .i64 (xs.getD j 0)) := (hr.cell j).trans (hhi j (Nat.le_refl _) hlt)
        have fi := hr.frozen i
        obtain ⟨u, ci⟩ : ∃ u, wr.cell? ⟨g, i, none⟩ = some u := ⟨_, (hr.cell i).trans (Array.getElem?_eq_getElem (show i < cur.size by omega))⟩
        clear hmem
        obtain ⟨x, hxx⟩ : ∃ x, xs.getD j 0 = x := ⟨_, rfl⟩
        rw [hxx] at d0 HCC
        replace HXX := hide hxx
        obtain ⟨q, hq⟩ : ∃ q, p x = q := ⟨_, rfl⟩
        rw [hq] at HCC
        have HQ := hide hq
        clear hxx hq hr hs hlo hhi
        cases q
        · have HN := hide (HAT.out.keep HX.out hlt hnc HXX.out (by rw [HQ.out]; rfl))
          go_wp2_with fail
          with_reducible refine HCC.out.mono ?_
          rintro e w2 ⟨rfl, rfl⟩
          go_wp2_with fail
          go_roundw
          case rel => exact ⟨i + 1, j + 1, by go_num, by go_num, HN.out⟩
          case measure => simp [intOf]; omega
        · have HN := hide (HAT.out.skip HX.out hlt (by rw [HXX.out, HQ.out]; rfl))
          go_wp2_with fail
          with_reducible refine HCC.out.mono ?_
          rintro e w2 ⟨rfl, rfl⟩
          go_wp2_with fail
          go_roundw
          case rel => exact ⟨i, j + 1, rfl, by go_num, HN.out⟩
          case measure => simp [intOf]; omega
      · obtain rfl : j = n := by omega
        obtain ⟨cur, hr, hs, hlo, hhi⟩ := HAT.out.row
        have hlen := HAT.out.len
        rw [List.take_of_length_le (by rw [HX.out]; exact Nat.le_refl _)] at hlen hlo
        have hiI : (i : Int) ≤ (j : Int) := by omega
        have hicI : (i : Int) ≤ (c : Int) := by omega
        obtain ⟨w3, hcl, hp3, cur3, hr3, hs3, hk3⟩ := run_clear_row wr g i (j - i) (c - i) 0 cur hr (by omega)
        have HRES := hide (show DelRes W base g c (xs.filter (fun x => !p x)) (.returned (.slice (some ⟨g, 0, none⟩) i c)) w3 from by
          refine ⟨by rw [hlen], ?_, HAT.out.past.trans hp3⟩
          exact own_of_row hr3 (by omega) hcm (by omega) hbg (fun a ha => by rw [hk3 a (by omega)]; exact hlo a (by omega)))
        clear hr hs hlo hhi hlen hr3 hs3 hk3 hp3
        go_wp2_with fail
        go_ret
        exact HRES.out
end Go.Proofs.Ytogjokoaghpjiaa
