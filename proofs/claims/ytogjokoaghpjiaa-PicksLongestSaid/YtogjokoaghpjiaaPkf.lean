/-
  Rows of turns in memory; whether these are turns: the program's and the reference's.
-/
import Derived.Test.YtogjokoaghpjiaaPke
set_option linter.unusedSimpArgs false
set_option linter.unusedVariables false
namespace Go.Proofs.Ytogjokoaghpjiaa
open Go Go.RowKit
attribute [local go_sem] via_cell via_frozen

/-- A turn in memory: where who can lies, its room, who can, who did. -/
structure Tm where
  A : Option Addr
  c : Nat
  can : List Int
  ch : Int
def Tm.tn (t : Tm) : Tn := (t.can, t.ch)
def encT (t : Tm) : List Value := [.slice t.A t.can.length t.c, .int .i64 t.ch]
theorem encT_len : ∀ x, (encT x).length = 2 := fun _ => rfl
theorem encT_one : ∀ x, ∀ u ∈ encT x, u.oneCell' = true := by intro x u hu; simp [encT] at hu; rcases hu with rfl | rfl <;> rfl
theorem elT : ElemOk Try.prog 34 37 2 32 (.agg #[.slice none 0 0, .int .i64 0]) := ⟨Try.underlying34, by kernel_rfl, rfl, by omega, by omega, by intro u hu; simp [Value.cells] at hu; rcases hu with rfl | rfl <;> rfl⟩
/-- A slice that reads as turns: their rows of who can as well; all below B. -/
structure RT (w : World) (B : Nat) (A : Option Addr) (m : Nat) (ts : List Tm) : Prop where
  rd : Rd w B 2 A m (Cs encT ts)
  len : ts.length = m
  cans : ∀ t ∈ ts, Rd w B 1 t.A t.can.length (Cs encI t.can)
theorem RT.below {w w' : World} {B m : Nat} {A : Option Addr} {ts : List Tm} (h : RT w B A m ts) (hb : Below B w w') : RT w' B A m ts := ⟨h.rd.below hb, h.len, fun t ht => (h.cans t ht).below hb⟩
theorem RT.more {w : World} {B B' m : Nat} {A : Option Addr} {ts : List Tm} (h : RT w B A m ts) (hb : B ≤ B') : RT w B' A m ts := ⟨h.rd.more hb, h.len, fun t ht => (h.cans t ht).more hb⟩
theorem RT.at_ {w : World} {B m : Nat} {A : Option Addr} {ts : List Tm} (h : RT w B A m ts) {k : Nat} (hk : k < ts.length) :
    ∃ b o, A = some ⟨b, o, none⟩ ∧ b < B ∧ w.cell? ⟨b, o + k * 2, none⟩ = some (.slice ts[k].A ts[k].can.length ts[k].c) ∧ w.cell? ⟨b, o + k * 2 + 1, none⟩ = some (.int .i64 ts[k].ch) ∧ Rd w B 1 ts[k].A ts[k].can.length (Cs encI ts[k].can) := by
  obtain ⟨hrd, rfl, hc⟩ := h
  obtain ⟨b, o, h1, h2, h3⟩ := hrd.elem encT_len hk
  exact ⟨b, o, h1, h2, by simpa using h3 0 _ (by omega) rfl, h3 1 _ (by omega) rfl, hc _ (List.getElem_mem hk)⟩
/-- As many as can be gone through. -/
def SmallT (ts : List Tm) : Prop := ts.length ≤ 4096 ∧ ∀ t ∈ ts, t.can.length ≤ 4096
def tns (ts : List Tm) : List Tn := ts.map Tm.tn
theorem tns_take (ts : List Tm) (k : Nat) : tns (ts.take k) = (tns ts).take k := List.map_take
theorem tns_len (ts : List Tm) : (tns ts).length = ts.length := List.length_map _

theorem all_snoc (n : Int) (ts : List Tm) (t : Tm) : (tns (ts ++ [t])).all (turnB n) = ((tns ts).all (turnB n) && (canB n t.can && t.can.contains t.ch)) := by
  simp [tns, List.all_append, turnB, Tm.tn]
theorem all_pre {n : Int} {ts : List Tm} {k : Nat} (h : (tns (ts.take k)).all (turnB n) = false) : (tns ts).all (turnB n) = false := by
  rw [Bool.eq_false_iff] at h ⊢
  intro h2
  apply h
  rw [List.all_eq_true] at h2 ⊢
  intro x hx
  exact h2 x (by rw [tns_take] at hx; exact List.mem_of_mem_take hx)
def errT (b : Bool) : Int := if b then 0 else 140
set_option maxHeartbeats 1000000 in
theorem check_any (B : Nat) (A : Option Addr) (c m : Nat) (n : Int) (ts : List Tm) (W : World) (h : RT W B A m ts) (hB : B ≤ W.heap.size) (hs : SmallT ts) (z : Int) (hz : errT (rightB n (tns ts)) = z) :
    Calls Try.prog 18 #[.int .i64 n, .slice A m c] W fun e W' => e = .returned (.int .i64 z) ∧ Below W.heap.size W W' := by
  have H := hide h
  have HS := hide hs
  obtain ⟨r, hr⟩ : ∃ r, rightB n (tns ts) = r := ⟨_, rfl⟩
  have HR := hide hr
  have HZ := hide (show errT r = z from by rw [← hr]; exact hz)
  clear hz
  have HL := hide h.len
  have hm : m ≤ 4096 := by have := hs.1; have := h.len; omega
  by_cases h1 : n < 1
  · obtain rfl : false = r := by rw [← hr]; unfold rightB; simp; omega
    clear h hs hr
    go_enter Try.func18, Try.ntmps18
    go_wp2_with fail
    go_ret
    exact ⟨ret_int HZ.out, Below.refl _ _⟩
  by_cases h8 : 8 < n
  · obtain rfl : false = r := by rw [← hr]; unfold rightB; simp; omega
    have hd : decide (n < 1) = false := by simpa using h1
    have hd2 : decide (8 < n) = true := by simpa using h8
    clear h hs hr h1 h8
    go_enter Try.func18, Try.ntmps18
    go_wp2_with fail
    go_ret
    exact ⟨ret_int HZ.out, Below.refl _ _⟩
  have hd : decide (n < 1) = false := by simpa using h1
  have hd2 : decide (8 < n) = false := by simpa using h8
  have HA := hide (show (tns ts).all (turnB n) = r from by
    rw [← hr]; unfold rightB
    have e1 : decide (1 ≤ n) = true := by simp; omega
    have e2 : decide (n ≤ 8) = true := by simp; omega
    rw [e1, e2]; simp)
  clear h hs hr h1 h8 HR
  go_enter Try.func18, Try.ntmps18
  go_wp2_with fail
  go_loopw [15] (fun i wr => ∃ k : Nat, k ≤ m ∧ i = .int .i64 k ∧ (tns (ts.take k)).all (turnB n) = true ∧ Below W.heap.size W wr) (fun i _ => m - (intOf i).toNat)
  case atStart => exact ⟨0, Nat.zero_le _, rfl, rfl, Below.refl _ _⟩
  case round =>
    obtain ⟨k, hk, rfl, hall, hbw⟩ := hrel
    have HALL := hide hall
    have HBW := hide hbw
    clear hall hbw
    by_cases hlt : k < m
    · have hlx : k < ts.length := by rw [HL.out]; exact hlt
      obtain ⟨b, o, rfl, hb, d0, d1, hcan⟩ := (H.out.below (HBW.out.mono hB)).at_ hlx
      have hbl : b < wr.heap.size := Nat.lt_of_lt_of_le hb (Nat.le_trans hB HBW.out.size)
      have hkm : (k : Int) < (m : Int) := by omega
      have HT := hide (show ts.take (k + 1) = ts.take k ++ [ts[k]] from List.take_succ_eq_append_getElem hlx)
      have hcl := HS.out.2 _ (List.getElem_mem hlx)
      generalize ts[k] = t at *
      obtain ⟨tA, tc, tcan, tch⟩ := t
      dsimp only at *
      have HBN := hide (show Below wr.heap.size wr (wr.alloc (.cells #[.slice tA tcan.length tc, .int .i64 tch] 37)) from (Below.refl _ _).alloc (Nat.le_refl _) _)
      have HC := hide ((hcan.more (Nat.le_trans hB HBW.out.size)).below HBN.out)
      have HRN := hide (RowAt.new wr 37 #[.slice tA tcan.length tc, .int .i64 tch])
      obtain ⟨q, hq⟩ : ∃ q, canB n tcan = q := ⟨_, rfl⟩
      obtain ⟨q2, hq2⟩ : ∃ q2, tcan.contains tch = q2 := ⟨_, rfl⟩
      have HSN := hide (show (tns (ts.take (k + 1))).all (turnB n) = (q && q2) from by rw [HT.out, all_snoc, HALL.out, ← hq, ← hq2]; simp)
      have HQ := hide hq
      have HQ2 := hide hq2
      clear hq hq2 hb hcan
      go_wp2_with fail
      with_reducible refine (able_any tA tc tcan.length n tcan _ (HC.out.more HBN.out.size) rfl hcl q HQ.out).mono ?_
      rintro e w2 ⟨rfl, hb2⟩
      have HB2 := hide hb2
      have HRN2 := hide (HRN.out.below hb2)
      have f0 := row20 HRN2.out
      have f1 := row21 HRN2.out
      have hl := HRN2.out.lt
      have HCN := hide (contains_any wr.heap.size tA tc tcan.length tcan tch w2 (HC.out.below (hb2.mono HBN.out.size)) rfl hcl (Nat.le_trans HBN.out.size hb2.size) q2 HQ2.out)
      have HBE := hide (HBW.out.trans ((HBN.out.trans (hb2.mono HBN.out.size)).mono HBW.out.size))
      clear hb2
      cases q
      · have HF := hide (HA.out.symm.trans (all_pre HSN.out))
        clear HC HCN
        go_wp2_with fail
        go_ret
        have he := HZ.out; rw [HF.out] at he; exact ⟨ret_int he, HBE.out⟩
      · clear HC
        go_wp2_with fail
        with_reducible refine HCN.out.mono ?_
        rintro e w3 ⟨rfl, rfl⟩
        cases q2
        · have HF := hide (HA.out.symm.trans (all_pre HSN.out))
          go_wp2_with fail
          go_ret
          have he := HZ.out; rw [HF.out] at he; exact ⟨ret_int he, HBE.out⟩
        · go_wp2_with fail
          go_roundw
          case rel => exact ⟨k + 1, by omega, by go_num, HSN.out, HBE.out⟩
          case measure => simp [intOf]; omega
    · have h := HALL.out
      rw [List.take_of_length_le (by rw [HL.out]; omega)] at h
      have HF := hide (HA.out.symm.trans h)
      clear h
      go_wp2_with fail
      go_ret
      have he := HZ.out; rw [HF.out] at he; exact ⟨ret_int he, HBW.out⟩
set_option maxHeartbeats 1000000 in
theorem right_any (B : Nat) (A : Option Addr) (c m : Nat) (n : Int) (ts : List Tm) (W : World) (h : RT W B A m ts) (hB : B ≤ W.heap.size) (hs : SmallT ts) (r : Bool) (hr : rightB n (tns ts) = r) :
    Calls Try.prog 24 #[.int .i64 n, .slice A m c] W fun e W' => e = .returned (.bool r) ∧ Below W.heap.size W W' := by
  have H := hide h
  have HS := hide hs
  have HR := hide hr
  have HL := hide h.len
  have hm : m ≤ 4096 := by have := hs.1; have := h.len; omega
  have HNO := hide (show (tns ts).all (turnB n) = false → false = r from fun h => by rw [← hr]; unfold rightB; rw [h]; simp)
  have HYES := hide (show (tns ts).all (turnB n) = true → (decide (1 ≤ n) && decide (n ≤ 8)) = r from fun h => by rw [← hr]; unfold rightB; rw [h]; simp)
  clear h hs hr
  go_enter Try.func24, Try.ntmps24
  go_wp2_with fail
  go_loopw [9] (fun i wr => ∃ k : Nat, k ≤ m ∧ i = .int .i64 k ∧ (tns (ts.take k)).all (turnB n) = true ∧ Below W.heap.size W wr) (fun i _ => m - (intOf i).toNat)
  case atStart => exact ⟨0, Nat.zero_le _, rfl, rfl, Below.refl _ _⟩
  case round =>
    obtain ⟨k, hk, rfl, hall, hbw⟩ := hrel
    have HALL := hide hall
    have HBW := hide hbw
    clear hall hbw
    by_cases hlt : k < m
    · have hlx : k < ts.length := by rw [HL.out]; exact hlt
      obtain ⟨b, o, rfl, hb, d0, d1, hcan⟩ := (H.out.below (HBW.out.mono hB)).at_ hlx
      have hbl : b < wr.heap.size := Nat.lt_of_lt_of_le hb (Nat.le_trans hB HBW.out.size)
      have hkm : (k : Int) < (m : Int) := by omega
      have HT := hide (show ts.take (k + 1) = ts.take k ++ [ts[k]] from List.take_succ_eq_append_getElem hlx)
      have hcl := HS.out.2 _ (List.getElem_mem hlx)
      generalize ts[k] = t at *
      obtain ⟨tA, tc, tcan, tch⟩ := t
      dsimp only at *
      have HBN := hide (show Below wr.heap.size wr (wr.alloc (.cells #[.slice tA tcan.length tc, .int .i64 tch] 37)) from (Below.refl _ _).alloc (Nat.le_refl _) _)
      have HC := hide ((hcan.more (Nat.le_trans hB HBW.out.size)).below HBN.out)
      have HRN := hide (RowAt.new wr 37 #[.slice tA tcan.length tc, .int .i64 tch])
      obtain ⟨q, hq⟩ : ∃ q, canB n tcan = q := ⟨_, rfl⟩
      obtain ⟨q2, hq2⟩ : ∃ q2, tcan.contains tch = q2 := ⟨_, rfl⟩
      have HSN := hide (show (tns (ts.take (k + 1))).all (turnB n) = (q && q2) from by rw [HT.out, all_snoc, HALL.out, ← hq, ← hq2]; simp)
      have HQ := hide hq
      have HQ2 := hide hq2
      clear hq hq2 hb hcan
      go_wp2_with fail
      with_reducible refine (can_any wr.heap.size tA tc tcan.length n tcan _ HC.out rfl hcl HBN.out.size q HQ.out).mono ?_
      rintro e w2 ⟨rfl, rfl⟩
      have hb2 := Below.refl (wr.alloc (.cells #[.slice tA tcan.length tc, .int .i64 tch] 37)).heap.size (wr.alloc (.cells #[.slice tA tcan.length tc, .int .i64 tch] 37))
      have HB2 := hide hb2
      have HRN2 := hide (HRN.out.below hb2)
      have f0 := row20 HRN2.out
      have f1 := row21 HRN2.out
      have hl := HRN2.out.lt
      have HCN := hide (has_any wr.heap.size tA tc tcan.length tcan tch _ (HC.out.below (hb2.mono HBN.out.size)) rfl hcl (Nat.le_trans HBN.out.size hb2.size) q2 HQ2.out)
      have HBE := hide (HBW.out.trans ((HBN.out.trans (hb2.mono HBN.out.size)).mono HBW.out.size))
      clear hb2
      cases q
      · have HF := hide (HNO.out (all_pre HSN.out))
        clear HC HCN
        go_wp2_with fail
        go_ret
        exact ⟨ret_bool HF.out, HBE.out⟩
      · clear HC
        go_wp2_with fail
        with_reducible refine HCN.out.mono ?_
        rintro e w3 ⟨rfl, rfl⟩
        cases q2
        · have HF := hide (HNO.out (all_pre HSN.out))
          go_wp2_with fail
          go_ret
          exact ⟨ret_bool HF.out, HBE.out⟩
        · go_wp2_with fail
          go_roundw
          case rel => exact ⟨k + 1, by omega, by go_num, HSN.out, HBE.out⟩
          case measure => simp [intOf]; omega
    · have h := HALL.out
      rw [List.take_of_length_le (by rw [HL.out]; omega)] at h
      have HF := hide (HYES.out h)
      clear h
      by_cases h1 : 1 ≤ n
      · have hd : decide (1 ≤ n) = true := by simpa using h1
        have HE := hide (show decide (n ≤ 8) = r by rw [← HF.out, hd]; rfl)
        clear h1
        go_wp2_with fail
        go_ret
        exact ⟨ret_bool HE.out, HBW.out⟩
      · have hd : decide (1 ≤ n) = false := by simpa using h1
        have HE := hide (show false = r by rw [← HF.out, hd]; rfl)
        clear h1
        go_wp2_with fail
        go_ret
        exact ⟨ret_bool HE.out, HBW.out⟩
end Go.Proofs.Ytogjokoaghpjiaa
