/-
  Laps: the reference's. Parts of turns.
-/
import Derived.Test.YtogjokoaghpjiaaPko
set_option linter.unusedSimpArgs false
set_option linter.unusedVariables false
namespace Go.Proofs.Ytogjokoaghpjiaa
open Go Go.RowKit
attribute [local go_sem] via_cell via_frozen

theorem RT.seg {w : World} {B m : Nat} {b o : Nat} {ts : List Tm} (h : RT w B (some ⟨b, o, none⟩) m ts) {f k : Nat} (hk : f + k ≤ m) : RT w B (some ⟨b, o + f * 2, none⟩) k ((ts.drop f).take k) := by
  have hl := h.len
  have hlen : ((ts.drop f).take k).length = k := by rw [List.length_take, List.length_drop]; omega
  refine ⟨⟨by rw [Cs_length encT_len, hlen], fun h0 => ?_⟩, hlen, fun t ht => h.cans t (List.mem_of_mem_drop (List.mem_of_mem_take ht))⟩
  obtain ⟨b', o', e, hb, hc⟩ := h.rd.2 (by omega)
  injection e with e
  injection e with e1 e2
  subst e1; subst e2
  refine ⟨b, o + f * 2, rfl, hb, fun j u hu => ?_⟩
  rw [Nat.add_assoc]
  apply hc
  have h1 := Cs_append (enc := encT) (ts.take f) ((ts.drop f).take k ++ (ts.drop f).drop k)
  have h3 := Cs_append (enc := encT) ((ts.drop f).take k) ((ts.drop f).drop k)
  rw [List.take_append_drop] at h1 h3
  rw [List.take_append_drop, h3] at h1
  have h2 : (Cs encT (ts.take f)).length = f * 2 := by rw [Cs_length encT_len, List.length_take]; omega
  rw [h1, List.getElem?_append_right (by omega), h2, Nat.add_sub_cancel_left, List.getElem?_append_left (List.getElem?_eq_some_iff.1 hu).1]
  exact hu
theorem SmallT.seg {ts : List Tm} (h : SmallT ts) (f k : Nat) : SmallT ((ts.drop f).take k) :=
  ⟨by have := h.1; rw [List.length_take, List.length_drop]; omega, fun t ht => h.2 t (List.mem_of_mem_drop (List.mem_of_mem_take ht))⟩
theorem tns_drop (ts : List Tm) (k : Nat) : tns (ts.drop k) = (tns ts).drop k := List.map_drop
theorem lapsGo_le (n : Nat) : ∀ (l seg : List Tn), lapsGo n seg l ≤ l.length := by
  intro l
  induction l with
  | nil => intro seg; simp [lapsGo]
  | cons t l ih =>
    intro seg
    unfold lapsGo
    split
    · have := ih []; simp; omega
    · have := ih (seg ++ [t]); simp; omega
set_option maxHeartbeats 1000000 in
theorem rlaps_any (B : Nat) (A : Option Addr) (c m n : Nat) (ts : List Tm) (W : World) (h : RT W B A m ts) (hc : m ≤ c) (hB : B ≤ W.heap.size) (hs : SmallT ts) (hn : n ≤ 8) (r : Int) (hr : ((lapsX n (tns ts) : Nat) : Int) = r) :
    Calls Try.prog 28 #[.int .i64 n, .slice A m c] W fun e W' => e = .returned (.int .i64 r) ∧ Below W.heap.size W W' := by
  have H := hide h
  have HS := hide hs
  have HL := hide h.len
  have HR := hide hr
  have hm : m ≤ 4096 := by have := hs.1; have := h.len; omega
  clear h hs hr
  go_enter Try.func28, Try.ntmps28
  go_wp2_with fail
  go_loopw [5, 6, 10] (fun sm sf i wr => ∃ (k fr many : Nat), k ≤ m ∧ fr ≤ k ∧ many ≤ k ∧ sm = .int .i64 many ∧ sf = .int .i64 fr ∧ i = .int .i64 k ∧ lapsX n (tns ts) = many + lapsGo n (tns ((ts.drop fr).take (k - fr))) ((tns ts).drop k) ∧ Below W.heap.size W wr) (fun _ _ i _ => m - (intOf i).toNat)
  case atStart => exact ⟨0, 0, 0, Nat.zero_le _, Nat.zero_le _, Nat.zero_le _, rfl, rfl, rfl, by simp [lapsX, tns], Below.refl _ _⟩
  case round =>
    obtain ⟨k, fr, many, hk, hfk, hmk, rfl, rfl, rfl, hx, hbw⟩ := hrel
    have HX := hide hx
    have HBW := hide hbw
    clear hx hbw
    by_cases hlt : k < m
    · have hlx : k < ts.length := by rw [HL.out]; exact hlt
      obtain ⟨b, o, rfl, hb, _⟩ := (H.out.below (HBW.out.mono hB)).at_ hlx
      have hkm : (k : Int) < (m : Int) := by omega
      have hs1 : (fr : Int) ≤ (k : Int) + 1 := by omega
      have hs2 : (k : Int) + 1 ≤ (c : Int) := by omega
      have hcf : ¬ c = fr := by omega
      have HSEG := hide (show (ts.drop fr).take (k + 1 - fr) = (ts.drop fr).take (k - fr) ++ [ts[k]] from by
        rw [show k + 1 - fr = (k - fr) + 1 by omega, List.take_succ_eq_append_getElem (by rw [List.length_drop]; omega), List.getElem_drop]
        congr 2
        congr 1
        omega)
      have HDR := hide (show (tns ts).drop k = ts[k].tn :: (tns ts).drop (k + 1) from by
        rw [List.drop_eq_getElem_cons (by rw [tns_len]; exact hlx)]; simp [tns])
      obtain ⟨q, hq⟩ : ∃ q, lapB n (tns ((ts.drop fr).take (k + 1 - fr))) = q := ⟨_, rfl⟩
      have HC := hide (lap_any B (some ⟨b, o + fr * 2, none⟩) (c - fr) (k + 1 - fr) n ((ts.drop fr).take (k + 1 - fr)) wr ((H.out.below (HBW.out.mono hB)).seg (by omega)) (Nat.le_trans hB HBW.out.size) (HS.out.seg _ _) hn q hq)
      have HQ := hide (show lapB n (tns ((ts.drop fr).take (k - fr)) ++ [ts[k].tn]) = q from by
        have h := hq
        rw [HSEG.out] at h
        rw [← h]; simp [tns])
      have HT2 := hide (show tns ((ts.drop fr).take (k + 1 - fr)) = tns ((ts.drop fr).take (k - fr)) ++ [ts[k].tn] from by rw [HSEG.out]; simp [tns])
      clear hq hb
      have hne : (((k : Int) + 1).toNat - fr) = k + 1 - fr := by omega
      have hmI : (many : Int) ≤ 4096 := by omega
      go_wp2_with fail
      with_reducible refine HC.out.mono ?_
      rintro e w2 ⟨rfl, hb2⟩
      have HBE := hide (HBW.out.trans (hb2.mono HBW.out.size))
      clear hb2
      cases q
      · have HN := hide (show lapsX n (tns ts) = many + lapsGo n (tns ((ts.drop fr).take (k + 1 - fr))) ((tns ts).drop (k + 1)) from by
          rw [HX.out, HDR.out, lapsGo, HQ.out, HT2.out]; simp)
        go_wp2_with fail
        go_roundw
        case rel => exact ⟨k + 1, fr, many, by omega, by omega, by omega, rfl, rfl, by go_num, HN.out, HBE.out⟩
        case measure => simp [intOf]; omega
      · have HN := hide (show lapsX n (tns ts) = (many + 1) + lapsGo n (tns ((ts.drop (k + 1)).take (k + 1 - (k + 1)))) ((tns ts).drop (k + 1)) from by
          rw [HX.out, HDR.out, lapsGo, HQ.out]; simp [tns]; omega)
        go_wp2_with fail
        go_roundw
        case rel => exact ⟨k + 1, k + 1, many + 1, by omega, by omega, by omega, by go_num, by go_num, by go_num, HN.out, HBE.out⟩
        case measure => simp [intOf]; omega
    · have HF := hide (show (many : Int) = r from by
        have h := HX.out
        have h9 : (tns ts).drop k = [] := List.drop_of_length_le (by rw [tns_len, HL.out]; omega)
        rw [h9] at h
        rw [← HR.out, h]; simp [lapsGo])
      go_wp2_with fail
      go_ret
      exact ⟨ret_int HF.out, HBW.out⟩
end Go.Proofs.Ytogjokoaghpjiaa
