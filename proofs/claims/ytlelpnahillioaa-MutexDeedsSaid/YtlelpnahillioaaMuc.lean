/-
  Who waits, told one by one; whether mutexes may be; for which one a goroutine waits.
-/
import Derived.Test.YtlelpnahillioaaMub
import Derived.Test.YtlelpnahillioaaRange6
import Derived.Deep.Cut
set_option linter.unusedSimpArgs false
set_option linter.unusedVariables false
namespace Go.Proofs.Ytlelpnahillioaa
open Go Go.RowKit
attribute [local go_sem] via_cell via_frozen

abbrev Wt := Int × Int
def pairsX (k : Nat) (q : List Int) : List Wt := q.map fun g => ((k : Int), g)
def wtGo : Nat → Ml → List Wt
  | _, [] => []
  | k, m :: l => pairsX k m.2 ++ wtGo (k + 1) l
def wtX (l : Ml) : List Wt := wtGo 0 l
theorem wtGo_append (a b : Ml) : ∀ k, wtGo k (a ++ b) = wtGo k a ++ wtGo (k + a.length) b := by
  induction a with
  | nil => intro k; simp [wtGo]
  | cons m a ih =>
    intro k
    simp only [List.cons_append, wtGo, ih, List.length_cons, List.append_assoc]
    rw [show k + 1 + a.length = k + (a.length + 1) by omega]
theorem wtX_snoc (l : Ml) (m : Mu) : wtX (l ++ [m]) = wtX l ++ pairsX l.length m.2 := by
  unfold wtX
  rw [wtGo_append]
  simp [wtGo]
theorem wtGo_snd (l : Ml) : ∀ k, (wtGo k l).map (·.2) = flatQ l := by
  induction l with
  | nil => intro k; rfl
  | cons m l ih =>
    intro k
    simp only [wtGo, List.map_append, ih]
    have : flatQ (m :: l) = m.2 ++ flatQ l := by simp [flatQ]
    rw [this]
    simp [pairsX, Function.comp_def]
theorem pairs_find (k : Nat) (q : List Int) (g : Int) : (pairsX k q).find? (fun x => x.2 == g) = if q.contains g then some ((k : Int), g) else none := by
  induction q with
  | nil => rfl
  | cons a q ih =>
    unfold pairsX at ih ⊢
    rw [List.map_cons, List.find?_cons]
    by_cases h : a = g
    · subst h; simp
    · have h1 : (a == g) = false := by simpa using h
      have h2 : (a :: q).contains g = q.contains g := by rw [Bool.eq_iff_iff]; simp; exact fun e => absurd e.symm h
      simp only [h1, h2]; exact ih
theorem wtGo_find (l : Ml) (g : Int) : ∀ k, waitsGo k l g = match (wtGo k l).find? (fun x => x.2 == g) with | some x => x.1 | none => -1 := by
  induction l with
  | nil => intro k; rfl
  | cons m l ih =>
    intro k
    unfold waitsGo wtGo
    rw [List.find?_append, pairs_find]
    by_cases h : m.2.contains g = true
    · rw [if_pos h, if_pos h]; rfl
    · rw [if_neg h, if_neg h, ih]; rfl
theorem waits_done {l : Ml} {g : Int} (h : ∀ x ∈ wtX l, x.2 ≠ g) : waitsX l g = -1 := by
  unfold waitsX
  rw [wtGo_find]
  have : (wtGo 0 l).find? (fun x => x.2 == g) = none := by
    rw [List.find?_eq_none]
    intro x hx
    simpa using h x hx
  rw [this]
theorem waits_stop {l : Ml} {g k : Int} {pre r : List Wt} (h : ∀ x ∈ pre, x.2 ≠ g) (he : pre ++ ((k, g) :: r) = wtX l) : waitsX l g = k := by
  unfold waitsX
  rw [wtGo_find]
  have h1 : pre.find? (fun x => x.2 == g) = none := by
    rw [List.find?_eq_none]
    intro x hx
    simpa using h x hx
  have : (wtGo 0 l).find? (fun x => x.2 == g) = some (k, g) := by
    rw [show wtGo 0 l = pre ++ ((k, g) :: r) from he.symm, List.find?_append, h1]
    simp
  rw [this]
theorem wt_split {ts : List Mm} {a k : Nat} (ha : a < ts.length) (hk : k < (ts.getD a mmZ).q.length) :
    ∃ r, wtX (mus ts) = (wtX (mus (ts.take a)) ++ pairsX a ((ts.getD a mmZ).q.take k)) ++ (((a : Int), (ts.getD a mmZ).q.getD k 0) :: r) := by
  have h1 : mus ts = (mus (ts.take a) ++ [(ts.getD a mmZ).mu]) ++ mus (ts.drop (a + 1)) := by
    have e : ts = ts.take (a + 1) ++ ts.drop (a + 1) := (List.take_append_drop _ _).symm
    rw [takeM_succ ha] at e
    have : mus ts = mus ((ts.take a ++ [ts.getD a mmZ]) ++ ts.drop (a + 1)) := by rw [← e]
    rw [this]; simp [mus]
  have hl : (mus (ts.take a)).length = a := by rw [mus_len, List.length_take]; omega
  have h2 : (ts.getD a mmZ).q = (ts.getD a mmZ).q.take k ++ ((ts.getD a mmZ).q.getD k 0 :: (ts.getD a mmZ).q.drop (k + 1)) := by
    have e : (ts.getD a mmZ).q.getD k 0 = (ts.getD a mmZ).q[k] := by rw [List.getD_eq_getElem?_getD, List.getElem?_eq_getElem hk]; rfl
    rw [e]
    exact (List.take_append_drop k _).symm.trans (by rw [List.drop_eq_getElem_cons hk])
  unfold wtX
  rw [h1, wtGo_append, wtGo_append, hl]
  simp only [Nat.zero_add, wtGo, List.append_nil]
  have h3 : pairsX a (ts.getD a mmZ).mu.2 = pairsX a ((ts.getD a mmZ).q.take k) ++ (((a : Int), (ts.getD a mmZ).q.getD k 0) :: pairsX a ((ts.getD a mmZ).q.drop (k + 1))) := by
    show pairsX a (ts.getD a mmZ).q = _
    have : pairsX a (ts.getD a mmZ).q = pairsX a ((ts.getD a mmZ).q.take k ++ ((ts.getD a mmZ).q.getD k 0 :: (ts.getD a mmZ).q.drop (k + 1))) := by rw [← h2]
    rw [this]; simp [pairsX]
  rw [h3]
  refine ⟨pairsX a ((ts.getD a mmZ).q.drop (k + 1)) ++ wtGo (mus (ts.take a) ++ [(ts.getD a mmZ).mu]).length (mus (ts.drop (a + 1))), ?_⟩
  simp only [List.append_assoc, List.cons_append]
theorem pairs_take {q : List Int} {a k : Nat} (hk : k < q.length) : pairsX a (q.take (k + 1)) = pairsX a (q.take k) ++ [((a : Int), q.getD k 0)] := by
  unfold pairsX
  rw [List.take_succ_eq_append_getElem hk, List.map_append, List.getD_eq_getElem?_getD, List.getElem?_eq_getElem hk]
  rfl
theorem wt_next {ts : List Mm} {a : Nat} (ha : a < ts.length) : wtX (mus (ts.take (a + 1))) = wtX (mus (ts.take a)) ++ pairsX a (ts.getD a mmZ).q := by
  have h : mus (ts.take (a + 1)) = mus (ts.take a) ++ [(ts.getD a mmZ).mu] := by rw [takeM_succ ha]; simp [mus]
  rw [h, wtX_snoc]
  rw [mus_len, List.length_take, Nat.min_eq_left (by omega)]
  rfl

theorem waiting_any (A : Option Addr) (m c : Nat) (W : World) :
    Calls Try.prog 47 #[.slice A m c] W fun e W' => e = .returned (.func (.func 57) #[] #[.pointer (some ⟨W.heap.size, 0, none⟩)]) ∧
      RowAt W' W.heap.size 22 #[.slice A m c] ∧ Below W.heap.size W W' := by
  have H1 := hide (RowAt.new W 22 #[.slice A m c])
  go_enter Try.func47, Try.ntmps47
  go_wp2
  go_ret
  exact ⟨rfl, H1.out, (Below.refl _ _).alloc (Nat.le_refl _) _⟩
/-- What the iterator tells. -/
def encW (x : Wt) : Array Value := #[.int .i64 x.1, .int .i64 x.2]
set_option maxHeartbeats 4000000 in
theorem waiting_seq (B gp n1 : Nat) (A : Option Addr) (m c : Nat) (ts : List Mm) (w : World) (hk : RowAt w gp 22 #[.slice A m c]) (hr : RM w B A m ts) (hB : B ≤ w.heap.size) (hs : SmallM ts) :
    Seq6 Try.prog 57 #[.pointer (some ⟨gp, 0, none⟩)] encW (fun j => j < B) (fun ys => ys = wtX (mus ts)) (fun pre => ∃ r, pre ++ r = wtX (mus ts)) (fun _ => False) [] (wtX (mus ts)).length n1 0 (fun x => x ∈ wtX (mus ts)) w := by
  intro lo J Jx W hbW hn1 hJ hJx hY h0
  have HR := hide (hr.below (hbW.mono hB))
  have hrow := hk.below hbW
  have kc0 := row1 hrow
  have hkl := hrow.lt
  have hszW : B ≤ W.heap.size := Nat.le_trans hB hbW.size
  have HJ := hide hJ
  have HY := hide hY
  have H0 := hide h0
  have HS := hide hs
  have HL := hide hr.len
  have hm : m ≤ 4096 := by have := hs.1; have := hr.len; omega
  clear hr hk hJ hJx hY h0 hs hrow hn1
  refine (callsIn_wide (n := 4)).1 (callsIn_of_wp Try.func57 rfl trivial ?_ rfl)
  simp only [Try.ntmps57, List.size_toArray, List.length_cons, List.length_nil, Nat.reduceAdd, Nat.reduceSub, Array.replicate_succ, Array.replicate_zero, List.push_toArray, List.append_toArray, List.nil_append, List.cons_append]
  refine wpIn_wide.2 ?_
  go_wp2_with fail
  go_loopw [9] (fun i wr => ∃ (a : Nat), a ≤ m ∧ i = .int .i64 (a : Int) ∧ J (wtX (mus (ts.take a))) wr ∧ W.heap.size ≤ wr.heap.size ∧ (∀ j, j < B → wr.heap[j]? = W.heap[j]?)) (fun i _ => m - (intOf i).toNat)
  case atStart => exact ⟨0, Nat.zero_le _, rfl, by simpa [mus, wtX, wtGo] using H0.out, Nat.le_refl _, fun j hj => rfl⟩
  case round =>
    obtain ⟨a, ha, rfl, hj, hsz, hkeep⟩ := hrel
    have HJk := hide hj
    have HSZ := hide hsz
    have HKP := hide hkeep
    clear hj hsz hkeep
    by_cases hlt : a < m
    · have hlx : a < ts.length := by rw [HL.out]; exact hlt
      obtain ⟨b, o, rfl, hb, d0, d1, hq⟩ := (HR.out.keep HKP.out).at_ hlt
      have hbl : b < wr.heap.size := Nat.lt_of_lt_of_le hb (Nat.le_trans hszW HSZ.out)
      have hkm : (a : Int) < (m : Int) := by omega
      have hql := HS.out.2 _ (getM_mem hlx)
      have HNX := hide (wt_next hlx)
      have HSPL := hide (fun k => wt_split (k := k) hlx)
      generalize ts.getD a mmZ = t at *
      obtain ⟨who, tA, tc, tq⟩ := t
      dsimp only at *
      obtain ⟨tn, htn⟩ : ∃ n, tq.length = n := ⟨_, rfl⟩
      rw [htn] at d1 hq hql
      have HTN := hide htn
      clear htn
      have HBN := hide (show Below wr.heap.size wr (wr.alloc (.cells #[.int .i64 who, .slice tA tn tc] 47)) from (Below.refl _ _).alloc (Nat.le_refl _) _)
      have HJ1 := hide (HJ.out _ _ _ HJk.out HBN.out)
      have HQ := hide (hq.below (HBN.out.mono (Nat.le_trans hszW HSZ.out)))
      have HRN := hide (RowAt.new wr 47 #[.int .i64 who, .slice tA tn tc])
      have HKP1 := hide (fun j (hj : j < B) => (HBN.out.block j (Nat.lt_of_lt_of_le hj (Nat.le_trans hszW HSZ.out))).trans (HKP.out j hj))
      have HSZ1 := hide (Nat.le_trans HSZ.out HBN.out.size)
      clear hb hq
      go_upto_region 3 with (fail)
      generalize wr.alloc (.cells #[.int .i64 who, .slice tA tn tc] 47) = w2 at *
      have e1 := row21 HRN.out
      have el := HRN.out.lt
      go_wp2_with fail
      go_loopw [17] (fun i wr2 => ∃ (k : Nat), k ≤ tn ∧ i = .int .i64 (k : Int) ∧ J (wtX (mus (ts.take a)) ++ pairsX a (tq.take k)) wr2 ∧ W.heap.size ≤ wr2.heap.size ∧ (∀ j, j < B → wr2.heap[j]? = W.heap[j]?)) (fun i _ => tn - (intOf i).toNat)
      case atStart => exact ⟨0, Nat.zero_le _, rfl, by simpa [pairsX] using HJ1.out, HSZ1.out, HKP1.out⟩
      case round =>
        obtain ⟨k, hk, rfl, hj, hsz, hkeep⟩ := hrel
        have HJ2 := hide hj
        have HSZ2 := hide hsz
        have HKP2 := hide hkeep
        clear hj hsz hkeep
        by_cases hlt2 : k < tn
        · have hlx2 : k < tq.length := by rw [HTN.out]; exact hlt2
          obtain ⟨b2, o2, rfl, hb2, q0⟩ := (HQ.out.keep (w' := wr) (fun p hp => cell_of_heap ((HKP2.out _ hp).trans (HKP1.out _ hp).symm))).numD HTN.out hlt2
          have hbl2 : b2 < wr.heap.size := Nat.lt_of_lt_of_le hb2 (Nat.le_trans hszW HSZ2.out)
          have hkm2 : (k : Int) < (tn : Int) := by omega
          obtain ⟨rest, hsp⟩ := HSPL.out k hlx2
          have HSP := hide hsp
          have HTK := hide (pairs_take (a := a) hlx2)
          obtain ⟨x, hxx⟩ : ∃ x, tq.getD k 0 = x := ⟨_, rfl⟩
          rw [hxx] at q0 HSP HTK
          clear hxx hsp hb2
          obtain ⟨fn, tmps, assign, body, hy, hR⟩ := HY.out _ ((a : Int), x) _ HJ2.out (by rw [HSP.out]; simp) (by rw [HSP.out]; simp) (Nat.zero_le _)
          dsimp only [encW] at hy
          have HRR := hide hR
          clear hR
          go_upto_region 6 with (fail)
          refine (wpIn_wide (n := 4)).1 ?_
          gi_wp2
          refine HRR.out.mono ?_
          rintro e W3 (⟨rfl, hJ3, hz3, hk3⟩ | ⟨rfl, hJx3⟩)
          · have HJ3 := hide (show J (wtX (mus (ts.take a)) ++ pairsX a (tq.take (k + 1))) W3 from by rw [HTK.out, ← List.append_assoc]; exact hJ3)
            have HKP4 := hide (fun j (hj : j < B) => (hk3 j hj (by have := HSZ2.out; omega)).trans (HKP2.out j hj))
            have HSZ4 := hide (Nat.le_trans HSZ2.out hz3)
            clear hJ3 hk3 hz3
            gi_wp2
            go_wp2_with fail
            go_roundw
            case rel => exact ⟨k + 1, by omega, by go_num, HJ3.out, HSZ4.out, HKP4.out⟩
            case measure => simp [intOf]; omega
          · have HJ4 := hide hJx3
            have HF := hide (show ∃ r, (wtX (mus (ts.take a)) ++ pairsX a (tq.take k) ++ [((a : Int), x)]) ++ r = wtX (mus ts) from ⟨rest, by rw [HSP.out]; simp⟩)
            clear hJx3
            gi_wp2
            go_wp2_with fail
            refine bodyPost_ret (results_none rfl _ _ _) rfl ?_
            exact .inl ⟨_, rfl, .inr ⟨_, HF.out, HJ4.out⟩⟩
        · obtain rfl : k = tn := by omega
          have HJ3 := hide (show J (wtX (mus (ts.take (a + 1)))) wr from by
            rw [HNX.out]
            have := HJ2.out
            rwa [List.take_of_length_le (l := tq) (by rw [HTN.out]; exact Nat.le_refl _)] at this)
          go_wp2_with fail
          go_roundw
          case rel => exact ⟨a + 1, by omega, by go_num, HJ3.out, HSZ2.out, HKP2.out⟩
          case measure => simp [intOf]; omega
    · obtain rfl : a = m := by omega
      have HF := hide (show mus (ts.take a) = mus ts from by rw [List.take_of_length_le (by rw [HL.out]; exact Nat.le_refl _)])
      go_wp2_with fail
      go_end0
      refine .inl ⟨_, rfl, .inl ⟨_, rfl, ?_⟩⟩
      rw [← HF.out]
      exact HJk.out
end Go.Proofs.Ytlelpnahillioaa
