/-
  The program's: the iterator over the marks of a cell; the last of them; what the cell held.
-/
import Derived.Test.YtadgihmokmfejaaCei
import Derived.Test.YtadgihmokmfejaaRange
set_option linter.unusedSimpArgs false
set_option linter.unusedVariables false
namespace Go.Proofs.Ytadgihmokmfejaa
open Go Go.RowKit
attribute [local go_sem] Oper.semAt_some

def encK (m : Mk) : Array Value := #[.agg #[.int .i64 m.1, .int .i64 m.2.1, .int .u64 m.2.2.1, .int .u64 m.2.2.2]]
def ofL (ms : List Mk) (at_ : Int) : List Mk := ms.filter (fun m => m.2.1 == at_)
theorem ofL_snoc (ms : List Mk) (at_ : Int) (k : Nat) (hk : k < ms.length) : ofL (ms.take (k + 1)) at_ = ofL (ms.take k) at_ ++ if ms[k].2.1 = at_ then [ms[k]] else [] := by
  unfold ofL
  rw [List.take_succ_eq_append_getElem hk, List.filter_append]
  congr 1
  by_cases h : ms[k].2.1 = at_ <;> simp [h]
theorem ofL_length (ms : List Mk) (at_ : Int) : (ofL ms at_).length ≤ ms.length := List.length_filter_le _ _
def lastP (pre : List Mk) : Int × Bool := pre.foldl (fun _ m => (m.1, true)) (0, false)
def held1P (out : List Int) (m : Mk) : List Int := (if out.length = 0 then [m.2.2.1] else out) ++ [m.2.2.2]
def heldP (pre : List Mk) : List Int := pre.foldl held1P []
theorem lastP_snoc (pre : List Mk) (m : Mk) : lastP (pre ++ [m]) = (m.1, true) := by simp [lastP]
theorem heldP_snoc (pre : List Mk) (m : Mk) : heldP (pre ++ [m]) = held1P (heldP pre) m := by simp [heldP]
theorem lastP_all (ms : List Mk) (at_ : Int) : lastP (ofL ms at_) = lastX ms at_ := by
  unfold lastP lastX ofL
  generalize ((0 : Int), false) = b
  induction ms generalizing b with
  | nil => rfl
  | cons m ms ih =>
    rw [List.filter_cons]
    by_cases h : m.2.1 = at_
    · simp only [h, beq_self_eq_true, if_true, List.foldl_cons, last1]; exact ih _
    · have h2 : (m.2.1 == at_) = false := by simpa using h
      simp only [h2, List.foldl_cons, last1, if_neg h]; exact ih _
theorem heldP_all (ms : List Mk) (at_ : Int) : heldP (ofL ms at_) = heldX ms at_ := by
  unfold heldP heldX ofL
  generalize ([] : List Int) = b
  induction ms generalizing b with
  | nil => rfl
  | cons m ms ih =>
    rw [List.filter_cons]
    by_cases h : m.2.1 = at_
    · simp only [h, beq_self_eq_true, if_true, List.foldl_cons, held1]; exact ih _
    · have h2 : (m.2.1 == at_) = false := by simpa using h
      simp only [h2, List.foldl_cons, held1, if_neg h]; exact ih _
theorem heldP_length (pre : List Mk) : (heldP pre).length ≤ 2 * pre.length := by
  have h : ∀ (l : List Mk) (o : List Int), (l.foldl held1P o).length ≤ o.length + 2 * l.length := by
    intro l
    induction l with
    | nil => intro o; simp
    | cons m l ih =>
      intro o
      have h1 := ih (held1P o m)
      have h2 : (held1P o m).length ≤ o.length + 2 := by
        unfold held1P
        split <;> simp
      simp only [List.foldl_cons, List.length_cons]; omega
  simpa [heldP] using h pre []

theorem of_any (A : Option Addr) (c n : Nat) (at_ : Int) (W : World) :
    Calls Try.prog 41 #[.slice A n c, .int .i64 at_] W fun x W' => x = .returned (.func (.func 48) #[] #[.pointer (some ⟨W.heap.size, 0, none⟩), .pointer (some ⟨W.heap.size + 1, 0, none⟩)]) ∧
      RowAt W' W.heap.size 46 #[.slice A n c] ∧ RowAt W' (W.heap.size + 1) 3 #[.int .i64 at_] ∧ Below W.heap.size W W' := by
  have H1 := hide ((RowAt.new W 46 #[.slice A n c]).below ((Below.refl _ _).alloc (Nat.le_refl _) (.cells #[.int .i64 at_] 3)))
  have H2 := hide (show RowAt ((W.alloc (.cells #[.slice A n c] 46)).alloc (.cells #[.int .i64 at_] 3)) (W.heap.size + 1) 3 #[.int .i64 at_] from by
    have h := RowAt.new (W.alloc (.cells #[.slice A n c] 46)) 3 #[.int .i64 at_]
    rw [World.size_alloc] at h
    exact h)
  go_enter Try.func41, Try.ntmps41
  go_wp2
  go_ret
  exact ⟨rfl, H1.out, H2.out, ((Below.refl _ _).alloc (Nat.le_refl _) _).alloc (by simp) _⟩

set_option maxHeartbeats 2000000 in
theorem of_seq (K : Nat → Prop) (gm ga : Nat) (A : Option Addr) (c : Nat) (ms : List Mk) (at_ : Int) (w : World) (hm : RowAt w gm 46 #[.slice A ms.length c]) (ha : RowAt w ga 3 #[.int .i64 at_])
    (hKlt : ∀ j, K j → j < w.heap.size) (hr : Rd w w.heap.size 4 A ms.length (Cs encM ms)) (hKb : ∀ p, A = some p → 0 < ms.length → K p.block) (hKa : K ga) (hl : ms.length ≤ 4096) :
    Seq3 Try.prog 48 #[.pointer (some ⟨gm, 0, none⟩), .pointer (some ⟨ga, 0, none⟩)] encK K (fun ys => ys = ofL ms at_) (fun pre => ∃ r, pre ++ r = ofL ms at_) (fun _ => False) [] ms.length w := by
  intro l J Jx W hbW hJ hJx hY h0
  have HR := hide hr
  have hmW := row1 (hm.below hbW)
  have hml := (hm.below hbW).lt
  have haW := ha.below hbW
  have HCW := hide (fun j (hj : K j) => hbW.block j (hKlt j hj))
  have HKW := hide (fun j (hj : K j) => Nat.lt_of_lt_of_le (hKlt j hj) hbW.size)
  have HAW := hide haW
  have HKA := hide hKa
  have HKB := hide hKb
  have HJ := hide hJ
  have HJX := hide hJx
  have HY := hide hY
  have H0 := hide h0
  clear hr hm ha hJ hJx hY h0 hKb hKlt haW hKa
  refine (callsIn_wide (n := 4)).1 (callsIn_of_wp Try.func48 rfl trivial ?_ rfl)
  simp only [Try.ntmps48, List.size_toArray, List.length_cons, List.length_nil, Nat.reduceAdd, Nat.reduceSub, Array.replicate_succ, Array.replicate_zero, List.push_toArray, List.append_toArray, List.nil_append, List.cons_append]
  gi_wp2
  gi_loopw [8] (fun i wr => ∃ k : Nat, k ≤ ms.length ∧ i = .int .i64 k ∧ J (ofL (ms.take k) at_) wr ∧ (∀ j, K j → wr.heap[j]? = W.heap[j]?)) (fun i _ => ms.length - (intOf i).toNat)
  case atStart => exact ⟨0, Nat.zero_le _, rfl, H0.out, fun _ _ => rfl⟩
  case round =>
    obtain ⟨k, hk, rfl, hj, hkeep⟩ := hrel
    have HKP := hide hkeep
    have HJk := hide hj
    clear hkeep hj
    by_cases hlt : k < ms.length
    · obtain ⟨b, o, rfl, hb, m, hm, d0, d1, d2, d3⟩ := HR.out.mark rfl hlt
      have hKb1 := HKB.out _ rfl (by omega)
      have hbh : wr.heap[b]? = w.heap[b]? := (HKP.out b hKb1).trans (HCW.out b hKb1)
      have hmk : ms[k] = m := by rw [List.getElem?_eq_getElem hlt] at hm; injection hm
      replace d0 := (cell_of_heap (p := ⟨b, o + k * 4, none⟩) hbh).trans d0
      replace d1 := (cell_of_heap (p := ⟨b, o + k * 4 + 1, none⟩) hbh).trans d1
      replace d2 := (cell_of_heap (p := ⟨b, o + k * 4 + 2, none⟩) hbh).trans d2
      replace d3 := (cell_of_heap (p := ⟨b, o + k * 4 + 3, none⟩) hbh).trans d3
      have hb1r : b < wr.heap.size := by
        rw [Array.getElem?_eq_getElem hb] at hbh
        exact (Array.getElem?_eq_some_iff.1 hbh).1
      have hra : RowAt wr ga 3 #[.int .i64 at_] := (HKP.out ga HKA.out).trans HAW.out
      have a0 := row1 hra
      have al := hra.lt
      have HL := hide (Nat.le_trans (ofL_length (ms.take k) at_) (List.length_take_le _ _))
      have HS := hide (ofL_snoc ms at_ k hlt)
      rw [hmk] at HS
      have HE := hide (show ofL ms at_ = ofL (ms.take (k + 1)) at_ ++ ofL (ms.drop (k + 1)) at_ by
        unfold ofL; rw [← List.filter_append, List.take_append_drop])
      have HKP1 : Hid (∀ (o : Obj) j, K j → (wr.alloc o).heap[j]? = W.heap[j]?) := hide (fun o j hj => by
        have hjw : j < wr.heap.size := by
          have h1 := HKP.out j hj
          rw [Array.getElem?_eq_getElem (HKW.out j hj)] at h1
          exact (Array.getElem?_eq_some_iff.1 h1).1
        exact (Below.heap_alloc _ _ _ hjw).trans (HKP.out j hj))
      have HJ1 := hide (HJ.out _ _ _ HJk.out ((Below.refl _ wr).alloc (Nat.le_refl _) (.cells #[.int .i64 m.1, .int .i64 m.2.1, .int .u64 m.2.2.1, .int .u64 m.2.2.2] 57)))
      clear hm hbh hmk hb hra
      by_cases hs : m.2.1 = at_
      · rw [if_pos hs] at HS
        have hs2 : (m.2.1 == at_) = true := by simpa using hs
        obtain ⟨fn, tmps, assign, body, hy, hR⟩ := HY.out (ofL (ms.take k) at_) m _ HJ1.out (Nat.lt_of_le_of_lt HL.out hlt)
        dsimp only [encK] at hy
        clear hs
        gi_wp2
        refine hR.mono ?_
        rintro e W3 (⟨rfl, hJ3, hk3⟩ | ⟨rfl, hJx3⟩)
        · rw [← HS.out] at hJ3
          have HJ3 := hide hJ3
          have HK3 : Hid (∀ j, K j → W3.heap[j]? = W.heap[j]?) := hide (fun j hj => (hk3 j hj).trans (HKP1.out _ j hj))
          clear hJ3 hk3
          gi_wp2
          go_roundw
          case rel => exact ⟨k + 1, by omega, by go_num, HJ3.out, HK3.out⟩
          case measure => simp [intOf]; omega
        · rw [← HS.out] at hJx3
          have HJ3 := hide hJx3
          clear hJx3
          gi_wp2
          refine bodyPost_ret (results_none rfl _ _ _) rfl ?_
          exact .inl ⟨_, rfl, .inr ⟨_, ⟨_, HE.out.symm⟩, HJ3.out⟩⟩
      · rw [if_neg hs, List.append_nil] at HS
        have hbe : (m.2.1 == at_) = false := by simpa using hs
        have HJ2 := HJ1
        rw [← HS.out] at HJ2
        clear hs
        gi_wp2
        refine ⟨by simp, ?_⟩
        gi_wp2
        go_roundw
        case rel => exact ⟨k + 1, by omega, by go_num, HJ2.out, HKP1.out _⟩
        case measure => simp [intOf]; omega
    · gi_wp2
      go_end0
      obtain rfl : k = ms.length := by omega
      have h1 := HJk.out
      rw [List.take_length] at h1
      exact .inl ⟨_, rfl, .inl ⟨_, rfl, h1⟩⟩
end Go.Proofs.Ytadgihmokmfejaa
