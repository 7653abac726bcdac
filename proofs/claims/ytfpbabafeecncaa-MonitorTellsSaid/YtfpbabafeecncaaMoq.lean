/-
  Who holds something in a monitor: the iterator.
-/
import Derived.Test.YtfpbabafeecncaaMoo
import Derived.Test.YtfpbabafeecncaaRange
set_option linter.unusedSimpArgs false
set_option linter.unusedVariables false
namespace Go.Proofs.Ytfpbabafeecncaa
open Go Go.RowKit
attribute [local go_sem] Oper.semAt_some

def encGo (x : Int) : Array Value := #[.int .i64 x]
theorem Rd.moved {w wr : World} {sz n : Nat} {A : Option Addr} {cs : List Value} (h : Rd w w.heap.size sz A n cs) (hk : ∀ p, A = some p → 0 < n → wr.heap[p.block]? = w.heap[p.block]?) : Rd wr wr.heap.size sz A n cs := ⟨h.1, fun hn => by
  obtain ⟨b, o, e, hb, hc⟩ := h.2 hn
  have hx : wr.heap[b]? = w.heap[b]? := hk _ e hn
  refine ⟨b, o, e, ?_, fun j u hu => (cell_of_heap (p := ⟨b, o + j, none⟩) hx).trans (hc j u hu)⟩
  rw [Array.getElem?_eq_getElem hb] at hx
  exact (Array.getElem?_eq_some_iff.1 hx).1⟩
theorem holdersGo_len (e : Ent) : ∀ (l : List (List Ent)) (i : Nat), (holdersGo e i l).length ≤ l.length
  | [], _ => Nat.le_refl _
  | q :: l, i => by
    unfold holdersGo
    have := holdersGo_len e l (i + 1)
    split <;> simp <;> omega
theorem holders_snoc (e : Ent) {ts : List Hm} {k : Nat} (hk : k < ts.length) : holdersGo e 0 (rowsQ (ts.take (k + 1))) = holdersGo e 0 (rowsQ (ts.take k)) ++ (if hasE (ts.getD k hmZ).q e = true then [(k : Int)] else []) := by
  rw [takeH_succ hk]
  unfold rowsQ
  rw [List.map_append, holdersGo_append]
  have : 0 + (List.map Hm.q (ts.take k)).length = k := by rw [List.length_map, List.length_take]; omega
  rw [this]
  simp only [List.map_cons, List.map_nil, holdersGo]
theorem holders_part (e : Ent) {ts : List Hm} {k : Nat} : ∃ r, holdersGo e 0 (rowsQ (ts.take k)) ++ r = holdersGo e 0 (rowsQ ts) := by
  refine ⟨holdersGo e (0 + (rowsQ (ts.take k)).length) (rowsQ (ts.drop k)), ?_⟩
  rw [← holdersGo_append]
  unfold rowsQ
  rw [← List.map_append, List.take_append_drop]
theorem holders_any (a0 a1 a2 a3 : Option Addr) (n0 n1 n2 n3 c0 c1 c2 c3 : Nat) (s z : Int) (W : World) :
    Calls Try.prog 36 #[.agg #[.slice a0 n0 c0, .slice a1 n1 c1, .slice a2 n2 c2, .slice a3 n3 c3], .agg #[.int .i64 s, .int .u64 z]] W fun e W' => e = .returned (.func (.func 62) #[] #[.pointer (some ⟨W.heap.size, 0, none⟩), .pointer (some ⟨W.heap.size + 1, 0, none⟩)]) ∧
      RowAt W' W.heap.size 32 #[.slice a0 n0 c0, .slice a1 n1 c1, .slice a2 n2 c2, .slice a3 n3 c3] ∧ RowAt W' (W.heap.size + 1) 43 #[.int .i64 s, .int .u64 z] ∧ Below W.heap.size W W' := by
  have h1 : RowAt ((W.alloc (.cells #[.slice a0 n0 c0, .slice a1 n1 c1, .slice a2 n2 c2, .slice a3 n3 c3] 32)).alloc (.cells #[.int .i64 s, .int .u64 z] 43)) W.heap.size 32 #[.slice a0 n0 c0, .slice a1 n1 c1, .slice a2 n2 c2, .slice a3 n3 c3] := (RowAt.new W 32 _).below ((Below.refl _ _).alloc (Nat.le_refl _) _)
  have h2 : RowAt ((W.alloc (.cells #[.slice a0 n0 c0, .slice a1 n1 c1, .slice a2 n2 c2, .slice a3 n3 c3] 32)).alloc (.cells #[.int .i64 s, .int .u64 z] 43)) (W.heap.size + 1) 43 #[.int .i64 s, .int .u64 z] := by
    have h := RowAt.new (W.alloc (.cells #[.slice a0 n0 c0, .slice a1 n1 c1, .slice a2 n2 c2, .slice a3 n3 c3] 32)) 43 #[.int .i64 s, .int .u64 z]
    rw [World.size_alloc] at h; exact h
  have H1 := hide h1
  have H2 := hide h2
  clear h1 h2
  go_enter Try.func36, Try.ntmps36
  go_wp2
  go_ret
  exact ⟨rfl, H1.out, H2.out, ((Below.refl _ _).alloc (Nat.le_refl _) _).alloc (by simp) _⟩
set_option maxHeartbeats 1000000 in
theorem holders_seq (K : Nat → Prop) (ga ge : Nat) (a0 a1 a2 a3 : Option Addr) (n0 n1 n2 n3 c0 c1 c2 c3 : Nat) (ts : List Hm) (s z : Int) (w : World) (hra : RowAt w ga 32 #[.slice a0 n0 c0, .slice a1 n1 c1, .slice a2 n2 c2, .slice a3 n3 c3]) (hre : RowAt w ge 43 #[.int .i64 s, .int .u64 z])
    (hKe : K ge) (hKlt : ∀ j, K j → j < w.heap.size) (hr : RH w w.heap.size a2 n2 ts) (hKb : ∀ p, a2 = some p → 0 < n2 → K p.block) (hKq : ∀ t ∈ ts, ∀ p, t.A = some p → 0 < t.q.length → K p.block) (hq : ∀ t ∈ ts, t.q.length ≤ 4096) (hn2 : n2 ≤ 4096) :
    Seq3 Try.prog 62 #[.pointer (some ⟨ga, 0, none⟩), .pointer (some ⟨ge, 0, none⟩)] encGo K (fun ys => ys = holdersGo (s, z) 0 (rowsQ ts)) (fun pre => ∃ r, pre ++ r = holdersGo (s, z) 0 (rowsQ ts)) (fun _ => False) [] n2 w := by
  intro l J Jx W hbW hJ hJx hY h0
  have HR := hide hr
  have HRE := hide hre
  have haW := hra.below hbW
  have ha2 := (row4 haW).2.2.1
  have hal := haW.lt
  have HCW := hide (fun j (hj : K j) => hbW.block j (hKlt j hj))
  have hszW := hbW.size
  have HKB := hide hKb
  have HKQ := hide hKq
  have HKE := hide hKe
  have HKL := hide hKlt
  have HJ := hide hJ
  have HY := hide hY
  have H0 := hide h0
  have HQL := hide hq
  have HL := hide hr.len
  clear hr hre hra haW hJ hJx hY h0 hKb hKq hKe hKlt hq
  refine (callsIn_wide (n := 4)).1 (callsIn_of_wp Try.func62 rfl trivial ?_ rfl)
  simp only [Try.ntmps62, List.size_toArray, List.length_cons, List.length_nil, Nat.reduceAdd, Nat.reduceSub, Array.replicate_succ, Array.replicate_zero, List.push_toArray, List.append_toArray, List.nil_append, List.cons_append]
  gi_wp2
  gi_loopw [9] (fun i wr => ∃ k : Nat, k ≤ n2 ∧ i = .int .i64 k ∧ J (holdersGo (s, z) 0 (rowsQ (ts.take k))) wr ∧ (∀ j, K j → wr.heap[j]? = W.heap[j]?)) (fun i _ => n2 - (intOf i).toNat)
  case atStart => exact ⟨0, Nat.zero_le _, rfl, H0.out, fun _ _ => rfl⟩
  case round =>
    obtain ⟨k, hk, rfl, hj, hkeep⟩ := hrel
    have HKP := hide hkeep
    have HJk := hide hj
    clear hkeep hj
    have HEQ := hide (fun j (hj : K j) => (HKP.out j hj).trans (HCW.out j hj))
    have hre : RowAt wr ge 43 #[.int .i64 s, .int .u64 z] := (HEQ.out ge HKE.out).trans HRE.out
    have e0 := row20 hre
    have e1 := row21 hre
    have el := hre.lt
    by_cases hlt : k < n2
    · have hlx : k < ts.length := by rw [HL.out]; exact hlt
      have hrm : RH wr wr.heap.size a2 n2 ts := ⟨HR.out.rd.moved (fun p hp h0 => HEQ.out _ (HKB.out p hp h0)), HR.out.len, fun t ht => (HR.out.qs t ht).moved (fun p hp h0 => HEQ.out _ (HKQ.out t ht p hp h0))⟩
      obtain ⟨b1, o1, rfl, hb1, d0, hq⟩ := hrm.at_ hlt
      have HPL := hide (Nat.lt_of_le_of_lt (show (holdersGo (s, z) 0 (rowsQ (ts.take k))).length ≤ k from Nat.le_trans (holdersGo_len _ _ _) (by rw [rowsQ_len, List.length_take]; omega)) hlt)
      have HS := hide (holders_snoc (s, z) hlx)
      have HE := hide (holders_part (s, z) (ts := ts) (k := k + 1))
      have hqm := HQL.out _ (getH_mem hlx)
      have HJS : Hid (∀ j, K j → j < wr.heap.size) := hide (fun j hj => by
        have h3 := HEQ.out j hj
        rw [Array.getElem?_eq_getElem (HKL.out j hj)] at h3
        exact (Array.getElem?_eq_some_iff.1 h3).1)
      generalize ts.getD k hmZ = t at *
      obtain ⟨tA, tc, tq⟩ := t
      dsimp only at d0 hq HS hqm
      obtain ⟨bh, hbh⟩ : ∃ b, hasE tq (s, z) = b := ⟨_, rfl⟩
      rw [hbh] at HS
      have HC := hide (ContainsEE wr.heap.size tA tc s z tq wr hq (Nat.le_refl _) hqm bh hbh)
      clear hrm hq hre hbh hqm
      gi_wp2
      refine ⟨trivial, ((callsIn_wide (n := 3)).2 HC.out).mono ?_⟩
      rintro e w2 ⟨rfl, hb⟩
      have hJ1 : J (holdersGo (s, z) 0 (rowsQ (ts.take k))) w2 := HJ.out _ _ _ HJk.out hb
      have HK1 : Hid (∀ j, K j → w2.heap[j]? = W.heap[j]?) := hide (fun j hj => (hb.block j (HJS.out j hj)).trans (HKP.out j hj))
      clear hb e0 e1 el d0 hb1 HC
      cases bh with
      | true =>
        rw [if_pos rfl] at HS
        obtain ⟨fn, tmps, assign, body, hy, hR⟩ := HY.out _ (k : Int) _ hJ1 HPL.out
        dsimp only [encGo] at hy
        clear hJ1
        gi_wp2
        refine hR.mono ?_
        rintro e W3 (⟨rfl, hJ3, hk3⟩ | ⟨rfl, hJx3⟩)
        · rw [← HS.out] at hJ3
          have HJ3 := hide hJ3
          have HK3 : Hid (∀ j, K j → W3.heap[j]? = W.heap[j]?) := hide (fun j hj => (hk3 j hj).trans (HK1.out j hj))
          clear hJ3 hk3
          gi_wp2
          go_roundw
          case rel => exact ⟨k + 1, by omega, by go_num, HJ3.out, HK3.out⟩
          case measure => simp [intOf]; omega
        · rw [← HS.out] at hJx3
          have HJ3 := hide hJx3
          clear hJx3
          gi_wp2
          refine bodyPost_ret (results_none rfl _ _ _) rfl ?_
          exact .inl ⟨_, rfl, .inr ⟨_, HE.out, HJ3.out⟩⟩
      | false =>
        rw [if_neg (by simp), List.append_nil] at HS
        rw [← HS.out] at hJ1
        have HJ1 := hide hJ1
        clear hJ1
        gi_wp2
        refine ⟨by simp, ?_⟩
        gi_wp2
        go_roundw
        case rel => exact ⟨k + 1, by omega, by go_num, HJ1.out, HK1.out⟩
        case measure => simp [intOf]; omega
    · gi_wp2
      go_end0
      obtain rfl : k = n2 := by omega
      have h1 := HJk.out
      rw [List.take_of_length_le (by rw [HL.out]; exact Nat.le_refl _)] at h1
      exact .inl ⟨_, rfl, .inl ⟨_, rfl, h1⟩⟩
end Go.Proofs.Ytfpbabafeecncaa
