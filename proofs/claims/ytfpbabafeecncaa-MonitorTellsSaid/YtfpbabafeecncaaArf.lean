/-
  Arenas: the iterator over the entries of a tag; all of them gathered.
-/
import Derived.Test.YtfpbabafeecncaaAre
import Derived.Test.YtfpbabafeecncaaRange
set_option linter.unusedSimpArgs false
set_option linter.unusedVariables false
namespace Go.Proofs.Ytfpbabafeecncaa
open Go Go.RowKit
attribute [local go_sem] Oper.semAt_some

def encEv (x : Int × Int) : Array Value := #[.agg #[.int .i64 x.1, .int .u64 x.2]]

theorem tagged_any (A : Option Addr) (c n : Nat) (tag : Int) (W : World) :
    Calls Try.prog 95 #[.agg #[.slice A n c], .int .i64 tag] W fun e W' => e = .returned (.func (.func 96) #[] #[.pointer (some ⟨W.heap.size, 0, none⟩), .pointer (some ⟨W.heap.size + 1, 0, none⟩)]) ∧
      RowAt W' W.heap.size 27 #[.slice A n c] ∧ RowAt W' (W.heap.size + 1) 3 #[.int .i64 tag] ∧ Below W.heap.size W W' := by
  have h1 : RowAt ((W.alloc (.cells #[.slice A n c] 27)).alloc (.cells #[.int .i64 tag] 3)) W.heap.size 27 #[.slice A n c] := (RowAt.new W 27 _).below ((Below.refl _ _).alloc (Nat.le_refl _) _)
  have h2 : RowAt ((W.alloc (.cells #[.slice A n c] 27)).alloc (.cells #[.int .i64 tag] 3)) (W.heap.size + 1) 3 #[.int .i64 tag] := by
    have h := RowAt.new (W.alloc (.cells #[.slice A n c] 27)) 3 #[.int .i64 tag]
    rw [World.size_alloc] at h; exact h
  have H1 := hide h1
  have H2 := hide h2
  clear h1 h2
  go_enter Try.func95, Try.ntmps95
  go_wp2
  go_ret
  exact ⟨rfl, H1.out, H2.out, ((Below.refl _ _).alloc (Nat.le_refl _) _).alloc (by simp) _⟩

theorem tagged_seq (K : Nat → Prop) (ga gt : Nat) (A : Option Addr) (c : Nat) (tag : Int) (xs : List (Int × Int)) (w : World) (hk : w.cell? ⟨ga, 0, none⟩ = some (.slice A xs.length c)) (ht : w.cell? ⟨gt, 0, none⟩ = some (.int .i64 tag)) (hga : ga < w.heap.size) (hgt : gt < w.heap.size)
    (hKt : K gt) (hKlt : ∀ j, K j → j < w.heap.size) (hr : Rd w w.heap.size 2 A xs.length (Cs encE xs)) (hKb : ∀ p, A = some p → 0 < xs.length → K p.block) (hl : xs.length ≤ 4096) :
    Seq3 Try.prog 96 #[.pointer (some ⟨ga, 0, none⟩), .pointer (some ⟨gt, 0, none⟩)] encEv K (fun ys => ys = ents xs tag) (fun pre => ∃ r, pre ++ r = ents xs tag) (fun _ => False) [] xs.length w := by
  intro l J Jx W hbW hJ hJx hY h0
  have HR := hide hr
  have hkW := kept hbW hk
  have HCW := hide (fun j (hj : K j) => hbW.block j (hKlt j hj))
  have HTW := hide ht
  have hszW := hbW.size
  have HKB := hide hKb
  have HKT := hide hKt
  have HKL := hide hKlt
  have HJ := hide hJ
  have HY := hide hY
  have H0 := hide h0
  clear hr hk ht hJ hJx hY h0 hKb hKt hKlt
  refine (callsIn_wide (n := 4)).1 (callsIn_of_wp Try.func96 rfl trivial ?_ rfl)
  simp only [Try.ntmps96, List.size_toArray, List.length_cons, List.length_nil, Nat.reduceAdd, Nat.reduceSub, Array.replicate_succ, Array.replicate_zero, List.push_toArray, List.append_toArray, List.nil_append, List.cons_append]
  gi_wp2
  gi_loopw [9] (fun i wr => ∃ k : Nat, k ≤ xs.length ∧ i = .int .i64 k ∧ J (ents (xs.take k) tag) wr ∧ (∀ j, K j → wr.heap[j]? = W.heap[j]?)) (fun i _ => xs.length - (intOf i).toNat)
  case atStart => exact ⟨0, Nat.zero_le _, rfl, H0.out, fun _ _ => rfl⟩
  case round =>
    obtain ⟨k, hk, rfl, hj, hkeep⟩ := hrel
    have HKP := hide hkeep
    have HJk := hide hj
    clear hkeep hj
    have ht : wr.cell? ⟨gt, 0, none⟩ = some (.int .i64 tag) := (cell_of_heap ((HKP.out gt HKT.out).trans (HCW.out gt HKT.out))).trans HTW.out
    have hgtr : gt < wr.heap.size := by
      rcases Nat.lt_or_ge gt wr.heap.size with h | h
      · exact h
      · unfold World.cell? at ht; simp only [] at ht; rw [Array.getElem?_eq_none h] at ht; cases ht
    by_cases hlt : k < xs.length
    · obtain ⟨b1, o1, rfl, hb1, hc1⟩ := HR.out.elem encE_len hlt
      have hKb1 := HKB.out _ rfl (by omega)
      have hbh : wr.heap[b1]? = w.heap[b1]? := (HKP.out b1 hKb1).trans (HCW.out b1 hKb1)
      have hd10 := (cell_of_heap (p := ⟨b1, o1 + k * 2 + 0, none⟩) hbh).trans (hc1 0 _ (by omega) rfl)
      have hd11 := (cell_of_heap (p := ⟨b1, o1 + k * 2 + 1, none⟩) hbh).trans (hc1 1 _ (by omega) rfl)
      simp only [Nat.add_zero] at hd10
      have hb1r : b1 < wr.heap.size := by
        rw [Array.getElem?_eq_getElem hb1] at hbh
        exact (Array.getElem?_eq_some_iff.1 hbh).1
      have HL := hide (Nat.le_trans (ents_length (xs.take k) tag) (List.length_take_le _ _))
      have HS := hide (ents_snoc xs tag k hlt)
      have HE := hide (show ents xs tag = ents (xs.take (k + 1)) tag ++ entsF tag (0 + (xs.take (k + 1)).length) (xs.drop (k + 1)) by
        unfold ents; rw [← entsF_append, List.take_append_drop])
      generalize xs[k] = x at *
      obtain ⟨t, g⟩ := x
      dsimp only at hd10 hd11 HS
      have hjs : ∀ j, K j → j < wr.heap.size := fun j hj => by
        have h3 := (HKP.out j hj).trans (HCW.out j hj)
        rw [Array.getElem?_eq_getElem (HKL.out j hj)] at h3
        exact (Array.getElem?_eq_some_iff.1 h3).1
      have HJS := hide hjs
      clear hc1 hbh hjs
      by_cases htt : t = tag
      · subst htt
        rw [if_pos rfl] at HS
        have hbe : (t == t) = true := by simp
        have hJ1 : J (ents (xs.take k) t) (wr.alloc (.cells #[.int .i64 t, .int .u64 g] 47)) := HJ.out _ _ _ HJk.out ((Below.refl _ _).alloc (Nat.le_refl _) _)
        obtain ⟨fn, tmps, assign, body, hy, hR⟩ := HY.out (ents (xs.take k) t) ((k : Int), g) _ hJ1 (Nat.lt_of_le_of_lt HL.out hlt)
        dsimp only [encEv] at hy
        have HK1 : Hid (∀ j, K j → (wr.alloc (.cells #[.int .i64 t, .int .u64 g] 47)).heap[j]? = W.heap[j]?) := hide (fun j hj => by
          rw [Below.heap_alloc _ _ _ (HJS.out j hj)]; exact HKP.out j hj)
        clear hJ1
        gi_wp2
        refine hR.mono ?_
        rintro e W3 (⟨rfl, hJ3, hk3⟩ | ⟨rfl, hJx3⟩)
        · rw [← HS.out] at hJ3
          have HJ3 := hide hJ3
          have HK3 : Hid (∀ j, K j → W3.heap[j]? = W.heap[j]?) := hide (fun j hj => (hk3 j hj).trans (HK1.out j hj))
          clear hJ3 hk3
          gi_wp2
          go_roundw
          case rel => exact ⟨k + 1, by omega, by go_num, HJ3.out, HK3.out⟩
          case measure => simp [intOf]; omega
        · rw [← HS.out] at hJx3
          have HJ3 := hide hJx3
          clear hJx3
          gi_wp2
          refine bodyPost_ret (results_none rfl _ _ _) rfl ?_
          exact .inl ⟨_, rfl, .inr ⟨_, ⟨_, HE.out.symm⟩, HJ3.out⟩⟩
      · rw [if_neg htt, List.append_nil] at HS
        have hbe : (t == tag) = false := by simpa using htt
        have HJ1 := hide (HJ.out _ _ _ HJk.out ((Below.refl wr.heap.size wr).alloc (Nat.le_refl _) (.cells #[.int .i64 t, .int .u64 g] 47)))
        rw [← HS.out] at HJ1
        have HK1 : Hid (∀ j, K j → (wr.alloc (.cells #[.int .i64 t, .int .u64 g] 47)).heap[j]? = W.heap[j]?) := hide (fun j hj => by
          rw [Below.heap_alloc _ _ _ (HJS.out j hj)]; exact HKP.out j hj)
        clear htt
        gi_wp2
        refine ⟨by simp, ?_⟩
        gi_wp2
        go_roundw
        case rel => exact ⟨k + 1, by omega, by go_num, HJ1.out, HK1.out⟩
        case measure => simp [intOf]; omega
    · gi_wp2
      go_end0
      obtain rfl : k = xs.length := by omega
      have h1 := HJk.out
      rw [List.take_length] at h1
      exact .inl ⟨_, rfl, .inl ⟨_, rfl, h1⟩⟩
end Go.Proofs.Ytfpbabafeecncaa
