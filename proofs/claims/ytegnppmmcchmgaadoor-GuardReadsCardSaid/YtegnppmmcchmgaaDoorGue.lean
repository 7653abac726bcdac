/-
  The steps at which the counter counts: the program's iterator (a labelled loop; two yields in a round).
-/
import Derived.Test.YtegnppmmcchmgaaDoorGuc
import Derived.Test.YtegnppmmcchmgaaDoorRange5
import Derived.Deep.Cut
set_option linter.unusedSimpArgs false
set_option linter.unusedVariables false
namespace Go.Proofs.YtegnppmmcchmgaaDoor
open Go Go.RowKit
attribute [local go_sem] via_cell via_frozen
attribute [local go_sem] Oper.semAt_some

theorem edges_any (A : Option Addr) (c m : Nat) (W : World) :
    Calls Tryd.prog 42 #[.slice A m c] W fun e W' => e = .returned (.func (.func 44) #[] #[.pointer (some ⟨W.heap.size, 0, none⟩)]) ∧
      RowAt W' W.heap.size 26 #[.slice A m c] ∧ Below W.heap.size W W' := by
  have H1 := hide (RowAt.new W 26 #[.slice A m c])
  go_enter Tryd.func42, Tryd.ntmps42
  go_wp2
  go_ret
  exact ⟨rfl, H1.out, (Below.refl _ _).alloc (Nat.le_refl _) _⟩
def encE (x : Int) : Array Value := #[.int .i64 x]
theorem edg_take (l : List Sec) (k : Nat) (hk : k < l.length) : edg (l.take (k + 1)) = edg (l.take k) ++ edgS l[k] := by
  unfold edg
  rw [List.take_succ_eq_append_getElem hk, List.flatMap_append]
  simp
theorem edg_split (l : List Sec) (k : Nat) (hk : k < l.length) : edg l = edg (l.take k) ++ (edgS l[k] ++ edg (l.drop (k + 1))) := by
  have h1 := edg_take l k hk
  have h2 : edg l = edg (l.take (k + 1)) ++ edg (l.drop (k + 1)) := by
    unfold edg
    rw [← List.flatMap_append, List.take_append_drop]
  rw [h2, h1, List.append_assoc]
theorem edg_room (l : List Sec) (k : Nat) (hk : k < l.length) : (edg (l.take k)).length ≤ 2 * k := by
  have := edg_len (l.take k)
  rw [List.length_take] at this
  omega
set_option maxHeartbeats 4000000 in
theorem edges_seq (B gp n1 : Nat) (K : Nat → Prop) (A : Option Addr) (c m : Nat) (l : List Sec) (w : World) (hk : RowAt w gp 26 #[.slice A m c]) (hr : Rd w B 2 A m (Cs encS l)) (hx : l.length = m) (hB : B ≤ w.heap.size) (hm : m ≤ 4096)
    (hKB : ∀ j, j < B → K j) (hKn : ∀ j, n1 ≤ j → K j) :
    Seq5 Tryd.prog 44 #[.pointer (some ⟨gp, 0, none⟩)] encE K (fun ys => ys = edg l) (fun pre => ∃ r, pre ++ r = edg l) (fun _ => False) [] (2 * m) n1 (fun x => x ∈ edg l) w := by
  intro lo J Jx W hbW hn1 hJ hJx hY h0
  subst hx
  have HR := hide (hr.below (hbW.mono hB))
  have hkW := row1 (hk.below hbW)
  have hkl := (hk.below hbW).lt
  have hszW : B ≤ W.heap.size := Nat.le_trans hB hbW.size
  have HJ := hide hJ
  have HY := hide hY
  have H0 := hide h0
  have HKB := hide hKB
  have HKN := hide (fun j (hj : W.heap.size ≤ j) => hKn j (Nat.le_trans hn1 hj))
  clear hr hk hJ hJx hY h0 hKB hKn hn1
  refine (callsIn_wide (n := 4)).1 (callsIn_of_wp Tryd.func44 rfl trivial ?_ rfl)
  simp only [Tryd.ntmps44, List.size_toArray, List.length_cons, List.length_nil, Nat.reduceAdd, Nat.reduceSub, Array.replicate_succ, Array.replicate_zero, List.push_toArray, List.append_toArray, List.nil_append, List.cons_append]
  refine wpIn_wide.2 ?_
  go_wp2_with fail
  go_step3
  go_wp2_with fail
  go_step3
  go_wp2_with fail
  go_loopw [7] (fun i wr => ∃ (k : Nat), k ≤ l.length ∧ i = .int .i64 k ∧ J (edg (l.take k)) wr ∧ W.heap.size ≤ wr.heap.size ∧ (∀ j, j < B → wr.heap[j]? = W.heap[j]?)) (fun i _ => l.length - (intOf i).toNat)
  case atStart => exact ⟨0, Nat.zero_le _, rfl, H0.out, Nat.le_refl _, fun _ _ => rfl⟩
  case round =>
    obtain ⟨k, hk, rfl, hj, hsz, hkeep⟩ := hrel
    have HJk := hide hj
    have HKP := hide hkeep
    clear hj hkeep
    by_cases hlt : k < l.length
    · obtain ⟨b, o, rfl, hb, d0, d1⟩ := (HR.out.keep (fun p hp => cell_of_heap (HKP.out _ hp))).sec hlt
      have hbl : b < wr.heap.size := Nat.lt_of_lt_of_le hb (Nat.le_trans hszW hsz)
      have hki : (k : Int) < (l.length : Int) := by omega
      have HTK := hide (edg_take l k hlt)
      have HSP := hide (edg_split l k hlt)
      have HRM := hide (edg_room l k hlt)
      obtain ⟨f, hf⟩ : ∃ f, l[k].1 = f := ⟨_, rfl⟩
      obtain ⟨t, ht⟩ : ∃ t, l[k].2 = t := ⟨_, rfl⟩
      have HS := hide (show l[k] = (f, t) from by rw [← hf, ← ht])
      rw [hf] at d0
      rw [ht] at d1
      rw [HS.out] at HTK HSP
      clear hf ht
      have HBN := hide (show Below wr.heap.size wr (wr.alloc (.cells #[.int .i64 f, .int .i64 t] 33)) from (Below.refl _ _).alloc (Nat.le_refl _) _)
      have HRN := hide (RowAt.new wr 33 #[.int .i64 f, .int .i64 t])
      have HJ1 := hide (HJ.out _ _ _ HJk.out (HBN.out.mono hsz))
      go_upto_region 3 with (fail)
      generalize wr.alloc (.cells #[.int .i64 f, .int .i64 t] 33) = w1 at *
      have hgl := HRN.out.lt
      have e0 := row20 HRN.out
      have hs1 : W.heap.size ≤ w1.heap.size := by omega
      obtain ⟨fn, tmps, assign, body, hy, hR⟩ := HY.out (edg (l.take k)) f _ HJ1.out (by have := HRM.out; omega) (by rw [HSP.out]; unfold edgS; split <;> simp)
      dsimp only [encE] at hy
      have HRR := hide hR
      clear hR
      refine (wpIn_wide (n := 4)).1 ?_
      gi_wp2
      refine HRR.out.mono ?_
      rintro e W3 (⟨rfl, hJ3, hz3, hk3⟩ | ⟨rfl, hJx3⟩)
      · have HJ3 := hide hJ3
        have HK3 := hide hk3
        have hs3 : W.heap.size ≤ W3.heap.size := by omega
        have hg3 : wr.heap.size < W3.heap.size := by omega
        have HRN3 : Hid (RowAt W3 wr.heap.size 33 #[.int .i64 f, .int .i64 t]) := hide ((HK3.out _ (HKN.out _ hsz)).trans HRN.out)
        have e1 := row21 HRN3.out
        have HKP3 := hide (fun j (hj : j < B) => (HK3.out j (HKB.out j hj)).trans ((HBN.out.block j (Nat.lt_of_lt_of_le hj (Nat.le_trans hszW hsz))).trans (HKP.out j hj)))
        clear hJ3 hk3 hy HRR
        by_cases c3 : t = 0
        · subst c3
          have HG := hide (show J (edg (l.take (k + 1))) W3 from by rw [HTK.out]; exact HJ3.out)
          gi_wp2_with (refine wpListIn_skip rfl rfl ?_)
          go_wp2_with fail
          go_roundw
          case rel => exact ⟨k + 1, by omega, by go_num, HG.out, hs3, HKP3.out⟩
          case measure => simp [intOf]; omega
        · have HE := hide (show edgS (f, t) = [f, t] from by unfold edgS; rw [if_neg c3])
          obtain ⟨fn, tmps, assign, body, hy, hR⟩ := HY.out (edg (l.take k) ++ [f]) t _ HJ3.out (by have := HRM.out; rw [List.length_append]; simp; omega) (by rw [HSP.out, HE.out]; simp)
          dsimp only [encE] at hy
          have HRR := hide hR
          clear hR
          gi_wp2
          refine HRR.out.mono ?_
          rintro e W4 (⟨rfl, hJ4, hz4, hk4⟩ | ⟨rfl, hJx4⟩)
          · have HG := hide (show J (edg (l.take (k + 1))) W4 from by rw [HTK.out, HE.out]; simpa using hJ4)
            have hs4 : W.heap.size ≤ W4.heap.size := by omega
            have HKP4 := hide (fun j (hj : j < B) => (hk4 j (HKB.out j hj)).trans (HKP3.out j hj))
            clear hJ4 hk4
            gi_wp2
            go_wp2_with fail
            go_roundw
            case rel => exact ⟨k + 1, by omega, by go_num, HG.out, hs4, HKP4.out⟩
            case measure => simp [intOf]; omega
          · have HJ4 := hide hJx4
            have HF := hide (show (edg (l.take k) ++ [f] ++ [t]) ++ edg (l.drop (k + 1)) = edg l from by rw [HSP.out, HE.out]; simp)
            clear hJx4
            gi_wp2
            go_wp2_with fail
            rw [Exit.noGoto_normal]
            go_end0
            exact .inl ⟨_, rfl, .inr ⟨_, ⟨_, HF.out⟩, HJ4.out⟩⟩
      · have HJ4 := hide hJx3
        have HF := hide (show ∃ r, (edg (l.take k) ++ [f]) ++ r = edg l from by
          rw [HSP.out]
          unfold edgS
          split
          · exact ⟨_, by rw [List.append_assoc]⟩
          · exact ⟨[t] ++ edg (l.drop (k + 1)), by simp⟩)
        clear hJx3
        gi_wp2_with (refine wpListIn_skip rfl rfl ?_)
        go_wp2_with fail
        rw [Exit.noGoto_normal]
        go_end0
        exact .inl ⟨_, rfl, .inr ⟨_, HF.out, HJ4.out⟩⟩
    · obtain rfl : k = l.length := by omega
      have HF := hide (show edg (l.take l.length) = edg l from by rw [List.take_length])
      go_wp2_with fail
      rw [Exit.noGoto_normal]
      go_end0
      exact .inl ⟨_, rfl, .inl ⟨_, HF.out, HJk.out⟩⟩
end Go.Proofs.YtegnppmmcchmgaaDoor
