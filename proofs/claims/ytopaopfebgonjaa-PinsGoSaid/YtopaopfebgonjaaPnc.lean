/-
  Pins: the iterator over who pins, the flags of who holds the epoch back, who does, the least epoch pinned (the program's).
-/
import Derived.Test.YtopaopfebgonjaaPnb
import Derived.Test.YtopaopfebgonjaaRange
set_option linter.unusedSimpArgs false
set_option linter.unusedVariables false
namespace Go.Proofs.Ytopaopfebgonjaa
open Go Go.RowKit
attribute [local go_sem] Oper.semAt_some

def encP (x : Nat × Int) : Array Value := #[.int .i64 ((x.1 % 8 : Nat) : Int), .int .u64 x.2]
def pinF : Nat → List Int → List (Nat × Int)
  | _, [] => []
  | k, s :: l => (if 0 < s then [(k, s - 1)] else []) ++ pinF (k + 1) l
def pinL (S : List Int) : List (Nat × Int) := pinF 0 S
theorem pinF_append : ∀ (k : Nat) (l m : List Int), pinF k (l ++ m) = pinF k l ++ pinF (k + l.length) m
  | k, [], m => by simp [pinF]
  | k, s :: l, m => by
    simp only [List.cons_append, pinF, List.append_assoc, pinF_append (k + 1) l m, List.length_cons]
    rw [show k + 1 + l.length = k + (l.length + 1) by omega]
theorem pinL_snoc (S : List Int) (k : Nat) (hk : k < S.length) : pinL (S.take (k + 1)) = pinL (S.take k) ++ if 0 < S[k] then [(k, S[k] - 1)] else [] := by
  unfold pinL
  rw [List.take_succ_eq_append_getElem hk, pinF_append]
  simp [pinF, List.length_take, Nat.min_eq_left (Nat.le_of_lt hk)]
theorem pinF_length : ∀ (k : Nat) (l : List Int), (pinF k l).length ≤ l.length
  | _, [] => by simp [pinF]
  | k, s :: l => by
    have := pinF_length (k + 1) l
    simp only [pinF, List.length_append, List.length_cons]
    split <;> simp <;> omega
theorem pinL_length (S : List Int) : (pinL S).length ≤ S.length := pinF_length 0 S

/-- The flags behind some pinned ones; all flags. -/
def fl (e : Int) (pre : List (Nat × Int)) : List Bool := pre.foldl (fun l x => l.set (x.1 % 8) (x.2 != e)) (List.replicate 8 false)
theorem fl_length (e : Int) (pre : List (Nat × Int)) : (fl e pre).length = 8 := by
  have : ∀ (pre : List (Nat × Int)) (l : List Bool), (pre.foldl (fun l x => l.set (x.1 % 8) (x.2 != e)) l).length = l.length := by
    intro pre
    induction pre with
    | nil => simp
    | cons x pre ih => intro l; rw [List.foldl_cons, ih, List.length_set]
  unfold fl; rw [this]; simp
theorem fl_snoc (e : Int) (pre : List (Nat × Int)) (x : Nat × Int) : fl e (pre ++ [x]) = (fl e pre).set (x.1 % 8) (x.2 != e) := by
  unfold fl; rw [List.foldl_append]; rfl
def flags (e : Int) (S : List Int) : List Bool := S.map (heldB e) ++ List.replicate (8 - S.length) false
theorem flags_length (e : Int) (S : List Int) (h : S.length ≤ 8) : (flags e S).length = 8 := by simp [flags]; omega
theorem flags_snoc (e : Int) (S : List Int) (s : Int) (h : S.length < 8) : flags e (S ++ [s]) = (flags e S).set S.length (heldB e s) := by
  unfold flags
  rw [List.map_append, List.set_append_right _ _ (by simp), List.length_map, Nat.sub_self, show 8 - S.length = (8 - (S ++ [s]).length) + 1 by simp; omega, List.replicate_succ, List.set_cons_zero]
  simp
theorem fl_flags (e : Int) (S : List Int) (h8 : S.length ≤ 8) (hS : ∀ s ∈ S, s ≤ e + 1) : ∀ k, k ≤ S.length → fl e (pinL (S.take k)) = flags e (S.take k) := by
  intro k
  induction k with
  | zero => intro _; rfl
  | succ k ih =>
    intro hk
    have hl : (S.take k).length = k := by rw [List.length_take]; omega
    have hs := hS S[k] (List.getElem_mem hk)
    rw [pinL_snoc S k hk, List.take_succ_eq_append_getElem hk, flags_snoc e _ _ (by omega), hl]
    by_cases h0 : 0 < S[k]
    · rw [if_pos h0, fl_snoc, ih (by omega), Nat.mod_eq_of_lt (by omega)]
      congr 1
      rw [Bool.eq_iff_iff]; simp [heldB, h0]; omega
    · rw [if_neg h0, List.append_nil, ih (by omega)]
      have hb : heldB e S[k] = false := by simp [heldB, h0]
      rw [hb]
      apply List.ext_getElem?
      intro j
      rw [List.getElem?_set]
      split
      · rename_i hj
        subst hj
        rw [flags_length e (S.take k) (by omega), if_pos (by omega)]
        unfold flags
        rw [List.getElem?_append_right (by simp; omega), List.getElem?_replicate, if_pos (by simp; omega)]
      · rfl
theorem fl_all (e : Int) (S : List Int) (h8 : S.length ≤ 8) (hS : ∀ s ∈ S, s ≤ e + 1) : fl e (pinL S) = flags e S := by
  have h := fl_flags e S h8 hS S.length (Nat.le_refl _)
  rwa [List.take_length] at h
theorem flags_any (e : Int) (S : List Int) : (flags e S).any id = S.any (heldB e) := by
  unfold flags
  rw [List.any_append, List.any_map]
  simp
theorem flags_get (e : Int) (S : List Int) (k : Nat) (hk : k < S.length) : (flags e S)[k]? = some (heldB e S[k]) := by
  unfold flags
  rw [List.getElem?_append_left (by simpa using hk)]
  simp [hk]
theorem flags_out (e : Int) (S : List Int) (k : Nat) (hk : S.length ≤ k) (h8 : k < 8) : (flags e S)[k]? = some false := by
  unfold flags
  rw [List.getElem?_append_right (by simpa using hk), List.getElem?_replicate, if_pos (by simp; omega)]

theorem pinned_any (A : Option Addr) (c n : Nat) (e : Int) (W : World) :
    Calls Try.prog 34 #[.agg #[.int .u64 e, .slice A n c]] W fun x W' => x = .returned (.func (.func 43) #[] #[.pointer (some ⟨W.heap.size, 0, none⟩)]) ∧
      RowAt W' W.heap.size 25 #[.int .u64 e, .slice A n c] ∧ Below W.heap.size W W' := by
  have H1 := hide (RowAt.new W 25 #[.int .u64 e, .slice A n c])
  go_enter Try.func34, Try.ntmps34
  go_wp2
  go_ret
  exact ⟨rfl, H1.out, (Below.refl _ _).alloc (Nat.le_refl _) _⟩

theorem pinned_seq (K : Nat → Prop) (gp : Nat) (A : Option Addr) (c : Nat) (e : Int) (S : List Int) (w : World) (hk : RowAt w gp 25 #[.int .u64 e, .slice A S.length c])
    (hKlt : ∀ j, K j → j < w.heap.size) (hr : Rd w w.heap.size 1 A S.length (Cs encW S)) (hKb : ∀ p, A = some p → 0 < S.length → K p.block) (hl : S.length ≤ 8) (hS : ∀ s ∈ S, U64 s) :
    Seq3 Try.prog 43 #[.pointer (some ⟨gp, 0, none⟩)] encP K (fun ys => ys = pinL S) (fun pre => ∃ r, pre ++ r = pinL S) (fun _ => False) [] S.length w := by
  intro l J Jx W hbW hJ hJx hY h0
  have HR := hide hr
  have hkW := row21 (hk.below hbW)
  have hkl := (hk.below hbW).lt
  have HCW := hide (fun j (hj : K j) => hbW.block j (hKlt j hj))
  have hszW := hbW.size
  have HKB := hide hKb
  have HKL := hide hKlt
  have HJ := hide hJ
  have HY := hide hY
  have H0 := hide h0
  have HU := hide hS
  clear hr hk hJ hJx hY h0 hKb hKlt hS
  refine (callsIn_wide (n := 4)).1 (callsIn_of_wp Try.func43 rfl trivial ?_ rfl)
  simp only [Try.ntmps43, List.size_toArray, List.length_cons, List.length_nil, Nat.reduceAdd, Nat.reduceSub, Array.replicate_succ, Array.replicate_zero, List.push_toArray, List.append_toArray, List.nil_append, List.cons_append]
  gi_wp2
  gi_loopw [8] (fun i wr => ∃ k : Nat, k ≤ S.length ∧ i = .int .i64 k ∧ J (pinL (S.take k)) wr ∧ (∀ j, K j → wr.heap[j]? = W.heap[j]?)) (fun i _ => S.length - (intOf i).toNat)
  case atStart => exact ⟨0, Nat.zero_le _, rfl, H0.out, fun _ _ => rfl⟩
  case round =>
    obtain ⟨k, hk, rfl, hj, hkeep⟩ := hrel
    have HKP := hide hkeep
    have HJk := hide hj
    clear hkeep hj
    by_cases hlt : k < S.length
    · obtain ⟨b1, o1, rfl, hb1, hc1⟩ := HR.out.elem encW_len hlt
      have hKb1 := HKB.out _ rfl (by omega)
      have hbh : wr.heap[b1]? = w.heap[b1]? := (HKP.out b1 hKb1).trans (HCW.out b1 hKb1)
      have hd10 := (cell_of_heap (p := ⟨b1, o1 + k * 1 + 0, none⟩) hbh).trans (hc1 0 _ (by omega) rfl)
      simp only [Nat.mul_one, Nat.add_zero] at hd10
      have hb1r : b1 < wr.heap.size := by
        rw [Array.getElem?_eq_getElem hb1] at hbh
        exact (Array.getElem?_eq_some_iff.1 hbh).1
      have HL := hide (Nat.le_trans (pinL_length (S.take k)) (List.length_take_le _ _))
      have HS := hide (pinL_snoc S k hlt)
      have HE := hide (show pinL S = pinL (S.take (k + 1)) ++ pinF (0 + (S.take (k + 1)).length) (S.drop (k + 1)) by
        unfold pinL; rw [← pinF_append, List.take_append_drop])
      have HUx := hide (HU.out _ (List.getElem_mem hlt))
      have hk8 : k % 8 = k := Nat.mod_eq_of_lt (by omega)
      have HK8 := hide hk8
      generalize S[k] = s at *
      clear hc1 hbh hk8
      by_cases hs : 0 < s
      · rw [if_pos hs] at HS
        have u0 : (0 : Int) ≤ s - 1 := by omega
        have u1 : s - 1 < 18446744073709551616 := by have := HUx.out; unfold U64 at this; omega
        obtain ⟨fn, tmps, assign, body, hy, hR⟩ := HY.out (pinL (S.take k)) (k, s - 1) _ HJk.out (Nat.lt_of_le_of_lt HL.out hlt)
        dsimp only [encP] at hy
        rw [HK8.out] at hy
        gi_wp2
        refine hR.mono ?_
        rintro e W3 (⟨rfl, hJ3, hk3⟩ | ⟨rfl, hJx3⟩)
        · rw [← HS.out] at hJ3
          have HJ3 := hide hJ3
          have HK3 : Hid (∀ j, K j → W3.heap[j]? = W.heap[j]?) := hide (fun j hj => (hk3 j hj).trans (HKP.out j hj))
          clear hJ3 hk3
          gi_wp2
          go_roundw
          case rel => exact ⟨k + 1, by omega, by go_num, HJ3.out, HK3.out⟩
          case measure => simp [intOf]; omega
        · rw [← HS.out] at hJx3
          have HJ3 := hide hJx3
          clear hJx3
          gi_wp2
          refine bodyPost_ret (results_none rfl _ _ _) rfl ?_
          exact .inl ⟨_, rfl, .inr ⟨_, ⟨_, HE.out.symm⟩, HJ3.out⟩⟩
      · rw [if_neg hs, List.append_nil] at HS
        have hbe : decide (0 < s) = false := by simpa using hs
        have HJ1 := HJk
        rw [← HS.out] at HJ1
        clear hs
        gi_wp2
        refine ⟨by simp, ?_⟩
        gi_wp2
        go_roundw
        case rel => exact ⟨k + 1, by omega, by go_num, HJ1.out, HKP.out⟩
        case measure => simp [intOf]; omega
    · gi_wp2
      go_end0
      obtain rfl : k = S.length := by omega
      have h1 := HJk.out
      rw [List.take_length] at h1
      exact .inl ⟨_, rfl, .inl ⟨_, rfl, h1⟩⟩
end Go.Proofs.Ytopaopfebgonjaa
