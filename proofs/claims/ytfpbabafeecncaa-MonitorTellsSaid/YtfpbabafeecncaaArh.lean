/-
  Arenas that change: the hand, an entry's slab.
-/
import Derived.Test.YtfpbabafeecncaaAre
import Derived.Test.YtfpbabafeecncaaTail
set_option linter.unusedSimpArgs false
set_option linter.unusedVariables false
namespace Go.Proofs.Ytfpbabafeecncaa
open Go Go.RowKit
attribute [local go_sem] via_cell via_frozen

/-- An arena that changes, in memory of its own. -/
structure HandAt (w : World) (gh gs n : Nat) (xs : List (Int × Int)) : Prop where
  len : xs.length = n
  ne : gs ≠ gh
  box : RowAt w gh 115 #[.slice (some ⟨gs, 0, none⟩) n n]
  row : RowAt w gs 47 (Cs encE xs).toArray
theorem HandAt.rd {w : World} {gh gs n : Nat} {xs : List (Int × Int)} (h : HandAt w gh gs n xs) : Rd w w.heap.size 2 (some ⟨gs, 0, none⟩) n (Cs encE xs) := by
  refine ⟨by rw [Cs_length encE_len, h.len], fun _ => ⟨gs, 0, rfl, h.row.lt, fun j u hu => ?_⟩⟩
  rw [Nat.zero_add, h.row.cell]
  simpa using hu
theorem HandAt.below {w w' : World} {gh gs n : Nat} {xs : List (Int × Int)} (h : HandAt w gh gs n xs) (hb : Below w.heap.size w w') : HandAt w' gh gs n xs := ⟨h.len, h.ne, h.box.below hb, h.row.below hb⟩
theorem HandAt.cell0 {w : World} {gh gs n : Nat} {xs : List (Int × Int)} (h : HandAt w gh gs n xs) {k : Nat} (hk : k < n) : w.cell? ⟨gs, k * 2, none⟩ = some (.int .i64 (xs.getD k (0, 0)).1) := by
  have hk' : k < xs.length := by rw [h.len]; exact hk
  rw [h.row.cell]
  have := Cs_at encE_len xs k 0 hk' (by omega)
  rw [List.getD_eq_getElem?_getD, List.getElem?_eq_getElem hk']
  simpa [encE] using this
theorem HandAt.cell1 {w : World} {gh gs n : Nat} {xs : List (Int × Int)} (h : HandAt w gh gs n xs) {k : Nat} (hk : k < n) : w.cell? ⟨gs, k * 2 + 1, none⟩ = some (.int .u64 (xs.getD k (0, 0)).2) := by
  have hk' : k < xs.length := by rw [h.len]; exact hk
  rw [h.row.cell]
  have := Cs_at encE_len xs k 1 hk' (by omega)
  rw [List.getD_eq_getElem?_getD, List.getElem?_eq_getElem hk']
  simpa [encE] using this
theorem Cs_set0 (xs : List (Int × Int)) (k : Nat) (t : Int) (hk : k < xs.length) : (Cs encE xs).set (k * 2) (.int .i64 t) = Cs encE (xs.set k (t, (xs.getD k (0, 0)).2)) := by
  induction xs generalizing k with
  | nil => simp at hk
  | cons x xs ih =>
    have hc : ∀ (y : Int × Int) (l : List (Int × Int)), Cs encE (y :: l) = .int .i64 y.1 :: .int .u64 y.2 :: Cs encE l := fun y l => rfl
    cases k with
    | zero => simp [hc]
    | succ k =>
      have h2 : (k + 1) * 2 = k * 2 + 1 + 1 := by omega
      rw [hc, h2, List.set_cons_succ, List.set_cons_succ, ih k (by simpa using hk), List.set_cons_succ, hc]
      simp
theorem Cs_set1 (xs : List (Int × Int)) (k : Nat) (g : Int) (hk : k < xs.length) : (Cs encE xs).set (k * 2 + 1) (.int .u64 g) = Cs encE (xs.set k ((xs.getD k (0, 0)).1, g)) := by
  induction xs generalizing k with
  | nil => simp at hk
  | cons x xs ih =>
    have hc : ∀ (y : Int × Int) (l : List (Int × Int)), Cs encE (y :: l) = .int .i64 y.1 :: .int .u64 y.2 :: Cs encE l := fun y l => rfl
    cases k with
    | zero => simp [hc]
    | succ k =>
      have h2 : (k + 1) * 2 + 1 = k * 2 + 1 + 1 + 1 := by omega
      rw [hc, h2, List.set_cons_succ, List.set_cons_succ, ih k (by simpa using hk), List.set_cons_succ, hc]
      simp

def SlabRes (W : World) (gs : Nat) (s : Int) (b1 b2 : Bool) (e : Ending) (W' : World) : Prop :=
  Below W.heap.size W W' ∧ ((b1 = true ∧ b2 = true ∧ e = .returned (.pointer (some ⟨gs, s.toNat * 2, none⟩))) ∨ ((b1 && b2) = false ∧ e = .panicked (errX 4)))

set_option maxHeartbeats 1000000 in
theorem slab_any (gh gs n m c : Nat) (At : Option Addr) (s g : Int) (ts : List Int) (xs : List (Int × Int)) (W : World) (h : HandAt W gh gs n xs) (hn : n ≤ 4096) (ht : Rd W W.heap.size 1 At m (Cs encI ts)) (htl : ts.length = m) (hm : m ≤ 4096) :
    Calls Try.prog 92 #[.pointer (some ⟨gh, 0, none⟩), .agg #[.int .i64 s, .int .u64 g], .slice At m c] W (SlabRes W gs s (meantB xs (s, g)) (ts.any fun y => decide (y = tagOf xs (s, g)))) := by
  have hb1 : Below W.heap.size W (W.alloc (.cells #[.int .i64 s, .int .u64 g] 43)) := (Below.refl _ _).alloc (Nat.le_refl _) _
  have h1 := h.below hb1
  have ht1 := ht.below hb1
  have r1 : RowAt (W.alloc (.cells #[.int .i64 s, .int .u64 g] 43)) W.heap.size 43 #[.int .i64 s, .int .u64 g] := RowAt.new _ _ _
  have HM := hide (fun z => via_of (meant_any (W.alloc (.cells #[.int .i64 s, .int .u64 g] 43)).heap.size (some ⟨gs, 0, none⟩) n n s g xs (via (W.alloc (.cells #[.int .i64 s, .int .u64 g] 43)) z) (h1.rd.below (via_below _ z)) h.len (via_below _ z).size (by omega) _ rfl))
  have HC := hide (fun v z => via_of_same (ContainsII (W.alloc (.cells #[.int .i64 s, .int .u64 g] 43)).heap.size At c v ts (via (W.alloc (.cells #[.int .i64 s, .int .u64 g] 43)) z) (by rw [htl]; exact (ht1.more hb1.size).below (via_below _ z)) (via_below _ z).size (by omega)))
  rw [htl] at HC
  have hx0 := row1 h1.box
  have e0 := row20 r1
  have e1 := row21 r1
  have hl1 := h1.box.lt
  have hl2 := r1.lt
  have hl3 := h1.row.lt
  have HB := hide hb1
  have HH := hide h1
  obtain ⟨q, hq⟩ : ∃ q, meantB xs (s, g) = q := ⟨_, rfl⟩
  rw [hq] at HM ⊢
  cases q
  · have HQ := hide hq
    clear hb1 h h1 ht ht1 r1 hq HC
    go_enter Try.func92, Try.ntmps92
    go_wp2_with fail
    generalize (W.alloc (.cells #[.int .i64 s, .int .u64 g] 43)) = w1 at *
    refine wp_region_tail 20 (by kernel_rfl) (by kernel_rfl) ?_
    simp only [List.take_succ_cons, List.take_zero, List.drop_succ_cons, List.drop_zero]
    repeat (go_big_quiet_step ((first | (go_at_call 35; exact HM.out _))))
    refine tail_out fun w2 hb2 => ?_
    have HB2 := hide (HB.out.trans (hb2.mono HB.out.size))
    clear hb2 hx0 e0 e1
    go_wp2_with fail
    refine (need_no 4 _).mono ?_
    rintro e w3 ⟨rfl, rfl⟩
    go_wp2_with fail
    exact ⟨rfl, HB2.out, .inr ⟨rfl, rfl⟩⟩
  · obtain ⟨k, hk, hkl, hg⟩ := meantB_out hq
    dsimp only at hk hg
    subst hk
    have hkn : k < n := by have := HH.out.len; omega
    have hkI : (k : Int) < (n : Int) := by omega
    have hd := HH.out.cell0 hkn
    have HT := hide (show tagOf xs ((k : Int), g) = (xs.getD k (0, 0)).1 by simp [tagOf])
    obtain ⟨t, htt⟩ : ∃ t, (xs.getD k (0, 0)).1 = t := ⟨_, rfl⟩
    rw [htt] at hd HT
    rw [HT.out]
    obtain ⟨b, hb⟩ : ∃ b, (ts.any fun y => decide (y = t)) = b := ⟨_, rfl⟩
    have HCt := hide (HC.out t)
    rw [hb] at HCt ⊢
    clear hb1 h h1 ht ht1 r1 hq htt HC hb hg
    go_enter Try.func92, Try.ntmps92
    go_wp2_with fail
    generalize (W.alloc (.cells #[.int .i64 (k : Int), .int .u64 g] 43)) = w1 at *
    refine wp_region_tail 20 (by kernel_rfl) (by kernel_rfl) ?_
    simp only [List.take_succ_cons, List.take_zero, List.drop_succ_cons, List.drop_zero]
    repeat (go_big_quiet_step ((first | (go_at_call 35; exact HM.out _) | (go_at_call 18; exact HCt.out _))))
    refine tail_out fun w2 hb2 => ?_
    have hz2 : gs < w2.heap.size := Nat.lt_of_lt_of_le hl3 hb2.size
    have g0 := kept hb2 hx0
    have k0 := kept hb2 e0
    have k1 := kept hb2 e1
    have HB2 := hide (HB.out.trans (hb2.mono HB.out.size))
    clear hb2 hx0 e0 e1
    cases b
    · go_wp2_with fail
      refine (need_no 4 _).mono ?_
      rintro e w3 ⟨rfl, rfl⟩
      go_wp2_with fail
      exact ⟨rfl, HB2.out, .inr ⟨rfl, rfl⟩⟩
    · go_wp2_with fail
      refine (need_ok 4 _).mono ?_
      rintro e w3 ⟨rfl, rfl⟩
      go_wp2_with fail
      go_quiet (fail)
      go_wp2_with fail
      go_ret
      exact ⟨below_drewN HB2.out _, .inl ⟨rfl, rfl, rfl⟩⟩
end Go.Proofs.Ytfpbabafeecncaa
