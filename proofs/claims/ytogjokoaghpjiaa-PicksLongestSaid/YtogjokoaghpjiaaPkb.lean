/-
  Who can: the program's.
-/
import Derived.Test.YtogjokoaghpjiaaPka
import Derived.Test.YtogjokoaghpjiaaPkp
set_option linter.unusedSimpArgs false
set_option linter.unusedVariables false
namespace Go.Proofs.Ytogjokoaghpjiaa
open Go Go.RowKit
attribute [local go_sem] via_cell via_frozen

theorem wrong_any (ga gn : Nat) (last n g : Int) (W : World) (h1 : RowAt W ga 3 #[.int .i64 last]) (h2 : RowAt W gn 3 #[.int .i64 n]) (hne : gn ≠ ga) (r : Bool) (hr : (decide (g ≤ last) || decide (n ≤ g)) = r) :
    Calls Try.prog 45 #[.int .i64 g, .pointer (some ⟨ga, 0, none⟩), .pointer (some ⟨gn, 0, none⟩)] W fun e W' => e = .returned (.bool r) ∧ W' = W.setCell ⟨ga, 0, none⟩ (.int .i64 g) := by
  have a0 := row1 h1
  have b0 := row1 h2
  have f0 := h1.frozen 0
  have l1 := h1.lt
  have l2 := h2.lt
  clear h1 h2
  by_cases h : g ≤ last
  · obtain rfl : true = r := by rw [← hr]; simp [h]
    clear hr
    go_enter Try.func45, Try.ntmps45
    go_wp2_with fail
    go_ret
    exact ⟨rfl, rfl⟩
  · have hd : decide (g ≤ last) = false := by simpa using h
    rw [hd, Bool.false_or] at hr
    clear h
    go_enter Try.func45, Try.ntmps45
    go_wp2_with fail
    go_ret
    exact ⟨ret_bool (by rw [← hr]), rfl⟩
theorem Rd.numE {w : World} {B n : Nat} {A : Option Addr} {X : List Int} (h : Rd w B 1 A n (Cs encI X)) (hx : X.length = n) {k : Nat} (hk : k < X.length) :
    ∃ b off, A = some ⟨b, off, none⟩ ∧ b < B ∧ w.cell? ⟨b, off + k, none⟩ = some (.int .i64 X[k]) := by
  subst hx
  obtain ⟨b, off, h1, h2, h3⟩ := h.elem encI_len hk
  exact ⟨b, off, h1, h2, by simpa using h3 0 _ (by omega) rfl⟩
def IdxAt (W0 : World) (ga gn : Nat) (n : Int) (xs : List Int) (k : Nat) (wr : World) : Prop :=
  risesB n (-1) (xs.take k) = true ∧ RowAt wr ga 3 #[.int .i64 ((xs.take k).getLastD (-1))] ∧ RowAt wr gn 3 #[.int .i64 n] ∧ Past ga W0 wr
theorem index_wrong (B : Nat) (A : Option Addr) (c m ga gn : Nat) (n : Int) (xs : List Int) (W : World) (h : Rd W B 1 A m (Cs encI xs)) (hx : xs.length = m) (hm : m ≤ 4096) (hB : B ≤ ga) (h1 : RowAt W ga 3 #[.int .i64 (-1)]) (h2 : RowAt W gn 3 #[.int .i64 n]) (hne : gn ≠ ga) (r : Bool) (hr : risesB n (-1) xs = r) :
    Calls Try.prog 54 #[.slice A m c, .func (.func 45) #[] #[.pointer (some ⟨ga, 0, none⟩), .pointer (some ⟨gn, 0, none⟩)]] W fun e W' => ∃ i : Int, e = .returned (.int .i64 i) ∧ decide (0 ≤ i) = !r ∧ Past ga W W' := by
  have HX := hide hx
  have HR := hide hr
  have H := hide h
  have hgl := h1.lt
  have HI := hide (show IdxAt W ga gn n xs 0 W from ⟨rfl, h1, h2, Past.refl _ _⟩)
  clear h hx hr h1 h2
  go_enter Try.func54, Try.ntmps54
  go_wp2_with fail
  go_loopw [8] (fun i wr => ∃ k : Nat, k ≤ m ∧ i = .int .i64 k ∧ IdxAt W ga gn n xs k wr) (fun i _ => m - (intOf i).toNat)
  case atStart => exact ⟨0, Nat.zero_le _, rfl, HI.out⟩
  case round =>
    obtain ⟨k, hk, rfl, hrise, hra, hrn, hp⟩ := hrel
    have HRI := hide hrise
    have HP := hide hp
    have HRA := hide hra
    have HRN := hide hrn
    clear hrise hp hra hrn
    by_cases hlt : k < m
    · have hlx : k < xs.length := by rw [HX.out]; exact hlt
      obtain ⟨b, o, rfl, hb, d0⟩ := (H.out.below (HP.out.below.mono hB)).numE HX.out hlx
      have hbl : b < wr.heap.size := Nat.lt_of_lt_of_le (Nat.lt_of_lt_of_le hb (Nat.le_trans hB (Nat.le_of_lt hgl))) HP.out.size
      have hkm : (k : Int) < (m : Int) := by omega
      have HT := hide (show xs.take (k + 1) = xs.take k ++ [xs[k]] from List.take_succ_eq_append_getElem hlx)
      have HALL := hide (show xs = xs.take (k + 1) ++ xs.drop (k + 1) from (List.take_append_drop _ _).symm)
      generalize xs[k] = g at *
      obtain ⟨q, hq⟩ : ∃ q, (decide (g ≤ (xs.take k).getLastD (-1)) || decide (n ≤ g)) = q := ⟨_, rfl⟩
      have HC := hide (wrong_any ga gn _ n g wr HRA.out HRN.out hne q hq)
      have HQ := hide hq
      clear hq hb
      go_wp2_with fail
      with_reducible refine HC.out.mono ?_
      rintro e w2 ⟨rfl, rfl⟩
      have HS := hide (risesB_snoc n (-1) (xs.take k) g)
      have hp2 : Past ga W (wr.setCell ⟨ga, 0, none⟩ (.int .i64 g)) := HP.out.trans (Past.set 0 _)
      cases q
      · have h1 : risesB n (-1) (xs.take (k + 1)) = true := by
          rw [HT.out, HS.out, HRI.out]
          have h := HQ.out
          simp at h ⊢
          omega
        have HN := hide (show IdxAt W ga gn n xs (k + 1) (wr.setCell ⟨ga, 0, none⟩ (.int .i64 g)) from ⟨h1, by rw [HT.out]; have h := HRA.out.set 0 (.int .i64 g); simpa using h, HRN.out.setNe hne, hp2⟩)
        clear h1 hp2
        go_wp2_with fail
        go_roundw
        case rel => exact ⟨k + 1, by omega, by go_num, HN.out⟩
        case measure => simp [intOf]; omega
      · have h1 : risesB n (-1) xs = false := by
          rw [Bool.eq_false_iff]
          intro h
          rw [HALL.out] at h
          have h2 := risesB_prefix h
          rw [HT.out, HS.out] at h2
          have h3 := HQ.out
          simp at h2 h3
          omega
        have HF := hide (show false = r from h1.symm.trans HR.out)
        have HP2 := hide hp2
        clear h1 hp2
        go_wp2_with fail
        go_ret
        exact ⟨_, rfl, by rw [← HF.out]; simp, HP2.out⟩
    · go_wp2_with fail
      go_ret
      have h := HRI.out
      rw [List.take_of_length_le (by rw [HX.out]; omega)] at h
      exact ⟨_, rfl, by rw [← HR.out, h]; rfl, HP.out⟩
theorem contains_wrong (B : Nat) (A : Option Addr) (c m ga gn : Nat) (n : Int) (xs : List Int) (W : World) (h : Rd W B 1 A m (Cs encI xs)) (hx : xs.length = m) (hm : m ≤ 4096) (hB : B ≤ ga) (h1 : RowAt W ga 3 #[.int .i64 (-1)]) (h2 : RowAt W gn 3 #[.int .i64 n]) (hne : gn ≠ ga) (r : Bool) (hr : risesB n (-1) xs = r) :
    Calls Try.prog 46 #[.slice A m c, .func (.func 45) #[] #[.pointer (some ⟨ga, 0, none⟩), .pointer (some ⟨gn, 0, none⟩)]] W fun e W' => e = .returned (.bool (!r)) ∧ Past ga W W' := by
  have HI := hide (index_wrong B A c m ga gn n xs W h hx hm hB h1 h2 hne r hr)
  clear h hx hr h1 h2
  go_enter Try.func46, Try.ntmps46
  go_wp2_with fail
  with_reducible refine HI.out.mono ?_
  rintro e w1 ⟨i, rfl, hi, hp⟩
  have HII := hide hi
  clear hi
  go_wp2_with fail
  go_ret
  exact ⟨ret_bool HII.out, hp⟩
theorem able_any (A : Option Addr) (c m : Nat) (n : Int) (xs : List Int) (W : World) (h : Rd W W.heap.size 1 A m (Cs encI xs)) (hx : xs.length = m) (hm : m ≤ 4096) (r : Bool) (hr : canB n xs = r) :
    Calls Try.prog 32 #[.int .i64 n, .slice A m c] W fun e W' => e = .returned (.bool r) ∧ Below W.heap.size W W' := by
  have HB := hide (show Below W.heap.size W ((W.alloc (.cells #[.int .i64 n] 3)).alloc (.cells #[.int .i64 (-1)] 3)) from ((Below.refl _ _).alloc (Nat.le_refl _) _).alloc (by simp) _)
  have R1 := hide (show RowAt ((W.alloc (.cells #[.int .i64 n] 3)).alloc (.cells #[.int .i64 (-1)] 3)) W.heap.size 3 #[.int .i64 n] from (RowAt.new W 3 _).below ((Below.refl _ _).alloc (Nat.le_refl _) _))
  have R2 := hide (show RowAt ((W.alloc (.cells #[.int .i64 n] 3)).alloc (.cells #[.int .i64 (-1)] 3)) (W.heap.size + 1) 3 #[.int .i64 (-1)] from by
    have h := RowAt.new (W.alloc (.cells #[.int .i64 n] 3)) 3 #[.int .i64 (-1)]
    rw [World.size_alloc] at h
    exact h)
  by_cases h0 : m = 0
  · subst h0
    obtain rfl := List.eq_nil_of_length_eq_zero hx
    obtain rfl : false = r := hr
    clear h
    go_enter Try.func32, Try.ntmps32
    go_wp2_with fail
    go_ret
    exact ⟨rfl, HB.out⟩
  · have hne : xs ≠ [] := fun e => h0 (by rw [← hx, e]; rfl)
    have hr2 : risesB n (-1) xs = r := by
      rw [← hr]; unfold canB
      cases xs with
      | nil => exact absurd rfl hne
      | cons a l => rfl
    have hd : decide ((0 : Int) < (m : Int)) = true := by simp; omega
    have hd2 : (0 : Int) < (m : Int) := by omega
    have H := hide h
    have HX := hide hx
    have HR := hide hr2
    clear h hx hr hr2 hne h0
    go_enter Try.func32, Try.ntmps32
    go_wp2_with fail
    generalize ((W.alloc (.cells #[.int .i64 n] 3)).alloc (.cells #[.int .i64 (-1)] 3)) = w2 at *
    with_reducible refine (contains_wrong W.heap.size A c m (W.heap.size + 1) W.heap.size n xs w2 (H.out.below HB.out) HX.out hm (Nat.le_succ _) R2.out R1.out (by omega) r HR.out).mono ?_
    rintro e w3 ⟨rfl, hp⟩
    have HBF := hide (HB.out.trans (hp.below.mono (Nat.le_succ _)))
    clear hp
    go_wp2_with fail
    go_ret
    exact ⟨by first | rfl | simp, HBF.out⟩
end Go.Proofs.Ytogjokoaghpjiaa
