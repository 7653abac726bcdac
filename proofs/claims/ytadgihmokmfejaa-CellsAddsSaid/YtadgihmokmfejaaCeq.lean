/-
  The program's: back by marks.
-/
import Derived.Test.YtadgihmokmfejaaCek
import Derived.Test.YtadgihmokmfejaaCei
import Derived.BigRegion
set_option linter.unusedSimpArgs false
set_option linter.unusedVariables false
namespace Go.Proofs.Ytadgihmokmfejaa
open Go Go.RowKit
attribute [local go_sem] via_cell via_frozen

theorem backR_snoc (w : List Int) (l : List Mk) (m : Mk) : backR w (l ++ [m]) = (backR w l).bind (fun v => if backOk v m then some (back1 v m) else none) := by
  induction l generalizing w with
  | nil => simp [backR]
  | cons a l ih =>
    simp only [List.cons_append, backR]
    by_cases h : backOk w a = true
    · rw [if_pos h, if_pos h, ih]
    · rw [if_neg h, if_neg h]; rfl
theorem backR_none (w : List Int) (l l2 : List Mk) (h : backR w l = none) : backR w (l ++ l2) = none := by
  induction l generalizing w with
  | nil => simp [backR] at h
  | cons a l ih =>
    simp only [List.cons_append, backR] at h ⊢
    by_cases hb : backOk w a = true
    · rw [if_pos hb] at h ⊢; exact ih _ h
    · rw [if_neg hb]
theorem rev_take (ms : List Mk) (k : Nat) (hk : k < ms.length) : ms.reverse.take (ms.length - k) = ms.reverse.take (ms.length - (k + 1)) ++ [ms[k]] := by
  have h1 : ms.length - k = (ms.length - (k + 1)) + 1 := by omega
  have h2 : ms.length - (k + 1) < ms.reverse.length := by rw [List.length_reverse]; omega
  rw [h1, List.take_succ_eq_append_getElem h2, List.getElem_reverse]
  congr 3
  omega
theorem backR_length {w v : List Int} {l : List Mk} (h : backR w l = some v) : v.length = w.length := by
  induction l generalizing w with
  | nil => simp [backR] at h; rw [h]
  | cons a l ih =>
    simp only [backR] at h
    split at h
    · rw [ih h, back1_length]
    · cases h
/-- The way on: a mark that fits, or not. -/
theorem back_yes {X Y : List Int} {ms : List Mk} {k : Nat} (hk : k < ms.length) (h : backR X (ms.reverse.take (ms.length - (k + 1))) = some Y) (hb : backOk Y ms[k] = true) : backR X (ms.reverse.take (ms.length - k)) = some (back1 Y ms[k]) := by
  rw [rev_take ms k hk, backR_snoc, h]; simp [hb]
theorem back_no {X Y : List Int} {ms : List Mk} {k : Nat} (hk : k < ms.length) (h : backR X (ms.reverse.take (ms.length - (k + 1))) = some Y) (hb : backOk Y ms[k] = false) : backX X ms = none := by
  have h1 : backR X (ms.reverse.take (ms.length - k)) = none := by rw [rev_take ms k hk, backR_snoc, h]; simp [hb]
  unfold backX
  rw [← List.take_append_drop (ms.length - k) ms.reverse]
  exact backR_none _ _ _ h1
theorem back_all {X Y : List Int} {ms : List Mk} (h : backR X (ms.reverse.take (ms.length - 0)) = some Y) : backX X ms = some Y := by
  rw [Nat.sub_zero, List.take_of_length_le (by simp)] at h
  exact h
theorem ok_neg {Y : List Int} {m : Mk} (h : m.2.1 < 0) : backOk Y m = false := by unfold backOk; simp; intro; omega
theorem ok_big {Y : List Int} {m : Mk} (h : (Y.length : Int) ≤ m.2.1) : backOk Y m = false := by unfold backOk; simp; intro; omega
theorem ok_in {Y : List Int} {m : Mk} {k : Nat} (h1 : m.2.1 = k) (h2 : k < Y.length) : backOk Y m = (ceAt Y k == m.2.2.2) := by
  unfold backOk
  rw [h1]
  rw [Bool.eq_iff_iff]; simp; omega

set_option maxHeartbeats 2000000 in
theorem bad_any (ga g n : Nat) (X : List Int) (m1 at_ m3 m4 : Int) (W : World) (hbox : RowAt W ga 22 #[.slice (some ⟨g, 0, none⟩) n n]) (hrow : RowAt W g 31 (Cs encW X).toArray) (hx : X.length = n) (r : Bool) (hr : (!backOk X (m1, at_, m3, m4)) = r) :
    Calls Try.prog 40 #[.agg #[.int .i64 m1, .int .i64 at_, .int .u64 m3, .int .u64 m4], .pointer (some ⟨ga, 0, none⟩)] W fun e W' => e = .returned (.bool r) ∧ Below W.heap.size W W' := by
  have z0 := row1 hbox
  have lz := hbox.lt
  have lg := hrow.lt
  have HB := hide (show Below W.heap.size W (W.alloc (.cells #[.int .i64 m1, .int .i64 at_, .int .u64 m3, .int .u64 m4] 57)) from (Below.refl _ _).alloc (Nat.le_refl _) _)
  by_cases h1 : at_ < 0
  · have hd : decide (at_ < 0) = true := by simpa using h1
    obtain rfl : true = r := by rw [← hr, ok_neg h1]; rfl
    clear hr hrow hbox h1
    go_enter Try.func40, Try.ntmps40
    go_wp2_with fail
    go_quiet (fail)
    go_wp2_with fail
    go_ret
    exact ⟨rfl, below_drewN HB.out _⟩
  · have hd : decide (at_ < 0) = false := by simpa using h1
    by_cases h2 : (n : Int) ≤ at_
    · have hd2 : decide ((n : Int) ≤ at_) = true := by simpa using h2
      obtain rfl : true = r := by rw [← hr, ok_big (by rw [hx]; exact h2)]; rfl
      clear hr hrow hbox h2 h1
      go_enter Try.func40, Try.ntmps40
      go_wp2_with fail
      go_quiet (fail)
      go_wp2_with fail
      go_ret
      exact ⟨rfl, below_drewN HB.out _⟩
    · have hd2 : decide ((n : Int) ≤ at_) = false := by simpa using h2
      obtain ⟨k, rfl⟩ : ∃ k : Nat, at_ = k := ⟨at_.toNat, by omega⟩
      have hk : k < n := by omega
      have hkn : (k : Int) < n := by omega
      have hd3 : decide ((k : Int) < n) = true := by simpa using hkn
      have hd4 : decide (n ≤ k) = false := by simp; omega
      have x0 := row_word hrow (show k < X.length by rw [hx]; exact hk)
      have hv := ok_in (Y := X) (m := (m1, (k : Int), m3, m4)) (k := k) rfl (by rw [hx]; exact hk)
      rw [hv] at hr
      dsimp only at hr
      generalize ceAt X k = y at *
      have hr2 : (y != m4) = r := hr
      clear hr hrow hbox h2 h1 hv
      go_enter Try.func40, Try.ntmps40
      go_wp2_with fail
      go_quiet (fail)
      go_wp2_with fail
      go_ret
      exact ⟨rfl, below_drewN HB.out _⟩
/-- What Back comes to. -/
def BackRes (W : World) (n : Nat) (Yo : Option (List Int)) (x : Ending) (W' : World) : Prop :=
  Below W.heap.size W W' ∧ ((Yo = none ∧ x = .returned (.tuple #[.slice none 0 0, .int .i64 2])) ∨
    ∃ Y g, Yo = some Y ∧ x = .returned (.tuple #[.slice (some ⟨g, 0, none⟩) n n, .int .i64 0]) ∧ W.heap.size ≤ g ∧ RowAt W' g 31 (Cs encW Y).toArray)
def BackAt (W : World) (ga g n : Nat) (X : List Int) (ms : List Mk) (j : Nat) (z : Int) (wr : World) : Prop :=
  z = (j : Int) - 1 ∧ ∃ Y, backR X (ms.reverse.take (ms.length - j)) = some Y ∧ RowAt wr g 31 (Cs encW Y).toArray ∧ RowAt wr ga 22 #[.slice (some ⟨g, 0, none⟩) n n] ∧ Below W.heap.size W wr

theorem pback_zero (A Am : Option Addr) (c cm m : Nat) (W : World) : Calls Try.prog 27 #[.slice A 0 c, .slice Am m cm] W fun e W' => e = .returned (.tuple #[.slice none 0 0, .int .i64 120]) ∧ Below W.heap.size W W' := by
  go_enter Try.func27, Try.ntmps27
  go_wp2_with fail
  go_ret2
  exact ⟨rfl, Below.refl _ _⟩

set_option maxRecDepth 100000 in
set_option maxHeartbeats 4000000 in
theorem pback_any (A Am : Option Addr) (c n cm m : Nat) (X : List Int) (ms : List Mk) (W : World) (h : Rd W W.heap.size 1 A n (Cs encW X)) (hx : X.length = n) (hn1 : 1 ≤ n) (hn : n ≤ 8192) (hl : Rd W W.heap.size 4 Am m (Cs encM ms)) (hm : ms.length = m) (hm2 : m ≤ 1000) (Yo : Option (List Int)) (hY : backX X ms = Yo) :
    Calls Try.prog 27 #[.slice A n c, .slice Am m cm] W (BackRes W n Yo) := by
  have p0 : (1 : Int) ≤ n := by omega
  have p1 : (n : Int) ≤ 8192 := by omega
  have HL := hide hl
  have HLM := hide hm
  have HE := hide hY
  have HXL := hide hx
  have HO := hide (pown_any A c n X W h hx hn1 hn)
  clear h hl hY hx
  go_enter Try.func27, Try.ntmps27
  go_wp2_with fail
  with_reducible refine HO.out.mono ?_
  rintro x w1 ⟨g, rfl, hrow, hg, hb⟩
  have HG := hide hg
  obtain ⟨ga, hga⟩ : ∃ g, w1.heap.size = g := ⟨_, rfl⟩
  have hgga : g < ga := by rw [← hga]; exact hrow.lt
  have hWga : W.heap.size ≤ ga := by omega
  have HROW := hide (hrow.below ((Below.refl _ _).alloc (Nat.le_refl _) (.cells #[.slice (some ⟨g, 0, none⟩) n n] 22)))
  have HBOX := hide (show RowAt (w1.alloc (.cells #[.slice (some ⟨g, 0, none⟩) n n] 22)) ga 22 #[.slice (some ⟨g, 0, none⟩) n n] from by
    have h := RowAt.new w1 22 #[.slice (some ⟨g, 0, none⟩) n n]
    rw [hga] at h
    exact h)
  have HB1 := hide (hb.alloc hb.size (.cells #[.slice (some ⟨g, 0, none⟩) n n] 22))
  have HGA := hide hga
  clear hrow hb HO hga
  go_wp2_with fail
  rw [HGA.out]
  generalize (w1.alloc (.cells #[.slice (some ⟨g, 0, none⟩) n n] 22)) = w2 at *
  go_loopw [8] (fun i wr => ∃ (j : Nat) (z : Int), j ≤ m ∧ i = .int .i64 z ∧ BackAt W ga g n X ms j z wr) (fun i _ => (intOf i + 1).toNat)
  case atStart => exact ⟨m, (m : Int) - 1, Nat.le_refl _, by first | rfl | go_num, rfl, X, by rw [HLM.out, Nat.sub_self]; rfl, HROW.out, HBOX.out, HB1.out⟩
  case round =>
    obtain ⟨j, z, hj, rfl, hz, Y, hyy, hrow, hbox, hbW⟩ := hrel
    have HYY := hide hyy
    have HR := hide hrow
    have HBX := hide hbox
    have HB := hide hbW
    have HLY := hide (show Y.length = n by rw [backR_length hyy, HXL.out])
    have l1 := hbox.lt
    have z1 := row1 hbox
    clear hyy hrow hbox hbW
    by_cases h0 : j = 0
    · subst h0
      obtain rfl : z = -1 := by omega
      clear hz
      go_wp2_with fail
      go_ret2
      exact ⟨HB.out, .inr ⟨Y, g, by rw [← HE.out]; exact back_all HYY.out, rfl, HG.out, HR.out⟩⟩
    · obtain ⟨k, rfl⟩ : ∃ k, j = k + 1 := ⟨j - 1, by omega⟩
      obtain rfl : z = (k : Int) := by omega
      clear hz
      have hkm : k < m := by omega
      obtain ⟨b, o, rfl, hb, mk, hmk, d0, d1, d2, d3⟩ := (HL.out.below HB.out).mark HLM.out hkm
      obtain ⟨m1, at_, m3, m4⟩ := mk
      dsimp only at d0 d1 d2 d3
      have hszW := HB.out.size
      have hbl : b < wr.heap.size := by omega
      have hmk2 : ms[k]'(by rw [HLM.out]; exact hkm) = (m1, at_, m3, m4) := by
        rw [List.getElem?_eq_getElem (by rw [HLM.out]; exact hkm)] at hmk
        injection hmk
      have HMK := hide hmk2
      obtain ⟨r, hr⟩ : ∃ r, (!backOk Y (m1, at_, m3, m4)) = r := ⟨_, rfl⟩
      have HRR := hide hr
      have HC := hide (bad_any ga g n Y m1 at_ m3 m4 wr HBX.out HR.out HLY.out r hr)
      clear hmk hmk2 hr
      go_wp2_with fail
      with_reducible refine HC.out.mono ?_
      rintro x w5 ⟨rfl, hb5⟩
      have HB5 := hide (HB.out.trans (hb5.mono HB.out.size))
      have HR5 := hide (HR.out.below hb5)
      have HBX5 := hide (HBX.out.below hb5)
      have d1' := kept hb5 d1
      have d2' := kept hb5 d2
      have l5 := HBX5.out.lt
      have z5 := row1 HBX5.out
      have hbl5 : b < w5.heap.size := Nat.lt_of_lt_of_le hbl hb5.size
      clear d0 d1 d2 d3 hb5 HC
      cases r
      · have hok : backOk Y (m1, at_, m3, m4) = true := by have h := HRR.out; simpa using h
        obtain ⟨k2, rfl, hk2⟩ : ∃ k2 : Nat, at_ = k2 ∧ k2 < n := by
          have h := hok
          unfold backOk at h
          simp at h
          exact ⟨at_.toNat, by omega, by have := HLY.out; omega⟩
        have hk2n : (k2 : Int) < n := by omega
        have x0 := row_word HR5.out (show k2 < Y.length by rw [HLY.out]; exact hk2)
        have xf := HR5.out.frozen k2
        have lg := HR5.out.lt
        have HOK := hide hok
        have HRS := hide ((row_set HR5.out k2 m3).drew)
        have HBS := hide ((HBX5.out.setNe (show ga ≠ g by omega) (o := k2) (v := .int .u64 m3)).drew)
        have HBB := hide (((HB5.out.setCell (p := ⟨g, k2, none⟩) HG.out (.int .u64 m3))).drew)
        clear hok
        go_wp2_with fail
        go_region
        all_goals
          go_wp2_with fail
          go_roundw
          case rel => exact ⟨k, (k : Int) - 1, by omega, rfl, rfl, back1 Y (m1, (k2 : Int), m3, m4), by have h := back_yes (show k < ms.length by rw [HLM.out]; exact hkm) HYY.out (by rw [HMK.out]; exact HOK.out); rw [HMK.out] at h; exact h, HRS.out, HBS.out, HBB.out⟩
          case measure => simp [intOf]
      · have hno : backOk Y (m1, at_, m3, m4) = false := by have h := HRR.out; simpa using h
        have HNO := hide (show none = Yo from by rw [← HE.out]; exact (back_no (show k < ms.length by rw [HLM.out]; exact hkm) HYY.out (by rw [HMK.out]; exact hno)).symm)
        clear hno
        go_wp2_with fail
        go_ret2
        exact ⟨HB5.out, .inl ⟨HNO.out.symm, rfl⟩⟩
end Go.Proofs.Ytadgihmokmfejaa
