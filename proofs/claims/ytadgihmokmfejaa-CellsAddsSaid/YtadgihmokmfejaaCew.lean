/-
  A thing that has cells: made; accessed; its words.
-/
import Derived.Test.YtadgihmokmfejaaCev
import Derived.Test.YtadgihmokmfejaaCek
set_option linter.unusedSimpArgs false
set_option linter.unusedVariables false
namespace Go.Proofs.Ytadgihmokmfejaa
open Go Go.RowKit
attribute [local go_sem] via_cell via_frozen

theorem Cs_rep (n : Nat) : madeCells #[.int .u64 0] n = (Cs encW (List.replicate n 0)).toArray := by
  apply Array.ext'
  apply List.ext_getElem?
  intro j
  by_cases hj : j < n
  · have h2 := Cs_at encW_len (List.replicate n 0) j 0 (by simpa using hj) (by omega)
    rw [Nat.mul_one, Nat.add_zero] at h2
    rw [h2]
    simp [madeCells, hj, Value.cells, encW, Nat.mod_one]
  · rw [List.getElem?_eq_none (l := Cs encW (List.replicate n 0)) (by rw [Cs_length encW_len]; simp; omega), List.getElem?_eq_none (by simp [madeCells]; omega)]

theorem elU : ElemOk Try.prog 67 74 1 8 (.agg #[.int .u64 0]) := ⟨Try.underlying67, by kernel_rfl, rfl, by omega, by omega, by intro u hu; simp [Value.cells] at hu; subst hu; rfl⟩
/-- Words of which the first ones are there. -/
def part (X : List Int) (j : Nat) : List Int := X.take j ++ List.replicate (X.length - j) 0
theorem part_zero (X : List Int) : part X 0 = List.replicate X.length 0 := by simp [part]
theorem part_all (X : List Int) : part X X.length = X := by simp [part]
theorem part_length (X : List Int) (j : Nat) (h : j ≤ X.length) : (part X j).length = X.length := by simp [part]; omega
theorem part_set (X : List Int) (j : Nat) (h : j < X.length) : (part X j).set j (ceAt X j) = part X (j + 1) := by
  have hc : ceAt X j = X[j] := by unfold ceAt; rw [Int.toNat_natCast, List.getD_eq_getElem?_getD, List.getElem?_eq_getElem h]; rfl
  have h1 : (X.take j).length = j := by rw [List.length_take]; omega
  have h2 : List.replicate (X.length - j) (0 : Int) = 0 :: List.replicate (X.length - (j + 1)) 0 := by
    rw [show X.length - j = (X.length - (j + 1)) + 1 by omega]; rfl
  unfold part
  rw [hc, List.set_append_right _ _ (by omega), h1, Nat.sub_self, h2, List.take_succ_eq_append_getElem h]
  simp only [List.append_assoc, List.singleton_append, List.set_cons_zero]

/-- A thing that has cells. -/
structure ShP (w : World) (gs ga n : Nat) (X : List Int) : Prop where
  len : X.length = n
  pos : 1 ≤ n
  top : n ≤ 8192
  ne : ga ≠ gs
  box : RowAt w gs 69 #[.slice (some ⟨ga, 0, none⟩) n n]
  row : RowAt w ga 74 (Cs encW X).toArray
theorem ShP.below {w w' : World} {gs ga n : Nat} {X : List Int} (h : ShP w gs ga n X) (hb : Below w.heap.size w w') : ShP w' gs ga n X := ⟨h.len, h.pos, h.top, h.ne, h.box.below hb, h.row.below hb⟩

def ShareRes (W : World) (n : Nat) (X : List Int) (x : Ending) (W' : World) : Prop := ∃ gs ga, x = .returned (.tuple #[.pointer (some ⟨gs, 0, none⟩), .int .i64 0]) ∧ ShP W' gs ga n X ∧ W.heap.size ≤ gs ∧ W.heap.size ≤ ga ∧ Below W.heap.size W W'

theorem share_zero (A : Option Addr) (c : Nat) (W : World) : Calls Try.prog 11 #[.slice A 0 c] W fun e W' => e = .returned (.tuple #[.pointer none, .int .i64 120]) ∧ W = W' := by
  go_enter Try.func11, Try.ntmps11
  go_wp2_with fail
  go_ret2
  exact ⟨rfl, rfl⟩

def ShareAt (W : World) (gs ga n : Nat) (X : List Int) (j : Nat) (wr : World) : Prop := RowAt wr gs 69 #[.slice (some ⟨ga, 0, none⟩) n n] ∧ RowAt wr ga 74 (Cs encW (part X j)).toArray ∧ Below W.heap.size W wr

set_option maxHeartbeats 2000000 in
theorem share_any (A : Option Addr) (c n : Nat) (X : List Int) (W : World) (h : Rd W W.heap.size 1 A n (Cs encW X)) (hx : X.length = n) (hn : 1 ≤ n) (hl : n ≤ 8192) :
    Calls Try.prog 11 #[.slice A n c] W (ShareRes W n X) := by
  obtain ⟨i0, hi0, hz0, hz1, hz2⟩ := info_parts elU.info
  have hmk := fun w => run_make_rowN (P := Try.prog) 67 74 i0 _ Try.underlying67 hi0 hz0 .i64 .i64 n n (Nat.le_refl _) (by rw [hz2]; omega) (by omega) w
  rw [hz1, Nat.mul_one] at hmk
  clear hi0 hz0 hz1 hz2
  have hmz : madeCells (Value.agg #[.int .u64 0]).cells n = (Cs encW (List.replicate n 0)).toArray := Cs_rep n
  simp only [hmz] at hmk
  have hmz2 : madeCells #[.int .u64 0] n = (Cs encW (List.replicate n 0)).toArray := Cs_rep n
  have p0 : (1 : Int) ≤ n := by omega
  have p1 : (n : Int) ≤ 8192 := by omega
  obtain ⟨ga, hga⟩ : ∃ g, W.heap.size = g := ⟨_, rfl⟩
  have HGA := hide hga
  have HH := hide h
  have HX := hide hx
  have HB0 := hide (show Below W.heap.size W ((W.alloc (.cells (Cs encW (List.replicate n 0)).toArray 74)).alloc (.cells #[.slice (some ⟨ga, 0, none⟩) n n] 69)) from ((Below.refl _ _).alloc (Nat.le_refl _) _).alloc (by simp) _)
  have HR0 := hide (show RowAt ((W.alloc (.cells (Cs encW (List.replicate n 0)).toArray 74)).alloc (.cells #[.slice (some ⟨ga, 0, none⟩) n n] 69)) ga 74 (Cs encW (part X 0)).toArray from by
    rw [part_zero, hx]
    have h := RowAt.new W 74 (Cs encW (List.replicate n 0)).toArray
    rw [hga] at h
    exact h.below ((Below.refl _ _).alloc (Nat.le_refl _) _))
  have HS0 := hide (show RowAt ((W.alloc (.cells (Cs encW (List.replicate n 0)).toArray 74)).alloc (.cells #[.slice (some ⟨ga, 0, none⟩) n n] 69)) (ga + 1) 69 #[.slice (some ⟨ga, 0, none⟩) n n] from by
    have h := RowAt.new (W.alloc (.cells (Cs encW (List.replicate n 0)).toArray 74)) 69 #[.slice (some ⟨ga, 0, none⟩) n n]
    rw [World.size_alloc, hga] at h
    exact h)
  clear h hx hmz hga
  go_enter Try.func11, Try.ntmps11
  go_wp2_with fail
  rw [HGA.out]
  generalize ((W.alloc (.cells (Cs encW (List.replicate n 0)).toArray 74)).alloc (.cells #[.slice (some ⟨ga, 0, none⟩) n n] 69)) = w2 at *
  go_loopw [22] (fun i wr => ∃ j : Nat, j ≤ n ∧ i = .int .i64 j ∧ ShareAt W (ga + 1) ga n X j wr) (fun i _ => n - (intOf i).toNat)
  case atStart => exact ⟨0, Nat.zero_le _, rfl, HS0.out, HR0.out, HB0.out⟩
  case round =>
    obtain ⟨j, hj, rfl, hbox, hrow, hbw⟩ := hrel
    have HBX := hide hbox
    have HR := hide hrow
    have HB := hide hbw
    have z0 := row1 hbox
    have lz := hbox.lt
    clear hbox hrow
    by_cases hlt : j < n
    · obtain ⟨b, o, rfl, hb, x0⟩ := (HH.out.below hbw).word HX.out hlt
      have hbl : b < wr.heap.size := Nat.lt_of_lt_of_le hb hbw.size
      have hjn : (j : Int) < n := by omega
      have HC := hide (ustore_any ga j 74 (part X j) (ceAt X j) wr HR.out (by rw [part_length _ _ (by rw [HX.out]; exact hj), HX.out]; exact hlt))
      have HPS := hide (part_set X j (by rw [HX.out]; exact hlt))
      generalize ceAt X j = v at *
      clear hb hbw
      go_wp2_with fail
      with_reducible refine HC.out.mono ?_
      rintro e w3 ⟨⟨r, rfl⟩, rfl⟩
      go_wp2_with fail
      go_roundw
      case rel => exact ⟨j + 1, by omega, by go_num, HBX.out.setNe (by omega), by rw [← HPS.out]; exact row_set HR.out j v, HB.out.setCell (p := ⟨ga, j, none⟩) (by have := HGA.out; show W.heap.size ≤ ga; omega) _⟩
      case measure => simp [intOf]; omega
    · go_wp2_with fail
      go_ret2
      obtain rfl : j = n := by omega
      have hr := HR.out
      rw [← HX.out, part_all] at hr
      have hg := HGA.out
      exact ⟨ga + 1, ga, rfl, ⟨HX.out, hn, hl, by omega, HBX.out, hr⟩, by omega, by omega, HB.out⟩

theorem words_nil (W : World) : Calls Try.prog 14 #[.pointer none] W fun e W' => e = .returned (.slice none 0 0) ∧ W = W' := by
  go_enter Try.func14, Try.ntmps14
  go_wp2_with fail
  go_ret
  exact ⟨rfl, rfl⟩

def WordsAt (W : World) (go n : Nat) (X : List Int) (j : Nat) (wr : World) : Prop := RowAt wr go 31 (Cs encW (part X j)).toArray ∧ Below W.heap.size W wr
set_option maxHeartbeats 2000000 in
theorem words_any (gs ga n : Nat) (X : List Int) (W : World) (h : ShP W gs ga n X) : Calls Try.prog 14 #[.pointer (some ⟨gs, 0, none⟩)] W (OwnW W n X) := by
  obtain ⟨i0, hi0, hz0, hz1, hz2⟩ := info_parts elW.info
  have hn1 := h.pos
  have hl := h.top
  have hmk := fun w => run_make_rowN (P := Try.prog) 22 31 i0 _ Try.underlying22 hi0 hz0 .i64 .i64 n n (Nat.le_refl _) (by rw [hz2]; omega) (by omega) w
  rw [hz1, Nat.mul_one] at hmk
  clear hi0 hz0 hz1 hz2
  have hmz : madeCells (Value.int .u64 0).cells n = (Cs encW (List.replicate n 0)).toArray := Cs_rep n
  simp only [hmz] at hmk
  have hmz2 : madeCells #[.int .u64 0] n = (Cs encW (List.replicate n 0)).toArray := Cs_rep n
  have HP := hide h
  have HX := hide h.len
  have z0 := row1 h.box
  have lz := h.box.lt
  obtain ⟨go, hgo⟩ : ∃ g, W.heap.size = g := ⟨_, rfl⟩
  have HGO := hide hgo
  have HB0 := hide (show Below W.heap.size W (W.alloc (.cells (Cs encW (List.replicate n 0)).toArray 31)) from (Below.refl _ _).alloc (Nat.le_refl _) _)
  have HR0 := hide (show RowAt (W.alloc (.cells (Cs encW (List.replicate n 0)).toArray 31)) go 31 (Cs encW (part X 0)).toArray from by
    rw [part_zero, h.len]
    have h := RowAt.new W 31 (Cs encW (List.replicate n 0)).toArray
    rw [hgo] at h
    exact h)
  clear h hmz hgo
  go_enter Try.func14, Try.ntmps14
  go_wp2_with fail
  rw [HGO.out]
  generalize (W.alloc (.cells (Cs encW (List.replicate n 0)).toArray 31)) = w2 at *
  go_loopw [18] (fun i wr => ∃ j : Nat, j ≤ n ∧ i = .int .i64 j ∧ WordsAt W go n X j wr) (fun i _ => n - (intOf i).toNat)
  case atStart => exact ⟨0, Nat.zero_le _, rfl, HR0.out, HB0.out⟩
  case round =>
    obtain ⟨j, hj, rfl, hrow, hbw⟩ := hrel
    have HR := hide hrow
    have HB := hide hbw
    have HP2 := hide (HP.out.below hbw)
    have z2 := row1 HP2.out.box
    have lz2 := HP2.out.box.lt
    clear hrow hbw
    by_cases hlt : j < n
    · have hjn : (j : Int) < n := by omega
      have HC := hide (uload_any ga j 74 X wr HP2.out.row (by rw [HX.out]; exact hlt))
      have HPS := hide (part_set X j (by rw [HX.out]; exact hlt))
      have x0 := row_word HR.out (show j < (part X j).length by rw [part_length _ _ (by rw [HX.out]; exact hj), HX.out]; exact hlt)
      have xf := HR.out.frozen j
      have lo := HR.out.lt
      generalize ceAt (part X j) j = v0 at *
      generalize ceAt X j = v at *
      go_wp2_with fail
      with_reducible refine HC.out.mono ?_
      rintro e w3 ⟨rfl, rfl⟩
      go_wp2_with fail
      go_roundw
      case rel => exact ⟨j + 1, by omega, by go_num, by rw [← HPS.out]; exact row_set HR.out j v, HB.out.setCell (p := ⟨go, j, none⟩) (by have := HGO.out; show W.heap.size ≤ go; omega) _⟩
      case measure => simp [intOf]; omega
    · go_wp2_with fail
      go_ret
      obtain rfl : j = n := by omega
      have hr := HR.out
      rw [← HX.out, part_all] at hr
      have hg := HGO.out
      exact ⟨go, rfl, hr, by omega, HB.out⟩
end Go.Proofs.Ytadgihmokmfejaa
