/-
  The law's: the layer wakes.
-/
import Derived.Test.YtlelpnahillioaaMum
set_option linter.unusedSimpArgs false
set_option linter.unusedVariables false
namespace Go.Proofs.Ytlelpnahillioaa
open Go Go.RowKit
attribute [local go_sem] via_cell via_frozen

theorem EqualIn (B1 B2 : Nat) (A1 A2 : Option Addr) (c1 c2 n m : Nat) (xs ys : List Int) (W : World) (hn : xs.length = n) (hm : ys.length = m) (h1 : Rd W B1 1 A1 n (Cs encI xs)) (h2 : Rd W B2 1 A2 m (Cs encI ys)) (hB1 : B1 ≤ W.heap.size) (hB2 : B2 ≤ W.heap.size)
    (hl1 : n ≤ 4096) (hl2 : m ≤ 4096) (r : Bool) (hr : decide (xs = ys) = r) :
    Calls Try.prog 30 #[.slice A1 n c1, .slice A2 m c2] W fun e W' => e = .returned (.bool r) ∧ Below W.heap.size W W' := by
  subst hn hm
  exact EqualI B1 B2 A1 A2 c1 c2 xs ys W h1 h2 hB1 hB2 hl1 hl2 r hr
theorem rdNew (w : World) (l : List Int) : Rd (w.alloc (.cells (vals l) 3)) (w.alloc (.cells (vals l) 3)).heap.size 1 (some ⟨w.heap.size, 0, none⟩) l.length (Cs encI l) := by
  have h := Rd.new w (vals l) 3 1 l.length (by simp [vals])
  have e : (vals l).toList = Cs encI l := by
    clear h
    unfold vals Cs
    induction l with
    | nil => rfl
    | cons x l ih => simp [encI, valI] at ih ⊢; exact ih
  rw [e] at h
  exact h.more (by rw [World.size_alloc]; exact Nat.le_refl _)
/-- Mutexes in memory of their own, from a base on. -/
structure Own (base : Nat) (w : World) (A : Option Addr) (m c : Nat) (l : Ml) : Prop where
  ex : ∃ ts, mus ts = l ∧ ts.length = m ∧ MadeM base w (.slice A m c) ts
theorem Own.below {base : Nat} {w w' : World} {A : Option Addr} {m c : Nat} {l : Ml} (h : Own base w A m c l) (hb : Below w.heap.size w w') : Own base w' A m c l := by
  obtain ⟨ts, h1, h2, h3⟩ := h.ex
  exact ⟨ts, h1, h2, h3.below hb⟩
theorem Own.base {b b' : Nat} {w : World} {A : Option Addr} {m c : Nat} {l : Ml} (h : Own b w A m c l) (hb : b' ≤ b) : Own b' w A m c l := by
  obtain ⟨ts, h1, h2, h3⟩ := h.ex
  exact ⟨ts, h1, h2, h3.base hb⟩
theorem Own.rm {base : Nat} {w : World} {A : Option Addr} {m c : Nat} {l : Ml} (h : Own base w A m c l) : ∃ ts, mus ts = l ∧ RM w w.heap.size A m ts := by
  obtain ⟨ts, h1, h2, h3⟩ := h.ex
  exact ⟨ts, h1, h3.rm h2⟩
theorem Own.len {base : Nat} {w : World} {A : Option Addr} {m c : Nat} {l : Ml} (h : Own base w A m c l) : l.length = m := by
  obtain ⟨ts, h1, h2, h3⟩ := h.ex
  rw [← h1, mus_len, h2]
/-- As many as can be gone through. -/
def SmallL (l : Ml) : Prop := l.length ≤ 4096 ∧ ∀ x ∈ l, x.2.length ≤ 4096
theorem smallM_of {ts : List Mm} {l : Ml} (hl : mus ts = l) (h : SmallL l) : SmallM ts := by
  subst hl
  exact ⟨by have := h.1; rwa [mus_len] at this, fun t ht => h.2 t.mu (List.mem_map_of_mem ht)⟩
theorem RightM.small {l : Ml} (h : RightM l) : SmallL l := ⟨by have := h.hi; omega, fun x hx => Nat.le_trans (h.q_len hx) (by omega)⟩
def OutK (base : Nat) (l : Ml) (vv : Value) (E : Int) (e : Ending) (W' : World) : Prop := ∃ A m c, e = .returned (.tuple #[.slice A m c, vv, .int .i64 E]) ∧ Own base W' A m c l
theorem OutRes.K {W : World} {β : Type} {r : Except Int (Ml × β)} {vv : Value} {e : Ending} {W' : World} (h : OutRes W r vv e W') : OutK W.heap.size (outL r) vv (outE r) e W' := by
  obtain ⟨A, m, c, ts, h1, h2, h3, h4⟩ := h
  exact ⟨A, m, c, h1, ⟨ts, h2, h3, h4⟩⟩
theorem AskK {base : Nat} {A : Option Addr} {m c : Nat} {l : Ml} (wv gv : Int) {W : World} (h : Own base W A m c l) (hs : SmallL l) {l2 : Ml} {b : Bool} {E : Int} (h1 : outL (askF l wv gv) = l2) (h2 : outV false (askF l wv gv) = b) (h3 : outE (askF l wv gv) = E) :
    Calls Try.prog 12 #[.slice A m c, .int .i64 wv, .int .i64 gv] W fun e W' => OutK W.heap.size l2 (.bool b) E e W' ∧ Below W.heap.size W W' := by
  obtain ⟨ts, hl, hr⟩ := h.rm
  refine (Ask_any A c m ts wv gv W hr (smallM_of hl hs)).mono ?_
  rintro e W' ⟨ho, hb⟩
  have := ho.K
  rw [hl, h1, h2, h3] at this
  exact ⟨this, hb⟩
theorem LeaveK {base : Nat} {A : Option Addr} {m c : Nat} {l : Ml} (wv gv : Int) {W : World} (h : Own base W A m c l) (hs : SmallL l) {l2 : Ml} {n : Int} {E : Int} (h1 : outL (leaveF l wv gv) = l2) (h2 : outV 0 (leaveF l wv gv) = n) (h3 : outE (leaveF l wv gv) = E) :
    Calls Try.prog 13 #[.slice A m c, .int .i64 wv, .int .i64 gv] W fun e W' => OutK W.heap.size l2 (.int .i64 n) E e W' ∧ Below W.heap.size W W' := by
  obtain ⟨ts, hl, hr⟩ := h.rm
  refine (Leave_any A c m ts wv gv W hr (smallM_of hl hs)).mono ?_
  rintro e W' ⟨ho, hb⟩
  have := ho.K
  rw [hl, h1, h2, h3] at this
  exact ⟨this, hb⟩
theorem PlayK {base : Nat} {A : Option Addr} {m c : Nat} {l : Ml} {Ad : Option Addr} {nd cd : Nat} {ds : List Dd} {W : World} (h : Own base W A m c l) (hs : SmallL l) (hd : Rd W W.heap.size 3 Ad nd (Cs encD ds)) (hn : ds.length = nd) (hnd : nd ≤ 4096) {l2 : Ml} {n : Int} {E : Int} (h1 : outL (playF l ds) = l2) (h2 : ((outV 0 (playF l ds) : Nat) : Int) = n) (h3 : outE (playF l ds) = E) :
    Calls Try.prog 18 #[.slice A m c, .slice Ad nd cd] W fun e W' => OutK W.heap.size l2 (.int .i64 n) E e W' ∧ Below W.heap.size W W' := by
  obtain ⟨ts, hl, hr⟩ := h.rm
  refine (Play_any A c m ts Ad nd cd ds W hr (smallM_of hl hs) hd hn hnd).mono ?_
  rintro e W' ⟨ho, hb⟩
  have := ho.K
  rw [hl, h1, h2, h3] at this
  exact ⟨this, hb⟩
theorem WaitsK {base : Nat} {A : Option Addr} {m c : Nat} {l : Ml} (g : Int) {W : World} (h : Own base W A m c l) (hs : SmallL l) {z : Int} {b : Bool} (h1 : (if rightM l then max (waitsX l g) 0 else 0) = z) (h2 : (rightM l && decide (0 ≤ waitsX l g)) = b) :
    Calls Try.prog 25 #[.slice A m c, .int .i64 g] W fun e W' => e = .returned (.tuple #[.int .i64 z, .bool b]) ∧ Below W.heap.size W W' := by
  obtain ⟨ts, hl, hr⟩ := h.rm
  exact Waits_any W.heap.size A c m ts g W hr (smallM_of hl hs) (Nat.le_refl _) z b (by rw [hl]; exact h1) (by rw [hl]; exact h2)
def OwnIK (base : Nat) (xs : List Int) (n : Nat) (e : Ending) (w : World) : Prop := ∃ A c, e = .returned (.slice A n c) ∧ xs.length = n ∧ Rd w w.heap.size 1 A n (Cs encI xs) ∧ w.ownsRow base 3 1 (.slice A n c) n (Cs encI xs)
theorem OwnI.K {base : Nat} {xs : List Int} {e : Ending} {w : World} (h : OwnI base xs e w) : OwnIK base xs xs.length e w := by
  obtain ⟨A, c, h1, h2⟩ := h
  exact ⟨A, c, h1, rfl, Rd.of_own h2, h2⟩
theorem HasK {base : Nat} {A : Option Addr} {m c : Nat} {l : Ml} (g : Int) {W : World} (h : Own base W A m c l) (hs : SmallL l) {xs : List Int} {n : Nat} (h1 : (if rightM l then hasX l g else []) = xs) (hn : xs.length = n) :
    Calls Try.prog 24 #[.slice A m c, .int .i64 g] W fun e W' => OwnIK W.heap.size xs n e W' ∧ Below W.heap.size W W' := by
  obtain ⟨ts, hl, hr⟩ := h.rm
  refine (has_any W.heap.size A c m ts g W hr (smallM_of hl hs) (Nat.le_refl _) xs (by rw [hl]; exact h1)).mono ?_
  rintro e W' ⟨ho, hb⟩
  exact ⟨by rw [← hn]; exact ho.K, hb⟩
theorem RingK {base : Nat} {A : Option Addr} {m c : Nat} {l : Ml} {W : World} (h : Own base W A m c l) (hs : SmallL l) {xs : List Int} {n : Nat} (h1 : (if rightM l then ringX l else []) = xs) (hn : xs.length = n) :
    Calls Try.prog 23 #[.slice A m c] W fun e W' => OwnIK W.heap.size xs n e W' ∧ Below W.heap.size W W' := by
  obtain ⟨ts, hl, hr⟩ := h.rm
  refine (ring_any W.heap.size A c m ts W hr (smallM_of hl hs) (Nat.le_refl _) xs (by rw [hl]; exact h1)).mono ?_
  rintro e W' ⟨ho, hb⟩
  exact ⟨by rw [← hn]; exact ho.K, hb⟩
theorem NewK (n : Nat) (z : Int) (hz : (n : Int) = z) (h1 : 1 ≤ n) (h2 : n ≤ 160) (W : World) :
    Calls Try.prog 20 #[.int .i64 z] W fun e W' => (∃ A c, e = .returned (.tuple #[.slice A n c, .int .i64 0]) ∧ Own W.heap.size W' A n c (mus (newL n))) ∧ Below W.heap.size W W' := by
  subst hz
  refine (new_any n W).mono ?_
  rintro e W' ⟨hr, hb⟩
  rcases hr with ⟨_, _, A, c, he, hm, _⟩ | ⟨hno, _⟩
  · rw [Int.toNat_natCast] at he hm
    exact ⟨⟨A, c, he, ⟨_, rfl, by simp [newL], hm⟩⟩, hb⟩
  · exact absurd ⟨by omega, by omega⟩ hno
set_option maxHeartbeats 4000000 in
set_option maxRecDepth 100000 in
theorem wakes_any (W : World) : Calls Try.prog 8 #[] W fun e W' => e = .returned (.bool true) ∧ Below W.heap.size W W' := by
  go_enter Try.func8, Try.ntmps8
  go_wp2_with fail
  with_reducible refine (NewK 3 3 rfl (by omega) (by omega) W).mono ?_
  rintro e w1 ⟨⟨A1, c1, rfl, ho⟩, hb⟩
  have HO := hide (show Own 0 w1 A1 3 c1 [(0, []), (0, []), (0, [])] from ho.base (Nat.zero_le _))
  have HB := hide hb
  clear ho hb
  go_wp2_with fail
  with_reducible refine (AskK 1 0 HO.out (by unfold SmallL; decide) (l2 := [(0, []), (1, []), (0, [])]) (b := true) (E := 0) (by decide) (by decide) (by decide)).mono ?_
  rintro e w2 ⟨⟨A2, m2, c2, rfl, ho⟩, hb⟩
  have HO := hide (show Own 0 w2 A2 m2 c2 [(0, []), (1, []), (0, [])] from ho.base (Nat.zero_le _))
  replace HB := hide (HB.out.trans (hb.mono HB.out.size))
  clear ho hb
  go_wp2_with fail
  with_reducible refine (AskK 1 2 HO.out (by unfold SmallL; decide) (l2 := [(0, []), (1, [2]), (0, [])]) (b := false) (E := 0) (by decide) (by decide) (by decide)).mono ?_
  rintro e w3 ⟨⟨A3, m3, c3, rfl, ho⟩, hb⟩
  have HO := hide (show Own 0 w3 A3 m3 c3 [(0, []), (1, [2]), (0, [])] from ho.base (Nat.zero_le _))
  replace HB := hide (HB.out.trans (hb.mono HB.out.size))
  clear ho hb
  go_wp2_with fail
  with_reducible refine (AskK 1 1 HO.out (by unfold SmallL; decide) (l2 := [(0, []), (1, [2, 1]), (0, [])]) (b := false) (E := 0) (by decide) (by decide) (by decide)).mono ?_
  rintro e w4 ⟨⟨A4, m4, c4, rfl, ho⟩, hb⟩
  have HO := hide (show Own 0 w4 A4 m4 c4 [(0, []), (1, [2, 1]), (0, [])] from ho.base (Nat.zero_le _))
  replace HB := hide (HB.out.trans (hb.mono HB.out.size))
  clear ho hb
  go_wp2_with fail
  with_reducible refine (LeaveK 1 0 HO.out (by unfold SmallL; decide) (l2 := [(0, []), (3, [1]), (0, [])]) (n := 2) (E := 0) (by decide) (by decide) (by decide)).mono ?_
  rintro e w5 ⟨⟨A5, m5, c5, rfl, ho⟩, hb⟩
  have HO := hide (show Own 0 w5 A5 m5 c5 [(0, []), (3, [1]), (0, [])] from ho.base (Nat.zero_le _))
  replace HB := hide (HB.out.trans (hb.mono HB.out.size))
  clear ho hb
  go_wp2_with fail
  with_reducible refine (LeaveK 1 0 HO.out (by unfold SmallL; decide) (l2 := []) (n := 0) (E := 4) (by decide) (by decide) (by decide)).mono ?_
  rintro e w6 ⟨⟨A6, m6, c6, rfl, ho⟩, hb⟩
  replace HO := hide (HO.out.below hb)
  replace HB := hide (HB.out.trans (hb.mono HB.out.size))
  clear ho hb
  go_wp2_with fail
  with_reducible refine (WaitsK 1 HO.out (by unfold SmallL; decide) (z := 1) (b := true) (by decide) (by decide)).mono ?_
  rintro e w7 ⟨rfl, hb⟩
  replace HO := hide (HO.out.below hb)
  replace HB := hide (HB.out.trans (hb.mono HB.out.size))
  clear hb
  go_wp2_with fail
  with_reducible refine (NewK 2 2 rfl (by omega) (by omega) w7).mono ?_
  rintro e w8 ⟨⟨A8, c8, rfl, ho⟩, hb⟩
  have HT := hide (show Own 0 w8 A8 2 c8 [(0, []), (0, [])] from ho.base (Nat.zero_le _))
  replace HO := hide (HO.out.below hb)
  replace HB := hide (HB.out.trans (hb.mono HB.out.size))
  clear ho hb
  have HBL := hide (show Below w8.heap.size w8 (w8.alloc (.cells #[.bool false, .int .i64 0, .int .i64 0, .bool false, .int .i64 1, .int .i64 1, .bool false, .int .i64 0, .int .i64 1, .bool false, .int .i64 1, .int .i64 0] 29)) from (Below.refl _ _).alloc (Nat.le_refl _) _)
  have HRD := hide ((Rd.new w8 #[.bool false, .int .i64 0, .int .i64 0, .bool false, .int .i64 1, .int .i64 1, .bool false, .int .i64 0, .int .i64 1, .bool false, .int .i64 1, .int .i64 0] 29 3 4 rfl).more (show w8.heap.size + 1 ≤ (w8.alloc (.cells #[.bool false, .int .i64 0, .int .i64 0, .bool false, .int .i64 1, .int .i64 1, .bool false, .int .i64 0, .int .i64 1, .bool false, .int .i64 1, .int .i64 0] 29)).heap.size from by rw [World.size_alloc]; exact Nat.le_refl _))
  replace HT := hide (HT.out.below HBL.out)
  replace HO := hide (HO.out.below HBL.out)
  replace HB := hide (HB.out.trans (HBL.out.mono HB.out.size))
  go_wp2_with fail
  generalize w8.alloc (.cells #[.bool false, .int .i64 0, .int .i64 0, .bool false, .int .i64 1, .int .i64 1, .bool false, .int .i64 0, .int .i64 1, .bool false, .int .i64 1, .int .i64 0] 29) = wd at *
  with_reducible refine (PlayK (nd := 4) (ds := [(false, 0, 0), (false, 1, 1), (false, 0, 1), (false, 1, 0)]) HT.out (by unfold SmallL; decide) HRD.out rfl (by omega) (l2 := [(1, [1]), (2, [0])]) (n := 0) (E := 0) (by decide) (by decide) (by decide)).mono ?_
  rintro e w9 ⟨⟨A9, m9, c9, rfl, ho⟩, hb⟩
  have HT := hide (show Own 0 w9 A9 m9 c9 [(1, [1]), (2, [0])] from ho.base (Nat.zero_le _))
  replace HO := hide (HO.out.below hb)
  replace HB := hide (HB.out.trans (hb.mono HB.out.size))
  clear ho hb HRD HBL
  go_wp2_with fail
  with_reducible refine (RingK HT.out (by unfold SmallL; decide) (xs := [0, 1]) (n := 2) (by decide) rfl).mono ?_
  rintro e w10 ⟨⟨Ar, cr, rfl, _, hrd, _⟩, hb⟩
  have HR := hide hrd
  replace HO := hide (HO.out.below hb)
  replace HB := hide (HB.out.trans (hb.mono HB.out.size))
  clear hrd hb
  have HBL := hide (show Below w10.heap.size w10 (w10.alloc (.cells #[.int .i64 0, .int .i64 1] 3)) from (Below.refl _ _).alloc (Nat.le_refl _) _)
  have HR2 := hide (show Rd (w10.alloc (.cells #[.int .i64 0, .int .i64 1] 3)) (w10.alloc (.cells #[.int .i64 0, .int .i64 1] 3)).heap.size 1 (some ⟨w10.heap.size, 0, none⟩) 2 (Cs encI [0, 1]) from rdNew w10 [0, 1])
  replace HO := hide (HO.out.below HBL.out)
  replace HB := hide (HB.out.trans (HBL.out.mono HB.out.size))
  replace HR := hide (HR.out.below HBL.out)
  go_wp2_with fail
  have HGE := hide HBL.out.size
  generalize w10.alloc (.cells #[.int .i64 0, .int .i64 1] 3) = w10l at *
  with_reducible refine (EqualIn w10.heap.size w10l.heap.size Ar (some ⟨w10.heap.size, 0, none⟩) cr 2 2 2 [0, 1] [0, 1] w10l rfl rfl HR.out HR2.out HGE.out (Nat.le_refl _) (by omega) (by omega) true (by decide)).mono ?_
  rintro e w11 ⟨rfl, hb⟩
  replace HO := hide (HO.out.below hb)
  replace HB := hide (HB.out.trans (hb.mono HB.out.size))
  clear hb HBL HR2 HGE HR
  go_wp2_with fail
  with_reducible refine (HasK 2 HO.out (by unfold SmallL; decide) (xs := [1]) (n := 1) (by decide) rfl).mono ?_
  rintro e w12 ⟨⟨Ah, ch, rfl, _, hrd, _⟩, hb⟩
  have HR := hide hrd
  replace HO := hide (HO.out.below hb)
  replace HB := hide (HB.out.trans (hb.mono HB.out.size))
  clear hrd hb
  have HBL := hide (show Below w12.heap.size w12 (w12.alloc (.cells #[.int .i64 1] 3)) from (Below.refl _ _).alloc (Nat.le_refl _) _)
  have HR2 := hide (show Rd (w12.alloc (.cells #[.int .i64 1] 3)) (w12.alloc (.cells #[.int .i64 1] 3)).heap.size 1 (some ⟨w12.heap.size, 0, none⟩) 1 (Cs encI [1]) from rdNew w12 [1])
  replace HO := hide (HO.out.below HBL.out)
  replace HB := hide (HB.out.trans (HBL.out.mono HB.out.size))
  replace HR := hide (HR.out.below HBL.out)
  go_wp2_with fail
  have HGE := hide HBL.out.size
  generalize w12.alloc (.cells #[.int .i64 1] 3) = w12l at *
  with_reducible refine (EqualIn w12.heap.size w12l.heap.size Ah (some ⟨w12.heap.size, 0, none⟩) ch 1 1 1 [1] [1] w12l rfl rfl HR.out HR2.out HGE.out (Nat.le_refl _) (by omega) (by omega) true (by decide)).mono ?_
  rintro e w13 ⟨rfl, hb⟩
  replace HO := hide (HO.out.below hb)
  replace HB := hide (HB.out.trans (hb.mono HB.out.size))
  clear hb HBL HR2 HGE HR
  go_wp2_with fail
  go_ret
  exact ⟨rfl, HB.out⟩
end Go.Proofs.Ytlelpnahillioaa
