/-
  ArenaTurns, walked.
-/
import Derived.Test.YtejhknboiacgeaaArw
import Derived.Deep.CutRange
import Derived.Deep.CutBlock
set_option linter.unusedSimpArgs false
set_option linter.unusedVariables false
namespace Go.Proofs.Ytejhknboiacgeaa
open Go Go.RowKit
attribute [local go_sem] via_cell via_frozen

/-- An arena that has come out, whose row lies between lo and hi. -/
structure ArOutB (lo hi : Nat) (A : Option Addr) (n : Nat) (ys : List (Int × Int)) (w : World) : Prop where
  len : ys.length = n
  own : 0 < n → ∃ gs, A = some ⟨gs, 0, none⟩ ∧ lo ≤ gs ∧ gs < hi ∧ RowAt w gs 59 (Cs encE ys).toArray
theorem ArOut.b {W w : World} {A : Option Addr} {n : Nat} {ys : List (Int × Int)} (h : ArOut W A n ys w) : ArOutB W.heap.size w.heap.size A n ys w :=
  ⟨h.len, fun hn => by obtain ⟨gs, h1, h2, h3⟩ := h.own hn; exact ⟨gs, h1, h2, h3.lt, h3⟩⟩
theorem ArOutB.below {lo hi : Nat} {w w' : World} {A : Option Addr} {n : Nat} {ys : List (Int × Int)} (h : ArOutB lo hi A n ys w) (hb : Below w.heap.size w w') : ArOutB lo hi A n ys w' :=
  ⟨h.len, fun hn => by obtain ⟨gs, h1, h2, h3, h4⟩ := h.own hn; exact ⟨gs, h1, h2, h3, h4.below hb⟩⟩
theorem ArOutB.belowB {lo hi m : Nat} {w w' : World} {A : Option Addr} {n : Nat} {ys : List (Int × Int)} (h : ArOutB lo hi A n ys w) (hb : Below m w w') (hm : hi ≤ m) : ArOutB lo hi A n ys w' :=
  ⟨h.len, fun hn => by obtain ⟨gs, h1, h2, h3, h4⟩ := h.own hn; exact ⟨gs, h1, h2, h3, h4.belowB (by omega) hb⟩⟩
/-- What lies outside of lo .. hi lies as it lay. -/
structure Win (lo hi : Nat) (w w' : World) : Prop where
  os : w'.os = w.os
  tape : w'.tape = w.tape
  output : w'.output = w.output
  size : w.heap.size ≤ w'.heap.size
  block : ∀ j, (j < lo ∨ hi ≤ j) → j < w.heap.size → w'.heap[j]? = w.heap[j]?
theorem Win.row {lo hi g : Nat} {w w' : World} {t : TypeId} {cs : Array Value} (h : Win lo hi w w') (hr : RowAt w g t cs) (hg : g < lo ∨ hi ≤ g) : RowAt w' g t cs := (h.block g hg hr.lt).trans hr
theorem Win.rd {lo hi B sz n : Nat} {w w' : World} {A : Option Addr} {xs : List Value} (h : Win lo hi w w') (hr : Rd w B sz A n xs) (hB : B ≤ lo) (hw : B ≤ w.heap.size) : Rd w' B sz A n xs :=
  hr.keep (fun p hp => cell_of_heap (h.block _ (.inl (by omega)) (by omega)))
theorem Win.ob {lo hi lo2 hi2 n : Nat} {w w' : World} {A : Option Addr} {ys : List (Int × Int)} (h : Win lo hi w w') (hr : ArOutB lo2 hi2 A n ys w) (hl : hi ≤ lo2) : ArOutB lo2 hi2 A n ys w' :=
  ⟨hr.len, fun hn => by obtain ⟨gs, h1, h2, h3, h4⟩ := hr.own hn; exact ⟨gs, h1, h2, h3, h.row h4 (.inr (by omega))⟩⟩
theorem Win.below {lo hi m : Nat} {W w w' : World} (h : Win lo hi w w') (hb : Below m W w) (hm : m ≤ lo) (hw : m ≤ W.heap.size) : Below m W w' :=
  ⟨h.os.trans hb.os, h.tape.trans hb.tape, h.output.trans hb.output, Nat.le_trans hb.size h.size, fun j hj => (h.block j (.inl (by omega)) (by have := hb.size; omega)).trans (hb.block j hj)⟩
theorem spoilB {lo hi : Nat} (A : Option Addr) (c n : Nat) (ys : List (Int × Int)) (w : World) (h : ArOutB lo hi A n ys w) (hn : n ≤ 4096) :
    Calls Try.prog 19 #[.agg #[.slice A n c]] w fun e w' => e = .returned (.tuple #[]) ∧ Win lo hi w w' := by
  rcases Nat.eq_zero_or_pos n with h0 | h0
  · refine (spoil_any A c n w.heap.size ys w h.len hn (fun hh => absurd hh (by omega))).mono ?_
    rintro e w' ⟨rfl, hp⟩
    exact ⟨rfl, hp.os, hp.tape, hp.output, hp.size, fun j _ hl => hp.block j (by omega) (by omega) hl⟩
  · obtain ⟨gs, h1, h2, h3, h4⟩ := h.own h0
    refine (spoil_any A c n gs ys w h.len hn (fun _ => ⟨h1, h4⟩)).mono ?_
    rintro e w' ⟨rfl, hp⟩
    exact ⟨rfl, hp.os, hp.tape, hp.output, hp.size, fun j hj hl => hp.block j (by omega) (by omega) hl⟩

theorem retS_length : ∀ (l xs ys : List (Int × Int)), retS xs l = some ys → ys.length = xs.length
  | [], xs, ys, h => by simp [retS] at h; subst h; rfl
  | e :: l, xs, ys, h => by
    simp only [retS] at h
    by_cases hc : meantB xs e = true ∧ tagOf xs e = 1
    · rw [if_pos hc] at h; rw [retS_length l _ ys h, put1_length]
    · rw [if_neg hc] at h; cases h
theorem givS_length : ∀ (l xs ys : List (Int × Int)), givS xs l = .ok ys → ys.length = xs.length
  | [], xs, ys, h => by simp [givS] at h; subst h; rfl
  | e :: l, xs, ys, h => by
    simp only [givS] at h
    by_cases hc : meantB xs e = true ∧ tagOf xs e ≠ 0
    · rw [if_pos hc] at h
      by_cases hg : e.2 < 1099511627775
      · rw [if_pos hg] at h; rw [givS_length l _ ys h, List.length_set]
      · rw [if_neg hg] at h; cases h
    · rw [if_neg hc] at h; cases h
theorem rtA_length (xs l : List (Int × Int)) : (rtA xs l).length ≤ xs.length := by
  unfold rtA
  split
  · split
    · rename_i ys h; rw [retS_length l xs ys h]; exact Nat.le_refl _
    · simp
  · simp
theorem gvA_length (xs l : List (Int × Int)) : (gvA xs l).length ≤ xs.length := by
  unfold gvA
  split
  · split
    · rename_i ys h; rw [givS_length l xs ys h]; exact Nat.le_refl _
    · simp
  · simp
theorem tkA_length (xs : List (Int × Int)) (many : Int) : (tkA xs many).length ≤ xs.length := by
  unfold tkA
  split
  · rw [tk_length]; exact Nat.le_refl _
  · simp
theorem tkL_length (xs : List (Int × Int)) (many : Int) : (tkL xs many).length ≤ xs.length := by
  unfold tkL
  split
  · have := ents_length xs 0
    rw [List.length_take]; omega
  · simp
/-- A row of numbers does not lie in a box that holds a slice. -/
theorem Rd.off_row {w : World} {B n g : Nat} {A : Option Addr} {t : TypeId} {a : Option Addr} {b c : Nat} {ys : List (Int × Int)} (h : Rd w B 2 A n (Cs encE ys)) (hr : RowAt w g t #[.slice a b c]) (hn : 0 < n) : OffB A g := fun p hp => by
  obtain ⟨b1, off, e, _, hc⟩ := h.2 hn
  rw [hp] at e
  injection e with e
  subst e
  intro hg
  have hg : b1 = g := hg
  subst hg
  have hl := h.1
  cases ys with
  | nil => simp [Cs] at hl; omega
  | cons y ys =>
    have h1 := hc 0 (.int .i64 y.1) (by simp [Cs, encE])
    rw [hr.cell] at h1
    rcases Nat.eq_zero_or_pos off with h0 | h0
    · subst h0; simp at h1
    · have hno : (#[Value.slice a b c] : Array Value)[off + 0]? = none := Array.getElem?_eq_none (by simp; omega)
      rw [hno] at h1; cases h1
theorem Rd.setRowB {w : World} {B n g : Nat} {A : Option Addr} {t : TypeId} {a : Option Addr} {b c : Nat} {ys : List (Int × Int)} (h : Rd w B 2 A n (Cs encE ys)) (hr : RowAt w g t #[.slice a b c]) (u : Value) : Rd (w.setCell ⟨g, 0, none⟩ u) B 2 A n (Cs encE ys) := by
  rcases Nat.eq_zero_or_pos n with h0 | h0
  · exact ⟨h.1, fun hn => absurd hn (by omega)⟩
  · exact h.setB (h.off_row hr h0) 0 u
theorem Rd.setRow {w : World} {n g : Nat} {A : Option Addr} {t : TypeId} {a : Option Addr} {b c : Nat} {ys : List (Int × Int)} (h : Rd w w.heap.size 2 A n (Cs encE ys)) (hr : RowAt w g t #[.slice a b c]) (u : Value) : Rd (w.setCell ⟨g, 0, none⟩ u) (w.setCell ⟨g, 0, none⟩ u).heap.size 2 A n (Cs encE ys) := by
  have := h.setRowB hr u
  simpa using this

set_option maxRecDepth 100000 in
set_option maxHeartbeats 4000000 in
theorem Turns_walk (A0 : Option Addr) (c0 n0 : Nat) (many : Int) (A2 : Option Addr) (c2 n2 : Nat) (xs ys : List (Int × Int)) (W : World) (h0 : Rd W W.heap.size 2 A0 n0 (Cs encE xs)) (h2 : Rd W W.heap.size 2 A2 n2 (Cs encE ys)) (hx0 : xs.length = n0) (hx2 : ys.length = n2)
    (hu : ∀ e ∈ ys, U64 e.2) (hn0 : n0 ≤ c0) (hn2 : n2 ≤ c2) (hm0 : c0 ≤ 9223372036854775807) (hm2 : c2 ≤ 9223372036854775807) :
    Calls Try.prog 3 #[.agg #[.slice A0 n0 c0], .int .i64 many, .slice A2 n2 c2] W fun e W' => e = .returned (.bool true) ∧ Below W.heap.size W W' := by
  obtain ⟨m, hm⟩ : ∃ m, min n0 130 = m := ⟨_, rfl⟩
  obtain ⟨k, hk⟩ : ∃ k, min n2 6 = k := ⟨_, rfl⟩
  obtain ⟨S, hS⟩ : ∃ S, xs.take m = S := ⟨_, rfl⟩
  obtain ⟨L, hL⟩ : ∃ L, ys.take k = L := ⟨_, rfl⟩
  have hm130 : m ≤ 130 := by omega
  have hk6 : k ≤ 6 := by omega
  have hkn : k ≤ n2 := by omega
  have hkI : min (n2 : Int) 6 = (k : Int) := by omega
  have hkc : (k : Int) ≤ (c2 : Int) := by omega
  have hnc2 : (n2 : Int) ≤ (c2 : Int) := by omega
  have hcm2 : (c2 : Int) ≤ 9223372036854775807 := by omega
  have HSL := hide (show S.length = m by rw [← hS, List.length_take]; omega)
  have HLL := hide (show L.length = k by rw [← hL, List.length_take]; omega)
  have HU := hide (show ∀ e ∈ L, U64 e.2 from fun e he => hu e (by rw [← hL] at he; exact List.mem_of_mem_take he))
  have HOWN : Hid (∀ w, Below W.heap.size W w → Calls Try.prog 8 #[.agg #[.slice A0 n0 c0]] w fun e W' => ∃ A' c', e = .returned (.agg #[.slice A' m c']) ∧ m ≤ c' ∧ c' ≤ 9223372036854775807 ∧ Rd W' W'.heap.size 2 A' m (Cs encE S) ∧ (∀ p, A' = some p → w.heap.size ≤ p.block) ∧ Below w.heap.size w W') := hide (fun w hb => by
    have h := own_any A0 c0 n0 xs w ((h0.below hb).more hb.size) hx0 hn0 hm0 m hm
    rw [hS] at h
    exact h)
  have HRY : Hid (Rd W W.heap.size 2 A2 k (Cs encE L)) := hide (by
    have h := h2.take hkn
    rw [← Cs_take encE_len, hL] at h
    exact h)
  have HW := hide (fun w => wakes_any w)
  have HB := hide (((Below.refl W.heap.size W).alloc (Nat.le_refl _) (.cells #[.slice A0 n0 c0] 24)))
  have R3 := hide (RowAt.new W 24 #[.slice A0 n0 c0])
  clear hm hk hS hL hu h0 h2 hn0 hm0
  go_enter Try.func3, Try.ntmps3
  go_wp2_with fail
  generalize (W.alloc (.cells #[.slice A0 n0 c0] 24)) = w0 at *
  refine (HW.out _).mono ?_
  rintro e w1 ⟨rfl, hb⟩
  replace R3 := hide (R3.out.below hb)
  replace HB := hide (HB.out.trans (hb.mono HB.out.size))
  clear hb HW
  have qR3 := row1 R3.out
  have lR3 := R3.out.lt
  go_wp2_with fail
  clear qR3 lR3
  refine (HOWN.out _ HB.out).mono ?_
  rintro e w2 ⟨A7, c7, rfl, hc7, hcm7, hrd, hfr, hb⟩
  replace R3 := hide (R3.out.below hb)
  replace HB := hide (HB.out.trans (hb.mono HB.out.size))
  have HA := hide hrd
  clear hrd hfr hb
  obtain ⟨g7, hg7⟩ : ∃ g, w2.heap.size = g := ⟨_, rfl⟩
  have hbx : Below w2.heap.size w2 (w2.alloc (.cells #[.slice A7 m c7] 24)) := (Below.refl _ _).alloc (Nat.le_refl _) _
  have R7 : Hid (RowAt (w2.alloc (.cells #[.slice A7 m c7] 24)) g7 24 #[.slice A7 m c7]) := hide (by have h := RowAt.new w2 24 #[.slice A7 m c7]; rw [hg7] at h; exact h)
  have hs_w3 : Hid ((w2.alloc (.cells #[.slice A7 m c7] 24)).heap.size = g7 + 1) := hide (by rw [World.size_alloc, hg7])
  replace HA := hide ((HA.out.below hbx).more hbx.size)
  replace R3 := hide (R3.out.below hbx)
  replace HB := hide (HB.out.trans (hbx.mono HB.out.size))
  clear hbx
  have qR3 := row1 R3.out
  have lR3 := R3.out.lt
  have qR7 := row1 R7.out
  have lR7 := R7.out.lt
  go_wp2_with fail
  (try rw [hg7])
  clear hg7
  clear qR3 lR3 qR7 lR7
  generalize (w2.alloc (.cells #[.slice A7 m c7] 24)) = w3 at *
  refine (CloneE W.heap.size A2 k c2 (Cs encE L) w3 (HRY.out.below HB.out) HB.out.size (Cs_one_cell encE_one _) (by omega)).mono ?_
  rintro e w4 ⟨v, rfl, hown, hb⟩
  obtain ⟨A8, c8, rfl, hc8, hcm8⟩ := own_form2 hown
  replace HA := hide ((HA.out.below hb).more hb.size)
  replace R3 := hide (R3.out.below hb)
  replace R7 := hide (R7.out.below hb)
  replace HB := hide (HB.out.trans (hb.mono HB.out.size))
  have HL8 := hide (Rd.of_own hown)
  clear hown hb
  have qR3 := row1 R3.out
  have lR3 := R3.out.lt
  have qR7 := row1 R7.out
  have lR7 := R7.out.lt
  go_wp2_with fail
  clear qR3 lR3 qR7 lR7
  obtain ⟨E1, hE1⟩ : ∃ E, tkE S many = E := ⟨_, rfl⟩
  obtain ⟨Y1, hY1⟩ : ∃ Y, tkA S many = Y := ⟨_, rfl⟩
  obtain ⟨T1, hT1⟩ : ∃ Y, tkL S many = Y := ⟨_, rfl⟩
  obtain ⟨E2, hE2⟩ : ∃ E, rtE S L = E := ⟨_, rfl⟩
  obtain ⟨Y2, hY2⟩ : ∃ Y, rtA S L = Y := ⟨_, rfl⟩
  obtain ⟨E3, hE3⟩ : ∃ E, gvE S L = E := ⟨_, rfl⟩
  obtain ⟨Y3, hY3⟩ : ∃ Y, gvA S L = Y := ⟨_, rfl⟩
  obtain ⟨k1, hk1⟩ : ∃ k, Y1.length = k := ⟨_, rfl⟩
  obtain ⟨t1, ht1⟩ : ∃ k, T1.length = k := ⟨_, rfl⟩
  obtain ⟨k2, hk2⟩ : ∃ k, Y2.length = k := ⟨_, rfl⟩
  obtain ⟨k3, hk3⟩ : ∃ k, Y3.length = k := ⟨_, rfl⟩
  have HTAKE := hide (TakeK A7 c7 m many S w4 HA.out HSL.out (by omega) E1 Y1 T1 k1 t1 hE1 hY1 hT1 hk1 ht1)
  have HRET : Hid (∀ w, Rd w w.heap.size 2 A7 m (Cs encE S) → Rd w w.heap.size 2 A8 k (Cs encE L) → Calls Try.prog 11 #[.agg #[.slice A7 m c7], .slice A8 k c8] w fun e W' => ∃ A' c', e = .returned (.tuple #[.agg #[.slice A' k2 c'], .int .i64 E2]) ∧ k2 ≤ c' ∧ ArOut w A' k2 Y2 W' ∧ Below w.heap.size w W') := hide (fun w ha hl => RetireK A7 c7 m A8 c8 k S L w ha HSL.out (by omega) hl HLL.out (by omega) E2 Y2 k2 hE2 hY2 hk2)
  have HGIV : Hid (∀ w, Rd w w.heap.size 2 A7 m (Cs encE S) → Rd w w.heap.size 2 A8 k (Cs encE L) → Calls Try.prog 12 #[.agg #[.slice A7 m c7], .slice A8 k c8] w fun e W' => ∃ A' c', e = .returned (.tuple #[.agg #[.slice A' k3 c'], .int .i64 E3]) ∧ k3 ≤ c' ∧ ArOut w A' k3 Y3 W' ∧ Below w.heap.size w W') := hide (fun w ha hl => GiveK A7 c7 m A8 c8 k S L w ha HSL.out (by omega) hl HLL.out (by omega) HU.out E3 Y3 k3 hE3 hY3 hk3)
  have HRT : Hid (arOk S = true → ∀ w, Rd w w.heap.size 2 A7 m (Cs encE S) → Calls Try.prog 14 #[.agg #[.slice A7 m c7], .int .i64 many] w (RTk w E1 Y1 T1 k1 t1)) := hide (fun ho w ha => rTake_any A7 c7 m many S w ha HSL.out ho E1 Y1 T1 hE1 hY1 hT1 k1 t1 hk1 ht1)
  have HRR : Hid (arOk S = true → ∀ w, Rd w w.heap.size 2 A7 m (Cs encE S) → Rd w w.heap.size 2 A8 k (Cs encE L) → Calls Try.prog 15 #[.agg #[.slice A7 m c7], .slice A8 k c8] w fun e W' => ∃ A' c', e = .returned (.tuple #[.agg #[.slice A' k2 c'], .int .i64 E2]) ∧ Rd W' W'.heap.size 2 A' k2 (Cs encE Y2) ∧ Below w.heap.size w W') := hide (fun ho w ha hl => rRetire_any A7 c7 m A8 c8 k S L w ha HSL.out ho hl HLL.out (by omega) HU.out E2 Y2 hE2 hY2 k2 hk2)
  have HRG : Hid (arOk S = true → ∀ w, Rd w w.heap.size 2 A7 m (Cs encE S) → Rd w w.heap.size 2 A8 k (Cs encE L) → Calls Try.prog 16 #[.agg #[.slice A7 m c7], .slice A8 k c8] w fun e W' => ∃ A' c', e = .returned (.tuple #[.agg #[.slice A' k3 c'], .int .i64 E3]) ∧ Rd W' W'.heap.size 2 A' k3 (Cs encE Y3) ∧ Below w.heap.size w W') := hide (fun ho w ha hl => rGive_any A7 c7 m A8 c8 k S L w ha HSL.out ho hl HLL.out (by omega) HU.out E3 Y3 hE3 hY3 k3 hk3)
  have HNO : Hid (arOk S = false → E1 = 210 ∧ E2 = 210 ∧ E3 = 210 ∧ Y1 = [] ∧ T1 = [] ∧ Y2 = [] ∧ Y3 = [] ∧ k1 = 0 ∧ t1 = 0 ∧ k2 = 0 ∧ k3 = 0) := hide (fun ho => by
    have a1 : E1 = 210 := by rw [← hE1]; simp [tkE, ho]
    have a2 : E2 = 210 := by rw [← hE2]; simp [rtE, ho]
    have a3 : E3 = 210 := by rw [← hE3]; simp [gvE, ho]
    have b1 : Y1 = [] := by rw [← hY1]; simp [tkA, hE1, a1]
    have b2 : T1 = [] := by rw [← hT1]; simp [tkL, hE1, a1]
    have b3 : Y2 = [] := by rw [← hY2]; simp [rtA, ho]
    have b4 : Y3 = [] := by rw [← hY3]; simp [gvA, ho]
    refine ⟨a1, a2, a3, b1, b2, b3, b4, ?_, ?_, ?_, ?_⟩
    · rw [← hk1, b1]; rfl
    · rw [← ht1, b2]; rfl
    · rw [← hk2, b3]; rfl
    · rw [← hk3, b4]; rfl)
  have HLEN : Hid (k1 ≤ 130 ∧ t1 ≤ 130 ∧ k2 ≤ 130 ∧ k3 ≤ 130 ∧ Y1.length = k1 ∧ T1.length = t1 ∧ Y2.length = k2 ∧ Y3.length = k3) := hide (by
    have l1 := tkA_length S many
    have l2 := tkL_length S many
    have l3 := rtA_length S L
    have l4 := gvA_length S L
    have hs := HSL.out
    rw [hY1] at l1
    rw [hT1] at l2
    rw [hY2] at l3
    rw [hY3] at l4
    exact ⟨by omega, by omega, by omega, by omega, hk1, ht1, hk2, hk3⟩)
  clear hE1 hY1 hT1 hE2 hY2 hE3 hY3 hk1 ht1 hk2 hk3
  obtain ⟨lo4, hlo4⟩ : ∃ l, w4.heap.size = l := ⟨_, rfl⟩
  have O7 : g7 < lo4 := by rw [← hlo4]; exact R7.out.lt
  have O3 : W.heap.size < lo4 := by rw [← hlo4]; exact R3.out.lt
  have HA4 : Hid (Rd w4 lo4 2 A7 m (Cs encE S)) := hide (by rw [← hlo4]; exact HA.out)
  have HL4 : Hid (Rd w4 lo4 2 A8 k (Cs encE L)) := hide (by rw [← hlo4]; exact HL8.out)
  have LO := hide (Nat.le_of_eq hlo4.symm)
  have HLO := hide hlo4
  clear hlo4
  with_reducible refine HTAKE.out.mono ?_
  rintro e w5 ⟨A9, c9, A10, c10, rfl, hc9, hc10, hout, hl, hlf, hb⟩
  have OT : Hid (ArOutB lo4 w5.heap.size A9 k1 Y1 w5) := hide (by have h := hout.b; rw [HLO.out] at h; exact h)
  have HT9 := hide hout.rd
  have HL10 := hide hl
  replace HA := hide ((HA.out.below hb).more hb.size)
  replace HL8 := hide ((HL8.out.below hb).more hb.size)
  replace HA4 := hide (HA4.out.below (hb.mono LO.out))
  replace HL4 := hide (HL4.out.below (hb.mono LO.out))
  replace R3 := hide (R3.out.below hb)
  replace R7 := hide (R7.out.below hb)
  replace HB := hide (HB.out.trans (hb.mono HB.out.size))
  replace LO := hide (Nat.le_trans LO.out hb.size)
  have O9 : lo4 ≤ w5.heap.size := LO.out
  clear hout hl hlf hb HTAKE HLO
  obtain ⟨g9, hg9⟩ : ∃ g, w5.heap.size = g := ⟨_, rfl⟩
  have hbx : Below w5.heap.size w5 (w5.alloc (.cells #[.slice A9 k1 c9] 24)) := (Below.refl _ _).alloc (Nat.le_refl _) _
  have R9 : Hid (RowAt (w5.alloc (.cells #[.slice A9 k1 c9] 24)) g9 24 #[.slice A9 k1 c9]) := hide (by have h := RowAt.new w5 24 #[.slice A9 k1 c9]; rw [hg9] at h; exact h)
  have hs_w6 : Hid ((w5.alloc (.cells #[.slice A9 k1 c9] 24)).heap.size = g9 + 1) := hide (by rw [World.size_alloc, hg9])
  replace HA := hide ((HA.out.below hbx).more hbx.size)
  replace HL8 := hide ((HL8.out.below hbx).more hbx.size)
  replace HT9 := hide ((HT9.out.below hbx).more hbx.size)
  replace HL10 := hide ((HL10.out.below hbx).more hbx.size)
  replace HA4 := hide (HA4.out.below (hbx.mono LO.out))
  replace HL4 := hide (HL4.out.below (hbx.mono LO.out))
  replace R3 := hide (R3.out.below hbx)
  replace R7 := hide (R7.out.below hbx)
  replace OT := hide (OT.out.below hbx)
  replace HB := hide (HB.out.trans (hbx.mono HB.out.size))
  replace LO := hide (Nat.le_trans LO.out hbx.size)
  replace OT := hide (by have h := OT.out; rw [hg9] at h; exact h)
  rw [hg9] at O9
  clear hbx
  have qR3 := row1 R3.out
  have lR3 := R3.out.lt
  have qR7 := row1 R7.out
  have lR7 := R7.out.lt
  have qR9 := row1 R9.out
  have lR9 := R9.out.lt
  go_wp2_with fail
  (try rw [hg9])
  clear hg9
  clear qR3 lR3 qR7 lR7 qR9 lR9
  generalize (w5.alloc (.cells #[.slice A9 k1 c9] 24)) = w6 at *
  with_reducible refine (HRET.out _ HA.out HL8.out).mono ?_
  rintro e w7 ⟨A12, c12, rfl, hc12, hout, hb⟩
  have OR : Hid (ArOutB (g9 + 1) w7.heap.size A12 k2 Y2 w7) := hide (by have h := hout.b; rw [hs_w6.out] at h; exact h)
  have HT12 := hide hout.rd
  have O12 : g9 + 1 ≤ w7.heap.size := by have := hb.size; rw [hs_w6.out] at this; exact this
  replace HA := hide ((HA.out.below hb).more hb.size)
  replace HL8 := hide ((HL8.out.below hb).more hb.size)
  replace HT9 := hide ((HT9.out.below hb).more hb.size)
  replace HL10 := hide ((HL10.out.below hb).more hb.size)
  replace HA4 := hide (HA4.out.below (hb.mono LO.out))
  replace HL4 := hide (HL4.out.below (hb.mono LO.out))
  replace R3 := hide (R3.out.below hb)
  replace R7 := hide (R7.out.below hb)
  replace R9 := hide (R9.out.below hb)
  replace OT := hide (OT.out.below hb)
  replace HB := hide (HB.out.trans (hb.mono HB.out.size))
  replace LO := hide (Nat.le_trans LO.out hb.size)
  clear hout hb HRET hs_w6
  obtain ⟨g12, hg12⟩ : ∃ g, w7.heap.size = g := ⟨_, rfl⟩
  have hbx : Below w7.heap.size w7 (w7.alloc (.cells #[.slice A12 k2 c12] 24)) := (Below.refl _ _).alloc (Nat.le_refl _) _
  have R12 : Hid (RowAt (w7.alloc (.cells #[.slice A12 k2 c12] 24)) g12 24 #[.slice A12 k2 c12]) := hide (by have h := RowAt.new w7 24 #[.slice A12 k2 c12]; rw [hg12] at h; exact h)
  have hs_w8 : Hid ((w7.alloc (.cells #[.slice A12 k2 c12] 24)).heap.size = g12 + 1) := hide (by rw [World.size_alloc, hg12])
  replace HA := hide ((HA.out.below hbx).more hbx.size)
  replace HL8 := hide ((HL8.out.below hbx).more hbx.size)
  replace HT9 := hide ((HT9.out.below hbx).more hbx.size)
  replace HL10 := hide ((HL10.out.below hbx).more hbx.size)
  replace HT12 := hide ((HT12.out.below hbx).more hbx.size)
  replace HA4 := hide (HA4.out.below (hbx.mono LO.out))
  replace HL4 := hide (HL4.out.below (hbx.mono LO.out))
  replace R3 := hide (R3.out.below hbx)
  replace R7 := hide (R7.out.below hbx)
  replace R9 := hide (R9.out.below hbx)
  replace OT := hide (OT.out.below hbx)
  replace OR := hide (OR.out.below hbx)
  replace HB := hide (HB.out.trans (hbx.mono HB.out.size))
  replace LO := hide (Nat.le_trans LO.out hbx.size)
  replace OR := hide (by have h := OR.out; rw [hg12] at h; exact h)
  rw [hg12] at O12
  clear hbx
  have qR3 := row1 R3.out
  have lR3 := R3.out.lt
  have qR7 := row1 R7.out
  have lR7 := R7.out.lt
  have qR9 := row1 R9.out
  have lR9 := R9.out.lt
  have qR12 := row1 R12.out
  have lR12 := R12.out.lt
  go_wp2_with fail
  (try rw [hg12])
  clear hg12
  clear qR3 lR3 qR7 lR7 qR9 lR9 qR12 lR12
  generalize (w7.alloc (.cells #[.slice A12 k2 c12] 24)) = w8 at *
  with_reducible refine (HGIV.out _ HA.out HL8.out).mono ?_
  rintro e w9 ⟨A14, c14, rfl, hc14, hout, hb⟩
  have OG : Hid (ArOutB (g12 + 1) w9.heap.size A14 k3 Y3 w9) := hide (by have h := hout.b; rw [hs_w8.out] at h; exact h)
  have HT14 := hide hout.rd
  have O14 : g12 + 1 ≤ w9.heap.size := by have := hb.size; rw [hs_w8.out] at this; exact this
  replace HA := hide ((HA.out.below hb).more hb.size)
  replace HL8 := hide ((HL8.out.below hb).more hb.size)
  replace HT9 := hide ((HT9.out.below hb).more hb.size)
  replace HL10 := hide ((HL10.out.below hb).more hb.size)
  replace HT12 := hide ((HT12.out.below hb).more hb.size)
  replace HA4 := hide (HA4.out.below (hb.mono LO.out))
  replace HL4 := hide (HL4.out.below (hb.mono LO.out))
  replace R3 := hide (R3.out.below hb)
  replace R7 := hide (R7.out.below hb)
  replace R9 := hide (R9.out.below hb)
  replace R12 := hide (R12.out.below hb)
  replace OT := hide (OT.out.below hb)
  replace OR := hide (OR.out.below hb)
  replace HB := hide (HB.out.trans (hb.mono HB.out.size))
  replace LO := hide (Nat.le_trans LO.out hb.size)
  clear hout hb HGIV hs_w8
  obtain ⟨g14, hg14⟩ : ∃ g, w9.heap.size = g := ⟨_, rfl⟩
  replace OG := hide (by have h := OG.out; rw [hg14] at h; exact h)
  rw [hg14] at O14
  replace HA := hide (by have h := HA.out; rw [hg14] at h; exact h)
  replace HL8 := hide (by have h := HL8.out; rw [hg14] at h; exact h)
  replace HT9 := hide (by have h := HT9.out; rw [hg14] at h; exact h)
  replace HL10 := hide (by have h := HL10.out; rw [hg14] at h; exact h)
  replace HT12 := hide (by have h := HT12.out; rw [hg14] at h; exact h)
  replace HT14 := hide (by have h := HT14.out; rw [hg14] at h; exact h)
  have G14 := hide (Nat.le_of_eq hg14.symm)
  obtain ⟨w10, hw10⟩ : ∃ w, w9.alloc (.cells #[.slice A14 k3 c14] 24) = w := ⟨_, rfl⟩
  have hbx : Below w9.heap.size w9 w10 := by rw [← hw10]; exact (Below.refl _ _).alloc (Nat.le_refl _) _
  have R14 : Hid (RowAt w10 (g14) 24 #[.slice A14 k3 c14]) := hide (by have h := RowAt.new w9 24 #[.slice A14 k3 c14]; rw [hw10, hg14] at h; exact h)
  have hs10 : w10.heap.size = g14 + 1 := by rw [← hw10, World.size_alloc, hg14]
  replace HA4 := hide (HA4.out.below (hbx.mono LO.out))
  replace HL4 := hide (HL4.out.below (hbx.mono LO.out))
  replace HA := hide (HA.out.below (hbx.mono G14.out))
  replace HL8 := hide (HL8.out.below (hbx.mono G14.out))
  replace HT9 := hide (HT9.out.below (hbx.mono G14.out))
  replace HL10 := hide (HL10.out.below (hbx.mono G14.out))
  replace HT12 := hide (HT12.out.below (hbx.mono G14.out))
  replace HT14 := hide (HT14.out.below (hbx.mono G14.out))
  replace R3 := hide (R3.out.below hbx)
  replace R7 := hide (R7.out.below hbx)
  replace R9 := hide (R9.out.below hbx)
  replace R12 := hide (R12.out.below hbx)
  replace OT := hide (OT.out.below hbx)
  replace OR := hide (OR.out.below hbx)
  replace OG := hide (OG.out.below hbx)
  replace HB := hide (HB.out.trans (hbx.mono HB.out.size))
  replace LO := hide (Nat.le_trans LO.out hbx.size)
  replace G14 := hide (Nat.le_trans G14.out hbx.size)
  clear hbx
  obtain ⟨w11, hw11⟩ : ∃ w, w10.alloc (.cells #[.slice none 0 0] 24) = w := ⟨_, rfl⟩
  have hbx : Below w10.heap.size w10 w11 := by rw [← hw11]; exact (Below.refl _ _).alloc (Nat.le_refl _) _
  have R16 : Hid (RowAt w11 (g14 + 1) 24 #[.slice none 0 0]) := hide (by have h := RowAt.new w10 24 #[.slice none 0 0]; rw [hw11, hs10] at h; exact h)
  have hs11 : w11.heap.size = g14 + 1 + 1 := by rw [← hw11, World.size_alloc, hs10]
  replace HA4 := hide (HA4.out.below (hbx.mono LO.out))
  replace HL4 := hide (HL4.out.below (hbx.mono LO.out))
  replace HA := hide (HA.out.below (hbx.mono G14.out))
  replace HL8 := hide (HL8.out.below (hbx.mono G14.out))
  replace HT9 := hide (HT9.out.below (hbx.mono G14.out))
  replace HL10 := hide (HL10.out.below (hbx.mono G14.out))
  replace HT12 := hide (HT12.out.below (hbx.mono G14.out))
  replace HT14 := hide (HT14.out.below (hbx.mono G14.out))
  replace R3 := hide (R3.out.below hbx)
  replace R7 := hide (R7.out.below hbx)
  replace R9 := hide (R9.out.below hbx)
  replace R12 := hide (R12.out.below hbx)
  replace R14 := hide (R14.out.below hbx)
  replace OT := hide (OT.out.below hbx)
  replace OR := hide (OR.out.below hbx)
  replace OG := hide (OG.out.below hbx)
  replace HB := hide (HB.out.trans (hbx.mono HB.out.size))
  replace LO := hide (Nat.le_trans LO.out hbx.size)
  replace G14 := hide (Nat.le_trans G14.out hbx.size)
  clear hbx
  obtain ⟨w12, hw12⟩ : ∃ w, w11.alloc (.cells #[.slice none 0 0] 24) = w := ⟨_, rfl⟩
  have hbx : Below w11.heap.size w11 w12 := by rw [← hw12]; exact (Below.refl _ _).alloc (Nat.le_refl _) _
  have R17 : Hid (RowAt w12 (g14 + 1 + 1) 24 #[.slice none 0 0]) := hide (by have h := RowAt.new w11 24 #[.slice none 0 0]; rw [hw12, hs11] at h; exact h)
  have hs12 : w12.heap.size = g14 + 1 + 1 + 1 := by rw [← hw12, World.size_alloc, hs11]
  replace HA4 := hide (HA4.out.below (hbx.mono LO.out))
  replace HL4 := hide (HL4.out.below (hbx.mono LO.out))
  replace HA := hide (HA.out.below (hbx.mono G14.out))
  replace HL8 := hide (HL8.out.below (hbx.mono G14.out))
  replace HT9 := hide (HT9.out.below (hbx.mono G14.out))
  replace HL10 := hide (HL10.out.below (hbx.mono G14.out))
  replace HT12 := hide (HT12.out.below (hbx.mono G14.out))
  replace HT14 := hide (HT14.out.below (hbx.mono G14.out))
  replace R3 := hide (R3.out.below hbx)
  replace R7 := hide (R7.out.below hbx)
  replace R9 := hide (R9.out.below hbx)
  replace R12 := hide (R12.out.below hbx)
  replace R14 := hide (R14.out.below hbx)
  replace R16 := hide (R16.out.below hbx)
  replace OT := hide (OT.out.below hbx)
  replace OR := hide (OR.out.below hbx)
  replace OG := hide (OG.out.below hbx)
  replace HB := hide (HB.out.trans (hbx.mono HB.out.size))
  replace LO := hide (Nat.le_trans LO.out hbx.size)
  replace G14 := hide (Nat.le_trans G14.out hbx.size)
  clear hbx
  obtain ⟨w13, hw13⟩ : ∃ w, w12.alloc (.cells #[.slice none 0 0] 24) = w := ⟨_, rfl⟩
  have hbx : Below w12.heap.size w12 w13 := by rw [← hw13]; exact (Below.refl _ _).alloc (Nat.le_refl _) _
  have R18 : Hid (RowAt w13 (g14 + 1 + 1 + 1) 24 #[.slice none 0 0]) := hide (by have h := RowAt.new w12 24 #[.slice none 0 0]; rw [hw13, hs12] at h; exact h)
  have hs13 : w13.heap.size = g14 + 1 + 1 + 1 + 1 := by rw [← hw13, World.size_alloc, hs12]
  replace HA4 := hide (HA4.out.below (hbx.mono LO.out))
  replace HL4 := hide (HL4.out.below (hbx.mono LO.out))
  replace HA := hide (HA.out.below (hbx.mono G14.out))
  replace HL8 := hide (HL8.out.below (hbx.mono G14.out))
  replace HT9 := hide (HT9.out.below (hbx.mono G14.out))
  replace HL10 := hide (HL10.out.below (hbx.mono G14.out))
  replace HT12 := hide (HT12.out.below (hbx.mono G14.out))
  replace HT14 := hide (HT14.out.below (hbx.mono G14.out))
  replace R3 := hide (R3.out.below hbx)
  replace R7 := hide (R7.out.below hbx)
  replace R9 := hide (R9.out.below hbx)
  replace R12 := hide (R12.out.below hbx)
  replace R14 := hide (R14.out.below hbx)
  replace R16 := hide (R16.out.below hbx)
  replace R17 := hide (R17.out.below hbx)
  replace OT := hide (OT.out.below hbx)
  replace OR := hide (OR.out.below hbx)
  replace OG := hide (OG.out.below hbx)
  replace HB := hide (HB.out.trans (hbx.mono HB.out.size))
  replace LO := hide (Nat.le_trans LO.out hbx.size)
  replace G14 := hide (Nat.le_trans G14.out hbx.size)
  clear hbx
  have qR3 := row1 R3.out
  have lR3 := R3.out.lt
  have qR7 := row1 R7.out
  have lR7 := R7.out.lt
  have qR9 := row1 R9.out
  have lR9 := R9.out.lt
  have qR12 := row1 R12.out
  have lR12 := R12.out.lt
  have qR14 := row1 R14.out
  have lR14 := R14.out.lt
  have qR16 := row1 R16.out
  have lR16 := R16.out.lt
  have qR17 := row1 R17.out
  have lR17 := R17.out.lt
  have qR18 := row1 R18.out
  have lR18 := R18.out.lt
  go_wp2_with fail
  clear hg14 hw10 hw11 hw12 hw13
  clear qR3 lR3 qR7 lR7 qR9 lR9 qR12 lR12 qR14 lR14 qR16 lR16 qR17 lR17 qR18 lR18
  obtain ⟨r, hr⟩ : ∃ r, arOk S = r := ⟨_, rfl⟩
  have HRI := hide (rright_any w13.heap.size A7 c7 m S w13 (HA.out.more G14.out) HSL.out (Nat.le_refl _) r hr (by omega))
  have HRR2 := hide hr
  clear hr hs10 hs11 hs12 hs13
  with_reducible refine HRI.out.mono ?_
  rintro e w14 ⟨rfl, hb⟩
  replace HA4 := hide (HA4.out.below (hb.mono LO.out))
  replace HL4 := hide (HL4.out.below (hb.mono LO.out))
  replace HA := hide (HA.out.below (hb.mono G14.out))
  replace HL8 := hide (HL8.out.below (hb.mono G14.out))
  replace HT9 := hide (HT9.out.below (hb.mono G14.out))
  replace HL10 := hide (HL10.out.below (hb.mono G14.out))
  replace HT12 := hide (HT12.out.below (hb.mono G14.out))
  replace HT14 := hide (HT14.out.below (hb.mono G14.out))
  replace R3 := hide (R3.out.below hb)
  replace R7 := hide (R7.out.below hb)
  replace R9 := hide (R9.out.below hb)
  replace R12 := hide (R12.out.below hb)
  replace R14 := hide (R14.out.below hb)
  replace R16 := hide (R16.out.below hb)
  replace R17 := hide (R17.out.below hb)
  replace R18 := hide (R18.out.below hb)
  replace OT := hide (OT.out.below hb)
  replace OR := hide (OR.out.below hb)
  replace OG := hide (OG.out.below hb)
  replace HB := hide (HB.out.trans (hb.mono HB.out.size))
  replace LO := hide (Nat.le_trans LO.out hb.size)
  replace G14 := hide (Nat.le_trans G14.out hb.size)
  clear hb HRI
  go_upto_if 53 with (fail)
  go_cut [19, 20, 21, 22] from 54 to 72 (fun s19 s20 s21 s22 wx => ∃ (A16 : Option Addr) (c16 : Nat) (A17 : Option Addr) (c17 : Nat) (A18 : Option Addr) (c18 : Nat) (A19 : Option Addr) (c19 : Nat), s19 = .slice A19 t1 c19 ∧ s20 = .int .i64 E1 ∧ s21 = .int .i64 E2 ∧ s22 = .int .i64 E3 ∧ RowAt wx (g14 + 1) 24 #[.slice A16 k1 c16] ∧ RowAt wx (g14 + 1 + 1) 24 #[.slice A17 k2 c17] ∧ RowAt wx (g14 + 1 + 1 + 1) 24 #[.slice A18 k3 c18] ∧
    Rd wx wx.heap.size 2 A16 k1 (Cs encE Y1) ∧ Rd wx wx.heap.size 2 A17 k2 (Cs encE Y2) ∧ Rd wx wx.heap.size 2 A18 k3 (Cs encE Y3) ∧ Rd wx wx.heap.size 2 A19 t1 (Cs encE T1) ∧ Below (g14 + 1) w14 wx)
  case first =>
    cases r
    · obtain ⟨rfl, rfl, rfl, rfl, rfl, rfl, rfl, rfl, rfl, rfl, rfl⟩ := HNO.out HRR2.out
      go_wp2_with fail
      go_meet
      case rel => exact ⟨none, 0, none, 0, none, 0, none, 0, rfl, rfl, rfl, rfl, R16.out, R17.out, R18.out, Rd.none_, Rd.none_, Rd.none_, Rd.none_, Below.refl _ _⟩
  
    · have HB0 := hide (Below.refl (g14 + 1) w14)
      have GB : Hid (g14 + 1 ≤ w14.heap.size) := hide (Nat.le_of_lt R16.out.lt)
      have qR7 := row1 R7.out
      have lR7 := R7.out.lt
      go_wp2_with fail
      refine (HRT.out HRR2.out _ (HA.out.more G14.out)).mono ?_
      rintro e w15 ⟨A16, c16, A19, c19, rfl, hy1, hy2, hb⟩
      replace HA := hide (HA.out.below (hb.mono G14.out))
      replace HL8 := hide (HL8.out.below (hb.mono G14.out))
      replace R7 := hide (R7.out.below hb)
      replace R16 := hide (R16.out.below hb)
      replace R17 := hide (R17.out.below hb)
      replace R18 := hide (R18.out.below hb)
      replace HB0 := hide (HB0.out.trans (hb.mono GB.out))
      replace G14 := hide (Nat.le_trans G14.out hb.size)
      replace GB := hide (Nat.le_trans GB.out hb.size)
      have H16 := hide hy1
      have H19 := hide hy2
      have x1 := row1 R16.out
      have f1 := R16.out.frozen 0
      have l1 := R16.out.lt
      have qR7 := row1 R7.out
      have lR7 := R7.out.lt
      have N7 : ¬ g14 + 1 = g7 := by omega
      have N7' : ¬ g7 = g14 + 1 := by omega
      go_wp2_with fail
      replace H16 := hide (H16.out.setRow R16.out (.slice A16 k1 c16))
      replace H19 := hide (H19.out.setRow R16.out (.slice A16 k1 c16))
      replace HA := hide (HA.out.setRowB R16.out (.slice A16 k1 c16))
      replace HL8 := hide (HL8.out.setRowB R16.out (.slice A16 k1 c16))
      replace R7 := hide (R7.out.setNe (o := 0) (v := (.slice A16 k1 c16)) (g2 := g14 + 1) (by omega))
      replace R17 := hide (R17.out.setNe (o := 0) (v := (.slice A16 k1 c16)) (g2 := g14 + 1) (by omega))
      replace R18 := hide (R18.out.setNe (o := 0) (v := (.slice A16 k1 c16)) (g2 := g14 + 1) (by omega))
      replace R16 := hide (R16.out.set 0 (.slice A16 k1 c16))
      replace HB0 := hide (HB0.out.setCell (p := ⟨g14 + 1, 0, none⟩) (by simp; try omega) (.slice A16 k1 c16))
      replace G14 : Hid (g14 ≤ (w15.setCell ⟨g14 + 1, 0, none⟩ (.slice A16 k1 c16)).heap.size) := hide (by simpa using G14.out)
      replace GB : Hid (g14 + 1 ≤ (w15.setCell ⟨g14 + 1, 0, none⟩ (.slice A16 k1 c16)).heap.size) := hide (by simpa using GB.out)
      clear x1 f1 l1 qR7 lR7 N7 N7' hb
      generalize (w15.setCell ⟨g14 + 1, 0, none⟩ (.slice A16 k1 c16)) = w16 at *
      with_reducible refine (HRR.out HRR2.out _ (HA.out.more G14.out) (HL8.out.more G14.out)).mono ?_
      rintro e w17 ⟨A17, c17, rfl, hy1, hb⟩
      replace H16 := hide ((H16.out.below hb).more hb.size)
      replace H19 := hide ((H19.out.below hb).more hb.size)
      replace HA := hide (HA.out.below (hb.mono G14.out))
      replace HL8 := hide (HL8.out.below (hb.mono G14.out))
      replace R7 := hide (R7.out.below hb)
      replace R16 := hide (R16.out.below hb)
      replace R17 := hide (R17.out.below hb)
      replace R18 := hide (R18.out.below hb)
      replace HB0 := hide (HB0.out.trans (hb.mono GB.out))
      replace G14 := hide (Nat.le_trans G14.out hb.size)
      replace GB := hide (Nat.le_trans GB.out hb.size)
      have H17 := hide hy1
      have x1 := row1 R17.out
      have f1 := R17.out.frozen 0
      have l1 := R17.out.lt
      have qR7 := row1 R7.out
      have lR7 := R7.out.lt
      have N7 : ¬ g14 + 1 + 1 = g7 := by omega
      have N7' : ¬ g7 = g14 + 1 + 1 := by omega
      go_wp2_with fail
      replace H16 := hide (H16.out.setRow R17.out (.slice A17 k2 c17))
      replace H19 := hide (H19.out.setRow R17.out (.slice A17 k2 c17))
      replace H17 := hide (H17.out.setRow R17.out (.slice A17 k2 c17))
      replace HA := hide (HA.out.setRowB R17.out (.slice A17 k2 c17))
      replace HL8 := hide (HL8.out.setRowB R17.out (.slice A17 k2 c17))
      replace R7 := hide (R7.out.setNe (o := 0) (v := (.slice A17 k2 c17)) (g2 := g14 + 1 + 1) (by omega))
      replace R16 := hide (R16.out.setNe (o := 0) (v := (.slice A17 k2 c17)) (g2 := g14 + 1 + 1) (by omega))
      replace R18 := hide (R18.out.setNe (o := 0) (v := (.slice A17 k2 c17)) (g2 := g14 + 1 + 1) (by omega))
      replace R17 := hide (R17.out.set 0 (.slice A17 k2 c17))
      replace HB0 := hide (HB0.out.setCell (p := ⟨g14 + 1 + 1, 0, none⟩) (by simp; try omega) (.slice A17 k2 c17))
      replace G14 : Hid (g14 ≤ (w17.setCell ⟨g14 + 1 + 1, 0, none⟩ (.slice A17 k2 c17)).heap.size) := hide (by simpa using G14.out)
      replace GB : Hid (g14 + 1 ≤ (w17.setCell ⟨g14 + 1 + 1, 0, none⟩ (.slice A17 k2 c17)).heap.size) := hide (by simpa using GB.out)
      clear x1 f1 l1 qR7 lR7 N7 N7' hb
      generalize (w17.setCell ⟨g14 + 1 + 1, 0, none⟩ (.slice A17 k2 c17)) = w18 at *
      with_reducible refine (HRG.out HRR2.out _ (HA.out.more G14.out) (HL8.out.more G14.out)).mono ?_
      rintro e w19 ⟨A18, c18, rfl, hy1, hb⟩
      replace H16 := hide ((H16.out.below hb).more hb.size)
      replace H19 := hide ((H19.out.below hb).more hb.size)
      replace H17 := hide ((H17.out.below hb).more hb.size)
      replace HA := hide (HA.out.below (hb.mono G14.out))
      replace HL8 := hide (HL8.out.below (hb.mono G14.out))
      replace R7 := hide (R7.out.below hb)
      replace R16 := hide (R16.out.below hb)
      replace R17 := hide (R17.out.below hb)
      replace R18 := hide (R18.out.below hb)
      replace HB0 := hide (HB0.out.trans (hb.mono GB.out))
      replace G14 := hide (Nat.le_trans G14.out hb.size)
      replace GB := hide (Nat.le_trans GB.out hb.size)
      have H18 := hide hy1
      have x1 := row1 R18.out
      have f1 := R18.out.frozen 0
      have l1 := R18.out.lt
      have qR7 := row1 R7.out
      have lR7 := R7.out.lt
      have N7 : ¬ g14 + 1 + 1 + 1 = g7 := by omega
      have N7' : ¬ g7 = g14 + 1 + 1 + 1 := by omega
      go_wp2_with fail
      replace H16 := hide (H16.out.setRow R18.out (.slice A18 k3 c18))
      replace H19 := hide (H19.out.setRow R18.out (.slice A18 k3 c18))
      replace H17 := hide (H17.out.setRow R18.out (.slice A18 k3 c18))
      replace H18 := hide (H18.out.setRow R18.out (.slice A18 k3 c18))
      replace HA := hide (HA.out.setRowB R18.out (.slice A18 k3 c18))
      replace HL8 := hide (HL8.out.setRowB R18.out (.slice A18 k3 c18))
      replace R7 := hide (R7.out.setNe (o := 0) (v := (.slice A18 k3 c18)) (g2 := g14 + 1 + 1 + 1) (by omega))
      replace R16 := hide (R16.out.setNe (o := 0) (v := (.slice A18 k3 c18)) (g2 := g14 + 1 + 1 + 1) (by omega))
      replace R17 := hide (R17.out.setNe (o := 0) (v := (.slice A18 k3 c18)) (g2 := g14 + 1 + 1 + 1) (by omega))
      replace R18 := hide (R18.out.set 0 (.slice A18 k3 c18))
      replace HB0 := hide (HB0.out.setCell (p := ⟨g14 + 1 + 1 + 1, 0, none⟩) (by simp; try omega) (.slice A18 k3 c18))
      replace G14 : Hid (g14 ≤ (w19.setCell ⟨g14 + 1 + 1 + 1, 0, none⟩ (.slice A18 k3 c18)).heap.size) := hide (by simpa using G14.out)
      replace GB : Hid (g14 + 1 ≤ (w19.setCell ⟨g14 + 1 + 1 + 1, 0, none⟩ (.slice A18 k3 c18)).heap.size) := hide (by simpa using GB.out)
      clear x1 f1 l1 qR7 lR7 N7 N7' hb
      go_meet
      case rel => exact ⟨A16, c16, A17, c17, A18, c18, A19, c19, rfl, rfl, rfl, rfl, R16.out, R17.out, R18.out, H16.out, H17.out, H18.out, H19.out, HB0.out⟩
  case rest =>
    rename_i K hK
    obtain ⟨wZ, hwZ⟩ : ∃ w, w = wc := ⟨_, rfl⟩
    subst hwZ
    obtain ⟨A16, c16, A17, c17, A18, c18, A19, c19, rfl, rfl, rfl, rfl, hr16, hr17, hr18, h16, h17, h18, h19, hbd⟩ := hcut
    replace R3 := hide (R3.out.belowB (by omega) hbd)
    replace R7 := hide (R7.out.belowB (by omega) hbd)
    replace R9 := hide (R9.out.belowB (by omega) hbd)
    replace R12 := hide (R12.out.belowB (by omega) hbd)
    replace R14 := hide (R14.out.belowB (by omega) hbd)
    replace HA4 := hide (HA4.out.below (hbd.mono (by omega)))
    replace HL4 := hide (HL4.out.below (hbd.mono (by omega)))
    replace HT9 := hide (HT9.out.below (hbd.mono (by omega)))
    replace HL10 := hide (HL10.out.below (hbd.mono (by omega)))
    replace HT12 := hide (HT12.out.below (hbd.mono (by omega)))
    replace HT14 := hide (HT14.out.below (hbd.mono (by omega)))
    replace OT := hide (OT.out.belowB hbd (by omega))
    replace OR := hide (OR.out.belowB hbd (by omega))
    replace OG := hide (OG.out.belowB hbd (by omega))
    replace HB := hide (HB.out.trans (hbd.mono (by omega)))
    replace LO := hide (Nat.le_trans LO.out hbd.size)
    replace G14 := hide (Nat.le_trans G14.out hbd.size)
    have R16' := hide hr16
    have R17' := hide hr17
    have R18' := hide hr18
    have H16 := hide h16
    have H17 := hide h17
    have H18 := hide h18
    have H19 := hide h19
    obtain ⟨z1, z2, z3, z4, z5, z6, z7, z8⟩ := HLEN.out
    have Z5 := hide z5
    have Z6 := hide z6
    have Z7 := hide z7
    have Z8 := hide z8
    clear hr16 hr17 hr18 h16 h17 h18 h19 hbd R16 R17 R18 HA HL8 HRT HRR HRG HNO HLEN z5 z6 z7 z8 HU
    refine hK _ _ ?_
    clear hK K
    have qR9 := row1 R9.out
    have lR9 := R9.out.lt
    have qR12 := row1 R12.out
    have lR12 := R12.out.lt
    have qR14 := row1 R14.out
    have lR14 := R14.out.lt
    have qR16' := row1 R16'.out
    have lR16' := R16'.out.lt
    have qR17' := row1 R17'.out
    have lR17' := R17'.out.lt
    have qR18' := row1 R18'.out
    have lR18' := R18'.out.lt
    go_wp2_with fail
    clear qR9 lR9 qR12 lR12 qR14 lR14 qR16' lR16' qR17' lR17' qR18' lR18'
    with_reducible refine (EqualEK A10 A19 c10 c19 T1 T1 _ (HL10.out.more G14.out) H19.out Z6.out Z6.out (by omega) (by omega) true (by simp)).mono ?_
    rintro e wa ⟨rfl, hb⟩
    replace H16 := hide ((H16.out.below hb).more hb.size)
    replace H17 := hide ((H17.out.below hb).more hb.size)
    replace H18 := hide ((H18.out.below hb).more hb.size)
    replace H19 := hide ((H19.out.below hb).more hb.size)
    replace HA4 := hide (HA4.out.below (hb.mono LO.out))
    replace HL4 := hide (HL4.out.below (hb.mono LO.out))
    replace HT9 := hide (HT9.out.below (hb.mono G14.out))
    replace HL10 := hide (HL10.out.below (hb.mono G14.out))
    replace HT12 := hide (HT12.out.below (hb.mono G14.out))
    replace HT14 := hide (HT14.out.below (hb.mono G14.out))
    replace R3 := hide (R3.out.below hb)
    replace R7 := hide (R7.out.below hb)
    replace R9 := hide (R9.out.below hb)
    replace R12 := hide (R12.out.below hb)
    replace R14 := hide (R14.out.below hb)
    replace R16' := hide (R16'.out.below hb)
    replace R17' := hide (R17'.out.below hb)
    replace R18' := hide (R18'.out.below hb)
    replace OT := hide (OT.out.below hb)
    replace OR := hide (OR.out.below hb)
    replace OG := hide (OG.out.below hb)
    replace HB := hide (HB.out.trans (hb.mono HB.out.size))
    replace LO := hide (Nat.le_trans LO.out hb.size)
    replace G14 := hide (Nat.le_trans G14.out hb.size)
    clear hb
    have qR9 := row1 R9.out
    have lR9 := R9.out.lt
    have qR12 := row1 R12.out
    have lR12 := R12.out.lt
    have qR14 := row1 R14.out
    have lR14 := R14.out.lt
    have qR16' := row1 R16'.out
    have lR16' := R16'.out.lt
    have qR17' := row1 R17'.out
    have lR17' := R17'.out.lt
    have qR18' := row1 R18'.out
    have lR18' := R18'.out.lt
    go_wp2_with fail
    clear qR9 lR9 qR12 lR12 qR14 lR14 qR16' lR16' qR17' lR17' qR18' lR18'
    with_reducible refine (rsame_any A9 A16 c9 c16 k1 k1 Y1 Y1 _ (HT9.out.more G14.out) H16.out Z5.out Z5.out (by omega) (by omega) true (by simp)).mono ?_
    rintro e wb ⟨rfl, hb⟩
    replace H16 := hide ((H16.out.below hb).more hb.size)
    replace H17 := hide ((H17.out.below hb).more hb.size)
    replace H18 := hide ((H18.out.below hb).more hb.size)
    replace H19 := hide ((H19.out.below hb).more hb.size)
    replace HA4 := hide (HA4.out.below (hb.mono LO.out))
    replace HL4 := hide (HL4.out.below (hb.mono LO.out))
    replace HT9 := hide (HT9.out.below (hb.mono G14.out))
    replace HL10 := hide (HL10.out.below (hb.mono G14.out))
    replace HT12 := hide (HT12.out.below (hb.mono G14.out))
    replace HT14 := hide (HT14.out.below (hb.mono G14.out))
    replace R3 := hide (R3.out.below hb)
    replace R7 := hide (R7.out.below hb)
    replace R9 := hide (R9.out.below hb)
    replace R12 := hide (R12.out.below hb)
    replace R14 := hide (R14.out.below hb)
    replace R16' := hide (R16'.out.below hb)
    replace R17' := hide (R17'.out.below hb)
    replace R18' := hide (R18'.out.below hb)
    replace OT := hide (OT.out.below hb)
    replace OR := hide (OR.out.below hb)
    replace OG := hide (OG.out.below hb)
    replace HB := hide (HB.out.trans (hb.mono HB.out.size))
    replace LO := hide (Nat.le_trans LO.out hb.size)
    replace G14 := hide (Nat.le_trans G14.out hb.size)
    clear hb
    have qR9 := row1 R9.out
    have lR9 := R9.out.lt
    have qR12 := row1 R12.out
    have lR12 := R12.out.lt
    have qR14 := row1 R14.out
    have lR14 := R14.out.lt
    have qR16' := row1 R16'.out
    have lR16' := R16'.out.lt
    have qR17' := row1 R17'.out
    have lR17' := R17'.out.lt
    have qR18' := row1 R18'.out
    have lR18' := R18'.out.lt
    go_wp2_with fail
    clear qR9 lR9 qR12 lR12 qR14 lR14 qR16' lR16' qR17' lR17' qR18' lR18'
    with_reducible refine (rsame_any A12 A17 c12 c17 k2 k2 Y2 Y2 _ (HT12.out.more G14.out) H17.out Z7.out Z7.out (by omega) (by omega) true (by simp)).mono ?_
    rintro e wd ⟨rfl, hb⟩
    replace H16 := hide ((H16.out.below hb).more hb.size)
    replace H17 := hide ((H17.out.below hb).more hb.size)
    replace H18 := hide ((H18.out.below hb).more hb.size)
    replace H19 := hide ((H19.out.below hb).more hb.size)
    replace HA4 := hide (HA4.out.below (hb.mono LO.out))
    replace HL4 := hide (HL4.out.below (hb.mono LO.out))
    replace HT9 := hide (HT9.out.below (hb.mono G14.out))
    replace HL10 := hide (HL10.out.below (hb.mono G14.out))
    replace HT12 := hide (HT12.out.below (hb.mono G14.out))
    replace HT14 := hide (HT14.out.below (hb.mono G14.out))
    replace R3 := hide (R3.out.below hb)
    replace R7 := hide (R7.out.below hb)
    replace R9 := hide (R9.out.below hb)
    replace R12 := hide (R12.out.below hb)
    replace R14 := hide (R14.out.below hb)
    replace R16' := hide (R16'.out.below hb)
    replace R17' := hide (R17'.out.below hb)
    replace R18' := hide (R18'.out.below hb)
    replace OT := hide (OT.out.below hb)
    replace OR := hide (OR.out.below hb)
    replace OG := hide (OG.out.below hb)
    replace HB := hide (HB.out.trans (hb.mono HB.out.size))
    replace LO := hide (Nat.le_trans LO.out hb.size)
    replace G14 := hide (Nat.le_trans G14.out hb.size)
    clear hb
    have qR9 := row1 R9.out
    have lR9 := R9.out.lt
    have qR12 := row1 R12.out
    have lR12 := R12.out.lt
    have qR14 := row1 R14.out
    have lR14 := R14.out.lt
    have qR16' := row1 R16'.out
    have lR16' := R16'.out.lt
    have qR17' := row1 R17'.out
    have lR17' := R17'.out.lt
    have qR18' := row1 R18'.out
    have lR18' := R18'.out.lt
    go_wp2_with fail
    clear qR9 lR9 qR12 lR12 qR14 lR14 qR16' lR16' qR17' lR17' qR18' lR18'
    with_reducible refine (rsame_any A14 A18 c14 c18 k3 k3 Y3 Y3 _ (HT14.out.more G14.out) H18.out Z8.out Z8.out (by omega) (by omega) true (by simp)).mono ?_
    rintro e we ⟨rfl, hb⟩
    replace H16 := hide ((H16.out.below hb).more hb.size)
    replace H17 := hide ((H17.out.below hb).more hb.size)
    replace H18 := hide ((H18.out.below hb).more hb.size)
    replace H19 := hide ((H19.out.below hb).more hb.size)
    replace HA4 := hide (HA4.out.below (hb.mono LO.out))
    replace HL4 := hide (HL4.out.below (hb.mono LO.out))
    replace HT9 := hide (HT9.out.below (hb.mono G14.out))
    replace HL10 := hide (HL10.out.below (hb.mono G14.out))
    replace HT12 := hide (HT12.out.below (hb.mono G14.out))
    replace HT14 := hide (HT14.out.below (hb.mono G14.out))
    replace R3 := hide (R3.out.below hb)
    replace R7 := hide (R7.out.below hb)
    replace R9 := hide (R9.out.below hb)
    replace R12 := hide (R12.out.below hb)
    replace R14 := hide (R14.out.below hb)
    replace R16' := hide (R16'.out.below hb)
    replace R17' := hide (R17'.out.below hb)
    replace R18' := hide (R18'.out.below hb)
    replace OT := hide (OT.out.below hb)
    replace OR := hide (OR.out.below hb)
    replace OG := hide (OG.out.below hb)
    replace HB := hide (HB.out.trans (hb.mono HB.out.size))
    replace LO := hide (Nat.le_trans LO.out hb.size)
    replace G14 := hide (Nat.le_trans G14.out hb.size)
    clear hb
    clear HT9 HL10 HT12 HT14 H16 H17 H18 H19 R16' R17' R18'
    have qR9 := row1 R9.out
    have lR9 := R9.out.lt
    have qR12 := row1 R12.out
    have lR12 := R12.out.lt
    have qR14 := row1 R14.out
    have lR14 := R14.out.lt
    go_wp2_with fail
    clear qR9 lR9 qR12 lR12 qR14 lR14
    with_reducible refine (spoilB A9 c9 k1 Y1 _ OT.out (by omega)).mono ?_
    rintro e wf ⟨rfl, hw⟩
    replace R3 := hide (hw.row R3.out (by omega))
    replace R7 := hide (hw.row R7.out (by omega))
    replace R12 := hide (hw.row R12.out (by omega))
    replace R14 := hide (hw.row R14.out (by omega))
    replace HA4 := hide (hw.rd HA4.out (by omega) LO.out)
    replace HL4 := hide (hw.rd HL4.out (by omega) LO.out)
    replace OR := hide (hw.ob OR.out (by omega))
    replace OG := hide (hw.ob OG.out (by omega))
    replace HB := hide (hw.below HB.out (by omega) (Nat.le_refl _))
    replace LO := hide (Nat.le_trans LO.out hw.size)
    clear hw OT R9
    have qR12 := row1 R12.out
    have lR12 := R12.out.lt
    have qR14 := row1 R14.out
    have lR14 := R14.out.lt
    go_wp2_with fail
    clear qR12 lR12 qR14 lR14
    with_reducible refine (spoilB A12 c12 k2 Y2 _ OR.out (by omega)).mono ?_
    rintro e wg ⟨rfl, hw⟩
    replace R3 := hide (hw.row R3.out (by omega))
    replace R7 := hide (hw.row R7.out (by omega))
    replace R14 := hide (hw.row R14.out (by omega))
    replace HA4 := hide (hw.rd HA4.out (by omega) LO.out)
    replace HL4 := hide (hw.rd HL4.out (by omega) LO.out)
    replace OG := hide (hw.ob OG.out (by omega))
    replace HB := hide (hw.below HB.out (by omega) (Nat.le_refl _))
    replace LO := hide (Nat.le_trans LO.out hw.size)
    clear hw OR R12
    have qR14 := row1 R14.out
    have lR14 := R14.out.lt
    go_wp2_with fail
    clear qR14 lR14
    with_reducible refine (spoilB A14 c14 k3 Y3 _ OG.out (by omega)).mono ?_
    rintro e wh ⟨rfl, hw⟩
    replace R3 := hide (hw.row R3.out (by omega))
    replace R7 := hide (hw.row R7.out (by omega))
    replace HA4 := hide (hw.rd HA4.out (by omega) LO.out)
    replace HL4 := hide (hw.rd HL4.out (by omega) LO.out)
    replace HB := hide (hw.below HB.out (by omega) (Nat.le_refl _))
    replace LO := hide (Nat.le_trans LO.out hw.size)
    clear hw OG R14
    have Q17 : Hid (∀ w, Below wh.heap.size wh w → Calls Try.prog 17 #[.slice A8 k c8, .slice A2 k c2] w fun e W' => e = .returned (.bool true) ∧ Below w.heap.size w W') := hide (fun w hw => EqualEK A8 A2 c8 c2 L L w ((HL4.out.below (hw.mono LO.out)).more (Nat.le_trans LO.out hw.size)) ((HRY.out.below (HB.out.trans (hw.mono HB.out.size))).more (HB.out.trans (hw.mono HB.out.size)).size) HLL.out HLL.out (by omega) (by omega) true (by simp))
    have QX : Hid (∀ w, Below wh.heap.size wh w → Calls Try.prog 8 #[.agg #[.slice A0 n0 c0]] w fun e W' => ∃ A' c', e = .returned (.agg #[.slice A' m c']) ∧ Rd W' W'.heap.size 2 A' m (Cs encE S) ∧ Below w.heap.size w W') := hide (fun w hw => (HOWN.out w (HB.out.trans (hw.mono HB.out.size))).mono fun e W' ⟨A', c', e1, _, _, e3, _, e5⟩ => ⟨A', c', e1, e3, e5⟩)
    have Q18 : Hid (∀ w A' c', Below wh.heap.size wh w → Rd w w.heap.size 2 A' m (Cs encE S) → Calls Try.prog 18 #[.agg #[.slice A7 m c7], .agg #[.slice A' m c']] w fun e W' => e = .returned (.bool true) ∧ Below w.heap.size w W') := hide (fun w A' c' hw hr => rsame_any A7 A' c7 c' m m S S w ((HA4.out.below (hw.mono LO.out)).more (Nat.le_trans LO.out hw.size)) hr HSL.out HSL.out (by omega) (by omega) true (by simp))
    have HS : Hid (∀ w w', (Below wh.heap.size wh w ∧ w.cell? ⟨g7, 0, none⟩ = some (.slice A7 m c7) ∧ w.cell? ⟨W.heap.size, 0, none⟩ = some (.slice A0 n0 c0)) → Below w.heap.size w w' → (Below wh.heap.size wh w' ∧ w'.cell? ⟨g7, 0, none⟩ = some (.slice A7 m c7) ∧ w'.cell? ⟨W.heap.size, 0, none⟩ = some (.slice A0 n0 c0))) := hide (fun w w' h hb => ⟨h.1.trans (hb.mono h.1.size), kept hb h.2.1, kept hb h.2.2⟩)
    have a0 := row1 R7.out
    have x0 := row1 R3.out
    have lg7 := R7.out.lt
    have lg3 := R3.out.lt
    go_wp2_with fail
    have hbd0 : Below wh.heap.size wh wh.drew := (Below.refl _ _).drew
    go_region_held3 (fun wX => (Below wh.heap.size wh wX ∧ wX.cell? ⟨g7, 0, none⟩ = some (.slice A7 m c7) ∧ wX.cell? ⟨W.heap.size, 0, none⟩ = some (.slice A0 n0 c0)))
      (first | exact HS.out _ _ ‹_› hb | exact ⟨hbd0, a0, x0⟩ | go_keep)
      (first
        | (go_at_call 17; with_reducible refine (Q17.out _ (And.left ‹Below wh.heap.size wh _ ∧ _›)).mono ?_; rintro e w3 ⟨rfl, hb⟩)
        | (go_at_call 8; with_reducible refine (QX.out _ (And.left ‹Below wh.heap.size wh _ ∧ _›)).mono ?_; rintro e w3 ⟨Ay, cy, rfl, hrdy, hb⟩)
        | (go_at_call 18; with_reducible refine (Q18.out _ _ _ (And.left ‹Below wh.heap.size wh _ ∧ _›) hrdy).mono ?_; rintro e w3 ⟨rfl, hb⟩))
    have hbd := And.left ‹Below wh.heap.size wh _ ∧ _›
    go_wp2_with fail
    go_ret
    exact ⟨rfl, HB.out.trans (hbd.mono HB.out.size)⟩
end Go.Proofs.Ytejhknboiacgeaa
