/-
  Arenas: taken, retired, given back (the program's).
-/
import Derived.Test.YtfpbabafeecncaaArl
set_option linter.unusedSimpArgs false
set_option linter.unusedVariables false
namespace Go.Proofs.Ytfpbabafeecncaa
open Go Go.RowKit
attribute [local go_sem] via_cell via_frozen

def rtE (xs l : List (Int × Int)) : Int := if arOk xs = true then (match retS xs l with | some _ => 0 | none => 4) else 210
def rtA (xs l : List (Int × Int)) : List (Int × Int) := if arOk xs = true then (match retS xs l with | some ys => ys | none => []) else []
def gvE (xs l : List (Int × Int)) : Int := if arOk xs = true then (match givS xs l with | .ok _ => 0 | .error k => k) else 210
def gvA (xs l : List (Int × Int)) : List (Int × Int) := if arOk xs = true then (match givS xs l with | .ok ys => ys | .error _ => []) else []
def tkE (xs : List (Int × Int)) (many : Int) : Int := if arOk xs = true then (if many < 0 then 2 else if ((ents xs 0).length : Int) < many then 6 else 0) else 210
def tkA (xs : List (Int × Int)) (many : Int) : List (Int × Int) := if tkE xs many = 0 then tk xs many.toNat else []
def tkL (xs : List (Int × Int)) (many : Int) : List (Int × Int) := if tkE xs many = 0 then (ents xs 0).take many.toNat else []

/-- An arena that has come out, in memory of its own. -/
structure ArOut (W : World) (A : Option Addr) (n : Nat) (ys : List (Int × Int)) (W' : World) : Prop where
  len : ys.length = n
  rd : Rd W' W'.heap.size 2 A n (Cs encE ys)
  own : 0 < n → ∃ gs, A = some ⟨gs, 0, none⟩ ∧ W.heap.size ≤ gs ∧ RowAt W' gs 47 (Cs encE ys).toArray
theorem ArOut.nil (W W' : World) : ArOut W none 0 [] W' := ⟨rfl, Rd.none_, fun h => absurd h (by omega)⟩
theorem ArOut.below {W w w' : World} {A : Option Addr} {n : Nat} {ys : List (Int × Int)} (h : ArOut W A n ys w) (hb : Below w.heap.size w w') : ArOut W A n ys w' :=
  ⟨h.len, (h.rd.below hb).more hb.size, fun hn => by obtain ⟨gs, h1, h2, h3⟩ := h.own hn; exact ⟨gs, h1, h2, h3.below hb⟩⟩
theorem Past2.below {k : Nat} {a b : World} (h : Past2 k k a b) (hk : k = a.heap.size) : Below a.heap.size a b := ⟨h.os, h.tape, h.output, h.size, fun j hj => h.block j (by omega) (by omega) hj⟩
/-- Boxes behind W, in which a struct of one slice is stored. -/
theorem ArOut.set {W w : World} {A : Option Addr} {n g : Nat} {ys : List (Int × Int)} (h : ArOut W A n ys w) (hne : 0 < n → ∀ gs, A = some ⟨gs, 0, none⟩ → gs ≠ g) (v : Value) : ArOut W A n ys (w.setCell ⟨g, 0, none⟩ v) :=
  ⟨h.len, by
    rcases Nat.eq_zero_or_pos n with h0 | h0
    · subst h0
      exact ⟨h.rd.1, fun hh => absurd hh (by omega)⟩
    · obtain ⟨gs, rfl, _, h3⟩ := h.own h0
      have := rd_setCell_ne (u := v) (p := ⟨g, 0, none⟩) h.rd (fun e => hne h0 gs rfl e.symm)
      exact this.more (by simp), fun hn => by obtain ⟨gs, h1, h2, h3⟩ := h.own hn; exact ⟨gs, h1, h2, h3.setNe (hne hn gs h1)⟩⟩

set_option maxHeartbeats 1000000 in
theorem retire_any (A : Option Addr) (c n : Nat) (A2 : Option Addr) (c2 m : Nat) (xs l : List (Int × Int)) (W : World) (h : Rd W W.heap.size 2 A n (Cs encE xs)) (hx : xs.length = n) (hn : n ≤ 4096) (hr : Rd W W.heap.size 2 A2 m (Cs encE l)) (hl : l.length = m) (hm : m ≤ 4096) :
    Calls Try.prog 84 #[.agg #[.slice A n c], .slice A2 m c2] W fun e W' => ∃ A' n' c', e = .returned (.tuple #[.agg #[.slice A' n' c'], .int .i64 (rtE xs l)]) ∧ n' ≤ c' ∧ ArOut W A' n' (rtA xs l) W' ∧ Below W.heap.size W W' := by
  go_enter Try.func84, Try.ntmps84
  go_wp2_with fail
  obtain ⟨w1, hw1⟩ : ∃ w1, W.alloc (.cells #[.slice A n c] 27) = w1 := ⟨_, rfl⟩
  obtain ⟨w2, hw2⟩ : ∃ w2, w1.alloc (.cells #[.slice A2 m c2] 54) = w2 := ⟨_, rfl⟩
  obtain ⟨w3, hw3⟩ : ∃ w3, w2.alloc (.cells #[.slice none 0 0] 27) = w3 := ⟨_, rfl⟩
  have s1 : w1.heap.size = W.heap.size + 1 := by rw [← hw1]; simp
  have s2 : w2.heap.size = W.heap.size + 1 + 1 := by rw [← hw2]; simp [s1]
  have s3 : w3.heap.size = W.heap.size + 1 + 1 + 1 := by rw [← hw3]; simp [s2]
  have b1 : Below W.heap.size W w1 := by rw [← hw1]; exact (Below.refl _ _).alloc (Nat.le_refl _) _
  have b2 : Below w1.heap.size w1 w2 := by rw [← hw2]; exact (Below.refl _ _).alloc (Nat.le_refl _) _
  have b3 : Below w2.heap.size w2 w3 := by rw [← hw3]; exact (Below.refl _ _).alloc (Nat.le_refl _) _
  have r2 : RowAt w3 (W.heap.size + 1) 54 #[.slice A2 m c2] := by have h := RowAt.new w1 54 #[.slice A2 m c2]; rw [hw2, s1] at h; exact h.below b3
  have r3 : RowAt w3 (W.heap.size + 1 + 1) 27 #[.slice none 0 0] := by have h := RowAt.new w2 27 #[.slice none 0 0]; rw [hw3, s2] at h; exact h
  have hb0 : Below W.heap.size W w3 := (b1.trans (b2.mono b1.size)).trans (b3.mono (by omega))
  rw [hw1, hw2, hw3]
  have HTR : Hid (Calls Try.prog 87 #[.agg #[.slice A n c], .func (.func 91) #[] #[.pointer (some ⟨W.heap.size + 1, 0, none⟩)]] w3 fun e W' => ∃ A' n' c', e = .returned (.tuple #[.agg #[.slice A' n' c'], .int .i64 (rtE xs l)]) ∧ n' ≤ c' ∧ ArOut w3 A' n' (rtA xs l) W' ∧ Below w3.heap.size w3 W') := hide (by
    obtain ⟨o, ho⟩ : ∃ o, arOk xs = o := ⟨_, rfl⟩
    cases o
    · refine (tries_no A c n 91 _ xs w3 ((h.below hb0).more hb0.size) hx hn ho).mono ?_
      rintro e W' ⟨rfl, hb⟩
      refine ⟨none, 0, 0, by simp [rtE, ho], Nat.le_refl _, ?_, hb⟩
      have : rtA xs l = [] := by simp [rtA, ho]
      rw [this]
      exact ArOut.nil _ _
    · refine (tries_yes w3.heap.size n A c 91 #[.pointer (some ⟨W.heap.size + 1, 0, none⟩)] xs w3 (enters_of Try.func91 (by kernel_rfl) rfl) ((h.below hb0).more hb0.size) hx ho _ _ (fun _ _ => True) (fun _ _ _ _ _ => trivial) (Nat.le_refl _)
        (fun w gh gs hh hbw h1 h2 => retire1_any w3.heap.size gh gs (W.heap.size + 1) n m c2 W.heap.size A2 l xs w hh hn (r2.below hbw) ((hr.below hb0).below (hbw.mono hb0.size))  hl hm (by omega) (by have := hbw.size; omega) (by omega))).mono ?_
      rintro e W' ⟨hp, ⟨ys, gs, rfl, hrd, hrow, hge, hyl, hG, _⟩ | ⟨k, rfl, hF⟩⟩
      · have hA : rtA xs l = ys := by simp [rtA, ho, hG]
        have hE : rtE xs l = 0 := by simp [rtE, ho, hG]
        rw [hA, hE]
        exact ⟨_, n, n, rfl, Nat.le_refl _, ⟨hyl, hrd, fun _ => ⟨gs, rfl, hge, hrow⟩⟩, hp.below rfl⟩
      · have hA : rtA xs l = [] := by simp [rtA, ho, hF.2]
        have hE : rtE xs l = k := by simp [rtE, ho, hF.2, hF.1]
        rw [hA, hE]
        exact ⟨none, 0, 0, rfl, Nat.le_refl _, ArOut.nil _ _, hp.below rfl⟩)
  have HB := hide hb0
  have R3 := hide r3
  clear hw1 hw2 hw3 b1 b2 b3 hb0 r2 r3 h hr s1 s2
  refine HTR.out.mono ?_
  rintro e w4 ⟨A', n', c', rfl, hnc, hout, hb⟩
  have HO := hide hout
  have R3 := hide (R3.out.below hb)
  have HB := hide (HB.out.trans (hb.mono HB.out.size))
  have l3 := R3.out.lt
  have d3 := row1 R3.out
  have f3 := R3.out.frozen 0
  clear hout hb HTR
  go_wp2_with fail
  have hr4 : RowAt (w4.setCell ⟨W.heap.size + 1 + 1, 0, none⟩ (.slice A' n' c')) (W.heap.size + 1 + 1) 27 #[.slice A' n' c'] := R3.out.set 0 _
  have hout4 := HO.out.set (g := W.heap.size + 1 + 1) (fun h0 gs hgs => by
    obtain ⟨gs', h1, h2, _⟩ := HO.out.own h0
    rw [hgs] at h1
    injection h1 with h1
    injection h1 with h1
    omega) (.slice A' n' c')
  refine bodyPost_ret (v := .tuple #[.agg #[.slice A' n' c'], .int .i64 (rtE xs l)]) (by simp [results, Try.results84, go_sem, row1 hr4, hr4.lt, d3, l3]) rfl ⟨A', n', c', rfl, hnc, ⟨hout4.len, hout4.rd, fun hn => ?_⟩, HB.out.setCell (p := ⟨W.heap.size + 1 + 1, 0, none⟩) (by simp; omega) _⟩
  obtain ⟨gs, h1, h2, h3⟩ := hout4.own hn
  exact ⟨gs, h1, by omega, h3⟩

set_option maxHeartbeats 1000000 in
theorem give_any (A : Option Addr) (c n : Nat) (A2 : Option Addr) (c2 m : Nat) (xs l : List (Int × Int)) (W : World) (h : Rd W W.heap.size 2 A n (Cs encE xs)) (hx : xs.length = n) (hn : n ≤ 4096) (hr : Rd W W.heap.size 2 A2 m (Cs encE l)) (hl : l.length = m) (hm : m ≤ 4096) (hu : ∀ e ∈ l, U64 e.2) :
    Calls Try.prog 85 #[.agg #[.slice A n c], .slice A2 m c2] W fun e W' => ∃ A' n' c', e = .returned (.tuple #[.agg #[.slice A' n' c'], .int .i64 (gvE xs l)]) ∧ n' ≤ c' ∧ ArOut W A' n' (gvA xs l) W' ∧ Below W.heap.size W W' := by
  go_enter Try.func85, Try.ntmps85
  go_wp2_with fail
  obtain ⟨w1, hw1⟩ : ∃ w1, W.alloc (.cells #[.slice A n c] 27) = w1 := ⟨_, rfl⟩
  obtain ⟨w2, hw2⟩ : ∃ w2, w1.alloc (.cells #[.slice A2 m c2] 54) = w2 := ⟨_, rfl⟩
  obtain ⟨w3, hw3⟩ : ∃ w3, w2.alloc (.cells #[.slice none 0 0] 27) = w3 := ⟨_, rfl⟩
  have s1 : w1.heap.size = W.heap.size + 1 := by rw [← hw1]; simp
  have s2 : w2.heap.size = W.heap.size + 1 + 1 := by rw [← hw2]; simp [s1]
  have s3 : w3.heap.size = W.heap.size + 1 + 1 + 1 := by rw [← hw3]; simp [s2]
  have b1 : Below W.heap.size W w1 := by rw [← hw1]; exact (Below.refl _ _).alloc (Nat.le_refl _) _
  have b2 : Below w1.heap.size w1 w2 := by rw [← hw2]; exact (Below.refl _ _).alloc (Nat.le_refl _) _
  have b3 : Below w2.heap.size w2 w3 := by rw [← hw3]; exact (Below.refl _ _).alloc (Nat.le_refl _) _
  have r2 : RowAt w3 (W.heap.size + 1) 54 #[.slice A2 m c2] := by have h := RowAt.new w1 54 #[.slice A2 m c2]; rw [hw2, s1] at h; exact h.below b3
  have r3 : RowAt w3 (W.heap.size + 1 + 1) 27 #[.slice none 0 0] := by have h := RowAt.new w2 27 #[.slice none 0 0]; rw [hw3, s2] at h; exact h
  have hb0 : Below W.heap.size W w3 := (b1.trans (b2.mono b1.size)).trans (b3.mono (by omega))
  rw [hw1, hw2, hw3]
  have HTR : Hid (Calls Try.prog 87 #[.agg #[.slice A n c], .func (.func 93) #[] #[.pointer (some ⟨W.heap.size + 1, 0, none⟩)]] w3 fun e W' => ∃ A' n' c', e = .returned (.tuple #[.agg #[.slice A' n' c'], .int .i64 (gvE xs l)]) ∧ n' ≤ c' ∧ ArOut w3 A' n' (gvA xs l) W' ∧ Below w3.heap.size w3 W') := hide (by
    obtain ⟨o, ho⟩ : ∃ o, arOk xs = o := ⟨_, rfl⟩
    cases o
    · refine (tries_no A c n 93 _ xs w3 ((h.below hb0).more hb0.size) hx hn ho).mono ?_
      rintro e W' ⟨rfl, hb⟩
      refine ⟨none, 0, 0, by simp [gvE, ho], Nat.le_refl _, ?_, hb⟩
      have : gvA xs l = [] := by simp [gvA, ho]
      rw [this]
      exact ArOut.nil _ _
    · refine (tries_yes w3.heap.size n A c 93 #[.pointer (some ⟨W.heap.size + 1, 0, none⟩)] xs w3 (enters_of Try.func93 (by kernel_rfl) rfl) ((h.below hb0).more hb0.size) hx ho _ _ (fun _ _ => True) (fun _ _ _ _ _ => trivial) (Nat.le_refl _)
        (fun w gh gs hh hbw h1 h2 => give1_any w3.heap.size gh gs (W.heap.size + 1) n m c2 W.heap.size A2 l xs w hh ho (r2.below hbw) ((hr.below hb0).below (hbw.mono hb0.size)) hu hl hm (by omega) (by have := hbw.size; omega) (by omega))).mono ?_
      rintro e W' ⟨hp, ⟨ys, gs, rfl, hrd, hrow, hge, hyl, hG, _⟩ | ⟨k, rfl, hF⟩⟩
      · have hA : gvA xs l = ys := by simp [gvA, ho, hG]
        have hE : gvE xs l = 0 := by simp [gvE, ho, hG]
        rw [hA, hE]
        exact ⟨_, n, n, rfl, Nat.le_refl _, ⟨hyl, hrd, fun _ => ⟨gs, rfl, hge, hrow⟩⟩, hp.below rfl⟩
      · have hA : gvA xs l = [] := by simp [gvA, ho, hF]
        have hE : gvE xs l = k := by simp [gvE, ho, hF]
        rw [hA, hE]
        exact ⟨none, 0, 0, rfl, Nat.le_refl _, ArOut.nil _ _, hp.below rfl⟩)
  have HB := hide hb0
  have R3 := hide r3
  clear hw1 hw2 hw3 b1 b2 b3 hb0 r2 r3 h hr s1 s2
  refine HTR.out.mono ?_
  rintro e w4 ⟨A', n', c', rfl, hnc, hout, hb⟩
  have HO := hide hout
  have R3 := hide (R3.out.below hb)
  have HB := hide (HB.out.trans (hb.mono HB.out.size))
  have l3 := R3.out.lt
  have d3 := row1 R3.out
  have f3 := R3.out.frozen 0
  clear hout hb HTR
  go_wp2_with fail
  have hr4 : RowAt (w4.setCell ⟨W.heap.size + 1 + 1, 0, none⟩ (.slice A' n' c')) (W.heap.size + 1 + 1) 27 #[.slice A' n' c'] := R3.out.set 0 _
  have hout4 := HO.out.set (g := W.heap.size + 1 + 1) (fun h0 gs hgs => by
    obtain ⟨gs', h1, h2, _⟩ := HO.out.own h0
    rw [hgs] at h1
    injection h1 with h1
    injection h1 with h1
    omega) (.slice A' n' c')
  refine bodyPost_ret (v := .tuple #[.agg #[.slice A' n' c'], .int .i64 (gvE xs l)]) (by simp [results, Try.results85, go_sem, row1 hr4, hr4.lt, d3, l3]) rfl ⟨A', n', c', rfl, hnc, ⟨hout4.len, hout4.rd, fun hn => ?_⟩, HB.out.setCell (p := ⟨W.heap.size + 1 + 1, 0, none⟩) (by simp; omega) _⟩
  obtain ⟨gs, h1, h2, h3⟩ := hout4.own hn
  exact ⟨gs, h1, by omega, h3⟩

set_option maxHeartbeats 1000000 in
/-- arena.Take. -/
theorem Take_any (A : Option Addr) (c n : Nat) (many : Int) (xs : List (Int × Int)) (W : World) (h : Rd W W.heap.size 2 A n (Cs encE xs)) (hx : xs.length = n) (hn : n ≤ 4096) :
    Calls Try.prog 82 #[.agg #[.slice A n c], .int .i64 many] W fun e W' => ∃ A' n' c' A2 m c2, e = .returned (.tuple #[.agg #[.slice A' n' c'], .slice A2 m c2, .int .i64 (tkE xs many)]) ∧ n' ≤ c' ∧ m ≤ c2 ∧ ArOut W A' n' (tkA xs many) W' ∧ (tkL xs many).length = m ∧ Rd W' W'.heap.size 2 A2 m (Cs encE (tkL xs many)) ∧ (∀ p, A2 = some p → W.heap.size ≤ p.block) ∧ Below W.heap.size W W' := by
  obtain ⟨E, hE⟩ : ∃ E, tkE xs many = E := ⟨_, rfl⟩
  obtain ⟨Y, hY⟩ : ∃ Y, tkA xs many = Y := ⟨_, rfl⟩
  obtain ⟨L, hL⟩ : ∃ L, tkL xs many = L := ⟨_, rfl⟩
  rw [hE, hY, hL]
  have HE := hide hE
  have HY := hide hY
  have HL := hide hL
  clear hE hY hL
  go_enter Try.func82, Try.ntmps82
  go_wp2_with fail
  obtain ⟨w1, hw1⟩ : ∃ w1, W.alloc (.cells #[.slice A n c] 27) = w1 := ⟨_, rfl⟩
  obtain ⟨w2, hw2⟩ : ∃ w2, w1.alloc (.cells #[.int .i64 many] 3) = w2 := ⟨_, rfl⟩
  obtain ⟨w3, hw3⟩ : ∃ w3, w2.alloc (.cells #[.slice none 0 0] 27) = w3 := ⟨_, rfl⟩
  obtain ⟨w4, hw4⟩ : ∃ w4, w3.alloc (.cells #[.slice none 0 0] 54) = w4 := ⟨_, rfl⟩
  have s1 : w1.heap.size = W.heap.size + 1 := by rw [← hw1]; simp
  have s2 : w2.heap.size = W.heap.size + 1 + 1 := by rw [← hw2]; simp [s1]
  have s3 : w3.heap.size = W.heap.size + 1 + 1 + 1 := by rw [← hw3]; simp [s2]
  have s4 : w4.heap.size = W.heap.size + 1 + 1 + 1 + 1 := by rw [← hw4]; simp [s3]
  have b1 : Below W.heap.size W w1 := by rw [← hw1]; exact (Below.refl _ _).alloc (Nat.le_refl _) _
  have b2 : Below w1.heap.size w1 w2 := by rw [← hw2]; exact (Below.refl _ _).alloc (Nat.le_refl _) _
  have b3 : Below w2.heap.size w2 w3 := by rw [← hw3]; exact (Below.refl _ _).alloc (Nat.le_refl _) _
  have b4 : Below w3.heap.size w3 w4 := by rw [← hw4]; exact (Below.refl _ _).alloc (Nat.le_refl _) _
  have r2 : RowAt w4 (W.heap.size + 1) 3 #[.int .i64 many] := by have h := RowAt.new w1 3 #[.int .i64 many]; rw [hw2, s1] at h; exact (h.below b3).below b4
  have r3 : RowAt w4 (W.heap.size + 1 + 1) 27 #[.slice none 0 0] := by have h := RowAt.new w2 27 #[.slice none 0 0]; rw [hw3, s2] at h; exact h.below b4
  have r4 : RowAt w4 (W.heap.size + 1 + 1 + 1) 54 #[.slice none 0 0] := by have h := RowAt.new w3 54 #[.slice none 0 0]; rw [hw4, s3] at h; exact h
  have hb0 : Below W.heap.size W w4 := ((b1.trans (b2.mono b1.size)).trans (b3.mono (by omega))).trans (b4.mono (by omega))
  rw [hw1, hw2, hw3, hw4]
  have hE := HE.out
  have hY := HY.out
  have hL := HL.out
  have HTR : Hid (Calls Try.prog 87 #[.agg #[.slice A n c], .func (.func 88) #[] #[.pointer (some ⟨W.heap.size + 1, 0, none⟩), .pointer (some ⟨W.heap.size + 1 + 1 + 1, 0, none⟩)]] w4 fun e W' => ∃ A' n' c', e = .returned (.tuple #[.agg #[.slice A' n' c'], .int .i64 E]) ∧ n' ≤ c' ∧ ArOut w4 A' n' Y W' ∧ Past2 (W.heap.size + 1 + 1 + 1) (W.heap.size + 1 + 1 + 1) w4 W' ∧ (E ≠ 0 → L = [] ∧ Y = []) ∧ (E = 0 → ∃ b v, W.heap.size + 4 ≤ b ∧ RowBox W' (W.heap.size + 1 + 1 + 1) 54 b 43 2 L.length v (Cs encE L))) := hide (by
    obtain ⟨o, ho⟩ : ∃ o, arOk xs = o := ⟨_, rfl⟩
    cases o
    · have hE2 : E = 210 := by rw [← hE]; simp [tkE, ho]
      have hY2 : Y = [] := by rw [← hY]; simp [tkA, hE, hE2]
      have hL2 : L = [] := by rw [← hL]; simp [tkL, hE, hE2]
      subst hY2 hL2
      refine (tries_no A c n 88 _ xs w4 ((h.below hb0).more hb0.size) hx hn ho).mono ?_
      rintro e W' ⟨rfl, hb⟩
      exact ⟨none, 0, 0, by rw [hE2], Nat.le_refl _, ArOut.nil _ _, Past2.of_below hb, fun _ => ⟨rfl, rfl⟩, fun h => by omega⟩
    · refine (tries_yes (W.heap.size + 1 + 1 + 1) n A c 88 #[.pointer (some ⟨W.heap.size + 1, 0, none⟩), .pointer (some ⟨W.heap.size + 1 + 1 + 1, 0, none⟩)] xs w4 (enters_of Try.func88 (by kernel_rfl) rfl) ((h.below hb0).more hb0.size) hx ho (TakeG xs many) (TakeF xs many) (TakeX xs many (W.heap.size + 1 + 1 + 1)) (TakeX.stays xs many _) (by omega)
        (fun w gh gs hh hbw h1 h2 => take1_any gh gs (W.heap.size + 1) (W.heap.size + 1 + 1 + 1) n many xs w hh hn (r2.below hbw) (r4.below hbw) (by omega) (by omega) (by omega) (by omega))).mono ?_
      rintro e W' ⟨hp, ⟨ys, gs, rfl, hrd, hrow, hge, hyl, ⟨m, hm1, hm2, hm3⟩, b, hb1, m', v, hm4, hbox⟩ | ⟨k, rfl, hF⟩⟩
      · have hmm : m' = m := by omega
        subst hmm
        subst hm1
        have hE2 : E = 0 := by rw [← hE]; simp [tkE, ho]; omega
        have hY2 : Y = ys := by rw [← hY]; simp [tkA, hE, hE2, hm3]
        have hL2 : L = (ents xs 0).take m' := by rw [← hL]; simp [tkL, hE, hE2]
        subst hY2 hE2
        have hLl : L.length = m' := by rw [hL2, List.length_take]; omega
        refine ⟨_, n, n, rfl, Nat.le_refl _, ⟨hyl, hrd, fun _ => ⟨gs, rfl, hge, hrow⟩⟩, hp, fun h => absurd rfl h, fun _ => ⟨b, v, by omega, ?_⟩⟩
        rw [hLl, hL2]
        exact hbox
      · have hE2 : E = k ∧ E ≠ 0 := by
          rw [← hE]
          rcases hF with ⟨h1, h2⟩ | ⟨h1, h2, h3⟩
          · simp [tkE, ho, h1, h2]
          · have h4 : ¬ many < 0 := by omega
            simp [tkE, ho, h4, h2, h3]
        have hY2 : Y = [] := by rw [← hY]; simp [tkA, hE, hE2.2]
        have hL2 : L = [] := by rw [← hL]; simp [tkL, hE, hE2.2]
        subst hY2 hL2
        exact ⟨none, 0, 0, by rw [hE2.1], Nat.le_refl _, ArOut.nil _ _, hp, fun _ => ⟨rfl, rfl⟩, fun h => absurd h hE2.2⟩)
  have HB := hide hb0
  have R3 := hide r3
  clear hw1 hw2 hw3 hw4 b1 b2 b3 b4 hb0 r2 r3 r4 h s1 s2 s3 hE hY hL HE HY HL
  refine HTR.out.mono ?_
  rintro e w5 ⟨A', n', c', rfl, hnc, hout, hp, hbad, hgood⟩
  have HO := hide hout
  have R3 := hide (hp.row R3.out (by omega) (by omega))
  have hs5 := hp.size
  have HB5 : Hid (Below W.heap.size W w5) := hide ⟨hp.os.trans HB.out.os, hp.tape.trans HB.out.tape, hp.output.trans HB.out.output, by omega, fun j hj => (hp.block j (by omega) (by omega) (by omega)).trans (HB.out.block j hj)⟩
  have l3 := R3.out.lt
  have d3 := row1 R3.out
  have f3 := R3.out.frozen 0
  clear hout HTR HB hp
  by_cases hE0 : E = 0
  · subst hE0
    obtain ⟨b, v, hbb, hbox⟩ := hgood rfl
    obtain ⟨A2, c2, rfl, hc2, hcm2⟩ := own_form2 hbox.own
    have d4 := hbox.cell
    have l4 := hbox.row.lt
    have HX := hide hbox
    clear hbad hgood hbox
    go_wp2_with fail
    go_region
    go_wp2_with fail
    obtain ⟨w6, hw6⟩ : ∃ w6, (w5.setCell ⟨W.heap.size + 1 + 1, 0, none⟩ (.slice A' n' c')) = w6 := ⟨_, rfl⟩
    have hr6 : RowAt w6 (W.heap.size + 1 + 1) 27 #[.slice A' n' c'] := by rw [← hw6]; exact R3.out.set 0 _
    have ho6 : ArOut w4 A' n' Y w6 := by
      rw [← hw6]
      exact HO.out.set (fun h0 gs hgs => by
        obtain ⟨gs', h1, h2, _⟩ := HO.out.own h0
        rw [hgs] at h1
        injection h1 with h1
        injection h1 with h1
        omega) _
    have hw6o : w6.ownsRow b 43 2 (.slice A2 L.length c2) L.length (Cs encE L) := by
      rw [← hw6]
      exact own_other HX.out.own (fun j hj => heap_setCell_ne _ _ _ _ (by show j ≠ W.heap.size + 1 + 1; omega))
    have hb6 : Below W.heap.size w5 w6 := by rw [← hw6]; exact (Below.refl _ _).setCell (p := ⟨W.heap.size + 1 + 1, 0, none⟩) (by simp; omega) _
    rw [hw6]
    obtain ⟨w7, hw7⟩ : ∃ w7, (w6.alloc (.cells #[.slice A' n' c'] 27)).drew = w7 := ⟨_, rfl⟩
    have hb7 : Below w6.heap.size w6 w7 := by rw [← hw7]; exact ((Below.refl _ _).alloc (Nat.le_refl _) _).drew
    have hr7 := hr6.below hb7
    have ho7 := ho6.below hb7
    have hrd := ((Rd.of_own hw6o).below hb7).more hb7.size
    rw [hw7]
    refine bodyPost_ret (v := .tuple #[.agg #[.slice A' n' c'], .slice A2 L.length c2, .int .i64 0]) (by simp [results, Try.results82, go_sem, row1 hr7, hr7.lt]) rfl ⟨A', n', c', A2, L.length, c2, rfl, hnc, hc2, ⟨ho7.len, ho7.rd, fun hn => ?_⟩, rfl, hrd, fun p hp => by have := own_fresh hw6o p hp; omega, (HB5.out.trans hb6).trans (hb7.mono (by have := HB5.out.size; have := hb6.size; omega))⟩
    obtain ⟨gs, h1, h2, h3⟩ := ho7.own hn
    exact ⟨gs, h1, by omega, h3⟩
  · have hE1 : (E != 0) = true := by simpa using hE0
    obtain ⟨rfl, rfl⟩ := hbad hE0
    clear hbad hgood
    go_wp2_with fail
    have hr6 : RowAt ((w5.setCell ⟨W.heap.size + 1 + 1, 0, none⟩ (.slice none 0 0)).alloc (.cells #[.slice A' n' c'] 27)) (W.heap.size + 1 + 1) 27 #[.slice none 0 0] := (R3.out.set 0 (.slice none 0 0)).below ((Below.refl _ _).alloc (Nat.le_refl _) _)
    have hb6 : Below W.heap.size w5 ((w5.setCell ⟨W.heap.size + 1 + 1, 0, none⟩ (.slice none 0 0)).alloc (.cells #[.slice A' n' c'] 27)) := ((Below.refl _ _).setCell (p := ⟨W.heap.size + 1 + 1, 0, none⟩) (by simp; omega) _).alloc (by have := HB5.out.size; simp; omega) _
    generalize ((w5.setCell ⟨W.heap.size + 1 + 1, 0, none⟩ (.slice none 0 0)).alloc (.cells #[.slice A' n' c'] 27)) = w7 at *
    exact bodyPost_ret (v := .tuple #[.agg #[.slice none 0 0], .slice none 0 0, .int .i64 E]) (by simp [results, Try.results82, go_sem, row1 hr6, hr6.lt]) rfl ⟨none, 0, 0, none, 0, 0, rfl, Nat.le_refl _, Nat.le_refl _, ArOut.nil _ _, rfl, Rd.none_, fun p hp => (by cases hp), HB5.out.trans hb6⟩

/-- The same, with what comes out named. -/
theorem TakeK (A : Option Addr) (c n : Nat) (many : Int) (xs : List (Int × Int)) (W : World) (h : Rd W W.heap.size 2 A n (Cs encE xs)) (hx : xs.length = n) (hn : n ≤ 4096) (E : Int) (Y L : List (Int × Int)) (k m : Nat) (hE : tkE xs many = E) (hY : tkA xs many = Y) (hL : tkL xs many = L) (hk : Y.length = k) (hm : L.length = m) :
    Calls Try.prog 82 #[.agg #[.slice A n c], .int .i64 many] W fun e W' => ∃ A' c' A2 c2, e = .returned (.tuple #[.agg #[.slice A' k c'], .slice A2 m c2, .int .i64 E]) ∧ k ≤ c' ∧ m ≤ c2 ∧ ArOut W A' k Y W' ∧ Rd W' W'.heap.size 2 A2 m (Cs encE L) ∧ (∀ p, A2 = some p → W.heap.size ≤ p.block) ∧ Below W.heap.size W W' := by
  refine (Take_any A c n many xs W h hx hn).mono ?_
  rintro e W' ⟨A', n', c', A2, m', c2, rfl, h1, h2, h3, h4, h5, h6, h7⟩
  rw [hE]
  rw [hY] at h3
  rw [hL] at h4 h5
  obtain rfl : n' = k := by rw [← hk]; exact h3.len.symm
  obtain rfl : m' = m := by rw [← hm]; exact h4.symm
  exact ⟨A', c', A2, c2, rfl, h1, h2, h3, h5, h6, h7⟩
theorem RetireK (A : Option Addr) (c n : Nat) (A2 : Option Addr) (c2 m : Nat) (xs l : List (Int × Int)) (W : World) (h : Rd W W.heap.size 2 A n (Cs encE xs)) (hx : xs.length = n) (hn : n ≤ 4096) (hr : Rd W W.heap.size 2 A2 m (Cs encE l)) (hl : l.length = m) (hm : m ≤ 4096) (E : Int) (Y : List (Int × Int)) (k : Nat) (hE : rtE xs l = E) (hY : rtA xs l = Y) (hk : Y.length = k) :
    Calls Try.prog 84 #[.agg #[.slice A n c], .slice A2 m c2] W fun e W' => ∃ A' c', e = .returned (.tuple #[.agg #[.slice A' k c'], .int .i64 E]) ∧ k ≤ c' ∧ ArOut W A' k Y W' ∧ Below W.heap.size W W' := by
  refine (retire_any A c n A2 c2 m xs l W h hx hn hr hl hm).mono ?_
  rintro e W' ⟨A', n', c', rfl, h1, h3, h7⟩
  rw [hE]
  rw [hY] at h3
  obtain rfl : n' = k := by rw [← hk]; exact h3.len.symm
  exact ⟨A', c', rfl, h1, h3, h7⟩
theorem GiveK (A : Option Addr) (c n : Nat) (A2 : Option Addr) (c2 m : Nat) (xs l : List (Int × Int)) (W : World) (h : Rd W W.heap.size 2 A n (Cs encE xs)) (hx : xs.length = n) (hn : n ≤ 4096) (hr : Rd W W.heap.size 2 A2 m (Cs encE l)) (hl : l.length = m) (hm : m ≤ 4096) (hu : ∀ e ∈ l, U64 e.2) (E : Int) (Y : List (Int × Int)) (k : Nat) (hE : gvE xs l = E) (hY : gvA xs l = Y) (hk : Y.length = k) :
    Calls Try.prog 85 #[.agg #[.slice A n c], .slice A2 m c2] W fun e W' => ∃ A' c', e = .returned (.tuple #[.agg #[.slice A' k c'], .int .i64 E]) ∧ k ≤ c' ∧ ArOut W A' k Y W' ∧ Below W.heap.size W W' := by
  refine (give_any A c n A2 c2 m xs l W h hx hn hr hl hm hu).mono ?_
  rintro e W' ⟨A', n', c', rfl, h1, h3, h7⟩
  rw [hE]
  rw [hY] at h3
  obtain rfl : n' = k := by rw [← hk]; exact h3.len.symm
  exact ⟨A', c', rfl, h1, h3, h7⟩
end Go.Proofs.Ytfpbabafeecncaa
