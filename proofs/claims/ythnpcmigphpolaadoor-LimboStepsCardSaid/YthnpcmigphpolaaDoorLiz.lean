/-
  Limbos: Retire, Advance.
-/
import Derived.Test.YthnpcmigphpolaaDoorLiy
set_option linter.unusedSimpArgs false
set_option linter.unusedVariables false
namespace Go.Proofs.YthnpcmigphpolaaDoor
open Go Go.RowKit
attribute [local go_sem] via_cell via_frozen
attribute [local go_sem] wpmf

theorem ret1_any (kl gx gb : Nat) (l : Lim) (A : Nat → Option Addr) (n c : Nat → Nat) (s g : Int) (hg : 0 ≤ g ∧ g < 18446744073709551616) (w : World) (h : ChAt w gx (gx + 1) l A n c) (hb : RowAt w gb 34 #[.int .i64 s, .int .u64 g]) (ho : l.ok = true) :
    Calls Tryd.prog 41 #[.pointer (some ⟨gx, 0, none⟩), .pointer (some ⟨gb, 0, none⟩)] w (DoesRes kl gx (gx + 1) (fun l' => doRet l (s, g) = .ok l') (fun k _ => doRet l (s, g) = .error k) (fun _ _ => True) w) := by
  have HC := hide (retire_any gx l A n c s g hg w h ho)
  have q0 := row20 hb
  have q1 := row21 hb
  have ql := hb.lt
  have H := hide h
  clear h hb
  go_enter Tryd.func41, Tryd.ntmps41
  go_wp2_with fail
  with_reducible refine HC.out.mono ?_
  rintro e w1 (⟨rfl, l', hl', A', n', c', hch, hfr⟩ | ⟨k, rfl, hk, hp⟩)
  · have HCH := hide hch
    have HP := hide (hfr.past kl H.out)
    have HL := hide hl'
    clear hch hfr hl'
    go_wp2_with fail
    go_end0
    exact ⟨HP.out, .inl ⟨rfl, l', A', n', c', HCH.out, HL.out, trivial⟩⟩
  · exact ⟨rfl, ⟨hp.os, hp.tape, hp.output, hp.size, fun j h1 h2 h3 => hp.block j h1 (by omega) h3⟩, .inr ⟨k, rfl, hk⟩⟩
theorem adv1_any (kl gx : Nat) (l : Lim) (A : Nat → Option Addr) (n c : Nat → Nat) (w : World) (h : ChAt w gx (gx + 1) l A n c) (ho : l.ok = true) :
    Calls Tryd.prog 42 #[.pointer (some ⟨gx, 0, none⟩)] w (DoesRes kl gx (gx + 1) (fun l' => doAdv l = .ok l') (fun k _ => doAdv l = .error k) (fun _ _ => True) w) := by
  have HC := hide (advance_any gx l A n c w h ho)
  have H := hide h
  clear h
  go_enter Tryd.func42, Tryd.ntmps42
  go_wp2_with fail
  with_reducible refine HC.out.mono ?_
  rintro e w1 (⟨rfl, l', hl', A', n', c', hch, hfr⟩ | ⟨k, rfl, hk, hp⟩)
  · have HCH := hide hch
    have HP := hide (hfr.past kl H.out)
    have HL := hide hl'
    clear hch hfr hl'
    go_wp2_with fail
    go_end0
    exact ⟨HP.out, .inl ⟨rfl, l', A', n', c', HCH.out, HL.out, trivial⟩⟩
  · exact ⟨rfl, ⟨hp.os, hp.tape, hp.output, hp.size, fun j h1 h2 h3 => hp.block j h1 (by omega) h3⟩, .inr ⟨k, rfl, hk⟩⟩
theorem app1 (a b : Value) : (#[a] ++ #[b] : Array Value) = #[a, b] := rfl
theorem app0 (a : Value) : (#[a] ++ #[] : Array Value) = #[a] := rfl
theorem PastK.to_below {w w' : World} (h : PastK w.heap.size w.heap.size w w') : Below w.heap.size w w' := ⟨h.os, h.tape, h.output, h.size, fun j hj => h.block j hj (by omega) hj⟩
/-- What the exported changes come to. -/
def OutRes (W : World) (r : Except Int Lim) (e : Ending) (W' : World) : Prop :=
  Below W.heap.size W W' ∧ ((∃ l' A' n' c', r = .ok l' ∧ e = .returned (.tuple #[.agg (limC l'.E A' n' c'), .int .i64 0]) ∧ LimOwn W' W.heap.size A' n' c' l'.r) ∨
    (∃ k, r = .error k ∧ e = .returned (.tuple #[.agg zeroC, .int .i64 k])))
def retR (l : Lim) (e : Ent) : Except Int Lim := if l.ok then doRet l e else .error 240
def advR (l : Lim) : Except Int Lim := if l.ok then doAdv l else .error 240
/-- A limbo has been laid into a result's box. -/
structure LaidL (g : Nat) (w : World) (C : Array Value) (w' : World) : Prop where
  row : RowAt w' g 26 C
  block : ∀ j, j ≠ g → w'.heap[j]? = w.heap[j]?
  below : Below g w w'
set_option maxHeartbeats 2000000 in
theorem laidL_of {g : Nat} {w : World} {C : Array Value} {v0 v1 v2 v3 : Value} (h : RowAt w g 26 C) (hC : C.size = 4) :
    LaidL g w #[v0, v1, v2, v3] ((((w.setCell ⟨g, 0, none⟩ v0).setCell ⟨g, 1, none⟩ v1).setCell ⟨g, 2, none⟩ v2).setCell ⟨g, 3, none⟩ v3) := by
  refine ⟨?_, fun j hj => ?_, ?_⟩
  · have h1 := (((h.set 0 v0).set 1 v1).set 2 v2).set 3 v3
    obtain ⟨L⟩ := C
    match L, hC with
    | [a, b, c, d], _ => simpa using h1
  · rw [heap_setCell_ne _ _ _ _ hj, heap_setCell_ne _ _ _ _ hj, heap_setCell_ne _ _ _ _ hj, heap_setCell_ne _ _ _ _ hj]
  · exact ((((Below.refl _ _).setCell (p := ⟨g, 0, none⟩) (Nat.le_refl _) _).setCell (p := ⟨g, 1, none⟩) (Nat.le_refl _) _).setCell (p := ⟨g, 2, none⟩) (Nat.le_refl _) _).setCell (p := ⟨g, 3, none⟩) (Nat.le_refl _) _
set_option maxHeartbeats 2000000 in
theorem Retire_any (B : Nat) (A : Nat → Option Addr) (n c : Nat → Nat) (l : Lim) (s g : Int) (W : World) (h : LimRd W B A n l.r) (hE : l.E < 18446744073709551616) (hB : B ≤ W.heap.size) (hm : ∀ k, k < 3 → n k ≤ 4096)
    (hg : ∀ k, k < 3 → ∀ e ∈ l.r k, 0 ≤ e.2 ∧ e.2 < 18446744073709551616) (hge : 0 ≤ g ∧ g < 18446744073709551616) :
    Calls Tryd.prog 15 #[.agg (limC l.E A n c), .agg #[.int .i64 s, .int .u64 g]] W (OutRes W (retR l (s, g))) := by
  obtain ⟨w1, hw1⟩ : ∃ w1, W.alloc (.cells (limC l.E A n c) 26) = w1 := ⟨_, rfl⟩
  obtain ⟨w2, hw2⟩ : ∃ w2, w1.alloc (.cells #[.int .i64 s, .int .u64 g] 34) = w2 := ⟨_, rfl⟩
  obtain ⟨w3, hw3⟩ : ∃ w3, w2.alloc (.cells zeroC 26) = w3 := ⟨_, rfl⟩
  have s1 : w1.heap.size = W.heap.size + 1 := by rw [← hw1]; simp
  have s2 : w2.heap.size = W.heap.size + 1 + 1 := by rw [← hw2]; simp [s1]
  have s3 : w3.heap.size = W.heap.size + 1 + 1 + 1 := by rw [← hw3]; simp [s2]
  have b1 : Below W.heap.size W w1 := by rw [← hw1]; exact (Below.refl _ _).alloc (Nat.le_refl _) _
  have b2 : Below w1.heap.size w1 w2 := by rw [← hw2]; exact (Below.refl _ _).alloc (Nat.le_refl _) _
  have b3 : Below w2.heap.size w2 w3 := by rw [← hw3]; exact (Below.refl _ _).alloc (Nat.le_refl _) _
  have r2 : RowAt w3 (W.heap.size + 1) 34 #[.int .i64 s, .int .u64 g] := by have h := RowAt.new w1 34 #[.int .i64 s, .int .u64 g]; rw [hw2, s1] at h; exact h.below b3
  have r3 : RowAt w3 (W.heap.size + 1 + 1) 26 zeroC := by have h := RowAt.new w2 26 zeroC; rw [hw3, s2] at h; exact h
  have hb0 : Below W.heap.size W w3 := (b1.trans (b2.mono b1.size)).trans (b3.mono (by omega))
  have HTR : Hid (Calls Tryd.prog 32 #[.agg (limC l.E A n c), .func (.func 41) #[] #[.pointer (some ⟨W.heap.size + 1, 0, none⟩)]] w3 (OutRes w3 (retR l (s, g)))) := hide (by
    have hH := h.below (hb0.mono hB)
    have hBs := Nat.le_trans hB hb0.size
    rcases Bool.eq_false_or_eq_true l.ok with hok | hok
    · have hR : retR l (s, g) = doRet l (s, g) := by unfold retR; rw [hok, if_pos rfl]
      rw [hR]
      refine (tries_yes w3.heap.size B A n c l 41 _ w3 (enters_of Tryd.func41 (by kernel_rfl) rfl) hH hBs hm hg hok (fun l' => doRet l (s, g) = .ok l') (fun k _ => doRet l (s, g) = .error k) (fun _ _ => True) (fun _ _ _ _ _ => trivial) (fun _ _ _ h _ => h) (Nat.le_refl _)
        (fun w gx A' c' hch hb hgx => by rw [app1]; exact ret1_any w3.heap.size gx (W.heap.size + 1) l A' n c' s g hge w hch (r2.below hb) hok)).mono ?_
      rintro e w' ⟨hp, (⟨l', A', n', c', rfl, hown, hG, _⟩ | ⟨k, rfl, hF⟩)⟩
      · exact ⟨hp.to_below, .inl ⟨l', A', n', c', hG, rfl, hown⟩⟩
      · exact ⟨hp.to_below, .inr ⟨k, hF, rfl⟩⟩
    · refine (tries_no B A n c l 41 _ w3 hH hE hBs hm hg hok).mono ?_
      rintro e w' ⟨rfl, hb⟩
      exact ⟨hb, .inr ⟨240, by unfold retR; rw [hok]; rfl, rfl⟩⟩)
  have HB := hide hb0
  have R3 := hide r3
  have S3 := hide s3
  clear b1 b2 b3 r2 r3 hb0 s1 s2 s3 h hm hg hE
  subst hw3
  subst hw2
  subst hw1
  go_enter Tryd.func15, Tryd.ntmps15
  go_wp2_with fail
  generalize ((W.alloc (.cells (limC l.E A n c) 26)).alloc (.cells #[.int .i64 s, .int .u64 g] 34)).alloc (.cells zeroC 26) = w3 at *
  with_reducible refine HTR.out.mono ?_
  rintro e w4 ⟨hb4, hres⟩
  have R4 := hide (R3.out.below hb4)
  have HB4 := hide (HB.out.trans (hb4.mono HB.out.size))
  have z0 : w4.cell? ⟨W.heap.size + 1 + 1, 0, none⟩ = some (.int .u64 0) := by have := R4.out.cell 0; simpa using this
  have z1 : w4.cell? ⟨W.heap.size + 1 + 1, 1, none⟩ = some (.slice none 0 0) := by have := R4.out.cell 1; simpa using this
  have z2 : w4.cell? ⟨W.heap.size + 1 + 1, 2, none⟩ = some (.slice none 0 0) := by have := R4.out.cell 2; simpa using this
  have z3 : w4.cell? ⟨W.heap.size + 1 + 1, 3, none⟩ = some (.slice none 0 0) := by have := R4.out.cell 3; simpa using this
  have zl := R4.out.lt
  have f0 := R4.out.frozen 0
  have f1 := R4.out.frozen 1
  have f2 := R4.out.frozen 2
  have f3 := R4.out.frozen 3
  have hs4 := HB4.out.size
  have hs3 := S3.out
  clear hb4
  rcases hres with ⟨l', A', n', c', hr, rfl, hown⟩ | ⟨k, hr, rfl⟩
  · have HO := hide hown
    have HRR := hide hr
    clear hown hr
    have HLD : Hid (LaidL (W.heap.size + 1 + 1) w4 (limC l'.E A' n' c') ((((w4.setCell ⟨W.heap.size + 1 + 1, 0, none⟩ (.int .u64 (l'.E : Int))).setCell ⟨W.heap.size + 1 + 1, 1, none⟩ (.slice (A' 0) (n' 0) (c' 0))).setCell ⟨W.heap.size + 1 + 1, 2, none⟩ (.slice (A' 1) (n' 1) (c' 1))).setCell ⟨W.heap.size + 1 + 1, 3, none⟩ (.slice (A' 2) (n' 2) (c' 2)))) := hide (laidL_of R4.out rfl)
    go_wp2_with fail
    generalize (((w4.setCell ⟨W.heap.size + 1 + 1, 0, none⟩ (.int .u64 (l'.E : Int))).setCell ⟨W.heap.size + 1 + 1, 1, none⟩ (.slice (A' 0) (n' 0) (c' 0))).setCell ⟨W.heap.size + 1 + 1, 2, none⟩ (.slice (A' 1) (n' 1) (c' 1))).setCell ⟨W.heap.size + 1 + 1, 3, none⟩ (.slice (A' 2) (n' 2) (c' 2)) = w9 at *
    have c0 : w9.cell? ⟨W.heap.size + 1 + 1, 0, none⟩ = some (.int .u64 (l'.E : Int)) := by have := HLD.out.row.cell 0; simpa [limC] using this
    have c1 : w9.cell? ⟨W.heap.size + 1 + 1, 1, none⟩ = some (.slice (A' 0) (n' 0) (c' 0)) := by have := HLD.out.row.cell 1; simpa [limC] using this
    have c2 : w9.cell? ⟨W.heap.size + 1 + 1, 2, none⟩ = some (.slice (A' 1) (n' 1) (c' 1)) := by have := HLD.out.row.cell 2; simpa [limC] using this
    have c3 : w9.cell? ⟨W.heap.size + 1 + 1, 3, none⟩ = some (.slice (A' 2) (n' 2) (c' 2)) := by have := HLD.out.row.cell 3; simpa [limC] using this
    have cl := HLD.out.row.lt
    refine bodyPost_ret (v := .tuple #[.agg (limC l'.E A' n' c'), .int .i64 0]) (by simp [results, Tryd.results15, go_sem, c0, c1, c2, c3, cl]) rfl ?_
    exact ⟨HB4.out.trans (HLD.out.below.mono (by omega)), .inl ⟨l', A', n', c', HRR.out, rfl, (HO.out.other (fun g h1 h2 => HLD.out.block g (by omega))).lower (by omega)⟩⟩
  · have HRR := hide hr
    have HLD : Hid (LaidL (W.heap.size + 1 + 1) w4 zeroC ((((w4.setCell ⟨W.heap.size + 1 + 1, 0, none⟩ (.int .u64 0)).setCell ⟨W.heap.size + 1 + 1, 1, none⟩ (.slice none 0 0)).setCell ⟨W.heap.size + 1 + 1, 2, none⟩ (.slice none 0 0)).setCell ⟨W.heap.size + 1 + 1, 3, none⟩ (.slice none 0 0))) := hide (laidL_of R4.out rfl)
    clear hr
    go_wp2_with fail
    generalize (((w4.setCell ⟨W.heap.size + 1 + 1, 0, none⟩ (.int .u64 0)).setCell ⟨W.heap.size + 1 + 1, 1, none⟩ (.slice none 0 0)).setCell ⟨W.heap.size + 1 + 1, 2, none⟩ (.slice none 0 0)).setCell ⟨W.heap.size + 1 + 1, 3, none⟩ (.slice none 0 0) = w9 at *
    have c0 : w9.cell? ⟨W.heap.size + 1 + 1, 0, none⟩ = some (.int .u64 0) := by have := HLD.out.row.cell 0; simpa using this
    have c1 : w9.cell? ⟨W.heap.size + 1 + 1, 1, none⟩ = some (.slice none 0 0) := by have := HLD.out.row.cell 1; simpa using this
    have c2 : w9.cell? ⟨W.heap.size + 1 + 1, 2, none⟩ = some (.slice none 0 0) := by have := HLD.out.row.cell 2; simpa using this
    have c3 : w9.cell? ⟨W.heap.size + 1 + 1, 3, none⟩ = some (.slice none 0 0) := by have := HLD.out.row.cell 3; simpa using this
    have cl := HLD.out.row.lt
    refine bodyPost_ret (v := .tuple #[.agg zeroC, .int .i64 k]) (by simp [results, Tryd.results15, go_sem, c0, c1, c2, c3, cl]) rfl ?_
    exact ⟨HB4.out.trans (HLD.out.below.mono (by omega)), .inr ⟨k, HRR.out, rfl⟩⟩
set_option maxHeartbeats 2000000 in
theorem Advance_any (B : Nat) (A : Nat → Option Addr) (n c : Nat → Nat) (l : Lim) (W : World) (h : LimRd W B A n l.r) (hE : l.E < 18446744073709551616) (hB : B ≤ W.heap.size) (hm : ∀ k, k < 3 → n k ≤ 4096)
    (hg : ∀ k, k < 3 → ∀ e ∈ l.r k, 0 ≤ e.2 ∧ e.2 < 18446744073709551616) :
    Calls Tryd.prog 16 #[.agg (limC l.E A n c)] W (OutRes W (advR l)) := by
  obtain ⟨w1, hw1⟩ : ∃ w1, W.alloc (.cells (limC l.E A n c) 26) = w1 := ⟨_, rfl⟩
  obtain ⟨w3, hw3⟩ : ∃ w3, w1.alloc (.cells zeroC 26) = w3 := ⟨_, rfl⟩
  have s1 : w1.heap.size = W.heap.size + 1 := by rw [← hw1]; simp
  have s3 : w3.heap.size = W.heap.size + 1 + 1 := by rw [← hw3]; simp [s1]
  have b1 : Below W.heap.size W w1 := by rw [← hw1]; exact (Below.refl _ _).alloc (Nat.le_refl _) _
  have b3 : Below w1.heap.size w1 w3 := by rw [← hw3]; exact (Below.refl _ _).alloc (Nat.le_refl _) _
  have r3 : RowAt w3 (W.heap.size + 1) 26 zeroC := by have h := RowAt.new w1 26 zeroC; rw [hw3, s1] at h; exact h
  have hb0 : Below W.heap.size W w3 := b1.trans (b3.mono b1.size)
  have HTR : Hid (Calls Tryd.prog 32 #[.agg (limC l.E A n c), .func (.func 42) #[] #[]] w3 (OutRes w3 (advR l))) := hide (by
    have hH := h.below (hb0.mono hB)
    have hBs := Nat.le_trans hB hb0.size
    rcases Bool.eq_false_or_eq_true l.ok with hok | hok
    · have hR : advR l = doAdv l := by unfold advR; rw [hok, if_pos rfl]
      rw [hR]
      refine (tries_yes w3.heap.size B A n c l 42 _ w3 (enters_of Tryd.func42 (by kernel_rfl) rfl) hH hBs hm hg hok (fun l' => doAdv l = .ok l') (fun k _ => doAdv l = .error k) (fun _ _ => True) (fun _ _ _ _ _ => trivial) (fun _ _ _ h _ => h) (Nat.le_refl _)
        (fun w gx A' c' hch hb hgx => by rw [app0]; exact adv1_any w3.heap.size gx l A' n c' w hch hok)).mono ?_
      rintro e w' ⟨hp, (⟨l', A', n', c', rfl, hown, hG, _⟩ | ⟨k, rfl, hF⟩)⟩
      · exact ⟨hp.to_below, .inl ⟨l', A', n', c', hG, rfl, hown⟩⟩
      · exact ⟨hp.to_below, .inr ⟨k, hF, rfl⟩⟩
    · refine (tries_no B A n c l 42 _ w3 hH hE hBs hm hg hok).mono ?_
      rintro e w' ⟨rfl, hb⟩
      exact ⟨hb, .inr ⟨240, by unfold advR; rw [hok]; rfl, rfl⟩⟩)
  have HB := hide hb0
  have R3 := hide r3
  have S3 := hide s3
  clear b1 b3 r3 hb0 s1 s3 h hm hg hE
  subst hw3
  subst hw1
  go_enter Tryd.func16, Tryd.ntmps16
  go_wp2_with fail
  generalize (W.alloc (.cells (limC l.E A n c) 26)).alloc (.cells zeroC 26) = w3 at *
  with_reducible refine HTR.out.mono ?_
  rintro e w4 ⟨hb4, hres⟩
  have R4 := hide (R3.out.below hb4)
  have HB4 := hide (HB.out.trans (hb4.mono HB.out.size))
  have z0 : w4.cell? ⟨W.heap.size + 1, 0, none⟩ = some (.int .u64 0) := by have := R4.out.cell 0; simpa using this
  have z1 : w4.cell? ⟨W.heap.size + 1, 1, none⟩ = some (.slice none 0 0) := by have := R4.out.cell 1; simpa using this
  have z2 : w4.cell? ⟨W.heap.size + 1, 2, none⟩ = some (.slice none 0 0) := by have := R4.out.cell 2; simpa using this
  have z3 : w4.cell? ⟨W.heap.size + 1, 3, none⟩ = some (.slice none 0 0) := by have := R4.out.cell 3; simpa using this
  have zl := R4.out.lt
  have f0 := R4.out.frozen 0
  have f1 := R4.out.frozen 1
  have f2 := R4.out.frozen 2
  have f3 := R4.out.frozen 3
  have hs4 := HB4.out.size
  have hs3 := S3.out
  clear hb4
  rcases hres with ⟨l', A', n', c', hr, rfl, hown⟩ | ⟨k, hr, rfl⟩
  · have HO := hide hown
    have HRR := hide hr
    clear hown hr
    have HLD : Hid (LaidL (W.heap.size + 1) w4 (limC l'.E A' n' c') ((((w4.setCell ⟨W.heap.size + 1, 0, none⟩ (.int .u64 (l'.E : Int))).setCell ⟨W.heap.size + 1, 1, none⟩ (.slice (A' 0) (n' 0) (c' 0))).setCell ⟨W.heap.size + 1, 2, none⟩ (.slice (A' 1) (n' 1) (c' 1))).setCell ⟨W.heap.size + 1, 3, none⟩ (.slice (A' 2) (n' 2) (c' 2)))) := hide (laidL_of R4.out rfl)
    go_wp2_with fail
    generalize (((w4.setCell ⟨W.heap.size + 1, 0, none⟩ (.int .u64 (l'.E : Int))).setCell ⟨W.heap.size + 1, 1, none⟩ (.slice (A' 0) (n' 0) (c' 0))).setCell ⟨W.heap.size + 1, 2, none⟩ (.slice (A' 1) (n' 1) (c' 1))).setCell ⟨W.heap.size + 1, 3, none⟩ (.slice (A' 2) (n' 2) (c' 2)) = w9 at *
    have c0 : w9.cell? ⟨W.heap.size + 1, 0, none⟩ = some (.int .u64 (l'.E : Int)) := by have := HLD.out.row.cell 0; simpa [limC] using this
    have c1 : w9.cell? ⟨W.heap.size + 1, 1, none⟩ = some (.slice (A' 0) (n' 0) (c' 0)) := by have := HLD.out.row.cell 1; simpa [limC] using this
    have c2 : w9.cell? ⟨W.heap.size + 1, 2, none⟩ = some (.slice (A' 1) (n' 1) (c' 1)) := by have := HLD.out.row.cell 2; simpa [limC] using this
    have c3 : w9.cell? ⟨W.heap.size + 1, 3, none⟩ = some (.slice (A' 2) (n' 2) (c' 2)) := by have := HLD.out.row.cell 3; simpa [limC] using this
    have cl := HLD.out.row.lt
    refine bodyPost_ret (v := .tuple #[.agg (limC l'.E A' n' c'), .int .i64 0]) (by simp [results, Tryd.results16, go_sem, c0, c1, c2, c3, cl]) rfl ?_
    exact ⟨HB4.out.trans (HLD.out.below.mono (by omega)), .inl ⟨l', A', n', c', HRR.out, rfl, (HO.out.other (fun g h1 h2 => HLD.out.block g (by omega))).lower (by omega)⟩⟩
  · have HRR := hide hr
    have HLD : Hid (LaidL (W.heap.size + 1) w4 zeroC ((((w4.setCell ⟨W.heap.size + 1, 0, none⟩ (.int .u64 0)).setCell ⟨W.heap.size + 1, 1, none⟩ (.slice none 0 0)).setCell ⟨W.heap.size + 1, 2, none⟩ (.slice none 0 0)).setCell ⟨W.heap.size + 1, 3, none⟩ (.slice none 0 0))) := hide (laidL_of R4.out rfl)
    clear hr
    go_wp2_with fail
    generalize (((w4.setCell ⟨W.heap.size + 1, 0, none⟩ (.int .u64 0)).setCell ⟨W.heap.size + 1, 1, none⟩ (.slice none 0 0)).setCell ⟨W.heap.size + 1, 2, none⟩ (.slice none 0 0)).setCell ⟨W.heap.size + 1, 3, none⟩ (.slice none 0 0) = w9 at *
    have c0 : w9.cell? ⟨W.heap.size + 1, 0, none⟩ = some (.int .u64 0) := by have := HLD.out.row.cell 0; simpa using this
    have c1 : w9.cell? ⟨W.heap.size + 1, 1, none⟩ = some (.slice none 0 0) := by have := HLD.out.row.cell 1; simpa using this
    have c2 : w9.cell? ⟨W.heap.size + 1, 2, none⟩ = some (.slice none 0 0) := by have := HLD.out.row.cell 2; simpa using this
    have c3 : w9.cell? ⟨W.heap.size + 1, 3, none⟩ = some (.slice none 0 0) := by have := HLD.out.row.cell 3; simpa using this
    have cl := HLD.out.row.lt
    refine bodyPost_ret (v := .tuple #[.agg zeroC, .int .i64 k]) (by simp [results, Tryd.results16, go_sem, c0, c1, c2, c3, cl]) rfl ?_
    exact ⟨HB4.out.trans (HLD.out.below.mono (by omega)), .inr ⟨k, HRR.out, rfl⟩⟩
end Go.Proofs.YthnpcmigphpolaaDoor
