/-
  Limbos: Run, New.
-/
import Derived.Test.YthnpcmigphpolaaDoorLjb
set_option linter.unusedSimpArgs false
set_option linter.unusedVariables false
namespace Go.Proofs.YthnpcmigphpolaaDoor
open Go Go.RowKit
attribute [local go_sem] via_cell via_frozen
attribute [local go_sem] wpmf

theorem doRet_ne {l : Lim} {s : Ent} {k : Int} (h : doRet l s = .error k) : k ≠ 0 := by
  unfold doRet at h
  split at h
  · injection h with h; omega
  · split at h
    · injection h with h; omega
    · cases h
theorem doAdv_ne {l : Lim} {k : Int} (h : doAdv l = .error k) : k ≠ 0 := by
  unfold doAdv at h
  split at h
  · injection h with h; omega
  · split at h
    · cases h
    · injection h with h; omega
theorem doStep_ne {l : Lim} {s : Ent} {k : Int} (h : doStep l s = .error k) : k ≠ 0 := by
  unfold doStep at h
  split at h
  · cases hq : doRet l s with
    | error k2 => rw [hq] at h; injection h with h; rw [← h]; exact doRet_ne hq
    | ok p => rw [hq] at h; cases h
  · cases hq : doAdv (drain l) with
    | error k2 => rw [hq] at h; injection h with h; rw [← h]; exact doAdv_ne hq
    | ok p => rw [hq] at h; cases h
theorem doRun_ne : ∀ (a : List Ent) (l : Lim) (t : List Ent) (k : Int), doRun l a t = .error k → k ≠ 0
  | [], l, t, k, h => by simp only [doRun] at h; cases h
  | x :: a, l, t, k, h => by
    simp only [doRun] at h
    cases hx : doStep l x with
    | error k2 => rw [hx] at h; injection h with h; rw [← h]; exact doStep_ne hx
    | ok p => rw [hx] at h; exact doRun_ne a p.1 _ k h
def runR (l : Lim) (steps : List Ent) : Except Int (Lim × List Ent) := if l.ok then doRun l steps [] else .error 240
theorem runR_ne {l : Lim} {steps : List Ent} {k : Int} (h : runR l steps = .error k) : k ≠ 0 := by
  unfold runR at h
  split at h
  · exact doRun_ne _ _ _ _ h
  · injection h with h; omega
def RunTr (l : Lim) (steps : List Ent) (kl : Nat) (W : World) (e : Ending) (W' : World) : Prop :=
  PastK kl W.heap.size W W' ∧ ((∃ l' took v A' n' c', runR l steps = .ok (l', took) ∧ e = .returned (.tuple #[.agg (limC l'.E A' n' c'), .int .i64 0]) ∧ LimOwn W' W.heap.size A' n' c' l'.r ∧ RowAt W' kl 23 #[v] ∧ OwnO W' W.heap.size 34 2 v took.length (Cs encE took)) ∨
    (∃ k, runR l steps = .error k ∧ e = .returned (.tuple #[.agg zeroC, .int .i64 k])))
theorem app2 (a b c : Value) : (#[a] ++ #[b, c] : Array Value) = #[a, b, c] := rfl
theorem runTr_any (B : Nat) (A : Nat → Option Addr) (n c : Nat → Nat) (l : Lim) (kl gs m cs : Nat) (As : Option Addr) (steps : List Ent) (w : World) (h : LimRd w B A n l.r) (hE : l.E < 18446744073709551616) (hB : B ≤ w.heap.size) (hm : ∀ k, k < 3 → n k ≤ 4096)
    (hg : ∀ k, k < 3 → ∀ e ∈ l.r k, 0 ≤ e.2 ∧ e.2 < 18446744073709551616) (hr : RowAt w kl 23 #[.slice none 0 0])
    (hs : RowAt w gs 23 #[.slice As m cs]) (hgk : gs ≠ kl) (hrs : Rd w B 2 As m (Cs encE steps)) (hBk : B ≤ kl) (hx : steps.length = m) (hm2 : m ≤ 4096) (hgs : ∀ e ∈ steps, 0 ≤ e.2 ∧ e.2 < 18446744073709551616) :
    Calls Tryd.prog 32 #[.agg (limC l.E A n c), .func (.func 33) #[] #[.pointer (some ⟨gs, 0, none⟩), .pointer (some ⟨kl, 0, none⟩)]] w (RunTr l steps kl w) := by
  have hkl := hr.lt
  have hgl := hs.lt
  rcases Bool.eq_false_or_eq_true l.ok with hok | hok
  · have hR : runR l steps = doRun l steps [] := by unfold runR; rw [hok, if_pos rfl]
    unfold RunTr
    rw [hR]
    refine (tries_yes kl B A n c l 33 _ w (enters_of Tryd.func33 (by kernel_rfl) rfl) h hB hm hg hok (RunG l steps) (fun k _ => doRun l steps [] = .error k)
      (RunX l steps kl (w.heap.size + 1 + 1 + 1)) (fun l' w1 w2 hx hk => by
        obtain ⟨took, v, h1, h2, h3⟩ := hx
        exact ⟨took, v, h1, (hk kl (by omega) (by omega) h2.lt).trans h2, h3.other (fun g h4 h5 _ => hk g (by omega) (by omega) h5)⟩) (fun k w1 w2 hx hk => hx) (by omega)
      (fun w' gx A' c' hch hb hgx => by
        rw [app2]
        exact run1_any kl gx (w.heap.size + 1 + 1 + 1) gs B m cs As steps l A' n c' w' hch (hr.below hb) (by omega) hok (hs.below hb) (by omega) hgk (hrs.below (hb.mono hB)) (by omega) hBk hx hm2 hgs (by omega))).mono ?_
    rintro e w' ⟨hp, (⟨l', A', n', c', rfl, hown, _, took, v, hx, hrow, ho⟩ | ⟨k, rfl, hF⟩)⟩
    · exact ⟨hp, .inl ⟨l', took, v, A', n', c', hx, rfl, hown, hrow, ho.lower (by omega)⟩⟩
    · exact ⟨hp, .inr ⟨k, hF, rfl⟩⟩
  · refine (tries_no B A n c l 33 _ w h hE hB hm hg hok).mono ?_
    rintro e w' ⟨rfl, hb⟩
    exact ⟨PastK.of_below hb (Nat.le_refl _), .inr ⟨240, by unfold runR; rw [hok]; rfl, rfl⟩⟩
def OutResR (W : World) (r : Except Int (Lim × List Ent)) (e : Ending) (W' : World) : Prop :=
  Below W.heap.size W W' ∧ ((∃ l' took v A' n' c', r = .ok (l', took) ∧ e = .returned (.tuple #[.agg (limC l'.E A' n' c'), v, .int .i64 0]) ∧ LimOwn W' W.heap.size A' n' c' l'.r ∧ OwnO W' W.heap.size 34 2 v took.length (Cs encE took)) ∨
    (∃ k, r = .error k ∧ e = .returned (.tuple #[.agg zeroC, .slice none 0 0, .int .i64 k])))
set_option maxHeartbeats 4000000 in
theorem Run_any (B : Nat) (A : Nat → Option Addr) (n c : Nat → Nat) (l : Lim) (m cs : Nat) (As : Option Addr) (steps : List Ent) (W : World) (h : LimRd W B A n l.r) (hE : l.E < 18446744073709551616) (hB : B ≤ W.heap.size) (hm : ∀ k, k < 3 → n k ≤ 4096)
    (hg : ∀ k, k < 3 → ∀ e ∈ l.r k, 0 ≤ e.2 ∧ e.2 < 18446744073709551616) (hrs : Rd W B 2 As m (Cs encE steps)) (hx : steps.length = m) (hm2 : m ≤ 4096) (hgs : ∀ e ∈ steps, 0 ≤ e.2 ∧ e.2 < 18446744073709551616) :
    Calls Tryd.prog 10 #[.agg (limC l.E A n c), .slice As m cs] W (OutResR W (runR l steps)) := by
  obtain ⟨w1, hw1⟩ : ∃ w1, W.alloc (.cells (limC l.E A n c) 26) = w1 := ⟨_, rfl⟩
  obtain ⟨w2, hw2⟩ : ∃ w2, w1.alloc (.cells #[.slice As m cs] 23) = w2 := ⟨_, rfl⟩
  obtain ⟨w3, hw3⟩ : ∃ w3, w2.alloc (.cells zeroC 26) = w3 := ⟨_, rfl⟩
  obtain ⟨w4, hw4⟩ : ∃ w4, w3.alloc (.cells #[.slice none 0 0] 23) = w4 := ⟨_, rfl⟩
  have s1 : w1.heap.size = W.heap.size + 1 := by rw [← hw1]; simp
  have s2 : w2.heap.size = W.heap.size + 1 + 1 := by rw [← hw2]; simp [s1]
  have s3 : w3.heap.size = W.heap.size + 1 + 1 + 1 := by rw [← hw3]; simp [s2]
  have s4 : w4.heap.size = W.heap.size + 1 + 1 + 1 + 1 := by rw [← hw4]; simp [s3]
  have b1 : Below W.heap.size W w1 := by rw [← hw1]; exact (Below.refl _ _).alloc (Nat.le_refl _) _
  have b2 : Below w1.heap.size w1 w2 := by rw [← hw2]; exact (Below.refl _ _).alloc (Nat.le_refl _) _
  have b3 : Below w2.heap.size w2 w3 := by rw [← hw3]; exact (Below.refl _ _).alloc (Nat.le_refl _) _
  have b4 : Below w3.heap.size w3 w4 := by rw [← hw4]; exact (Below.refl _ _).alloc (Nat.le_refl _) _
  have r2 : RowAt w4 (W.heap.size + 1) 23 #[.slice As m cs] := by have h := RowAt.new w1 23 #[.slice As m cs]; rw [hw2, s1] at h; exact (h.below b3).below b4
  have r3 : RowAt w4 (W.heap.size + 1 + 1) 26 zeroC := by have h := RowAt.new w2 26 zeroC; rw [hw3, s2] at h; exact h.below b4
  have r4 : RowAt w4 (W.heap.size + 1 + 1 + 1) 23 #[.slice none 0 0] := by have h := RowAt.new w3 23 #[.slice none 0 0]; rw [hw4, s3] at h; exact h
  have hb0 : Below W.heap.size W w4 := ((b1.trans (b2.mono b1.size)).trans (b3.mono (by omega))).trans (b4.mono (by omega))
  have HTR := hide (runTr_any B A n c l (W.heap.size + 1 + 1 + 1) (W.heap.size + 1) m cs As steps w4 (h.below (hb0.mono hB)) hE (Nat.le_trans hB hb0.size) hm hg r4 r2 (by omega) (hrs.below (hb0.mono hB)) (by omega) hx hm2 hgs)
  have HB := hide hb0
  have R3 := hide r3
  have S4 := hide s4
  clear b1 b2 b3 b4 r2 r3 r4 hb0 s1 s2 s3 s4 h hm hg hE hrs
  subst hw4
  subst hw3
  subst hw2
  subst hw1
  go_enter Tryd.func10, Tryd.ntmps10
  go_wp2_with fail
  generalize (((W.alloc (.cells (limC l.E A n c) 26)).alloc (.cells #[.slice As m cs] 23)).alloc (.cells zeroC 26)).alloc (.cells #[.slice none 0 0] 23) = w4 at *
  have hs4 := S4.out
  with_reducible refine HTR.out.mono ?_
  rintro e w5 ⟨hp5, hres⟩
  have hs5 := hp5.size
  have R3 := hide (show RowAt w5 (W.heap.size + 1 + 1) 26 zeroC from (hp5.block _ (by omega) (by omega) (by omega)).trans R3.out)
  have HB5 := hide (show Below W.heap.size W w5 from HB.out.trans ⟨hp5.os, hp5.tape, hp5.output, hp5.size, fun j hj => hp5.block j (by omega) (by omega) (by omega)⟩)
  clear hp5 HB HTR
  rcases hres with ⟨l', took, v, A', n', c', hr, rfl, hown, hrow, hot⟩ | ⟨k, hr, rfl⟩
  · have HO := hide hown
    have HRR := hide hr
    have HRK := hide hrow
    have HOT := hide hot
    obtain ⟨Av, cv, rfl, hcv, hcvm⟩ := hot.form
    have HRN := hide (RowAt.new w5 26 (limC l'.E A' n' c'))
    have HBN := hide (show Below w5.heap.size w5 (w5.alloc (.cells (limC l'.E A' n' c') 26)) from (Below.refl _ _).alloc (Nat.le_refl _) _)
    clear hown hr hrow hot
    go_wp2_with fail
    generalize w5.alloc (.cells #[.int .u64 (l'.E : Int), .slice (A' 0) (n' 0) (c' 0), .slice (A' 1) (n' 1) (c' 1), .slice (A' 2) (n' 2) (c' 2)] 26) = w6 at *
    have R3 := hide (R3.out.below HBN.out)
    have HRK := hide (HRK.out.below HBN.out)
    have HB6 := hide (HB5.out.trans (HBN.out.mono HB5.out.size))
    have x0 : w6.cell? ⟨w5.heap.size, 0, none⟩ = some (.int .u64 (l'.E : Int)) := by have := HRN.out.cell 0; simpa [limC] using this
    have x1 : w6.cell? ⟨w5.heap.size, 1, none⟩ = some (.slice (A' 0) (n' 0) (c' 0)) := by have := HRN.out.cell 1; simpa [limC] using this
    have x2 : w6.cell? ⟨w5.heap.size, 2, none⟩ = some (.slice (A' 1) (n' 1) (c' 1)) := by have := HRN.out.cell 2; simpa [limC] using this
    have x3 : w6.cell? ⟨w5.heap.size, 3, none⟩ = some (.slice (A' 2) (n' 2) (c' 2)) := by have := HRN.out.cell 3; simpa [limC] using this
    have xl := HRN.out.lt
    have z0 : w6.cell? ⟨W.heap.size + 1 + 1, 0, none⟩ = some (.int .u64 0) := by have := R3.out.cell 0; simpa using this
    have z1 : w6.cell? ⟨W.heap.size + 1 + 1, 1, none⟩ = some (.slice none 0 0) := by have := R3.out.cell 1; simpa using this
    have z2 : w6.cell? ⟨W.heap.size + 1 + 1, 2, none⟩ = some (.slice none 0 0) := by have := R3.out.cell 2; simpa using this
    have z3 : w6.cell? ⟨W.heap.size + 1 + 1, 3, none⟩ = some (.slice none 0 0) := by have := R3.out.cell 3; simpa using this
    have zl := R3.out.lt
    have f0 := R3.out.frozen 0
    have f1 := R3.out.frozen 1
    have f2 := R3.out.frozen 2
    have f3 := R3.out.frozen 3
    have k0 := row1 HRK.out
    have kl := HRK.out.lt
    have hne : ¬ w5.heap.size = W.heap.size + 1 + 1 := by omega
    go_wp2_with fail
    go_region
    all_goals
      have HLD : Hid (LaidL (W.heap.size + 1 + 1) w6 (limC l'.E A' n' c') ((((w6.setCell ⟨W.heap.size + 1 + 1, 0, none⟩ (.int .u64 (l'.E : Int))).setCell ⟨W.heap.size + 1 + 1, 1, none⟩ (.slice (A' 0) (n' 0) (c' 0))).setCell ⟨W.heap.size + 1 + 1, 2, none⟩ (.slice (A' 1) (n' 1) (c' 1))).setCell ⟨W.heap.size + 1 + 1, 3, none⟩ (.slice (A' 2) (n' 2) (c' 2)))) := hide (laidL_of R3.out rfl)
      generalize (((w6.setCell ⟨W.heap.size + 1 + 1, 0, none⟩ (.int .u64 (l'.E : Int))).setCell ⟨W.heap.size + 1 + 1, 1, none⟩ (.slice (A' 0) (n' 0) (c' 0))).setCell ⟨W.heap.size + 1 + 1, 2, none⟩ (.slice (A' 1) (n' 1) (c' 1))).setCell ⟨W.heap.size + 1 + 1, 3, none⟩ (.slice (A' 2) (n' 2) (c' 2)) = w7 at *
      have HLD : Hid (LaidL (W.heap.size + 1 + 1) w6 (limC l'.E A' n' c') w7.drew) := hide ⟨HLD.out.row.drew, HLD.out.block, HLD.out.below.drew⟩
      clear x0 x1 x2 x3 xl z0 z1 z2 z3 zl f0 f1 f2 f3 k0 kl hne
      generalize w7.drew = w8 at *
      go_wp2_with fail
      have c0 : w8.cell? ⟨W.heap.size + 1 + 1, 0, none⟩ = some (.int .u64 (l'.E : Int)) := by have := HLD.out.row.cell 0; simpa [limC] using this
      have c1 : w8.cell? ⟨W.heap.size + 1 + 1, 1, none⟩ = some (.slice (A' 0) (n' 0) (c' 0)) := by have := HLD.out.row.cell 1; simpa [limC] using this
      have c2 : w8.cell? ⟨W.heap.size + 1 + 1, 2, none⟩ = some (.slice (A' 1) (n' 1) (c' 1)) := by have := HLD.out.row.cell 2; simpa [limC] using this
      have c3 : w8.cell? ⟨W.heap.size + 1 + 1, 3, none⟩ = some (.slice (A' 2) (n' 2) (c' 2)) := by have := HLD.out.row.cell 3; simpa [limC] using this
      have cl := HLD.out.row.lt
      refine bodyPost_ret (v := .tuple #[.agg (limC l'.E A' n' c'), .slice Av took.length cv, .int .i64 0]) (by simp [results, Tryd.results10, go_sem, c0, c1, c2, c3, cl]) rfl ?_
      exact ⟨HB6.out.trans (HLD.out.below.mono (by omega)), .inl ⟨l', took, _, A', n', c', HRR.out, rfl, ((HO.out.keepB HBN.out).other (fun j h1 h2 => HLD.out.block j (by omega))).lower (by omega), ((HOT.out.keepB HBN.out).other (fun j h1 h2 _ => HLD.out.block j (by omega))).lower (by omega)⟩⟩
  · have HRR := hide hr
    have hk := runR_ne hr
    have hkb : (k != 0) = true := by simpa using hk
    have hkb2 : (k == 0) = false := by simpa using hk
    have HBN := hide (show Below w5.heap.size w5 (w5.alloc (.cells zeroC 26)) from (Below.refl _ _).alloc (Nat.le_refl _) _)
    have R6 := hide (R3.out.below HBN.out)
    have z0 : (w5.alloc (.cells zeroC 26)).cell? ⟨W.heap.size + 1 + 1, 0, none⟩ = some (.int .u64 0) := by have := R6.out.cell 0; simpa using this
    have z1 : (w5.alloc (.cells zeroC 26)).cell? ⟨W.heap.size + 1 + 1, 1, none⟩ = some (.slice none 0 0) := by have := R6.out.cell 1; simpa using this
    have z2 : (w5.alloc (.cells zeroC 26)).cell? ⟨W.heap.size + 1 + 1, 2, none⟩ = some (.slice none 0 0) := by have := R6.out.cell 2; simpa using this
    have z3 : (w5.alloc (.cells zeroC 26)).cell? ⟨W.heap.size + 1 + 1, 3, none⟩ = some (.slice none 0 0) := by have := R6.out.cell 3; simpa using this
    have HB6 := hide (HB5.out.trans (HBN.out.mono HB5.out.size))
    have zl := R6.out.lt
    have f0 := R6.out.frozen 0
    have f1 := R6.out.frozen 1
    have f2 := R6.out.frozen 2
    have f3 := R6.out.frozen 3
    clear hr
    go_upto_region 3 with (fail)
    generalize w5.alloc (.cells zeroC 26) = w6 at *
    have HLD : Hid (LaidL (W.heap.size + 1 + 1) w6 zeroC ((((w6.setCell ⟨W.heap.size + 1 + 1, 0, none⟩ (.int .u64 0)).setCell ⟨W.heap.size + 1 + 1, 1, none⟩ (.slice none 0 0)).setCell ⟨W.heap.size + 1 + 1, 2, none⟩ (.slice none 0 0)).setCell ⟨W.heap.size + 1 + 1, 3, none⟩ (.slice none 0 0))) := hide (laidL_of R6.out rfl)
    go_wp2_with fail
    generalize (((w6.setCell ⟨W.heap.size + 1 + 1, 0, none⟩ (.int .u64 0)).setCell ⟨W.heap.size + 1 + 1, 1, none⟩ (.slice none 0 0)).setCell ⟨W.heap.size + 1 + 1, 2, none⟩ (.slice none 0 0)).setCell ⟨W.heap.size + 1 + 1, 3, none⟩ (.slice none 0 0) = w8 at *
    have c0 : w8.cell? ⟨W.heap.size + 1 + 1, 0, none⟩ = some (.int .u64 0) := by have := HLD.out.row.cell 0; simpa using this
    have c1 : w8.cell? ⟨W.heap.size + 1 + 1, 1, none⟩ = some (.slice none 0 0) := by have := HLD.out.row.cell 1; simpa using this
    have c2 : w8.cell? ⟨W.heap.size + 1 + 1, 2, none⟩ = some (.slice none 0 0) := by have := HLD.out.row.cell 2; simpa using this
    have c3 : w8.cell? ⟨W.heap.size + 1 + 1, 3, none⟩ = some (.slice none 0 0) := by have := HLD.out.row.cell 3; simpa using this
    have cl := HLD.out.row.lt
    refine bodyPost_ret (v := .tuple #[.agg zeroC, .slice none 0 0, .int .i64 k]) (by simp [results, Tryd.results10, go_sem, c0, c1, c2, c3, cl]) rfl ?_
    exact ⟨HB6.out.trans (HLD.out.below.mono (by omega)), .inr ⟨k, HRR.out, rfl⟩⟩
theorem New_any (W : World) : Calls Tryd.prog 30 #[] W fun e W' => e = .returned (.agg zeroC) ∧ Below W.heap.size W W' := by
  have HB := hide (show Below W.heap.size W (W.alloc (.cells zeroC 26)) from (Below.refl _ _).alloc (Nat.le_refl _) _)
  have HR := hide (RowAt.new W 26 zeroC)
  go_enter Tryd.func30, Tryd.ntmps30
  go_wp2_with fail
  generalize W.alloc (.cells zeroC 26) = w8 at *
  have c0 : w8.cell? ⟨W.heap.size, 0, none⟩ = some (.int .u64 0) := by have := HR.out.cell 0; simpa using this
  have c1 : w8.cell? ⟨W.heap.size, 1, none⟩ = some (.slice none 0 0) := by have := HR.out.cell 1; simpa using this
  have c2 : w8.cell? ⟨W.heap.size, 2, none⟩ = some (.slice none 0 0) := by have := HR.out.cell 2; simpa using this
  have c3 : w8.cell? ⟨W.heap.size, 3, none⟩ = some (.slice none 0 0) := by have := HR.out.cell 3; simpa using this
  have cl := HR.out.lt
  exact bodyPost_ret (v := .agg zeroC) (by simp [results, Tryd.results30, go_sem, c0, c1, c2, c3, cl]) rfl ⟨rfl, HB.out⟩
end Go.Proofs.YthnpcmigphpolaaDoor
