/-
  Pins that change: an op done; the error by which it leaves. Do.
-/
import Derived.Test.YtopaopfebgonjaaPnh
import Derived.Defers
import Derived.Recover
set_option linter.unusedSimpArgs false
set_option linter.unusedVariables false
namespace Go.Proofs.Ytopaopfebgonjaa
open Go Go.RowKit
attribute [local go_sem] via_cell via_frozen

@[local go_sem] theorem wpmf (fn : Fn) (first cap : Array Value) (w : World) : (Instr.makeFunc fn first cap).run Try.prog w = .ok (.func fn first cap) w := rfl
@[local go_sem] theorem assert_errno (k : Int) (W : World) : (Instr.typeAssert (.iface 33 (.int .i64 k)) 20 33 true).run Try.prog W = .ok (.tuple #[.int .i64 k, .bool true]) W := by
  simp [Instr.typeAssert]

theorem catch_idle (p : Addr) (w : World) :
    CallsD Try.prog 37 #[.pointer (some p)] .returning w fun e u' w' => e = .returned (.tuple #[]) ∧ u' = .returning ∧ w' = w := by
  refine callsD_of_wpS Try.func37 rfl fun c₀ cs hu => ?_
  apply wpS_seq
  apply wpS_region
  simp [wpOpsS, go_sem, recoverD, hu, Try.ntmps37, Exit.thenS]
  refine wpS_of_wp ?_
  simp only [List.size_toArray, List.length_cons, List.length_nil, Nat.reduceAdd, Nat.reduceSub, Array.replicate_succ, Array.replicate_zero, List.push_toArray, List.append_toArray, List.nil_append, List.cons_append, List.setIfInBounds_toArray, List.set_cons_succ, List.set_cons_zero]
  go_wp2
  cases c₀
  simp_all [bodyPostS, results, Try.results37]

set_option maxRecDepth 100000 in
theorem catch_err (b2 : Nat) (k : Int) (w : World) (h2 : RowAt w b2 33 #[.int .i64 0]) :
    CallsD Try.prog 37 #[.pointer (some ⟨b2, 0, none⟩)] (.panicking (errX k)) w fun e u' w' =>
      e = .returned (.tuple #[]) ∧ u' = .panicking [{ v := .iface 33 (.int .i64 k), recovered := true }] ∧ w' = w.setCell ⟨b2, 0, none⟩ (.int .i64 k) := by
  have c2 := row1 h2
  have f2 := h2.frozen 0
  refine callsD_of_wpS Try.func37 rfl fun c₀ cs hu => ?_
  apply wpS_seq
  apply wpS_region
  simp [wpOpsS, go_sem, recoverD, hu, Try.ntmps37, Exit.thenS, errX]
  refine wpS_of_wp ?_
  simp only [List.size_toArray, List.length_cons, List.length_nil, Nat.reduceAdd, Nat.reduceSub, Array.replicate_succ, Array.replicate_zero, List.push_toArray, List.append_toArray, List.nil_append, List.cons_append, List.setIfInBounds_toArray, List.set_cons_succ, List.set_cons_zero]
  go_wp2
  simp [bodyPostS, results, Try.results37]

/-- An op done, or not. -/
def DoesRes (W : World) (gh gs n : Nat) (e : Int) (S : List Int) (k g b : Int) (x : Ending) (W' : World) : Prop :=
  x = .returned (.int .i64 (dE e S k g b)) ∧ HandP W' gh gs n (if dE e S k g b = 0 then dX e k else e) (if dE e S k g b = 0 then dS e S k g b else S) ∧ Past2 gh gs W W'

set_option maxHeartbeats 2000000 in
theorem does_way (F : Nat) (gh gs n : Nat) (e : Int) (S : List Int) (k g b : Int) (W : World) (h : HandP W gh gs n e S) (hkf : (k = 1 ∧ F = 39) ∨ (k = 2 ∧ F = 40) ∨ (k = 3 ∧ F = 38))
    (HC : ∀ w, Below W.heap.size W w → HandP w gh gs n e S → Calls Try.prog F #[.pointer (some ⟨gh, 0, none⟩), .agg #[.int .i64 k, .int .i64 g, .int .u64 b]] w (ActRes w gh gs n (dE e S k g b) (dX e k) (dS e S k g b))) :
    Calls Try.prog 30 #[.pointer (some ⟨gh, 0, none⟩), .agg #[.int .i64 k, .int .i64 g, .int .u64 b]] W (DoesRes W gh gs n e S k g b) := by
  have b1 : Below W.heap.size W ((W.alloc (.cells #[.int .i64 k, .int .i64 g, .int .u64 b] 32)).alloc (.cells #[.int .i64 0] 33)) := ((Below.refl _ _).alloc (Nat.le_refl _) _).alloc (by simp) _
  have r2 : RowAt ((W.alloc (.cells #[.int .i64 k, .int .i64 g, .int .u64 b] 32)).alloc (.cells #[.int .i64 0] 33)) (W.heap.size + 1) 33 #[.int .i64 0] := by
    have h := RowAt.new (W.alloc (.cells #[.int .i64 k, .int .i64 g, .int .u64 b] 32)) 33 #[.int .i64 0]
    rw [World.size_alloc] at h; exact h
  have HH := hide (h.below b1)
  have HB := hide b1
  have R2 := hide r2
  have HCC := hide (HC _ b1 (h.below b1))
  have hghW := h.box.lt
  have hgsW := h.row.lt
  obtain ⟨E, hE⟩ : ∃ E, dE e S k g b = E := ⟨_, rfl⟩
  unfold DoesRes
  rw [hE] at HCC ⊢
  obtain ⟨X, hX⟩ : ∃ X, dX e k = X := ⟨_, rfl⟩
  obtain ⟨Y, hY⟩ : ∃ Y, dS e S k g b = Y := ⟨_, rfl⟩
  rw [hX, hY] at HCC ⊢
  clear b1 r2 HC h hE hX hY
  rcases hkf with ⟨rfl, rfl⟩ | ⟨rfl, rfl⟩ | ⟨rfl, rfl⟩
  all_goals
    go_enter_defers Try.func30, Try.ntmps30
    go_wp2_with fail
    generalize ((W.alloc (.cells #[.int .i64 _, .int .i64 g, .int .u64 b] 32)).alloc (.cells #[.int .i64 0] 33)) = w1 at *
    have hl1 := R2.out.lt
    refine HCC.out.mono ?_
    rintro x w2 (⟨hE, rfl, hh2, hp⟩ | ⟨hE, rfl, hb⟩)
    · have r2 : RowAt w2 (W.heap.size + 1) 33 #[.int .i64 0] := (hp.block _ (by omega) (by omega) hl1).trans R2.out
      have HH2 := hide hh2
      have HP := hide ((Past2.of_below HB.out).trans hp)
      have c2 := row1 r2
      have f2 := r2.frozen 0
      have l2 := r2.lt
      have HR2 := hide r2
      subst hE
      clear hh2 hp r2 HCC
      go_wp2_with fail
      refine leaves_cons (f := 37) (args := #[.pointer (some ⟨W.heap.size + 1, 0, none⟩)]) (by simp) (by simp [go_sem]) ?_
      refine (catch_idle ⟨W.heap.size + 1, 0, none⟩ _).mono ?_
      rintro x u' w'' ⟨rfl, rfl, rfl⟩
      have hr2 : RowAt (w2.setCell ⟨W.heap.size + 1, 0, none⟩ (.int .i64 0)) (W.heap.size + 1) 33 #[.int .i64 0] := HR2.out.set 0 _
      have hhF : HandP (w2.setCell ⟨W.heap.size + 1, 0, none⟩ (.int .i64 0)) gh gs n X Y := ⟨HH2.out.len, HH2.out.ne, HH2.out.box.setNe (by omega), HH2.out.row.setNe (by omega)⟩
      have hpF : Past2 gh gs W (w2.setCell ⟨W.heap.size + 1, 0, none⟩ (.int .i64 0)) := ⟨HP.out.os, HP.out.tape, HP.out.output, by have := HP.out.size; simp; omega, fun j h1 h2 hl => by rw [heap_setCell_ne _ _ _ _ (by simp; omega)]; exact HP.out.block j h1 h2 hl⟩
      generalize (w2.setCell ⟨W.heap.size + 1, 0, none⟩ (.int .i64 0)) = wF at *
      simp [Leaves, settle, results, Try.results30, go_sem, row1 hr2, hr2.lt]
      exact ⟨hhF, hpF⟩
    · have r2 : RowAt w2 (W.heap.size + 1) 33 #[.int .i64 0] := R2.out.below hb
      have HH2 := hide (HH.out.below hb)
      have HP := hide ((Past2.of_below (p := gh) (q := gs) HB.out).trans (Past2.of_below hb))
      have HE := hide hE
      have HR2 := hide r2
      clear hb r2 HCC hE
      dsimp only
      refine leaves_cons (f := 37) (args := #[.pointer (some ⟨W.heap.size + 1, 0, none⟩)]) (by simp) (by simp [go_sem]) ?_
      refine (catch_err (W.heap.size + 1) E w2 HR2.out).mono ?_
      rintro x u' w'' ⟨rfl, rfl, rfl⟩
      have hr2 : RowAt (w2.setCell ⟨W.heap.size + 1, 0, none⟩ (.int .i64 E)) (W.heap.size + 1) 33 #[.int .i64 E] := HR2.out.set 0 _
      have hhF : HandP (w2.setCell ⟨W.heap.size + 1, 0, none⟩ (.int .i64 E)) gh gs n e S := ⟨HH2.out.len, HH2.out.ne, HH2.out.box.setNe (by omega), HH2.out.row.setNe (by omega)⟩
      have hpF : Past2 gh gs W (w2.setCell ⟨W.heap.size + 1, 0, none⟩ (.int .i64 E)) := ⟨HP.out.os, HP.out.tape, HP.out.output, by have := HP.out.size; simp; omega, fun j h1 h2 hl => by rw [heap_setCell_ne _ _ _ _ (by simp; omega)]; exact HP.out.block j h1 h2 hl⟩
      generalize (w2.setCell ⟨W.heap.size + 1, 0, none⟩ (.int .i64 E)) = wF at *
      simp [Leaves, settle, results, Try.results30, go_sem, row1 hr2, hr2.lt, HE.out]
      exact ⟨hhF, hpF⟩

set_option maxHeartbeats 2000000 in
theorem does_bad (gh gs n : Nat) (e : Int) (S : List Int) (k g b : Int) (W : World) (h : HandP W gh gs n e S) (hk : k < 1 ∨ 3 < k) :
    Calls Try.prog 30 #[.pointer (some ⟨gh, 0, none⟩), .agg #[.int .i64 k, .int .i64 g, .int .u64 b]] W (DoesRes W gh gs n e S k g b) := by
  have b1 : Below W.heap.size W ((W.alloc (.cells #[.int .i64 k, .int .i64 g, .int .u64 b] 32)).alloc (.cells #[.int .i64 0] 33)) := ((Below.refl _ _).alloc (Nat.le_refl _) _).alloc (by simp) _
  have r2 : RowAt ((W.alloc (.cells #[.int .i64 k, .int .i64 g, .int .u64 b] 32)).alloc (.cells #[.int .i64 0] 33)) (W.heap.size + 1) 33 #[.int .i64 0] := by
    have h := RowAt.new (W.alloc (.cells #[.int .i64 k, .int .i64 g, .int .u64 b] 32)) 33 #[.int .i64 0]
    rw [World.size_alloc] at h; exact h
  have HE := hide (show dE e S k g b = 2 by unfold dE; rw [if_pos (by omega)])
  have HB := hide b1
  have HH := hide (h.below b1)
  have R2 := hide r2
  have hghW := h.box.lt
  have hgsW := h.row.lt
  have k1 : (k == 1) = false := by simp; omega
  have k2 : (k == 2) = false := by simp; omega
  have k3 : (k == 3) = false := by simp; omega
  have HW := hide h
  clear b1 r2 h
  unfold DoesRes
  rw [HE.out]
  go_enter_defers Try.func30, Try.ntmps30
  go_wp2_with fail
  refine leaves_cons (f := 37) (args := #[.pointer (some ⟨W.heap.size + 1, 0, none⟩)]) (by simp) (by simp [go_sem]) ?_
  refine (catch_idle ⟨W.heap.size + 1, 0, none⟩ _).mono ?_
  rintro x u' w'' ⟨rfl, rfl, rfl⟩
  have b2 : Below W.heap.size W ((W.alloc (.cells #[.int .i64 k, .int .i64 g, .int .u64 b] 32)).alloc (.cells #[.int .i64 2] 33)) := ((Below.refl _ _).alloc (Nat.le_refl _) _).alloc (by simp) _
  have hr2 : RowAt ((W.alloc (.cells #[.int .i64 k, .int .i64 g, .int .u64 b] 32)).alloc (.cells #[.int .i64 2] 33)) (W.heap.size + 1) 33 #[.int .i64 2] := by
    have h := RowAt.new (W.alloc (.cells #[.int .i64 k, .int .i64 g, .int .u64 b] 32)) 33 #[.int .i64 2]
    rw [World.size_alloc] at h; exact h
  have hhF := HW.out.below b2
  have hpF := Past2.of_below (p := gh) (q := gs) b2
  generalize ((W.alloc (.cells #[.int .i64 k, .int .i64 g, .int .u64 b] 32)).alloc (.cells #[.int .i64 2] 33)) = wF at *
  simp [Leaves, settle, results, Try.results30, go_sem, row1 hr2, hr2.lt]
  exact ⟨hhF, hpF⟩

theorem dE_zero_pos {e : Int} {S : List Int} {k g b : Int} (h : dE e S k g b = 0) : 1 ≤ k ∧ k ≤ 3 := by
  rcases dE_cases e S k g b h with ⟨rfl, _⟩ | ⟨rfl, _⟩ | ⟨rfl, _⟩ <;> omega

theorem does_any (gh gs n : Nat) (e : Int) (S : List Int) (k g b : Int) (W : World) (h : HandP W gh gs n e S) (ho : pOk e S = true) (h0 : 0 ≤ e) (hS : ∀ s ∈ S, U64 s) (hb : 0 ≤ b) :
    Calls Try.prog 30 #[.pointer (some ⟨gh, 0, none⟩), .agg #[.int .i64 k, .int .i64 g, .int .u64 b]] W (DoesRes W gh gs n e S k g b) := by
  have hn : n ≤ 4096 := by have := (pOk_out ho).2.1; have := h.len; omega
  by_cases hk : k < 1 ∨ 3 < k
  · exact does_bad gh gs n e S k g b W h hk
  · obtain rfl | rfl | rfl : k = 1 ∨ k = 2 ∨ k = 3 := by omega
    · exact does_way 39 gh gs n e S 1 g b W h (.inl ⟨rfl, rfl⟩) (fun w _ hw => pin_any gh gs n e S g b w hw hn hS h0 (pOk_out ho).2.2.1 hb)
    · exact does_way 40 gh gs n e S 2 g b W h (.inr (.inl ⟨rfl, rfl⟩)) (fun w _ hw => unpin_any gh gs n e S g b w hw hn hS)
    · exact does_way 38 gh gs n e S 3 g b W h (.inr (.inr ⟨rfl, rfl⟩)) (fun w _ hw => goes_any gh gs n e S g b w hw hS h0 ho)

/-- Pins that have come out, in memory of their own. -/
structure PnOut (W : World) (A : Option Addr) (n : Nat) (ys : List Int) (w : World) : Prop where
  len : ys.length = n
  own : 0 < n → ∃ gs, A = some ⟨gs, 0, none⟩ ∧ W.heap.size ≤ gs ∧ RowAt w gs 22 (Cs encW ys).toArray
theorem PnOut.rd {W w : World} {A : Option Addr} {n : Nat} {ys : List Int} (h : PnOut W A n ys w) : Rd w w.heap.size 1 A n (Cs encW ys) := by
  refine ⟨by rw [Cs_length encW_len, h.len], fun hn => ?_⟩
  obtain ⟨gs, rfl, h1, h2⟩ := h.own hn
  exact ⟨gs, 0, rfl, h2.lt, fun j u hu => by rw [Nat.zero_add, h2.cell]; simpa using hu⟩
theorem PnOut.none (W w : World) : PnOut W none 0 [] w := ⟨rfl, fun h => absurd h (by omega)⟩

/-- What Do comes to. -/
def DoRes (W : World) (E X : Int) (Y : List Int) (m : Nat) (x : Ending) (W' : World) : Prop :=
  ∃ A' c', x = .returned (.tuple #[.agg #[.int .u64 X, .slice A' m c'], .int .i64 E]) ∧ m ≤ c' ∧ c' ≤ 9223372036854775807 ∧ PnOut W A' m Y W' ∧ Below W.heap.size W W'

set_option maxHeartbeats 2000000 in
theorem Do_any (A : Option Addr) (c n : Nat) (e : Int) (S : List Int) (k g b : Int) (W : World) (h : Rd W W.heap.size 1 A n (Cs encW S)) (hx : S.length = n) (h0 : 0 ≤ e) (hS : ∀ s ∈ S, U64 s) (hb : 0 ≤ b) (hl : n ≤ 4096)
    (E X : Int) (Y : List Int) (m : Nat) (hE : doE e S k g b = E) (hX : doX e S k g b = X) (hY : doS e S k g b = Y) (hm : Y.length = m) :
    Calls Try.prog 12 #[.agg #[.int .u64 e, .slice A n c], .agg #[.int .i64 k, .int .i64 g, .int .u64 b]] W (DoRes W E X Y m) := by
  have b3 : Below W.heap.size W (((W.alloc (.cells #[.int .u64 e, .slice A n c] 25)).alloc (.cells #[.int .i64 k, .int .i64 g, .int .u64 b] 32)).alloc (.cells #[.int .u64 0, .slice none 0 0] 25)) := (((Below.refl _ _).alloc (Nat.le_refl _) _).alloc (by simp) _).alloc (by simp; omega) _
  have r1 : RowAt (((W.alloc (.cells #[.int .u64 e, .slice A n c] 25)).alloc (.cells #[.int .i64 k, .int .i64 g, .int .u64 b] 32)).alloc (.cells #[.int .u64 0, .slice none 0 0] 25)) W.heap.size 25 #[.int .u64 e, .slice A n c] :=
    (RowAt.new W 25 #[.int .u64 e, .slice A n c]).below (((Below.refl _ _).alloc (Nat.le_refl _) _).alloc (by simp) _)
  have r2 : RowAt (((W.alloc (.cells #[.int .u64 e, .slice A n c] 25)).alloc (.cells #[.int .i64 k, .int .i64 g, .int .u64 b] 32)).alloc (.cells #[.int .u64 0, .slice none 0 0] 25)) (W.heap.size + 1) 32 #[.int .i64 k, .int .i64 g, .int .u64 b] := by
    have h := RowAt.new (W.alloc (.cells #[.int .u64 e, .slice A n c] 25)) 32 #[.int .i64 k, .int .i64 g, .int .u64 b]
    rw [World.size_alloc] at h; exact h.below ((Below.refl _ _).alloc (Nat.le_refl _) _)
  have r3 : RowAt (((W.alloc (.cells #[.int .u64 e, .slice A n c] 25)).alloc (.cells #[.int .i64 k, .int .i64 g, .int .u64 b] 32)).alloc (.cells #[.int .u64 0, .slice none 0 0] 25)) (W.heap.size + 1 + 1) 25 #[.int .u64 0, .slice none 0 0] := by
    have h := RowAt.new ((W.alloc (.cells #[.int .u64 e, .slice A n c] 25)).alloc (.cells #[.int .i64 k, .int .i64 g, .int .u64 b] 32)) 25 #[.int .u64 0, .slice none 0 0]
    rw [World.size_alloc, World.size_alloc] at h; exact h
  obtain ⟨ck, hck⟩ : ∃ ck : Int, (if pOk e S = true then 0 else 230) = ck := ⟨_, rfl⟩
  have HC := hide (check_any A c n e S _ ((h.below b3).more b3.size) hx h0 hl ck hck)
  have HB := hide b3
  have R1 := hide r1
  have R2 := hide r2
  have R3 := hide r3
  have HR := hide h
  have HX := hide hx
  have HS := hide hS
  obtain ⟨p, hp⟩ : ∃ p, pOk e S = p := ⟨_, rfl⟩
  have HP := hide hp
  have HE := hide hE
  have HXX := hide hX
  have HY := hide hY
  have HM := hide hm
  rw [hp] at hck
  clear b3 r1 r2 r3 h hx hS hp hE hX hY hm
  cases p
  · simp at hck
    subst hck
    have he := HE.out
    have hx := HXX.out
    have hy := HY.out
    have hm := HM.out
    simp only [doX, doS, doE, HP.out] at he hx hy
    simp at he hx hy
    subst he hx hy
    simp at hm
    subst hm
    clear HE HXX HY HM HP
    go_enter Try.func12, Try.ntmps12
    go_wp2_with fail
    generalize (((W.alloc (.cells #[.int .u64 e, .slice A n c] 25)).alloc (.cells #[.int .i64 k, .int .i64 g, .int .u64 b] 32)).alloc (.cells #[.int .u64 0, .slice none 0 0] 25)) = w1 at *
    refine HC.out.mono ?_
    rintro x w2 ⟨rfl, hb⟩
    replace R3 := hide (R3.out.below hb)
    replace HB := hide (HB.out.trans (hb.mono HB.out.size))
    have z0 := row20 R3.out
    have z1 := row21 R3.out
    have f0 := R3.out.frozen 0
    have f1 := R3.out.frozen 1
    have l3 := R3.out.lt
    clear hb HC
    go_wp2_with fail
    have hr4 := (R3.out.set 0 (.int .u64 0)).set 1 (.slice none 0 0)
    have hb4 : Below W.heap.size W ((w2.setCell ⟨W.heap.size + 1 + 1, 0, none⟩ (.int .u64 0)).setCell ⟨W.heap.size + 1 + 1, 1, none⟩ (.slice none 0 0)) := (HB.out.setCell (p := ⟨W.heap.size + 1 + 1, 0, none⟩) (by simp; omega) _).setCell (p := ⟨W.heap.size + 1 + 1, 1, none⟩) (by simp; omega) _
    generalize ((w2.setCell ⟨W.heap.size + 1 + 1, 0, none⟩ (.int .u64 0)).setCell ⟨W.heap.size + 1 + 1, 1, none⟩ (.slice none 0 0)) = wF at *
    have hr5 : RowAt wF (W.heap.size + 1 + 1) 25 #[.int .u64 0, .slice none 0 0] := by simpa using hr4
    refine bodyPost_ret (v := .tuple #[.agg #[.int .u64 0, .slice none 0 0], .int .i64 230]) (by simp [results, Try.results12, go_sem, row20 hr5, row21 hr5, hr5.lt]) rfl ⟨none, 0, rfl, Nat.le_refl _, by omega, PnOut.none _ _, hb4⟩
  · simp at hck
    subst hck
    have hn1 : 1 ≤ n := by have := (pOk_out HP.out).1; have := HX.out; omega
    go_enter Try.func12, Try.ntmps12
    go_wp2_with fail
    generalize (((W.alloc (.cells #[.int .u64 e, .slice A n c] 25)).alloc (.cells #[.int .i64 k, .int .i64 g, .int .u64 b] 32)).alloc (.cells #[.int .u64 0, .slice none 0 0] 25)) = w1 at *
    refine HC.out.mono ?_
    rintro x w2 ⟨rfl, hb⟩
    replace R1 := hide (R1.out.below hb)
    replace R2 := hide (R2.out.below hb)
    replace R3 := hide (R3.out.below hb)
    replace HB := hide (HB.out.trans (hb.mono HB.out.size))
    have HOW := hide (powns_any A c n e S w2 ((HR.out.below HB.out).more HB.out.size) HX.out hn1 hl)
    have y0 := row20 R1.out
    have y1 := row21 R1.out
    have l1 := R1.out.lt
    clear hb HC
    go_wp2_with fail
    refine HOW.out.mono ?_
    rintro x w3 ⟨gh, gs, rfl, hh, hgh, hgs, hb⟩
    have l2' : W.heap.size + 1 + 1 < w2.heap.size := R3.out.lt
    replace R2 := hide (R2.out.below hb)
    replace R3 := hide (R3.out.below hb)
    replace HB := hide (HB.out.trans (hb.mono HB.out.size))
    have HH := hide hh
    have HDO := hide (does_any gh gs n e S k g b w3 hh HP.out h0 HS.out ‹0 ≤ b›)
    have z0 := R2.out.cell 0
    have z1 := R2.out.cell 1
    have z2 := R2.out.cell 2
    simp only [List.getElem?_toArray, List.getElem?_cons_succ, List.getElem?_cons_zero] at z0 z1 z2
    have l2 := R2.out.lt
    clear hb hh y0 y1 l1 HOW R1
    go_wp2_with fail
    refine HDO.out.mono ?_
    rintro x w4 ⟨rfl, hh, hp⟩
    have hE : doE e S k g b = dE e S k g b := by unfold doE; rw [if_pos HP.out]
    have hsW := HB.out.size
    have l3 := R3.out.lt
    have r3 : RowAt w4 (W.heap.size + 1 + 1) 25 #[.int .u64 0, .slice none 0 0] := (hp.block _ (by omega) (by omega) R3.out.lt).trans R3.out
    have hbW : Below W.heap.size W w4 := ⟨hp.os.trans HB.out.os, hp.tape.trans HB.out.tape, hp.output.trans HB.out.output, by have := hp.size; omega, fun j hj => (hp.block j (by omega) (by omega) (by omega)).trans (HB.out.block j hj)⟩
    have hE2 := HE.out
    rw [hE] at hE2
    have hx2 := HXX.out
    have hy2 := HY.out
    unfold doX at hx2
    unfold doS at hy2
    rw [hE, hE2] at hx2 hy2
    rw [hE2] at hh ⊢
    replace R3 := hide r3
    replace HB := hide hbW
    have z0 := row20 r3
    have z1 := row21 r3
    have f0 := r3.frozen 0
    have f1 := r3.frozen 1
    have l4 := r3.lt
    clear hp r3 hbW HDO HE HXX HY hE hE2 z2 l2 l3 R2
    by_cases h0 : E = 0
    · subst h0
      simp only [if_true] at hh hx2 hy2
      subst hx2 hy2
      have HH4 := hide hh
      have HM4 := hide (show n = m by rw [← HM.out, ← hh.len])
      have a0 := row20 hh.box
      have a1 := row21 hh.box
      have la := hh.box.lt
      clear hh HH
      generalize dX e k = X at *
      generalize dS e S k g b = Y at *
      go_wp2_with fail
      have hr4 := (R3.out.set 0 (.int .u64 X)).set 1 (.slice (some ⟨gs, 0, none⟩) n n)
      have hb4 : Below W.heap.size W ((w4.setCell ⟨W.heap.size + 1 + 1, 0, none⟩ (.int .u64 X)).setCell ⟨W.heap.size + 1 + 1, 1, none⟩ (.slice (some ⟨gs, 0, none⟩) n n)) := (HB.out.setCell (p := ⟨W.heap.size + 1 + 1, 0, none⟩) (by simp; omega) _).setCell (p := ⟨W.heap.size + 1 + 1, 1, none⟩) (by simp; omega) _
      have hrow : RowAt ((w4.setCell ⟨W.heap.size + 1 + 1, 0, none⟩ (.int .u64 X)).setCell ⟨W.heap.size + 1 + 1, 1, none⟩ (.slice (some ⟨gs, 0, none⟩) n n)) gs 22 (Cs encW Y).toArray := (HH4.out.row.setNe (by omega)).setNe (by omega)
      generalize ((w4.setCell ⟨W.heap.size + 1 + 1, 0, none⟩ (.int .u64 X)).setCell ⟨W.heap.size + 1 + 1, 1, none⟩ (.slice (some ⟨gs, 0, none⟩) n n)) = wF at *
      have hr5 : RowAt wF (W.heap.size + 1 + 1) 25 #[.int .u64 X, .slice (some ⟨gs, 0, none⟩) n n] := by simpa using hr4
      refine bodyPost_ret (v := .tuple #[.agg #[.int .u64 X, .slice (some ⟨gs, 0, none⟩) n n], .int .i64 0]) (by simp [results, Try.results12, go_sem, row20 hr5, row21 hr5, hr5.lt]) rfl ⟨some ⟨gs, 0, none⟩, n, by rw [HM4.out], by have := HM4.out; omega, by omega, ⟨HM.out, fun _ => ⟨gs, rfl, by omega, hrow⟩⟩, hb4⟩
    · rw [if_neg h0] at hx2 hy2
      subst hx2 hy2
      have hm := HM.out
      simp at hm
      subst hm
      have h0' : (E != 0) = true := by simpa using h0
      clear h0 hh HH HM
      go_wp2_with fail
      have hr4 := (R3.out.set 0 (.int .u64 0)).set 1 (.slice none 0 0)
      have hb4 : Below W.heap.size W ((w4.setCell ⟨W.heap.size + 1 + 1, 0, none⟩ (.int .u64 0)).setCell ⟨W.heap.size + 1 + 1, 1, none⟩ (.slice none 0 0)) := (HB.out.setCell (p := ⟨W.heap.size + 1 + 1, 0, none⟩) (by simp; omega) _).setCell (p := ⟨W.heap.size + 1 + 1, 1, none⟩) (by simp; omega) _
      generalize ((w4.setCell ⟨W.heap.size + 1 + 1, 0, none⟩ (.int .u64 0)).setCell ⟨W.heap.size + 1 + 1, 1, none⟩ (.slice none 0 0)) = wF at *
      have hr5 : RowAt wF (W.heap.size + 1 + 1) 25 #[.int .u64 0, .slice none 0 0] := by simpa using hr4
      refine bodyPost_ret (v := .tuple #[.agg #[.int .u64 0, .slice none 0 0], .int .i64 E]) (by simp [results, Try.results12, go_sem, row20 hr5, row21 hr5, hr5.lt]) rfl ⟨none, 0, rfl, Nat.le_refl _, by omega, PnOut.none _ _, hb4⟩
end Go.Proofs.Ytopaopfebgonjaa
