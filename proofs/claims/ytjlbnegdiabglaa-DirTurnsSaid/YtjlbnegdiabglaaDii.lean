/-
  A new directory; something done with a directory of tables, and the error by which it leaves.
-/
import Derived.Test.YtjlbnegdiabglaaDih
set_option linter.unusedSimpArgs false
set_option linter.unusedVariables false
namespace Go.Proofs.Ytjlbnegdiabglaa
open Go Go.RowKit
attribute [local go_sem] via_cell via_frozen

/-- What a function that answers a directory, or an error, comes to. -/
def OkD (W : World) (d : Int) (es : List En) (e : Ending) (W' : World) : Prop :=
  ∃ A c, e = .returned (.tuple #[.agg #[.int .i64 d, .slice A es.length c], .int .i64 0]) ∧ W'.ownsRow W.heap.size 31 2 (.slice A es.length c) es.length (Cs encE es) ∧ Below W.heap.size W W'
def NoD (W : World) (k : Int) (e : Ending) (W' : World) : Prop := e = .returned (.tuple #[.agg #[.int .i64 0, .slice none 0 0], .int .i64 k]) ∧ Below W.heap.size W W'
def DirO (W : World) : Except Int (Int × List En) → Ending → World → Prop
  | .ok x => OkD W x.1 x.2
  | .error k => NoD W k
theorem New_any (s g : Int) (hg : U64 g) (W : World) (o : Except Int (Int × List En)) (ho : (if okEnt s g then .ok (0, [(s, g)]) else .error 2) = o) : Calls Try.prog 18 #[.agg #[.int .i64 s, .int .u64 g]] W (DirO W o) := by
  obtain ⟨r, hr⟩ : ∃ r, okEnt s g = r := ⟨_, rfl⟩
  rw [hr] at ho
  have HO := hide ho
  clear ho
  obtain ⟨w1, hw1⟩ : ∃ w1, W.alloc (.cells #[.int .i64 s, .int .u64 g] 31) = w1 := ⟨_, rfl⟩
  obtain ⟨w2, hw2⟩ : ∃ w2, w1.alloc (.cells #[.int .i64 0, .slice none 0 0] 24) = w2 := ⟨_, rfl⟩
  have s1 : w1.heap.size = W.heap.size + 1 := by rw [← hw1]; simp
  have b1 : Below W.heap.size W w1 := by rw [← hw1]; exact (Below.refl _ _).alloc (Nat.le_refl _) _
  have b2 : Below w1.heap.size w1 w2 := by rw [← hw2]; exact (Below.refl _ _).alloc (Nat.le_refl _) _
  have R1 : Hid (RowAt w2 W.heap.size 31 #[.int .i64 s, .int .u64 g]) := hide (by have h := RowAt.new W 31 #[.int .i64 s, .int .u64 g]; rw [hw1] at h; exact h.below b2)
  have R2 : Hid (RowAt w2 (W.heap.size + 1) 24 #[.int .i64 0, .slice none 0 0]) := hide (by have h := RowAt.new w1 24 #[.int .i64 0, .slice none 0 0]; rw [hw2, s1] at h; exact h)
  have HB := hide (b1.trans (b2.mono b1.size))
  have HC := hide (is_any s g hg w2 r hr)
  clear hr b1 b2 s1
  subst hw2
  subst hw1
  go_enter Try.func18, Try.ntmps18
  go_upto_region 1 with (fail)
  generalize (W.alloc (.cells #[.int .i64 s, .int .u64 g] 31)).alloc (.cells #[.int .i64 0, .slice none 0 0] 24) = w2 at *
  have c0 := row20 R1.out
  have c1 := row21 R1.out
  have cl := R1.out.lt
  go_wp2_with fail
  with_reducible refine HC.out.mono ?_
  rintro e w3 ⟨rfl, hb3⟩
  have HB3 := hide (HB.out.trans (hb3.mono HB.out.size))
  have R1 := hide (R1.out.below hb3)
  have R2 := hide (R2.out.below hb3)
  clear hb3 HC HB c0 c1 cl
  have c0 := row20 R1.out
  have c1 := row21 R1.out
  have cl := R1.out.lt
  have d0 := row20 R2.out
  have d1 := row21 R2.out
  have dl := R2.out.lt
  have df0 := R2.out.frozen 0
  have df1 := R2.out.frozen 1
  cases r
  · obtain rfl : Except.error 2 = o := HO.out
    have HR9 := hide ((R2.out.set 0 (.int .i64 0)).set 1 (.slice none 0 0))
    have HB9 := hide ((HB3.out.setCell (p := ⟨W.heap.size + 1, 0, none⟩) (by simp) (.int .i64 0)).setCell (p := ⟨W.heap.size + 1, 1, none⟩) (by simp) (.slice none 0 0))
    go_wp2_with fail
    generalize (w3.setCell ⟨W.heap.size + 1, 0, none⟩ (.int .i64 0)).setCell ⟨W.heap.size + 1, 1, none⟩ (.slice none 0 0) = w9 at *
    have q0 := row20 HR9.out
    have q1 := row21 HR9.out
    have ql := HR9.out.lt
    exact bodyPost_ret (v := .tuple #[.agg #[.int .i64 0, .slice none 0 0], .int .i64 2]) (by simp [results, Try.results18, go_sem, q0, q1, ql]) rfl ⟨rfl, HB9.out⟩
  · obtain rfl : Except.ok (0, [(s, g)]) = o := HO.out
    go_wp2_with fail
    obtain ⟨gs, hgs⟩ : ∃ g, w3.heap.size = g := ⟨_, rfl⟩
    rw [hgs]
    have hz : ((w3.setCell ⟨W.heap.size + 1, 0, none⟩ (.int .i64 0)).setCell ⟨W.heap.size + 1, 1, none⟩ (.slice (some ⟨gs, 0, none⟩) 1 1)).heap.size = gs := by simp [hgs]
    have hown := World.ownsRow_lit (base := W.heap.size) (e := 31) (size := 2) ((w3.setCell ⟨W.heap.size + 1, 0, none⟩ (.int .i64 0)).setCell ⟨W.heap.size + 1, 1, none⟩ (.slice (some ⟨gs, 0, none⟩) 1 1)) #[.int .i64 s, .int .u64 g] 1 (by rw [hz, ← hgs]; exact HB3.out.size) (by simp [maxLen]) rfl
    have hb2 : ∀ w : World, Below w.heap.size w (w.alloc (.cells #[.int .i64 s, .int .u64 g] 31)) := fun w => (Below.refl _ _).alloc (Nat.le_refl _) _
    have hr9 := ((R2.out.set 0 (.int .i64 0)).set 1 (.slice (some ⟨gs, 0, none⟩) 1 1)).below (hb2 _)
    have hb9 := ((HB3.out.setCell (p := ⟨W.heap.size + 1, 0, none⟩) (by simp) (.int .i64 0)).setCell (p := ⟨W.heap.size + 1, 1, none⟩) (by simp) (.slice (some ⟨gs, 0, none⟩) 1 1)).trans ((hb2 _).mono (by rw [hz, ← hgs]; exact HB3.out.size))
    rw [hz] at hown
    clear hz
    generalize ((w3.setCell ⟨W.heap.size + 1, 0, none⟩ (.int .i64 0)).setCell ⟨W.heap.size + 1, 1, none⟩ (.slice (some ⟨gs, 0, none⟩) 1 1)).alloc (.cells #[.int .i64 s, .int .u64 g] 31) = w9 at *
    have q0 := row20 hr9
    have q1 := row21 hr9
    have ql := hr9.lt
    exact bodyPost_ret (v := .tuple #[.agg #[.int .i64 0, .slice (some ⟨gs, 0, none⟩) 1 1], .int .i64 0]) (by simp [results, Try.results18, go_sem, q0, q1, ql]) rfl ⟨some ⟨gs, 0, none⟩, 1, rfl, hown, hb9⟩

theorem catch_idle (p q : Addr) (w : World) :
    CallsD Try.prog 66 #[.pointer (some p), .pointer (some q)] .returning w fun e u' w' => e = .returned (.tuple #[]) ∧ u' = .returning ∧ w' = w := by
  refine callsD_of_wpS Try.func66 rfl fun c₀ cs hu => ?_
  apply wpS_seq
  apply wpS_region
  simp [wpOpsS, go_sem, recoverD, hu, Try.ntmps66, Exit.thenS]
  refine wpS_of_wp ?_
  simp only [List.size_toArray, List.length_cons, List.length_nil, Nat.reduceAdd, Nat.reduceSub, Array.replicate_succ, Array.replicate_zero, List.push_toArray, List.append_toArray, List.nil_append, List.cons_append, List.setIfInBounds_toArray, List.set_cons_succ, List.set_cons_zero]
  go_wp2
  cases c₀
  simp_all [bodyPostS, results, Try.results66]
/-- What is thrown. -/
def errX (k : Int) : List PanicEntry := [{ v := .iface 34 (.int .i64 k), recovered := false }]
theorem need_ok (k : Int) (W : World) : Calls Try.prog 55 #[.bool true, .int .i64 k] W fun e W' => e = .returned (.tuple #[]) ∧ W = W' := by
  go_enter Try.func55, Try.ntmps55
  go_wp2
  go_end0
  exact ⟨rfl, rfl⟩
theorem need_no (k : Int) (W : World) : Calls Try.prog 55 #[.bool false, .int .i64 k] W fun e W' => e = .panicked (errX k) ∧ W = W' := by
  go_enter Try.func55, Try.ntmps55
  go_wp2
  exact ⟨rfl, rfl, rfl⟩
@[local go_sem] theorem wpmf (fn : Fn) (first cap : Array Value) (w : World) : (Instr.makeFunc fn first cap).run Try.prog w = .ok (.func fn first cap) w := rfl
@[local go_sem] theorem assert_errno (k : Int) (W : World) : (Instr.typeAssert (.iface 34 (.int .i64 k)) 20 34 true).run Try.prog W = .ok (.tuple #[.int .i64 k, .bool true]) W := by
  simp [Instr.typeAssert]
def catchW (b1 b2 : Nat) (k : Int) (w : World) : World := ((w.setCell ⟨b1, 0, none⟩ (.int .i64 0)).setCell ⟨b1, 1, none⟩ (.slice none 0 0)).setCell ⟨b2, 0, none⟩ (.int .i64 k)
set_option maxRecDepth 100000 in
theorem catch_err (b1 b2 : Nat) (k : Int) (w : World) (h1 : RowAt w b1 24 #[.int .i64 0, .slice none 0 0]) (h2 : RowAt w b2 34 #[.int .i64 0]) (hne : b1 ≠ b2) :
    CallsD Try.prog 66 #[.pointer (some ⟨b1, 0, none⟩), .pointer (some ⟨b2, 0, none⟩)] (.panicking (errX k)) w fun e u' w' =>
      e = .returned (.tuple #[]) ∧ u' = .panicking [{ v := .iface 34 (.int .i64 k), recovered := true }] ∧ w' = catchW b1 b2 k w := by
  have c0 := row20 h1
  have c1 := row21 h1
  have c2 := row1 h2
  have f0 := h1.frozen 0
  have f1 := h1.frozen 1
  have f2 := h2.frozen 0
  have l1 := h1.lt
  have l2 := h2.lt
  have hne2 : ¬ b1 = b2 := hne
  have hne3 : ¬ b2 = b1 := fun h => hne h.symm
  refine callsD_of_wpS Try.func66 rfl fun c₀ cs hu => ?_
  apply wpS_seq
  apply wpS_region
  simp [wpOpsS, go_sem, recoverD, hu, Try.ntmps66, Exit.thenS, errX]
  refine wpS_of_wp ?_
  simp only [List.size_toArray, List.length_cons, List.length_nil, Nat.reduceAdd, Nat.reduceSub, Array.replicate_succ, Array.replicate_zero, List.push_toArray, List.append_toArray, List.nil_append, List.cons_append, List.setIfInBounds_toArray, List.set_cons_succ, List.set_cons_zero]
  go_wp2
  simp [bodyPostS, results, Try.results66, catchW]
theorem catchW_facts {b1 b2 : Nat} {k : Int} {w : World} (h1 : RowAt w b1 24 #[.int .i64 0, .slice none 0 0]) (h2 : RowAt w b2 34 #[.int .i64 0]) (hne : b1 ≠ b2) :
    RowAt (catchW b1 b2 k w) b1 24 #[.int .i64 0, .slice none 0 0] ∧ RowAt (catchW b1 b2 k w) b2 34 #[.int .i64 k] ∧ ∀ n, n ≤ b1 → n ≤ b2 → Below n w (catchW b1 b2 k w) :=
  ⟨((h1.set 0 (.int .i64 0)).set 1 (.slice none 0 0)).setNe hne, ((h2.setNe (Ne.symm hne)).setNe (Ne.symm hne)).set 0 _, fun n hn1 hn2 =>
    (((Below.refl n w).setCell (p := ⟨b1, 0, none⟩) hn1 _).setCell (p := ⟨b1, 1, none⟩) hn1 _).setCell (p := ⟨b2, 0, none⟩) hn2 _⟩
end Go.Proofs.Ytjlbnegdiabglaa
