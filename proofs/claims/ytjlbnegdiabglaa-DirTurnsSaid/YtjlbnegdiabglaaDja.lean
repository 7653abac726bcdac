/-
  The statements' own: a directory in memory of its own, the entry of a slab.
-/
import Derived.Test.YtjlbnegdiabglaaDiy
import Derived.Test.YtjlbnegdiabglaaDiv
import Derived.Test.YtjlbnegdiabglaaTail
import Derived.Deep.RegionHeld3
set_option linter.unusedSimpArgs false
set_option linter.unusedVariables false
namespace Go.Proofs.Ytjlbnegdiabglaa
open Go Go.RowKit
attribute [local go_sem] via_cell via_frozen

theorem slab_any (k : Int) (W : World) : Calls Try.prog 34 #[.int .i64 k] W fun e W' => e = .returned (.agg #[.int .i64 k, .int .u64 0]) ∧ Below W.heap.size W W' := by
  have HB := hide (show Below W.heap.size W (W.alloc (.cells #[.int .i64 k, .int .u64 0] 31)) from (Below.refl _ _).alloc (Nat.le_refl _) _)
  have HR := hide (RowAt.new W 31 #[.int .i64 k, .int .u64 0])
  go_enter Try.func34, Try.ntmps34
  go_wp2_with fail
  have q0 := row20 HR.out
  have q1 := row21 HR.out
  have ql := HR.out.lt
  exact bodyPost_ret (v := .agg #[.int .i64 k, .int .u64 0]) (by simp [results, Try.results34, go_sem, q0, q1, ql]) rfl ⟨rfl, HB.out⟩
/-- A directory answered, in memory of its own. -/
def OwnR (W : World) (d : Int) (es : List En) (e : Ending) (W' : World) : Prop :=
  ∃ A c, e = .returned (.agg #[.int .i64 d, .slice A es.length c]) ∧ W'.ownsRow W.heap.size 31 2 (.slice A es.length c) es.length (Cs encE es) ∧ Below W.heap.size W W'
theorem own_any (B : Nat) (A : Option Addr) (c n : Nat) (dep : Int) (es : List En) (W : World) (h : Rd W B 2 A n (Cs encE es)) (hn : es.length = n) (hB : B ≤ W.heap.size) (hc : n ≤ c) (hcm : c ≤ 9223372036854775807) :
    Calls Try.prog 9 #[.agg #[.int .i64 dep, .slice A n c]] W (OwnR W dep (es.take 34)) := by
  obtain ⟨w1, hw1⟩ : ∃ w1, W.alloc (.cells #[.int .i64 dep, .slice A n c] 24) = w1 := ⟨_, rfl⟩
  obtain ⟨w2, hw2⟩ : ∃ w2, w1.alloc (.cells #[.int .i64 0, .slice none 0 0] 24) = w2 := ⟨_, rfl⟩
  have s1 : w1.heap.size = W.heap.size + 1 := by rw [← hw1]; simp
  have b1 : Below W.heap.size W w1 := by rw [← hw1]; exact (Below.refl _ _).alloc (Nat.le_refl _) _
  have b2 : Below w1.heap.size w1 w2 := by rw [← hw2]; exact (Below.refl _ _).alloc (Nat.le_refl _) _
  have R1 : Hid (RowAt w2 W.heap.size 24 #[.int .i64 dep, .slice A n c]) := hide (by have h := RowAt.new W 24 #[.int .i64 dep, .slice A n c]; rw [hw1] at h; exact h.below b2)
  have R2 : Hid (RowAt w2 (W.heap.size + 1) 24 #[.int .i64 0, .slice none 0 0]) := hide (by have h := RowAt.new w1 24 #[.int .i64 0, .slice none 0 0]; rw [hw2, s1] at h; exact h)
  have HB := hide (b1.trans (b2.mono b1.size))
  have H := hide h
  have HN := hide hn
  clear b1 b2 s1 h hn
  subst hw2
  subst hw1
  obtain ⟨m, hm⟩ : ∃ m, min n 34 = m := ⟨_, rfl⟩
  have hmn : m ≤ n := by omega
  have hm34 : m ≤ 34 := by omega
  have hmI : min (n : Int) 34 = (m : Int) := by omega
  have HMM := hide (show (es.take 34).length = m from by rw [List.length_take, HN.out]; omega)
  have HTK := hide (show Rd W B 2 A m (Cs encE (es.take 34)) from by
    have h2 := H.out.take hmn
    rw [← Cs_take encE_len] at h2
    have : es.take m = es.take 34 := by
      rw [← hm, List.take_eq_take_iff, HN.out]; omega
    rw [this] at h2
    exact h2)
  clear hm
  have hnI : (n : Int) ≤ 9223372036854775807 := by omega
  have h0m : (0 : Int) ≤ (m : Int) := by omega
  have hmcI : (m : Int) ≤ (c : Int) := by omega
  have hmnI : (m : Int) ≤ (n : Int) := by omega
  go_enter Try.func9, Try.ntmps9
  go_upto_region 1 with (fail)
  generalize (W.alloc (.cells #[.int .i64 dep, .slice A n c] 24)).alloc (.cells #[.int .i64 0, .slice none 0 0] 24) = w2 at *
  have q0 := row20 R1.out
  have q1 := row21 R1.out
  have ql := R1.out.lt
  have HC := hide (fun w (hb : Below W.heap.size W w) => CloneE B A m c (Cs encE (es.take 34)) w (HTK.out.below (hb.mono hB)) (Nat.le_trans hB hb.size) (Cs_one_cell encE_one _) (by omega))
  have d0 := row20 R2.out
  have d1 := row21 R2.out
  have dl := R2.out.lt
  have df0 := R2.out.frozen 0
  have df1 := R2.out.frozen 1
  have hS0 : Below W.heap.size W w2.drew ∧ w2.drew.cell? ⟨W.heap.size, 0, none⟩ = some (.int .i64 dep) ∧ w2.drew.cell? ⟨W.heap.size, 1, none⟩ = some (.slice A n c) := ⟨HB.out.drew, q0, q1⟩
  have HS : Hid (∀ w w', Below w.heap.size w w' → (Below W.heap.size W w ∧ w.cell? ⟨W.heap.size, 0, none⟩ = some (.int .i64 dep) ∧ w.cell? ⟨W.heap.size, 1, none⟩ = some (.slice A n c)) → (Below W.heap.size W w' ∧ w'.cell? ⟨W.heap.size, 0, none⟩ = some (.int .i64 dep) ∧ w'.cell? ⟨W.heap.size, 1, none⟩ = some (.slice A n c))) :=
    hide (fun w w' hb h => ⟨h.1.trans (hb.mono h.1.size), kept hb h.2.1, kept hb h.2.2⟩)
  have HT : Hid (∀ (w : World) (o : Nat) (v : Value), (Below W.heap.size W w ∧ w.cell? ⟨W.heap.size, 0, none⟩ = some (.int .i64 dep) ∧ w.cell? ⟨W.heap.size, 1, none⟩ = some (.slice A n c)) → (Below W.heap.size W (w.setCell ⟨W.heap.size + 1, o, none⟩ v) ∧ (w.setCell ⟨W.heap.size + 1, o, none⟩ v).cell? ⟨W.heap.size, 0, none⟩ = some (.int .i64 dep) ∧ (w.setCell ⟨W.heap.size + 1, o, none⟩ v).cell? ⟨W.heap.size, 1, none⟩ = some (.slice A n c))) :=
    hide (fun w o v h => ⟨h.1.setCell (p := ⟨W.heap.size + 1, o, none⟩) (by simp) v, (cell_of_heap (p := ⟨W.heap.size, 0, none⟩) (heap_setCell_ne _ _ _ _ (by simp))).trans h.2.1, (cell_of_heap (p := ⟨W.heap.size, 1, none⟩) (heap_setCell_ne _ _ _ _ (by simp))).trans h.2.2⟩)
  go_region_held3 (fun wX => Below W.heap.size W wX ∧ wX.cell? ⟨W.heap.size, 0, none⟩ = some (.int .i64 dep) ∧ wX.cell? ⟨W.heap.size, 1, none⟩ = some (.slice A n c))
    (first | exact hS0 | exact HS.out _ _ hb (by assumption) | exact HT.out _ _ _ (HT.out _ _ _ (by assumption)) | go_keep)
    (first | (go_at_call 35; (with_reducible refine (HC.out _ (And.left ‹Below W.heap.size W _ ∧ _›)).mono ?_); rintro e wq ⟨v, rfl, hown, hb⟩; obtain ⟨A2, c2, rfl, hc2, hcm2⟩ := own_form2 hown; have HOW := hide hown; clear hown; have RS := R2.out.drew.below hb; have rs0 := row20 RS; have rs1 := row21 RS; have rsl := RS.lt; have rsf0 := RS.frozen 0; have rsf1 := RS.frozen 1))
  rename_i hHeld
  have hb9 := And.left hHeld
  have hr9 := (RS.set 0 (.int .i64 dep)).set 1 (.slice A2 m c2)
  have ho9 := own_setBox (own_setBox HOW.out RS (by decide) 0 (.int .i64 dep)) (RS.set 0 (.int .i64 dep)) (by decide) 1 (.slice A2 m c2)
  clear hHeld hS0 rs0 rs1 rsl rsf0 rsf1
  go_wp2_with fail
  have hr9 : RowAt ((wq.setCell ⟨W.heap.size + 1, 0, none⟩ (.int .i64 dep)).setCell ⟨W.heap.size + 1, 1, none⟩ (.slice A2 m c2)) (W.heap.size + 1) 24 #[.int .i64 dep, .slice A2 m c2] := hr9
  generalize (wq.setCell ⟨W.heap.size + 1, 0, none⟩ (.int .i64 dep)).setCell ⟨W.heap.size + 1, 1, none⟩ (.slice A2 m c2) = w9 at *
  have q0 := row20 hr9
  have q1 := row21 hr9
  have ql := hr9.lt
  have hf : OwnR W dep (es.take 34) (.returned (.agg #[.int .i64 dep, .slice A2 m c2])) w9 := by
    refine ⟨A2, c2, by rw [HMM.out], ?_, hb9⟩
    rw [HMM.out]
    exact ownsRow_base ho9 (by show W.heap.size ≤ w2.drew.heap.size; exact HB.out.size)
  exact bodyPost_ret (v := .agg #[.int .i64 dep, .slice A2 m c2]) (by simp [results, Try.results9, go_sem, q0, q1, ql]) rfl hf
end Go.Proofs.Ytjlbnegdiabglaa
