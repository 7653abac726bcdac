/-
  Directories: own, Same.
-/
import Derived.Test.YtndlfofpldbldaaDc
import Derived.Test.YtndlfofpldbldaaTables
import Derived.Test.YtndlfofpldbldaaGoes
set_option linter.unusedSimpArgs false
set_option linter.unusedVariables false
namespace Go.Proofs.Ytndlfofpldbldaa
open Go Go.RowKit

theorem own_any (B : Nat) (A : Option Addr) (c : Nat) (dep : Int) (es : List (Int × Int)) (W : World) (hr : Rd W B 2 A es.length (Cs encE es)) (hB : B ≤ W.heap.size) (hc : es.length ≤ c) (hc2 : c ≤ 9223372036854775807) :
    Calls Try.prog 29 #[.agg #[.int .i64 dep, .slice A es.length c]] W fun e W' => ∃ A' c', e = .returned (.agg #[.int .i64 dep, .slice A' (min es.length 40) c']) ∧ min es.length 40 ≤ c' ∧ W'.ownsRow W.heap.size 36 2 (.slice A' (min es.length 40) c') (min es.length 40) (Cs encE (es.take (min es.length 40))) ∧ Below W.heap.size W W' := by
  obtain ⟨m, hm⟩ : ∃ m, min es.length 40 = m := ⟨_, rfl⟩
  have hmI : min (es.length : Int) 40 = (m : Int) := by omega
  have hm1 : m ≤ es.length := by omega
  have hm2 : m ≤ 40 := by omega
  have hmc : (m : Int) ≤ (c : Int) := by omega
  have hcI : (c : Int) ≤ 9223372036854775807 := by omega
  have hlI : (es.length : Int) ≤ 9223372036854775807 := by omega
  have hrt : Rd W B 2 A m (Cs encE (es.take m)) := by
    have h := hr.take hm1
    rw [← Cs_take encE_len] at h; exact h
  have HRT := hide hrt
  rw [hm]
  clear hr hrt hm
  go_enter Try.func29, Try.ntmps29
  go_wp2_with fail
  have hb0 : Below W.heap.size W ((W.alloc (.cells #[.int .i64 dep, .slice A es.length c] 49)).alloc (.cells #[.int .i64 0, .slice none 0 0] 49)) := ((Below.refl _ _).alloc (Nat.le_refl _) _).alloc (by simp) _
  have hr1 : RowAt ((W.alloc (.cells #[.int .i64 dep, .slice A es.length c] 49)).alloc (.cells #[.int .i64 0, .slice none 0 0] 49)) W.heap.size 49 #[.int .i64 dep, .slice A es.length c] := (RowAt.new W 49 _).below ((Below.refl _ _).alloc (Nat.le_refl _) _)
  have hr2 : RowAt ((W.alloc (.cells #[.int .i64 dep, .slice A es.length c] 49)).alloc (.cells #[.int .i64 0, .slice none 0 0] 49)) (W.heap.size + 1) 49 #[.int .i64 0, .slice none 0 0] := by
    have h := RowAt.new (W.alloc (.cells #[.int .i64 dep, .slice A es.length c] 49)) 49 #[.int .i64 0, .slice none 0 0]
    rw [World.size_alloc] at h; exact h
  have hs0 : ((W.alloc (.cells #[.int .i64 dep, .slice A es.length c] 49)).alloc (.cells #[.int .i64 0, .slice none 0 0] 49)).heap.size = W.heap.size + 1 + 1 := by simp
  generalize ((W.alloc (.cells #[.int .i64 dep, .slice A es.length c] 49)).alloc (.cells #[.int .i64 0, .slice none 0 0] 49)) = w0 at *
  have a0 := hr1.cell 0
  have a1 := hr1.cell 1
  have c0 := hr2.cell 0
  have c1 := hr2.cell 1
  have f0 := hr2.frozen 0
  have f1 := hr2.frozen 1
  simp only [List.getElem?_toArray, List.getElem?_cons_succ, List.getElem?_cons_zero] at a0 a1 c0 c1
  have HC : Hid (Calls Try.prog 50 #[.slice A m c] w0.drew fun e W' => ∃ v, e = .returned v ∧ W'.ownsRow w0.heap.size 36 2 v m (Cs encE (es.take m)) ∧ Below w0.heap.size w0 W') := hide ((CloneE B A m c (Cs encE (es.take m)) w0.drew (HRT.out.below (hb0.drew.mono hB)) (by show B ≤ w0.heap.size; omega) (Cs_one_cell encE_one _) (by omega)).mono fun e W' ⟨v, h1, h2, h3⟩ => ⟨v, h1, h2, (Below.refl _ w0).drew.trans h3⟩)
  have HB0 := hide hb0
  have hlt0 : W.heap.size + 1 < w0.heap.size := by omega
  clear hr1 hr2 hb0
  go_region_held3 (fun wX => wX.cell? ⟨W.heap.size, 0, none⟩ = some (.int .i64 dep) ∧ wX.cell? ⟨W.heap.size, 1, none⟩ = some (.slice A es.length c)) (first | go_keep | exact ⟨kept hb3 a0, kept hb3 a1⟩) (first | (go_at_call 50; with_reducible refine HC.out.mono ?_; rintro e w3 ⟨v3, rfl, ho3, hb3⟩; obtain ⟨A3, c3, rfl, hc3⟩ := own_form ho3; have g0 := kept hb3 c0; have g1 := kept hb3 c1; have k0 := keptF (w := w0) hb3 hlt0 f0; have k1 := keptF (w := w0) hb3 hlt0 f1))
  go_wp2
  refine bodyPost_ret (v := .agg #[.int .i64 dep, .slice A3 m c3]) (by simp [results, Try.results29, go_sem, g0, g1]) rfl ⟨A3, c3, rfl, hc3, ?_, ?_⟩
  · refine ownsRow_base (own_other ho3 (fun j hj => ?_)) (by omega)
    rw [heap_setCell_ne _ _ _ _ (by show j ≠ W.heap.size + 1; omega), heap_setCell_ne _ _ _ _ (by show j ≠ W.heap.size + 1; omega)]
  · exact ((HB0.out.trans (hb3.mono (by omega))).setCell (p := ⟨W.heap.size + 1, 0, none⟩) (by simp) _).setCell (p := ⟨W.heap.size + 1, 1, none⟩) (by simp) _

theorem Same_any (B1 B2 : Nat) (A1 A2 : Option Addr) (c1 c2 : Nat) (d1 d2 : Int) (xs ys : List (Int × Int)) (W : World) (h1 : Rd W B1 2 A1 xs.length (Cs encE xs)) (h2 : Rd W B2 2 A2 ys.length (Cs encE ys)) (hB1 : B1 ≤ W.heap.size) (hB2 : B2 ≤ W.heap.size)
    (hl1 : xs.length ≤ 4096) (hl2 : ys.length ≤ 4096) (r : Bool) (hr : (decide (d1 = d2) && decide (xs = ys)) = r) :
    Calls Try.prog 33 #[.agg #[.int .i64 d1, .slice A1 xs.length c1], .agg #[.int .i64 d2, .slice A2 ys.length c2]] W fun e W' => e = .returned (.bool r) ∧ Below W.heap.size W W' := by
  have hb0 : Below W.heap.size W ((W.alloc (.cells #[.int .i64 d1, .slice A1 xs.length c1] 49)).alloc (.cells #[.int .i64 d2, .slice A2 ys.length c2] 49)) := ((Below.refl _ _).alloc (Nat.le_refl _) _).alloc (by simp) _
  have hs0 : ((W.alloc (.cells #[.int .i64 d1, .slice A1 xs.length c1] 49)).alloc (.cells #[.int .i64 d2, .slice A2 ys.length c2] 49)).heap.size = W.heap.size + 1 + 1 := by simp
  have HC := hide (EqualE B1 B2 A1 A2 c1 c2 xs ys ((W.alloc (.cells #[.int .i64 d1, .slice A1 xs.length c1] 49)).alloc (.cells #[.int .i64 d2, .slice A2 ys.length c2] 49)) (h1.below (hb0.mono hB1)) (h2.below (hb0.mono hB2)) (by omega) (by omega) hl1 hl2 (decide (xs = ys)) rfl)
  have HB := hide hb0
  have HR := hide hr
  clear h1 h2 hb0 hr hs0
  by_cases hd : d1 = d2
  · subst hd
    go_enter Try.func33, Try.ntmps33
    go_wp2_with (go_at_call 51; refine HC.out.mono ?_; rintro e w1 ⟨rfl, hb1⟩)
    go_ret
    exact ⟨ret_bool (by rw [← HR.out]; simp), HB.out.trans (hb1.mono HB.out.size)⟩
  · have hne : (d1 == d2) = false := by simpa using hd
    go_enter Try.func33, Try.ntmps33
    go_wp2_with fail
    go_ret
    exact ⟨ret_bool (by rw [← HR.out]; simp [hd]), HB.out⟩
end Go.Proofs.Ytndlfofpldbldaa
