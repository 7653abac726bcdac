/-
  Contracts of the table's words: TableWords.
-/
import Derived.Test.YtndlfofpldbldaaD
namespace Go.Proofs.Ytndlfofpldbldaa
open Go Go.RowKit
attribute [local go_sem] via_cell via_frozen
set_option linter.unusedSimpArgs false
set_option linter.unusedVariables false

theorem or_add8 (a b : Nat) (ha : a < 256) : a ||| (b * 256) = a + 256 * b := by
  rw [Nat.or_comm, show b * 256 = 2 ^ 8 * b from by omega, ← Nat.two_pow_add_eq_or_of_lt (by simpa using ha)]
  omega
theorem bits_or_add8 (s g : Int) (h0 : 0 ≤ s) (h1 : s < 256) (h2 : 0 ≤ g) (h3 : g < 32) : bits BinOp.or IntKind.u64 s (g * 256) = s + 256 * g := by
  obtain ⟨a, rfl⟩ := Int.eq_ofNat_of_zero_le h0
  obtain ⟨b, rfl⟩ := Int.eq_ofNat_of_zero_le h2
  rw [show ((b : Int) * 256) = ((b * 256 : Nat) : Int) from by omega, u64_or_nat a (b * 256) (by omega) (by omega), or_add8 a b (by omega)]
  omega

theorem flatB_out {d p c l : Int} (h : flatB d p c l = true) (hp : 0 ≤ p) : 0 ≤ d ∧ d ≤ 5 ∧ p < 32 ∧ 0 ≤ c ∧ c ≤ 14 ∧ 0 ≤ l ∧ l ≤ 14 := by
  simp [flatB] at h
  obtain ⟨⟨a, b⟩, e, ⟨f, g⟩, i, j⟩ := h
  refine ⟨a, b, ?_, f, g, i, j⟩
  have h2 : (2 : Int) ^ d.toNat ≤ 32 := by
    have h3 : d.toNat ≤ 5 := by omega
    have h4 : d.toNat = 0 ∨ d.toNat = 1 ∨ d.toNat = 2 ∨ d.toNat = 3 ∨ d.toNat = 4 ∨ d.toNat = 5 := by omega
    rcases h4 with h | h | h | h | h | h <;> rw [h] <;> decide
  have hpos : (0 : Int) < 2 ^ d.toNat := by
    have : (0 : Nat) < 2 ^ d.toNat := Nat.pow_pos (by omega)
    exact_mod_cast this
  by_cases h5 : p < 2 ^ d.toNat
  · omega
  · have := Int.le_ediv_of_mul_le hpos (show 1 * (2 : Int) ^ d.toNat ≤ p by omega)
    omega

/-- A table's cells: what the words are made of. -/
structure TabCells (X : Array Value) (n d p c l : Int) : Prop where
  size : X.size = 39
  c0 : X[0]? = some (.int .u64 n)
  c1 : X[1]? = some (.int .i64 d)
  c2 : X[2]? = some (.int .u64 p)
  c3 : X[3]? = some (.int .i64 c)
  c4 : X[4]? = some (.int .i64 l)
  one : ∀ u ∈ X.toList, u.oneCell' = true

def tabWords (X : Array Value) (n d p c l : Int) : List Value := [.int .u64 n, .int .u64 (d + 256 * p), .int .u64 c, .int .u64 l] ++ X.toList.drop 5 ++ [.int .u64 0, .int .u64 0]

set_option maxHeartbeats 1000000 in
theorem TableWords_no (X : Array Value) (n d p c l : Int) (W : World) (hX : TabCells X n d p c l) (hp : 0 ≤ p) (hp2 : p < 18446744073709551616) (h : flatB d p c l = false) :
    Calls Try.prog 22 #[.agg X] W fun e W' => e = .returned (.tuple #[.slice none 0 0, .int .i64 260]) ∧ Below W.heap.size W W' := by
  have HF := hide h
  have H2 := hide hp2
  have hsz := hide hX.size
  clear h hp2
  go_enter Try.func22, Try.ntmps22
  go_wp2_with (first
    | (refine wpList_load_row rfl 55 _ rfl W.heap.size rfl 55 X (0, 0) _ (heap_alloc_new _ _) Try.underlying55 (by kernel_rfl) (by rw [hsz.out]; kernel_rfl) ?_)
    | (go_at_call 39; refine (flat_any X d p c l _ false HF.out hp H2.out hX.c1 hX.c2 hX.c3 hX.c4).mono ?_; rintro e w1 ⟨rfl, hb1⟩))
  go_ret2
  exact ⟨rfl, ((Below.refl _ _).alloc (Nat.le_refl _) _).trans (hb1.mono (by simp))⟩

theorem drop_parts (l : List Value) (h : l.length = 39) : (l.drop 5).take 2 ++ (l.drop 7).take 16 ++ (l.drop 23).take 16 = l.drop 5 := by
  have h1 : l.drop 7 = (l.drop 5).drop 2 := by rw [List.drop_drop]
  have h2 : l.drop 23 = ((l.drop 5).drop 2).drop 16 := by rw [List.drop_drop, List.drop_drop]
  rw [h1, h2, List.take_of_length_le (l := ((l.drop 5).drop 2).drop 16) (by simp [h]), List.append_assoc, List.take_append_drop, List.take_append_drop]

/-- The cells o .. o + n of a block that is known. -/
theorem rd_row {w : World} {B g o n c : Nat} {X : Array Value} (hg : g < B) (hX : ∀ j : Nat, w.cell? ⟨g, j, none⟩ = X[j]?) (hn : o + n ≤ X.size) : Rd w B 1 (some ⟨g, o, none⟩) n ((X.toList.drop o).take n) := by
  refine ⟨by simp; omega, fun _ => ⟨g, o, rfl, hg, fun j u hu => ?_⟩⟩
  rw [hX]
  rw [List.getElem?_take] at hu
  split at hu
  · rw [List.getElem?_drop] at hu; simpa using hu
  · cases hu

set_option maxHeartbeats 400000 in
theorem ConcatTab (X : Array Value) (g gH gP : Nat) (hs : List Value) (w : World) (hX : ∀ j : Nat, w.cell? ⟨g, j, none⟩ = X[j]?) (hH : ∀ j : Nat, w.cell? ⟨gH, j, none⟩ = hs[j]?)
    (hP : ∀ j : Nat, w.cell? ⟨gP, j, none⟩ = [Value.slice (some ⟨gH, 0, none⟩) 4 4, .slice (some ⟨g, 5, none⟩) 2 2, .slice (some ⟨g, 7, none⟩) 16 16, .slice (some ⟨g, 23, none⟩) 16 16][j]?)
    (h1 : g < w.heap.size) (h2 : gH < w.heap.size) (h3 : gP < w.heap.size) (hsz : X.size = 39) (hhs : hs.length = 4) (hone : ∀ u ∈ X.toList, u.oneCell' = true) (hone' : ∀ u ∈ hs, u.oneCell' = true) :
    Calls Try.prog 41 #[.slice (some ⟨gP, 0, none⟩) 4 4] w fun e W' => ∃ v, e = .returned v ∧ W'.ownsRow w.heap.size 34 1 v 38 (hs ++ X.toList.drop 5) ∧ Below w.heap.size w W' := by
  have hl : X.toList.length = 39 := by simpa using hsz
  have hmem : ∀ o n, ∀ u ∈ (X.toList.drop o).take n, u.oneCell' = true := fun o n u hu => hone u (List.mem_of_mem_drop (List.mem_of_mem_take hu))
  refine (ConcatW w.heap.size (some ⟨gP, 0, none⟩) 4 [⟨some ⟨gH, 0, none⟩, 4, 4, hs⟩, ⟨some ⟨g, 5, none⟩, 2, 2, (X.toList.drop 5).take 2⟩, ⟨some ⟨g, 7, none⟩, 16, 16, (X.toList.drop 7).take 16⟩, ⟨some ⟨g, 23, none⟩, 16, 16, (X.toList.drop 23).take 16⟩] w
    ⟨rfl, fun _ => ⟨gP, 0, rfl, h3, fun j u hu => ?_⟩⟩ ?_ ?_ (Nat.le_refl _) (by simp) (by simp [sumN])).mono ?_
  · rw [Nat.zero_add, hP]; exact hu
  · intro p hp
    simp only [List.mem_cons, List.not_mem_nil, or_false] at hp
    rcases hp with rfl | rfl | rfl | rfl
    · refine ⟨by simpa using hhs, fun _ => ⟨gH, 0, rfl, h2, fun j u hu => ?_⟩⟩
      rw [Nat.zero_add, hH]; exact hu
    · exact rd_row (c := 2) h1 hX (show 5 + 2 ≤ X.size by omega)
    · exact rd_row (c := 2) h1 hX (show 7 + 16 ≤ X.size by omega)
    · exact rd_row (c := 2) h1 hX (show 23 + 16 ≤ X.size by omega)
  · intro p hp
    simp only [List.mem_cons, List.not_mem_nil, or_false] at hp
    rcases hp with rfl | rfl | rfl | rfl
    · exact hone'
    · exact hmem _ _
    · exact hmem _ _
    · exact hmem _ _
  · rintro e W' ⟨v, rfl, ho, hb⟩
    refine ⟨v, rfl, ?_, hb⟩
    have e1 : sumN [⟨some ⟨gH, 0, none⟩, 4, 4, hs⟩, ⟨some ⟨g, 5, none⟩, 2, 2, (X.toList.drop 5).take 2⟩, ⟨some ⟨g, 7, none⟩, 16, 16, (X.toList.drop 7).take 16⟩, ⟨some ⟨g, 23, none⟩, 16, 16, (X.toList.drop 23).take 16⟩] = 38 := rfl
    rw [e1] at ho
    have e2 := drop_parts X.toList hl
    simp only [flatX, List.flatMap_cons, List.flatMap_nil, List.append_nil] at ho
    rw [← List.append_assoc ((X.toList.drop 5).take 2), e2] at ho
    exact ho

set_option maxHeartbeats 1000000 in
theorem TableWords_ok (X : Array Value) (n d p c l : Int) (W : World) (hX : TabCells X n d p c l) (hp : 0 ≤ p) (h : flatB d p c l = true) :
    Calls Try.prog 22 #[.agg X] W fun e W' => ∃ v, e = .returned (.tuple #[v, .int .i64 0]) ∧ W'.ownsRow W.heap.size 34 1 v 40 (tabWords X n d p c l) ∧ Below W.heap.size W W' := by
  obtain ⟨hd0, hd1, hp1, hc0, hc1, hl0, hl1⟩ := flatB_out h hp
  have HF := hide h
  have hsz := hide hX.size
  have HB := hide (bits_or_add8 d p hd0 (by omega) hp hp1)
  clear h
  go_enter Try.func22, Try.ntmps22
  go_wp2_with (refine wpList_load_row rfl 55 _ rfl W.heap.size rfl 55 X (0, 0) _ (heap_alloc_new _ _) Try.underlying55 (by kernel_rfl) (by rw [hsz.out]; kernel_rfl) ?_)
  refine (flat_any X d p c l _ true HF.out hp (by omega) hX.c1 hX.c2 hX.c3 hX.c4).mono ?_
  rintro e w1 ⟨rfl, hb1⟩
  obtain ⟨k0, k1, hz1⟩ := bfacts hb1
  have key : ∀ j : Nat, w1.cell? ⟨W.heap.size, j, none⟩ = X[j]? := fun j => by rw [k0 _ _ (by simp), World.cell?_alloc_new]
  have e0 := (key 0).trans hX.c0
  have e1 := (key 1).trans hX.c1
  have e2 := (key 2).trans hX.c2
  have e3 := (key 3).trans hX.c3
  have e4 := (key 4).trans hX.c4
  have HK := hide key
  clear k0 k1 key
  simp only [World.size_alloc] at hz1
  go_wp2_with fail
  have hz0 : W.heap.size < w1.heap.size + 1 := by omega
  have hx1 : ∀ j : Nat, (w1.alloc (.cells #[.int .u64 n, .int .u64 (bits BinOp.or IntKind.u64 d (p * 256)), .int .u64 c, .int .u64 l] 34)).cell? ⟨W.heap.size, j, none⟩ = X[j]? := fun j => by rw [World.cell?_alloc_lt _ _ _ (by simp; omega)]; exact HK.out j
  have hh1 : ∀ j : Nat, (w1.alloc (.cells #[.int .u64 n, .int .u64 (bits BinOp.or IntKind.u64 d (p * 256)), .int .u64 c, .int .u64 l] 34)).cell? ⟨w1.heap.size, j, none⟩ = [Value.int .u64 n, .int .u64 (bits BinOp.or IntKind.u64 d (p * 256)), .int .u64 c, .int .u64 l][j]? := fun j => by rw [World.cell?_alloc_new]; simp
  generalize hw2 : w1.alloc (.cells #[.int .u64 n, .int .u64 (bits BinOp.or IntKind.u64 d (p * 256)), .int .u64 c, .int .u64 l] 34) = w2 at *
  have hs2 : w2.heap.size = w1.heap.size + 1 := by rw [← hw2]; simp
  have HW2 := hide hw2
  have HS2 := hide hs2
  have HX1 := hide hx1
  have HH1 := hide hh1
  clear hw2 hs2 hx1 hh1
  have hlt1 : W.heap.size < w2.heap.size := by rw [HS2.out]; omega
  have hlt2 : w1.heap.size < w2.heap.size := by rw [HS2.out]; omega
  have hcall := ConcatTab X W.heap.size w1.heap.size w2.heap.size [.int .u64 n, .int .u64 (bits BinOp.or IntKind.u64 d (p * 256)), .int .u64 c, .int .u64 l]
    (w2.alloc (.cells #[.slice (some ⟨w1.heap.size, 0, none⟩) 4 4, .slice (some ⟨W.heap.size, 5, none⟩) 2 2, .slice (some ⟨W.heap.size, 7, none⟩) 16 16, .slice (some ⟨W.heap.size, 23, none⟩) 16 16] 24)).drew
    (fun j => (World.cell?_alloc_lt w2 _ _ hlt1).trans (HX1.out j)) (fun j => (World.cell?_alloc_lt w2 _ _ hlt2).trans (HH1.out j)) (fun j => (World.cell?_alloc_new w2 _ _ j).trans (by simp)) (by simp; omega) (by simp; omega) (by simp) hsz.out rfl hX.one (by intro u hu; simp at hu; rcases hu with rfl | rfl | rfl | rfl <;> rfl)
  have HC := hide hcall
  clear hcall
  go_region_with (first
    | (go_at_call 41
       refine HC.out.mono ?_
       rintro e w3 ⟨v3, rfl, ho3, hb3⟩
       obtain ⟨g3, cap3, rfl, hg3, hg4⟩ := ho3.form (by omega))
    | (go_at_call 40
       refine (padded_any _ 38 _ _ _ _ ho3 (by omega) hb3.size).mono ?_
       rintro e w4 ⟨v4, rfl, ho4, hb4⟩))
  all_goals go_wp2
  all_goals
    go_ret2
    have h5 := ho4
    rw [HB.out] at h5
    refine ⟨v4, rfl, ownsRow_base h5 (by simp; omega), ?_⟩
    · have hb2 : Below W.heap.size W w2 := by rw [← HW2.out]; exact (((Below.refl _ _).alloc (Nat.le_refl _) _).trans (hb1.mono (by simp))).alloc (by omega) _
      exact ((hb2.alloc (by omega) _).drew.trans (hb3.mono (by simp; omega))).trans (hb4.mono (by simp; omega))
end Go.Proofs.Ytndlfofpldbldaa
