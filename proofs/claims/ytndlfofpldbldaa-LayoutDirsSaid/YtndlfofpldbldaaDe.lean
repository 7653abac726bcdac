/-
  The plain laws on the words of tables and directories: what is written is read back, and what is read has no other words.
-/
import Derived.Test.YtndlfofpldbldaaDd
set_option linter.unusedSimpArgs false
set_option linter.unusedVariables false
namespace Go.Proofs.Ytndlfofpldbldaa
open Go Go.RowKit

theorem tab_back {X : Array Value} {n d p c l : Int} {ys : List Int} (h : Tab X n d p c l ys) (hr : rtabB d p c l = true) :
    okT (tabInts n d p c l ys) = true ∧ (readX (tabInts n d p c l ys)).toArray = X ∧ (∀ x ∈ tabInts n d p c l ys, U64 x) ∧ (tabInts n d p c l ys).length = 40 := by
  obtain ⟨a1, a2, a3, a4, a5, a6, a7⟩ := rtabB_out hr
  have hl : (tabInts n d p c l ys).length = 40 := by have := h.len; simp [tabInts]; omega
  have p0 := h.up.1
  have g0 : (tabInts n d p c l ys).getD 0 0 = n := rfl
  have g1 : (tabInts n d p c l ys).getD 1 0 = d + 256 * p := rfl
  have g2 : (tabInts n d p c l ys).getD 2 0 = c := rfl
  have g3 : (tabInts n d p c l ys).getD 3 0 = l := rfl
  have e1 : (d + 256 * p) % 256 = d := by omega
  have e2 : (d + 256 * p) / 256 = p := by omega
  have e3 : c % 256 = c := by omega
  have e4 : l % 256 = l := by omega
  have ed : ((tabInts n d p c l ys).drop 4).take 34 = ys := by
    show (ys ++ [0, 0]).take 34 = ys
    rw [List.take_append_of_le_length (by have := h.len; omega), List.take_of_length_le (by have := h.len; omega)]
  have hu : ∀ x ∈ tabInts n d p c l ys, U64 x := by
    intro x hx
    simp only [tabInts, List.mem_append, List.mem_cons, List.not_mem_nil, or_false] at hx
    rcases hx with ((rfl | rfl | rfl | rfl) | hx) | (rfl | rfl)
    · exact h.un
    · exact ⟨by omega, by omega⟩
    · exact ⟨by omega, by omega⟩
    · exact ⟨by omega, by omega⟩
    · exact h.uy x hx
    · exact ⟨by decide, by decide⟩
    · exact ⟨by decide, by decide⟩
  refine ⟨?_, ?_, hu, hl⟩
  · rw [okT, g1, g2, g3, e1, e2, e3, e4, hr, Bool.true_and, decide_eq_true_iff]
    unfold readW
    rw [g0, g1, g2, g3, e1, e2, e3, e4, ed]
    rfl
  · apply Array.ext'
    rw [h.list]
    unfold readX
    rw [g0, g1, g2, g3, e1, e2, e3, e4, ed]

theorem read_words (zs : List Int) (hl : zs.length = 40) (h : okT zs = true) : rtabB (zs.getD 1 0 % 256) (zs.getD 1 0 / 256) (zs.getD 2 0 % 256) (zs.getD 3 0 % 256) = true ∧
    tabWords (readX zs).toArray (zs.getD 0 0) (zs.getD 1 0 % 256) (zs.getD 1 0 / 256) (zs.getD 2 0 % 256) (zs.getD 3 0 % 256) = Cs encW zs := by
  rw [okT, Bool.and_eq_true, decide_eq_true_iff] at h
  exact ⟨h.1, by rw [readX_words zs hl, ← h.2]⟩

def dirInts (dep : Int) (es : List (Int × Int)) : List Int := [dep] ++ es.map packW ++ List.replicate (40 - (1 + es.length)) 0
theorem dirWords_ints (dep : Int) (es : List (Int × Int)) : dirWords dep es = Cs encW (dirInts dep es) := by
  rw [Cs_mapW]; simp [dirWords, dirInts, Cs_mapW]

theorem pack_unp (e : Int × Int) (h : okEnt e.1 e.2 = true) (hg : 0 ≤ e.2) : unp (packW e) = e ∧ okW (packW e) = true ∧ U64 (packW e) := by
  obtain ⟨a, b⟩ := e
  obtain ⟨h1, h2, h3⟩ := okEnt_out h
  simp only at h1 h2 h3 hg
  have e1 : packW (a, b) = a + 1 + 65536 * b := rfl
  have e2 : (a + 1 + 65536 * b) % 65536 - 1 = a := by omega
  have e3 : (a + 1 + 65536 * b) / 65536 = b := by omega
  refine ⟨?_, ?_, ?_, ?_⟩
  · rw [e1]; unfold unp; rw [e2, e3]
  · rw [e1]; unfold okW; rw [e2, e3]; exact h
  · rw [e1]; omega
  · rw [e1]; omega
theorem unp_pack (w : Int) (h : okW w = true) (hu : U64 w) : packW (unp w) = w ∧ okEnt (unp w).1 (unp w).2 = true ∧ U64 (unp w).2 := by
  have e1 : packW (unp w) = w % 65536 - 1 + 1 + 65536 * (w / 65536) := rfl
  have := hu.1
  have := hu.2
  exact ⟨by rw [e1]; omega, h, by show 0 ≤ w / 65536; omega, by show w / 65536 < _; omega⟩

theorem dir_back (dep : Int) (es : List (Int × Int)) (hs : dirShape dep es.length = true) (ho : entsOk es = true) (hu : ∀ e ∈ es, U64 e.2) :
    okD (dirInts dep es) = true ∧ (depQ (dirInts dep es) : Int) = dep ∧ (entsOf (dirInts dep es)).map unp = es ∧ (∀ x ∈ dirInts dep es, U64 x) ∧ (dirInts dep es).length = 40 ∧ es.length = 2 ^ depQ (dirInts dep es) := by
  simp only [dirShape, decide_eq_true_eq] at hs
  obtain ⟨⟨d0, d1⟩, hn⟩ := hs
  obtain ⟨p1, p2⟩ := pow_small dep d0 d1
  have g0 : (dirInts dep es).getD 0 0 = dep := rfl
  have hq : depQ (dirInts dep es) = dep.toNat := by unfold depQ; rw [g0]
  have hm : es.length = 2 ^ dep.toNat := by
    have : ((2 ^ dep.toNat : Nat) : Int) = (2 : Int) ^ dep.toNat := by simp
    omega
  have hl : (dirInts dep es).length = 40 := by simp [dirInts]; omega
  have hok : ∀ e ∈ es, okEnt e.1 e.2 = true := fun e he => List.all_eq_true.1 ho e he
  have he : entsOf (dirInts dep es) = es.map packW := by
    unfold entsOf
    rw [hq, ← hm]
    show ((es.map packW ++ List.replicate (40 - (1 + es.length)) 0).take es.length) = _
    rw [List.take_append_of_le_length (by simp), List.take_of_length_le (by simp)]
  have ht : (dirInts dep es).drop (1 + 2 ^ depQ (dirInts dep es)) = List.replicate (40 - (1 + es.length)) 0 := by
    rw [hq, ← hm, Nat.add_comm]
    show (es.map packW ++ List.replicate (40 - (1 + es.length)) 0).drop es.length = _
    rw [List.drop_append_of_le_length (by simp), List.drop_of_length_le (by simp)]; simp; omega
  refine ⟨?_, by rw [hq]; omega, ?_, ?_, hl, by rw [hq]; exact hm⟩
  · unfold okD
    rw [decide_eq_true (show (dirInts dep es).length = 40 ∧ (dirInts dep es).getD 0 0 ≤ 5 from ⟨hl, by rw [g0]; exact d1⟩), he, ht]
    have h1 : (es.map packW).all okW = true := by
      rw [List.all_eq_true]
      intro x hx
      obtain ⟨e, hm, rfl⟩ := List.mem_map.1 hx
      exact (pack_unp e (hok e hm) (hu e hm).1).2.1
    rw [h1]; simp
  · rw [he, List.map_map]
    conv => rhs; rw [← List.map_id es]
    exact List.map_congr_left (fun e hm => (pack_unp e (hok e hm) (hu e hm).1).1)
  · intro x hx
    simp only [dirInts, List.mem_append, List.mem_cons, List.not_mem_nil, or_false, List.mem_map, List.mem_replicate] at hx
    rcases hx with (rfl | ⟨e, hm, rfl⟩) | ⟨_, rfl⟩
    · exact ⟨d0, by omega⟩
    · exact (pack_unp e (hok e hm) (hu e hm).1).2.2
    · exact ⟨by decide, by decide⟩

theorem read_dir (zs : List Int) (h : okD zs = true) (hu : ∀ x ∈ zs, U64 x) :
    zs.length = 40 ∧ depQ zs ≤ 5 ∧ entsOk ((entsOf zs).map unp) = true ∧ ((entsOf zs).map unp).length = 2 ^ depQ zs ∧ dirInts (depQ zs) ((entsOf zs).map unp) = zs ∧ (∀ e ∈ (entsOf zs).map unp, U64 e.2) := by
  unfold okD at h
  rw [Bool.and_eq_true, Bool.and_eq_true, decide_eq_true_iff, Bool.not_eq_true'] at h
  obtain ⟨⟨⟨hl, h5⟩, ha⟩, hz⟩ := h
  have u0 := hu _ (List.getElem_mem (show 0 < zs.length by omega))
  rw [← getD_at zs 0 (by omega)] at u0
  have hq : ((depQ zs : Nat) : Int) = zs.getD 0 0 := by have := u0.1; unfold depQ; omega
  have hq5 : depQ zs ≤ 5 := by omega
  have hp : 2 ^ depQ zs ≤ 32 := by
    have : 2 ^ depQ zs ≤ 2 ^ 5 := Nat.pow_le_pow_right (by omega) hq5
    omega
  have hel : (entsOf zs).length = 2 ^ depQ zs := by unfold entsOf; simp; omega
  have hmem : ∀ w ∈ entsOf zs, w ∈ zs := fun w hw => List.mem_of_mem_drop (List.mem_of_mem_take hw)
  have hok : ∀ w ∈ entsOf zs, okW w = true := fun w hw => List.all_eq_true.1 ha w hw
  refine ⟨hl, hq5, ?_, by rw [List.length_map, hel], ?_, ?_⟩
  · unfold entsOk
    rw [List.all_eq_true]
    intro e he
    obtain ⟨w, hw, rfl⟩ := List.mem_map.1 he
    exact (unp_pack w (hok w hw) (hu w (hmem w hw))).2.1
  · unfold dirInts
    rw [List.map_map, hq, List.length_map, hel]
    have e1 : (entsOf zs).map (packW ∘ unp) = entsOf zs := by
      conv => rhs; rw [← List.map_id (entsOf zs)]
      exact List.map_congr_left (fun w hw => (unp_pack w (hok w hw) (hu w (hmem w hw))).1)
    have e2 : List.replicate (40 - (1 + 2 ^ depQ zs)) 0 = zs.drop (1 + 2 ^ depQ zs) := by
      symm
      rw [List.eq_replicate_iff]
      refine ⟨by simp; omega, fun b hb => ?_⟩
      rw [List.any_eq_false] at hz
      have := hz b hb
      simpa using this
    rw [e1, e2]
    have e3 : zs = zs.take 1 ++ (entsOf zs ++ zs.drop (1 + 2 ^ depQ zs)) := by
      conv => lhs; rw [← List.take_append_drop 1 zs, ← List.take_append_drop (2 ^ depQ zs) (zs.drop 1), List.drop_drop]
      rfl
    have e4 : zs.take 1 = [zs.getD 0 0] := by
      rw [getD_at zs 0 (by omega), List.take_succ_eq_append_getElem (by omega)]; simp
    rw [List.append_assoc, ← e4]
    exact e3.symm
  · intro e he
    obtain ⟨w, hw, rfl⟩ := List.mem_map.1 he
    exact (unp_pack w (hok w hw) (hu w (hmem w hw))).2.2
end Go.Proofs.Ytndlfofpldbldaa
