/-
  Maps from entries to numbers that a call makes, in which each key that is there holds one.
-/
import Derived.Test.YtejhknboiacgeaaRow
import Derived.Test.YtejhknboiacgeaaMore
import Derived.Test.YtejhknboiacgeaaArp
import Derived.Maps.OwnIn
import Derived.Maps.RangeWalk
import Derived.DeepKeys4
import Derived.WideKeyEntry
set_option linter.unusedSimpArgs false
set_option linter.unusedVariables false
namespace Go.Proofs.Ytejhknboiacgeaa
open Go Go.RowKit

theorem law_E : WideMaps.KeyLaw Try.prog 31 := deep_law_laid laid_out (m := 5) (by omega) (of_decide_eq_true (by kernel_rfl)) (by kernel_rfl) (by kernel_rfl)
theorem keyE : Maps.Keyed Try.prog 31 := Maps.Keyed.of_law law_E
/-- An entry whose numbers fit. -/
def EnW (e : Int × Int) : Prop := (Lit.int .i64 e.1).wf = true ∧ (Lit.int .u64 e.2).wf = true
abbrev vEn (e : Int × Int) : Value := .agg #[.int .i64 e.1, .int .u64 e.2]
theorem key_some {e : Int × Int} (h : EnW e) : ∃ l, keyOf Try.prog 31 (vEn e) = some l := by
  have hC : Try.prog.cellsOf 31 = 2 := by kernel_rfl
  have hf : (vEn e).formed Try.prog 31 = true := by
    simp only [Value.formed, Try.underlying31, hC]; rfl
  have hC1 : Try.prog.cellsOf 3 = 1 := by kernel_rfl
  have hC2 : Try.prog.cellsOf 29 = 1 := by kernel_rfl
  obtain ⟨l, hl⟩ : ∃ l, Try.prog.keyLits (Try.prog.types.size + 1) 31 [.int .i64 e.1, .int .u64 e.2] = some l := by
    refine kl_struct Try.underlying31 _ _ (by rw [hC]; rfl) (by kernel_rfl) (fun f hf => ?_)
    have hn : Try.prog.types.size = (Try.prog.types.size - 1) + 1 := by kernel_rfl
    rw [hn]
    rcases List.mem_cons.1 hf with rfl | hf
    · rw [hC1]; exact kl_int Try.underlying3 _ e.1 h.1
    · rcases List.mem_cons.1 hf with rfl | hf
      · rw [hC2]; exact kl_int Try.underlying29 _ e.2 h.2
      · cases hf
  have hk : Try.prog.keyType 31 = true := by kernel_rfl
  refine ⟨.string (keyBytes l), ?_⟩
  unfold keyOf
  rw [Try.underlying31]
  simp only [hk, hf, Bool.and_self, if_true]
  show (Try.prog.keyLits (Try.prog.types.size + 1) 31 [.int .i64 e.1, .int .u64 e.2]).map _ = _
  rw [hl]; rfl
theorem kl_int_inv {P : Program} {q : IntKind} {e : TypeId} (he : P.underlying e = some (.int q)) {d : Nat} {v : Value} {l : List Lit} (h : P.keyLits (d + 1) e [v] = some l) : ∃ n : Int, v = .int q n ∧ (Lit.int q n).wf = true := by
  unfold Program.keyLits at h
  rw [he] at h
  cases v <;> simp only [reduceCtorEq] at h
  rename_i q' n
  by_cases hc : q' = q ∧ (Lit.int q n).wf = true
  · obtain ⟨rfl, hw⟩ := hc
    exact ⟨n, rfl, hw⟩
  · rw [if_neg hc] at h; cases h
theorem key_inv {v : Value} {l : Lit} (h : keyOf Try.prog 31 v = some l) : ∃ e : Int × Int, v = vEn e ∧ EnW e := by
  have hC : Try.prog.cellsOf 31 = 2 := by kernel_rfl
  have hC1 : Try.prog.cellsOf 3 = 1 := by kernel_rfl
  have hC2 : Try.prog.cellsOf 29 = 1 := by kernel_rfl
  unfold keyOf at h
  rw [Try.underlying31] at h
  dsimp only at h
  split at h
  · rename_i hc
    rw [Bool.and_eq_true] at hc
    have hf := hc.2
    cases v with
    | agg cs =>
      cases hl : Try.prog.keyLits (Try.prog.types.size + 1) 31 (Value.agg cs).cells.toList with
      | none => rw [hl] at h; cases h
      | some ls =>
        unfold Program.keyLits at hl
        rw [Try.underlying31] at hl
        dsimp only at hl
        split at hl
        · rename_i hc2
          rw [hC] at hc2
          have hlen : cs.toList.length = 2 := hc2.1
          have hn : Try.prog.types.size = (Try.prog.types.size - 1) + 1 := by kernel_rfl
          match hcs : cs.toList, hlen with
          | [a, b], _ =>
            obtain ⟨dd, hdd⟩ : ∃ d, Try.prog.types.size = d + 1 := ⟨_, hn⟩
            rw [hdd] at hl
            clear hn hdd
            simp only [Value.cells, hcs, List.mapM_cons, List.mapM_nil, hC1, hC2, List.drop_zero, List.take_succ_cons, List.take_zero, List.drop_succ_cons] at hl
            cases h1 : Try.prog.keyLits (dd + 1) 3 [a] with
            | none => simp [h1] at hl
            | some l1 =>
              cases h2 : Try.prog.keyLits (dd + 1) 29 [b] with
              | none => simp [h1, h2] at hl
              | some l2 =>
                obtain ⟨n1, rfl, w1⟩ := kl_int_inv Try.underlying3 h1
                obtain ⟨n2, rfl, w2⟩ := kl_int_inv Try.underlying29 h2
                refine ⟨(n1, n2), ?_, w1, w2⟩
                have : cs = #[.int .i64 n1, .int .u64 n2] := by
                  apply Array.ext'
                  exact hcs
                rw [this]
        · cases hl
    | _ => simp only [Value.formed, Try.underlying31] at hf; cases hf
  · cases h
/-- An entry's key. -/
noncomputable def ek (e : Int × Int) : Lit := (keyOf Try.prog 31 (vEn e)).getD (.bool false)
theorem ek_eq {e : Int × Int} (h : EnW e) : keyOf Try.prog 31 (vEn e) = some (ek e) := by
  obtain ⟨l, hl⟩ := key_some h
  unfold ek
  rw [hl]; rfl
theorem ek_inj {a b : Int × Int} (ha : EnW a) (hb : EnW b) (h : ek a = ek b) : a = b := by
  have := keyE.inj (ek_eq ha) (by rw [h]; exact ek_eq hb)
  injection this with this
  simp only [Array.mk.injEq, List.cons.injEq, Value.int.injEq, true_and, and_true] at this
  exact Prod.ext this.1 this.2
/-- Block g is a map of at most n keys: those of G are there, each with one; no others. -/
def EM (w : World) (g n : Nat) (G : Int × Int → Bool) : Prop := ∃ D : DataW Unit, w.ownsMap Try.prog 31 (plainElem Try.prog 3) g n D ∧ Maps.IsMap D ∧ ∀ e, EnW e → ∀ zd, D.atKey (ek e) zd = if G e then .lit (.int .i64 1) else zd
theorem EM.made (w : World) : EM (w.alloc (.map #[] 0)) w.heap.size 0 (fun _ => false) :=
  ⟨.map [], World.ownsMap_made w Try.prog 31 _, Maps.isMap_empty, fun _ _ _ => rfl⟩
theorem EM.lt {w : World} {g n : Nat} {G : Int × Int → Bool} (h : EM w g n G) : g < w.heap.size := by
  obtain ⟨D, h1, _⟩ := h
  exact h1.lt
theorem EM.heap {w w' : World} {g n : Nat} {G : Int × Int → Bool} (h : EM w g n G) (he : w'.heap[g]? = w.heap[g]?) : EM w' g n G := by
  obtain ⟨D, ⟨es, clock, hb, h1⟩, h2⟩ := h
  exact ⟨D, ⟨es, clock, he.trans hb, h1⟩, h2⟩
theorem EM.below {w w' : World} {g n : Nat} {G : Int × Int → Bool} (h : EM w g n G) (hb : Below w.heap.size w w') : EM w' g n G := h.heap (hb.block g h.lt)
theorem EM.look {w : World} {g n : Nat} {G : Int × Int → Bool} (h : EM w g n G) {e : Int × Int} (he : EnW e) : (Instr.lookup 48 (.map (some g)) (vEn e) false).run Try.prog w = .ok (.int .i64 (if G e then 1 else 0)) w := by
  obtain ⟨D, h1, h2, h3⟩ := h
  obtain ⟨c, hr, hc, _⟩ := h1.lookup_int keyE Try.underlying48 Try.underlying3 (by kernel_rfl) (ek_eq he)
  have := (h3 e he _).symm.trans hc
  rw [hr]
  by_cases hg : G e = true
  · rw [if_pos hg] at this ⊢
    injection this with this
    injection this with _ this
    rw [this]
  · rw [if_neg hg] at this ⊢
    injection this with this
    injection this with _ this
    rw [this]
def addG (G : Int × Int → Bool) (e : Int × Int) : Int × Int → Bool := fun x => decide (x = e) || G x
theorem EM.put {D : DataW Unit} {G : Int × Int → Bool} (h2 : Maps.IsMap D) (h3 : ∀ e, EnW e → ∀ zd, D.atKey (ek e) zd = if G e then .lit (.int .i64 1) else zd) {e : Int × Int} (he : EnW e) : ∀ x, EnW x → ∀ zd, (D.put (ek e) (.lit (.int .i64 1))).atKey (ek x) zd = if addG G e x then .lit (.int .i64 1) else zd := by
  intro x hx zd
  unfold addG
  by_cases hxe : x = e
  · subst hxe
    rw [Maps.atKey_put_same h2 (keyE.key (ek_eq hx)) _ _]
    simp
  · rw [Maps.atKey_put_other (by intro h; exact hxe (ek_inj hx he h)) _ _, h3 x hx zd]
    simp [hxe]
theorem EM.upd {w : World} {g n : Nat} {G : Int × Int → Bool} (h : EM w g n G) (hn : n < maxLen) {e : Int × Int} (he : EnW e) :
    ∃ w', (Instr.mapUpdate 48 (.map (some g)) (vEn e) (.int .i64 1)).run Try.prog w = .ok () w' ∧ EM w' g (n + 1) (addG G e) ∧ w.grownBy w' (some g) := by
  obtain ⟨D, h1, h2, h3⟩ := h
  obtain ⟨w', hr, ho, hg⟩ := h1.update keyE Try.underlying48 hn (ek_eq he) (plainElem_int Try.underlying3 (show (Lit.int .i64 1).wf = true by decide))
  exact ⟨w', hr, ⟨_, ho, h2.put _ _, EM.put h2 h3 he⟩, hg⟩
/-- 'm[k] = 1' in its two steps. -/
theorem EM.entry {w : World} {g n : Nat} {G : Int × Int → Bool} (h : EM w g n G) (hn : n < maxLen) {e : Int × Int} (he : EnW e) :
    ∃ (v0 : Value) (st : Nat) (w1 : World), (Instr.mapEntry 48 (.map (some g)) (vEn e)).run Try.prog w = .ok (.tuple #[v0, goInt st]) w1 ∧ w.grownBy w1 (some g) ∧ w1.heap.size = w.heap.size ∧
      ∃ w', (Instr.entryStore 48 (.map (some g)) (goInt st) (.int .i64 1)).run Try.prog w1 = .ok () w' ∧ EM w' g (n + 1) (addG G e) ∧ w.grownBy w' (some g) ∧ w'.heap.size = w.heap.size := by
  have h0 := h
  obtain ⟨D, ⟨es, clock, hb, F, hs, hD⟩, h2, h3⟩ := h0
  obtain ⟨v0, st, es1, clock1, r1, _, r2⟩ := WideElems.entry_then_store law_E Try.underlying48 (z := .int .i64 0) (fun u => by kernel_rfl) hb F (ek_eq he)
  obtain ⟨es', clock', r3, r4⟩ := r2 _ (.int .i64 1) (ChangeMaps.heap_setBlock_same hb _)
  obtain ⟨w', r5, r6, r7⟩ := h.upd hn he
  rw [r5] at r4
  injection r4 with _ r4
  have hb1 : (ChangeMaps.setBlock w g (.map es1 clock1)).heap[g]? = some (.map es1 clock1) := ChangeMaps.heap_setBlock_same hb _
  have g1 : w.grownBy (ChangeMaps.setBlock w g (.map es1 clock1)) (some g) := ⟨rfl, rfl, rfl, by simp [ChangeMaps.setBlock], fun i _ hi => ChangeMaps.heap_setBlock_other hb _ (fun e => hi (by rw [e]))⟩
  refine ⟨v0, st, _, r1, g1, by simp [ChangeMaps.setBlock], _, r3, r6.heap ?_, ⟨rfl, rfl, rfl, by simp [ChangeMaps.setBlock], fun i h1 hi => ?_⟩, by simp [ChangeMaps.setBlock]⟩
  · rw [ChangeMaps.heap_setBlock_same hb1 _, r4, ChangeMaps.heap_setBlock_same hb _]
  · rw [ChangeMaps.heap_setBlock_other hb1 _ (fun e => hi (by rw [e])), ChangeMaps.heap_setBlock_other hb _ (fun e => hi (by rw [e]))]
end Go.Proofs.Ytejhknboiacgeaa
