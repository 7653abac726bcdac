/-
  Rows of a monitor's own.
-/
import Derived.Test.YtfpbabafeecncaaMod
import Derived.Test.YtfpbabafeecncaaCopy
set_option linter.unusedSimpArgs false
set_option linter.unusedVariables false
namespace Go.Proofs.Ytfpbabafeecncaa
open Go Go.RowKit
attribute [local go_sem] via_cell via_frozen

theorem run_copy_none {P : Program} (w : World) (dT sT ty elem : TypeId) (D S : Option Addr) (dc sc : Nat) (sz : Nat) (hu : P.underlying dT = some (.slice elem)) (hsz : (P.info? elem).map (·.size) = some sz) :
    (Builtin.copy_ #[dT, sT] ty #[.slice D 0 dc, .slice S 0 sc]).run P w = .ok (goInt 0) w := by
  obtain ⟨i, hi, his⟩ := Option.map_eq_some_iff.1 hsz
  cases D <;> cases S <;> simp [Builtin.copy_, run_underlying hu, sizeOf, typeInfo, hi, Builtin.lenOf, Builtin.firstCells, loadCells, loadCellsFrom, storeCells]
theorem wpList_copyAny {P : Program} {w : World} {ops : Array Oper} {rest : List Oper} {o : Oper} {a : Act} {Q : Exit → Act → World → Prop} (hgd : o.guard = none) (d s : Operand) (dT sT : TypeId)
    (ho : o.op = .call { callee := .builtin .copy, args := #[d, s], argTypes := #[dT, sT] }) (elem : TypeId) (sz : Nat) (hu : P.underlying dT = some (.slice elem)) (hsz : (P.info? elem).map (·.size) = some sz)
    (g n dCap sCap B : Nat) (A : Option Addr) (hd : a.eval d = .slice (some ⟨g, 0, none⟩) n dCap) (hs : a.eval s = .slice A n sCap)
    (cur : Array Value) (t : TypeId) (hg : RowAt w g t cur) (cs : List Value) (hr : Rd w B sz A n cs) (hfit : cs.length = cur.size) (h1 : ∀ v ∈ cs, v.oneCell' = true)
    (h : ∀ w', RowAt w' g t cs.toArray → Past g w w' → wpList P ops Q rest (a.put o.dst (goInt n)) w') : wpList P ops Q (o :: rest) a w := by
  rcases Nat.eq_zero_or_pos n with h0 | h0
  · subst h0
    have hcs : cs = [] := hr.nil
    subst hcs
    have hcur : cur = #[] := Array.eq_empty_of_size_eq_zero (by simpa using hfit.symm)
    subst hcur
    exact wpList_copy_runI w hgd d s dT sT ho _ _ hd hs (run_copy_none w dT sT o.type elem _ _ _ _ sz hu hsz) (h w hg (Past.refl _ _))
  · exact wpList_copyRow hgd d s dT sT ho elem sz hu hsz g n dCap sCap B A hd hs h0 cur t hg cs hr hfit h1 h
/-- A whole row that was made. -/
def MadeR (W : World) (E : TypeId) (sz n : Nat) (cs : List Value) (e : Ending) (W' : World) : Prop := e = .returned (.slice (some ⟨W.heap.size, 0, none⟩) n n) ∧ W'.ownsRow W.heap.size E sz (.slice (some ⟨W.heap.size, 0, none⟩) n n) n cs ∧ Below W.heap.size W W'
set_option maxRecDepth 20000 in
set_option maxHeartbeats 1000000 in
theorem ownS_any (B : Nat) (A : Option Addr) (c n : Nat) (cs : List Value) (W : World) (h : Rd W B 2 A n cs) (hB : B ≤ W.heap.size) (h1 : ∀ u ∈ cs, u.oneCell' = true) (hn : n ≤ 4096) :
    Calls Try.prog 65 #[.slice A n c] W (MadeR W 47 2 n cs) := by
  obtain ⟨i0, hi0, hz0, hz1, hz2⟩ := info_parts elS.info
  have hmk := fun w => run_make_rowN (P := Try.prog) 25 47 i0 _ Try.underlying25 hi0 hz0 .i64 .i64 n n (Nat.le_refl _) (by rw [hz2]; omega) (by omega) w
  rw [hz1] at hmk
  replace hmk : ∀ w, (Instr.makeSlice 25 (.int .i64 (n : Int)) (.int .i64 (n : Int))).run Try.prog w = .ok (.slice (some ⟨w.heap.size, 0, none⟩) n n) (w.alloc (.cells (madeCells #[.int .i64 0, .int .u64 0] (n * 2)) 47)) := hmk
  obtain ⟨M, hM⟩ : ∃ M, madeCells #[.int .i64 0, .int .u64 0] (n * 2) = M := ⟨_, rfl⟩
  have hMs : M.size = n * 2 := by rw [← hM]; simp [madeCells]
  rw [hM] at hmk
  have HL := hide h.1
  have H1 := hide h1
  have HN := hide hn
  clear hi0 hz0 hz1 hz2 hM h1
  go_enter Try.func65, Try.ntmps65
  have hb1 : Below W.heap.size W (W.alloc (.cells M 47)) := (Below.refl _ _).alloc (Nat.le_refl _) _
  have HR := hide (RowAt.new W 47 M)
  have HRD := hide (h.below (hb1.mono hB))
  have HB := hide hb1
  clear hb1 h
  go_upto_region 2 with (fail)
  generalize W.alloc (.cells M 47) = w1 at *
  go_wp2_with (refine wpList_copyAny rfl _ _ 25 25 rfl 47 2 Try.underlying25 (by kernel_rfl) W.heap.size n n c B A rfl rfl M 47 HR.out cs HRD.out (by rw [HL.out, hMs]) H1.out ?_; intro w2 hrow hp)
  have HF := hide (show MadeR W 47 2 n cs (.returned (.slice (some ⟨W.heap.size, 0, none⟩) n n)) w2 from ⟨rfl, ⟨HL.out, .inr ⟨W.heap.size, n, cs.toArray, rfl, Nat.le_refl _, hrow, Nat.le_refl _, by have := HN.out; unfold maxLen; omega, by simp [HL.out], by rw [List.toList_toArray, ← HL.out, List.take_length]⟩⟩, HB.out.trans (hp.below.mono (Nat.le_refl _))⟩)
  clear hrow hp
  go_wp2_with fail
  go_ret
  exact HF.out
set_option maxRecDepth 20000 in
set_option maxHeartbeats 1000000 in
theorem ownB_any (B : Nat) (A : Option Addr) (c n : Nat) (cs : List Value) (W : World) (h : Rd W B 1 A n cs) (hB : B ≤ W.heap.size) (h1 : ∀ u ∈ cs, u.oneCell' = true) (hn : n ≤ 4096) :
    Calls Try.prog 66 #[.slice A n c] W (MadeR W 4 1 n cs) := by
  obtain ⟨i0, hi0, hz0, hz1, hz2⟩ := info_parts elB.info
  have hmk := fun w => run_make_rowN (P := Try.prog) 28 4 i0 _ Try.underlying28 hi0 hz0 .i64 .i64 n n (Nat.le_refl _) (by rw [hz2]; omega) (by omega) w
  rw [hz1] at hmk
  replace hmk : ∀ w, (Instr.makeSlice 28 (.int .i64 (n : Int)) (.int .i64 (n : Int))).run Try.prog w = .ok (.slice (some ⟨w.heap.size, 0, none⟩) n n) (w.alloc (.cells (madeCells #[.bool false] (n * 1)) 4)) := hmk
  obtain ⟨M, hM⟩ : ∃ M, madeCells #[.bool false] (n * 1) = M := ⟨_, rfl⟩
  have hMs : M.size = n * 1 := by rw [← hM]; simp [madeCells]
  rw [hM] at hmk
  have HL := hide h.1
  have H1 := hide h1
  have HN := hide hn
  clear hi0 hz0 hz1 hz2 hM h1
  go_enter Try.func66, Try.ntmps66
  have hb1 : Below W.heap.size W (W.alloc (.cells M 4)) := (Below.refl _ _).alloc (Nat.le_refl _) _
  have HR := hide (RowAt.new W 4 M)
  have HRD := hide (h.below (hb1.mono hB))
  have HB := hide hb1
  clear hb1 h
  go_upto_region 2 with (fail)
  generalize W.alloc (.cells M 4) = w1 at *
  go_wp2_with (refine wpList_copyAny rfl _ _ 28 28 rfl 4 1 Try.underlying28 (by kernel_rfl) W.heap.size n n c B A rfl rfl M 4 HR.out cs HRD.out (by rw [HL.out, hMs]) H1.out ?_; intro w2 hrow hp)
  have HF := hide (show MadeR W 4 1 n cs (.returned (.slice (some ⟨W.heap.size, 0, none⟩) n n)) w2 from ⟨rfl, ⟨HL.out, .inr ⟨W.heap.size, n, cs.toArray, rfl, Nat.le_refl _, hrow, Nat.le_refl _, by have := HN.out; unfold maxLen; omega, by simp [HL.out], by rw [List.toList_toArray, ← HL.out, List.take_length]⟩⟩, HB.out.trans (hp.below.mono (Nat.le_refl _))⟩)
  clear hrow hp
  go_wp2_with fail
  go_ret
  exact HF.out
set_option maxRecDepth 20000 in
set_option maxHeartbeats 1000000 in
theorem ownX_any (B : Nat) (A : Option Addr) (c n : Nat) (cs : List Value) (W : World) (h : Rd W B 4 A n cs) (hB : B ≤ W.heap.size) (h1 : ∀ u ∈ cs, u.oneCell' = true) (hn : n ≤ 4096) :
    Calls Try.prog 67 #[.slice A n c] W (MadeR W 45 4 n cs) := by
  obtain ⟨i0, hi0, hz0, hz1, hz2⟩ := info_parts elX.info
  have hmk := fun w => run_make_rowN (P := Try.prog) 30 45 i0 _ Try.underlying30 hi0 hz0 .i64 .i64 n n (Nat.le_refl _) (by rw [hz2]; omega) (by omega) w
  rw [hz1] at hmk
  replace hmk : ∀ w, (Instr.makeSlice 30 (.int .i64 (n : Int)) (.int .i64 (n : Int))).run Try.prog w = .ok (.slice (some ⟨w.heap.size, 0, none⟩) n n) (w.alloc (.cells (madeCells #[.int .i64 0, .int .i64 0, .int .i64 0, .int .u64 0] (n * 4)) 45)) := hmk
  obtain ⟨M, hM⟩ : ∃ M, madeCells #[.int .i64 0, .int .i64 0, .int .i64 0, .int .u64 0] (n * 4) = M := ⟨_, rfl⟩
  have hMs : M.size = n * 4 := by rw [← hM]; simp [madeCells]
  rw [hM] at hmk
  have HL := hide h.1
  have H1 := hide h1
  have HN := hide hn
  clear hi0 hz0 hz1 hz2 hM h1
  go_enter Try.func67, Try.ntmps67
  have hb1 : Below W.heap.size W (W.alloc (.cells M 45)) := (Below.refl _ _).alloc (Nat.le_refl _) _
  have HR := hide (RowAt.new W 45 M)
  have HRD := hide (h.below (hb1.mono hB))
  have HB := hide hb1
  clear hb1 h
  go_upto_region 2 with (fail)
  generalize W.alloc (.cells M 45) = w1 at *
  go_wp2_with (refine wpList_copyAny rfl _ _ 30 30 rfl 45 4 Try.underlying30 (by kernel_rfl) W.heap.size n n c B A rfl rfl M 45 HR.out cs HRD.out (by rw [HL.out, hMs]) H1.out ?_; intro w2 hrow hp)
  have HF := hide (show MadeR W 45 4 n cs (.returned (.slice (some ⟨W.heap.size, 0, none⟩) n n)) w2 from ⟨rfl, ⟨HL.out, .inr ⟨W.heap.size, n, cs.toArray, rfl, Nat.le_refl _, hrow, Nat.le_refl _, by have := HN.out; unfold maxLen; omega, by simp [HL.out], by rw [List.toList_toArray, ← HL.out, List.take_length]⟩⟩, HB.out.trans (hp.below.mono (Nat.le_refl _))⟩)
  clear hrow hp
  go_wp2_with fail
  go_ret
  exact HF.out
set_option maxRecDepth 20000 in
set_option maxHeartbeats 1000000 in
theorem ownE_any (B : Nat) (A : Option Addr) (c n : Nat) (cs : List Value) (W : World) (h : Rd W B 2 A n cs) (hB : B ≤ W.heap.size) (h1 : ∀ u ∈ cs, u.oneCell' = true) (hn : n ≤ 4096) :
    Calls Try.prog 68 #[.slice A n c] W (MadeR W 43 2 n cs) := by
  obtain ⟨i0, hi0, hz0, hz1, hz2⟩ := info_parts elE.info
  have hmk := fun w => run_make_rowN (P := Try.prog) 54 43 i0 _ Try.underlying54 hi0 hz0 .i64 .i64 n n (Nat.le_refl _) (by rw [hz2]; omega) (by omega) w
  rw [hz1] at hmk
  replace hmk : ∀ w, (Instr.makeSlice 54 (.int .i64 (n : Int)) (.int .i64 (n : Int))).run Try.prog w = .ok (.slice (some ⟨w.heap.size, 0, none⟩) n n) (w.alloc (.cells (madeCells #[.int .i64 0, .int .u64 0] (n * 2)) 43)) := hmk
  obtain ⟨M, hM⟩ : ∃ M, madeCells #[.int .i64 0, .int .u64 0] (n * 2) = M := ⟨_, rfl⟩
  have hMs : M.size = n * 2 := by rw [← hM]; simp [madeCells]
  rw [hM] at hmk
  have HL := hide h.1
  have H1 := hide h1
  have HN := hide hn
  clear hi0 hz0 hz1 hz2 hM h1
  go_enter Try.func68, Try.ntmps68
  have hb1 : Below W.heap.size W (W.alloc (.cells M 43)) := (Below.refl _ _).alloc (Nat.le_refl _) _
  have HR := hide (RowAt.new W 43 M)
  have HRD := hide (h.below (hb1.mono hB))
  have HB := hide hb1
  clear hb1 h
  go_upto_region 2 with (fail)
  generalize W.alloc (.cells M 43) = w1 at *
  go_wp2_with (refine wpList_copyAny rfl _ _ 54 54 rfl 43 2 Try.underlying54 (by kernel_rfl) W.heap.size n n c B A rfl rfl M 43 HR.out cs HRD.out (by rw [HL.out, hMs]) H1.out ?_; intro w2 hrow hp)
  have HF := hide (show MadeR W 43 2 n cs (.returned (.slice (some ⟨W.heap.size, 0, none⟩) n n)) w2 from ⟨rfl, ⟨HL.out, .inr ⟨W.heap.size, n, cs.toArray, rfl, Nat.le_refl _, hrow, Nat.le_refl _, by have := HN.out; unfold maxLen; omega, by simp [HL.out], by rw [List.toList_toArray, ← HL.out, List.take_length]⟩⟩, HB.out.trans (hp.below.mono (Nat.le_refl _))⟩)
  clear hrow hp
  go_wp2_with fail
  go_ret
  exact HF.out
end Go.Proofs.Ytfpbabafeecncaa
