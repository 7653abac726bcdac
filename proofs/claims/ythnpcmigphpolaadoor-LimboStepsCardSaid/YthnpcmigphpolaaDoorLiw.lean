/-
  Limbos that change: in memory of their own.
-/
import Derived.Test.YthnpcmigphpolaaDoorLiv
set_option linter.unusedSimpArgs false
set_option linter.unusedVariables false
namespace Go.Proofs.YthnpcmigphpolaaDoor
open Go Go.RowKit
attribute [local go_sem] via_cell via_frozen

/-- What a change comes to, over a limbo in its box: it has gone through, or it has left by an error. -/
def DoesRes (kl gx base : Nat) (G : Lim → Prop) (F : Int → World → Prop) (X : Lim → World → Prop) (w : World) (e : Ending) (w' : World) : Prop :=
  PastK kl gx w w' ∧ ((e = .returned (.tuple #[]) ∧ ∃ l' A' n' c', ChAt w' gx base l' A' n' c' ∧ G l' ∧ X l' w') ∨ (∃ k, e = .panicked (errX k) ∧ F k w'))
/-- What it comes to outside. -/
def TrRes (kl base : Nat) (G : Lim → Prop) (F : Int → World → Prop) (X : Lim → World → Prop) (W : World) (e : Ending) (W' : World) : Prop :=
  PastK kl base W W' ∧ ((∃ (l' : Lim) (A' : Nat → Option Addr) (n' c' : Nat → Nat), e = .returned (.tuple #[.agg (limC l'.E A' n' c'), .int .i64 0]) ∧ LimOwn W' base A' n' c' l'.r ∧ G l' ∧ X l' W') ∨
    (∃ k, e = .returned (.tuple #[.agg zeroC, .int .i64 k]) ∧ F k W'))
/-- Rows ahead of i have been copied. -/
structure CpAt (w0 wr : World) (gx i : Nat) (l : Lim) (A : Nat → Option Addr) (n c : Nat → Nat) (A' : Nat → Option Addr) (c' : Nat → Nat) : Prop where
  row : RowAt wr gx 72 (limC l.E A' n c')
  own : ∀ k, k < i → k < 3 → OwnO wr (gx + 1) 34 2 (.slice (A' k) (n k) (c' k)) (n k) (Cs encE (l.r k))
  apart : ∀ j k, j < i → k < i → j < 3 → k < 3 → j ≠ k → ∀ p q, A' j = some p → A' k = some q → p.block ≠ q.block
  below : Below gx w0 wr
theorem limC_upd (E : Nat) (A : Nat → Option Addr) (n c : Nat → Nat) {k : Nat} (hk : k < 3) (A1 : Option Addr) (c1 : Nat) :
    (limC E A n c).setIfInBounds (1 + k) (.slice A1 (n k) c1) = limC E (fun j => if j = k then A1 else A j) n (fun j => if j = k then c1 else c j) := by
  match k, hk with
  | 0, _ => rfl
  | 1, _ => rfl
  | 2, _ => rfl
theorem CpAt.next {w0 wr w8 : World} {gx i : Nat} {l : Lim} {A : Nat → Option Addr} {n c : Nat → Nat} {A' : Nat → Option Addr} {c' : Nat → Nat} (h : CpAt w0 wr gx i l A n c A' c') (hi : i < 3) (g : Nat) (hg : wr.heap.size ≤ g)
    (hk : ∀ j, j ≠ gx → j < wr.heap.size → w8.heap[j]? = wr.heap[j]?) (hb : Below gx wr w8) (hrow : RowAt w8 gx 72 ((limC l.E A' n c').setIfInBounds (1 + i) (.slice (some ⟨g, 0, none⟩) (n i) (n i))))
    (hown : OwnO w8 (gx + 1) 34 2 (.slice (some ⟨g, 0, none⟩) (n i) (n i)) (n i) (Cs encE (l.r i))) :
    CpAt w0 w8 gx (i + 1) l A n c (fun j => if j = i then some ⟨g, 0, none⟩ else A' j) (fun j => if j = i then n i else c' j) := by
  refine ⟨by rw [← limC_upd _ _ _ _ hi]; exact hrow, fun k h1 h3 => ?_, fun j k h1 h2 h3 h4 hne p q hp hq => ?_, h.below.trans hb⟩
  · by_cases hki : k = i
    · subst hki; simpa using hown
    · simp only [if_neg hki]
      exact (h.own k (by omega) h3).other (fun g' h5 h6 _ => hk g' (by omega) h6)
  · by_cases hji : j = i
    · have hki : k ≠ i := by omega
      simp only [if_pos hji] at hp
      simp only [if_neg hki] at hq
      injection hp with hp
      have := ((h.own k (by omega) h4).fresh hq).2
      rw [← hp]
      show g ≠ q.block
      omega
    · by_cases hki : k = i
      · simp only [if_neg hji] at hp
        simp only [if_pos hki] at hq
        injection hq with hq
        have := ((h.own j (by omega) h3).fresh hp).2
        rw [← hq]
        show p.block ≠ g
        omega
      · simp only [if_neg hji] at hp
        simp only [if_neg hki] at hq
        exact h.apart j k (by omega) (by omega) h3 h4 hne p q hp hq
theorem index_rows0 (v0 v1 v2 : Value) (w : World) : (Instr.index 24 (.agg #[v0, v1, v2]) (.int .i64 0)).run Tryd.prog w = .ok v0 w := by kernel_rfl
theorem index_rows1 (v0 v1 v2 : Value) (w : World) : (Instr.index 24 (.agg #[v0, v1, v2]) (.int .i64 1)).run Tryd.prog w = .ok v1 w := by kernel_rfl
theorem index_rows2 (v0 v1 v2 : Value) (w : World) : (Instr.index 24 (.agg #[v0, v1, v2]) (.int .i64 2)).run Tryd.prog w = .ok v2 w := by kernel_rfl
theorem index_rows (A : Nat → Option Addr) (n c : Nat → Nat) (k : Nat) (hk : k < 3) (w : World) : (Instr.index 24 (.agg #[.slice (A 0) (n 0) (c 0), .slice (A 1) (n 1) (c 1), .slice (A 2) (n 2) (c 2)]) (.int .i64 (k : Int))).run Tryd.prog w = .ok (.slice (A k) (n k) (c k)) w := by
  match k, hk with
  | 0, _ => exact index_rows0 _ _ _ w
  | 1, _ => exact index_rows1 _ _ _ w
  | 2, _ => exact index_rows2 _ _ _ w
theorem run_copy_none {P : Program} (w : World) (dT sT ty elem : TypeId) (D S : Option Addr) (dc sc : Nat) (sz : Nat) (hu : P.underlying dT = some (.slice elem)) (hsz : (P.info? elem).map (·.size) = some sz) :
    (Builtin.copy_ #[dT, sT] ty #[.slice D 0 dc, .slice S 0 sc]).run P w = .ok (goInt 0) w := by
  obtain ⟨i, hi, his⟩ := Option.map_eq_some_iff.1 hsz
  cases D <;> cases S <;> simp [Builtin.copy_, run_underlying hu, sizeOf, typeInfo, hi, Builtin.lenOf, Builtin.firstCells, loadCells, loadCellsFrom, storeCells]
theorem wpList_copyAny {P : Program} {w : World} {ops : Array Oper} {rest : List Oper} {o : Oper} {a : Act} {Q : Exit → Act → World → Prop} (hgd : o.guard = none) (d s : Operand) (dT sT : TypeId)
    (ho : o.op = .call { callee := .builtin .copy, args := #[d, s], argTypes := #[dT, sT] }) (elem : TypeId) (sz : Nat) (hu : P.underlying dT = some (.slice elem)) (hsz : (P.info? elem).map (·.size) = some sz)
    (g n dCap sCap B : Nat) (A : Option Addr) (hd : a.eval d = .slice (some ⟨g, 0, none⟩) n dCap) (hs : a.eval s = .slice A n sCap)
    (cur : Array Value) (t : TypeId) (hg : RowAt w g t cur) (cs : List Value) (hr : Rd w B sz A n cs) (hfit : cs.length = cur.size) (h1 : ∀ v ∈ cs, v.oneCell' = true)
    (h : ∀ w', RowAt w' g t cs.toArray → Past g w w' → wpList P ops Q rest (a.put o.dst (goInt n)) w') : wpList P ops Q (o :: rest) a w := by
  rcases Nat.eq_zero_or_pos n with h0 | h0
  · subst h0
    have hcs : cs = [] := hr.nil
    subst hcs
    have hcur : cur = #[] := Array.eq_empty_of_size_eq_zero (by simpa using hfit.symm)
    subst hcur
    exact wpList_copy_runI w hgd d s dT sT ho _ _ hd hs (run_copy_none w dT sT o.type elem _ _ _ _ sz hu hsz) (h w hg (Past.refl _ _))
  · exact wpList_copyRow hgd d s dT sT ho elem sz hu hsz g n dCap sCap B A hd hs h0 cur t hg cs hr hfit h1 h
def CpEx (w0 wr : World) (gx i : Nat) (l : Lim) (A : Nat → Option Addr) (n c : Nat → Nat) : Prop := ∃ A' c', CpAt w0 wr gx i l A n c A' c'
theorem limC_cell {w : World} {g E : Nat} {T : TypeId} {A : Nat → Option Addr} {n c : Nat → Nat} (h : RowAt w g T (limC E A n c)) {k : Nat} (hk : k < 3) : w.cell? ⟨g, 1 + k, none⟩ = some (.slice (A k) (n k) (c k)) := (h.cell (1 + k)).trans (limC_at E A n c hk)
/-- The results have been laid into their boxes. -/
structure LaidR (W w : World) (E : Nat) (A : Nat → Option Addr) (n c : Nat → Nat) (w' : World) : Prop where
  out : RowAt w' (W.heap.size + 1) 26 (limC E A n c)
  err : RowAt w' (W.heap.size + 1 + 1) 30 #[.int .i64 0]
  block : ∀ j, j ≠ W.heap.size + 1 → j ≠ W.heap.size + 1 + 1 → j < w.heap.size → w'.heap[j]? = w.heap[j]?
  past : ∀ kl, PastK kl W.heap.size w w'
set_option maxHeartbeats 2000000 in
theorem laid_of {W w : World} {E : Nat} {A : Nat → Option Addr} {n c : Nat → Nat} (h1 : RowAt w (W.heap.size + 1) 26 zeroC) (h2 : RowAt w (W.heap.size + 1 + 1) 30 #[.int .i64 0]) :
    LaidR W w E A n c (((((w.setCell ⟨W.heap.size + 1, 0, none⟩ (.int .u64 (E : Int))).setCell ⟨W.heap.size + 1, 1, none⟩ (.slice (A 0) (n 0) (c 0))).setCell ⟨W.heap.size + 1, 2, none⟩ (.slice (A 1) (n 1) (c 1))).setCell ⟨W.heap.size + 1, 3, none⟩ (.slice (A 2) (n 2) (c 2))).setCell ⟨W.heap.size + 1 + 1, 0, none⟩ (.int .i64 0)) := by
  have hblk : ∀ j, j ≠ W.heap.size + 1 → j ≠ W.heap.size + 1 + 1 → (((((w.setCell ⟨W.heap.size + 1, 0, none⟩ (.int .u64 (E : Int))).setCell ⟨W.heap.size + 1, 1, none⟩ (.slice (A 0) (n 0) (c 0))).setCell ⟨W.heap.size + 1, 2, none⟩ (.slice (A 1) (n 1) (c 1))).setCell ⟨W.heap.size + 1, 3, none⟩ (.slice (A 2) (n 2) (c 2))).setCell ⟨W.heap.size + 1 + 1, 0, none⟩ (.int .i64 0)).heap[j]? = w.heap[j]? := fun j hj1 hj2 => by
    rw [heap_setCell_ne _ _ _ _ hj2, heap_setCell_ne _ _ _ _ hj1, heap_setCell_ne _ _ _ _ hj1, heap_setCell_ne _ _ _ _ hj1, heap_setCell_ne _ _ _ _ hj1]
  refine ⟨?_, ?_, fun j hj1 hj2 _ => hblk j hj1 hj2, fun kl => ⟨rfl, rfl, rfl, by simp, fun j hj _ _ => hblk j (by omega) (by omega)⟩⟩
  · have h := ((((h1.set 0 (.int .u64 (E : Int))).set 1 (.slice (A 0) (n 0) (c 0))).set 2 (.slice (A 1) (n 1) (c 1))).set 3 (.slice (A 2) (n 2) (c 2))).setNe (g2 := W.heap.size + 1 + 1) (o := 0) (v := .int .i64 0) (by omega)
    simpa [limC] using h
  · have h := ((((h2.setNe (g2 := W.heap.size + 1) (o := 0) (v := .int .u64 (E : Int)) (by omega)).setNe (g2 := W.heap.size + 1) (o := 1) (v := .slice (A 0) (n 0) (c 0)) (by omega)).setNe (g2 := W.heap.size + 1) (o := 2) (v := .slice (A 1) (n 1) (c 1)) (by omega)).setNe (g2 := W.heap.size + 1) (o := 3) (v := .slice (A 2) (n 2) (c 2)) (by omega)).set 0 (.int .i64 0)
    simpa using h
set_option maxHeartbeats 4000000 in
theorem tries_yes (kl B : Nat) (A : Nat → Option Addr) (n c : Nat → Nat) (l : Lim) (g : Nat) (lb : Array Value) (W : World) (hgc : ∀ args w, (callFunc g args).run Tryd.prog w = .ok (.enter g args) w) (h : LimRd W B A n l.r) (hB : B ≤ W.heap.size) (hm : ∀ k, k < 3 → n k ≤ 4096)
    (hg : ∀ k, k < 3 → ∀ e ∈ l.r k, 0 ≤ e.2 ∧ e.2 < 18446744073709551616) (ho : l.ok = true)
    (G : Lim → Prop) (F : Int → World → Prop) (X : Lim → World → Prop) (hX : ∀ l' w w', X l' w → (∀ j, j ≠ W.heap.size + 1 → j ≠ W.heap.size + 1 + 1 → j < w.heap.size → w'.heap[j]? = w.heap[j]?) → X l' w') (hF : ∀ k w w', F k w → (∀ j, j ≠ W.heap.size + 1 → j ≠ W.heap.size + 1 + 1 → j < w.heap.size → w'.heap[j]? = w.heap[j]?) → F k w') (hkl : kl ≤ W.heap.size)
    (HC : ∀ w gx A' c', ChAt w gx (gx + 1) l A' n c' → Below W.heap.size W w → W.heap.size + 1 + 1 < gx → Calls Tryd.prog g (#[.pointer (some ⟨gx, 0, none⟩)] ++ lb) w (DoesRes kl gx (gx + 1) G F X w)) :
    Calls Tryd.prog 32 #[.agg (limC l.E A n c), .func (.func g) #[] lb] W (TrRes kl W.heap.size G F X W) := by
  have hE : l.E ≤ LAST := (ok_out ho).1
  have hE2 : l.E < 18446744073709551616 := by unfold LAST at hE; omega
  have HCL := hide HC
  have HX := hide hX
  have HFS := hide hF
  have H := hide h
  have HM := hide hm
  clear HC hX hF hE
  obtain ⟨w1, hw1⟩ : ∃ w1, W.alloc (.cells (limC l.E A n c) 26) = w1 := ⟨_, rfl⟩
  obtain ⟨w2, hw2⟩ : ∃ w2, w1.alloc (.cells zeroC 26) = w2 := ⟨_, rfl⟩
  obtain ⟨w3, hw3⟩ : ∃ w3, w2.alloc (.cells #[.int .i64 0] 30) = w3 := ⟨_, rfl⟩
  have s1 : w1.heap.size = W.heap.size + 1 := by rw [← hw1]; simp
  have s2 : w2.heap.size = W.heap.size + 1 + 1 := by rw [← hw2]; simp [s1]
  have b1 : Below W.heap.size W w1 := by rw [← hw1]; exact (Below.refl _ _).alloc (Nat.le_refl _) _
  have b2 : Below w1.heap.size w1 w2 := by rw [← hw2]; exact (Below.refl _ _).alloc (Nat.le_refl _) _
  have b3 : Below w2.heap.size w2 w3 := by rw [← hw3]; exact (Below.refl _ _).alloc (Nat.le_refl _) _
  have r1 : RowAt w3 W.heap.size 26 (limC l.E A n c) := by have h := RowAt.new W 26 (limC l.E A n c); rw [hw1] at h; exact (h.below b2).below b3
  have r2 : RowAt w3 (W.heap.size + 1) 26 zeroC := by have h := RowAt.new w1 26 zeroC; rw [hw2, s1] at h; exact h.below b3
  have r3 : RowAt w3 (W.heap.size + 1 + 1) 30 #[.int .i64 0] := by have h := RowAt.new w2 30 #[.int .i64 0]; rw [hw3, s2] at h; exact h
  have hb0 : Below W.heap.size W w3 := (b1.trans (b2.mono b1.size)).trans (b3.mono (by omega))
  have HC := hide (check_any B A n c l w3 (h.below (hb0.mono hB)) hE2 (Nat.le_trans hB hb0.size) hm hg 0 (by rw [ho]; rfl))
  have HB := hide hb0
  have R1 := hide r1
  have R2 := hide r2
  have R3 := hide r3
  clear b1 b2 b3 hb0 r1 r2 r3 h ho s1 s2 hm hE2 hg
  subst hw3
  subst hw2
  subst hw1
  go_enter_defers Tryd.func32, Tryd.ntmps32
  go_wp2_with fail
  generalize ((W.alloc (.cells (limC l.E A n c) 26)).alloc (.cells zeroC 26)).alloc (.cells #[.int .i64 0] 30) = w3 at *
  with_reducible refine HC.out.mono ?_
  rintro e w4 ⟨rfl, hb⟩
  have R1 := hide (R1.out.below hb)
  have R2 := hide (R2.out.below hb)
  have R3 := hide (R3.out.below hb)
  have HB := hide (HB.out.trans (hb.mono HB.out.size))
  clear hb HC
  have q0 : w4.cell? ⟨W.heap.size, 0, none⟩ = some (.int .u64 (l.E : Int)) := by have := R1.out.cell 0; simpa [limC] using this
  have q1 : w4.cell? ⟨W.heap.size, 1, none⟩ = some (.slice (A 0) (n 0) (c 0)) := by have := R1.out.cell 1; simpa [limC] using this
  have q2 : w4.cell? ⟨W.heap.size, 2, none⟩ = some (.slice (A 1) (n 1) (c 1)) := by have := R1.out.cell 2; simpa [limC] using this
  have q3 : w4.cell? ⟨W.heap.size, 3, none⟩ = some (.slice (A 2) (n 2) (c 2)) := by have := R1.out.cell 3; simpa [limC] using this
  have ql := R1.out.lt
  go_wp2_with fail
  refine (need_ok 240 _).mono ?_
  rintro e w5 ⟨rfl, rfl⟩
  dsimp only
  have HRX := hide (RowAt.new w4 72 (limC l.E A n c))
  have HBX := hide (show Below w4.heap.size w4 (w4.alloc (.cells (limC l.E A n c) 72)) from (Below.refl _ _).alloc (Nat.le_refl _) _)
  have R1 := hide (R1.out.below HBX.out)
  have hgx : W.heap.size + 1 + 1 < w4.heap.size := R3.out.lt
  go_wp2_with fail
  obtain ⟨gx, hgxe⟩ : ∃ gx, w4.heap.size = gx := ⟨_, rfl⟩
  rw [hgxe] at HRX HBX hgx ⊢
  have HRB := hide R2.out
  have HCP0 := hide (show CpEx w4 (w4.alloc (.cells (limC l.E A n c) 72)) gx 0 l A n c from ⟨A, c, HRX.out, fun k h => by omega, fun j k h => by omega, HBX.out⟩)
  generalize w4.alloc (.cells (limC l.E A n c) 72) = wX at *
  clear q0 q1 q2 q3 ql
  go_loopw [19] (fun i wr => ∃ (k : Nat), k ≤ 3 ∧ i = .int .i64 (k : Int) ∧ CpEx w4 wr gx k l A n c) (fun i _ => 3 - (intOf i).toNat)
  case atStart => exact ⟨0, by omega, rfl, HCP0.out⟩
  case round =>
    obtain ⟨k, hk, rfl, hcp⟩ := hrel
    have HCP := hide hcp
    clear hcp
    by_cases hlt : k < 3
    · obtain ⟨A', c', hcp⟩ := HCP.out
      have hki : (k : Int) < 3 := by omega
      have hix := index_rows A n c k hlt
      have hc0 := limC_cell hcp.row hlt
      have hcl := hcp.row.lt
      have hcf := hcp.row.frozen (1 + k)
      obtain ⟨i0, hi0, hz0, hz1, hz2⟩ := info_parts elE.info
      have hmk := fun w => run_make_rowN (P := Tryd.prog) 23 34 i0 _ Tryd.underlying23 hi0 hz0 .i64 .i64 (n k) (n k) (Nat.le_refl _) (by rw [hz2]; have := HM.out k hlt; omega) (by have := HM.out k hlt; omega) w
      rw [hz1] at hmk
      have HCPk := hide hcp
      clear hi0 hz0 hz1 hz2 hcp
      go_wp2_with fail
      go_region
      obtain ⟨M, hM⟩ : ∃ M, madeCells #[.int .i64 0, .int .u64 0] (n k * 2) = M := ⟨_, rfl⟩
      have hMs : M.size = n k * 2 := by rw [← hM]; simp [madeCells]
      rw [hM]
      obtain ⟨gs, hgs⟩ : ∃ gs, wr.heap.size = gs := ⟨_, rfl⟩
      rw [hgs]
      rw [hgs] at hcl
      have HRX2 : Hid (RowAt ((wr.setCell ⟨gx, 1 + k, none⟩ (.slice (some ⟨gs, 0, none⟩) (n k) (n k))).alloc (.cells M 34)) gx 72 ((limC l.E A' n c').setIfInBounds (1 + k) (.slice (some ⟨gs, 0, none⟩) (n k) (n k)))) := hide (by
        have h := HCPk.out.row.set (1 + k) (.slice (some ⟨gs, 0, none⟩) (n k) (n k))
        exact h.below ((Below.refl _ _).alloc (Nat.le_refl _) _))
      have HRS2 : Hid (RowAt ((wr.setCell ⟨gx, 1 + k, none⟩ (.slice (some ⟨gs, 0, none⟩) (n k) (n k))).alloc (.cells M 34)) gs 34 M) := hide (by
        have h := RowAt.new (wr.setCell ⟨gx, 1 + k, none⟩ (.slice (some ⟨gs, 0, none⟩) (n k) (n k))) 34 M
        simpa [hgs] using h)
      have HKB2 : Hid (∀ j, j ≠ gx → j < gs → ((wr.setCell ⟨gx, 1 + k, none⟩ (.slice (some ⟨gs, 0, none⟩) (n k) (n k))).alloc (.cells M 34)).heap[j]? = wr.heap[j]?) := hide (fun j hj hl => by
        rw [Below.heap_alloc _ _ _ (by simp [hgs]; exact hl), heap_setCell_ne _ _ _ _ hj])
      have HBL2 : Hid (Below gx wr ((wr.setCell ⟨gx, 1 + k, none⟩ (.slice (some ⟨gs, 0, none⟩) (n k) (n k))).alloc (.cells M 34))) := hide (((Below.refl _ _).setCell (p := ⟨gx, 1 + k, none⟩) (Nat.le_refl _) _).alloc (by simp [hgs]; omega) _)
      generalize (wr.setCell ⟨gx, 1 + k, none⟩ (.slice (some ⟨gs, 0, none⟩) (n k) (n k))).alloc (.cells M 34) = w7 at *
      have HRX2 := hide HRX2.out.drew
      have HRS2 := hide HRS2.out.drew
      have HKB2 : Hid (∀ j, j ≠ gx → j < gs → w7.drew.heap[j]? = wr.heap[j]?) := hide HKB2.out
      have HBL2 : Hid (Below gx wr w7.drew) := hide HBL2.out.drew
      generalize w7.drew = w8 at *
      have hc8 : w8.cell? ⟨gx, 1 + k, none⟩ = some (.slice (some ⟨gs, 0, none⟩) (n k) (n k)) := by
        rw [HRX2.out.cell, Array.getElem?_setIfInBounds, if_pos rfl, if_pos (by simp [limC]; omega)]
      have hl8 := HRX2.out.lt
      have HRD8 := hide (H.out.below ((HB.out.trans ((HCPk.out.below.trans HBL2.out).mono (by omega))).mono hB))
      clear hix hc0 hcf hmk hM
      go_wp2_with (refine wpList_copyAny rfl _ _ 23 23 rfl 34 2 Tryd.underlying23 (by kernel_rfl) gs (n k) (n k) (c k) B (A k) rfl rfl M 34 HRS2.out (Cs encE (l.r k)) (HRD8.out.rd k hlt) (by rw [(HRD8.out.rd k hlt).1, hMs]) (Cs_one_cell encE_one _) ?_; intro w9 hrow9 hp9)
      have HN := hide (HCPk.out.next (w8 := w9) hlt gs (by omega) (fun j hj hl => by rw [hp9.block j (by omega) (by have := HBL2.out.size; omega)]; exact HKB2.out j hj (by omega)) (HBL2.out.trans (hp9.below.mono (by omega)))
        (HRX2.out.past hp9 (by omega)) (OwnO.of_own ⟨by rw [Cs_length encE_len, H.out.len k hlt], .inr ⟨gs, n k, _, rfl, by omega, hrow9, Nat.le_refl _, by have := HM.out k hlt; unfold maxLen; omega, by simp [Cs_length encE_len, H.out.len k hlt], by
          rw [List.toList_toArray, List.take_of_length_le (by rw [Cs_length encE_len, H.out.len k hlt]; exact Nat.le_refl _)]⟩⟩))
      go_wp2_with fail
      go_roundw
      case rel => exact ⟨k + 1, by omega, by go_num, ⟨_, _, HN.out⟩⟩
      case measure => simp [intOf]; omega
    · obtain rfl : k = 3 := by omega
      obtain ⟨A', c', hcp⟩ := HCP.out
      have hCH : ChAt wr gx (gx + 1) l A' n c' := ⟨hcp.row, ⟨fun k hk => hcp.own k hk hk, H.out.len, fun j k hj hk => hcp.apart j k hj hk hj hk⟩, by omega⟩
      have HBW := hide (HB.out.trans (hcp.below.mono (by omega)))
      have HCC := hide (HCL.out wr gx A' c' hCH HBW.out hgx)
      have R2 := hide (show RowAt wr (W.heap.size + 1) 26 zeroC from (hcp.below.block _ (by omega)).trans R2.out)
      have R3 := hide (show RowAt wr (W.heap.size + 1 + 1) 30 #[.int .i64 0] from (hcp.below.block _ (by omega)).trans R3.out)
      clear hcp hCH HRB HCP HCP0
      go_wp2_with fail
      refine HCC.out.mono ?_
      rintro e w9 ⟨hp9, hres⟩
      have hs9 := hp9.size
      have hsr := R3.out.lt
      have R2 := hide (show RowAt w9 (W.heap.size + 1) 26 zeroC from (hp9.block _ (by omega) (by omega) (by omega)).trans R2.out)
      have R3 := hide (show RowAt w9 (W.heap.size + 1 + 1) 30 #[.int .i64 0] from (hp9.block _ (by omega) (by omega) (by omega)).trans R3.out)
      have HP9 := hide (show PastK kl W.heap.size W w9 from (PastK.of_below HBW.out (Nat.le_refl _)).trans (hp9.less (by omega)))
      clear hp9
      rcases hres with ⟨rfl, l', A9, n9, c9, hch, hG, hX9⟩ | ⟨k, rfl, hF⟩
      · have x0 : w9.cell? ⟨gx, 0, none⟩ = some (.int .u64 (l'.E : Int)) := by have := hch.row.cell 0; simpa [limC] using this
        have x1 : w9.cell? ⟨gx, 1, none⟩ = some (.slice (A9 0) (n9 0) (c9 0)) := by have := hch.row.cell 1; simpa [limC] using this
        have x2 : w9.cell? ⟨gx, 2, none⟩ = some (.slice (A9 1) (n9 1) (c9 1)) := by have := hch.row.cell 2; simpa [limC] using this
        have x3 : w9.cell? ⟨gx, 3, none⟩ = some (.slice (A9 2) (n9 2) (c9 2)) := by have := hch.row.cell 3; simpa [limC] using this
        have xl := hch.row.lt
        have z0 : w9.cell? ⟨W.heap.size + 1, 0, none⟩ = some (.int .u64 0) := by have := R2.out.cell 0; simpa using this
        have z1 : w9.cell? ⟨W.heap.size + 1, 1, none⟩ = some (.slice none 0 0) := by have := R2.out.cell 1; simpa using this
        have z2 : w9.cell? ⟨W.heap.size + 1, 2, none⟩ = some (.slice none 0 0) := by have := R2.out.cell 2; simpa using this
        have z3 : w9.cell? ⟨W.heap.size + 1, 3, none⟩ = some (.slice none 0 0) := by have := R2.out.cell 3; simpa using this
        have zl := R2.out.lt
        have f0 := R2.out.frozen 0
        have f1 := R2.out.frozen 1
        have f2 := R2.out.frozen 2
        have f3 := R2.out.frozen 3
        have y0 := row1 R3.out
        have yl := R3.out.lt
        have yf := R3.out.frozen 0
        have HCH := hide hch
        have HX9 := hide hX9
        clear hch hX9
        have HLA : Hid (LaidR W w9 l'.E A9 n9 c9 ((((((w9.setCell ⟨W.heap.size + 1, 0, none⟩ (.int .u64 (l'.E : Int))).setCell ⟨W.heap.size + 1, 1, none⟩ (.slice (A9 0) (n9 0) (c9 0))).setCell ⟨W.heap.size + 1, 2, none⟩ (.slice (A9 1) (n9 1) (c9 1))).setCell ⟨W.heap.size + 1, 3, none⟩ (.slice (A9 2) (n9 2) (c9 2))).setCell ⟨W.heap.size + 1 + 1, 0, none⟩ (.int .i64 0)))) := hide (laid_of R2.out R3.out)
        go_wp2_with fail
        generalize ((((w9.setCell ⟨W.heap.size + 1, 0, none⟩ (.int .u64 (l'.E : Int))).setCell ⟨W.heap.size + 1, 1, none⟩ (.slice (A9 0) (n9 0) (c9 0))).setCell ⟨W.heap.size + 1, 2, none⟩ (.slice (A9 1) (n9 1) (c9 1))).setCell ⟨W.heap.size + 1, 3, none⟩ (.slice (A9 2) (n9 2) (c9 2))).setCell ⟨W.heap.size + 1 + 1, 0, none⟩ (.int .i64 0) = wF at *
        refine leaves_cons (f := 49) (args := #[.pointer (some ⟨W.heap.size + 1, 0, none⟩), .pointer (some ⟨W.heap.size + 1 + 1, 0, none⟩)]) (by simp) (by simp [go_sem]) ?_
        refine (catch_idle ⟨W.heap.size + 1, 0, none⟩ ⟨W.heap.size + 1 + 1, 0, none⟩ _).mono ?_
        rintro e u' w'' ⟨rfl, rfl, rfl⟩
        have z0 : w''.cell? ⟨W.heap.size + 1, 0, none⟩ = some (.int .u64 (l'.E : Int)) := by have := HLA.out.out.cell 0; simpa [limC] using this
        have z1 : w''.cell? ⟨W.heap.size + 1, 1, none⟩ = some (.slice (A9 0) (n9 0) (c9 0)) := by have := HLA.out.out.cell 1; simpa [limC] using this
        have z2 : w''.cell? ⟨W.heap.size + 1, 2, none⟩ = some (.slice (A9 1) (n9 1) (c9 1)) := by have := HLA.out.out.cell 2; simpa [limC] using this
        have z3 : w''.cell? ⟨W.heap.size + 1, 3, none⟩ = some (.slice (A9 2) (n9 2) (c9 2)) := by have := HLA.out.out.cell 3; simpa [limC] using this
        simp [Leaves, settle, results, Tryd.results32, go_sem, z0, z1, z2, z3, row1 HLA.out.err, HLA.out.out.lt, HLA.out.err.lt]
        exact ⟨HP9.out.trans (HLA.out.past kl), .inl ⟨l', A9, n9, c9, rfl, (HCH.out.own.other (fun g h1 h2 => HLA.out.block g (by omega) (by omega) h2)).lower (by omega), hG, HX.out _ _ _ HX9.out HLA.out.block⟩⟩
      · dsimp only
        refine leaves_cons (f := 49) (args := #[.pointer (some ⟨W.heap.size + 1, 0, none⟩), .pointer (some ⟨W.heap.size + 1 + 1, 0, none⟩)]) (by simp) (by simp [go_sem]) ?_
        refine (catch_err (W.heap.size + 1) (W.heap.size + 1 + 1) k w9 R2.out R3.out (by omega)).mono ?_
        rintro e u' w10 ⟨rfl, rfl, hC⟩
        have z0 : w10.cell? ⟨W.heap.size + 1, 0, none⟩ = some (.int .u64 0) := by have := hC.out.cell 0; simpa using this
        have z1 : w10.cell? ⟨W.heap.size + 1, 1, none⟩ = some (.slice none 0 0) := by have := hC.out.cell 1; simpa using this
        have z2 : w10.cell? ⟨W.heap.size + 1, 2, none⟩ = some (.slice none 0 0) := by have := hC.out.cell 2; simpa using this
        have z3 : w10.cell? ⟨W.heap.size + 1, 3, none⟩ = some (.slice none 0 0) := by have := hC.out.cell 3; simpa using this
        have hfin : PastK kl W.heap.size W w10 := HP9.out.trans ⟨hC.os, hC.tape, hC.output, by rw [hC.size]; exact Nat.le_refl _, fun j hj _ _ => hC.block j (by omega) (by omega)⟩
        simp [Leaves, settle, results, Tryd.results32, go_sem, z0, z1, z2, z3, row1 hC.err, hC.out.lt, hC.err.lt]
        exact ⟨hfin, .inr ⟨k, rfl, HFS.out _ _ _ hF (fun j h1 h2 _ => hC.block j h1 h2)⟩⟩
end Go.Proofs.YthnpcmigphpolaaDoor
