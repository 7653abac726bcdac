/-
  A monitor in which something is done: its copy; the error by which it leaves.
-/
import Derived.Test.YtfpbabafeecncaaMol
import Derived.Test.YtfpbabafeecncaaHeldT
import Derived.Defers
import Derived.Recover
import Derived.Laws.NewBlocks
set_option linter.unusedSimpArgs false
set_option linter.unusedVariables false
namespace Go.Proofs.Ytfpbabafeecncaa
open Go Go.RowKit
attribute [local go_sem] via_cell via_frozen

attribute [local go_sem] wpmf assert_errno
abbrev zeroW : Array Value := #[.slice none 0 0, .slice none 0 0, .slice none 0 0, .slice none 0 0, .slice none 0 0]
theorem wcatch_idle (p q : Addr) (w : World) :
    CallsD Try.prog 63 #[.pointer (some p), .pointer (some q)] .returning w fun e u' w' => e = .returned (.tuple #[]) ∧ u' = .returning ∧ w' = w := by
  refine callsD_of_wpS Try.func63 rfl fun c₀ cs hu => ?_
  apply wpS_seq
  apply wpS_region
  simp [wpOpsS, go_sem, recoverD, hu, Try.ntmps63, Exit.thenS]
  refine wpS_of_wp ?_
  simp only [List.size_toArray, List.length_cons, List.length_nil, Nat.reduceAdd, Nat.reduceSub, Array.replicate_succ, Array.replicate_zero, List.push_toArray, List.append_toArray, List.nil_append, List.cons_append, List.setIfInBounds_toArray, List.set_cons_succ, List.set_cons_zero]
  go_wp2
  cases c₀
  simp_all [bodyPostS, results, Try.results63]
def wcatchW (b1 b2 : Nat) (k : Int) (w : World) : World := ((w.setCell ⟨b1, 0, none⟩ (.pointer (some ⟨w.heap.size, 0, none⟩))).setCell ⟨b2, 0, none⟩ (.int .i64 k)).alloc (.cells zeroW 85)
set_option maxRecDepth 100000 in
theorem wcatch_err (b1 b2 : Nat) (k : Int) (v1 v2 : Value) (w : World) (h1 : RowAt w b1 79 #[v1]) (h2 : RowAt w b2 33 #[v2]) (hne : b1 ≠ b2) :
    CallsD Try.prog 63 #[.pointer (some ⟨b1, 0, none⟩), .pointer (some ⟨b2, 0, none⟩)] (.panicking (errX k)) w fun e u' w' =>
      e = .returned (.tuple #[]) ∧ u' = .panicking [{ v := .iface 33 (.int .i64 k), recovered := true }] ∧ w' = wcatchW b1 b2 k w := by
  have c1 := row1 h1
  have c2 := row1 h2
  have f1 := h1.frozen 0
  have f2 := h2.frozen 0
  have l1 := h1.lt
  have l2 := h2.lt
  have hne2 : ¬ b1 = b2 := hne
  have hne3 : ¬ b2 = b1 := fun h => hne h.symm
  have hne4 : ¬ b1 = w.heap.size := by omega
  have hne5 : ¬ b2 = w.heap.size := by omega
  have hne6 : ¬ w.heap.size = b1 := by omega
  have hne7 : ¬ w.heap.size = b2 := by omega
  refine callsD_of_wpS Try.func63 rfl fun c₀ cs hu => ?_
  apply wpS_seq
  apply wpS_region
  simp [wpOpsS, go_sem, recoverD, hu, Try.ntmps63, Exit.thenS, errX]
  refine wpS_of_wp ?_
  simp only [List.size_toArray, List.length_cons, List.length_nil, Nat.reduceAdd, Nat.reduceSub, Array.replicate_succ, Array.replicate_zero, List.push_toArray, List.append_toArray, List.nil_append, List.cons_append, List.setIfInBounds_toArray, List.set_cons_succ, List.set_cons_zero]
  go_wp2
  simp [bodyPostS, results, Try.results63, wcatchW]
theorem wcatchW_facts {b1 b2 : Nat} {k : Int} {v1 v2 : Value} {w : World} (h1 : RowAt w b1 79 #[v1]) (h2 : RowAt w b2 33 #[v2]) (hne : b1 ≠ b2) :
    RowAt (wcatchW b1 b2 k w) b1 79 #[.pointer (some ⟨w.heap.size, 0, none⟩)] ∧ RowAt (wcatchW b1 b2 k w) b2 33 #[.int .i64 k] ∧ RowAt (wcatchW b1 b2 k w) w.heap.size 85 zeroW ∧
      (∀ j, j ≠ b1 → j ≠ b2 → j < w.heap.size → (wcatchW b1 b2 k w).heap[j]? = w.heap[j]?) ∧ w.heap.size ≤ (wcatchW b1 b2 k w).heap.size ∧ (wcatchW b1 b2 k w).os = w.os ∧ (wcatchW b1 b2 k w).tape = w.tape ∧ (wcatchW b1 b2 k w).output = w.output := by
  have l1 := h1.lt
  have l2 := h2.lt
  have hb : ∀ w2 : World, Below w2.heap.size w2 (w2.alloc (.cells zeroW 85)) := fun w2 => (Below.refl _ _).alloc (Nat.le_refl _) _
  unfold wcatchW
  have hz := RowAt.new ((w.setCell ⟨b1, 0, none⟩ (.pointer (some ⟨w.heap.size, 0, none⟩))).setCell ⟨b2, 0, none⟩ (.int .i64 k)) 85 zeroW
  simp only [World.size_setCell] at hz
  refine ⟨((h1.set 0 _).setNe hne).below (hb _), ((h2.setNe (Ne.symm hne)).set 0 _).below (hb _), hz, fun j hj1 hj2 hl => ?_, by simp, rfl, rfl, rfl⟩
  rw [(hb _).block j (by simpa using hl), heap_setCell_ne _ _ _ _ (by simpa using hj2), heap_setCell_ne _ _ _ _ (by simpa using hj1)]
theorem SlAt.of_made {w : World} {B base n : Nat} {A : Option Addr} {ys : List Ent} (h : w.ownsRow B 47 2 (.slice A n n) n (Cs encE ys)) (hb : base ≤ B) (hl : ys.length = n) : SlAt w base A n ys := by
  refine ⟨hl, Rd.of_own h, fun hn => ?_⟩
  obtain ⟨h1, h2⟩ := h
  rcases h2 with ⟨_, h3⟩ | ⟨g, cap, cur, hv, hge, hh, hle, hmx, hsz, htk⟩
  · omega
  · injection hv with e1 e2 e3
    subst e1
    subst e3
    refine ⟨g, rfl, Nat.le_trans hb hge, ?_⟩
    have : cur = (Cs encE ys).toArray := by
      rw [← htk, List.take_of_length_le (by rw [Array.length_toList, hsz]; exact Nat.le_refl _), Array.toArray_toList]
    rw [← this]; exact hh
theorem own_moreB {w : World} {B b : Nat} {e : TypeId} {sz n : Nat} {v : Value} {xs : List Value} (h : w.ownsRow B e sz v n xs) (hb : b ≤ B) : w.ownsRow b e sz v n xs := by
  obtain ⟨h1, h2⟩ := h
  refine ⟨h1, ?_⟩
  rcases h2 with h | ⟨g, cap, cur, hv, hg, r⟩
  · exact .inl h
  · exact .inr ⟨g, cap, cur, hv, Nat.le_trans hb hg, r⟩
/-- A store into a block of a type that no row of it has. -/
theorem WAt.setOther {w : World} {gx base g i : Nat} {a0 a1 a2 a3 a4 : Option Addr} {n0 n1 n2 n3 n4 c0 c1 c2 c3 c4 : Nat} {ts : List Hm} {m : Mon} {tk : List Ent} {v : Value} {t : TypeId} {cs : Array Value} (h : WAt w gx base a0 a1 a2 a3 a4 n0 n1 n2 n3 n4 c0 c1 c2 c3 c4 ts m tk) (hr : RowAt w g t cs) (d0 : t ≠ 85) (d1 : t ≠ 47) (d2 : t ≠ 4) (d3 : t ≠ 54) (d4 : t ≠ 43) (d5 : t ≠ 45) :
    WAt (w.setCell ⟨g, i, none⟩ v) gx base a0 a1 a2 a3 a4 n0 n1 n2 n3 n4 c0 c1 c2 c3 c4 ts m tk :=
  ⟨h.row.setNe (by rintro rfl; exact d0 (row_typ hr h.row)), h.sl.setT hr d1, own_setT h.pin hr d2, own_setT h.has hr d3, fun t ht => own_setT (h.rows t ht) hr d4, own_setT h.bad hr d5, own_setT h.took hr d4, h.l1, h.l2, h.l3, h.l4, h.hs, h.apart, h.apt⟩
theorem WAt.addH {w w' : World} {gx base : Nat} {a0 a1 a2 a3 a4 : Option Addr} {n0 n1 n2 n3 n4 c0 c1 c2 c3 c4 : Nat} {ts : List Hm} {m : Mon} {tk : List Ent} (h : WAt w gx base a0 a1 a2 a3 a4 n0 n1 n2 n3 n4 c0 c1 c2 c3 c4 ts m tk) (hg : w.grownBy w' (Value.slice a2 n2 c2).ownBlock) {A : Option Addr} {n c : Nat} {t : Hm} (ho : w'.ownsRow base 54 1 (.slice A n c) n (Cs encH (ts ++ [t]))) (hn : n2 + 1 = n) (ht : OwnH w base t)
    (hap : ∀ j, j < ts.length → ∀ p q, t.A = some p → (ts.getD j hmZ).A = some q → p.block ≠ q.block) (hat : ∀ p q, t.A = some p → a4 = some q → p.block ≠ q.block) :
    WAt (w'.setCell ⟨gx, 2, none⟩ (.slice A n c)) gx base a0 a1 A a3 a4 n0 n1 n n3 n4 c0 c1 c c3 c4 (ts ++ [t]) ⟨m.sl, m.pin, m.has ++ [t.q], m.bad⟩ tk := by
  subst hn
  have hr : ∀ g, (Value.slice a2 n2 c2).ownBlock = some g → ∃ cs, RowAt w g 54 cs := fun g hg => (own_typ h.has hg).2
  have hrow : RowAt w' gx 85 #[.slice a0 n0 c0, .slice a1 n1 c1, .slice a2 n2 c2, .slice a3 n3 c3, .slice a4 n4 c4] := (hg.block gx h.row.lt (h.nx h.has (by decide))).trans h.row
  have hgl : ∀ j, j < ts.length → (ts ++ [t]).getD j hmZ = ts.getD j hmZ := fun j hj => by rw [List.getD_eq_getElem?_getD, List.getD_eq_getElem?_getD, List.getElem?_append_left hj]
  have hge : (ts ++ [t]).getD ts.length hmZ = t := by rw [List.getD_eq_getElem?_getD, List.getElem?_append_right (Nat.le_refl _), Nat.sub_self]; rfl
  refine ⟨by have := hrow.set 2 (.slice A (n2 + 1) c); simpa using this, (h.sl.grownT hg hr (by decide)).setT hrow (by decide), own_setT (own_grownT h.pin hg hr (by decide)) hrow (by decide), own_setT ho hrow (by decide), fun u hu => ?_, own_setT (own_grownT h.bad hg hr (by decide)) hrow (by decide), own_setT (own_grownT h.took hg hr (by decide)) hrow (by decide), h.l1, by simp [h.l2], h.l3, h.l4, ?_, fun i j hi hj hne p q hp hq => ?_, fun u hu p q hp hq => ?_⟩
  · rcases List.mem_append.1 hu with hu | hu
    · exact own_setT (own_grownT (h.rows u hu) hg hr (by decide)) hrow (by decide)
    · rw [List.mem_singleton] at hu
      subst hu
      exact own_setT (own_grownT ht hg hr (by decide)) hrow (by decide)
  · show m.has ++ [t.q] = rowsQ (ts ++ [t])
    rw [h.hs]; simp [rowsQ]
  · rw [List.length_append, List.length_singleton] at hi hj
    by_cases hil : i < ts.length
    · rw [hgl i hil] at hp
      by_cases hjl : j < ts.length
      · rw [hgl j hjl] at hq
        exact h.apart i j hil hjl hne p q hp hq
      · obtain rfl : j = ts.length := by omega
        rw [hge] at hq
        exact (hap i hil q p hq hp).symm
    · obtain rfl : i = ts.length := by omega
      rw [hge] at hp
      have hjl : j < ts.length := by omega
      rw [hgl j hjl] at hq
      exact hap j hjl p q hp hq
  · rcases List.mem_append.1 hu with hu | hu
    · exact h.apt u hu p q hp hq
    · rw [List.mem_singleton] at hu
      subst hu
      exact hat p q hp hq
/-- What it comes to outside. -/
def TrM (r : Except Int (Mon × List Ent)) (W : World) (e : Ending) (W' : World) : Prop :=
  Below W.heap.size W W' ∧ ((∃ m' tk' gx base, r = .ok (m', tk') ∧ e = .returned (.tuple #[.pointer (some ⟨gx, 0, none⟩), .int .i64 0]) ∧ WEx W' gx base m' tk' ∧ W.heap.size ≤ gx ∧ W.heap.size ≤ base) ∨
    (∃ gz k, r = .error k ∧ e = .returned (.tuple #[.pointer (some ⟨gz, 0, none⟩), .int .i64 k]) ∧ RowAt W' gz 85 zeroW))
/-- While the monitor is copied. -/
structure CpW (W w : World) (gx : Nat) (a0 a1 a2 a3 : Option Addr) (n0 n1 n2 n3 k c2 : Nat) (y0 y1 y3 : Option Addr) (yh : Option Addr) (us : List Hm) (m : Mon) (bx : Array Value) : Prop where
  arg : RowAt w W.heap.size 32 bx
  ptr : RowAt w (W.heap.size + 1) 79 #[.pointer (some ⟨gx, 0, none⟩)]
  err : RowAt w (W.heap.size + 2) 33 #[.int .i64 0]
  at_ : WAt w gx (W.heap.size + 3) y0 y1 yh y3 none n0 n1 k n3 0 n0 n1 c2 n3 0 us m []
  gt : W.heap.size + 3 ≤ gx
  below : Below W.heap.size W w
theorem CpW.keep {W w w' : World} {gx : Nat} {a0 a1 a2 a3 : Option Addr} {n0 n1 n2 n3 k c2 : Nat} {y0 y1 y3 yh : Option Addr} {us : List Hm} {m : Mon} {bx : Array Value} (h : CpW W w gx a0 a1 a2 a3 n0 n1 n2 n3 k c2 y0 y1 y3 yh us m bx) (hb : Below w.heap.size w w') : CpW W w' gx a0 a1 a2 a3 n0 n1 n2 n3 k c2 y0 y1 y3 yh us m bx :=
  ⟨h.arg.below hb, h.ptr.below hb, h.err.below hb, h.at_.below hb, h.gt, h.below.trans (hb.mono h.below.size)⟩
theorem gbelow {w w' : World} {n base : Nat} {row : Option Nat} (hg : w.grownBy w' row) (hr : ∀ g, row = some g → base ≤ g) (hn : n ≤ base) (hs : n ≤ w.heap.size) : Below n w w' := ⟨hg.os, hg.tape, hg.output, hg.size, fun j hj => hg.block j (by omega) (fun e => by have := hr j e.symm; omega)⟩
theorem CpW.add {W w w6 w7 : World} {gx : Nat} {a0 a1 a2 a3 : Option Addr} {n0 n1 n2 n3 k d2 : Nat} {y0 y1 y3 yh : Option Addr} {us : List Hm} {m : Mon} {bx : Array Value} (h : CpW W w gx a0 a1 a2 a3 n0 n1 n2 n3 k d2 y0 y1 y3 yh us m bx) (hb : Below w.heap.size w w6) (hg : w6.grownBy w7 (Value.slice yh k d2).ownBlock) {A : Option Addr} {c : Nat} {t : Hm} (ho : w7.ownsRow (W.heap.size + 3) 54 1 (.slice A (k + 1) c) (k + 1) (Cs encH (us ++ [t]))) (ht : OwnH w6 (W.heap.size + 3) t) (hnew : ∀ p, t.A = some p → w.heap.size ≤ p.block) :
    CpW W (w7.setCell ⟨gx, 2, none⟩ (.slice A (k + 1) c)) gx a0 a1 a2 a3 n0 n1 n2 n3 (k + 1) c y0 y1 y3 A (us ++ [t]) ⟨m.sl, m.pin, m.has ++ [t.q], m.bad⟩ bx := by
  have h6 := h.keep hb
  have hr : ∀ g, (Value.slice yh k d2).ownBlock = some g → ∃ cs, RowAt w6 g 54 cs := fun g hg => (own_typ h6.at_.has hg).2
  have hgt := h.gt
  have keep : ∀ {g : Nat} {t : TypeId} {cs : Array Value}, RowAt w6 g t cs → 54 ≠ t → g ≠ gx → RowAt (w7.setCell ⟨gx, 2, none⟩ (.slice A (k + 1) c)) g t cs := fun hrow hne hgx =>
    (show RowAt w7 _ _ _ from (hg.block _ hrow.lt (fun e => by obtain ⟨cs, h1⟩ := hr _ e.symm; exact hne (row_typ h1 hrow))).trans hrow).setNe hgx
  refine ⟨keep h6.arg (by decide) (by omega), keep h6.ptr (by decide) (by omega), keep h6.err (by decide) (by omega), h6.at_.addH hg ho rfl ht (fun j hj p q hp hq => ?_) (fun p q _ hq => by cases hq), hgt, ?_⟩
  · obtain ⟨_, cs, hrr⟩ := own_typ (h.at_.rows _ (getH_mem hj)) (blk_to hq)
    have := hrr.lt
    have := hnew p hp
    omega
  · exact (h6.below.trans (gbelow hg (fun g hg => (own_typ h6.at_.has hg).1) (by omega) h6.below.size)).setCell (p := ⟨gx, 2, none⟩) (by show W.heap.size ≤ gx; omega) _
set_option maxRecDepth 20000 in
set_option maxHeartbeats 2000000 in
theorem wtries_no (a0 a1 a2 a3 : Option Addr) (n0 n1 n2 n3 c0 c1 c2 c3 g : Nat) (lb : Array Value) (ts : List Hm) (m : Mon) (W : World) (h : MonX W W.heap.size a0 a1 a2 a3 n0 n1 n2 n3 ts m) (hs : SmallX n0 n1 n2 n3 ts) (ho : m.ok = false) :
    Calls Try.prog 37 #[.agg #[.slice a0 n0 c0, .slice a1 n1 c1, .slice a2 n2 c2, .slice a3 n3 c3], .func (.func g) #[] lb] W (TrM (.error 220) W) := by
  go_enter_defers Try.func37, Try.ntmps37
  go_wp2_with fail
  obtain ⟨w1, hw1⟩ : ∃ w1, W.alloc (.cells #[.slice a0 n0 c0, .slice a1 n1 c1, .slice a2 n2 c2, .slice a3 n3 c3] 32) = w1 := ⟨_, rfl⟩
  obtain ⟨w2, hw2⟩ : ∃ w2, w1.alloc (.cells #[.pointer none] 79) = w2 := ⟨_, rfl⟩
  obtain ⟨w3, hw3⟩ : ∃ w3, w2.alloc (.cells #[.int .i64 0] 33) = w3 := ⟨_, rfl⟩
  have s1 : w1.heap.size = W.heap.size + 1 := by rw [← hw1]; simp
  have s2 : w2.heap.size = W.heap.size + 2 := by rw [← hw2]; simp [s1]
  have s3 : w3.heap.size = W.heap.size + 3 := by rw [← hw3]; simp [s2]
  have b1 : Below W.heap.size W w1 := by rw [← hw1]; exact (Below.refl _ _).alloc (Nat.le_refl _) _
  have b2 : Below w1.heap.size w1 w2 := by rw [← hw2]; exact (Below.refl _ _).alloc (Nat.le_refl _) _
  have b3 : Below w2.heap.size w2 w3 := by rw [← hw3]; exact (Below.refl _ _).alloc (Nat.le_refl _) _
  have r1 : RowAt w3 W.heap.size 32 #[.slice a0 n0 c0, .slice a1 n1 c1, .slice a2 n2 c2, .slice a3 n3 c3] := by have h := RowAt.new W 32 #[.slice a0 n0 c0, .slice a1 n1 c1, .slice a2 n2 c2, .slice a3 n3 c3]; rw [hw1] at h; exact (h.below b2).below b3
  have r2 : RowAt w3 (W.heap.size + 1) 79 #[.pointer none] := by have h := RowAt.new w1 79 #[.pointer none]; rw [hw2, s1] at h; exact h.below b3
  have r3 : RowAt w3 (W.heap.size + 2) 33 #[.int .i64 0] := by have h := RowAt.new w2 33 #[.int .i64 0]; rw [hw3, s2] at h; exact h
  have hb0 : Below W.heap.size W w3 := (b1.trans (b2.mono b1.size)).trans (b3.mono (Nat.le_trans b1.size b2.size))
  try rw [hw1, hw2, hw3]
  have HC := hide (mcheckX_any W.heap.size a0 a1 a2 a3 n0 n1 n2 n3 c0 c1 c2 c3 ts m w3 (h.below hb0) hb0.size hs 220 (by rw [ho]; rfl))
  have HB := hide hb0
  have R2 := hide r2
  have R3 := hide r3
  clear hw1 hw2 hw3 b1 b2 b3 hb0 r1 r2 r3 h ho hs s1 s2 s3
  refine HC.out.mono ?_
  rintro e w4 ⟨rfl, hb⟩
  have R2 := hide (R2.out.below hb)
  have R3 := hide (R3.out.below hb)
  have HB := hide (HB.out.trans (hb.mono HB.out.size))
  clear hb
  go_wp2_with fail
  refine (mneed_no 220 _).mono ?_
  rintro e w5 ⟨rfl, rfl⟩
  dsimp only
  refine leaves_cons (f := 63) (args := #[.pointer (some ⟨W.heap.size + 1, 0, none⟩), .pointer (some ⟨W.heap.size + 2, 0, none⟩)]) (by simp) (by simp [go_sem]) ?_
  refine (wcatch_err (W.heap.size + 1) (W.heap.size + 2) 220 _ _ w4 R2.out R3.out (by omega)).mono ?_
  rintro e u' w'' ⟨rfl, rfl, rfl⟩
  obtain ⟨h1, h2, h3, h4, h5, h6, h7, h8⟩ := wcatchW_facts (k := 220) R2.out R3.out (by omega)
  have hfin : Below W.heap.size W (wcatchW (W.heap.size + 1) (W.heap.size + 2) 220 w4) := ⟨h6.trans HB.out.os, h7.trans HB.out.tape, h8.trans HB.out.output, Nat.le_trans HB.out.size h5, fun j hj => (h4 j (by omega) (by omega) (Nat.lt_of_lt_of_le hj HB.out.size)).trans (HB.out.block j hj)⟩
  generalize wcatchW (W.heap.size + 1) (W.heap.size + 2) 220 w4 = w9 at *
  simp [Leaves, settle, results, Try.results37, go_sem, row1 h1, row1 h2, h1.lt, h2.lt]
  exact ⟨hfin, .inr ⟨_, 220, rfl, rfl, h3⟩⟩
set_option maxRecDepth 20000 in
set_option maxHeartbeats 4000000 in
theorem wtries_yes (a0 a1 a2 a3 : Option Addr) (n0 n1 n2 n3 c0 c1 c2 c3 g : Nat) (lb : Array Value) (ts : List Hm) (m : Mon) (W : World) (h : MonX W W.heap.size a0 a1 a2 a3 n0 n1 n2 n3 ts m) (hs : SmallX n0 n1 n2 n3 ts) (hg : ∀ args w, (callFunc g args).run Try.prog w = .ok (.enter g args) w) (ho : m.ok = true) (r : Except Int (Mon × List Ent))
    (HCL : ∀ w gx y0 y1 y2 y3 d2 us, WAt w gx (W.heap.size + 3) y0 y1 y2 y3 none n0 n1 n2 n3 0 n0 n1 d2 n3 0 us m [] → Below W.heap.size W w → W.heap.size + 3 ≤ w.heap.size → W.heap.size + 3 ≤ gx → Calls Try.prog g (#[.pointer (some ⟨gx, 0, none⟩)] ++ lb) w (DeedRes gx (W.heap.size + 3) r w)) :
    Calls Try.prog 37 #[.agg #[.slice a0 n0 c0, .slice a1 n1 c1, .slice a2 n2 c2, .slice a3 n3 c3], .func (.func g) #[] lb] W (TrM r W) := by
  go_enter_defers Try.func37, Try.ntmps37
  go_wp2_with fail
  obtain ⟨w1, hw1⟩ : ∃ w1, W.alloc (.cells #[.slice a0 n0 c0, .slice a1 n1 c1, .slice a2 n2 c2, .slice a3 n3 c3] 32) = w1 := ⟨_, rfl⟩
  obtain ⟨w2, hw2⟩ : ∃ w2, w1.alloc (.cells #[.pointer none] 79) = w2 := ⟨_, rfl⟩
  obtain ⟨w3, hw3⟩ : ∃ w3, w2.alloc (.cells #[.int .i64 0] 33) = w3 := ⟨_, rfl⟩
  have s1 : w1.heap.size = W.heap.size + 1 := by rw [← hw1]; simp
  have s2 : w2.heap.size = W.heap.size + 2 := by rw [← hw2]; simp [s1]
  have s3 : w3.heap.size = W.heap.size + 3 := by rw [← hw3]; simp [s2]
  have b1 : Below W.heap.size W w1 := by rw [← hw1]; exact (Below.refl _ _).alloc (Nat.le_refl _) _
  have b2 : Below w1.heap.size w1 w2 := by rw [← hw2]; exact (Below.refl _ _).alloc (Nat.le_refl _) _
  have b3 : Below w2.heap.size w2 w3 := by rw [← hw3]; exact (Below.refl _ _).alloc (Nat.le_refl _) _
  have r1 : RowAt w3 W.heap.size 32 #[.slice a0 n0 c0, .slice a1 n1 c1, .slice a2 n2 c2, .slice a3 n3 c3] := by have h := RowAt.new W 32 #[.slice a0 n0 c0, .slice a1 n1 c1, .slice a2 n2 c2, .slice a3 n3 c3]; rw [hw1] at h; exact (h.below b2).below b3
  have r2 : RowAt w3 (W.heap.size + 1) 79 #[.pointer none] := by have h := RowAt.new w1 79 #[.pointer none]; rw [hw2, s1] at h; exact h.below b3
  have r3 : RowAt w3 (W.heap.size + 2) 33 #[.int .i64 0] := by have h := RowAt.new w2 33 #[.int .i64 0]; rw [hw3, s2] at h; exact h
  have hb0 : Below W.heap.size W w3 := (b1.trans (b2.mono b1.size)).trans (b3.mono (Nat.le_trans b1.size b2.size))
  try rw [hw1, hw2, hw3]
  have HC := hide (mcheckX_any W.heap.size a0 a1 a2 a3 n0 n1 n2 n3 c0 c1 c2 c3 ts m w3 (h.below hb0) hb0.size hs 0 (by rw [ho]; rfl))
  have HB := hide hb0
  have R1 := hide r1
  have R2 := hide r2
  have R3 := hide r3
  have HZ := hide (show W.heap.size + 3 ≤ w3.heap.size from by omega)
  have H := hide h
  have HS := hide hs
  have HCA := hide HCL
  have HL2 := hide (show ts.length = n2 from h.has.len)
  clear hw1 hw2 hw3 b1 b2 b3 hb0 r1 r2 r3 h ho hs s1 s2 s3 HCL
  refine HC.out.mono ?_
  rintro e w4 ⟨rfl, hb⟩
  replace R1 := hide (R1.out.below hb)
  replace R2 := hide (R2.out.below hb)
  replace R3 := hide (R3.out.below hb)
  replace HB := hide (HB.out.trans (hb.mono HB.out.size))
  replace HZ := hide (Nat.le_trans HZ.out hb.size)
  clear hb HC
  go_upto_region 3 with (fail)
  refine (mneed_ok 220 _).mono ?_
  rintro e w5 ⟨rfl, rfl⟩
  dsimp only
  go_upto_region 3 with (fail)
  have hm0 := H.out.below HB.out
  have HSF : Hid (∀ wX, Below w4.heap.size w4 wX → wX.cell? ⟨W.heap.size, 0, none⟩ = some (.slice a0 n0 c0) ∧ wX.cell? ⟨W.heap.size, 1, none⟩ = some (.slice a1 n1 c1) ∧ wX.cell? ⟨W.heap.size, 3, none⟩ = some (.slice a3 n3 c3) ∧ W.heap.size < wX.heap.size) := hide (fun wX hx => by
    have hr := R1.out.below hx
    obtain ⟨x0, x1, x2, x3⟩ := row4 hr
    exact ⟨x0, x1, x3, hr.lt⟩)
  have HD := hide (Below.refl w4.heap.size w4).drew
  have HSL := hide (ownS_any W.heap.size a0 c0 n0 (Cs encE m.sl) w4.drew (hm0.sl.below (HD.out.mono HB.out.size)) HB.out.size (Cs_one_cell encE_one _) HS.out.s0)
  have HPI := hide hm0.pin
  have HBD := hide hm0.bad
  have HPE := hide hm0
  clear hm0
  refine wp_region_noPanic ?_
  refine wp_region_T (fun wX => wX.cell? ⟨W.heap.size, 0, none⟩ = some (.slice a0 n0 c0) ∧ wX.cell? ⟨W.heap.size, 1, none⟩ = some (.slice a1 n1 c1) ∧ wX.cell? ⟨W.heap.size, 3, none⟩ = some (.slice a3 n3 c3) ∧ W.heap.size < wX.heap.size) 14 (by kernel_rfl) (HSF.out _ HD.out) (fun hHeld => ?_)
  (refine wpAnyT_take (i := 0) (v := ?_) rfl (by kernel_rfl) (by kernel_rfl) (by kernel_rfl) (by kernel_rfl) (fun _ _ _ h => h) (Or.inl ⟨by rfl, ?_⟩) (by assumption) ?_; rotate_left; (focus (intro w hSw; (try dsimp only at hSw); obtain ⟨kf0, kf1, kf2, kf3⟩ := hSw; go_simp; first | done | with_reducible rfl)); (try simp only [Act.put, List.getElem_toArray, List.getElem_cons_succ, List.getElem_cons_zero, List.setIfInBounds_toArray, List.set_cons_zero, List.set_cons_succ]))
  (refine wpAnyT_take (i := 1) (v := ?_) rfl (by kernel_rfl) (by kernel_rfl) (by kernel_rfl) (by kernel_rfl) (fun _ _ _ h => h) (Or.inl ⟨by rfl, ?_⟩) (by assumption) ?_; rotate_left; (focus (intro w hSw; (try dsimp only at hSw); obtain ⟨kf0, kf1, kf2, kf3⟩ := hSw; go_simp; first | done | with_reducible rfl)); (try simp only [Act.put, List.getElem_toArray, List.getElem_cons_succ, List.getElem_cons_zero, List.setIfInBounds_toArray, List.set_cons_zero, List.set_cons_succ]))
  (refine wpAnyT_take (i := 2) (v := ?_) rfl (by kernel_rfl) (by kernel_rfl) (by kernel_rfl) (by kernel_rfl) (fun _ _ _ h => h) (Or.inl ⟨by rfl, ?_⟩) (by assumption) ?_; rotate_left; (focus (intro w hSw; (try dsimp only at hSw); obtain ⟨kf0, kf1, kf2, kf3⟩ := hSw; go_simp; first | done | with_reducible rfl)); (try simp only [Act.put, List.getElem_toArray, List.getElem_cons_succ, List.getElem_cons_zero, List.setIfInBounds_toArray, List.set_cons_zero, List.set_cons_succ]))
  (refine wpAnyT_take (i := 5) (v := ?_) rfl (by kernel_rfl) (by kernel_rfl) (by kernel_rfl) (by kernel_rfl) (fun _ _ _ h => h) (Or.inl ⟨by rfl, ?_⟩) (by assumption) ?_; rotate_left; (focus (intro w hSw; (try dsimp only at hSw); obtain ⟨kf0, kf1, kf2, kf3⟩ := hSw; go_simp; first | done | with_reducible rfl)); (try simp only [Act.put, List.getElem_toArray, List.getElem_cons_succ, List.getElem_cons_zero, List.setIfInBounds_toArray, List.set_cons_zero, List.set_cons_succ]))
  (refine wpAnyT_take (i := 6) (v := ?_) rfl (by kernel_rfl) (by kernel_rfl) (by kernel_rfl) (by kernel_rfl) (fun _ _ _ h => h) (Or.inl ⟨by rfl, ?_⟩) (by assumption) ?_; rotate_left; (focus (intro w hSw; (try dsimp only at hSw); obtain ⟨kf0, kf1, kf2, kf3⟩ := hSw; go_simp; first | done | with_reducible rfl)); (try simp only [Act.put, List.getElem_toArray, List.getElem_cons_succ, List.getElem_cons_zero, List.setIfInBounds_toArray, List.set_cons_zero, List.set_cons_succ]))
  (refine wpAnyT_take (i := 8) (v := ?_) rfl (by kernel_rfl) (by kernel_rfl) (by kernel_rfl) (by kernel_rfl) (fun _ _ _ h => h) (Or.inl ⟨by rfl, ?_⟩) (by assumption) ?_; rotate_left; (focus (intro w hSw; (try dsimp only at hSw); obtain ⟨kf0, kf1, kf2, kf3⟩ := hSw; go_simp; first | done | with_reducible rfl)); (try simp only [Act.put, List.getElem_toArray, List.getElem_cons_succ, List.getElem_cons_zero, List.setIfInBounds_toArray, List.set_cons_zero, List.set_cons_succ]))
  (refine wpAnyT_take (i := 9) (v := ?_) rfl (by kernel_rfl) (by kernel_rfl) (by kernel_rfl) (by kernel_rfl) (fun _ _ _ h => h) (Or.inl ⟨by rfl, ?_⟩) (by assumption) ?_; rotate_left; (focus (intro w hSw; (try dsimp only at hSw); obtain ⟨kf0, kf1, kf2, kf3⟩ := hSw; go_simp; first | done | with_reducible rfl)); (try simp only [Act.put, List.getElem_toArray, List.getElem_cons_succ, List.getElem_cons_zero, List.setIfInBounds_toArray, List.set_cons_zero, List.set_cons_succ]))
  refine wpAnyT_one (i := 3) rfl (by kernel_rfl) (fun K0 hK0 => ?_)
  go_simp
  with_reducible refine HSL.out.mono ?_
  rintro e w5 ⟨rfl, ho5, hb5⟩
  have HO5 := hide (show World.ownsRow w5 w4.heap.size 47 2 (.slice (some ⟨w4.heap.size, 0, none⟩) n0 n0) n0 (Cs encE m.sl) from ho5)
  have HB5 := hide (HD.out.trans hb5)
  have HSB := hide (ownB_any W.heap.size a1 c1 n1 (Cs encB m.pin) w5 (HPI.out.below (HB5.out.mono HB.out.size)) (Nat.le_trans HB.out.size HB5.out.size) (Cs_one_cell encB_one _) HS.out.s1)
  clear ho5 hb5
  refine hK0.out _ _ (fun _ => HSF.out _ HB5.out) ?_
  clear hK0 K0
  (try simp only [Act.put, List.getElem_toArray, List.getElem_cons_succ, List.getElem_cons_zero, List.setIfInBounds_toArray, List.set_cons_zero, List.set_cons_succ])
  have hS5 := HSF.out _ HB5.out
  (refine wpAnyT_take (i := 4) (v := ?_) rfl (by kernel_rfl) (by kernel_rfl) (by kernel_rfl) (by kernel_rfl) (fun _ _ _ h => h) (Or.inl ⟨by rfl, ?_⟩) (by assumption) ?_; rotate_left; (focus (intro w hSw; (try dsimp only at hSw); obtain ⟨kf0, kf1, kf2, kf3⟩ := hSw; go_simp; first | done | with_reducible rfl)); (try simp only [Act.put, List.getElem_toArray, List.getElem_cons_succ, List.getElem_cons_zero, List.setIfInBounds_toArray, List.set_cons_zero, List.set_cons_succ]))
  clear hS5
  refine wpAnyT_one (i := 7) rfl (by kernel_rfl) (fun K1 hK1 => ?_)
  go_simp
  with_reducible refine HSB.out.mono ?_
  rintro e w6 ⟨rfl, ho6, hb6⟩
  have HO6 := hide ho6
  have HB6 := hide (HB5.out.trans (hb6.mono HB5.out.size))
  have HQ6 := hide hb6
  have HSX := hide (ownX_any W.heap.size a3 c3 n3 (Cs encX m.bad) w6 (HBD.out.below (HB6.out.mono HB.out.size)) (Nat.le_trans HB.out.size HB6.out.size) (Cs_one_cell encX_one _) HS.out.s3)
  clear ho6 hb6
  refine hK1.out _ _ (fun _ => HSF.out _ HB6.out) ?_
  clear hK1 K1
  (try simp only [Act.put, List.getElem_toArray, List.getElem_cons_succ, List.getElem_cons_zero, List.setIfInBounds_toArray, List.set_cons_zero, List.set_cons_succ])
  refine wpAnyT_one (i := 10) rfl (by kernel_rfl) (fun K2 hK2 => ?_)
  go_simp
  with_reducible refine HSX.out.mono ?_
  rintro e w7 ⟨rfl, ho7, hb7⟩
  have HO7 := hide ho7
  have HB7 := hide (HB6.out.trans (hb7.mono HB6.out.size))
  have HQ7 := hide hb7
  clear ho7 hb7
  refine hK2.out _ _ (fun _ => HSF.out _ HB7.out) ?_
  clear hK2 K2
  (try simp only [Act.put, List.getElem_toArray, List.getElem_cons_succ, List.getElem_cons_zero, List.setIfInBounds_toArray, List.set_cons_zero, List.set_cons_succ])
  have hS7 := HSF.out _ HB7.out
  (refine wpAnyT_take (i := 11) (v := ?_) rfl (by kernel_rfl) (by kernel_rfl) (by kernel_rfl) (by kernel_rfl) (fun _ _ _ h => h) (Or.inl ⟨by rfl, ?_⟩) (by assumption) ?_; rotate_left; (focus (intro w hSw; (try dsimp only at hSw); obtain ⟨kf0, kf1, kf2, kf3⟩ := hSw; go_simp; first | done | with_reducible rfl)); (try simp only [Act.put, List.getElem_toArray, List.getElem_cons_succ, List.getElem_cons_zero, List.setIfInBounds_toArray, List.set_cons_zero, List.set_cons_succ]))
  (refine wpAnyT_take (i := 12) (v := ?_) rfl (by kernel_rfl) (by kernel_rfl) (by kernel_rfl) (by kernel_rfl) (fun _ _ _ h => h) (Or.inl ⟨by rfl, ?_⟩) (by assumption) ?_; rotate_left; (focus (intro w hSw; (try dsimp only at hSw); obtain ⟨kf0, kf1, kf2, kf3⟩ := hSw; go_simp; first | done | with_reducible rfl)); (try simp only [Act.put, List.getElem_toArray, List.getElem_cons_succ, List.getElem_cons_zero, List.setIfInBounds_toArray, List.set_cons_zero, List.set_cons_succ]))
  clear hS7
  refine wpAnyT_one (i := 13) rfl (by kernel_rfl) (fun K3 hK3 => ?_)
  have HB8 := hide ((Below.refl w7.heap.size w7).alloc (Nat.le_refl _) (.cells #[.slice (some ⟨w4.heap.size, 0, none⟩) n0 n0, .slice (some ⟨w5.heap.size, 0, none⟩) n1 n1, .slice none 0 0, .slice (some ⟨w6.heap.size, 0, none⟩) n3 n3, .slice none 0 0] 85))
  go_simp
  refine hK3.out _ _ (fun _ => HSF.out _ (HB7.out.trans (HB8.out.mono HB7.out.size))) ?_
  clear hK3 K3
  (try simp only [Act.put, List.getElem_toArray, List.getElem_cons_succ, List.getElem_cons_zero, List.setIfInBounds_toArray, List.set_cons_zero, List.set_cons_succ])
  have HAT := hide (show WAt (w7.alloc (.cells #[.slice (some ⟨w4.heap.size, 0, none⟩) n0 n0, .slice (some ⟨w5.heap.size, 0, none⟩) n1 n1, .slice none 0 0, .slice (some ⟨w6.heap.size, 0, none⟩) n3 n3, .slice none 0 0] 85)) w7.heap.size (W.heap.size + 3) (some ⟨w4.heap.size, 0, none⟩) (some ⟨w5.heap.size, 0, none⟩) none (some ⟨w6.heap.size, 0, none⟩) none n0 n1 0 n3 0 n0 n1 0 n3 0 [] ⟨m.sl, m.pin, [], m.bad⟩ [] from
    ⟨RowAt.new _ _ _, SlAt.of_made (own_keepB (own_keepB (own_keepB HO5.out HQ6.out) HQ7.out) HB8.out) HZ.out HPE.out.l0, own_moreB (own_keepB (own_keepB HO6.out HQ7.out) HB8.out) (Nat.le_trans HZ.out HB5.out.size), World.ownsRow_nil _ _ _ _, (fun t ht => by cases ht), own_moreB (own_keepB HO7.out HB8.out) (Nat.le_trans HZ.out HB6.out.size), World.ownsRow_nil _ _ _ _, HPE.out.l1, rfl, HPE.out.l3, rfl, rfl, (fun i j hi => absurd hi (by simp)), (fun t ht => by cases ht)⟩)
  have HR1 := hide (R1.out.below (HB7.out.trans (HB8.out.mono HB7.out.size)))
  have HR2 := hide (R2.out.below (HB7.out.trans (HB8.out.mono HB7.out.size)))
  have HR3 := hide (R3.out.below (HB7.out.trans (HB8.out.mono HB7.out.size)))
  have HBW := hide (HB.out.trans ((HB7.out.trans (HB8.out.mono HB7.out.size)).mono HB.out.size))
  have HG7 := hide (show W.heap.size + 3 ≤ w7.heap.size from Nat.le_trans HZ.out HB7.out.size)
  generalize (some ⟨w4.heap.size, 0, none⟩ : Option Addr) = y0 at *
  generalize (some ⟨w5.heap.size, 0, none⟩ : Option Addr) = y1 at *
  generalize (some ⟨w6.heap.size, 0, none⟩ : Option Addr) = y3 at *
  generalize (w7.alloc (.cells #[.slice y0 n0 n0, .slice y1 n1 n1, .slice none 0 0, .slice y3 n3 n3, .slice none 0 0] 85)) = w8 at *
  obtain ⟨gx, hgx⟩ : ∃ gx, w7.heap.size = gx := ⟨_, rfl⟩
  rw [hgx] at HAT HG7 ⊢
  clear hgx
  have p0 := row1 HR2.out
  have pl := HR2.out.lt
  have pf := HR2.out.frozen 0
  refine wpAnyT_one (i := 14) rfl (by kernel_rfl) (fun K4 hK4 => ?_)
  go_simp
  refine hK4.out _ _ (fun h => absurd rfl h) ?_
  clear hK4 K4
  (try simp only [Act.put, List.getElem_toArray, List.getElem_cons_succ, List.getElem_cons_zero, List.setIfInBounds_toArray, List.set_cons_zero, List.set_cons_succ])
  refine wpAnyT_done (by kernel_rfl) ?_ _
  refine NoPanic.normal ?_
  have HCP := hide (show CpW W (w8.setCell ⟨W.heap.size + 1, 0, none⟩ (.pointer (some ⟨gx, 0, none⟩))) gx a0 a1 a2 a3 n0 n1 n2 n3 0 0 y0 y1 y3 none [] ⟨m.sl, m.pin, [], m.bad⟩ #[.slice a0 n0 c0, .slice a1 n1 c1, .slice a2 n2 c2, .slice a3 n3 c3] from
    ⟨HR1.out.setNe (by omega), HR2.out.set 0 _, HR3.out.setNe (by omega), HAT.out.setOther HR2.out (by decide) (by decide) (by decide) (by decide) (by decide) (by decide), HG7.out, HBW.out.setCell (p := ⟨W.heap.size + 1, 0, none⟩) (by show W.heap.size ≤ W.heap.size + 1; omega) _⟩)
  generalize (w8.setCell ⟨W.heap.size + 1, 0, none⟩ (.pointer (some ⟨gx, 0, none⟩))) = w9 at *
  clear p0 pl pf HAT HR1 HR2 HR3 HBW HB7 HO7 HQ7 HO6 HB6 HQ6 HO5 HB5 HSX HSB HSL HSF HD HPI HBD hHeld
  obtain ⟨x0, x1, x2, x3⟩ := row4 HCP.out.arg
  have xl := HCP.out.arg.lt
  go_wp2_with fail
  clear x0 x1 x2 x3 xl
  go_loopw [30] (fun i wr => ∃ (k : Nat) (yh : Option Addr) (d2 : Nat) (us : List Hm), k ≤ n2 ∧ i = .int .i64 k ∧ us.length = k ∧ rowsQ us = (rowsQ ts).take k ∧ CpW W wr gx a0 a1 a2 a3 n0 n1 n2 n3 k d2 y0 y1 y3 yh us ⟨m.sl, m.pin, rowsQ us, m.bad⟩ #[.slice a0 n0 c0, .slice a1 n1 c1, .slice a2 n2 c2, .slice a3 n3 c3]) (fun i _ => n2 - (intOf i).toNat)
  case atStart => exact ⟨0, none, 0, [], Nat.zero_le _, rfl, rfl, rfl, HCP.out⟩
  case round =>
    obtain ⟨k, yh, d2, us, hk, rfl, hul, hrq, hcp⟩ := hrel
    have HUL := hide hul
    have HRQ := hide hrq
    have HCK := hide hcp
    clear hul hrq hcp
    by_cases hlt : k < n2
    · have HLT := hide hlt
      have hlx : k < ts.length := by rw [HL2.out]; exact hlt
      obtain ⟨b, o, rfl, hb, d0, hq⟩ := (H.out.has.below HCK.out.below).at_ hlt
      have hbl : b < wr.heap.size := Nat.lt_of_lt_of_le hb HCK.out.below.size
      have hkm : (k : Int) < (n2 : Int) := by omega
      have hql := HS.out.rows _ (getH_mem hlx)
      have HTK := hide (show (rowsQ ts).take (k + 1) = (rowsQ ts).take k ++ [(ts.getD k hmZ).q] from by unfold rowsQ; rw [← List.map_take, takeH_succ hlx, ← List.map_take]; simp)
      generalize ts.getD k hmZ = t at *
      obtain ⟨tA, tc, tq⟩ := t
      dsimp only at *
      obtain ⟨tn, htn⟩ : ∃ n, tq.length = n := ⟨_, rfl⟩
      rw [htn] at d0 hq hql
      have HN := hide htn
      have HQ := hide hq
      have HK4 := hide (show k + 1 ≤ 4097 from by have := HS.out.s2; omega)
      clear htn hb hq
      go_upto_region 7 with (fail)
      have HFP := hide (show some (W.heap.size + 1) ≠ (Value.slice yh k d2).ownBlock from fun e => by obtain ⟨_, cs, hr⟩ := own_typ HCK.out.at_.has e.symm; exact absurd (row_typ hr HCK.out.ptr) (by decide))
      have HFX := hide (HCK.out.at_.nx HCK.out.at_.has (by decide))
      have HSX := hide (fun (wX : World) (hgX : wr.grownBy wX (Value.slice yh k d2).ownBlock) => show wX.cell? ⟨W.heap.size + 1, 0, none⟩ = some (.pointer (some ⟨gx, 0, none⟩)) ∧ wX.cell? ⟨gx, 2, none⟩ = some (.slice yh k d2) ∧ W.heap.size + 1 < wX.heap.size ∧ gx < wX.heap.size from
        ⟨gcell hgX (row1 HCK.out.ptr) HCK.out.ptr.lt HFP.out, gcell hgX (row5 HCK.out.at_.row).2.2.1 HCK.out.at_.row.lt HFX.out, Nat.lt_of_lt_of_le HCK.out.ptr.lt hgX.size, Nat.lt_of_lt_of_le HCK.out.at_.row.lt hgX.size⟩)
      have HD := hide (Below.refl wr.heap.size wr).drew
      have HCL := hide (ownE_any W.heap.size tA tc tn (Cs encE tq) wr.drew (HQ.out.below (HD.out.mono HCK.out.below.size)) HCK.out.below.size (Cs_one_cell encE_one _) hql)
      clear d0 hbl hql
      have hS0 := HSX.out _ (grown_of_below HD.out)
      refine wp_region_noPanic ?_
      refine wp_region_T (fun wX => wX.cell? ⟨W.heap.size + 1, 0, none⟩ = some (.pointer (some ⟨gx, 0, none⟩)) ∧ wX.cell? ⟨gx, 2, none⟩ = some (.slice yh k d2) ∧ W.heap.size + 1 < wX.heap.size ∧ gx < wX.heap.size) 13 (by kernel_rfl) (HSX.out _ (grown_of_below HD.out)) (fun hHeld => ?_)
      (refine wpAnyT_take (i := 0) (v := ?_) rfl (by kernel_rfl) (by kernel_rfl) (by kernel_rfl) (by kernel_rfl) (fun _ _ _ h => h) (Or.inl ⟨by rfl, ?_⟩) (by assumption) ?_; rotate_left; (focus (intro w hSw; (try dsimp only at hSw); obtain ⟨kf0, kf1, kf2, kf3⟩ := hSw; go_simp; first | done | with_reducible rfl)); (try simp only [Act.put, List.getElem_toArray, List.getElem_cons_succ, List.getElem_cons_zero, List.setIfInBounds_toArray, List.set_cons_zero, List.set_cons_succ]))
      (refine wpAnyT_take (i := 1) (v := ?_) rfl (by kernel_rfl) (by kernel_rfl) (by kernel_rfl) (by kernel_rfl) (fun _ _ _ h => h) (Or.inl ⟨by rfl, ?_⟩) (by assumption) ?_; rotate_left; (focus (intro w hSw; (try dsimp only at hSw); obtain ⟨kf0, kf1, kf2, kf3⟩ := hSw; go_simp; first | done | with_reducible rfl)); (try simp only [Act.put, List.getElem_toArray, List.getElem_cons_succ, List.getElem_cons_zero, List.setIfInBounds_toArray, List.set_cons_zero, List.set_cons_succ]))
      (refine wpAnyT_take (i := 2) (v := ?_) rfl (by kernel_rfl) (by kernel_rfl) (by kernel_rfl) (by kernel_rfl) (fun _ _ _ h => h) (Or.inl ⟨by rfl, ?_⟩) (by assumption) ?_; rotate_left; (focus (intro w hSw; (try dsimp only at hSw); obtain ⟨kf0, kf1, kf2, kf3⟩ := hSw; go_simp; first | done | with_reducible rfl)); (try simp only [Act.put, List.getElem_toArray, List.getElem_cons_succ, List.getElem_cons_zero, List.setIfInBounds_toArray, List.set_cons_zero, List.set_cons_succ]))
      (refine wpAnyT_take (i := 3) (v := ?_) rfl (by kernel_rfl) (by kernel_rfl) (by kernel_rfl) (by kernel_rfl) (fun _ _ _ h => h) (Or.inl ⟨by rfl, ?_⟩) (by assumption) ?_; rotate_left; (focus (intro w hSw; (try dsimp only at hSw); obtain ⟨kf0, kf1, kf2, kf3⟩ := hSw; go_simp; first | done | with_reducible rfl)); (try simp only [Act.put, List.getElem_toArray, List.getElem_cons_succ, List.getElem_cons_zero, List.setIfInBounds_toArray, List.set_cons_zero, List.set_cons_succ]))
      (refine wpAnyT_take (i := 4) (v := ?_) rfl (by kernel_rfl) (by kernel_rfl) (by kernel_rfl) (by kernel_rfl) (fun _ _ _ h => h) (Or.inl ⟨by rfl, ?_⟩) (by assumption) ?_; rotate_left; (focus (intro w hSw; (try dsimp only at hSw); obtain ⟨kf0, kf1, kf2, kf3⟩ := hSw; go_simp; first | done | with_reducible rfl)); (try simp only [Act.put, List.getElem_toArray, List.getElem_cons_succ, List.getElem_cons_zero, List.setIfInBounds_toArray, List.set_cons_zero, List.set_cons_succ]))
      (refine wpAnyT_take (i := 5) (v := ?_) rfl (by kernel_rfl) (by kernel_rfl) (by kernel_rfl) (by kernel_rfl) (fun _ _ _ h => h) (Or.inl ⟨by rfl, ?_⟩) (by assumption) ?_; rotate_left; (focus (intro w hSw; (try dsimp only at hSw); obtain ⟨kf0, kf1, kf2, kf3⟩ := hSw; go_simp; first | done | with_reducible rfl)); (try simp only [Act.put, List.getElem_toArray, List.getElem_cons_succ, List.getElem_cons_zero, List.setIfInBounds_toArray, List.set_cons_zero, List.set_cons_succ]))
      (refine wpAnyT_take (i := 6) (v := ?_) rfl (by kernel_rfl) (by kernel_rfl) (by kernel_rfl) (by kernel_rfl) (fun _ _ _ h => h) (Or.inl ⟨by rfl, ?_⟩) (by assumption) ?_; rotate_left; (focus (intro w hSw; (try dsimp only at hSw); obtain ⟨kf0, kf1, kf2, kf3⟩ := hSw; go_simp; first | done | with_reducible rfl)); (try simp only [Act.put, List.getElem_toArray, List.getElem_cons_succ, List.getElem_cons_zero, List.setIfInBounds_toArray, List.set_cons_zero, List.set_cons_succ]))
      refine wpAnyT_one (i := 7) rfl (by kernel_rfl) (fun K0 hK0 => ?_)
      go_simp
      with_reducible refine HCL.out.mono ?_
      rintro e w5 ⟨rfl, ho5, hb5⟩
      have HO5 := hide (show World.ownsRow w5 wr.heap.size 43 2 (.slice (some ⟨wr.heap.size, 0, none⟩) tn tn) tn (Cs encE tq) from ho5)
      have HB5 := hide (HD.out.trans hb5)
      clear ho5 hb5 hS0
      have hS0 := HSX.out _ (grown_of_below HB5.out)
      refine hK0.out _ _ (fun _ => hS0) ?_
      clear hK0 K0
      (try simp only [Act.put, List.getElem_toArray, List.getElem_cons_succ, List.getElem_cons_zero, List.setIfInBounds_toArray, List.set_cons_zero, List.set_cons_succ])
      refine wpAnyT_one (i := 8) rfl (by kernel_rfl) (fun K1 hK1 => ?_)
      have HB6 := hide (HB5.out.trans (((Below.refl w5.heap.size w5).alloc (Nat.le_refl _) (.cells #[.slice (some ⟨wr.heap.size, 0, none⟩) tn tn] 54)).mono HB5.out.size))
      have HO6 := hide (own_keepB HO5.out ((Below.refl w5.heap.size w5).alloc (Nat.le_refl _) (.cells #[.slice (some ⟨wr.heap.size, 0, none⟩) tn tn] 54)))
      have HSRC := hide (Rd.new w5 #[.slice (some ⟨wr.heap.size, 0, none⟩) tn tn] 54 1 1 rfl)
      go_simp
      clear hS0
      have hS0 := HSX.out _ (grown_of_below HB6.out)
      refine hK1.out _ _ (fun _ => hS0) ?_
      clear hK1 K1
      (try simp only [Act.put, List.getElem_toArray, List.getElem_cons_succ, List.getElem_cons_zero, List.setIfInBounds_toArray, List.set_cons_zero, List.set_cons_succ])
      generalize w5.alloc (.cells #[.slice (some ⟨wr.heap.size, 0, none⟩) tn tn] 54) = w6 at *
      have HC6 := hide (HCK.out.keep HB6.out)
      refine wpAnyT_one (i := 9) rfl (by kernel_rfl) (fun K2 hK2 => ?_)
      rw [if_pos (by rfl)]
      refine wp_app elH _ _ rfl rfl HC6.out.at_.has rfl HSRC.out (by simp [Value.oneCell']) (by have := HK4.out; omega) (Nat.le_trans HCK.out.gt (Nat.le_of_lt HC6.out.at_.row.lt)) ?_
      intro v7 w7 hown7 hb7 hg7 hx7
      obtain ⟨A7, c7, rfl, hc7, hcm7⟩ := own_form2 hown7
      clear hS0
      have hS0 := HSX.out _ (grown_trans (grown_of_below HB6.out) hg7)
      have HN7 := hide (HCK.out.add HB6.out hg7 (A := A7) (c := c7) (t := ⟨some ⟨wr.heap.size, 0, none⟩, tn, tq⟩) (by rw [Cs_append, Cs_one]; show World.ownsRow w7 _ _ _ _ _ (_ ++ [.slice (some ⟨wr.heap.size, 0, none⟩) tq.length tn]); rw [HN.out]; exact hown7) (by show World.ownsRow w6 _ _ _ (.slice (some ⟨wr.heap.size, 0, none⟩) tq.length tn) tq.length _; rw [HN.out]; exact own_moreB HO6.out (Nat.le_trans HCK.out.gt (Nat.le_of_lt HCK.out.at_.row.lt))) (fun p hp => by injection hp with hp; subst hp; exact Nat.le_refl _))
      have hfr7 : w7.frozen? ⟨gx, 2, none⟩ = false := RowAt.frozen (show RowAt w7 gx _ _ from (hg7.block gx HC6.out.at_.row.lt HFX.out).trans HC6.out.at_.row) 2
      clear hown7 hb7 hg7 hx7 hc7 hcm7
      refine hK2.out _ _ (fun _ => hS0) ?_
      clear hK2 K2
      (try simp only [Act.put, List.getElem_toArray, List.getElem_cons_succ, List.getElem_cons_zero, List.setIfInBounds_toArray, List.set_cons_zero, List.set_cons_succ])
      refine wpAnyT_one (i := 10) rfl (by kernel_rfl) (fun K3 hK3 => ?_)
      go_simp
      refine hK3.out _ _ (fun _ => hS0) ?_
      clear hK3 K3
      (try simp only [Act.put, List.getElem_toArray, List.getElem_cons_succ, List.getElem_cons_zero, List.setIfInBounds_toArray, List.set_cons_zero, List.set_cons_succ])
      refine wpAnyT_one (i := 11) rfl (by kernel_rfl) (fun K4 hK4 => ?_)
      go_simp
      refine hK4.out _ _ (fun _ => hS0) ?_
      clear hK4 K4
      (try simp only [Act.put, List.getElem_toArray, List.getElem_cons_succ, List.getElem_cons_zero, List.setIfInBounds_toArray, List.set_cons_zero, List.set_cons_succ])
      refine wpAnyT_one (i := 12) rfl (by kernel_rfl) (fun K5 hK5 => ?_)
      go_simp
      refine hK5.out _ _ (fun _ => hS0) ?_
      clear hK5 K5
      (try simp only [Act.put, List.getElem_toArray, List.getElem_cons_succ, List.getElem_cons_zero, List.setIfInBounds_toArray, List.set_cons_zero, List.set_cons_succ])
      refine wpAnyT_one (i := 13) rfl (by kernel_rfl) (fun K6 hK6 => ?_)
      obtain ⟨kf0, kf1, kf2, kf3⟩ := hS0
      go_simp
      refine hK6.out _ _ (fun h => absurd rfl h) ?_
      clear hK6 K6
      (try simp only [Act.put, List.getElem_toArray, List.getElem_cons_succ, List.getElem_cons_zero, List.setIfInBounds_toArray, List.set_cons_zero, List.set_cons_succ])
      refine wpAnyT_done (by kernel_rfl) ?_ _
      refine NoPanic.normal ?_
      have HUN := hide (show (us ++ [(⟨some ⟨wr.heap.size, 0, none⟩, tn, tq⟩ : Hm)]).length = k + 1 from by rw [List.length_append, HUL.out]; rfl)
      have HRN := hide (show rowsQ (us ++ [(⟨some ⟨wr.heap.size, 0, none⟩, tn, tq⟩ : Hm)]) = (rowsQ ts).take (k + 1) from by rw [HTK.out, ← HRQ.out]; simp [rowsQ])
      have HNF := hide (HN7.out)
      rw [show rowsQ us ++ [(⟨some ⟨wr.heap.size, 0, none⟩, tn, tq⟩ : Hm).q] = rowsQ (us ++ [(⟨some ⟨wr.heap.size, 0, none⟩, tn, tq⟩ : Hm)]) from by simp [rowsQ]] at HN7
      generalize (w7.setCell ⟨gx, 2, none⟩ (.slice A7 (k + 1) c7)) = w9 at *
      clear kf0 kf1 kf2 kf3 hfr7
      have hk4 := HK4.out
      go_wp2_with fail
      go_roundw
      case rel => exact ⟨k + 1, _, _, _, by have := HLT.out; omega, by go_num, HUN.out, HRN.out, HN7.out⟩
      case measure => have := HLT.out; have := HK4.out; simp [intOf]; omega
    · obtain rfl : k = n2 := by omega
      have hrq : rowsQ us = m.has := by rw [HRQ.out, H.out.hs, List.take_of_length_le (by rw [rowsQ_len, HL2.out]; exact Nat.le_refl _)]
      have hcp := HCK.out
      rw [hrq] at hcp
      have hgt := hcp.gt
      have HCB := hide (HCA.out wr gx y0 y1 yh y3 d2 us hcp.at_ hcp.below (Nat.le_trans hgt (Nat.le_of_lt hcp.at_.row.lt)) hgt)
      have HCK2 := hide hcp
      have p0 := row1 hcp.ptr
      have pl := hcp.ptr.lt
      clear hcp HCA HCK
      go_wp2_with fail
      refine HCB.out.mono ?_
      rintro e w9 ⟨hp9, hres⟩
      have R2 := hide (hp9.row HCK2.out.ptr (by omega) (by omega))
      have R3 := hide (hp9.row HCK2.out.err (by omega) (by omega))
      have HP9 := hide (HCK2.out.below.trans (show Below W.heap.size wr w9 from ⟨hp9.os, hp9.tape, hp9.output, hp9.size, fun j hj => hp9.block j (by omega) (by omega) (Nat.lt_of_lt_of_le hj HCK2.out.below.size)⟩))
      have c2x := row1 R2.out
      have c3x := row1 R3.out
      have f2 := R2.out.frozen 0
      have f3 := R3.out.frozen 0
      have l2 := R2.out.lt
      have l3 := R3.out.lt
      clear hp9 p0 pl HCB HCK2
      rcases hres with ⟨m9, tk9, rfl, rfl, hwe⟩ | ⟨k9, rfl, rfl⟩
      · have HWE := hide hwe
        clear hwe
        go_wp2_with fail
        refine leaves_cons (f := 63) (args := #[.pointer (some ⟨W.heap.size + 1, 0, none⟩), .pointer (some ⟨W.heap.size + 2, 0, none⟩)]) (by simp) (by simp [go_sem]) ?_
        refine (wcatch_idle ⟨W.heap.size + 1, 0, none⟩ ⟨W.heap.size + 2, 0, none⟩ _).mono ?_
        rintro e u' w'' ⟨rfl, rfl, rfl⟩
        have hr2 : RowAt ((w9.setCell ⟨W.heap.size + 1, 0, none⟩ (.pointer (some ⟨gx, 0, none⟩))).setCell ⟨W.heap.size + 2, 0, none⟩ (.int .i64 0)) (W.heap.size + 1) 79 #[.pointer (some ⟨gx, 0, none⟩)] := (R2.out.set 0 _).setNe (by omega)
        have hr3 : RowAt ((w9.setCell ⟨W.heap.size + 1, 0, none⟩ (.pointer (some ⟨gx, 0, none⟩))).setCell ⟨W.heap.size + 2, 0, none⟩ (.int .i64 0)) (W.heap.size + 2) 33 #[.int .i64 0] := (R3.out.setNe (by omega)).set 0 _
        have hfin : Below W.heap.size W ((w9.setCell ⟨W.heap.size + 1, 0, none⟩ (.pointer (some ⟨gx, 0, none⟩))).setCell ⟨W.heap.size + 2, 0, none⟩ (.int .i64 0)) := (HP9.out.setCell (p := ⟨W.heap.size + 1, 0, none⟩) (by show W.heap.size ≤ W.heap.size + 1; omega) _).setCell (p := ⟨W.heap.size + 2, 0, none⟩) (by show W.heap.size ≤ W.heap.size + 2; omega) _
        have hwf : WEx ((w9.setCell ⟨W.heap.size + 1, 0, none⟩ (.pointer (some ⟨gx, 0, none⟩))).setCell ⟨W.heap.size + 2, 0, none⟩ (.int .i64 0)) gx (W.heap.size + 3) m9 tk9 := by
          obtain ⟨b0, b1, b2, b3, b4, q0, q1, q2, q3, q4, e0, e1, e2, e3, e4, us9, hat, h4⟩ := HWE.out
          exact ⟨b0, b1, b2, b3, b4, q0, q1, q2, q3, q4, e0, e1, e2, e3, e4, us9, (hat.setOther R2.out (by decide) (by decide) (by decide) (by decide) (by decide) (by decide)).setOther (R3.out.setNe (by omega)) (by decide) (by decide) (by decide) (by decide) (by decide) (by decide), h4⟩
        generalize ((w9.setCell ⟨W.heap.size + 1, 0, none⟩ (.pointer (some ⟨gx, 0, none⟩))).setCell ⟨W.heap.size + 2, 0, none⟩ (.int .i64 0)) = wF at *
        simp [Leaves, settle, results, Try.results37, go_sem, row1 hr2, row1 hr3, hr2.lt, hr3.lt]
        exact ⟨hfin, .inl ⟨m9, tk9, gx, W.heap.size + 3, rfl, rfl, hwf, by omega, by omega⟩⟩
      · dsimp only
        refine leaves_cons (f := 63) (args := #[.pointer (some ⟨W.heap.size + 1, 0, none⟩), .pointer (some ⟨W.heap.size + 2, 0, none⟩)]) (by simp) (by simp [go_sem]) ?_
        refine (wcatch_err (W.heap.size + 1) (W.heap.size + 2) k9 _ _ w9 R2.out R3.out (by omega)).mono ?_
        rintro e u' w'' ⟨rfl, rfl, rfl⟩
        obtain ⟨h1, h2, h3, h4, h5, h6, h7, h8⟩ := wcatchW_facts (k := k9) R2.out R3.out (by omega)
        have hfin : Below W.heap.size W (wcatchW (W.heap.size + 1) (W.heap.size + 2) k9 w9) := ⟨h6.trans HP9.out.os, h7.trans HP9.out.tape, h8.trans HP9.out.output, Nat.le_trans HP9.out.size h5, fun j hj => (h4 j (by omega) (by omega) (Nat.lt_of_lt_of_le hj HP9.out.size)).trans (HP9.out.block j hj)⟩
        generalize wcatchW (W.heap.size + 1) (W.heap.size + 2) k9 w9 = wF at *
        simp [Leaves, settle, results, Try.results37, go_sem, row1 h1, row1 h2, h1.lt, h2.lt]
        exact ⟨hfin, .inr ⟨_, k9, rfl, rfl, h3⟩⟩
end Go.Proofs.Ytfpbabafeecncaa
