/-
  The reference's with, Retire, Advance, Take.
-/
import Derived.Test.YthnpcmigphpolaaDoorLjkp
set_option linter.unusedSimpArgs false
set_option linter.unusedVariables false
namespace Go.Proofs.YthnpcmigphpolaaDoor
open Go Go.RowKit
attribute [local go_sem] via_cell via_frozen

def pu {α : Type} (f : Nat → α) (k : Nat) (v : α) : Nat → α := fun j => if j = k then v else f j
/-- Where a limbo's rows lie. -/
def LowL (Q : Nat → Prop) (w : World) (A : Nat → Option Addr) : Prop := ∀ k p, k < 3 → A k = some p → Q p.block ∧ p.block < w.heap.size
theorem LowL.pu {Q : Nat → Prop} {w : World} {A : Nat → Option Addr} (h : LowL Q w A) (k : Nat) {A1 : Option Addr} (h1 : ∀ p, A1 = some p → Q p.block ∧ p.block < w.heap.size) : LowL Q w (pu A k A1) := by
  intro j p hj hp
  unfold Go.Proofs.YthnpcmigphpolaaDoor.pu at hp
  split at hp
  · exact h1 p hp
  · exact h j p hj hp
theorem LowL.more {Q : Nat → Prop} {w w' : World} {A : Nat → Option Addr} (h : LowL Q w A) (hs : w.heap.size ≤ w'.heap.size) : LowL Q w' A := fun k p hk hp => ⟨(h k p hk hp).1, Nat.lt_of_lt_of_le (h k p hk hp).2 hs⟩
theorem own_fresh2 {w : World} {base : Nat} {e : TypeId} {sz n : Nat} {A : Option Addr} {c : Nat} {xs : List Value} (h : w.ownsRow base e sz (.slice A n c) n xs) (p : Addr) (hp : A = some p) : base ≤ p.block ∧ p.block < w.heap.size := by
  rcases h.2 with ⟨hv, _⟩ | ⟨g, cap, cur, hv, hg, hh, _⟩
  · injection hv with h1; rw [hp] at h1; cases h1
  · injection hv with h1; rw [hp] at h1; injection h1 with h1; subst h1
    exact ⟨hg, (Array.getElem?_eq_some_iff.1 hh).1⟩
def valL : Except Int Lim → Lim
  | .ok l => l
  | .error _ => lim0
def errL {α : Type} : Except Int α → Int
  | .ok _ => 0
  | .error k => k
/-- The rows' lengths are within their capacities. -/
def CapL (n c : Nat → Nat) : Prop := ∀ k, k < 3 → (n k : Int) ≤ (c k : Int) ∧ (c k : Int) ≤ 9223372036854775807
theorem CapL.zero : CapL (fun _ => 0) (fun _ => 0) := fun k _ => ⟨by show ((0 : Nat) : Int) ≤ ((0 : Nat) : Int); omega, by show ((0 : Nat) : Int) ≤ 9223372036854775807; omega⟩
theorem CapL.pu {n c : Nat → Nat} (h : CapL n c) (k : Nat) {n1 c1 : Nat} (h1 : n1 ≤ c1) (h2 : c1 ≤ 9223372036854775807) : CapL (pu n k n1) (pu c k c1) := by
  intro j hj
  unfold Go.Proofs.YthnpcmigphpolaaDoor.pu
  by_cases hjk : j = k
  · simp only [if_pos hjk]; omega
  · simp only [if_neg hjk]; exact h j hj
def RefRes (W : World) (Q : Nat → Prop) (r : Except Int Lim) (e : Ending) (W' : World) : Prop := ∃ A' n' c', e = .returned (.tuple #[.agg (limC (valL r).E A' n' c'), .int .i64 (errL r)]) ∧ LimRd W' W'.heap.size A' n' (valL r).r ∧ LowL Q W' A' ∧ CapL n' c' ∧ Below W.heap.size W W'
theorem refRes_err {W W' : World} {Q : Nat → Prop} {r : Except Int Lim} {k : Int} (hr : r = .error k) (hb : Below W.heap.size W W') : RefRes W Q r (.returned (.tuple #[.agg zeroC, .int .i64 k])) W' := by
  subst hr
  exact ⟨fun _ => none, fun _ => 0, fun _ => 0, rfl, zero_rd W' _, fun k p _ h => (by cases h), CapL.zero, hb⟩
theorem refRes_ok {W W' : World} {Q : Nat → Prop} {r : Except Int Lim} {l : Lim} {A' : Nat → Option Addr} {n' c' : Nat → Nat} (hr : r = .ok l) (hd : LimRd W' W'.heap.size A' n' l.r) (hl : LowL Q W' A') (hcp : CapL n' c') (hb : Below W.heap.size W W') : RefRes W Q r (.returned (.tuple #[.agg (limC l.E A' n' c'), .int .i64 0])) W' := by
  subst hr
  exact ⟨A', n', c', rfl, hd, hl, hcp, hb⟩
theorem LimRd.put {w : World} {B : Nat} {A : Nat → Option Addr} {n : Nat → Nat} {r : Nat → List Ent} (h : LimRd w B A n r) (k : Nat) {A1 : Option Addr} {n1 : Nat} {xs : List Ent} (hr : Rd w B 2 A1 n1 (Cs encE xs)) (hx : xs.length = n1) : LimRd w B (pu A k A1) (pu n k n1) (upd r k xs) := by
  refine ⟨fun j hj => ?_, fun j hj => ?_⟩
  · unfold pu upd
    by_cases hjk : j = k
    · simp only [if_pos hjk]; exact hr
    · simp only [if_neg hjk]; exact h.rd j hj
  · unfold pu upd
    by_cases hjk : j = k
    · simp only [if_pos hjk]; exact hx
    · simp only [if_neg hjk]; exact h.len j hj
set_option maxHeartbeats 2000000 in
theorem with_any (A : Nat → Option Addr) (n c : Nat → Nat) (E ago : Nat) (As : Option Addr) (ns cs : Nat) (ha : ago < 3) (hle : ago ≤ E) (hE : E < 18446744073709551616) (W : World) :
    Calls Tryd.prog 44 #[.agg (limC E A n c), .int .u64 (ago : Int), .slice As ns cs] W fun e W' => e = .returned (.agg (limC E (pu A (rowN E ago) As) (pu n (rowN E ago) ns) (pu c (rowN E ago) cs))) ∧ Below W.heap.size W W' := by
  obtain ⟨w1, hww1⟩ : ∃ w1, W.alloc (.cells (limC E A n c) 26) = w1 := ⟨_, rfl⟩
  obtain ⟨w2, hw2⟩ : ∃ w2, w1.alloc (.cells zeroC 26) = w2 := ⟨_, rfl⟩
  have s1 : w1.heap.size = W.heap.size + 1 := by rw [← hww1]; simp
  have b1 : Below W.heap.size W w1 := by rw [← hww1]; exact (Below.refl _ _).alloc (Nat.le_refl _) _
  have b2 : Below w1.heap.size w1 w2 := by rw [← hw2]; exact (Below.refl _ _).alloc (Nat.le_refl _) _
  have r1 : RowAt w2 W.heap.size 26 (limC E A n c) := by have h := RowAt.new W 26 (limC E A n c); rw [hww1] at h; exact h.below b2
  have r2 : RowAt w2 (W.heap.size + 1) 26 zeroC := by have h := RowAt.new w1 26 zeroC; rw [hw2, s1] at h; exact h
  have HB := hide (b1.trans (b2.mono b1.size))
  have R1 := hide r1
  have R2 := hide r2
  have hk3 := rowN_lt E ago
  have hw1 : IntKind.u64.wrap ((E : Int) - (ago : Int)) = (E : Int) - (ago : Int) := IntWalk.u64_in _ (by omega)
  have hleI : (ago : Int) ≤ (E : Int) := by omega
  have hmod : ((E : Int) - (ago : Int)) % 3 = ((rowN E ago : Nat) : Int) := by rw [← rowN_ref hle]; omega
  have hkI : ((rowN E ago : Nat) : Int) < 3 := by omega
  clear b1 b2 s1 r1 r2 hle
  subst hw2
  subst hww1
  generalize rowN E ago = kk at *
  have HUP : Hid ((limC E A n c).setIfInBounds (1 + kk) (.slice As ns cs) = limC E (pu A kk As) (pu n kk ns) (pu c kk cs)) := hide (limC_updn E A n c hk3 As ns cs)
  generalize pu A kk As = A3 at *
  generalize pu n kk ns = n3 at *
  generalize pu c kk cs = c3 at *
  go_enter Tryd.func44, Tryd.ntmps44
  go_upto_region 1 with (fail)
  generalize (W.alloc (.cells (limC E A n c) 26)).alloc (.cells zeroC 26) = w2 at *
  have q0 : w2.cell? ⟨W.heap.size, 0, none⟩ = some (.int .u64 (E : Int)) := by rw [R1.out.cell 0]; rfl
  have hc := limC_cell R1.out hk3
  have hf := R1.out.frozen (1 + kk)
  have ql := R1.out.lt
  go_upto_region 2 with (fail)
  have R3 := hide (show RowAt (w2.setCell ⟨W.heap.size, 1 + kk, none⟩ (.slice As ns cs)) W.heap.size 26 (limC E A3 n3 c3) from by have h := R1.out.set (1 + kk) (.slice As ns cs); rw [HUP.out] at h; exact h)
  have R4 := hide (R2.out.setNe (g2 := W.heap.size) (o := 1 + kk) (v := .slice As ns cs) (by omega))
  have HB3 := hide (HB.out.setCell (p := ⟨W.heap.size, 1 + kk, none⟩) (Nat.le_refl _) (.slice As ns cs))
  clear q0 hc hf ql R1 R2 HB hmod hw1 hleI
  generalize w2.setCell ⟨W.heap.size, 1 + kk, none⟩ (.slice As ns cs) = w3 at *
  have q0 : w3.cell? ⟨W.heap.size, 0, none⟩ = some (.int .u64 (E : Int)) := by have := RowAt.cell R3.out 0; simpa [limC] using this
  have q1 : w3.cell? ⟨W.heap.size, 1, none⟩ = some (.slice (A3 0) (n3 0) (c3 0)) := by have := RowAt.cell R3.out 1; simpa [limC] using this
  have q2 : w3.cell? ⟨W.heap.size, 2, none⟩ = some (.slice (A3 1) (n3 1) (c3 1)) := by have := RowAt.cell R3.out 2; simpa [limC] using this
  have q3 : w3.cell? ⟨W.heap.size, 3, none⟩ = some (.slice (A3 2) (n3 2) (c3 2)) := by have := RowAt.cell R3.out 3; simpa [limC] using this
  have ql := R3.out.lt
  have z0 : w3.cell? ⟨(W.heap.size + 1), 0, none⟩ = some (.int .u64 0) := by have := RowAt.cell R4.out 0; simpa using this
  have z1 : w3.cell? ⟨(W.heap.size + 1), 1, none⟩ = some (.slice none 0 0) := by have := RowAt.cell R4.out 1; simpa using this
  have z2 : w3.cell? ⟨(W.heap.size + 1), 2, none⟩ = some (.slice none 0 0) := by have := RowAt.cell R4.out 2; simpa using this
  have z3 : w3.cell? ⟨(W.heap.size + 1), 3, none⟩ = some (.slice none 0 0) := by have := RowAt.cell R4.out 3; simpa using this
  have zl := RowAt.lt R4.out
  have f0 := RowAt.frozen R4.out 0
  have f1 := RowAt.frozen R4.out 1
  have f2 := RowAt.frozen R4.out 2
  have f3 := RowAt.frozen R4.out 3
  have HLD : Hid (LaidL (W.heap.size + 1) w3 (limC E A3 n3 c3) ((((w3.setCell ⟨(W.heap.size + 1), 0, none⟩ (.int .u64 (E : Int))).setCell ⟨(W.heap.size + 1), 1, none⟩ (.slice (A3 0) (n3 0) (c3 0))).setCell ⟨(W.heap.size + 1), 2, none⟩ (.slice (A3 1) (n3 1) (c3 1))).setCell ⟨(W.heap.size + 1), 3, none⟩ (.slice (A3 2) (n3 2) (c3 2)))) := hide (laidL_of R4.out rfl)
  go_wp2_with fail
  generalize ((((w3.setCell ⟨W.heap.size + 1, 0, none⟩ (.int .u64 (E : Int))).setCell ⟨W.heap.size + 1, 1, none⟩ (.slice (A3 0) (n3 0) (c3 0))).setCell ⟨W.heap.size + 1, 2, none⟩ (.slice (A3 1) (n3 1) (c3 1))).setCell ⟨W.heap.size + 1, 3, none⟩ (.slice (A3 2) (n3 2) (c3 2))) = w9 at *
  have y0 : w9.cell? ⟨W.heap.size + 1, 0, none⟩ = some (.int .u64 (E : Int)) := by have := HLD.out.row.cell 0; simpa [limC] using this
  have y1 : w9.cell? ⟨W.heap.size + 1, 1, none⟩ = some (.slice (A3 0) (n3 0) (c3 0)) := by have := HLD.out.row.cell 1; simpa [limC] using this
  have y2 : w9.cell? ⟨W.heap.size + 1, 2, none⟩ = some (.slice (A3 1) (n3 1) (c3 1)) := by have := HLD.out.row.cell 2; simpa [limC] using this
  have y3 : w9.cell? ⟨W.heap.size + 1, 3, none⟩ = some (.slice (A3 2) (n3 2) (c3 2)) := by have := HLD.out.row.cell 3; simpa [limC] using this
  have yl := HLD.out.row.lt
  refine bodyPost_ret (v := .agg (limC E A3 n3 c3)) (by simp [results, Tryd.results44, go_sem, y0, y1, y2, y3, yl]) rfl ?_
  exact ⟨rfl, HB3.out.trans (HLD.out.below.mono (by omega))⟩
theorem ofL_zero (l : Lim) : ofL l 0 = l.at 0 := by unfold ofL; rw [if_neg (Nat.not_lt_zero _)]
theorem has_held {l : Lim} (hok : l.ok = true) (s : Int) : hasB (heldL l) s = (hasB (l.r 0) s || (hasB (l.r 1) s || hasB (l.r 2) s)) := by
  have h3 : ∀ k, k < 3 → ∃ a, a < 3 ∧ rowN l.E a = k := fun k hk => by
    unfold rowN
    match k, hk with
    | 0, _ => exact ⟨l.E % 3, by omega, by omega⟩
    | 1, _ => exact ⟨(l.E + 2) % 3, by omega, by omega⟩
    | 2, _ => exact ⟨(l.E + 1) % 3, by omega, by omega⟩
  have hh : heldL l = l.at 2 ++ (l.at 1 ++ l.at 0) := by rw [heldL_ok hok]; rfl
  have hin : ∀ a, a < 3 → hasB (l.at a) s = true → hasB (heldL l) s = true := fun a ha h => by
    rw [hh]; unfold hasB at h ⊢
    rw [List.any_append, List.any_append]
    match a, ha with
    | 0, _ => rw [h]; simp
    | 1, _ => rw [h]; simp
    | 2, _ => rw [h]; simp
  rcases Bool.eq_false_or_eq_true (hasB (heldL l) s) with ht | hf
  · rw [ht]
    have h4 : hasB (l.at 2) s = true ∨ hasB (l.at 1) s = true ∨ hasB (l.at 0) s = true := by
      rw [hh] at ht; unfold hasB at ht ⊢
      rw [List.any_append, List.any_append] at ht
      simpa using ht
    have h5 : hasB (l.r 0) s = true ∨ hasB (l.r 1) s = true ∨ hasB (l.r 2) s = true := by
      rcases h4 with h | h | h <;> rcases at_row (l := l) _ with e | e | e <;> (rw [e] at h; simp [h])
    rcases h5 with h | h | h <;> simp [h]
  · rw [hf]
    have h6 : ∀ k, k < 3 → hasB (l.r k) s = false := fun k hk => by
      obtain ⟨a, ha, he⟩ := h3 k hk
      rcases Bool.eq_false_or_eq_true (hasB (l.r k) s) with h | h
      · exfalso
        have := hin a ha (by unfold Lim.at; rw [he]; exact h)
        rw [hf] at this; cases this
      · exact h
    rw [h6 0 (by omega), h6 1 (by omega), h6 2 (by omega)]; rfl
theorem keptB {B : Nat} {w w1 : World} {g o : Nat} {v : Value} (hb : Below B w w1) (hlt : g < B) (h : w.cell? ⟨g, o, none⟩ = some v) : w1.cell? ⟨g, o, none⟩ = some v := (hb.cell (p := ⟨g, o, none⟩) hlt).trans h
theorem rd_ent {w : World} {g : Nat} {s z : Int} (h : RowAt w g 34 #[.int .i64 s, .int .u64 z]) : Rd w w.heap.size 2 (some ⟨g, 0, none⟩) 1 (Cs encE [(s, z)]) := by
  refine ⟨rfl, fun _ => ⟨g, 0, rfl, h.lt, fun j u hu => ?_⟩⟩
  rw [show (0 : Nat) + j = j from Nat.zero_add j, h.cell]
  match j with
  | 0 => exact hu
  | 1 => exact hu
  | (k + 2) => simp [Cs, encE] at hu
theorem ret_row {w : World} {base n1 n9 c : Nat} {A : Option Addr} {xs ys : List Ent} {x : Ent} (h : w.ownsRow base 34 2 (.slice A n9 c) n9 (([] ++ Cs encE xs) ++ Cs encE [x])) (h9 : 0 + n1 + 1 = n9) (hx : xs.length = n1) (he : xs = ys) : Rd w w.heap.size 2 A n9 (Cs encE (ys ++ [x])) ∧ (ys ++ [x]).length = n9 := by
  subst he
  have e2 : Cs encE (xs ++ [x]) = ([] ++ Cs encE xs) ++ Cs encE [x] := by rw [Cs_append]; simp
  exact ⟨by rw [e2]; exact Rd.of_own h, by simp; omega⟩
set_option maxHeartbeats 8000000 in
theorem rret_any (Q : Nat → Prop) (A : Nat → Option Addr) (n c : Nat → Nat) (l : Lim) (s g : Int) (W : World) (h : LimRd W W.heap.size A n l.r) (hlo : LowL Q W A) (hl : ∀ j, W.heap.size ≤ j → Q j) (hok : l.ok = true) (hm : ∀ k, k < 3 → n k ≤ 4096) (hcp : CapL n c) :
    Calls Tryd.prog 18 #[.agg (limC l.E A n c), .agg #[.int .i64 s, .int .u64 g]] W (RefRes W Q (doRet l (s, g))) := by
  obtain ⟨w1, hw1⟩ : ∃ w1, W.alloc (.cells (limC l.E A n c) 26) = w1 := ⟨_, rfl⟩
  obtain ⟨w2, hw2⟩ : ∃ w2, w1.alloc (.cells #[.int .i64 s, .int .u64 g] 34) = w2 := ⟨_, rfl⟩
  obtain ⟨w3, hw3⟩ : ∃ w3, w2.alloc (.cells zeroC 26) = w3 := ⟨_, rfl⟩
  have s1 : w1.heap.size = W.heap.size + 1 := by rw [← hw1]; simp
  have s2 : w2.heap.size = W.heap.size + 1 + 1 := by rw [← hw2]; simp [s1]
  have b1 : Below W.heap.size W w1 := by rw [← hw1]; exact (Below.refl _ _).alloc (Nat.le_refl _) _
  have b2 : Below w1.heap.size w1 w2 := by rw [← hw2]; exact (Below.refl _ _).alloc (Nat.le_refl _) _
  have b3 : Below w2.heap.size w2 w3 := by rw [← hw3]; exact (Below.refl _ _).alloc (Nat.le_refl _) _
  have r1 : RowAt w3 W.heap.size 26 (limC l.E A n c) := by have h := RowAt.new W 26 (limC l.E A n c); rw [hw1] at h; exact (h.below b2).below b3
  have r2 : RowAt w3 (W.heap.size + 1) 34 #[.int .i64 s, .int .u64 g] := by have h := RowAt.new w1 34 #[.int .i64 s, .int .u64 g]; rw [hw2, s1] at h; exact h.below b3
  have r3 : RowAt w3 (W.heap.size + 1 + 1) 26 zeroC := by have h := RowAt.new w2 26 zeroC; rw [hw3, s2] at h; exact h
  have hb0 := (b1.trans (b2.mono b1.size)).trans (b3.mono (Nat.le_trans b1.size b2.size))
  have HB := hide hb0
  have R1 := hide r1
  have R2 := hide r2
  have R3 := hide r3
  have HD := hide ((h.below hb0).more hb0.size)
  have HD0 := hide (h.below hb0)
  have HLO := hide hlo
  have HL := hide hl
  have HCP := hide hcp
  have HOK := hide hok
  have HM := hide hm
  have HE : Hid (l.E < 18446744073709551616) := hide (by have := (ok_out hok).1; unfold LAST at this; omega)
  have HLN : Hid (∀ a, ofN l.E n a ≤ 4096) := hide (fun a => by
    unfold ofN
    split
    · omega
    · exact hm _ (rowN_lt l.E a))
  obtain ⟨be, hbe⟩ : ∃ b, entB (s, g) = b := ⟨_, rfl⟩
  obtain ⟨bh, hbh⟩ : ∃ b, hasB (heldL l) s = b := ⟨_, rfl⟩
  have HBE := hide hbe
  have HBH := hide hbh
  have HX : Hid (hasB (heldL l) s = (hasB (l.r 0) s || (hasB (l.r 1) s || hasB (l.r 2) s))) := hide (has_held hok s)
  have HLH : Hid ((heldL l).length ≤ 12288) := hide (by rw [heldL_ok hok]; have := ok_held_len hok; omega)
  clear b1 b2 b3 s1 s2 r1 r2 r3 hb0 h hlo hl hcp hok hm hbe hbh
  subst hw3
  subst hw2
  subst hw1
  go_enter Tryd.func18, Tryd.ntmps18
  go_upto_region 1 with (fail)
  generalize ((W.alloc (.cells (limC l.E A n c) 26)).alloc (.cells #[.int .i64 s, .int .u64 g] 34)).alloc (.cells zeroC 26) = w3 at *
  have e0 := row20 R2.out
  have e1 := row21 R2.out
  have el := R2.out.lt
  have HC := hide (refentry_any s g w3 be HBE.out)
  go_wp2_with fail
  with_reducible refine HC.out.mono ?_
  rintro e w4 ⟨rfl, hb⟩
  replace R1 := hide (R1.out.below hb)
  replace R2 := hide (R2.out.below hb)
  replace R3 := hide (R3.out.below hb)
  replace HD := hide ((HD.out.below hb).more hb.size)
  replace HD0 := hide (HD0.out.below (hb.mono HB.out.size))
  replace HB := hide (HB.out.trans (hb.mono HB.out.size))
  clear e0 e1 el hb HC
  cases be with
  | false =>
    have HF := hide (show doRet l (s, g) = .error 2 from by unfold doRet; rw [if_pos HBE.out])
    have z0 : w4.cell? ⟨(W.heap.size + 1 + 1), 0, none⟩ = some (.int .u64 0) := by have := RowAt.cell R3.out 0; simpa using this
    have z1 : w4.cell? ⟨(W.heap.size + 1 + 1), 1, none⟩ = some (.slice none 0 0) := by have := RowAt.cell R3.out 1; simpa using this
    have z2 : w4.cell? ⟨(W.heap.size + 1 + 1), 2, none⟩ = some (.slice none 0 0) := by have := RowAt.cell R3.out 2; simpa using this
    have z3 : w4.cell? ⟨(W.heap.size + 1 + 1), 3, none⟩ = some (.slice none 0 0) := by have := RowAt.cell R3.out 3; simpa using this
    have zl := RowAt.lt R3.out
    have f0 := RowAt.frozen R3.out 0
    have f1 := RowAt.frozen R3.out 1
    have f2 := RowAt.frozen R3.out 2
    have f3 := RowAt.frozen R3.out 3
    have HLD : Hid (LaidL (W.heap.size + 1 + 1) w4 zeroC ((((w4.setCell ⟨(W.heap.size + 1 + 1), 0, none⟩ (.int .u64 0)).setCell ⟨(W.heap.size + 1 + 1), 1, none⟩ (.slice none 0 0)).setCell ⟨(W.heap.size + 1 + 1), 2, none⟩ (.slice none 0 0)).setCell ⟨(W.heap.size + 1 + 1), 3, none⟩ (.slice none 0 0))) := hide (laidL_of R3.out rfl)
    go_wp2_with fail
    generalize ((((w4.setCell ⟨W.heap.size + 1 + 1, 0, none⟩ (.int .u64 0)).setCell ⟨W.heap.size + 1 + 1, 1, none⟩ (.slice none 0 0)).setCell ⟨W.heap.size + 1 + 1, 2, none⟩ (.slice none 0 0)).setCell ⟨W.heap.size + 1 + 1, 3, none⟩ (.slice none 0 0)) = w99 at *
    have y0 : w99.cell? ⟨W.heap.size + 1 + 1, 0, none⟩ = some (.int .u64 0) := by have := HLD.out.row.cell 0; simpa [limC] using this
    have y1 : w99.cell? ⟨W.heap.size + 1 + 1, 1, none⟩ = some (.slice none 0 0) := by have := HLD.out.row.cell 1; simpa [limC] using this
    have y2 : w99.cell? ⟨W.heap.size + 1 + 1, 2, none⟩ = some (.slice none 0 0) := by have := HLD.out.row.cell 2; simpa [limC] using this
    have y3 : w99.cell? ⟨W.heap.size + 1 + 1, 3, none⟩ = some (.slice none 0 0) := by have := HLD.out.row.cell 3; simpa [limC] using this
    have yl := HLD.out.row.lt
    refine bodyPost_ret (v := .tuple #[.agg zeroC, .int .i64 2]) (by simp [results, Tryd.results18, go_sem, y0, y1, y2, y3, yl]) rfl ?_
    exact refRes_err HF.out (HB.out.trans (HLD.out.below.mono (by omega)))
  | true =>
    go_wp2_with fail
    have q0 : w4.cell? ⟨W.heap.size, 0, none⟩ = some (.int .u64 (l.E : Int)) := by have := RowAt.cell R1.out 0; simpa [limC] using this
    have q1 : w4.cell? ⟨W.heap.size, 1, none⟩ = some (.slice (A 0) (n 0) (c 0)) := by have := RowAt.cell R1.out 1; simpa [limC] using this
    have q2 : w4.cell? ⟨W.heap.size, 2, none⟩ = some (.slice (A 1) (n 1) (c 1)) := by have := RowAt.cell R1.out 2; simpa [limC] using this
    have q3 : w4.cell? ⟨W.heap.size, 3, none⟩ = some (.slice (A 2) (n 2) (c 2)) := by have := RowAt.cell R1.out 3; simpa [limC] using this
    have e0 := row20 R2.out
    have e1 := row21 R2.out
    have el := R2.out.lt
    have ql := R1.out.lt
    have HRH := hide (fun (w : World) (hb : Below w4.heap.size w4 w) => row_res (rheld_any A n c l w ((HD.out.below hb).more hb.size) HE.out HM.out) rfl)
    have HHS := hide (fun (w : World) (Ah : Option Addr) (ch : Nat) (hr : Rd w w.heap.size 2 Ah (heldL l).length (Cs encE (heldL l))) => has_any w.heap.size Ah ch (heldL l).length s (heldL l) w hr rfl HLH.out (Nat.le_refl _) bh HBH.out)
    go_upto_region 3 with (fail)
    refine wp_region_held_drew (S := fun wX => Below w4.heap.size w4 wX) (by kernel_rfl) (Below.refl _ _).drew (fun hHeld => ?_)
    have HQ := hide ((Below.refl w4.heap.size w4).drew)
    (refine wpAnyH_take (i := 0) (v := ?_) rfl (by kernel_rfl) (by kernel_rfl) (by kernel_rfl) (fun _ _ _ h => h) (Or.inl ⟨by rfl, ?_⟩) (by assumption) ?_; rotate_left; (focus (intro w hSw; (try dsimp only at hSw); have kf0 := kept hSw q0; have kf1 := kept hSw q1; have kf2 := kept hSw q2; have kf3 := kept hSw q3; go_simp; first | done | with_reducible rfl)); (try simp only [Act.put, List.getElem_toArray, List.getElem_cons_succ, List.getElem_cons_zero, List.setIfInBounds_toArray, List.set_cons_zero, List.set_cons_succ]))
    (refine wpAnyH_take (i := 2) (v := ?_) rfl (by kernel_rfl) (by kernel_rfl) (by kernel_rfl) (fun _ _ _ h => h) (Or.inl ⟨by rfl, ?_⟩) (by assumption) ?_; rotate_left; (focus (intro w hSw; (try dsimp only at hSw); go_simp; first | done | with_reducible rfl)); (try simp only [Act.put, List.getElem_toArray, List.getElem_cons_succ, List.getElem_cons_zero, List.setIfInBounds_toArray, List.set_cons_zero, List.set_cons_succ]))
    (refine wpAnyH_take (i := 3) (v := ?_) rfl (by kernel_rfl) (by kernel_rfl) (by kernel_rfl) (fun _ _ _ h => h) (Or.inl ⟨by rfl, ?_⟩) (by assumption) ?_; rotate_left; (focus (intro w hSw; (try dsimp only at hSw); have kf0 := kept hSw e0; go_simp; first | done | with_reducible rfl)); (try simp only [Act.put, List.getElem_toArray, List.getElem_cons_succ, List.getElem_cons_zero, List.setIfInBounds_toArray, List.set_cons_zero, List.set_cons_succ]))
    refine wpAnyH_ready (rs := [1]) (by kernel_rfl) (by simp) ?_
    refine (AllReadyH.cons rfl (fun K0 hK0 => ?_) AllReadyH.nil)
    go_simp
    refine (HRH.out _ HQ.out).mono ?_
    rintro e u1 ⟨Ah, ch, rfl, hrh, _, hb_⟩
    have HRB := hide hrh
    clear hrh
    replace HQ := hide (HQ.out.trans (hb_.mono HQ.out.size))
    clear hb_
    refine hK0.out _ _ (HQ.out) (fun _ => ?_)
    clear hK0 K0
    (try simp only [Act.put, List.getElem_toArray, List.getElem_cons_succ, List.getElem_cons_zero, List.setIfInBounds_toArray, List.set_cons_zero, List.set_cons_succ])
    refine wpAnyH_ready (rs := [4]) (by kernel_rfl) (by simp) ?_
    refine (AllReadyH.cons rfl (fun K1 hK1 => ?_) AllReadyH.nil)
    go_simp
    refine (HHS.out _ Ah ch HRB.out).mono ?_
    rintro e u2 ⟨rfl, hb_⟩
    replace HQ := hide (HQ.out.trans (hb_.mono HQ.out.size))
    clear hb_
    refine hK1.out _ _ (HQ.out) (fun _ => ?_)
    clear hK1 K1
    (try simp only [Act.put, List.getElem_toArray, List.getElem_cons_succ, List.getElem_cons_zero, List.setIfInBounds_toArray, List.set_cons_zero, List.set_cons_succ])
    refine wpAnyH_done (by kernel_rfl) ?_ _
    replace R1 := hide (R1.out.below HQ.out)
    replace R2 := hide (R2.out.below HQ.out)
    replace R3 := hide (R3.out.below HQ.out)
    replace HD := hide ((HD.out.below HQ.out).more HQ.out.size)
    replace HD0 := hide (HD0.out.below (HQ.out.mono HB.out.size))
    replace HB := hide (HB.out.trans (HQ.out.mono HB.out.size))
    clear q0 q1 q2 q3 e0 e1 el ql HRH HHS HRB HQ
    cases bh with
    | true =>
      have HF := hide (show doRet l (s, g) = .error 5 from by unfold doRet; rw [if_neg (by rw [HBE.out]; simp), if_pos (by rw [← HX.out]; exact HBH.out)])
      have z0 : u2.cell? ⟨(W.heap.size + 1 + 1), 0, none⟩ = some (.int .u64 0) := by have := RowAt.cell R3.out 0; simpa using this
      have z1 : u2.cell? ⟨(W.heap.size + 1 + 1), 1, none⟩ = some (.slice none 0 0) := by have := RowAt.cell R3.out 1; simpa using this
      have z2 : u2.cell? ⟨(W.heap.size + 1 + 1), 2, none⟩ = some (.slice none 0 0) := by have := RowAt.cell R3.out 2; simpa using this
      have z3 : u2.cell? ⟨(W.heap.size + 1 + 1), 3, none⟩ = some (.slice none 0 0) := by have := RowAt.cell R3.out 3; simpa using this
      have zl := RowAt.lt R3.out
      have f0 := RowAt.frozen R3.out 0
      have f1 := RowAt.frozen R3.out 1
      have f2 := RowAt.frozen R3.out 2
      have f3 := RowAt.frozen R3.out 3
      have HLD : Hid (LaidL (W.heap.size + 1 + 1) u2 zeroC ((((u2.setCell ⟨(W.heap.size + 1 + 1), 0, none⟩ (.int .u64 0)).setCell ⟨(W.heap.size + 1 + 1), 1, none⟩ (.slice none 0 0)).setCell ⟨(W.heap.size + 1 + 1), 2, none⟩ (.slice none 0 0)).setCell ⟨(W.heap.size + 1 + 1), 3, none⟩ (.slice none 0 0))) := hide (laidL_of R3.out rfl)
      go_wp2_with fail
      generalize ((((u2.setCell ⟨W.heap.size + 1 + 1, 0, none⟩ (.int .u64 0)).setCell ⟨W.heap.size + 1 + 1, 1, none⟩ (.slice none 0 0)).setCell ⟨W.heap.size + 1 + 1, 2, none⟩ (.slice none 0 0)).setCell ⟨W.heap.size + 1 + 1, 3, none⟩ (.slice none 0 0)) = w99 at *
      have y0 : w99.cell? ⟨W.heap.size + 1 + 1, 0, none⟩ = some (.int .u64 0) := by have := HLD.out.row.cell 0; simpa [limC] using this
      have y1 : w99.cell? ⟨W.heap.size + 1 + 1, 1, none⟩ = some (.slice none 0 0) := by have := HLD.out.row.cell 1; simpa [limC] using this
      have y2 : w99.cell? ⟨W.heap.size + 1 + 1, 2, none⟩ = some (.slice none 0 0) := by have := HLD.out.row.cell 2; simpa [limC] using this
      have y3 : w99.cell? ⟨W.heap.size + 1 + 1, 3, none⟩ = some (.slice none 0 0) := by have := HLD.out.row.cell 3; simpa [limC] using this
      have yl := HLD.out.row.lt
      refine bodyPost_ret (v := .tuple #[.agg zeroC, .int .i64 5]) (by simp [results, Tryd.results18, go_sem, y0, y1, y2, y3, yl]) rfl ?_
      exact refRes_err HF.out (HB.out.trans (HLD.out.below.mono (by omega)))
    | false =>
      have HF := hide (show doRet l (s, g) = .ok ⟨l.E, upd l.r (rowN l.E 0) (l.at 0 ++ [(s, g)])⟩ from by unfold doRet; rw [if_neg (by rw [HBE.out]; simp), if_neg (by rw [← HX.out]; rw [HBH.out]; simp)])
      go_wp2_with fail
      have q0 : u2.cell? ⟨W.heap.size, 0, none⟩ = some (.int .u64 (l.E : Int)) := by have := RowAt.cell R1.out 0; simpa [limC] using this
      have q1 : u2.cell? ⟨W.heap.size, 1, none⟩ = some (.slice (A 0) (n 0) (c 0)) := by have := RowAt.cell R1.out 1; simpa [limC] using this
      have q2 : u2.cell? ⟨W.heap.size, 2, none⟩ = some (.slice (A 1) (n 1) (c 1)) := by have := RowAt.cell R1.out 2; simpa [limC] using this
      have q3 : u2.cell? ⟨W.heap.size, 3, none⟩ = some (.slice (A 2) (n 2) (c 2)) := by have := RowAt.cell R1.out 3; simpa [limC] using this
      have e0 := row20 R2.out
      have e1 := row21 R2.out
      have el := R2.out.lt
      have ql := R1.out.lt
      have HOF := hide (fun (w : World) => show Calls Tryd.prog 27 #[.agg (limC l.E A n c), .int .u64 0] w _ from of_any A n c l.E 0 (by omega) HE.out w)
      have HRD := hide (fun (w : World) (hb : Below u2.heap.size u2 w) => of_rd ((HD.out.below hb).more hb.size) 0)
      have HWT := hide (fun (w : World) (As : Option Addr) (ns cs : Nat) => show Calls Tryd.prog 44 #[.agg (limC l.E A n c), .int .u64 0, .slice As ns cs] w _ from with_any A n c l.E 0 As ns cs (by omega) (Nat.zero_le _) HE.out w)
      have HLA := hide (HRD.out u2 (Below.refl _ _)).2
      have HEA : Hid (ofL l 0 = l.at 0) := hide (ofL_zero l)
      have GLE : Hid (W.heap.size + 1 + 1 ≤ u2.heap.size) := hide (Nat.le_of_lt R3.out.lt)
      go_upto_region 5 with (fail)
      refine wp_region_held_drew (S := fun wX => Below (W.heap.size + 1 + 1) u2 wX) (by kernel_rfl) (Below.refl _ _).drew (fun hHeld => ?_)
      have HQ := hide ((Below.refl u2.heap.size u2).drew)
      (refine wpAnyH_take (i := 0) (v := ?_) rfl (by kernel_rfl) (by kernel_rfl) (by kernel_rfl) (fun _ _ _ h => h) (Or.inl ⟨by rfl, ?_⟩) (by assumption) ?_; rotate_left; (focus (intro w hSw; (try dsimp only at hSw); have kf0 := keptB hSw (by omega) q0; have kf1 := keptB hSw (by omega) q1; have kf2 := keptB hSw (by omega) q2; have kf3 := keptB hSw (by omega) q3; go_simp; first | done | with_reducible rfl)); (try simp only [Act.put, List.getElem_toArray, List.getElem_cons_succ, List.getElem_cons_zero, List.setIfInBounds_toArray, List.set_cons_zero, List.set_cons_succ]))
      (refine wpAnyH_take (i := 2) (v := ?_) rfl (by kernel_rfl) (by kernel_rfl) (by kernel_rfl) (fun _ _ _ h => h) (Or.inl ⟨by rfl, ?_⟩) (by assumption) ?_; rotate_left; (focus (intro w hSw; (try dsimp only at hSw); have kf0 := keptB hSw (by omega) q0; have kf1 := keptB hSw (by omega) q1; have kf2 := keptB hSw (by omega) q2; have kf3 := keptB hSw (by omega) q3; go_simp; first | done | with_reducible rfl)); (try simp only [Act.put, List.getElem_toArray, List.getElem_cons_succ, List.getElem_cons_zero, List.setIfInBounds_toArray, List.set_cons_zero, List.set_cons_succ]))
      (refine wpAnyH_take (i := 5) (v := ?_) rfl (by kernel_rfl) (by kernel_rfl) (by kernel_rfl) (fun _ _ _ h => h) (Or.inl ⟨by rfl, ?_⟩) (by assumption) ?_; rotate_left; (focus (intro w hSw; (try dsimp only at hSw); have kf0 := keptB hSw (by omega) e0; have kf1 := keptB hSw (by omega) e1; go_simp; first | done | with_reducible rfl)); (try simp only [Act.put, List.getElem_toArray, List.getElem_cons_succ, List.getElem_cons_zero, List.setIfInBounds_toArray, List.set_cons_zero, List.set_cons_succ]))
      generalize u2.drew = wd at *
      refine wpAnyH_ready (rs := [1, 3, 6]) (by kernel_rfl) (by simp) ?_
      refine (AllReadyH.cons rfl (fun K0 hK0 => ?_) (AllReadyH.cons rfl (fun K0 hK0 => ?_) (AllReadyH.cons rfl (fun K0 hK0 => ?_) AllReadyH.nil)))
      · go_simp
        refine hK0.out _ _ ((HQ.out.alloc HQ.out.size _).mono GLE.out) (fun _ => ?_)
        clear hK0 K0
        (try simp only [Act.put, List.getElem_toArray, List.getElem_cons_succ, List.getElem_cons_zero, List.setIfInBounds_toArray, List.set_cons_zero, List.set_cons_succ])
        have hbx : Below wd.heap.size wd (wd.alloc (.cells #[] 34)) := (Below.refl _ _).alloc (Nat.le_refl _) _
        have HO := hide (World.ownsRow_lit (base := u2.heap.size) (e := 34) (size := 2) wd #[] 0 HQ.out.size (by simp [maxLen]) rfl)
        have G1 := hide (show wd.heap.size < (wd.alloc (.cells #[] 34)).heap.size from by simp)
        replace HQ := hide (HQ.out.alloc HQ.out.size (.cells #[] 34))
        clear hbx
        generalize wd.alloc (.cells #[] 34) = wa0 at *
        refine wpAnyH_ready (rs := [3, 6]) (by kernel_rfl) (by simp) ?_
        refine (AllReadyH.cons rfl (fun K1 hK1 => ?_) (AllReadyH.cons rfl (fun K1 hK1 => ?_) AllReadyH.nil))
        · go_simp
          refine (HOF.out _).mono ?_
          rintro e wa1 ⟨rfl, hb1⟩
          replace HO := hide (own_keepB HO.out hb1)
          replace G1 := hide (Nat.lt_of_lt_of_le G1.out hb1.size)
          replace HQ := hide (HQ.out.trans (hb1.mono HQ.out.size))
          clear hb1
          refine hK1.out _ _ ((HQ.out).mono GLE.out) (fun _ => ?_)
          clear hK1 K1
          (try simp only [Act.put, List.getElem_toArray, List.getElem_cons_succ, List.getElem_cons_zero, List.setIfInBounds_toArray, List.set_cons_zero, List.set_cons_succ])
          refine wpAnyH_ready (rs := [4, 6]) (by kernel_rfl) (by simp) ?_
          refine (AllReadyH.cons rfl (fun K2 hK2 => ?_) (AllReadyH.cons rfl (fun K2 hK2 => ?_) AllReadyH.nil))
          · rw [if_pos (by rfl)]
            refine wp_app elE _ _ rfl rfl HO.out rfl (HRD.out _ HQ.out).1 (Cs_one_cell encE_one _) (by have := HLN.out 0; omega) HQ.out.size ?_
            intro v2 wa2 hown2 hb2 hbq2 hx2
            replace HO := hide hown2
            clear G1
            replace HQ := hide (HQ.out.trans hb2)
            clear hown2 hb2 hbq2 hx2
            refine hK2.out _ _ ((HQ.out).mono GLE.out) (fun _ => ?_)
            clear hK2 K2
            (try simp only [Act.put, List.getElem_toArray, List.getElem_cons_succ, List.getElem_cons_zero, List.setIfInBounds_toArray, List.set_cons_zero, List.set_cons_succ])
            refine wpAnyH_ready (rs := [6]) (by kernel_rfl) (by simp) ?_
            refine (AllReadyH.cons rfl (fun K3 hK3 => ?_) AllReadyH.nil)
            · go_simp
              refine hK3.out _ _ ((HQ.out.alloc HQ.out.size _).mono GLE.out) (fun _ => ?_)
              clear hK3 K3
              (try simp only [Act.put, List.getElem_toArray, List.getElem_cons_succ, List.getElem_cons_zero, List.setIfInBounds_toArray, List.set_cons_zero, List.set_cons_succ])
              have hbx : Below wa2.heap.size wa2 (wa2.alloc (.cells #[.int .i64 s, .int .u64 g] 34)) := (Below.refl _ _).alloc (Nat.le_refl _) _
              replace HO := hide (own_keepB HO.out hbx)
              have R6 := hide (RowAt.new wa2 34 #[.int .i64 s, .int .u64 g])
              replace HQ := hide (HQ.out.alloc HQ.out.size (.cells #[.int .i64 s, .int .u64 g] 34))
              clear hbx
              generalize wa2.alloc (.cells #[.int .i64 s, .int .u64 g] 34) = wa3 at *
              refine wpAnyH_ready (rs := [7]) (by kernel_rfl) (by simp) ?_
              refine (AllReadyH.cons rfl (fun K4 hK4 => ?_) AllReadyH.nil)
              · rw [if_pos (by rfl)]
                refine wp_app elE _ _ rfl rfl HO.out rfl (rd_ent R6.out) (Cs_one_cell encE_one _) (by have := HLN.out 0; omega) HQ.out.size ?_
                intro v4 wa4 hown4 hb4 hbq4 hx4
                replace HO := hide hown4
                replace HQ := hide (HQ.out.trans hb4)
                clear hown4 hb4 hbq4 hx4
                obtain ⟨A9, c9, rfl, hcq1, hcq2⟩ := own_form2 HO.out
                have HCQ := hide (CapL.pu HCP.out (rowN l.E 0) hcq1 hcq2)
                clear hcq1 hcq2
                generalize hn9 : 0 + ofN l.E n 0 + 1 = n9 at HO HCQ ⊢
                have HN9 := hide hn9
                clear hn9
                refine hK4.out _ _ ((HQ.out).mono GLE.out) (fun _ => ?_)
                clear hK4 K4
                (try simp only [Act.put, List.getElem_toArray, List.getElem_cons_succ, List.getElem_cons_zero, List.setIfInBounds_toArray, List.set_cons_zero, List.set_cons_succ])
                refine wpAnyH_ready (rs := [8]) (by kernel_rfl) (by simp) ?_
                refine (AllReadyH.cons rfl (fun K5 hK5 => ?_) AllReadyH.nil)
                · go_simp
                  refine (HWT.out _ A9 n9 c9).mono ?_
                  rintro e wa5 ⟨rfl, hb5⟩
                  replace HO := hide (own_keepB HO.out hb5)
                  replace HQ := hide (HQ.out.trans (hb5.mono HQ.out.size))
                  clear hb5
                  refine hK5.out _ _ ((HQ.out).mono GLE.out) (fun _ => ?_)
                  clear hK5 K5
                  (try simp only [Act.put, List.getElem_toArray, List.getElem_cons_succ, List.getElem_cons_zero, List.setIfInBounds_toArray, List.set_cons_zero, List.set_cons_succ])
                  refine wpAnyH_ready (rs := [9]) (by kernel_rfl) (by simp) ?_
                  refine (AllReadyH.cons rfl (fun K6 hK6 => ?_) AllReadyH.nil)
                  · skip
                    have R9 := hide (show RowAt wa5 (W.heap.size + 1 + 1) 26 zeroC from R3.out.below HQ.out)
                    obtain ⟨A8, hA8⟩ : ∃ x, pu A (rowN l.E 0) A9 = x := ⟨_, rfl⟩
                    obtain ⟨n8, hn8⟩ : ∃ x, pu n (rowN l.E 0) n9 = x := ⟨_, rfl⟩
                    obtain ⟨c8, hc8⟩ : ∃ x, pu c (rowN l.E 0) c9 = x := ⟨_, rfl⟩
                    rw [hA8, hn8, hc8]
                    have HA8 := hide hA8
                    have HN8 := hide hn8
                    have HC8 := hide hc8
                    clear hA8 hn8 hc8
                    have z0 : wa5.cell? ⟨(W.heap.size + 1 + 1), 0, none⟩ = some (.int .u64 0) := by have := RowAt.cell R9.out 0; simpa using this
                    have z1 : wa5.cell? ⟨(W.heap.size + 1 + 1), 1, none⟩ = some (.slice none 0 0) := by have := RowAt.cell R9.out 1; simpa using this
                    have z2 : wa5.cell? ⟨(W.heap.size + 1 + 1), 2, none⟩ = some (.slice none 0 0) := by have := RowAt.cell R9.out 2; simpa using this
                    have z3 : wa5.cell? ⟨(W.heap.size + 1 + 1), 3, none⟩ = some (.slice none 0 0) := by have := RowAt.cell R9.out 3; simpa using this
                    have zl := RowAt.lt R9.out
                    have f0 := RowAt.frozen R9.out 0
                    have f1 := RowAt.frozen R9.out 1
                    have f2 := RowAt.frozen R9.out 2
                    have f3 := RowAt.frozen R9.out 3
                    have HL9 : Hid (LaidL (W.heap.size + 1 + 1) wa5 (limC l.E A8 n8 c8) ((((wa5.setCell ⟨(W.heap.size + 1 + 1), 0, none⟩ (.int .u64 (l.E : Int))).setCell ⟨(W.heap.size + 1 + 1), 1, none⟩ (.slice (A8 0) (n8 0) (c8 0))).setCell ⟨(W.heap.size + 1 + 1), 2, none⟩ (.slice (A8 1) (n8 1) (c8 1))).setCell ⟨(W.heap.size + 1 + 1), 3, none⟩ (.slice (A8 2) (n8 2) (c8 2)))) := hide (laidL_of R9.out rfl)
                    go_simp
                    have HB9 := hide (show Below (W.heap.size + 1 + 1) u2 ((((wa5.setCell ⟨W.heap.size + 1 + 1, 0, none⟩ (.int .u64 (l.E : Int))).setCell ⟨W.heap.size + 1 + 1, 1, none⟩ (.slice (A8 0) (n8 0) (c8 0))).setCell ⟨W.heap.size + 1 + 1, 2, none⟩ (.slice (A8 1) (n8 1) (c8 1))).setCell ⟨W.heap.size + 1 + 1, 3, none⟩ (.slice (A8 2) (n8 2) (c8 2))) from (HQ.out.mono GLE.out).trans HL9.out.below)
                    refine hK6.out _ _ (HB9.out) (fun _ => ?_)
                    clear hK6 K6
                    (try simp only [Act.put, List.getElem_toArray, List.getElem_cons_succ, List.getElem_cons_zero, List.setIfInBounds_toArray, List.set_cons_zero, List.set_cons_succ])
                    clear z0 z1 z2 z3 zl f0 f1 f2 f3 R9
                    generalize ((((wa5.setCell ⟨W.heap.size + 1 + 1, 0, none⟩ (.int .u64 (l.E : Int))).setCell ⟨W.heap.size + 1 + 1, 1, none⟩ (.slice (A8 0) (n8 0) (c8 0))).setCell ⟨W.heap.size + 1 + 1, 2, none⟩ (.slice (A8 1) (n8 1) (c8 1))).setCell ⟨W.heap.size + 1 + 1, 3, none⟩ (.slice (A8 2) (n8 2) (c8 2))) = wt at *
                    have HO9 := hide (own_other2 HO.out (fun g1 h1 _ => HL9.out.block g1 (by have := R3.out.lt; omega)))
                    have HR9 := hide (ret_row HO9.out HN9.out HLA.out HEA.out)
                    have HRES := hide (show LimRd wt wt.heap.size A8 n8 (upd l.r (rowN l.E 0) (l.at 0 ++ [(s, g)])) from by rw [← HA8.out, ← HN8.out]; exact LimRd.put ((HD0.out.below (HB9.out.mono (by omega))).more (Nat.le_trans HB.out.size (Nat.le_trans (Nat.le_of_eq rfl) HB9.out.size))) _ HR9.out.1 HR9.out.2)
                    have HLOW : Hid (LowL Q wt A8) := hide (by rw [← HA8.out]; exact (HLO.out.more (Nat.le_trans HB.out.size HB9.out.size)).pu _ (fun p hp => ⟨HL.out _ (Nat.le_trans HB.out.size (own_fresh2 HO9.out p hp).1), (own_fresh2 HO9.out p hp).2⟩))
                    have HCAP : Hid (CapL n8 c8) := hide (by rw [← HN8.out, ← HC8.out]; exact HCQ.out)
                    have HFIN := hide (HB.out.trans (HB9.out.mono (by omega)))
                    (refine wpAnyH_take (i := 10) (v := ?_) rfl (by kernel_rfl) (by kernel_rfl) (by kernel_rfl) (fun _ _ _ h => h) (Or.inl ⟨by rfl, ?_⟩) (by assumption) ?_; rotate_left; (focus (intro w hSw; (try dsimp only at hSw); go_simp; first | done | with_reducible rfl)); (try simp only [Act.put, List.getElem_toArray, List.getElem_cons_succ, List.getElem_cons_zero, List.setIfInBounds_toArray, List.set_cons_zero, List.set_cons_succ]))
                    refine wpAnyH_done (by kernel_rfl) ?_ _
                    go_wp2_with fail
                    have HLD := HL9
                    have y0 : wt.cell? ⟨W.heap.size + 1 + 1, 0, none⟩ = some (.int .u64 (l.E : Int)) := by have := HLD.out.row.cell 0; simpa [limC] using this
                    have y1 : wt.cell? ⟨W.heap.size + 1 + 1, 1, none⟩ = some (.slice (A8 0) (n8 0) (c8 0)) := by have := HLD.out.row.cell 1; simpa [limC] using this
                    have y2 : wt.cell? ⟨W.heap.size + 1 + 1, 2, none⟩ = some (.slice (A8 1) (n8 1) (c8 1)) := by have := HLD.out.row.cell 2; simpa [limC] using this
                    have y3 : wt.cell? ⟨W.heap.size + 1 + 1, 3, none⟩ = some (.slice (A8 2) (n8 2) (c8 2)) := by have := HLD.out.row.cell 3; simpa [limC] using this
                    have yl := HLD.out.row.lt
                    refine bodyPost_ret (v := .tuple #[.agg (limC l.E A8 n8 c8), .int .i64 0]) (by simp [results, Tryd.results18, go_sem, y0, y1, y2, y3, yl]) rfl ?_
                    exact refRes_ok (l := ⟨l.E, upd l.r (rowN l.E 0) (l.at 0 ++ [(s, g)])⟩) HF.out HRES.out HLOW.out HCAP.out HFIN.out
          · go_simp
            refine hK2.out _ _ ((HQ.out.alloc HQ.out.size _).mono GLE.out) (fun _ => ?_)
            clear hK2 K2
            (try simp only [Act.put, List.getElem_toArray, List.getElem_cons_succ, List.getElem_cons_zero, List.setIfInBounds_toArray, List.set_cons_zero, List.set_cons_succ])
            have hbx : Below wa1.heap.size wa1 (wa1.alloc (.cells #[.int .i64 s, .int .u64 g] 34)) := (Below.refl _ _).alloc (Nat.le_refl _) _
            have NE6 := hide (show some wa1.heap.size ≠ some wd.heap.size from fun h => by injection h with h; exact absurd h (Nat.ne_of_gt G1.out))
            replace HO := hide (own_keepB HO.out hbx)
            replace G1 := hide (Nat.lt_of_lt_of_le G1.out hbx.size)
            have R6 := hide (RowAt.new wa1 34 #[.int .i64 s, .int .u64 g])
            replace HQ := hide (HQ.out.alloc HQ.out.size (.cells #[.int .i64 s, .int .u64 g] 34))
            clear hbx
            generalize wa1.alloc (.cells #[.int .i64 s, .int .u64 g] 34) = wa2 at *
            refine wpAnyH_ready (rs := [4]) (by kernel_rfl) (by simp) ?_
            refine (AllReadyH.cons rfl (fun K3 hK3 => ?_) AllReadyH.nil)
            · rw [if_pos (by rfl)]
              refine wp_app elE _ _ rfl rfl HO.out rfl (HRD.out _ HQ.out).1 (Cs_one_cell encE_one _) (by have := HLN.out 0; omega) HQ.out.size ?_
              intro v3 wa3 hown3 hb3 hbq3 hx3
              replace HO := hide hown3
              replace R6 := hide (R6.out.heap (hbq3.block _ R6.out.lt NE6.out))
              clear G1
              replace HQ := hide (HQ.out.trans hb3)
              clear hown3 hb3 hbq3 hx3
              refine hK3.out _ _ ((HQ.out).mono GLE.out) (fun _ => ?_)
              clear hK3 K3
              (try simp only [Act.put, List.getElem_toArray, List.getElem_cons_succ, List.getElem_cons_zero, List.setIfInBounds_toArray, List.set_cons_zero, List.set_cons_succ])
              refine wpAnyH_ready (rs := [7]) (by kernel_rfl) (by simp) ?_
              refine (AllReadyH.cons rfl (fun K4 hK4 => ?_) AllReadyH.nil)
              · rw [if_pos (by rfl)]
                refine wp_app elE _ _ rfl rfl HO.out rfl (rd_ent R6.out) (Cs_one_cell encE_one _) (by have := HLN.out 0; omega) HQ.out.size ?_
                intro v4 wa4 hown4 hb4 hbq4 hx4
                replace HO := hide hown4
                replace HQ := hide (HQ.out.trans hb4)
                clear hown4 hb4 hbq4 hx4
                obtain ⟨A9, c9, rfl, hcq1, hcq2⟩ := own_form2 HO.out
                have HCQ := hide (CapL.pu HCP.out (rowN l.E 0) hcq1 hcq2)
                clear hcq1 hcq2
                generalize hn9 : 0 + ofN l.E n 0 + 1 = n9 at HO HCQ ⊢
                have HN9 := hide hn9
                clear hn9
                refine hK4.out _ _ ((HQ.out).mono GLE.out) (fun _ => ?_)
                clear hK4 K4
                (try simp only [Act.put, List.getElem_toArray, List.getElem_cons_succ, List.getElem_cons_zero, List.setIfInBounds_toArray, List.set_cons_zero, List.set_cons_succ])
                refine wpAnyH_ready (rs := [8]) (by kernel_rfl) (by simp) ?_
                refine (AllReadyH.cons rfl (fun K5 hK5 => ?_) AllReadyH.nil)
                · go_simp
                  refine (HWT.out _ A9 n9 c9).mono ?_
                  rintro e wa5 ⟨rfl, hb5⟩
                  replace HO := hide (own_keepB HO.out hb5)
                  replace HQ := hide (HQ.out.trans (hb5.mono HQ.out.size))
                  clear hb5
                  refine hK5.out _ _ ((HQ.out).mono GLE.out) (fun _ => ?_)
                  clear hK5 K5
                  (try simp only [Act.put, List.getElem_toArray, List.getElem_cons_succ, List.getElem_cons_zero, List.setIfInBounds_toArray, List.set_cons_zero, List.set_cons_succ])
                  refine wpAnyH_ready (rs := [9]) (by kernel_rfl) (by simp) ?_
                  refine (AllReadyH.cons rfl (fun K6 hK6 => ?_) AllReadyH.nil)
                  · skip
                    have R9 := hide (show RowAt wa5 (W.heap.size + 1 + 1) 26 zeroC from R3.out.below HQ.out)
                    obtain ⟨A8, hA8⟩ : ∃ x, pu A (rowN l.E 0) A9 = x := ⟨_, rfl⟩
                    obtain ⟨n8, hn8⟩ : ∃ x, pu n (rowN l.E 0) n9 = x := ⟨_, rfl⟩
                    obtain ⟨c8, hc8⟩ : ∃ x, pu c (rowN l.E 0) c9 = x := ⟨_, rfl⟩
                    rw [hA8, hn8, hc8]
                    have HA8 := hide hA8
                    have HN8 := hide hn8
                    have HC8 := hide hc8
                    clear hA8 hn8 hc8
                    have z0 : wa5.cell? ⟨(W.heap.size + 1 + 1), 0, none⟩ = some (.int .u64 0) := by have := RowAt.cell R9.out 0; simpa using this
                    have z1 : wa5.cell? ⟨(W.heap.size + 1 + 1), 1, none⟩ = some (.slice none 0 0) := by have := RowAt.cell R9.out 1; simpa using this
                    have z2 : wa5.cell? ⟨(W.heap.size + 1 + 1), 2, none⟩ = some (.slice none 0 0) := by have := RowAt.cell R9.out 2; simpa using this
                    have z3 : wa5.cell? ⟨(W.heap.size + 1 + 1), 3, none⟩ = some (.slice none 0 0) := by have := RowAt.cell R9.out 3; simpa using this
                    have zl := RowAt.lt R9.out
                    have f0 := RowAt.frozen R9.out 0
                    have f1 := RowAt.frozen R9.out 1
                    have f2 := RowAt.frozen R9.out 2
                    have f3 := RowAt.frozen R9.out 3
                    have HL9 : Hid (LaidL (W.heap.size + 1 + 1) wa5 (limC l.E A8 n8 c8) ((((wa5.setCell ⟨(W.heap.size + 1 + 1), 0, none⟩ (.int .u64 (l.E : Int))).setCell ⟨(W.heap.size + 1 + 1), 1, none⟩ (.slice (A8 0) (n8 0) (c8 0))).setCell ⟨(W.heap.size + 1 + 1), 2, none⟩ (.slice (A8 1) (n8 1) (c8 1))).setCell ⟨(W.heap.size + 1 + 1), 3, none⟩ (.slice (A8 2) (n8 2) (c8 2)))) := hide (laidL_of R9.out rfl)
                    go_simp
                    have HB9 := hide (show Below (W.heap.size + 1 + 1) u2 ((((wa5.setCell ⟨W.heap.size + 1 + 1, 0, none⟩ (.int .u64 (l.E : Int))).setCell ⟨W.heap.size + 1 + 1, 1, none⟩ (.slice (A8 0) (n8 0) (c8 0))).setCell ⟨W.heap.size + 1 + 1, 2, none⟩ (.slice (A8 1) (n8 1) (c8 1))).setCell ⟨W.heap.size + 1 + 1, 3, none⟩ (.slice (A8 2) (n8 2) (c8 2))) from (HQ.out.mono GLE.out).trans HL9.out.below)
                    refine hK6.out _ _ (HB9.out) (fun _ => ?_)
                    clear hK6 K6
                    (try simp only [Act.put, List.getElem_toArray, List.getElem_cons_succ, List.getElem_cons_zero, List.setIfInBounds_toArray, List.set_cons_zero, List.set_cons_succ])
                    clear z0 z1 z2 z3 zl f0 f1 f2 f3 R9
                    generalize ((((wa5.setCell ⟨W.heap.size + 1 + 1, 0, none⟩ (.int .u64 (l.E : Int))).setCell ⟨W.heap.size + 1 + 1, 1, none⟩ (.slice (A8 0) (n8 0) (c8 0))).setCell ⟨W.heap.size + 1 + 1, 2, none⟩ (.slice (A8 1) (n8 1) (c8 1))).setCell ⟨W.heap.size + 1 + 1, 3, none⟩ (.slice (A8 2) (n8 2) (c8 2))) = wt at *
                    have HO9 := hide (own_other2 HO.out (fun g1 h1 _ => HL9.out.block g1 (by have := R3.out.lt; omega)))
                    have HR9 := hide (ret_row HO9.out HN9.out HLA.out HEA.out)
                    have HRES := hide (show LimRd wt wt.heap.size A8 n8 (upd l.r (rowN l.E 0) (l.at 0 ++ [(s, g)])) from by rw [← HA8.out, ← HN8.out]; exact LimRd.put ((HD0.out.below (HB9.out.mono (by omega))).more (Nat.le_trans HB.out.size (Nat.le_trans (Nat.le_of_eq rfl) HB9.out.size))) _ HR9.out.1 HR9.out.2)
                    have HLOW : Hid (LowL Q wt A8) := hide (by rw [← HA8.out]; exact (HLO.out.more (Nat.le_trans HB.out.size HB9.out.size)).pu _ (fun p hp => ⟨HL.out _ (Nat.le_trans HB.out.size (own_fresh2 HO9.out p hp).1), (own_fresh2 HO9.out p hp).2⟩))
                    have HCAP : Hid (CapL n8 c8) := hide (by rw [← HN8.out, ← HC8.out]; exact HCQ.out)
                    have HFIN := hide (HB.out.trans (HB9.out.mono (by omega)))
                    (refine wpAnyH_take (i := 10) (v := ?_) rfl (by kernel_rfl) (by kernel_rfl) (by kernel_rfl) (fun _ _ _ h => h) (Or.inl ⟨by rfl, ?_⟩) (by assumption) ?_; rotate_left; (focus (intro w hSw; (try dsimp only at hSw); go_simp; first | done | with_reducible rfl)); (try simp only [Act.put, List.getElem_toArray, List.getElem_cons_succ, List.getElem_cons_zero, List.setIfInBounds_toArray, List.set_cons_zero, List.set_cons_succ]))
                    refine wpAnyH_done (by kernel_rfl) ?_ _
                    go_wp2_with fail
                    have HLD := HL9
                    have y0 : wt.cell? ⟨W.heap.size + 1 + 1, 0, none⟩ = some (.int .u64 (l.E : Int)) := by have := HLD.out.row.cell 0; simpa [limC] using this
                    have y1 : wt.cell? ⟨W.heap.size + 1 + 1, 1, none⟩ = some (.slice (A8 0) (n8 0) (c8 0)) := by have := HLD.out.row.cell 1; simpa [limC] using this
                    have y2 : wt.cell? ⟨W.heap.size + 1 + 1, 2, none⟩ = some (.slice (A8 1) (n8 1) (c8 1)) := by have := HLD.out.row.cell 2; simpa [limC] using this
                    have y3 : wt.cell? ⟨W.heap.size + 1 + 1, 3, none⟩ = some (.slice (A8 2) (n8 2) (c8 2)) := by have := HLD.out.row.cell 3; simpa [limC] using this
                    have yl := HLD.out.row.lt
                    refine bodyPost_ret (v := .tuple #[.agg (limC l.E A8 n8 c8), .int .i64 0]) (by simp [results, Tryd.results18, go_sem, y0, y1, y2, y3, yl]) rfl ?_
                    exact refRes_ok (l := ⟨l.E, upd l.r (rowN l.E 0) (l.at 0 ++ [(s, g)])⟩) HF.out HRES.out HLOW.out HCAP.out HFIN.out
        · go_simp
          refine hK1.out _ _ ((HQ.out.alloc HQ.out.size _).mono GLE.out) (fun _ => ?_)
          clear hK1 K1
          (try simp only [Act.put, List.getElem_toArray, List.getElem_cons_succ, List.getElem_cons_zero, List.setIfInBounds_toArray, List.set_cons_zero, List.set_cons_succ])
          have hbx : Below wa0.heap.size wa0 (wa0.alloc (.cells #[.int .i64 s, .int .u64 g] 34)) := (Below.refl _ _).alloc (Nat.le_refl _) _
          have NE6 := hide (show some wa0.heap.size ≠ some wd.heap.size from fun h => by injection h with h; exact absurd h (Nat.ne_of_gt G1.out))
          replace HO := hide (own_keepB HO.out hbx)
          replace G1 := hide (Nat.lt_of_lt_of_le G1.out hbx.size)
          have R6 := hide (RowAt.new wa0 34 #[.int .i64 s, .int .u64 g])
          replace HQ := hide (HQ.out.alloc HQ.out.size (.cells #[.int .i64 s, .int .u64 g] 34))
          clear hbx
          generalize wa0.alloc (.cells #[.int .i64 s, .int .u64 g] 34) = wa1 at *
          refine wpAnyH_ready (rs := [3]) (by kernel_rfl) (by simp) ?_
          refine (AllReadyH.cons rfl (fun K2 hK2 => ?_) AllReadyH.nil)
          · go_simp
            refine (HOF.out _).mono ?_
            rintro e wa2 ⟨rfl, hb2⟩
            replace HO := hide (own_keepB HO.out hb2)
            replace G1 := hide (Nat.lt_of_lt_of_le G1.out hb2.size)
            replace R6 := hide (R6.out.below hb2)
            replace HQ := hide (HQ.out.trans (hb2.mono HQ.out.size))
            clear hb2
            refine hK2.out _ _ ((HQ.out).mono GLE.out) (fun _ => ?_)
            clear hK2 K2
            (try simp only [Act.put, List.getElem_toArray, List.getElem_cons_succ, List.getElem_cons_zero, List.setIfInBounds_toArray, List.set_cons_zero, List.set_cons_succ])
            refine wpAnyH_ready (rs := [4]) (by kernel_rfl) (by simp) ?_
            refine (AllReadyH.cons rfl (fun K3 hK3 => ?_) AllReadyH.nil)
            · rw [if_pos (by rfl)]
              refine wp_app elE _ _ rfl rfl HO.out rfl (HRD.out _ HQ.out).1 (Cs_one_cell encE_one _) (by have := HLN.out 0; omega) HQ.out.size ?_
              intro v3 wa3 hown3 hb3 hbq3 hx3
              replace HO := hide hown3
              replace R6 := hide (R6.out.heap (hbq3.block _ R6.out.lt NE6.out))
              clear G1
              replace HQ := hide (HQ.out.trans hb3)
              clear hown3 hb3 hbq3 hx3
              refine hK3.out _ _ ((HQ.out).mono GLE.out) (fun _ => ?_)
              clear hK3 K3
              (try simp only [Act.put, List.getElem_toArray, List.getElem_cons_succ, List.getElem_cons_zero, List.setIfInBounds_toArray, List.set_cons_zero, List.set_cons_succ])
              refine wpAnyH_ready (rs := [7]) (by kernel_rfl) (by simp) ?_
              refine (AllReadyH.cons rfl (fun K4 hK4 => ?_) AllReadyH.nil)
              · rw [if_pos (by rfl)]
                refine wp_app elE _ _ rfl rfl HO.out rfl (rd_ent R6.out) (Cs_one_cell encE_one _) (by have := HLN.out 0; omega) HQ.out.size ?_
                intro v4 wa4 hown4 hb4 hbq4 hx4
                replace HO := hide hown4
                replace HQ := hide (HQ.out.trans hb4)
                clear hown4 hb4 hbq4 hx4
                obtain ⟨A9, c9, rfl, hcq1, hcq2⟩ := own_form2 HO.out
                have HCQ := hide (CapL.pu HCP.out (rowN l.E 0) hcq1 hcq2)
                clear hcq1 hcq2
                generalize hn9 : 0 + ofN l.E n 0 + 1 = n9 at HO HCQ ⊢
                have HN9 := hide hn9
                clear hn9
                refine hK4.out _ _ ((HQ.out).mono GLE.out) (fun _ => ?_)
                clear hK4 K4
                (try simp only [Act.put, List.getElem_toArray, List.getElem_cons_succ, List.getElem_cons_zero, List.setIfInBounds_toArray, List.set_cons_zero, List.set_cons_succ])
                refine wpAnyH_ready (rs := [8]) (by kernel_rfl) (by simp) ?_
                refine (AllReadyH.cons rfl (fun K5 hK5 => ?_) AllReadyH.nil)
                · go_simp
                  refine (HWT.out _ A9 n9 c9).mono ?_
                  rintro e wa5 ⟨rfl, hb5⟩
                  replace HO := hide (own_keepB HO.out hb5)
                  replace HQ := hide (HQ.out.trans (hb5.mono HQ.out.size))
                  clear hb5
                  refine hK5.out _ _ ((HQ.out).mono GLE.out) (fun _ => ?_)
                  clear hK5 K5
                  (try simp only [Act.put, List.getElem_toArray, List.getElem_cons_succ, List.getElem_cons_zero, List.setIfInBounds_toArray, List.set_cons_zero, List.set_cons_succ])
                  refine wpAnyH_ready (rs := [9]) (by kernel_rfl) (by simp) ?_
                  refine (AllReadyH.cons rfl (fun K6 hK6 => ?_) AllReadyH.nil)
                  · skip
                    have R9 := hide (show RowAt wa5 (W.heap.size + 1 + 1) 26 zeroC from R3.out.below HQ.out)
                    obtain ⟨A8, hA8⟩ : ∃ x, pu A (rowN l.E 0) A9 = x := ⟨_, rfl⟩
                    obtain ⟨n8, hn8⟩ : ∃ x, pu n (rowN l.E 0) n9 = x := ⟨_, rfl⟩
                    obtain ⟨c8, hc8⟩ : ∃ x, pu c (rowN l.E 0) c9 = x := ⟨_, rfl⟩
                    rw [hA8, hn8, hc8]
                    have HA8 := hide hA8
                    have HN8 := hide hn8
                    have HC8 := hide hc8
                    clear hA8 hn8 hc8
                    have z0 : wa5.cell? ⟨(W.heap.size + 1 + 1), 0, none⟩ = some (.int .u64 0) := by have := RowAt.cell R9.out 0; simpa using this
                    have z1 : wa5.cell? ⟨(W.heap.size + 1 + 1), 1, none⟩ = some (.slice none 0 0) := by have := RowAt.cell R9.out 1; simpa using this
                    have z2 : wa5.cell? ⟨(W.heap.size + 1 + 1), 2, none⟩ = some (.slice none 0 0) := by have := RowAt.cell R9.out 2; simpa using this
                    have z3 : wa5.cell? ⟨(W.heap.size + 1 + 1), 3, none⟩ = some (.slice none 0 0) := by have := RowAt.cell R9.out 3; simpa using this
                    have zl := RowAt.lt R9.out
                    have f0 := RowAt.frozen R9.out 0
                    have f1 := RowAt.frozen R9.out 1
                    have f2 := RowAt.frozen R9.out 2
                    have f3 := RowAt.frozen R9.out 3
                    have HL9 : Hid (LaidL (W.heap.size + 1 + 1) wa5 (limC l.E A8 n8 c8) ((((wa5.setCell ⟨(W.heap.size + 1 + 1), 0, none⟩ (.int .u64 (l.E : Int))).setCell ⟨(W.heap.size + 1 + 1), 1, none⟩ (.slice (A8 0) (n8 0) (c8 0))).setCell ⟨(W.heap.size + 1 + 1), 2, none⟩ (.slice (A8 1) (n8 1) (c8 1))).setCell ⟨(W.heap.size + 1 + 1), 3, none⟩ (.slice (A8 2) (n8 2) (c8 2)))) := hide (laidL_of R9.out rfl)
                    go_simp
                    have HB9 := hide (show Below (W.heap.size + 1 + 1) u2 ((((wa5.setCell ⟨W.heap.size + 1 + 1, 0, none⟩ (.int .u64 (l.E : Int))).setCell ⟨W.heap.size + 1 + 1, 1, none⟩ (.slice (A8 0) (n8 0) (c8 0))).setCell ⟨W.heap.size + 1 + 1, 2, none⟩ (.slice (A8 1) (n8 1) (c8 1))).setCell ⟨W.heap.size + 1 + 1, 3, none⟩ (.slice (A8 2) (n8 2) (c8 2))) from (HQ.out.mono GLE.out).trans HL9.out.below)
                    refine hK6.out _ _ (HB9.out) (fun _ => ?_)
                    clear hK6 K6
                    (try simp only [Act.put, List.getElem_toArray, List.getElem_cons_succ, List.getElem_cons_zero, List.setIfInBounds_toArray, List.set_cons_zero, List.set_cons_succ])
                    clear z0 z1 z2 z3 zl f0 f1 f2 f3 R9
                    generalize ((((wa5.setCell ⟨W.heap.size + 1 + 1, 0, none⟩ (.int .u64 (l.E : Int))).setCell ⟨W.heap.size + 1 + 1, 1, none⟩ (.slice (A8 0) (n8 0) (c8 0))).setCell ⟨W.heap.size + 1 + 1, 2, none⟩ (.slice (A8 1) (n8 1) (c8 1))).setCell ⟨W.heap.size + 1 + 1, 3, none⟩ (.slice (A8 2) (n8 2) (c8 2))) = wt at *
                    have HO9 := hide (own_other2 HO.out (fun g1 h1 _ => HL9.out.block g1 (by have := R3.out.lt; omega)))
                    have HR9 := hide (ret_row HO9.out HN9.out HLA.out HEA.out)
                    have HRES := hide (show LimRd wt wt.heap.size A8 n8 (upd l.r (rowN l.E 0) (l.at 0 ++ [(s, g)])) from by rw [← HA8.out, ← HN8.out]; exact LimRd.put ((HD0.out.below (HB9.out.mono (by omega))).more (Nat.le_trans HB.out.size (Nat.le_trans (Nat.le_of_eq rfl) HB9.out.size))) _ HR9.out.1 HR9.out.2)
                    have HLOW : Hid (LowL Q wt A8) := hide (by rw [← HA8.out]; exact (HLO.out.more (Nat.le_trans HB.out.size HB9.out.size)).pu _ (fun p hp => ⟨HL.out _ (Nat.le_trans HB.out.size (own_fresh2 HO9.out p hp).1), (own_fresh2 HO9.out p hp).2⟩))
                    have HCAP : Hid (CapL n8 c8) := hide (by rw [← HN8.out, ← HC8.out]; exact HCQ.out)
                    have HFIN := hide (HB.out.trans (HB9.out.mono (by omega)))
                    (refine wpAnyH_take (i := 10) (v := ?_) rfl (by kernel_rfl) (by kernel_rfl) (by kernel_rfl) (fun _ _ _ h => h) (Or.inl ⟨by rfl, ?_⟩) (by assumption) ?_; rotate_left; (focus (intro w hSw; (try dsimp only at hSw); go_simp; first | done | with_reducible rfl)); (try simp only [Act.put, List.getElem_toArray, List.getElem_cons_succ, List.getElem_cons_zero, List.setIfInBounds_toArray, List.set_cons_zero, List.set_cons_succ]))
                    refine wpAnyH_done (by kernel_rfl) ?_ _
                    go_wp2_with fail
                    have HLD := HL9
                    have y0 : wt.cell? ⟨W.heap.size + 1 + 1, 0, none⟩ = some (.int .u64 (l.E : Int)) := by have := HLD.out.row.cell 0; simpa [limC] using this
                    have y1 : wt.cell? ⟨W.heap.size + 1 + 1, 1, none⟩ = some (.slice (A8 0) (n8 0) (c8 0)) := by have := HLD.out.row.cell 1; simpa [limC] using this
                    have y2 : wt.cell? ⟨W.heap.size + 1 + 1, 2, none⟩ = some (.slice (A8 1) (n8 1) (c8 1)) := by have := HLD.out.row.cell 2; simpa [limC] using this
                    have y3 : wt.cell? ⟨W.heap.size + 1 + 1, 3, none⟩ = some (.slice (A8 2) (n8 2) (c8 2)) := by have := HLD.out.row.cell 3; simpa [limC] using this
                    have yl := HLD.out.row.lt
                    refine bodyPost_ret (v := .tuple #[.agg (limC l.E A8 n8 c8), .int .i64 0]) (by simp [results, Tryd.results18, go_sem, y0, y1, y2, y3, yl]) rfl ?_
                    exact refRes_ok (l := ⟨l.E, upd l.r (rowN l.E 0) (l.at 0 ++ [(s, g)])⟩) HF.out HRES.out HLOW.out HCAP.out HFIN.out
      · go_simp
        refine (HOF.out _).mono ?_
        rintro e wa0 ⟨rfl, hb0⟩
        replace HQ := hide (HQ.out.trans (hb0.mono HQ.out.size))
        clear hb0
        refine hK0.out _ _ ((HQ.out).mono GLE.out) (fun _ => ?_)
        clear hK0 K0
        (try simp only [Act.put, List.getElem_toArray, List.getElem_cons_succ, List.getElem_cons_zero, List.setIfInBounds_toArray, List.set_cons_zero, List.set_cons_succ])
        refine wpAnyH_ready (rs := [1, 6]) (by kernel_rfl) (by simp) ?_
        refine (AllReadyH.cons rfl (fun K1 hK1 => ?_) (AllReadyH.cons rfl (fun K1 hK1 => ?_) AllReadyH.nil))
        · go_simp
          refine hK1.out _ _ ((HQ.out.alloc HQ.out.size _).mono GLE.out) (fun _ => ?_)
          clear hK1 K1
          (try simp only [Act.put, List.getElem_toArray, List.getElem_cons_succ, List.getElem_cons_zero, List.setIfInBounds_toArray, List.set_cons_zero, List.set_cons_succ])
          have hbx : Below wa0.heap.size wa0 (wa0.alloc (.cells #[] 34)) := (Below.refl _ _).alloc (Nat.le_refl _) _
          have HO := hide (World.ownsRow_lit (base := u2.heap.size) (e := 34) (size := 2) wa0 #[] 0 HQ.out.size (by simp [maxLen]) rfl)
          have G1 := hide (show wa0.heap.size < (wa0.alloc (.cells #[] 34)).heap.size from by simp)
          replace HQ := hide (HQ.out.alloc HQ.out.size (.cells #[] 34))
          clear hbx
          generalize wa0.alloc (.cells #[] 34) = wa1 at *
          refine wpAnyH_ready (rs := [4, 6]) (by kernel_rfl) (by simp) ?_
          refine (AllReadyH.cons rfl (fun K2 hK2 => ?_) (AllReadyH.cons rfl (fun K2 hK2 => ?_) AllReadyH.nil))
          · rw [if_pos (by rfl)]
            refine wp_app elE _ _ rfl rfl HO.out rfl (HRD.out _ HQ.out).1 (Cs_one_cell encE_one _) (by have := HLN.out 0; omega) HQ.out.size ?_
            intro v2 wa2 hown2 hb2 hbq2 hx2
            replace HO := hide hown2
            clear G1
            replace HQ := hide (HQ.out.trans hb2)
            clear hown2 hb2 hbq2 hx2
            refine hK2.out _ _ ((HQ.out).mono GLE.out) (fun _ => ?_)
            clear hK2 K2
            (try simp only [Act.put, List.getElem_toArray, List.getElem_cons_succ, List.getElem_cons_zero, List.setIfInBounds_toArray, List.set_cons_zero, List.set_cons_succ])
            refine wpAnyH_ready (rs := [6]) (by kernel_rfl) (by simp) ?_
            refine (AllReadyH.cons rfl (fun K3 hK3 => ?_) AllReadyH.nil)
            · go_simp
              refine hK3.out _ _ ((HQ.out.alloc HQ.out.size _).mono GLE.out) (fun _ => ?_)
              clear hK3 K3
              (try simp only [Act.put, List.getElem_toArray, List.getElem_cons_succ, List.getElem_cons_zero, List.setIfInBounds_toArray, List.set_cons_zero, List.set_cons_succ])
              have hbx : Below wa2.heap.size wa2 (wa2.alloc (.cells #[.int .i64 s, .int .u64 g] 34)) := (Below.refl _ _).alloc (Nat.le_refl _) _
              replace HO := hide (own_keepB HO.out hbx)
              have R6 := hide (RowAt.new wa2 34 #[.int .i64 s, .int .u64 g])
              replace HQ := hide (HQ.out.alloc HQ.out.size (.cells #[.int .i64 s, .int .u64 g] 34))
              clear hbx
              generalize wa2.alloc (.cells #[.int .i64 s, .int .u64 g] 34) = wa3 at *
              refine wpAnyH_ready (rs := [7]) (by kernel_rfl) (by simp) ?_
              refine (AllReadyH.cons rfl (fun K4 hK4 => ?_) AllReadyH.nil)
              · rw [if_pos (by rfl)]
                refine wp_app elE _ _ rfl rfl HO.out rfl (rd_ent R6.out) (Cs_one_cell encE_one _) (by have := HLN.out 0; omega) HQ.out.size ?_
                intro v4 wa4 hown4 hb4 hbq4 hx4
                replace HO := hide hown4
                replace HQ := hide (HQ.out.trans hb4)
                clear hown4 hb4 hbq4 hx4
                obtain ⟨A9, c9, rfl, hcq1, hcq2⟩ := own_form2 HO.out
                have HCQ := hide (CapL.pu HCP.out (rowN l.E 0) hcq1 hcq2)
                clear hcq1 hcq2
                generalize hn9 : 0 + ofN l.E n 0 + 1 = n9 at HO HCQ ⊢
                have HN9 := hide hn9
                clear hn9
                refine hK4.out _ _ ((HQ.out).mono GLE.out) (fun _ => ?_)
                clear hK4 K4
                (try simp only [Act.put, List.getElem_toArray, List.getElem_cons_succ, List.getElem_cons_zero, List.setIfInBounds_toArray, List.set_cons_zero, List.set_cons_succ])
                refine wpAnyH_ready (rs := [8]) (by kernel_rfl) (by simp) ?_
                refine (AllReadyH.cons rfl (fun K5 hK5 => ?_) AllReadyH.nil)
                · go_simp
                  refine (HWT.out _ A9 n9 c9).mono ?_
                  rintro e wa5 ⟨rfl, hb5⟩
                  replace HO := hide (own_keepB HO.out hb5)
                  replace HQ := hide (HQ.out.trans (hb5.mono HQ.out.size))
                  clear hb5
                  refine hK5.out _ _ ((HQ.out).mono GLE.out) (fun _ => ?_)
                  clear hK5 K5
                  (try simp only [Act.put, List.getElem_toArray, List.getElem_cons_succ, List.getElem_cons_zero, List.setIfInBounds_toArray, List.set_cons_zero, List.set_cons_succ])
                  refine wpAnyH_ready (rs := [9]) (by kernel_rfl) (by simp) ?_
                  refine (AllReadyH.cons rfl (fun K6 hK6 => ?_) AllReadyH.nil)
                  · skip
                    have R9 := hide (show RowAt wa5 (W.heap.size + 1 + 1) 26 zeroC from R3.out.below HQ.out)
                    obtain ⟨A8, hA8⟩ : ∃ x, pu A (rowN l.E 0) A9 = x := ⟨_, rfl⟩
                    obtain ⟨n8, hn8⟩ : ∃ x, pu n (rowN l.E 0) n9 = x := ⟨_, rfl⟩
                    obtain ⟨c8, hc8⟩ : ∃ x, pu c (rowN l.E 0) c9 = x := ⟨_, rfl⟩
                    rw [hA8, hn8, hc8]
                    have HA8 := hide hA8
                    have HN8 := hide hn8
                    have HC8 := hide hc8
                    clear hA8 hn8 hc8
                    have z0 : wa5.cell? ⟨(W.heap.size + 1 + 1), 0, none⟩ = some (.int .u64 0) := by have := RowAt.cell R9.out 0; simpa using this
                    have z1 : wa5.cell? ⟨(W.heap.size + 1 + 1), 1, none⟩ = some (.slice none 0 0) := by have := RowAt.cell R9.out 1; simpa using this
                    have z2 : wa5.cell? ⟨(W.heap.size + 1 + 1), 2, none⟩ = some (.slice none 0 0) := by have := RowAt.cell R9.out 2; simpa using this
                    have z3 : wa5.cell? ⟨(W.heap.size + 1 + 1), 3, none⟩ = some (.slice none 0 0) := by have := RowAt.cell R9.out 3; simpa using this
                    have zl := RowAt.lt R9.out
                    have f0 := RowAt.frozen R9.out 0
                    have f1 := RowAt.frozen R9.out 1
                    have f2 := RowAt.frozen R9.out 2
                    have f3 := RowAt.frozen R9.out 3
                    have HL9 : Hid (LaidL (W.heap.size + 1 + 1) wa5 (limC l.E A8 n8 c8) ((((wa5.setCell ⟨(W.heap.size + 1 + 1), 0, none⟩ (.int .u64 (l.E : Int))).setCell ⟨(W.heap.size + 1 + 1), 1, none⟩ (.slice (A8 0) (n8 0) (c8 0))).setCell ⟨(W.heap.size + 1 + 1), 2, none⟩ (.slice (A8 1) (n8 1) (c8 1))).setCell ⟨(W.heap.size + 1 + 1), 3, none⟩ (.slice (A8 2) (n8 2) (c8 2)))) := hide (laidL_of R9.out rfl)
                    go_simp
                    have HB9 := hide (show Below (W.heap.size + 1 + 1) u2 ((((wa5.setCell ⟨W.heap.size + 1 + 1, 0, none⟩ (.int .u64 (l.E : Int))).setCell ⟨W.heap.size + 1 + 1, 1, none⟩ (.slice (A8 0) (n8 0) (c8 0))).setCell ⟨W.heap.size + 1 + 1, 2, none⟩ (.slice (A8 1) (n8 1) (c8 1))).setCell ⟨W.heap.size + 1 + 1, 3, none⟩ (.slice (A8 2) (n8 2) (c8 2))) from (HQ.out.mono GLE.out).trans HL9.out.below)
                    refine hK6.out _ _ (HB9.out) (fun _ => ?_)
                    clear hK6 K6
                    (try simp only [Act.put, List.getElem_toArray, List.getElem_cons_succ, List.getElem_cons_zero, List.setIfInBounds_toArray, List.set_cons_zero, List.set_cons_succ])
                    clear z0 z1 z2 z3 zl f0 f1 f2 f3 R9
                    generalize ((((wa5.setCell ⟨W.heap.size + 1 + 1, 0, none⟩ (.int .u64 (l.E : Int))).setCell ⟨W.heap.size + 1 + 1, 1, none⟩ (.slice (A8 0) (n8 0) (c8 0))).setCell ⟨W.heap.size + 1 + 1, 2, none⟩ (.slice (A8 1) (n8 1) (c8 1))).setCell ⟨W.heap.size + 1 + 1, 3, none⟩ (.slice (A8 2) (n8 2) (c8 2))) = wt at *
                    have HO9 := hide (own_other2 HO.out (fun g1 h1 _ => HL9.out.block g1 (by have := R3.out.lt; omega)))
                    have HR9 := hide (ret_row HO9.out HN9.out HLA.out HEA.out)
                    have HRES := hide (show LimRd wt wt.heap.size A8 n8 (upd l.r (rowN l.E 0) (l.at 0 ++ [(s, g)])) from by rw [← HA8.out, ← HN8.out]; exact LimRd.put ((HD0.out.below (HB9.out.mono (by omega))).more (Nat.le_trans HB.out.size (Nat.le_trans (Nat.le_of_eq rfl) HB9.out.size))) _ HR9.out.1 HR9.out.2)
                    have HLOW : Hid (LowL Q wt A8) := hide (by rw [← HA8.out]; exact (HLO.out.more (Nat.le_trans HB.out.size HB9.out.size)).pu _ (fun p hp => ⟨HL.out _ (Nat.le_trans HB.out.size (own_fresh2 HO9.out p hp).1), (own_fresh2 HO9.out p hp).2⟩))
                    have HCAP : Hid (CapL n8 c8) := hide (by rw [← HN8.out, ← HC8.out]; exact HCQ.out)
                    have HFIN := hide (HB.out.trans (HB9.out.mono (by omega)))
                    (refine wpAnyH_take (i := 10) (v := ?_) rfl (by kernel_rfl) (by kernel_rfl) (by kernel_rfl) (fun _ _ _ h => h) (Or.inl ⟨by rfl, ?_⟩) (by assumption) ?_; rotate_left; (focus (intro w hSw; (try dsimp only at hSw); go_simp; first | done | with_reducible rfl)); (try simp only [Act.put, List.getElem_toArray, List.getElem_cons_succ, List.getElem_cons_zero, List.setIfInBounds_toArray, List.set_cons_zero, List.set_cons_succ]))
                    refine wpAnyH_done (by kernel_rfl) ?_ _
                    go_wp2_with fail
                    have HLD := HL9
                    have y0 : wt.cell? ⟨W.heap.size + 1 + 1, 0, none⟩ = some (.int .u64 (l.E : Int)) := by have := HLD.out.row.cell 0; simpa [limC] using this
                    have y1 : wt.cell? ⟨W.heap.size + 1 + 1, 1, none⟩ = some (.slice (A8 0) (n8 0) (c8 0)) := by have := HLD.out.row.cell 1; simpa [limC] using this
                    have y2 : wt.cell? ⟨W.heap.size + 1 + 1, 2, none⟩ = some (.slice (A8 1) (n8 1) (c8 1)) := by have := HLD.out.row.cell 2; simpa [limC] using this
                    have y3 : wt.cell? ⟨W.heap.size + 1 + 1, 3, none⟩ = some (.slice (A8 2) (n8 2) (c8 2)) := by have := HLD.out.row.cell 3; simpa [limC] using this
                    have yl := HLD.out.row.lt
                    refine bodyPost_ret (v := .tuple #[.agg (limC l.E A8 n8 c8), .int .i64 0]) (by simp [results, Tryd.results18, go_sem, y0, y1, y2, y3, yl]) rfl ?_
                    exact refRes_ok (l := ⟨l.E, upd l.r (rowN l.E 0) (l.at 0 ++ [(s, g)])⟩) HF.out HRES.out HLOW.out HCAP.out HFIN.out
          · go_simp
            refine hK2.out _ _ ((HQ.out.alloc HQ.out.size _).mono GLE.out) (fun _ => ?_)
            clear hK2 K2
            (try simp only [Act.put, List.getElem_toArray, List.getElem_cons_succ, List.getElem_cons_zero, List.setIfInBounds_toArray, List.set_cons_zero, List.set_cons_succ])
            have hbx : Below wa1.heap.size wa1 (wa1.alloc (.cells #[.int .i64 s, .int .u64 g] 34)) := (Below.refl _ _).alloc (Nat.le_refl _) _
            have NE6 := hide (show some wa1.heap.size ≠ some wa0.heap.size from fun h => by injection h with h; exact absurd h (Nat.ne_of_gt G1.out))
            replace HO := hide (own_keepB HO.out hbx)
            replace G1 := hide (Nat.lt_of_lt_of_le G1.out hbx.size)
            have R6 := hide (RowAt.new wa1 34 #[.int .i64 s, .int .u64 g])
            replace HQ := hide (HQ.out.alloc HQ.out.size (.cells #[.int .i64 s, .int .u64 g] 34))
            clear hbx
            generalize wa1.alloc (.cells #[.int .i64 s, .int .u64 g] 34) = wa2 at *
            refine wpAnyH_ready (rs := [4]) (by kernel_rfl) (by simp) ?_
            refine (AllReadyH.cons rfl (fun K3 hK3 => ?_) AllReadyH.nil)
            · rw [if_pos (by rfl)]
              refine wp_app elE _ _ rfl rfl HO.out rfl (HRD.out _ HQ.out).1 (Cs_one_cell encE_one _) (by have := HLN.out 0; omega) HQ.out.size ?_
              intro v3 wa3 hown3 hb3 hbq3 hx3
              replace HO := hide hown3
              replace R6 := hide (R6.out.heap (hbq3.block _ R6.out.lt NE6.out))
              clear G1
              replace HQ := hide (HQ.out.trans hb3)
              clear hown3 hb3 hbq3 hx3
              refine hK3.out _ _ ((HQ.out).mono GLE.out) (fun _ => ?_)
              clear hK3 K3
              (try simp only [Act.put, List.getElem_toArray, List.getElem_cons_succ, List.getElem_cons_zero, List.setIfInBounds_toArray, List.set_cons_zero, List.set_cons_succ])
              refine wpAnyH_ready (rs := [7]) (by kernel_rfl) (by simp) ?_
              refine (AllReadyH.cons rfl (fun K4 hK4 => ?_) AllReadyH.nil)
              · rw [if_pos (by rfl)]
                refine wp_app elE _ _ rfl rfl HO.out rfl (rd_ent R6.out) (Cs_one_cell encE_one _) (by have := HLN.out 0; omega) HQ.out.size ?_
                intro v4 wa4 hown4 hb4 hbq4 hx4
                replace HO := hide hown4
                replace HQ := hide (HQ.out.trans hb4)
                clear hown4 hb4 hbq4 hx4
                obtain ⟨A9, c9, rfl, hcq1, hcq2⟩ := own_form2 HO.out
                have HCQ := hide (CapL.pu HCP.out (rowN l.E 0) hcq1 hcq2)
                clear hcq1 hcq2
                generalize hn9 : 0 + ofN l.E n 0 + 1 = n9 at HO HCQ ⊢
                have HN9 := hide hn9
                clear hn9
                refine hK4.out _ _ ((HQ.out).mono GLE.out) (fun _ => ?_)
                clear hK4 K4
                (try simp only [Act.put, List.getElem_toArray, List.getElem_cons_succ, List.getElem_cons_zero, List.setIfInBounds_toArray, List.set_cons_zero, List.set_cons_succ])
                refine wpAnyH_ready (rs := [8]) (by kernel_rfl) (by simp) ?_
                refine (AllReadyH.cons rfl (fun K5 hK5 => ?_) AllReadyH.nil)
                · go_simp
                  refine (HWT.out _ A9 n9 c9).mono ?_
                  rintro e wa5 ⟨rfl, hb5⟩
                  replace HO := hide (own_keepB HO.out hb5)
                  replace HQ := hide (HQ.out.trans (hb5.mono HQ.out.size))
                  clear hb5
                  refine hK5.out _ _ ((HQ.out).mono GLE.out) (fun _ => ?_)
                  clear hK5 K5
                  (try simp only [Act.put, List.getElem_toArray, List.getElem_cons_succ, List.getElem_cons_zero, List.setIfInBounds_toArray, List.set_cons_zero, List.set_cons_succ])
                  refine wpAnyH_ready (rs := [9]) (by kernel_rfl) (by simp) ?_
                  refine (AllReadyH.cons rfl (fun K6 hK6 => ?_) AllReadyH.nil)
                  · skip
                    have R9 := hide (show RowAt wa5 (W.heap.size + 1 + 1) 26 zeroC from R3.out.below HQ.out)
                    obtain ⟨A8, hA8⟩ : ∃ x, pu A (rowN l.E 0) A9 = x := ⟨_, rfl⟩
                    obtain ⟨n8, hn8⟩ : ∃ x, pu n (rowN l.E 0) n9 = x := ⟨_, rfl⟩
                    obtain ⟨c8, hc8⟩ : ∃ x, pu c (rowN l.E 0) c9 = x := ⟨_, rfl⟩
                    rw [hA8, hn8, hc8]
                    have HA8 := hide hA8
                    have HN8 := hide hn8
                    have HC8 := hide hc8
                    clear hA8 hn8 hc8
                    have z0 : wa5.cell? ⟨(W.heap.size + 1 + 1), 0, none⟩ = some (.int .u64 0) := by have := RowAt.cell R9.out 0; simpa using this
                    have z1 : wa5.cell? ⟨(W.heap.size + 1 + 1), 1, none⟩ = some (.slice none 0 0) := by have := RowAt.cell R9.out 1; simpa using this
                    have z2 : wa5.cell? ⟨(W.heap.size + 1 + 1), 2, none⟩ = some (.slice none 0 0) := by have := RowAt.cell R9.out 2; simpa using this
                    have z3 : wa5.cell? ⟨(W.heap.size + 1 + 1), 3, none⟩ = some (.slice none 0 0) := by have := RowAt.cell R9.out 3; simpa using this
                    have zl := RowAt.lt R9.out
                    have f0 := RowAt.frozen R9.out 0
                    have f1 := RowAt.frozen R9.out 1
                    have f2 := RowAt.frozen R9.out 2
                    have f3 := RowAt.frozen R9.out 3
                    have HL9 : Hid (LaidL (W.heap.size + 1 + 1) wa5 (limC l.E A8 n8 c8) ((((wa5.setCell ⟨(W.heap.size + 1 + 1), 0, none⟩ (.int .u64 (l.E : Int))).setCell ⟨(W.heap.size + 1 + 1), 1, none⟩ (.slice (A8 0) (n8 0) (c8 0))).setCell ⟨(W.heap.size + 1 + 1), 2, none⟩ (.slice (A8 1) (n8 1) (c8 1))).setCell ⟨(W.heap.size + 1 + 1), 3, none⟩ (.slice (A8 2) (n8 2) (c8 2)))) := hide (laidL_of R9.out rfl)
                    go_simp
                    have HB9 := hide (show Below (W.heap.size + 1 + 1) u2 ((((wa5.setCell ⟨W.heap.size + 1 + 1, 0, none⟩ (.int .u64 (l.E : Int))).setCell ⟨W.heap.size + 1 + 1, 1, none⟩ (.slice (A8 0) (n8 0) (c8 0))).setCell ⟨W.heap.size + 1 + 1, 2, none⟩ (.slice (A8 1) (n8 1) (c8 1))).setCell ⟨W.heap.size + 1 + 1, 3, none⟩ (.slice (A8 2) (n8 2) (c8 2))) from (HQ.out.mono GLE.out).trans HL9.out.below)
                    refine hK6.out _ _ (HB9.out) (fun _ => ?_)
                    clear hK6 K6
                    (try simp only [Act.put, List.getElem_toArray, List.getElem_cons_succ, List.getElem_cons_zero, List.setIfInBounds_toArray, List.set_cons_zero, List.set_cons_succ])
                    clear z0 z1 z2 z3 zl f0 f1 f2 f3 R9
                    generalize ((((wa5.setCell ⟨W.heap.size + 1 + 1, 0, none⟩ (.int .u64 (l.E : Int))).setCell ⟨W.heap.size + 1 + 1, 1, none⟩ (.slice (A8 0) (n8 0) (c8 0))).setCell ⟨W.heap.size + 1 + 1, 2, none⟩ (.slice (A8 1) (n8 1) (c8 1))).setCell ⟨W.heap.size + 1 + 1, 3, none⟩ (.slice (A8 2) (n8 2) (c8 2))) = wt at *
                    have HO9 := hide (own_other2 HO.out (fun g1 h1 _ => HL9.out.block g1 (by have := R3.out.lt; omega)))
                    have HR9 := hide (ret_row HO9.out HN9.out HLA.out HEA.out)
                    have HRES := hide (show LimRd wt wt.heap.size A8 n8 (upd l.r (rowN l.E 0) (l.at 0 ++ [(s, g)])) from by rw [← HA8.out, ← HN8.out]; exact LimRd.put ((HD0.out.below (HB9.out.mono (by omega))).more (Nat.le_trans HB.out.size (Nat.le_trans (Nat.le_of_eq rfl) HB9.out.size))) _ HR9.out.1 HR9.out.2)
                    have HLOW : Hid (LowL Q wt A8) := hide (by rw [← HA8.out]; exact (HLO.out.more (Nat.le_trans HB.out.size HB9.out.size)).pu _ (fun p hp => ⟨HL.out _ (Nat.le_trans HB.out.size (own_fresh2 HO9.out p hp).1), (own_fresh2 HO9.out p hp).2⟩))
                    have HCAP : Hid (CapL n8 c8) := hide (by rw [← HN8.out, ← HC8.out]; exact HCQ.out)
                    have HFIN := hide (HB.out.trans (HB9.out.mono (by omega)))
                    (refine wpAnyH_take (i := 10) (v := ?_) rfl (by kernel_rfl) (by kernel_rfl) (by kernel_rfl) (fun _ _ _ h => h) (Or.inl ⟨by rfl, ?_⟩) (by assumption) ?_; rotate_left; (focus (intro w hSw; (try dsimp only at hSw); go_simp; first | done | with_reducible rfl)); (try simp only [Act.put, List.getElem_toArray, List.getElem_cons_succ, List.getElem_cons_zero, List.setIfInBounds_toArray, List.set_cons_zero, List.set_cons_succ]))
                    refine wpAnyH_done (by kernel_rfl) ?_ _
                    go_wp2_with fail
                    have HLD := HL9
                    have y0 : wt.cell? ⟨W.heap.size + 1 + 1, 0, none⟩ = some (.int .u64 (l.E : Int)) := by have := HLD.out.row.cell 0; simpa [limC] using this
                    have y1 : wt.cell? ⟨W.heap.size + 1 + 1, 1, none⟩ = some (.slice (A8 0) (n8 0) (c8 0)) := by have := HLD.out.row.cell 1; simpa [limC] using this
                    have y2 : wt.cell? ⟨W.heap.size + 1 + 1, 2, none⟩ = some (.slice (A8 1) (n8 1) (c8 1)) := by have := HLD.out.row.cell 2; simpa [limC] using this
                    have y3 : wt.cell? ⟨W.heap.size + 1 + 1, 3, none⟩ = some (.slice (A8 2) (n8 2) (c8 2)) := by have := HLD.out.row.cell 3; simpa [limC] using this
                    have yl := HLD.out.row.lt
                    refine bodyPost_ret (v := .tuple #[.agg (limC l.E A8 n8 c8), .int .i64 0]) (by simp [results, Tryd.results18, go_sem, y0, y1, y2, y3, yl]) rfl ?_
                    exact refRes_ok (l := ⟨l.E, upd l.r (rowN l.E 0) (l.at 0 ++ [(s, g)])⟩) HF.out HRES.out HLOW.out HCAP.out HFIN.out
        · go_simp
          refine hK1.out _ _ ((HQ.out.alloc HQ.out.size _).mono GLE.out) (fun _ => ?_)
          clear hK1 K1
          (try simp only [Act.put, List.getElem_toArray, List.getElem_cons_succ, List.getElem_cons_zero, List.setIfInBounds_toArray, List.set_cons_zero, List.set_cons_succ])
          have hbx : Below wa0.heap.size wa0 (wa0.alloc (.cells #[.int .i64 s, .int .u64 g] 34)) := (Below.refl _ _).alloc (Nat.le_refl _) _
          have R6 := hide (RowAt.new wa0 34 #[.int .i64 s, .int .u64 g])
          replace HQ := hide (HQ.out.alloc HQ.out.size (.cells #[.int .i64 s, .int .u64 g] 34))
          clear hbx
          generalize wa0.alloc (.cells #[.int .i64 s, .int .u64 g] 34) = wa1 at *
          refine wpAnyH_ready (rs := [1]) (by kernel_rfl) (by simp) ?_
          refine (AllReadyH.cons rfl (fun K2 hK2 => ?_) AllReadyH.nil)
          · go_simp
            refine hK2.out _ _ ((HQ.out.alloc HQ.out.size _).mono GLE.out) (fun _ => ?_)
            clear hK2 K2
            (try simp only [Act.put, List.getElem_toArray, List.getElem_cons_succ, List.getElem_cons_zero, List.setIfInBounds_toArray, List.set_cons_zero, List.set_cons_succ])
            have hbx : Below wa1.heap.size wa1 (wa1.alloc (.cells #[] 34)) := (Below.refl _ _).alloc (Nat.le_refl _) _
            have HO := hide (World.ownsRow_lit (base := u2.heap.size) (e := 34) (size := 2) wa1 #[] 0 HQ.out.size (by simp [maxLen]) rfl)
            have NE6 := hide (show some wa0.heap.size ≠ some wa1.heap.size from fun h => by injection h with h; exact absurd h (Nat.ne_of_lt R6.out.lt))
            replace R6 := hide (R6.out.below hbx)
            have G1 := hide (show wa1.heap.size < (wa1.alloc (.cells #[] 34)).heap.size from by simp)
            replace HQ := hide (HQ.out.alloc HQ.out.size (.cells #[] 34))
            clear hbx
            generalize wa1.alloc (.cells #[] 34) = wa2 at *
            refine wpAnyH_ready (rs := [4]) (by kernel_rfl) (by simp) ?_
            refine (AllReadyH.cons rfl (fun K3 hK3 => ?_) AllReadyH.nil)
            · rw [if_pos (by rfl)]
              refine wp_app elE _ _ rfl rfl HO.out rfl (HRD.out _ HQ.out).1 (Cs_one_cell encE_one _) (by have := HLN.out 0; omega) HQ.out.size ?_
              intro v3 wa3 hown3 hb3 hbq3 hx3
              replace HO := hide hown3
              replace R6 := hide (R6.out.heap (hbq3.block _ R6.out.lt NE6.out))
              clear G1
              replace HQ := hide (HQ.out.trans hb3)
              clear hown3 hb3 hbq3 hx3
              refine hK3.out _ _ ((HQ.out).mono GLE.out) (fun _ => ?_)
              clear hK3 K3
              (try simp only [Act.put, List.getElem_toArray, List.getElem_cons_succ, List.getElem_cons_zero, List.setIfInBounds_toArray, List.set_cons_zero, List.set_cons_succ])
              refine wpAnyH_ready (rs := [7]) (by kernel_rfl) (by simp) ?_
              refine (AllReadyH.cons rfl (fun K4 hK4 => ?_) AllReadyH.nil)
              · rw [if_pos (by rfl)]
                refine wp_app elE _ _ rfl rfl HO.out rfl (rd_ent R6.out) (Cs_one_cell encE_one _) (by have := HLN.out 0; omega) HQ.out.size ?_
                intro v4 wa4 hown4 hb4 hbq4 hx4
                replace HO := hide hown4
                replace HQ := hide (HQ.out.trans hb4)
                clear hown4 hb4 hbq4 hx4
                obtain ⟨A9, c9, rfl, hcq1, hcq2⟩ := own_form2 HO.out
                have HCQ := hide (CapL.pu HCP.out (rowN l.E 0) hcq1 hcq2)
                clear hcq1 hcq2
                generalize hn9 : 0 + ofN l.E n 0 + 1 = n9 at HO HCQ ⊢
                have HN9 := hide hn9
                clear hn9
                refine hK4.out _ _ ((HQ.out).mono GLE.out) (fun _ => ?_)
                clear hK4 K4
                (try simp only [Act.put, List.getElem_toArray, List.getElem_cons_succ, List.getElem_cons_zero, List.setIfInBounds_toArray, List.set_cons_zero, List.set_cons_succ])
                refine wpAnyH_ready (rs := [8]) (by kernel_rfl) (by simp) ?_
                refine (AllReadyH.cons rfl (fun K5 hK5 => ?_) AllReadyH.nil)
                · go_simp
                  refine (HWT.out _ A9 n9 c9).mono ?_
                  rintro e wa5 ⟨rfl, hb5⟩
                  replace HO := hide (own_keepB HO.out hb5)
                  replace HQ := hide (HQ.out.trans (hb5.mono HQ.out.size))
                  clear hb5
                  refine hK5.out _ _ ((HQ.out).mono GLE.out) (fun _ => ?_)
                  clear hK5 K5
                  (try simp only [Act.put, List.getElem_toArray, List.getElem_cons_succ, List.getElem_cons_zero, List.setIfInBounds_toArray, List.set_cons_zero, List.set_cons_succ])
                  refine wpAnyH_ready (rs := [9]) (by kernel_rfl) (by simp) ?_
                  refine (AllReadyH.cons rfl (fun K6 hK6 => ?_) AllReadyH.nil)
                  · skip
                    have R9 := hide (show RowAt wa5 (W.heap.size + 1 + 1) 26 zeroC from R3.out.below HQ.out)
                    obtain ⟨A8, hA8⟩ : ∃ x, pu A (rowN l.E 0) A9 = x := ⟨_, rfl⟩
                    obtain ⟨n8, hn8⟩ : ∃ x, pu n (rowN l.E 0) n9 = x := ⟨_, rfl⟩
                    obtain ⟨c8, hc8⟩ : ∃ x, pu c (rowN l.E 0) c9 = x := ⟨_, rfl⟩
                    rw [hA8, hn8, hc8]
                    have HA8 := hide hA8
                    have HN8 := hide hn8
                    have HC8 := hide hc8
                    clear hA8 hn8 hc8
                    have z0 : wa5.cell? ⟨(W.heap.size + 1 + 1), 0, none⟩ = some (.int .u64 0) := by have := RowAt.cell R9.out 0; simpa using this
                    have z1 : wa5.cell? ⟨(W.heap.size + 1 + 1), 1, none⟩ = some (.slice none 0 0) := by have := RowAt.cell R9.out 1; simpa using this
                    have z2 : wa5.cell? ⟨(W.heap.size + 1 + 1), 2, none⟩ = some (.slice none 0 0) := by have := RowAt.cell R9.out 2; simpa using this
                    have z3 : wa5.cell? ⟨(W.heap.size + 1 + 1), 3, none⟩ = some (.slice none 0 0) := by have := RowAt.cell R9.out 3; simpa using this
                    have zl := RowAt.lt R9.out
                    have f0 := RowAt.frozen R9.out 0
                    have f1 := RowAt.frozen R9.out 1
                    have f2 := RowAt.frozen R9.out 2
                    have f3 := RowAt.frozen R9.out 3
                    have HL9 : Hid (LaidL (W.heap.size + 1 + 1) wa5 (limC l.E A8 n8 c8) ((((wa5.setCell ⟨(W.heap.size + 1 + 1), 0, none⟩ (.int .u64 (l.E : Int))).setCell ⟨(W.heap.size + 1 + 1), 1, none⟩ (.slice (A8 0) (n8 0) (c8 0))).setCell ⟨(W.heap.size + 1 + 1), 2, none⟩ (.slice (A8 1) (n8 1) (c8 1))).setCell ⟨(W.heap.size + 1 + 1), 3, none⟩ (.slice (A8 2) (n8 2) (c8 2)))) := hide (laidL_of R9.out rfl)
                    go_simp
                    have HB9 := hide (show Below (W.heap.size + 1 + 1) u2 ((((wa5.setCell ⟨W.heap.size + 1 + 1, 0, none⟩ (.int .u64 (l.E : Int))).setCell ⟨W.heap.size + 1 + 1, 1, none⟩ (.slice (A8 0) (n8 0) (c8 0))).setCell ⟨W.heap.size + 1 + 1, 2, none⟩ (.slice (A8 1) (n8 1) (c8 1))).setCell ⟨W.heap.size + 1 + 1, 3, none⟩ (.slice (A8 2) (n8 2) (c8 2))) from (HQ.out.mono GLE.out).trans HL9.out.below)
                    refine hK6.out _ _ (HB9.out) (fun _ => ?_)
                    clear hK6 K6
                    (try simp only [Act.put, List.getElem_toArray, List.getElem_cons_succ, List.getElem_cons_zero, List.setIfInBounds_toArray, List.set_cons_zero, List.set_cons_succ])
                    clear z0 z1 z2 z3 zl f0 f1 f2 f3 R9
                    generalize ((((wa5.setCell ⟨W.heap.size + 1 + 1, 0, none⟩ (.int .u64 (l.E : Int))).setCell ⟨W.heap.size + 1 + 1, 1, none⟩ (.slice (A8 0) (n8 0) (c8 0))).setCell ⟨W.heap.size + 1 + 1, 2, none⟩ (.slice (A8 1) (n8 1) (c8 1))).setCell ⟨W.heap.size + 1 + 1, 3, none⟩ (.slice (A8 2) (n8 2) (c8 2))) = wt at *
                    have HO9 := hide (own_other2 HO.out (fun g1 h1 _ => HL9.out.block g1 (by have := R3.out.lt; omega)))
                    have HR9 := hide (ret_row HO9.out HN9.out HLA.out HEA.out)
                    have HRES := hide (show LimRd wt wt.heap.size A8 n8 (upd l.r (rowN l.E 0) (l.at 0 ++ [(s, g)])) from by rw [← HA8.out, ← HN8.out]; exact LimRd.put ((HD0.out.below (HB9.out.mono (by omega))).more (Nat.le_trans HB.out.size (Nat.le_trans (Nat.le_of_eq rfl) HB9.out.size))) _ HR9.out.1 HR9.out.2)
                    have HLOW : Hid (LowL Q wt A8) := hide (by rw [← HA8.out]; exact (HLO.out.more (Nat.le_trans HB.out.size HB9.out.size)).pu _ (fun p hp => ⟨HL.out _ (Nat.le_trans HB.out.size (own_fresh2 HO9.out p hp).1), (own_fresh2 HO9.out p hp).2⟩))
                    have HCAP : Hid (CapL n8 c8) := hide (by rw [← HN8.out, ← HC8.out]; exact HCQ.out)
                    have HFIN := hide (HB.out.trans (HB9.out.mono (by omega)))
                    (refine wpAnyH_take (i := 10) (v := ?_) rfl (by kernel_rfl) (by kernel_rfl) (by kernel_rfl) (fun _ _ _ h => h) (Or.inl ⟨by rfl, ?_⟩) (by assumption) ?_; rotate_left; (focus (intro w hSw; (try dsimp only at hSw); go_simp; first | done | with_reducible rfl)); (try simp only [Act.put, List.getElem_toArray, List.getElem_cons_succ, List.getElem_cons_zero, List.setIfInBounds_toArray, List.set_cons_zero, List.set_cons_succ]))
                    refine wpAnyH_done (by kernel_rfl) ?_ _
                    go_wp2_with fail
                    have HLD := HL9
                    have y0 : wt.cell? ⟨W.heap.size + 1 + 1, 0, none⟩ = some (.int .u64 (l.E : Int)) := by have := HLD.out.row.cell 0; simpa [limC] using this
                    have y1 : wt.cell? ⟨W.heap.size + 1 + 1, 1, none⟩ = some (.slice (A8 0) (n8 0) (c8 0)) := by have := HLD.out.row.cell 1; simpa [limC] using this
                    have y2 : wt.cell? ⟨W.heap.size + 1 + 1, 2, none⟩ = some (.slice (A8 1) (n8 1) (c8 1)) := by have := HLD.out.row.cell 2; simpa [limC] using this
                    have y3 : wt.cell? ⟨W.heap.size + 1 + 1, 3, none⟩ = some (.slice (A8 2) (n8 2) (c8 2)) := by have := HLD.out.row.cell 3; simpa [limC] using this
                    have yl := HLD.out.row.lt
                    refine bodyPost_ret (v := .tuple #[.agg (limC l.E A8 n8 c8), .int .i64 0]) (by simp [results, Tryd.results18, go_sem, y0, y1, y2, y3, yl]) rfl ?_
                    exact refRes_ok (l := ⟨l.E, upd l.r (rowN l.E 0) (l.at 0 ++ [(s, g)])⟩) HF.out HRES.out HLOW.out HCAP.out HFIN.out
      · go_simp
        refine hK0.out _ _ ((HQ.out.alloc HQ.out.size _).mono GLE.out) (fun _ => ?_)
        clear hK0 K0
        (try simp only [Act.put, List.getElem_toArray, List.getElem_cons_succ, List.getElem_cons_zero, List.setIfInBounds_toArray, List.set_cons_zero, List.set_cons_succ])
        have hbx : Below wd.heap.size wd (wd.alloc (.cells #[.int .i64 s, .int .u64 g] 34)) := (Below.refl _ _).alloc (Nat.le_refl _) _
        have R6 := hide (RowAt.new wd 34 #[.int .i64 s, .int .u64 g])
        replace HQ := hide (HQ.out.alloc HQ.out.size (.cells #[.int .i64 s, .int .u64 g] 34))
        clear hbx
        generalize wd.alloc (.cells #[.int .i64 s, .int .u64 g] 34) = wa0 at *
        refine wpAnyH_ready (rs := [1, 3]) (by kernel_rfl) (by simp) ?_
        refine (AllReadyH.cons rfl (fun K1 hK1 => ?_) (AllReadyH.cons rfl (fun K1 hK1 => ?_) AllReadyH.nil))
        · go_simp
          refine hK1.out _ _ ((HQ.out.alloc HQ.out.size _).mono GLE.out) (fun _ => ?_)
          clear hK1 K1
          (try simp only [Act.put, List.getElem_toArray, List.getElem_cons_succ, List.getElem_cons_zero, List.setIfInBounds_toArray, List.set_cons_zero, List.set_cons_succ])
          have hbx : Below wa0.heap.size wa0 (wa0.alloc (.cells #[] 34)) := (Below.refl _ _).alloc (Nat.le_refl _) _
          have HO := hide (World.ownsRow_lit (base := u2.heap.size) (e := 34) (size := 2) wa0 #[] 0 HQ.out.size (by simp [maxLen]) rfl)
          have NE6 := hide (show some wd.heap.size ≠ some wa0.heap.size from fun h => by injection h with h; exact absurd h (Nat.ne_of_lt R6.out.lt))
          replace R6 := hide (R6.out.below hbx)
          have G1 := hide (show wa0.heap.size < (wa0.alloc (.cells #[] 34)).heap.size from by simp)
          replace HQ := hide (HQ.out.alloc HQ.out.size (.cells #[] 34))
          clear hbx
          generalize wa0.alloc (.cells #[] 34) = wa1 at *
          refine wpAnyH_ready (rs := [3]) (by kernel_rfl) (by simp) ?_
          refine (AllReadyH.cons rfl (fun K2 hK2 => ?_) AllReadyH.nil)
          · go_simp
            refine (HOF.out _).mono ?_
            rintro e wa2 ⟨rfl, hb2⟩
            replace HO := hide (own_keepB HO.out hb2)
            replace G1 := hide (Nat.lt_of_lt_of_le G1.out hb2.size)
            replace R6 := hide (R6.out.below hb2)
            replace HQ := hide (HQ.out.trans (hb2.mono HQ.out.size))
            clear hb2
            refine hK2.out _ _ ((HQ.out).mono GLE.out) (fun _ => ?_)
            clear hK2 K2
            (try simp only [Act.put, List.getElem_toArray, List.getElem_cons_succ, List.getElem_cons_zero, List.setIfInBounds_toArray, List.set_cons_zero, List.set_cons_succ])
            refine wpAnyH_ready (rs := [4]) (by kernel_rfl) (by simp) ?_
            refine (AllReadyH.cons rfl (fun K3 hK3 => ?_) AllReadyH.nil)
            · rw [if_pos (by rfl)]
              refine wp_app elE _ _ rfl rfl HO.out rfl (HRD.out _ HQ.out).1 (Cs_one_cell encE_one _) (by have := HLN.out 0; omega) HQ.out.size ?_
              intro v3 wa3 hown3 hb3 hbq3 hx3
              replace HO := hide hown3
              replace R6 := hide (R6.out.heap (hbq3.block _ R6.out.lt NE6.out))
              clear G1
              replace HQ := hide (HQ.out.trans hb3)
              clear hown3 hb3 hbq3 hx3
              refine hK3.out _ _ ((HQ.out).mono GLE.out) (fun _ => ?_)
              clear hK3 K3
              (try simp only [Act.put, List.getElem_toArray, List.getElem_cons_succ, List.getElem_cons_zero, List.setIfInBounds_toArray, List.set_cons_zero, List.set_cons_succ])
              refine wpAnyH_ready (rs := [7]) (by kernel_rfl) (by simp) ?_
              refine (AllReadyH.cons rfl (fun K4 hK4 => ?_) AllReadyH.nil)
              · rw [if_pos (by rfl)]
                refine wp_app elE _ _ rfl rfl HO.out rfl (rd_ent R6.out) (Cs_one_cell encE_one _) (by have := HLN.out 0; omega) HQ.out.size ?_
                intro v4 wa4 hown4 hb4 hbq4 hx4
                replace HO := hide hown4
                replace HQ := hide (HQ.out.trans hb4)
                clear hown4 hb4 hbq4 hx4
                obtain ⟨A9, c9, rfl, hcq1, hcq2⟩ := own_form2 HO.out
                have HCQ := hide (CapL.pu HCP.out (rowN l.E 0) hcq1 hcq2)
                clear hcq1 hcq2
                generalize hn9 : 0 + ofN l.E n 0 + 1 = n9 at HO HCQ ⊢
                have HN9 := hide hn9
                clear hn9
                refine hK4.out _ _ ((HQ.out).mono GLE.out) (fun _ => ?_)
                clear hK4 K4
                (try simp only [Act.put, List.getElem_toArray, List.getElem_cons_succ, List.getElem_cons_zero, List.setIfInBounds_toArray, List.set_cons_zero, List.set_cons_succ])
                refine wpAnyH_ready (rs := [8]) (by kernel_rfl) (by simp) ?_
                refine (AllReadyH.cons rfl (fun K5 hK5 => ?_) AllReadyH.nil)
                · go_simp
                  refine (HWT.out _ A9 n9 c9).mono ?_
                  rintro e wa5 ⟨rfl, hb5⟩
                  replace HO := hide (own_keepB HO.out hb5)
                  replace HQ := hide (HQ.out.trans (hb5.mono HQ.out.size))
                  clear hb5
                  refine hK5.out _ _ ((HQ.out).mono GLE.out) (fun _ => ?_)
                  clear hK5 K5
                  (try simp only [Act.put, List.getElem_toArray, List.getElem_cons_succ, List.getElem_cons_zero, List.setIfInBounds_toArray, List.set_cons_zero, List.set_cons_succ])
                  refine wpAnyH_ready (rs := [9]) (by kernel_rfl) (by simp) ?_
                  refine (AllReadyH.cons rfl (fun K6 hK6 => ?_) AllReadyH.nil)
                  · skip
                    have R9 := hide (show RowAt wa5 (W.heap.size + 1 + 1) 26 zeroC from R3.out.below HQ.out)
                    obtain ⟨A8, hA8⟩ : ∃ x, pu A (rowN l.E 0) A9 = x := ⟨_, rfl⟩
                    obtain ⟨n8, hn8⟩ : ∃ x, pu n (rowN l.E 0) n9 = x := ⟨_, rfl⟩
                    obtain ⟨c8, hc8⟩ : ∃ x, pu c (rowN l.E 0) c9 = x := ⟨_, rfl⟩
                    rw [hA8, hn8, hc8]
                    have HA8 := hide hA8
                    have HN8 := hide hn8
                    have HC8 := hide hc8
                    clear hA8 hn8 hc8
                    have z0 : wa5.cell? ⟨(W.heap.size + 1 + 1), 0, none⟩ = some (.int .u64 0) := by have := RowAt.cell R9.out 0; simpa using this
                    have z1 : wa5.cell? ⟨(W.heap.size + 1 + 1), 1, none⟩ = some (.slice none 0 0) := by have := RowAt.cell R9.out 1; simpa using this
                    have z2 : wa5.cell? ⟨(W.heap.size + 1 + 1), 2, none⟩ = some (.slice none 0 0) := by have := RowAt.cell R9.out 2; simpa using this
                    have z3 : wa5.cell? ⟨(W.heap.size + 1 + 1), 3, none⟩ = some (.slice none 0 0) := by have := RowAt.cell R9.out 3; simpa using this
                    have zl := RowAt.lt R9.out
                    have f0 := RowAt.frozen R9.out 0
                    have f1 := RowAt.frozen R9.out 1
                    have f2 := RowAt.frozen R9.out 2
                    have f3 := RowAt.frozen R9.out 3
                    have HL9 : Hid (LaidL (W.heap.size + 1 + 1) wa5 (limC l.E A8 n8 c8) ((((wa5.setCell ⟨(W.heap.size + 1 + 1), 0, none⟩ (.int .u64 (l.E : Int))).setCell ⟨(W.heap.size + 1 + 1), 1, none⟩ (.slice (A8 0) (n8 0) (c8 0))).setCell ⟨(W.heap.size + 1 + 1), 2, none⟩ (.slice (A8 1) (n8 1) (c8 1))).setCell ⟨(W.heap.size + 1 + 1), 3, none⟩ (.slice (A8 2) (n8 2) (c8 2)))) := hide (laidL_of R9.out rfl)
                    go_simp
                    have HB9 := hide (show Below (W.heap.size + 1 + 1) u2 ((((wa5.setCell ⟨W.heap.size + 1 + 1, 0, none⟩ (.int .u64 (l.E : Int))).setCell ⟨W.heap.size + 1 + 1, 1, none⟩ (.slice (A8 0) (n8 0) (c8 0))).setCell ⟨W.heap.size + 1 + 1, 2, none⟩ (.slice (A8 1) (n8 1) (c8 1))).setCell ⟨W.heap.size + 1 + 1, 3, none⟩ (.slice (A8 2) (n8 2) (c8 2))) from (HQ.out.mono GLE.out).trans HL9.out.below)
                    refine hK6.out _ _ (HB9.out) (fun _ => ?_)
                    clear hK6 K6
                    (try simp only [Act.put, List.getElem_toArray, List.getElem_cons_succ, List.getElem_cons_zero, List.setIfInBounds_toArray, List.set_cons_zero, List.set_cons_succ])
                    clear z0 z1 z2 z3 zl f0 f1 f2 f3 R9
                    generalize ((((wa5.setCell ⟨W.heap.size + 1 + 1, 0, none⟩ (.int .u64 (l.E : Int))).setCell ⟨W.heap.size + 1 + 1, 1, none⟩ (.slice (A8 0) (n8 0) (c8 0))).setCell ⟨W.heap.size + 1 + 1, 2, none⟩ (.slice (A8 1) (n8 1) (c8 1))).setCell ⟨W.heap.size + 1 + 1, 3, none⟩ (.slice (A8 2) (n8 2) (c8 2))) = wt at *
                    have HO9 := hide (own_other2 HO.out (fun g1 h1 _ => HL9.out.block g1 (by have := R3.out.lt; omega)))
                    have HR9 := hide (ret_row HO9.out HN9.out HLA.out HEA.out)
                    have HRES := hide (show LimRd wt wt.heap.size A8 n8 (upd l.r (rowN l.E 0) (l.at 0 ++ [(s, g)])) from by rw [← HA8.out, ← HN8.out]; exact LimRd.put ((HD0.out.below (HB9.out.mono (by omega))).more (Nat.le_trans HB.out.size (Nat.le_trans (Nat.le_of_eq rfl) HB9.out.size))) _ HR9.out.1 HR9.out.2)
                    have HLOW : Hid (LowL Q wt A8) := hide (by rw [← HA8.out]; exact (HLO.out.more (Nat.le_trans HB.out.size HB9.out.size)).pu _ (fun p hp => ⟨HL.out _ (Nat.le_trans HB.out.size (own_fresh2 HO9.out p hp).1), (own_fresh2 HO9.out p hp).2⟩))
                    have HCAP : Hid (CapL n8 c8) := hide (by rw [← HN8.out, ← HC8.out]; exact HCQ.out)
                    have HFIN := hide (HB.out.trans (HB9.out.mono (by omega)))
                    (refine wpAnyH_take (i := 10) (v := ?_) rfl (by kernel_rfl) (by kernel_rfl) (by kernel_rfl) (fun _ _ _ h => h) (Or.inl ⟨by rfl, ?_⟩) (by assumption) ?_; rotate_left; (focus (intro w hSw; (try dsimp only at hSw); go_simp; first | done | with_reducible rfl)); (try simp only [Act.put, List.getElem_toArray, List.getElem_cons_succ, List.getElem_cons_zero, List.setIfInBounds_toArray, List.set_cons_zero, List.set_cons_succ]))
                    refine wpAnyH_done (by kernel_rfl) ?_ _
                    go_wp2_with fail
                    have HLD := HL9
                    have y0 : wt.cell? ⟨W.heap.size + 1 + 1, 0, none⟩ = some (.int .u64 (l.E : Int)) := by have := HLD.out.row.cell 0; simpa [limC] using this
                    have y1 : wt.cell? ⟨W.heap.size + 1 + 1, 1, none⟩ = some (.slice (A8 0) (n8 0) (c8 0)) := by have := HLD.out.row.cell 1; simpa [limC] using this
                    have y2 : wt.cell? ⟨W.heap.size + 1 + 1, 2, none⟩ = some (.slice (A8 1) (n8 1) (c8 1)) := by have := HLD.out.row.cell 2; simpa [limC] using this
                    have y3 : wt.cell? ⟨W.heap.size + 1 + 1, 3, none⟩ = some (.slice (A8 2) (n8 2) (c8 2)) := by have := HLD.out.row.cell 3; simpa [limC] using this
                    have yl := HLD.out.row.lt
                    refine bodyPost_ret (v := .tuple #[.agg (limC l.E A8 n8 c8), .int .i64 0]) (by simp [results, Tryd.results18, go_sem, y0, y1, y2, y3, yl]) rfl ?_
                    exact refRes_ok (l := ⟨l.E, upd l.r (rowN l.E 0) (l.at 0 ++ [(s, g)])⟩) HF.out HRES.out HLOW.out HCAP.out HFIN.out
        · go_simp
          refine (HOF.out _).mono ?_
          rintro e wa1 ⟨rfl, hb1⟩
          replace R6 := hide (R6.out.below hb1)
          replace HQ := hide (HQ.out.trans (hb1.mono HQ.out.size))
          clear hb1
          refine hK1.out _ _ ((HQ.out).mono GLE.out) (fun _ => ?_)
          clear hK1 K1
          (try simp only [Act.put, List.getElem_toArray, List.getElem_cons_succ, List.getElem_cons_zero, List.setIfInBounds_toArray, List.set_cons_zero, List.set_cons_succ])
          refine wpAnyH_ready (rs := [1]) (by kernel_rfl) (by simp) ?_
          refine (AllReadyH.cons rfl (fun K2 hK2 => ?_) AllReadyH.nil)
          · go_simp
            refine hK2.out _ _ ((HQ.out.alloc HQ.out.size _).mono GLE.out) (fun _ => ?_)
            clear hK2 K2
            (try simp only [Act.put, List.getElem_toArray, List.getElem_cons_succ, List.getElem_cons_zero, List.setIfInBounds_toArray, List.set_cons_zero, List.set_cons_succ])
            have hbx : Below wa1.heap.size wa1 (wa1.alloc (.cells #[] 34)) := (Below.refl _ _).alloc (Nat.le_refl _) _
            have HO := hide (World.ownsRow_lit (base := u2.heap.size) (e := 34) (size := 2) wa1 #[] 0 HQ.out.size (by simp [maxLen]) rfl)
            have NE6 := hide (show some wd.heap.size ≠ some wa1.heap.size from fun h => by injection h with h; exact absurd h (Nat.ne_of_lt R6.out.lt))
            replace R6 := hide (R6.out.below hbx)
            have G1 := hide (show wa1.heap.size < (wa1.alloc (.cells #[] 34)).heap.size from by simp)
            replace HQ := hide (HQ.out.alloc HQ.out.size (.cells #[] 34))
            clear hbx
            generalize wa1.alloc (.cells #[] 34) = wa2 at *
            refine wpAnyH_ready (rs := [4]) (by kernel_rfl) (by simp) ?_
            refine (AllReadyH.cons rfl (fun K3 hK3 => ?_) AllReadyH.nil)
            · rw [if_pos (by rfl)]
              refine wp_app elE _ _ rfl rfl HO.out rfl (HRD.out _ HQ.out).1 (Cs_one_cell encE_one _) (by have := HLN.out 0; omega) HQ.out.size ?_
              intro v3 wa3 hown3 hb3 hbq3 hx3
              replace HO := hide hown3
              replace R6 := hide (R6.out.heap (hbq3.block _ R6.out.lt NE6.out))
              clear G1
              replace HQ := hide (HQ.out.trans hb3)
              clear hown3 hb3 hbq3 hx3
              refine hK3.out _ _ ((HQ.out).mono GLE.out) (fun _ => ?_)
              clear hK3 K3
              (try simp only [Act.put, List.getElem_toArray, List.getElem_cons_succ, List.getElem_cons_zero, List.setIfInBounds_toArray, List.set_cons_zero, List.set_cons_succ])
              refine wpAnyH_ready (rs := [7]) (by kernel_rfl) (by simp) ?_
              refine (AllReadyH.cons rfl (fun K4 hK4 => ?_) AllReadyH.nil)
              · rw [if_pos (by rfl)]
                refine wp_app elE _ _ rfl rfl HO.out rfl (rd_ent R6.out) (Cs_one_cell encE_one _) (by have := HLN.out 0; omega) HQ.out.size ?_
                intro v4 wa4 hown4 hb4 hbq4 hx4
                replace HO := hide hown4
                replace HQ := hide (HQ.out.trans hb4)
                clear hown4 hb4 hbq4 hx4
                obtain ⟨A9, c9, rfl, hcq1, hcq2⟩ := own_form2 HO.out
                have HCQ := hide (CapL.pu HCP.out (rowN l.E 0) hcq1 hcq2)
                clear hcq1 hcq2
                generalize hn9 : 0 + ofN l.E n 0 + 1 = n9 at HO HCQ ⊢
                have HN9 := hide hn9
                clear hn9
                refine hK4.out _ _ ((HQ.out).mono GLE.out) (fun _ => ?_)
                clear hK4 K4
                (try simp only [Act.put, List.getElem_toArray, List.getElem_cons_succ, List.getElem_cons_zero, List.setIfInBounds_toArray, List.set_cons_zero, List.set_cons_succ])
                refine wpAnyH_ready (rs := [8]) (by kernel_rfl) (by simp) ?_
                refine (AllReadyH.cons rfl (fun K5 hK5 => ?_) AllReadyH.nil)
                · go_simp
                  refine (HWT.out _ A9 n9 c9).mono ?_
                  rintro e wa5 ⟨rfl, hb5⟩
                  replace HO := hide (own_keepB HO.out hb5)
                  replace HQ := hide (HQ.out.trans (hb5.mono HQ.out.size))
                  clear hb5
                  refine hK5.out _ _ ((HQ.out).mono GLE.out) (fun _ => ?_)
                  clear hK5 K5
                  (try simp only [Act.put, List.getElem_toArray, List.getElem_cons_succ, List.getElem_cons_zero, List.setIfInBounds_toArray, List.set_cons_zero, List.set_cons_succ])
                  refine wpAnyH_ready (rs := [9]) (by kernel_rfl) (by simp) ?_
                  refine (AllReadyH.cons rfl (fun K6 hK6 => ?_) AllReadyH.nil)
                  · skip
                    have R9 := hide (show RowAt wa5 (W.heap.size + 1 + 1) 26 zeroC from R3.out.below HQ.out)
                    obtain ⟨A8, hA8⟩ : ∃ x, pu A (rowN l.E 0) A9 = x := ⟨_, rfl⟩
                    obtain ⟨n8, hn8⟩ : ∃ x, pu n (rowN l.E 0) n9 = x := ⟨_, rfl⟩
                    obtain ⟨c8, hc8⟩ : ∃ x, pu c (rowN l.E 0) c9 = x := ⟨_, rfl⟩
                    rw [hA8, hn8, hc8]
                    have HA8 := hide hA8
                    have HN8 := hide hn8
                    have HC8 := hide hc8
                    clear hA8 hn8 hc8
                    have z0 : wa5.cell? ⟨(W.heap.size + 1 + 1), 0, none⟩ = some (.int .u64 0) := by have := RowAt.cell R9.out 0; simpa using this
                    have z1 : wa5.cell? ⟨(W.heap.size + 1 + 1), 1, none⟩ = some (.slice none 0 0) := by have := RowAt.cell R9.out 1; simpa using this
                    have z2 : wa5.cell? ⟨(W.heap.size + 1 + 1), 2, none⟩ = some (.slice none 0 0) := by have := RowAt.cell R9.out 2; simpa using this
                    have z3 : wa5.cell? ⟨(W.heap.size + 1 + 1), 3, none⟩ = some (.slice none 0 0) := by have := RowAt.cell R9.out 3; simpa using this
                    have zl := RowAt.lt R9.out
                    have f0 := RowAt.frozen R9.out 0
                    have f1 := RowAt.frozen R9.out 1
                    have f2 := RowAt.frozen R9.out 2
                    have f3 := RowAt.frozen R9.out 3
                    have HL9 : Hid (LaidL (W.heap.size + 1 + 1) wa5 (limC l.E A8 n8 c8) ((((wa5.setCell ⟨(W.heap.size + 1 + 1), 0, none⟩ (.int .u64 (l.E : Int))).setCell ⟨(W.heap.size + 1 + 1), 1, none⟩ (.slice (A8 0) (n8 0) (c8 0))).setCell ⟨(W.heap.size + 1 + 1), 2, none⟩ (.slice (A8 1) (n8 1) (c8 1))).setCell ⟨(W.heap.size + 1 + 1), 3, none⟩ (.slice (A8 2) (n8 2) (c8 2)))) := hide (laidL_of R9.out rfl)
                    go_simp
                    have HB9 := hide (show Below (W.heap.size + 1 + 1) u2 ((((wa5.setCell ⟨W.heap.size + 1 + 1, 0, none⟩ (.int .u64 (l.E : Int))).setCell ⟨W.heap.size + 1 + 1, 1, none⟩ (.slice (A8 0) (n8 0) (c8 0))).setCell ⟨W.heap.size + 1 + 1, 2, none⟩ (.slice (A8 1) (n8 1) (c8 1))).setCell ⟨W.heap.size + 1 + 1, 3, none⟩ (.slice (A8 2) (n8 2) (c8 2))) from (HQ.out.mono GLE.out).trans HL9.out.below)
                    refine hK6.out _ _ (HB9.out) (fun _ => ?_)
                    clear hK6 K6
                    (try simp only [Act.put, List.getElem_toArray, List.getElem_cons_succ, List.getElem_cons_zero, List.setIfInBounds_toArray, List.set_cons_zero, List.set_cons_succ])
                    clear z0 z1 z2 z3 zl f0 f1 f2 f3 R9
                    generalize ((((wa5.setCell ⟨W.heap.size + 1 + 1, 0, none⟩ (.int .u64 (l.E : Int))).setCell ⟨W.heap.size + 1 + 1, 1, none⟩ (.slice (A8 0) (n8 0) (c8 0))).setCell ⟨W.heap.size + 1 + 1, 2, none⟩ (.slice (A8 1) (n8 1) (c8 1))).setCell ⟨W.heap.size + 1 + 1, 3, none⟩ (.slice (A8 2) (n8 2) (c8 2))) = wt at *
                    have HO9 := hide (own_other2 HO.out (fun g1 h1 _ => HL9.out.block g1 (by have := R3.out.lt; omega)))
                    have HR9 := hide (ret_row HO9.out HN9.out HLA.out HEA.out)
                    have HRES := hide (show LimRd wt wt.heap.size A8 n8 (upd l.r (rowN l.E 0) (l.at 0 ++ [(s, g)])) from by rw [← HA8.out, ← HN8.out]; exact LimRd.put ((HD0.out.below (HB9.out.mono (by omega))).more (Nat.le_trans HB.out.size (Nat.le_trans (Nat.le_of_eq rfl) HB9.out.size))) _ HR9.out.1 HR9.out.2)
                    have HLOW : Hid (LowL Q wt A8) := hide (by rw [← HA8.out]; exact (HLO.out.more (Nat.le_trans HB.out.size HB9.out.size)).pu _ (fun p hp => ⟨HL.out _ (Nat.le_trans HB.out.size (own_fresh2 HO9.out p hp).1), (own_fresh2 HO9.out p hp).2⟩))
                    have HCAP : Hid (CapL n8 c8) := hide (by rw [← HN8.out, ← HC8.out]; exact HCQ.out)
                    have HFIN := hide (HB.out.trans (HB9.out.mono (by omega)))
                    (refine wpAnyH_take (i := 10) (v := ?_) rfl (by kernel_rfl) (by kernel_rfl) (by kernel_rfl) (fun _ _ _ h => h) (Or.inl ⟨by rfl, ?_⟩) (by assumption) ?_; rotate_left; (focus (intro w hSw; (try dsimp only at hSw); go_simp; first | done | with_reducible rfl)); (try simp only [Act.put, List.getElem_toArray, List.getElem_cons_succ, List.getElem_cons_zero, List.setIfInBounds_toArray, List.set_cons_zero, List.set_cons_succ]))
                    refine wpAnyH_done (by kernel_rfl) ?_ _
                    go_wp2_with fail
                    have HLD := HL9
                    have y0 : wt.cell? ⟨W.heap.size + 1 + 1, 0, none⟩ = some (.int .u64 (l.E : Int)) := by have := HLD.out.row.cell 0; simpa [limC] using this
                    have y1 : wt.cell? ⟨W.heap.size + 1 + 1, 1, none⟩ = some (.slice (A8 0) (n8 0) (c8 0)) := by have := HLD.out.row.cell 1; simpa [limC] using this
                    have y2 : wt.cell? ⟨W.heap.size + 1 + 1, 2, none⟩ = some (.slice (A8 1) (n8 1) (c8 1)) := by have := HLD.out.row.cell 2; simpa [limC] using this
                    have y3 : wt.cell? ⟨W.heap.size + 1 + 1, 3, none⟩ = some (.slice (A8 2) (n8 2) (c8 2)) := by have := HLD.out.row.cell 3; simpa [limC] using this
                    have yl := HLD.out.row.lt
                    refine bodyPost_ret (v := .tuple #[.agg (limC l.E A8 n8 c8), .int .i64 0]) (by simp [results, Tryd.results18, go_sem, y0, y1, y2, y3, yl]) rfl ?_
                    exact refRes_ok (l := ⟨l.E, upd l.r (rowN l.E 0) (l.at 0 ++ [(s, g)])⟩) HF.out HRES.out HLOW.out HCAP.out HFIN.out
end Go.Proofs.YthnpcmigphpolaaDoor
