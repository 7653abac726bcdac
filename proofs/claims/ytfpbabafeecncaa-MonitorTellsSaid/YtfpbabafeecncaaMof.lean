/-
  A monitor that changes, in memory of its own.
-/
import Derived.Test.YtfpbabafeecncaaMoe
set_option linter.unusedSimpArgs false
set_option linter.unusedVariables false
namespace Go.Proofs.Ytfpbabafeecncaa
open Go Go.RowKit
attribute [local go_sem] via_cell via_frozen

theorem mneed_ok (k : Int) (W : World) : Calls Try.prog 64 #[.bool true, .int .i64 k] W fun e W' => e = .returned (.tuple #[]) ∧ W = W' := by
  go_enter Try.func64, Try.ntmps64
  go_wp2
  go_end0
  exact ⟨rfl, rfl⟩
theorem mneed_no (k : Int) (W : World) : Calls Try.prog 64 #[.bool false, .int .i64 k] W fun e W' => e = .panicked (errX k) ∧ W = W' := by
  go_enter Try.func64, Try.ntmps64
  go_wp2
  exact ⟨rfl, rfl, rfl⟩

/-- What lies below a bound is as it was, but for one block. -/
structure PastB (n kl : Nat) (w w' : World) : Prop where
  os : w'.os = w.os
  tape : w'.tape = w.tape
  output : w'.output = w.output
  size : w.heap.size ≤ w'.heap.size
  block : ∀ j, j < n → j ≠ kl → j < w.heap.size → w'.heap[j]? = w.heap[j]?
theorem PastB.refl (n kl : Nat) (w : World) : PastB n kl w w := ⟨rfl, rfl, rfl, Nat.le_refl _, fun _ _ _ _ => rfl⟩
theorem PastB.trans {n kl : Nat} {a b c : World} (h : PastB n kl a b) (g : PastB n kl b c) : PastB n kl a c :=
  ⟨g.os.trans h.os, g.tape.trans h.tape, g.output.trans h.output, Nat.le_trans h.size g.size, fun j h1 h2 h3 => (g.block j h1 h2 (Nat.lt_of_lt_of_le h3 h.size)).trans (h.block j h1 h2 h3)⟩
theorem PastB.of_below {n kl : Nat} {a b : World} (h : Below a.heap.size a b) : PastB n kl a b := ⟨h.os, h.tape, h.output, h.size, fun j _ _ h3 => h.block j h3⟩
theorem PastB.set {n kl : Nat} {a : World} {g i : Nat} {v : Value} (h : n ≤ g ∨ g = kl) : PastB n kl a (a.setCell ⟨g, i, none⟩ v) :=
  ⟨rfl, rfl, rfl, by simp, fun j h1 h2 _ => heap_setCell_ne _ _ _ _ (by show j ≠ g; omega)⟩
theorem PastB.grown {n kl : Nat} {a b : World} {row : Option Nat} (hg : a.grownBy b row) (hr : ∀ g, row = some g → n ≤ g) : PastB n kl a b :=
  ⟨hg.os, hg.tape, hg.output, hg.size, fun j h1 _ h3 => hg.block j h3 (fun e => by have := hr j e.symm; omega)⟩
theorem PastB.row {n kl g : Nat} {a b : World} {t : TypeId} {cs : Array Value} (h : PastB n kl a b) (hr : RowAt a g t cs) (h1 : g < n) (h2 : g ≠ kl) : RowAt b g t cs := (h.block g h1 h2 hr.lt).trans hr

theorem own_typ {w : World} {base : Nat} {e : TypeId} {sz n : Nat} {v : Value} {xs : List Value} (h : w.ownsRow base e sz v n xs) {g : Nat} (hg : v.ownBlock = some g) : base ≤ g ∧ ∃ cs, RowAt w g e cs := by
  rcases h.2 with ⟨rfl, _⟩ | ⟨g', cap, cur, rfl, hb, hh, _⟩
  · cases hg
  · have : g' = g := by injection hg
    subst this
    exact ⟨hb, _, hh⟩
theorem own_kept {w w' : World} {base : Nat} {e : TypeId} {sz n : Nat} {v : Value} {xs : List Value} (h : w.ownsRow base e sz v n xs) (hk : ∀ g, v.ownBlock = some g → g < w.heap.size → w'.heap[g]? = w.heap[g]?) : w'.ownsRow base e sz v n xs := by
  obtain ⟨h1, h2⟩ := h
  refine ⟨h1, ?_⟩
  rcases h2 with h | ⟨g, cap, cur, hv, hg, hh, r⟩
  · exact .inl h
  · exact .inr ⟨g, cap, cur, hv, hg, (hk g (by rw [hv]; rfl) (Array.getElem?_eq_some_iff.1 hh).1).trans hh, r⟩
theorem row_typ {w : World} {g : Nat} {t t' : TypeId} {cs cs' : Array Value} (h : RowAt w g t cs) (h' : RowAt w g t' cs') : t = t' := by
  unfold RowAt at h h'
  rw [h] at h'
  injection h' with h'
  injection h' with h1 h2 h3
/-- A store into a block of another type. -/
theorem own_setT {w : World} {base : Nat} {e t : TypeId} {sz n g i : Nat} {v u : Value} {xs : List Value} {cs : Array Value} (h : w.ownsRow base e sz v n xs) (hr : RowAt w g t cs) (hne : t ≠ e) : (w.setCell ⟨g, i, none⟩ u).ownsRow base e sz v n xs :=
  own_kept h (fun j hj _ => heap_setCell_ne _ _ _ _ (by
    rintro rfl
    obtain ⟨_, cs', h'⟩ := own_typ h hj
    exact hne (row_typ hr h')))
/-- A row of another type has grown. -/
theorem own_grownT {w w' : World} {base : Nat} {e t : TypeId} {sz n : Nat} {v : Value} {xs : List Value} {row : Option Nat} (h : w.ownsRow base e sz v n xs) (hg : w.grownBy w' row) (hr : ∀ g, row = some g → ∃ cs, RowAt w g t cs) (hne : t ≠ e) : w'.ownsRow base e sz v n xs :=
  own_kept h (fun j hj hl => hg.block j hl (fun e1 => by
    obtain ⟨cs, h1⟩ := hr j e1.symm
    obtain ⟨_, cs', h'⟩ := own_typ h hj
    exact hne (row_typ h1 h')))
/-- The slabs of a monitor that changes. -/
structure SlAt (w : World) (base : Nat) (A : Option Addr) (n : Nat) (ys : List Ent) : Prop where
  len : ys.length = n
  rd : Rd w w.heap.size 2 A n (Cs encE ys)
  own : 0 < n → ∃ gs, A = some ⟨gs, 0, none⟩ ∧ base ≤ gs ∧ RowAt w gs 47 (Cs encE ys).toArray
theorem SlAt.of_out {W w : World} {base n : Nat} {A : Option Addr} {ys : List Ent} (h : ArOut W A n ys w) (hb : base ≤ W.heap.size) : SlAt w base A n ys :=
  ⟨h.len, h.rd, fun hn => by obtain ⟨gs, h1, h2, h3⟩ := h.own hn; exact ⟨gs, h1, Nat.le_trans hb h2, h3⟩⟩
theorem SlAt.kept {w w' : World} {base n : Nat} {A : Option Addr} {ys : List Ent} (h : SlAt w base A n ys) (hs : w.heap.size ≤ w'.heap.size) (hk : ∀ g, base ≤ g → RowAt w g 47 (Cs encE ys).toArray → w'.heap[g]? = w.heap[g]?) : SlAt w' base A n ys := by
  rcases Nat.eq_zero_or_pos n with h0 | h0
  · subst h0
    exact ⟨h.len, ⟨h.rd.1, fun hn => absurd hn (by omega)⟩, fun hn => absurd hn (by omega)⟩
  · obtain ⟨gs, rfl, h2, h3⟩ := h.own h0
    have e := hk gs h2 h3
    have h4 : RowAt w' gs 47 (Cs encE ys).toArray := h3.heap e
    refine ⟨h.len, ⟨h.rd.1, fun hn => ?_⟩, fun _ => ⟨gs, rfl, h2, h4⟩⟩
    obtain ⟨b, o, e2, hb, hc⟩ := h.rd.2 hn
    injection e2 with e2
    injection e2 with e3 e4
    subst e3
    subst e4
    exact ⟨gs, 0, rfl, Nat.lt_of_lt_of_le hb hs, fun j u hu => (cell_of_heap (p := ⟨gs, 0 + j, none⟩) e).trans (hc j u hu)⟩
theorem SlAt.setT {w : World} {base n g i : Nat} {A : Option Addr} {ys : List Ent} {t : TypeId} {cs : Array Value} {u : Value} (h : SlAt w base A n ys) (hr : RowAt w g t cs) (hne : t ≠ 47) : SlAt (w.setCell ⟨g, i, none⟩ u) base A n ys :=
  h.kept (by simp) (fun j _ hj => heap_setCell_ne _ _ _ _ (by rintro rfl; exact hne (row_typ hr hj)))
theorem SlAt.grownT {w w' : World} {base n : Nat} {A : Option Addr} {ys : List Ent} {t : TypeId} {row : Option Nat} (h : SlAt w base A n ys) (hg : w.grownBy w' row) (hr : ∀ g, row = some g → ∃ cs, RowAt w g t cs) (hne : t ≠ 47) : SlAt w' base A n ys :=
  h.kept hg.size (fun j _ hj => hg.block j hj.lt (fun e1 => by obtain ⟨cs, h1⟩ := hr j e1.symm; exact hne (row_typ h1 hj)))
/-- What a goroutine has, in memory of its own. -/
def OwnH (w : World) (base : Nat) (t : Hm) : Prop := w.ownsRow base 43 2 (.slice t.A t.q.length t.c) t.q.length (Cs encE t.q)
theorem OwnH.cap {w : World} {base : Nat} {t : Hm} (h : OwnH w base t) : t.q.length ≤ t.c ∧ t.c ≤ 9223372036854775807 := by
  obtain ⟨A, c, e, h1, h2⟩ := own_form2 h
  injection e with e1 e2 e3
  subst e3
  exact ⟨h1, h2⟩
theorem blk_of {A : Option Addr} {n c g : Nat} (h : (Value.slice A n c).ownBlock = some g) : ∃ p, A = some p ∧ p.block = g := by
  cases A with
  | none => cases h
  | some p => exact ⟨p, rfl, by injection h⟩
theorem blk_to {A : Option Addr} {n c : Nat} {p : Addr} (h : A = some p) : (Value.slice A n c).ownBlock = some p.block := by subst h; rfl
theorem Cs_setO {α : Type} {enc : α → List Value} (hl : ∀ x, (enc x).length = 1) (xs : List α) (k : Nat) (y : α) (v : Value) (hy : enc y = [v]) : (Cs enc xs).set k v = Cs enc (xs.set k y) := by
  apply List.ext_getElem?
  intro j
  have hlen : ∀ l : List α, (Cs enc l).length = l.length := fun l => by rw [Cs_length hl]; omega
  have hat : ∀ (l : List α) (i : Nat), (Cs enc l)[i]? = l[i]?.bind (fun x => (enc x)[0]?) := fun l i => by
    by_cases hi : i < l.length
    · have := Cs_at hl l i 0 hi (by omega)
      simp only [Nat.mul_one, Nat.add_zero] at this
      rw [this, List.getElem?_eq_getElem hi]; rfl
    · rw [List.getElem?_eq_none (by rw [hlen]; omega), List.getElem?_eq_none (l := l) (by omega)]; rfl
  rw [List.getElem?_set, hat, hat, List.getElem?_set, hlen]
  by_cases hkj : k = j
  · subst hkj
    by_cases hkl : k < xs.length
    · simp [hkl, hy]
    · simp [hkl]
  · simp [hkj]
theorem Cs_setB (xs : List Bool) (k : Nat) (b : Bool) : (Cs encB xs).set k (.bool b) = Cs encB (xs.set k b) := Cs_setO encB_len xs k b _ rfl
theorem Cs_setH (xs : List Hm) (k : Nat) (t : Hm) : (Cs encH xs).set k (.slice t.A t.q.length t.c) = Cs encH (xs.set k t) := Cs_setO encH_len xs k t _ rfl
structure WAt (w : World) (gx base : Nat) (a0 a1 a2 a3 a4 : Option Addr) (n0 n1 n2 n3 n4 c0 c1 c2 c3 c4 : Nat) (ts : List Hm) (m : Mon) (tk : List Ent) : Prop where
  row : RowAt w gx 85 #[.slice a0 n0 c0, .slice a1 n1 c1, .slice a2 n2 c2, .slice a3 n3 c3, .slice a4 n4 c4]
  sl : SlAt w base a0 n0 m.sl
  pin : w.ownsRow base 4 1 (.slice a1 n1 c1) n1 (Cs encB m.pin)
  has : w.ownsRow base 54 1 (.slice a2 n2 c2) n2 (Cs encH ts)
  rows : ∀ t ∈ ts, OwnH w base t
  bad : w.ownsRow base 45 4 (.slice a3 n3 c3) n3 (Cs encX m.bad)
  took : w.ownsRow base 43 2 (.slice a4 n4 c4) n4 (Cs encE tk)
  l1 : m.pin.length = n1
  l2 : ts.length = n2
  l3 : m.bad.length = n3
  l4 : tk.length = n4
  hs : m.has = rowsQ ts
  apart : ∀ i j, i < ts.length → j < ts.length → i ≠ j → ∀ p q, (ts.getD i hmZ).A = some p → (ts.getD j hmZ).A = some q → p.block ≠ q.block
  apt : ∀ t ∈ ts, ∀ p q, t.A = some p → a4 = some q → p.block ≠ q.block
section
variable {w w' : World} {gx base : Nat} {a0 a1 a2 a3 a4 : Option Addr} {n0 n1 n2 n3 n4 c0 c1 c2 c3 c4 : Nat} {ts : List Hm} {m : Mon} {tk : List Ent}
theorem WAt.below (h : WAt w gx base a0 a1 a2 a3 a4 n0 n1 n2 n3 n4 c0 c1 c2 c3 c4 ts m tk) (hb : Below w.heap.size w w') : WAt w' gx base a0 a1 a2 a3 a4 n0 n1 n2 n3 n4 c0 c1 c2 c3 c4 ts m tk :=
  ⟨h.row.below hb, h.sl.kept hb.size (fun g _ hr => hb.block g hr.lt), own_keepB h.pin hb, own_keepB h.has hb, fun t ht => own_keepB (h.rows t ht) hb, own_keepB h.bad hb, own_keepB h.took hb, h.l1, h.l2, h.l3, h.l4, h.hs, h.apart, h.apt⟩
/-- The hand itself is none of the rows. -/
theorem WAt.nx (h : WAt w gx base a0 a1 a2 a3 a4 n0 n1 n2 n3 n4 c0 c1 c2 c3 c4 ts m tk) {e : TypeId} {sz n b : Nat} {v : Value} {xs : List Value} (ho : w.ownsRow b e sz v n xs) (hne : e ≠ 85) : some gx ≠ v.ownBlock := fun e1 => by
  obtain ⟨_, cs, hr⟩ := own_typ ho e1.symm
  exact hne (row_typ hr h.row)
theorem WAt.mon (h : WAt w gx base a0 a1 a2 a3 a4 n0 n1 n2 n3 n4 c0 c1 c2 c3 c4 ts m tk) : MonX w w.heap.size a0 a1 a2 a3 n0 n1 n2 n3 ts m :=
  ⟨h.sl.rd, h.sl.len, by have := h.pin; exact Rd.of_own this, h.l1, ⟨Rd.of_own h.has, h.l2, fun t ht => Rd.of_own (h.rows t ht)⟩, h.hs, Rd.of_own h.bad, h.l3⟩
/-- A store into the row of who is pinned. -/
theorem WAt.setPin {gp : Nat} (h : WAt w gx base a0 (some ⟨gp, 0, none⟩) a2 a3 a4 n0 n1 n2 n3 n4 c0 c1 c2 c3 c4 ts m tk) {k : Nat} (hk : k < n1) (b : Bool) :
    WAt (w.setCell ⟨gp, k, none⟩ (.bool b)) gx base a0 (some ⟨gp, 0, none⟩) a2 a3 a4 n0 n1 n2 n3 n4 c0 c1 c2 c3 c4 ts ⟨m.sl, m.pin.set k b, m.has, m.bad⟩ tk := by
  obtain ⟨hge, cs, hr⟩ := own_typ h.pin (g := gp) rfl
  have hst := (h.pin.stored k (.bool b)).1
  have e : (Cs encB m.pin).set k (.bool b) = Cs encB (m.pin.set k b) := by
    have := Cs_setB m.pin k b
    exact this
  rw [e] at hst
  exact ⟨h.row.setNe (by rintro rfl; exact absurd (row_typ hr h.row) (by decide)), h.sl.setT hr (by decide), hst, own_setT h.has hr (by decide), fun t ht => own_setT (h.rows t ht) hr (by decide), own_setT h.bad hr (by decide), own_setT h.took hr (by decide), by simpa using h.l1, h.l2, h.l3, h.l4, h.hs, h.apart, h.apt⟩
/-- What a goroutine has is another row. -/
theorem WAt.setHas {gh : Nat} (h : WAt w gx base a0 a1 (some ⟨gh, 0, none⟩) a3 a4 n0 n1 n2 n3 n4 c0 c1 c2 c3 c4 ts m tk) {k : Nat} (hk : k < n2) (t : Hm) (ht : OwnH w base t)
    (hap : ∀ j, j < ts.length → j ≠ k → ∀ p q, t.A = some p → (ts.getD j hmZ).A = some q → p.block ≠ q.block) (hat : ∀ p q, t.A = some p → a4 = some q → p.block ≠ q.block) {n c : Nat} (hn : t.q.length = n) (hc : t.c = c) :
    WAt (w.setCell ⟨gh, k, none⟩ (.slice t.A n c)) gx base a0 a1 (some ⟨gh, 0, none⟩) a3 a4 n0 n1 n2 n3 n4 c0 c1 c2 c3 c4 (ts.set k t) ⟨m.sl, m.pin, m.has.set k t.q, m.bad⟩ tk := by
  obtain ⟨hge, cs, hr⟩ := own_typ h.has (g := gh) rfl
  subst hn
  subst hc
  have hst := (h.has.stored k (.slice t.A t.q.length t.c)).1
  have e : (Cs encH ts).set k (.slice t.A t.q.length t.c) = Cs encH (ts.set k t) := Cs_setH ts k t
  rw [e] at hst
  have hkl : k < ts.length := by rw [h.l2]; exact hk
  refine ⟨h.row.setNe (by rintro rfl; exact absurd (row_typ hr h.row) (by decide)), h.sl.setT hr (by decide), own_setT h.pin hr (by decide), hst, fun u hu => ?_, own_setT h.bad hr (by decide), own_setT h.took hr (by decide), h.l1, by simpa using h.l2, h.l3, h.l4, ?_, fun i j hi hj hne p q hp hq => ?_, fun u hu p q hp hq => ?_⟩
  · rcases List.mem_or_eq_of_mem_set hu with hu | rfl
    · exact own_setT (h.rows u hu) hr (by decide)
    · exact own_setT ht hr (by decide)
  · show m.has.set k t.q = rowsQ (ts.set k t)
    rw [h.hs]
    unfold rowsQ
    rw [List.map_set]
  · rw [List.length_set] at hi hj
    rw [getD_setN _ _ _ _ _ hkl] at hp hq
    by_cases hik : i = k
    · rw [if_pos hik] at hp
      rw [if_neg (by omega)] at hq
      exact hap j hj (by omega) p q hp hq
    · rw [if_neg hik] at hp
      by_cases hjk : j = k
      · rw [if_pos hjk] at hq
        exact (hap i hi hik q p hq hp).symm
      · rw [if_neg hjk] at hq
        exact h.apart i j hi hj hne p q hp hq
  · rcases List.mem_or_eq_of_mem_set hu with hu | rfl
    · exact h.apt u hu p q hp hq
    · exact hat p q hp hq
/-- Other slabs. -/
theorem WAt.setSl (h : WAt w gx base a0 a1 a2 a3 a4 n0 n1 n2 n3 n4 c0 c1 c2 c3 c4 ts m tk) {A : Option Addr} {n c : Nat} {ys : List Ent} (hs : SlAt w base A n ys) :
    WAt (w.setCell ⟨gx, 0, none⟩ (.slice A n c)) gx base A a1 a2 a3 a4 n n1 n2 n3 n4 c c1 c2 c3 c4 ts ⟨ys, m.pin, m.has, m.bad⟩ tk :=
  ⟨by have := h.row.set 0 (.slice A n c); simpa using this, hs.setT h.row (by decide), own_setT h.pin h.row (by decide), own_setT h.has h.row (by decide), fun t ht => own_setT (h.rows t ht) h.row (by decide), own_setT h.bad h.row (by decide), own_setT h.took h.row (by decide), h.l1, h.l2, h.l3, h.l4, h.hs, h.apart, h.apt⟩
/-- Bad touches: the row has grown, and its slice is stored. -/
theorem WAt.setBad (h : WAt w gx base a0 a1 a2 a3 a4 n0 n1 n2 n3 n4 c0 c1 c2 c3 c4 ts m tk) (hg : w.grownBy w' (Value.slice a3 n3 c3).ownBlock) {A : Option Addr} {n c : Nat} {bs : List Wt} (ho : w'.ownsRow base 45 4 (.slice A n c) n (Cs encX bs)) (hl : bs.length = n) :
    WAt (w'.setCell ⟨gx, 3, none⟩ (.slice A n c)) gx base a0 a1 a2 A a4 n0 n1 n2 n n4 c0 c1 c2 c c4 ts ⟨m.sl, m.pin, m.has, bs⟩ tk := by
  have hr : ∀ g, (Value.slice a3 n3 c3).ownBlock = some g → ∃ cs, RowAt w g 45 cs := fun g hg => (own_typ h.bad hg).2
  have hrow : RowAt w' gx 85 #[.slice a0 n0 c0, .slice a1 n1 c1, .slice a2 n2 c2, .slice a3 n3 c3, .slice a4 n4 c4] := (hg.block gx h.row.lt (fun e => by obtain ⟨_, cs, hr⟩ := own_typ h.bad e.symm; exact absurd (row_typ hr h.row) (by decide))).trans h.row
  exact ⟨by have := hrow.set 3 (.slice A n c); simpa using this, (h.sl.grownT hg hr (by decide)).setT hrow (by decide), own_setT (own_grownT h.pin hg hr (by decide)) hrow (by decide), own_setT (own_grownT h.has hg hr (by decide)) hrow (by decide), fun t ht => own_setT (own_grownT (h.rows t ht) hg hr (by decide)) hrow (by decide), own_setT ho hrow (by decide), own_setT (own_grownT h.took hg hr (by decide)) hrow (by decide), h.l1, h.l2, hl, h.l4, h.hs, h.apart, h.apt⟩
/-- What was taken: the row has grown, and its slice is stored. -/
theorem WAt.setTook (h : WAt w gx base a0 a1 a2 a3 a4 n0 n1 n2 n3 n4 c0 c1 c2 c3 c4 ts m tk) (hg : w.grownBy w' (Value.slice a4 n4 c4).ownBlock) {A : Option Addr} {n c : Nat} {xs : List Ent} (ho : w'.ownsRow base 43 2 (.slice A n c) n (Cs encE xs)) (hl : xs.length = n)
    (hv : (Value.slice A n c).ownBlock = (Value.slice a4 n4 c4).ownBlock ∨ (Value.slice A n c).ownBlock = some w.heap.size) :
    WAt (w'.setCell ⟨gx, 4, none⟩ (.slice A n c)) gx base a0 a1 a2 a3 A n0 n1 n2 n3 n c0 c1 c2 c3 c ts m xs := by
  have hr : ∀ g, (Value.slice a4 n4 c4).ownBlock = some g → ∃ cs, RowAt w g 43 cs := fun g hg => (own_typ h.took hg).2
  have hrow : RowAt w' gx 85 #[.slice a0 n0 c0, .slice a1 n1 c1, .slice a2 n2 c2, .slice a3 n3 c3, .slice a4 n4 c4] := (hg.block gx h.row.lt (fun e => by obtain ⟨_, cs, hr⟩ := own_typ h.took e.symm; exact absurd (row_typ hr h.row) (by decide))).trans h.row
  refine ⟨by have := hrow.set 4 (.slice A n c); simpa using this, (h.sl.grownT hg hr (by decide)).setT hrow (by decide), own_setT (own_grownT h.pin hg hr (by decide)) hrow (by decide), own_setT (own_grownT h.has hg hr (by decide)) hrow (by decide), fun t ht => own_setT (own_kept (h.rows t ht) (fun g hg2 hl2 => hg.block g hl2 (fun e => ?_))) hrow (by decide), own_setT (own_grownT h.bad hg hr (by decide)) hrow (by decide), own_setT ho hrow (by decide), h.l1, h.l2, h.l3, hl, h.hs, h.apart, fun t ht p q hp hq => ?_⟩
  · obtain ⟨p, hp, rfl⟩ := blk_of hg2
    obtain ⟨q, hq, e2⟩ := blk_of e.symm
    exact h.apt t ht p q hp hq e2.symm
  · have hlt : p.block < w.heap.size := by obtain ⟨_, cs, hr⟩ := own_typ (h.rows t ht) (blk_to hp); exact hr.lt
    rcases hv with e | e
    · obtain ⟨q2, hq2, e2⟩ := blk_of (show (Value.slice a4 n4 c4).ownBlock = some q.block from by rw [← e]; exact blk_to hq)
      rw [← e2]; exact h.apt t ht p q2 hp hq2
    · have : q.block = w.heap.size := by have := blk_to (n := n) (c := c) hq; rw [e] at this; injection this with this; exact this.symm
      omega
/-- A row of what somebody has has grown. -/
theorem WAt.grownH (h : WAt w gx base a0 a1 a2 a3 a4 n0 n1 n2 n3 n4 c0 c1 c2 c3 c4 ts m tk) {k : Nat} (hk : k < ts.length) (hg : w.grownBy w' (Value.slice (ts.getD k hmZ).A (ts.getD k hmZ).q.length (ts.getD k hmZ).c).ownBlock) {t : Hm} (ho : OwnH w' base t) {gh : Nat} (h2 : a2 = some ⟨gh, 0, none⟩)
    (hv : (Value.slice t.A t.q.length t.c).ownBlock = (Value.slice (ts.getD k hmZ).A (ts.getD k hmZ).q.length (ts.getD k hmZ).c).ownBlock ∨ (Value.slice t.A t.q.length t.c).ownBlock = some w.heap.size) {n c : Nat} (hn : t.q.length = n) (hc : t.c = c) :
    WAt (w'.setCell ⟨gh, k, none⟩ (.slice t.A n c)) gx base a0 a1 (some ⟨gh, 0, none⟩) a3 a4 n0 n1 n2 n3 n4 c0 c1 c2 c3 c4 (ts.set k t) ⟨m.sl, m.pin, m.has.set k t.q, m.bad⟩ tk := by
  subst h2
  subst hn
  subst hc
  have hm := getH_mem hk
  obtain ⟨hge, csh, hrh⟩ := own_typ h.has (g := gh) rfl
  have hr : ∀ g, (Value.slice (ts.getD k hmZ).A (ts.getD k hmZ).q.length (ts.getD k hmZ).c).ownBlock = some g → ∃ cs, RowAt w g 43 cs := fun g hg => (own_typ (h.rows _ hm) hg).2
  have hrow : RowAt w' gx 85 #[.slice a0 n0 c0, .slice a1 n1 c1, .slice (some ⟨gh, 0, none⟩) n2 c2, .slice a3 n3 c3, .slice a4 n4 c4] := (hg.block gx h.row.lt (fun e => by obtain ⟨_, cs, hr⟩ := own_typ (h.rows _ hm) e.symm; exact absurd (row_typ hr h.row) (by decide))).trans h.row
  have hrh' : RowAt w' gh 54 csh := (hg.block gh hrh.lt (fun e => by obtain ⟨cs, h1⟩ := hr gh e.symm; exact absurd (row_typ h1 hrh) (by decide))).trans hrh
  have hlt : ∀ j, j < ts.length → ∀ q, (ts.getD j hmZ).A = some q → q.block < w.heap.size := fun j hj q hq => by obtain ⟨_, cs, hr⟩ := own_typ (h.rows _ (getH_mem hj)) (blk_to hq); exact hr.lt
  have hap : ∀ j, j < ts.length → j ≠ k → ∀ p q, t.A = some p → (ts.getD j hmZ).A = some q → p.block ≠ q.block := fun j hj hjk p q hp hq => by
    rcases hv with e | e
    · obtain ⟨p2, hp2, e2⟩ := blk_of (show (Value.slice (ts.getD k hmZ).A (ts.getD k hmZ).q.length (ts.getD k hmZ).c).ownBlock = some p.block from by rw [← e]; exact blk_to hp)
      rw [← e2]; exact h.apart k j hk hj (fun e => hjk e.symm) p2 q hp2 hq
    · have : p.block = w.heap.size := by have := blk_to (n := t.q.length) (c := t.c) hp; rw [e] at this; injection this with this; exact this.symm
      have := hlt j hj q hq
      omega
  have hat : ∀ p q, t.A = some p → a4 = some q → p.block ≠ q.block := fun p q hp hq => by
    have hq2 : q.block < w.heap.size := by obtain ⟨_, cs, hr⟩ := own_typ h.took (blk_to hq); exact hr.lt
    rcases hv with e | e
    · obtain ⟨p2, hp2, e2⟩ := blk_of (show (Value.slice (ts.getD k hmZ).A (ts.getD k hmZ).q.length (ts.getD k hmZ).c).ownBlock = some p.block from by rw [← e]; exact blk_to hp)
      rw [← e2]; exact h.apt _ hm p2 q hp2 hq
    · have : p.block = w.heap.size := by have := blk_to (n := t.q.length) (c := t.c) hp; rw [e] at this; injection this with this; exact this.symm
      omega
  have hst := ((own_grownT h.has hg hr (by decide)).stored k (.slice t.A t.q.length t.c)).1
  rw [show (Cs encH ts).set k (.slice t.A t.q.length t.c) = Cs encH (ts.set k t) from Cs_setH ts k t] at hst
  refine ⟨hrow.setNe (by rintro rfl; exact absurd (row_typ hrh h.row) (by decide)), (h.sl.grownT hg hr (by decide)).setT hrh' (by decide), own_setT (own_grownT h.pin hg hr (by decide)) hrh' (by decide), hst, fun u hu => ?_, own_setT (own_grownT h.bad hg hr (by decide)) hrh' (by decide), own_setT (own_kept h.took (fun g hg2 hl2 => hg.block g hl2 (fun e => ?_))) hrh' (by decide), h.l1, by simpa using h.l2, h.l3, h.l4, ?_, fun i j hi hj hne p q hp hq => ?_, fun u hu p q hp hq => ?_⟩
  · obtain ⟨i, hi, rfl⟩ := List.getElem_of_mem hu
    rw [List.length_set] at hi
    rw [List.getElem_set]
    by_cases hik : k = i
    · rw [if_pos hik]; exact own_setT ho hrh' (by decide)
    · rw [if_neg hik]
      have hmi := List.getElem_mem hi
      refine own_setT (own_kept (h.rows _ hmi) (fun g hg2 hl2 => hg.block g hl2 (fun e => ?_))) hrh' (by decide)
      obtain ⟨p, hp, rfl⟩ := blk_of hg2
      obtain ⟨q, hq, e2⟩ := blk_of e.symm
      exact h.apart i k hi hk (fun e => hik e.symm) p q (by rw [getH_get hi]; exact hp) hq e2.symm
  · obtain ⟨p, hp, rfl⟩ := blk_of hg2
    obtain ⟨q, hq, e2⟩ := blk_of e.symm
    exact h.apt _ hm q p hq hp e2
  · show m.has.set k t.q = rowsQ (ts.set k t)
    rw [h.hs]
    unfold rowsQ
    rw [List.map_set]
  · rw [List.length_set] at hi hj
    rw [getD_setN _ _ _ _ _ hk] at hp hq
    by_cases hik : i = k
    · rw [if_pos hik] at hp
      rw [if_neg (by omega)] at hq
      exact hap j hj (by omega) p q hp hq
    · rw [if_neg hik] at hp
      by_cases hjk : j = k
      · rw [if_pos hjk] at hq
        exact (hap i hi hik q p hq hp).symm
      · rw [if_neg hjk] at hq
        exact h.apart i j hi hj hne p q hp hq
  · rcases List.mem_or_eq_of_mem_set hu with hu | rfl
    · exact h.apt u hu p q hp hq
    · exact hat p q hp hq
end
end Go.Proofs.Ytfpbabafeecncaa
