/-
  Done in a monitor: one thing; a row of things.
-/
import Derived.Test.YtfpbabafeecncaaMom
set_option linter.unusedSimpArgs false
set_option linter.unusedVariables false
namespace Go.Proofs.Ytfpbabafeecncaa
open Go Go.RowKit
attribute [local go_sem] via_cell via_frozen

/-! How much there is. -/
def HasLe (m : Mon) (R : Nat) : Prop := ∀ l ∈ m.has, l.length ≤ R
theorem get_le {m : Mon} {g : Nat} {e : Ent} {R : Nat} (h : HasLe m R) : HasLe (getM m g e) (R + 1) := by
  unfold getM
  split
  · intro l hl; have := h l hl; omega
  · intro l hl
    rcases List.mem_or_eq_of_mem_set hl with hl | rfl
    · have := h l hl; omega
    · rw [List.length_append, List.length_singleton]
      have : (rowM m g).length ≤ R := by
        unfold rowM
        rw [List.getD_eq_getElem?_getD]
        cases hx : m.has[g]? with
        | none => simp
        | some l => exact h l (List.mem_of_getElem? hx)
      omega
theorem le_up {m : Mon} {R : Nat} (h : HasLe m R) : HasLe m (R + 1) := fun l hl => by have := h l hl; omega
theorem deed_le {m : Mon} {tk : List Ent} {w : Wt} {x : Mon × List Ent} {R : Nat} (h : HasLe m R) (hd : deedM m tk w = .ok x) : HasLe x.1 (R + 1) ∧ x.2.length ≤ tk.length + 1 := by
  unfold deedM at hd
  dsimp only at hd
  by_cases k1 : w.1 = 1
  · rw [if_pos k1] at hd
    split at hd
    · cases hd
    · injection hd with hd; subst hd; exact ⟨le_up h, by simp⟩
  rw [if_neg k1] at hd
  by_cases k2 : w.1 = 2
  · rw [if_pos k2] at hd
    split at hd
    · injection hd with hd; subst hd
      refine ⟨fun l hl => ?_, by simp⟩
      rcases List.mem_or_eq_of_mem_set hl with hl | rfl
      · have := h l hl; omega
      · simp
    · cases hd
  rw [if_neg k2] at hd
  by_cases k3 : w.1 = 3
  · rw [if_pos k3] at hd
    split at hd
    · injection hd with hd; subst hd; exact ⟨get_le h, by simp⟩
    · cases hd
  rw [if_neg k3] at hd
  by_cases k4 : w.1 = 4 ∨ w.1 = 5
  · rw [if_pos k4] at hd
    split at hd
    · injection hd with hd; subst hd
      refine ⟨?_, by simp⟩
      unfold touchM
      split
      · exact le_up (m := ⟨m.sl, m.pin, m.has, m.bad ++ [w]⟩) h
      · exact le_up h
    · cases hd
  rw [if_neg k4] at hd
  by_cases k6 : w.1 = 6
  · rw [if_pos k6] at hd
    split at hd
    · split at hd
      · rename_i ht
        injection hd with hd; subst hd
        refine ⟨get_le (m := ⟨tkA m.sl 1, m.pin, m.has, m.bad⟩) h, ?_⟩
        show (tk ++ tkL m.sl 1).length ≤ _
        rw [List.length_append, tkL_one m.sl ht]; exact Nat.le_refl _
      · cases hd
    · cases hd
  rw [if_neg k6] at hd
  by_cases k7 : w.1 = 7
  · rw [if_pos k7] at hd
    split at hd
    · injection hd with hd; subst hd; exact ⟨le_up (m := ⟨rtA m.sl [w.2.2], m.pin, m.has, m.bad⟩) h, by simp⟩
    · cases hd
  rw [if_neg k7] at hd
  split at hd
  · injection hd with hd; subst hd; exact ⟨le_up (m := ⟨gvA m.sl [w.2.2], m.pin, m.has, m.bad⟩) h, by simp⟩
  · cases hd
theorem does_le {m : Mon} {tk : List Ent} {w : Wt} {x : Mon × List Ent} {R : Nat} (h : HasLe m R) (hd : doesM m tk w = .ok x) : HasLe x.1 (R + 1) ∧ x.2.length ≤ tk.length + 1 := by
  unfold doesM at hd
  split at hd
  · cases hd
  · split at hd
    · cases hd
    · split at hd
      · cases hd
      · exact deed_le h hd
theorem run_le : ∀ (l : List Wt) {m : Mon} {tk : List Ent} {x : Mon × List Ent} {R : Nat}, OkM m → HasLe m R → runM m tk l = .ok x → OkM x.1 ∧ HasLe x.1 (R + l.length) ∧ x.2.length ≤ tk.length + l.length
  | [], m, tk, x, R, ho, h, hr => by
    rw [runM] at hr
    injection hr with hr; subst hr
    exact ⟨ho, h, Nat.le_refl _⟩
  | w :: l, m, tk, x, R, ho, h, hr => by
    rw [runM] at hr
    cases hd : doesM m tk w with
    | error k => rw [hd] at hr; cases hr
    | ok y =>
      rw [hd] at hr
      have h1 := does_le h hd
      have h2 := run_le l (ok_does ho hd) h1.1 hr
      refine ⟨h2.1, ?_, ?_⟩
      · rw [List.length_cons, show R + (l.length + 1) = R + 1 + l.length from by omega]; exact h2.2.1
      · rw [List.length_cons]; have := h2.2.2; have := h1.2; omega
theorem WAt.small {w : World} {gx base : Nat} {a0 a1 a2 a3 a4 : Option Addr} {n0 n1 n2 n3 n4 c0 c1 c2 c3 c4 : Nat} {ts : List Hm} {m : Mon} {tk : List Ent} (h : WAt w gx base a0 a1 a2 a3 a4 n0 n1 n2 n3 n4 c0 c1 c2 c3 c4 ts m tk) (ho : OkM m) {R : Nat} (hR : HasLe m R) (h4 : R ≤ 4096) : SmallX n0 n1 n2 n3 ts := by
  have e2 : n2 = m.has.length := by rw [h.hs, rowsQ_len, h.l2]
  have hm : ∀ t ∈ ts, t.q.length ≤ R := fun t ht => hR _ (by rw [h.hs]; unfold rowsQ; exact List.mem_map.2 ⟨t, ht, rfl⟩)
  refine ⟨by have := (arOk_out ho.ar).2.1; have := h.sl.len; omega, by have := ho.hi; have := h.l1; omega, by have := ho.hi; have := ho.has; omega, by have := ho.bl; have := h.l3; omega, fun t ht => by have := hm t ht; omega, fun t ht => (h.rows t ht).cap⟩
theorem WAt.qs {w : World} {gx base : Nat} {a0 a1 a2 a3 a4 : Option Addr} {n0 n1 n2 n3 n4 c0 c1 c2 c3 c4 : Nat} {ts : List Hm} {m : Mon} {tk : List Ent} (h : WAt w gx base a0 a1 a2 a3 a4 n0 n1 n2 n3 n4 c0 c1 c2 c3 c4 ts m tk) {R : Nat} (hR : HasLe m R) : ∀ t ∈ ts, t.q.length ≤ R := fun t ht => hR _ (by rw [h.hs]; unfold rowsQ; exact List.mem_map.2 ⟨t, ht, rfl⟩)

/-! What comes out. -/
def outM : Except Int (Mon × List Ent) → Mon
  | .ok x => x.1
  | .error _ => mon0
def outT : Except Int (Mon × List Ent) → List Ent
  | .ok x => x.2
  | .error _ => []
def outE (r : Except Int (Mon × List Ent)) : Ent := (outT r).getLastD (0, 0)
def outK : Except Int (Mon × List Ent) → Int
  | .ok _ => 0
  | .error k => k
def okR (m : Mon) (r : Except Int (Mon × List Ent)) : Except Int (Mon × List Ent) := if m.ok then r else .error 220
def DoM (m : Mon) (w : Wt) : Except Int (Mon × List Ent) := okR m (doesM m [] w)
def RunM (m : Mon) (l : List Wt) : Except Int (Mon × List Ent) := okR m (runM m [] l)
theorem WAt.keepA {w w' : World} {gx base : Nat} {a0 a1 a2 a3 a4 : Option Addr} {n0 n1 n2 n3 n4 c0 c1 c2 c3 c4 : Nat} {ts : List Hm} {m : Mon} {tk : List Ent} (h : WAt w gx base a0 a1 a2 a3 a4 n0 n1 n2 n3 n4 c0 c1 c2 c3 c4 ts m tk) (hs : w.heap.size ≤ w'.heap.size) {B : Nat} (hb : B ≤ base) (hg : B ≤ gx) (hk : ∀ j, B ≤ j → j < w.heap.size → w'.heap[j]? = w.heap[j]?) : WAt w' gx base a0 a1 a2 a3 a4 n0 n1 n2 n3 n4 c0 c1 c2 c3 c4 ts m tk := by
  have ko : ∀ {e : TypeId} {sz n : Nat} {v : Value} {xs : List Value}, w.ownsRow base e sz v n xs → w'.ownsRow base e sz v n xs := fun ho => own_kept ho (fun g hg hl => hk g (by have := (own_typ ho hg).1; omega) hl)
  exact ⟨(hk gx hg h.row.lt).trans h.row, h.sl.kept hs (fun g hg hr => hk g (by omega) hr.lt), ko h.pin, ko h.has, fun t ht => ko (h.rows t ht), ko h.bad, ko h.took, h.l1, h.l2, h.l3, h.l4, h.hs, h.apart, h.apt⟩
/-- The hand as it comes back. -/
structure HandX (w : World) (B gx : Nat) (a0 a1 a2 a3 a4 : Option Addr) (n0 n1 n2 n3 n4 c0 c1 c2 c3 c4 : Nat) (ts : List Hm) (m : Mon) (xs : List Ent) : Prop where
  row : RowAt w gx 85 #[.slice a0 n0 c0, .slice a1 n1 c1, .slice a2 n2 c2, .slice a3 n3 c3, .slice a4 n4 c4]
  mon : ∀ w', w.heap.size ≤ w'.heap.size → (∀ j, B ≤ j → j < w.heap.size → w'.heap[j]? = w.heap[j]?) → MonX w' w'.heap.size a0 a1 a2 a3 n0 n1 n2 n3 ts m ∧ Rd w' w.heap.size 2 a4 n4 (Cs encE xs)
  l4 : xs.length = n4
  caps : ∀ t ∈ ts, t.q.length ≤ t.c ∧ t.c ≤ 9223372036854775807
  cap3 : n3 ≤ c3 ∧ c3 ≤ 9223372036854775807
theorem own_cap {w : World} {base : Nat} {e : TypeId} {sz n c : Nat} {A : Option Addr} {xs : List Value} (h : w.ownsRow base e sz (.slice A n c) n xs) : n ≤ c ∧ c ≤ 9223372036854775807 := by
  obtain ⟨A', c', e, h1, h2⟩ := own_form2 h
  injection e with e1 e2 e3
  subst e3
  exact ⟨h1, h2⟩
theorem TrM.out {r : Except Int (Mon × List Ent)} {W W' : World} {e : Ending} (h : TrM r W e W') : Below W.heap.size W W' ∧ ∃ gx a0 a1 a2 a3 a4 n0 n1 n2 n3 n4 c0 c1 c2 c3 c4 ts, e = .returned (.tuple #[.pointer (some ⟨gx, 0, none⟩), .int .i64 (outK r)]) ∧ HandX W' W.heap.size gx a0 a1 a2 a3 a4 n0 n1 n2 n3 n4 c0 c1 c2 c3 c4 ts (outM r) (outT r) := by
  refine ⟨h.1, ?_⟩
  rcases h.2 with ⟨m', tk', gx, base, rfl, rfl, ⟨a0, a1, a2, a3, a4, n0, n1, n2, n3, n4, c0, c1, c2, c3, c4, ts, hat, _⟩, hg, hb⟩ | ⟨gz, k, rfl, rfl, hz⟩
  · refine ⟨gx, a0, a1, a2, a3, a4, n0, n1, n2, n3, n4, c0, c1, c2, c3, c4, ts, rfl, hat.row, fun w' hs hk => ?_, hat.l4, (fun t ht => (hat.rows t ht).cap), own_cap hat.bad⟩
    have h2 := hat.keepA hs hb hg hk
    refine ⟨h2.mon, ?_⟩
    have h3 := Rd.of_own hat.took
    refine ⟨h3.1, fun hn => ?_⟩
    obtain ⟨b, o, e, hbl, hc⟩ := h3.2 hn
    refine ⟨b, o, e, hbl, fun j u hu => ?_⟩
    have hbb := (own_typ hat.took (blk_to e)).1
    exact (cell_of_heap (p := ⟨b, o + j, none⟩) (hk b (Nat.le_trans hb hbb) hbl)).trans (hc j u hu)
  · exact ⟨gz, none, none, none, none, none, 0, 0, 0, 0, 0, 0, 0, 0, 0, 0, [], rfl, hz, fun w' _ _ => ⟨zero_mon _ _, Rd.none_⟩, rfl, (fun t ht => by cases ht), Nat.le_refl _, Nat.zero_le _⟩
/-- A monitor that comes out, in memory that stays. -/
def MonOut (B : Nat) (w : World) (v : Value) (m : Mon) : Prop := ∃ a0 a1 a2 a3 n0 n1 n2 n3 c0 c1 c2 c3 ts, v = .agg (moC a0 a1 a2 a3 n0 n1 n2 n3 c0 c1 c2 c3) ∧ (∀ w' : World, w.heap.size ≤ w'.heap.size → (∀ j, B ≤ j → j < w.heap.size → w'.heap[j]? = w.heap[j]?) → MonX w' w'.heap.size a0 a1 a2 a3 n0 n1 n2 n3 ts m) ∧ (∀ t ∈ ts, t.q.length ≤ t.c ∧ t.c ≤ 9223372036854775807) ∧ n3 ≤ c3 ∧ c3 ≤ 9223372036854775807
theorem MonOut.other {B : Nat} {w w' : World} {v : Value} {m : Mon} (h : MonOut B w v m) (hs : w.heap.size ≤ w'.heap.size) (hk : ∀ j, B ≤ j → j < w.heap.size → w'.heap[j]? = w.heap[j]?) : MonOut B w' v m := by
  obtain ⟨a0, a1, a2, a3, n0, n1, n2, n3, c0, c1, c2, c3, ts, rfl, h1, h2⟩ := h
  exact ⟨a0, a1, a2, a3, n0, n1, n2, n3, c0, c1, c2, c3, ts, rfl, fun w2 hs2 hk2 => h1 w2 (Nat.le_trans hs hs2) (fun j hj hl => (hk2 j hj (Nat.lt_of_lt_of_le hl hs)).trans (hk j hj hl)), h2⟩
theorem MonOut.below {B : Nat} {w w' : World} {v : Value} {m : Mon} (h : MonOut B w v m) (hb : Below w.heap.size w w') : MonOut B w' v m := h.other hb.size (fun j _ hl => hb.block j hl)
theorem MonOut.up {B B' : Nat} {w : World} {v : Value} {m : Mon} (h : MonOut B w v m) (hb : B' ≤ B) : MonOut B' w v m := by
  obtain ⟨a0, a1, a2, a3, n0, n1, n2, n3, c0, c1, c2, c3, ts, rfl, h1, h2⟩ := h
  exact ⟨a0, a1, a2, a3, n0, n1, n2, n3, c0, c1, c2, c3, ts, rfl, fun w2 hs2 hk2 => h1 w2 hs2 (fun j hj hl => hk2 j (Nat.le_trans hb hj) hl), h2⟩
def DoOut (r : Except Int (Mon × List Ent)) (W : World) (e : Ending) (W' : World) : Prop :=
  (∃ v, e = .returned (.tuple #[v, .agg #[.int .i64 (outE r).1, .int .u64 (outE r).2], .int .i64 (outK r)]) ∧ MonOut W.heap.size W' v (outM r)) ∧ Below W.heap.size W W'
def RunOut (r : Except Int (Mon × List Ent)) (W : World) (e : Ending) (W' : World) : Prop :=
  (∃ v A n c, e = .returned (.tuple #[v, .slice A n c, .int .i64 (outK r)]) ∧ MonOut W.heap.size W' v (outM r) ∧ Rd W' W'.heap.size 2 A n (Cs encE (outT r)) ∧ (outT r).length = n) ∧ Below W.heap.size W W'
theorem PastB.to {n kl B : Nat} {a b : World} (h : PastB n kl a b) (hB : B ≤ n) (hk : B ≤ kl) (hs : B ≤ a.heap.size) : Below B a b := ⟨h.os, h.tape, h.output, h.size, fun j hj => h.block j (by omega) (by omega) (by omega)⟩
set_option maxHeartbeats 1000000 in
theorem doC_any (gx base gw : Nat) (a0 a1 a2 a3 a4 : Option Addr) (n0 n1 n2 n3 n4 c0 c1 c2 c3 c4 : Nat) (ts : List Hm) (m : Mon) (k gi s z : Int) (W : World) (h : WAt W gx base a0 a1 a2 a3 a4 n0 n1 n2 n3 n4 c0 c1 c2 c3 c4 ts m []) (hbw : base ≤ W.heap.size) (ho : OkM m) {R : Nat} (hR : HasLe m R) (h4 : R ≤ 4095) (hz : U64 z) (hrow : RowAt W gw 45 #[.int .i64 k, .int .i64 gi, .int .i64 s, .int .u64 z]) :
    Calls Try.prog 38 #[.pointer (some ⟨gx, 0, none⟩), .pointer (some ⟨gw, 0, none⟩)] W (DeedRes gx base (doesM m [] (k, gi, s, z)) W) := by
  have HC := hide (does_any gx base _ _ _ _ _ _ _ _ _ _ _ _ _ _ _ ts m [] k s z gi W h hbw (h.small ho hR (by omega)) ho (fun t ht => by have := h.qs hR t ht; omega) (by have := h.l4; simp at this; omega) hz _ rfl)
  obtain ⟨y0, y1, y2, y3⟩ := row4 hrow
  have yl := hrow.lt
  clear h hbw ho hR hz hrow
  go_enter Try.func38, Try.ntmps38
  go_wp2_with fail
  with_reducible refine HC.out.mono ?_
  rintro e w2 hres
  have HRES := hide hres
  rcases hres.2 with ⟨m', tk', hx, rfl, hy⟩ | ⟨k', hx, rfl⟩
  · clear hx hy hres
    go_wp2_with fail
    go_end0
    exact HRES.out
  · clear hx hres
    go_wp2_with fail
    exact ⟨rfl, HRES.out⟩
set_option maxRecDepth 20000 in
set_option maxHeartbeats 2000000 in
theorem runC_any (gx base gw B n c : Nat) (A : Option Addr) (l : List Wt) (a0 a1 a2 a3 a4 : Option Addr) (n0 n1 n2 n3 n4 c0 c1 c2 c3 c4 : Nat) (ts : List Hm) (m : Mon) (W : World) (h : WAt W gx base a0 a1 a2 a3 a4 n0 n1 n2 n3 n4 c0 c1 c2 c3 c4 ts m []) (hbw : base ≤ W.heap.size) (hgx : base ≤ gx) (hB : B ≤ base) (hrow : RowAt W gw 30 #[.slice A n c]) (hl : Rd W B 4 A n (Cs encX l)) (hn : l.length = n) (hU : ∀ x ∈ l, U64 x.2.2.2) (ho : OkM m) (R : Nat) (hR : HasLe m R) (hRn : R + n ≤ 4095) :
    Calls Try.prog 59 #[.pointer (some ⟨gx, 0, none⟩), .pointer (some ⟨gw, 0, none⟩)] W (DeedRes gx base (runM m [] l) W) := by
  have HWE := hide (show WEx W gx base m [] from ⟨a0, a1, a2, a3, a4, n0, n1, n2, n3, n4, c0, c1, c2, c3, c4, ts, h, (h.small ho hR (by omega)).s2⟩)
  have HBW := hide hbw
  have HGX := hide hgx
  have HBB := hide hB
  have HL := hide hl
  have HN := hide hn
  have HU := hide hU
  have HO := hide ho
  have HR := hide hR
  have HRN := hide hRn
  have y0 := row1 hrow
  have yl := hrow.lt
  have hnb : n ≤ 4095 := by omega
  clear h hbw hgx hB hl hn hU ho hR hRn hrow
  go_enter Try.func59, Try.ntmps59
  go_wp2_with fail
  clear y0 yl
  go_loopw [7] (fun i wr => ∃ (k : Nat) (mk : Mon) (tkk : List Ent), k ≤ n ∧ i = .int .i64 k ∧ runM m [] (l.take k) = .ok (mk, tkk) ∧ WEx wr gx base mk tkk ∧ PastB base gx W wr) (fun i _ => n - (intOf i).toNat)
  case atStart => exact ⟨0, m, [], Nat.zero_le _, rfl, by rw [List.take_zero]; rfl, HWE.out, PastB.refl _ _ _⟩
  case round =>
    obtain ⟨k, mk, tkk, hk, rfl, hrk, hwe, hpb⟩ := hrel
    have HRK := hide hrk
    have HWK := hide hwe
    have HPB := hide hpb
    clear hrk hwe hpb
    by_cases hlt : k < n
    · have hlx : k < l.length := by rw [HN.out]; exact hlt
      have hbB : Below B W wr := HPB.out.to HBB.out (Nat.le_trans HBB.out HGX.out) (Nat.le_trans HBB.out HBW.out)
      obtain ⟨b, o, rfl, hb, d0, d1, d2, d3⟩ := (HL.out.below hbB).watchAt HN.out hlt
      have hbl : b < wr.heap.size := Nat.lt_of_lt_of_le hb (Nat.le_trans HBB.out (Nat.le_trans HBW.out HPB.out.size))
      have hkm : (k : Int) < (n : Int) := by omega
      have HTK := hide (show l.take (k + 1) = l.take k ++ [l.getD k (0, 0, 0, 0)] from by rw [List.take_succ_eq_append_getElem hlx, List.getD_eq_getElem?_getD, List.getElem?_eq_getElem hlx]; rfl)
      have hmem : l.getD k (0, 0, 0, 0) ∈ l := by rw [List.getD_eq_getElem?_getD, List.getElem?_eq_getElem hlx]; exact List.getElem_mem hlx
      have HZ := hide (HU.out _ hmem)
      have HDR := hide (show l = l.take (k + 1) ++ l.drop (k + 1) from (List.take_append_drop _ _).symm)
      have HLK := hide (show (l.take k).length = k from by rw [List.length_take]; omega)
      generalize l.getD k (0, 0, 0, 0) = t at *
      obtain ⟨tk0, tg, tsl, tz⟩ := t
      dsimp only at *
      clear hmem hb hbB
      go_upto_region 3 with (refine wpList_store_new rfl 45 _ _ rfl _ #[.int .i64 tk0, .int .i64 tg, .int .i64 tsl, .int .u64 tz] wr.heap.size rfl rfl rfl (by kernel_rfl) rfl (by simp [Value.oneCell']) ?_)
      have HBN := hide (show Below wr.heap.size wr (wr.alloc (.cells #[.int .i64 tk0, .int .i64 tg, .int .i64 tsl, .int .u64 tz] 45)) from (Below.refl _ _).alloc (Nat.le_refl _) _)
      have HRN5 := hide (RowAt.new wr 45 #[.int .i64 tk0, .int .i64 tg, .int .i64 tsl, .int .u64 tz])
      generalize wr.alloc (.cells #[.int .i64 tk0, .int .i64 tg, .int .i64 tsl, .int .u64 tz] 45) = w5 at *
      obtain ⟨y0, y1, y2, y3⟩ := row4 HRN5.out
      have yl := HRN5.out.lt
      obtain ⟨a0', a1', a2', a3', a4', n0', n1', n2', n3', n4', c0', c1', c2', c3', c4', ts', hat, _⟩ := HWK.out
      have hle := run_le _ HO.out HR.out HRK.out
      rw [HLK.out] at hle
      have hrn := HRN.out
      have HC := hide (does_any gx base _ _ _ _ _ _ _ _ _ _ _ _ _ _ _ ts' mk tkk tk0 tsl tz tg w5 (hat.below HBN.out) (Nat.le_trans HBW.out (Nat.le_trans HPB.out.size HBN.out.size)) (hat.small hle.1 hle.2.1 (by omega)) hle.1 (fun t ht => by have := hat.qs hle.2.1 t ht; omega) (by have := hat.l4; have := hle.2.2; simp at this; omega) HZ.out _ rfl)
      have HP5 := hide (HPB.out.trans (PastB.of_below (n := base) (kl := gx) HBN.out))
      clear hat hle hrn d0 d1 d2 d3 hbl HWK
      go_wp2_with fail
      with_reducible refine HC.out.mono ?_
      rintro e w6 hres
      have HP6 := hide (HP5.out.trans hres.1)
      have hres2 := hres.2
      clear hres HC y0 y1 y2 y3 yl
      have HRS := hide (show runM m [] (l.take (k + 1)) = doesM mk tkk (tk0, tg, tsl, tz) from by rw [HTK.out, runM_snoc, HRK.out])
      rcases hres2 with ⟨m', tk', hx, rfl, hy⟩ | ⟨k', hx, rfl⟩
      · have HX := hide (HRS.out.trans hx)
        have HY := hide hy
        clear hx hy
        go_wp2_with fail
        go_roundw
        case rel => exact ⟨k + 1, m', tk', by omega, by go_num, HX.out, HY.out, HP6.out⟩
        case measure => simp [intOf]; omega
      · have HX := hide (show runM m [] l = .error k' from by rw [HDR.out]; exact runM_error _ _ _ _ _ (HRS.out.trans hx))
        clear hx
        go_wp2_with fail
        exact ⟨rfl, HP6.out, .inr ⟨k', HX.out, rfl⟩⟩
    · obtain rfl : k = n := by omega
      have HX := hide (show runM m [] l = .ok (mk, tkk) from by have h := HRK.out; rw [List.take_of_length_le (by rw [HN.out]; exact Nat.le_refl _)] at h; exact h)
      go_wp2_with fail
      go_end0
      exact ⟨HPB.out, .inl ⟨mk, tkk, HX.out, rfl, HWK.out⟩⟩
end Go.Proofs.Ytfpbabafeecncaa
