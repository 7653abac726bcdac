/-
  Maps from numbers to numbers that a call makes; the runs of a directory, one by one; what the iterator is handed out as.
-/
import Derived.Test.YtjlbnegdiabglaaDie
import Derived.Test.YtjlbnegdiabglaaRange7
import Derived.Maps.OwnIn
set_option linter.unusedSimpArgs false
set_option linter.unusedVariables false
namespace Go.Proofs.Ytjlbnegdiabglaa
open Go Go.RowKit
attribute [local go_sem] via_cell via_frozen

/-- Block g is a map of at most n keys, in which s counts cnt s. -/
def CM (P : Program) (k : TypeId) (w : World) (g n : Nat) (cnt : Int → Int) : Prop := ∃ D : DataW Unit, w.ownsMap P k (plainElem P k) g n D ∧ Maps.IsMap D ∧ ∀ s, (Lit.int .i64 s).wf = true → D.atKey (.int .i64 s) (.lit (.int .i64 0)) = .lit (.int .i64 (cnt s))
theorem CM.made (P : Program) (k : TypeId) (w : World) : CM P k (w.alloc (.map #[] 0)) w.heap.size 0 (fun _ => 0) :=
  ⟨.map [], World.ownsMap_made w P k _, Maps.isMap_empty, fun s _ => rfl⟩
theorem CM.lt {P : Program} {k : TypeId} {w : World} {g n : Nat} {cnt : Int → Int} (h : CM P k w g n cnt) : g < w.heap.size := by
  obtain ⟨D, h1, _⟩ := h
  exact h1.lt
theorem CM.heap {P : Program} {k : TypeId} {w w' : World} {g n : Nat} {cnt : Int → Int} (h : CM P k w g n cnt) (he : w'.heap[g]? = w.heap[g]?) : CM P k w' g n cnt := by
  obtain ⟨D, ⟨es, clock, hb, h1⟩, h2⟩ := h
  exact ⟨D, ⟨es, clock, he.trans hb, h1⟩, h2⟩
theorem CM.below {P : Program} {k : TypeId} {w w' : World} {g n : Nat} {cnt : Int → Int} (h : CM P k w g n cnt) (hb : Below w.heap.size w w') : CM P k w' g n cnt := h.heap (hb.block g h.lt)
theorem CM.lieF {P : Program} {k : TypeId} {w w' : World} {g n m : Nat} {cnt : Int → Int} (h : CM P k w g n cnt) (hb : CellsLieF m w w') (hg : g < m) : CM P k w' g n cnt := by
  refine h.heap ?_
  have hl := h.lt
  have e : w.heap[g]? = some w.heap[g] := Array.getElem?_eq_getElem hl
  rw [hb.same g _ e (.inr hg), e]
theorem CM.look {P : Program} {k t : TypeId} {w : World} {g n : Nat} {cnt : Int → Int} (h : CM P k w g n cnt) (hk : P.underlying k = some (.int .i64)) (ht : P.underlying t = some (.map k k)) (hz : (zeroValue k).run P w = .ok (.int .i64 0) w) {s : Int} (hs : (Lit.int .i64 s).wf = true) :
    (Instr.lookup t (.map (some g)) (.int .i64 s) false).run P w = .ok (.int .i64 (cnt s)) w := by
  obtain ⟨D, h1, h2, h3⟩ := h
  obtain ⟨c, hr, hc, _⟩ := h1.lookup_int (Maps.int_keyed hk) ht hk hz (Maps.keyOf_int_mk hk hs)
  have := (h3 s hs).symm.trans hc
  injection this with this
  injection this with _ this
  rw [this]; exact hr
theorem CM.upd {P : Program} {k t : TypeId} {w : World} {g n : Nat} {cnt : Int → Int} (h : CM P k w g n cnt) (hk : P.underlying k = some (.int .i64)) (ht : P.underlying t = some (.map k k)) (hn : n < maxLen) {s v : Int} (hs : (Lit.int .i64 s).wf = true) (hv : (Lit.int .i64 v).wf = true) :
    ∃ w', (Instr.mapUpdate t (.map (some g)) (.int .i64 s) (.int .i64 v)).run P w = .ok () w' ∧ CM P k w' g (n + 1) (fun x => if x = s then v else cnt x) ∧ w.grownBy w' (some g) := by
  obtain ⟨D, h1, h2, h3⟩ := h
  obtain ⟨w', hr, ho, hg⟩ := h1.update (Maps.int_keyed hk) ht hn (Maps.keyOf_int_mk hk hs) (plainElem_int hk hv)
  refine ⟨w', hr, ⟨_, ho, h2.put _ _, fun x hx => ?_⟩, hg⟩
  show _ = DataW.lit (Lit.int .i64 (if x = s then v else cnt x))
  by_cases he : x = s
  · subst he
    rw [if_pos rfl]
    exact Maps.atKey_put_same h2 (by trivial) _ _
  · rw [if_neg he, ← h3 x hx]
    exact Maps.atKey_put_other (by intro e; injection e with _ e; exact he e) _ _

theorem runsAt_mem (es : List En) : ∀ (f k : Nat), es.length - k ≤ f → k ≤ es.length → ∀ r ∈ runsAt k (es.drop k), k ≤ r.at_ ∧ 1 ≤ r.many ∧ r.at_ + r.many ≤ es.length ∧ r.e = es.getD r.at_ (0, 0) ∧ r.many = lenAt es r.at_
  | 0, k, hf, hk, r, hr => by
    rw [List.drop_eq_nil_of_le (by omega), runsAt_nil] at hr
    cases hr
  | f + 1, k, hf, hk, r, hr => by
    rcases Nat.lt_or_ge k es.length with hlt | hge
    · have hfit : k + lenAt es k ≤ es.length := run_fits es hlt
      have hsp : runsAt k (es.drop k) = ⟨k, lenAt es k, es.getD k (0, 0)⟩ :: runsAt (k + lenAt es k) (es.drop (k + lenAt es k)) := runsAt_drop es hlt
      have h1 : 1 ≤ lenAt es k := by unfold lenAt; omega
      rw [hsp] at hr
      rcases List.mem_cons.1 hr with rfl | hr
      · exact ⟨Nat.le_refl _, h1, hfit, rfl, rfl⟩
      · obtain ⟨a, b, c⟩ := runsAt_mem es f (k + lenAt es k) (by omega) hfit r hr
        exact ⟨by omega, b, c⟩
    · rw [List.drop_eq_nil_of_le hge, runsAt_nil] at hr
      cases hr
theorem runs_mem {es : List En} {r : Rn} (h : r ∈ runs es) : 1 ≤ r.many ∧ r.at_ + r.many ≤ es.length ∧ r.e = es.getD r.at_ (0, 0) ∧ r.many = lenAt es r.at_ := by
  have := runsAt_mem es es.length 0 (by omega) (Nat.zero_le _) r (by rw [List.drop_zero]; exact h)
  exact this.2
theorem runs_ent {es : List En} {r : Rn} (h : r ∈ runs es) : r.e ∈ es := by
  obtain ⟨h1, h2, h3, _⟩ := runs_mem h
  rw [h3, List.getD_eq_getElem?_getD, List.getElem?_eq_getElem (by omega)]
  exact List.getElem_mem _
theorem runsGo_len : ∀ (f k : Nat) (l : List En), (runsGo f k l).length ≤ f
  | 0, _, _ => Nat.le_refl _
  | f + 1, k, [] => Nat.zero_le _
  | f + 1, k, e :: l => by
    unfold runsGo
    have := runsGo_len f (k + (lead e l + 1)) (l.drop (lead e l))
    simp only [List.length_cons]
    omega
theorem runs_len (es : List En) : (runs es).length ≤ es.length := runsGo_len es.length 0 es
theorem wf64 {s : Int} (h1 : -9223372036854775808 ≤ s) (h2 : s ≤ 9223372036854775807) : (Lit.int .i64 s).wf = true := by
  have e1 : IntKind.min .i64 = -9223372036854775808 := by decide
  have e2 : IntKind.max .i64 = 9223372036854775807 := by decide
  simp only [Lit.wf, e1, e2, Bool.and_eq_true, decide_eq_true_eq]
  exact ⟨h1, h2⟩
def okX (x : Rc) : Bool := decide (x.many.toNat &&& (x.many.toNat - 1) = 0) && decide (x.at_.toNat % x.many.toNat = 0)
theorem okX_rc (dep : Int) (r : Rn) : okX (rc dep r) = okRun r := by
  unfold okX okRun rc
  simp only [Int.toNat_natCast]
def allX (xs : List Rc) : Bool := xs.all okX && decide ((xs.map (·.e.1)).Nodup)
theorem allX_runs (dep : Int) (es : List En) : allX ((runs es).map (rc dep)) = ((runs es).all okRun && decide ((slabsOf (runs es)).Nodup)) := by
  unfold allX slabsOf
  rw [List.all_map, List.map_map]
  congr 1
theorem mayB_all (dep : Int) (es : List En) : mayB dep es = (dirShape dep es.length && entsOk es && allX ((runs es).map (rc dep))) := by
  rw [allX_runs]
  unfold mayB
  cases dirShape dep es.length <;> cases entsOk es <;> simp
theorem allX_snoc (xs : List Rc) (x : Rc) : allX (xs ++ [x]) = (allX xs && okX x && decide (x.e.1 ∉ xs.map (·.e.1))) := by
  unfold allX
  rw [Bool.eq_iff_iff]
  simp only [List.all_append, List.all_cons, List.all_nil, Bool.and_true, Bool.and_eq_true, decide_eq_true_eq, List.map_append, List.map_cons, List.map_nil, List.nodup_append]
  constructor
  · rintro ⟨⟨h1, h2⟩, h3, _, h4⟩
    exact ⟨⟨⟨h1, h3⟩, h2⟩, fun hm => h4 _ hm _ (by simp) rfl⟩
  · rintro ⟨⟨⟨h1, h3⟩, h2⟩, h4⟩
    refine ⟨⟨h1, h2⟩, h3, by simp, fun a ha b hb => ?_⟩
    rw [List.mem_singleton] at hb
    subst hb
    intro e
    rw [e] at ha
    exact h4 ha
theorem allX_pre {xs ys : List Rc} (h : allX xs = false) : allX (xs ++ ys) = false := by
  rw [← Bool.not_eq_true] at h ⊢
  intro h2
  apply h
  unfold allX at h2 ⊢
  simp only [List.all_append, Bool.and_eq_true, decide_eq_true_eq, List.map_append, List.nodup_append] at h2 ⊢
  exact ⟨h2.1.1, h2.2.1⟩
theorem and_fin32 : ∀ m : Fin 33, 1 ≤ m.1 → bits BinOp.and IntKind.i64 (m.1 : Int) ((m.1 : Int) - 1) = ((m.1 &&& (m.1 - 1) : Nat) : Int) := by decide
theorem and_small32 {m : Nat} (h1 : 1 ≤ m) (h2 : m ≤ 32) : bits BinOp.and IntKind.i64 (m : Int) ((m : Int) - 1) = ((m &&& (m - 1) : Nat) : Int) := and_fin32 ⟨m, by omega⟩ h1

theorem spans_any (gh : Nat) (W : World) :
    Calls Try.prog 36 #[.pointer (some ⟨gh, 0, none⟩)] W fun e W' => e = .returned (.func (.func 59) #[] #[.pointer (some ⟨W.heap.size, 0, none⟩)]) ∧
      RowAt W' W.heap.size 69 #[.pointer (some ⟨gh, 0, none⟩)] ∧ Below W.heap.size W W' := by
  have H1 := hide (RowAt.new W 69 #[.pointer (some ⟨gh, 0, none⟩)])
  go_enter Try.func36, Try.ntmps36
  go_wp2
  go_ret
  exact ⟨rfl, H1.out, (Below.refl _ _).alloc (Nat.le_refl _) _⟩
end Go.Proofs.Ytjlbnegdiabglaa
