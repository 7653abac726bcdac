/-
  A drawn region walked with each operation once: what the prover keeps is said of which operations are behind, and each operation keeps it, whatever the order.
-/
import Derived.Test.YtfpbabafeecncaaLib
import Derived.Orders
import Derived.RegionTactic
import Derived.Deep.RegionHeld
set_option linter.unusedSimpArgs false
set_option linter.unusedVariables false
namespace Go.Proofs.Ytfpbabafeecncaa
open Go Go.RowKit

/-- On which operations one waits. -/
def onsOf (o : Oper) : List Nat := (o.after.toList.filter (Region.binds .any)).map (·.on)
/-- Which operations wait for operation i, through others too. -/
def upOf (ops : Array Oper) (i : Nat) : List Nat :=
  (List.range ops.size).foldl (fun acc j => if (match ops[j]? with | some o => (onsOf o).any (fun k => k == i || acc.contains k) | none => false) = true then acc ++ [j] else acc) []
/-- What is behind has all behind it for which it waits. -/
def DownL (ops : Array Oper) (L : Nat → Bool) : Prop := ∀ (j : Nat) (o : Oper), ops[j]? = some o → L j = true → ∀ k ∈ onsOf o, L k = true
theorem upOf_false {ops : Array Oper} {L : Nat → Bool} (hD : DownL ops L) {i : Nat} (hi : L i = false) : ∀ j ∈ upOf ops i, L j = false := by
  have key : ∀ (l : List Nat) (acc : List Nat), (∀ j ∈ acc, L j = false) → ∀ j ∈ l.foldl (fun acc j => if (match ops[j]? with | some o => (onsOf o).any (fun k => k == i || acc.contains k) | none => false) = true then acc ++ [j] else acc) acc, L j = false := by
    intro l
    induction l with
    | nil => intro acc h; exact h
    | cons m l ih =>
      intro acc h
      rw [List.foldl_cons]
      apply ih
      intro j hj
      cases ho : ops[m]? with
      | none => rw [ho] at hj; exact h j (by simpa using hj)
      | some o =>
        rw [ho] at hj
        by_cases hc : ((onsOf o).any fun k => k == i || acc.contains k) = true
        · rw [if_pos hc, List.mem_append, List.mem_singleton] at hj
          rcases hj with hj | rfl
          · exact h j hj
          · rw [List.any_eq_true] at hc
            obtain ⟨k, hk, hk2⟩ := hc
            cases hb : L j with
            | false => rfl
            | true =>
              have h1 := hD j o ho hb k hk
              rw [Bool.or_eq_true] at hk2
              rcases hk2 with hk2 | hk2
              · have : k = i := by simpa using hk2
                subst this; rw [hi] at h1; cases h1
              · have := h k (by simpa using hk2)
                rw [this] at h1; cases h1
        · rw [if_neg hc] at hj; exact h j hj
  exact key _ [] (by simp)
/-- For which operations operation o waits, through others too. -/
def downOf (ops : Array Oper) (o : Oper) : List Nat :=
  (List.range ops.size).reverse.foldl (fun acc j => if acc.contains j then acc ++ (match ops[j]? with | some x => onsOf x | none => []) else acc) (onsOf o)
theorem downOf_true {ops : Array Oper} {L : Nat → Bool} (hD : DownL ops L) {o : Oper} (h : ∀ j ∈ onsOf o, L j = true) : ∀ j ∈ downOf ops o, L j = true := by
  have key : ∀ (l : List Nat) (acc : List Nat), (∀ j ∈ acc, L j = true) → ∀ j ∈ l.foldl (fun acc j => if acc.contains j then acc ++ (match ops[j]? with | some x => onsOf x | none => []) else acc) acc, L j = true := by
    intro l
    induction l with
    | nil => intro acc h; exact h
    | cons m l ih =>
      intro acc h
      rw [List.foldl_cons]
      apply ih
      intro j hj
      by_cases hc : acc.contains m = true
      · rw [if_pos hc, List.mem_append] at hj
        rcases hj with hj | hj
        · exact h j hj
        · cases ho : ops[m]? with
          | none => rw [ho] at hj; cases hj
          | some x =>
            rw [ho] at hj
            exact hD m x ho (h m (by simpa using hc)) j hj
      · rw [if_neg hc] at hj; exact h j hj
  exact key _ _ h
/-- Operation i, and those behind it, keep I, whatever is behind already. -/
def OnceFrom (P : Program) (ops : Array Oper) (Q : Exit → Act → World → Prop) (I : (Nat → Bool) → Act → World → Prop) : List Oper → Nat → Prop
  | [], _ => True
  | o :: rest, i => (∀ (L : Nat → Bool) (a : Act) (w : World) (K' : Act → World → Prop), I L a w → L i = false → (∀ j ∈ downOf ops o, L j = true) → (∀ j ∈ upOf ops i, L j = false) → Shut (∀ a w, (∀ L' : Nat → Bool, L' i = true → (∀ j, j ≠ i → L' j = L j) → I L' a w) → K' a w) →
      if Region.wanted o (yielded ops a.tmps) = true then Oper.wp P o a w K' Q else K' (a.put o.dst undef) w) ∧ OnceFrom P ops Q I rest (i + 1)
/-- Slots of an act, laid anew. -/
def puts (a : Act) (l : List (Nat × Value)) : Act := { a with tmps := l.foldl (fun t p => t.setIfInBounds p.1 p.2) a.tmps }
theorem puts_nil (a : Act) : puts a [] = a := rfl
theorem puts_cons (l : List Value) (ds : List Deferred) (d : Nat) (v : Value) (r : List (Nat × Value)) : puts ⟨l.toArray, ds⟩ ((d, v) :: r) = puts ⟨(l.set d v).toArray, ds⟩ r := by simp [puts]
theorem lt_ {a b c : Bool} (e : a = b) (h : a = c) : b = c := e.symm.trans h
theorem nope {b : Bool} {p : Prop} (h : b = true) (u : b = false) : p := by rw [h] at u; cases u
/-- No operation waits for one that is written behind it. -/
def downB (ops : Array Oper) : Bool := (List.range ops.size).all fun i => match ops[i]? with | some o => o.after.all (fun e => !Region.binds .any e || decide (e.on < i)) | none => true

section
variable {P : Program} {ops : Array Oper} {Q : Exit → Act → World → Prop} {I : (Nat → Bool) → Act → World → Prop}
theorem OnceFrom.at_ : ∀ {l : List Oper} {k : Nat}, OnceFrom P ops Q I l k → ∀ {j : Nat} {o : Oper}, l[j]? = some o → ∀ (L : Nat → Bool) (a : Act) (w : World) (K' : Act → World → Prop), I L a w → L (k + j) = false → (∀ j ∈ downOf ops o, L j = true) → (∀ m ∈ upOf ops (k + j), L m = false) → Shut (∀ a w, (∀ L' : Nat → Bool, L' (k + j) = true → (∀ m, m ≠ k + j → L' m = L m) → I L' a w) → K' a w) →
    if Region.wanted o (yielded ops a.tmps) = true then Oper.wp P o a w K' Q else K' (a.put o.dst undef) w
  | [], _, _, j, o, h => by simp at h
  | x :: l, k, h, 0, o, ho => by
    simp at ho; subst ho
    exact h.1
  | x :: l, k, h, j + 1, o, ho => by
    have := h.2.at_ (j := j) (o := o) (by simpa using ho)
    rw [show k + 1 + j = k + (j + 1) by omega] at this
    exact this
theorem ready_some (hd : downB ops = true) {listed : Array Bool} (hs : listed.size = ops.size) {i : Nat} (hi : i < ops.size) (hu : listed.getD i false = false) : Region.ready .any ops listed ≠ [] := by
  intro h0
  have key : ∀ n i, i < n → i < ops.size → listed.getD i false = false → False := by
    intro n
    induction n with
    | zero => intro i h; omega
    | succ n ih =>
      intro i hin hi hu
      have hin2 : i ∉ Region.ready .any ops listed := by rw [h0]; simp
      apply hin2
      rw [mem_ready]
      refine ⟨?_, ops[i], Array.getElem?_eq_getElem hi, fun e he hb => ?_⟩
      · simpa [Array.getElem?_eq_getElem (show i < listed.size by omega)] using hu
      · have h1 : e.on < i := by
          have := hd
          simp only [downB, List.all_eq_true, List.mem_range] at this
          have h2 := this i hi
          rw [Array.getElem?_eq_getElem hi] at h2
          simp only [Array.all_eq_true_iff_forall_mem] at h2
          have h3 := h2 e he
          rw [hb] at h3
          simpa using h3
        cases hb : listed.getD e.on false with
        | true => rfl
        | false => exact (ih e.on (by omega) (by omega) hb).elim
  exact key (i + 1) i (by omega) hi hu
theorem wpAny_once (hd : downB ops = true) (hs : OnceFrom P ops Q I ops.toList 0) (hl : ∀ (L : Nat → Bool) a w, (∀ j, j < ops.size → L j = true) → I L a w → Q .normal a w) :
    ∀ (fuel : Nat) (listed : Array Bool) (a : Act) (w : World), listed.size = ops.size → (listed.toList.countP (fun b => !b) ≤ fuel) → DownL ops (fun j => listed.getD j false) → I (fun j => listed.getD j false) a w → wpAny P .any ops Q fuel listed a w := by
  intro fuel
  have hall : ∀ (listed : Array Bool), listed.size = ops.size → Region.ready .any ops listed = [] → ∀ j, j < ops.size → listed.getD j false = true := by
    intro listed hsz h0 j hj
    cases hb : listed.getD j false with
    | true => rfl
    | false => exact absurd h0 (ready_some hd hsz hj hb)
  induction fuel with
  | zero =>
    intro listed a w hsz hc hD hI
    have hn : ∀ j, j < ops.size → listed.getD j false = true := by
      intro j hj
      have h1 : listed.toList.countP (fun b => !b) = 0 := by omega
      rw [List.countP_eq_zero] at h1
      have h2 := h1 (listed[j]'(by omega)) (by simp)
      simpa [Array.getElem?_eq_getElem (show j < listed.size by omega)] using h2
    refine ⟨?_, hl _ a w hn hI⟩
    apply List.eq_nil_iff_forall_not_mem.2
    intro i hi
    rw [mem_ready] at hi
    obtain ⟨h1, o, ho, _⟩ := hi
    have hlt : i < ops.size := (Array.getElem?_eq_some_iff.1 ho).1
    have := hn i hlt
    simp [Array.getElem?_eq_getElem (show i < listed.size by omega)] at h1 this
    rw [h1] at this; cases this
  | succ fuel ih =>
    intro listed a w hsz hc hD hI
    refine ⟨fun h0 => hl _ a w (hall listed hsz h0) hI, fun i hi => ?_⟩
    obtain ⟨h1, o, ho, hon⟩ := mem_ready.1 hi
    have hlt : i < ops.size := (Array.getElem?_eq_some_iff.1 ho).1
    have hlt' : i < listed.size := by omega
    have h1' : listed[i] = false := by simpa [Array.getElem?_eq_getElem hlt'] using h1
    have hf : (fun j => (listed.setIfInBounds i true).getD j false) = (fun m => m == (0 + i) || listed.getD m false) := by
      funext j
      rw [Nat.zero_add]
      by_cases hji : j = i
      · subst hji; simp [hlt']
      · rw [getD_set_ne false (Ne.symm hji)]
        simp [hji]
    have hons : ∀ j ∈ onsOf o, listed.getD j false = true := by
      intro j hj
      simp only [onsOf, List.mem_map, List.mem_filter] at hj
      obtain ⟨e, ⟨he, hb⟩, rfl⟩ := hj
      exact hon e (by simpa using he) hb
    have hun : listed.getD i false = false := by simp [Array.getElem?_eq_getElem hlt', h1']
    refine wpOp_step ho fun K' hK => ?_
    have hat := hs.at_ (j := i) (o := o) (by simpa using ho) (fun j => listed.getD j false) a w K' hI (by simpa using hun) (downOf_true hD hons) (by rw [Nat.zero_add]; exact upOf_false hD hun) (fun a w hI' => hK a w ?_)
    · exact hat
    · refine ih _ a w (by simp [hsz]) ?_ ?_ ?_
      · have hcount : ∀ (l : List Bool) (i : Nat), l[i]? = some false → (l.set i true).countP (fun b => !b) + 1 = l.countP (fun b => !b) := by
          intro l
          induction l with
          | nil => intro i h; simp at h
          | cons b l ih2 =>
            intro i h
            cases i with
            | zero => simp at h; subst h; simp
            | succ i =>
              have := ih2 i (by simpa using h)
              simp only [List.set_cons_succ, List.countP_cons]
              omega
        have := hcount listed.toList i (by simp [Array.getElem?_eq_getElem hlt', h1'])
        rw [Array.toList_setIfInBounds]
        omega
      · rw [hf, Nat.zero_add]
        intro j o' ho' hj k hk
        show (k == i || listed.getD k false) = true
        rw [Bool.or_eq_true]
        by_cases hji : j = i
        · subst hji
          rw [ho] at ho'
          injection ho' with e; subst e
          exact .inr (hons k hk)
        · have hj' : listed.getD j false = true := by simpa [hji] using hj
          exact .inr (hD j o' ho' hj' k hk)
      · rw [hf]
        refine hI' _ (by simp) (fun j hj => ?_)
        have : (j == 0 + i) = false := by simpa using hj
        rw [this, Bool.false_or]
/-- A drawn region: I holds of its beginning; each operation keeps it; where all are behind, it gives what is asked. -/
theorem wp_region_once {id : Nat} {a : Act} {w : World} (I : (Nat → Bool) → Act → World → Prop) (hm : P.follows .mixedOrders = true) (hd : downB ops = true) (h0 : I (fun _ => false) a w.drew)
    (hs : OnceFrom P ops Q I ops.toList 0) (hl : ∀ (L : Nat → Bool) a w, (∀ j, j < ops.size → L j = true) → I L a w → Q .normal a w) : (Code.region id ops true).wp P Q a w := by
  refine wp_region_any hm (wpAny_once hd hs hl _ _ a _ (by simp) ?_ ?_ ?_)
  · rw [Array.toList_replicate, List.countP_replicate]
    split <;> omega
  · intro j o _ hj
    by_cases hjl : j < ops.size
    · simp [hjl] at hj
    · simp [hjl] at hj
  · have : (fun j => (Array.replicate ops.size false).getD j false) = (fun _ => false) := by
      funext j
      by_cases hj : j < ops.size
      · simp [hj]
      · simp [hj]
    rw [this]
    exact h0
/-- What is kept, said of the slots ds alone. -/
def Slots (a : Act) (ds : List Nat) (R : (Nat → Bool) → List Value → World → Prop) (L : Nat → Bool) (a' : Act) (w : World) : Prop := ∃ xs, a' = puts a (ds.zip xs) ∧ R L xs w
theorem puts_self (a : Act) : ∀ ds : List Nat, puts a (ds.zip (ds.map fun d => a.tmps.getD d undef)) = a
  | [] => rfl
  | d :: ds => by
    have h : a.tmps.setIfInBounds d (a.tmps.getD d undef) = a.tmps := by
      apply Array.ext_getElem?
      intro i
      by_cases hi : i = d
      · subst hi
        by_cases hl : i < a.tmps.size
        · simp [hl]
        · simp [hl]
      · rw [Array.getElem?_setIfInBounds_ne (Ne.symm hi)]
    have h2 := puts_self a ds
    unfold puts at h2 ⊢
    simp only [List.map_cons, List.zip_cons_cons, List.foldl_cons, h]
    exact h2
theorem wp_region_slots {id : Nat} {a : Act} {w : World} (ds : List Nat) (R : (Nat → Bool) → List Value → World → Prop) (hm : P.follows .mixedOrders = true) (hd : downB ops = true) (h0 : R (fun _ => false) (ds.map fun d => a.tmps.getD d undef) w.drew)
    (hs : OnceFrom P ops Q (Slots a ds R) ops.toList 0) (hl : ∀ (L : Nat → Bool) xs w, (∀ j, j < ops.size → L j = true) → R L xs w → Q .normal (puts a (ds.zip xs)) w) : (Code.region id ops true).wp P Q a w :=
  wp_region_once _ hm hd ⟨_, (puts_self a ds).symm, h0⟩ hs (fun L a' w hL h => by
    obtain ⟨xs, rfl, hR⟩ := h
    exact hl L xs w hL hR)
theorem mem_of_elem {l : List Nat} {j : Nat} (h : l.elem j = true) : j ∈ l := by simpa using h
/-! Short names for what lays an act out anew. -/
theorem zE {α : Type} {xs : List α} {i : Nat} (h : i < xs.toArray.size) : xs.toArray[i] = xs[i]'(by simpa using h) := rfl
theorem zS {α : Type} (a : α) (l : List α) (i : Nat) (h : i + 1 < (a :: l).length) : (a :: l)[i + 1] = l[i]'(by simpa using h) := rfl
theorem zZ {α : Type} (a : α) (l : List α) (h : 0 < (a :: l).length) : (a :: l)[0] = a := rfl
theorem zB {α : Type} (l : List α) (i : Nat) (a : α) : l.toArray.setIfInBounds i a = (l.set i a).toArray := List.setIfInBounds_toArray l i a
theorem yZ {α : Type} {x : α} {xs : List α} {a : α} : (x :: xs).set 0 a = a :: xs := rfl
theorem yS {α : Type} {x : α} {xs : List α} {i : Nat} {a : α} : (x :: xs).set (i + 1) a = x :: xs.set i a := rfl
theorem zC {α β : Type} {a : α} {l : List α} {b : β} {bs : List β} : List.zip (a :: l) (b :: bs) = (a, b) :: List.zip l bs := rfl
theorem zN {α β : Type} {l : List α} : List.zip l ([] : List β) = [] := by simp
/-- An operation that yields the same in all worlds that meet S is taken first. -/
theorem tkO {md : Region.Mode} {S : World → Prop} (i : Nat) {oi : Oper} {v : Value} {fuel : Nat} {listed : Array Bool} {a : Act} {w : World} (hi : ops[i]? = some oi)
    (hb : (Region.noSelect ops && Region.free md ops listed i && (Region.ready md ops listed).contains i) = true)
    (hQ : ∀ c a w, Q (.panic c) (a.put oi.dst v) w → Q (.panic c) a w) (hw : Region.wanted oi (yielded ops a.tmps) = true) (hy : ∀ w, S w → (execOp a.eval oi).run P w = .ok (.value v) w) (hS : S w)
    (h : wpAnyH P md ops Q S fuel (listed.setIfInBounds i true) (a.put oi.dst v) w) : wpAnyH P md ops Q S (fuel + 1) listed a w := by
  simp only [Bool.and_eq_true] at hb
  exact wpAnyH_take hi hb.1.1 hb.1.2 hb.2 hQ (.inl ⟨hw, hy⟩) hS h
/-! The same over an act that is a letter: what its slots hold, and what they hold behind a step. -/
section
variable {a : Act} {ds : List Nat} {xs : List Value}
theorem puts_size (l : List (Nat × Value)) (a : Act) : (puts a l).tmps.size = a.tmps.size := by
  induction l generalizing a with
  | nil => rfl
  | cons p l ih => have := ih { a with tmps := a.tmps.setIfInBounds p.1 p.2 }; simpa [puts] using this
theorem puts_get_out : ∀ (ds : List Nat) (xs : List Value) (a : Act) {d : Nat}, d ∉ ds → (puts a (ds.zip xs)).tmps[d]? = a.tmps[d]?
  | [], xs, a, d, _ => rfl
  | e :: ds, [], a, d, _ => rfl
  | e :: ds, x :: xs, a, d, h => by
    have h1 := puts_get_out ds xs { a with tmps := a.tmps.setIfInBounds e x } (d := d) (fun hd => h (by simp [hd]))
    have h2 : (puts a ((e :: ds).zip (x :: xs))) = puts { a with tmps := a.tmps.setIfInBounds e x } (ds.zip xs) := rfl
    rw [h2, h1]
    exact Array.getElem?_setIfInBounds_ne (fun e1 => h (by simp [e1]))
theorem puts_get_in : ∀ (ds : List Nat) (xs : List Value) (a : Act) (hn : ds.Nodup) (hs : ∀ d ∈ ds, d < a.tmps.size) {i d : Nat} {v : Value}, ds[i]? = some d → xs[i]? = some v → (puts a (ds.zip xs)).tmps[d]? = some v
  | [], xs, a, hn, hs, i, d, v, hd, hv => by simp at hd
  | e :: ds, [], a, hn, hs, i, d, v, hd, hv => by simp at hv
  | e :: ds, x :: xs, a, hn, hs, 0, d, v, hd, hv => by
    simp at hd hv
    subst hd hv
    have h2 : (puts a ((e :: ds).zip (x :: xs))) = puts { a with tmps := a.tmps.setIfInBounds e x } (ds.zip xs) := rfl
    rw [h2, puts_get_out ds xs _ (List.nodup_cons.1 hn).1]
    simp [hs e (by simp)]
  | e :: ds, x :: xs, a, hn, hs, i + 1, d, v, hd, hv => by
    have h2 : (puts a ((e :: ds).zip (x :: xs))) = puts { a with tmps := a.tmps.setIfInBounds e x } (ds.zip xs) := rfl
    rw [h2]
    exact puts_get_in ds xs _ (List.nodup_cons.1 hn).2 (fun d hd => by simpa using hs d (by simp [hd])) (by simpa using hd) (by simpa using hv)
theorem puts_put : ∀ (ds : List Nat) (xs : List Value) (a : Act) (hn : ds.Nodup) (hl : xs.length = ds.length) {i d : Nat} (v : Value), ds[i]? = some d → (puts a (ds.zip xs)).put (some d) v = puts a (ds.zip (xs.set i v))
  | [], xs, a, hn, hl, i, d, v, hd => by simp at hd
  | e :: ds, [], a, hn, hl, i, d, v, hd => by simp at hl
  | e :: ds, x :: xs, a, hn, hl, 0, d, v, hd => by
    simp at hd
    subst hd
    have key : ∀ (ds : List Nat) (xs : List Value) (a : Act), e ∉ ds → (puts a (ds.zip xs)).put (some e) v = puts (a.put (some e) v) (ds.zip xs) := by
      intro ds
      induction ds with
      | nil => intro xs a _; rfl
      | cons f ds ih =>
        intro xs a hf
        cases xs with
        | nil => rfl
        | cons y ys =>
          have hne : f ≠ e := fun h => hf (by simp [h])
          have := ih ys { a with tmps := a.tmps.setIfInBounds f y } (fun h => hf (by simp [h]))
          have h2 : (puts a ((f :: ds).zip (y :: ys))) = puts { a with tmps := a.tmps.setIfInBounds f y } (ds.zip ys) := rfl
          have h3 : (puts (a.put (some e) v) ((f :: ds).zip (y :: ys))) = puts { a.put (some e) v with tmps := (a.put (some e) v).tmps.setIfInBounds f y } (ds.zip ys) := rfl
          rw [h2, h3, this]
          congr 1
          simp [Act.put, Array.setIfInBounds_comm _ _ hne]
    have h2 : (puts a ((e :: ds).zip (x :: xs))) = puts { a with tmps := a.tmps.setIfInBounds e x } (ds.zip xs) := rfl
    rw [h2, key ds xs _ (List.nodup_cons.1 hn).1]
    have h3 : (puts a ((e :: ds).zip ((x :: xs).set 0 v))) = puts { a with tmps := a.tmps.setIfInBounds e v } (ds.zip xs) := rfl
    rw [h3]
    congr 1
    simp [Act.put]
  | e :: ds, x :: xs, a, hn, hl, i + 1, d, v, hd => by
    have h2 : (puts a ((e :: ds).zip (x :: xs))) = puts { a with tmps := a.tmps.setIfInBounds e x } (ds.zip xs) := rfl
    rw [h2, puts_put ds xs _ (List.nodup_cons.1 hn).2 (by simpa using hl) v (by simpa using hd)]
    rfl
theorem eval_of {b : Act} {d : Nat} {v : Value} (h : b.tmps[d]? = some v) : b.eval (.tmp d) = v := by simp [Act.eval, h]
theorem eval_in {b : Act} (hb : b = puts a (ds.zip xs)) (hn : ds.Nodup) (hs : ∀ d ∈ ds, d < a.tmps.size) (i : Nat) {d : Nat} {v : Value} (hd : ds[i]? = some d) (hv : xs[i]? = some v) : b.eval (.tmp d) = v := eval_of (by rw [hb]; exact puts_get_in ds xs a hn hs hd hv)
theorem eval_out {b : Act} (hb : b = puts a (ds.zip xs)) {d : Nat} (hd : ds.elem d = false) : b.eval (.tmp d) = a.eval (.tmp d) := by
  have : b.tmps[d]? = a.tmps[d]? := by rw [hb]; exact puts_get_out ds xs a (by simpa using hd)
  simp [Act.eval, this]
theorem put_in {b : Act} (hb : b = puts a (ds.zip xs)) (hn : ds.Nodup) (hl : xs.length = ds.length) (i : Nat) {d : Nat} (v : Value) {ys : List Value} (hd : ds[i]? = some d) (hy : xs.set i v = ys) : b.put (some d) v = puts a (ds.zip ys) := by
  rw [hb, puts_put ds xs a hn hl v hd, hy]
end
/-- The operations of a region, out of the code that holds it. -/
def opsIn : Code → Nat → Option (Array Oper)
  | .region id ops _, n => if id = n then some ops else none
  | .seq x y, n => (opsIn x n).or (opsIn y n)
  | .cond _ x y, n => (opsIn x n).or (opsIn y n)
  | .block _ x, n => opsIn x n
  | .loop x, n => opsIn x n
  | .scope x, n => opsIn x n
  | .rangeFunc _ _ x y, n => (opsIn x n).or (opsIn y n)
  | _, _ => none
def opsAt (f : Func) (n : Nat) : Option (Array Oper) := f.body.bind (opsIn · n)
theorem OnceFrom.cons {o : Oper} {rest : List Oper} {i : Nat} (h : ∀ (L : Nat → Bool) (a : Act) (w : World) (K' : Act → World → Prop), I L a w → L i = false → (∀ j ∈ downOf ops o, L j = true) → (∀ j ∈ upOf ops i, L j = false) → Shut (∀ a w, (∀ L' : Nat → Bool, L' i = true → (∀ j, j ≠ i → L' j = L j) → I L' a w) → K' a w) →
      if Region.wanted o (yielded ops a.tmps) = true then Oper.wp P o a w K' Q else K' (a.put o.dst undef) w) (hr : OnceFrom P ops Q I rest (i + 1)) : OnceFrom P ops Q I (o :: rest) i := ⟨h, hr⟩
end
end Go.Proofs.Ytfpbabafeecncaa
