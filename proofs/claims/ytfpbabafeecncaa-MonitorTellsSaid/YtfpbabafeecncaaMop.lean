/-
  Monitors, in plain Lean: which may be; what is done.
-/
import Derived.Test.YtfpbabafeecncaaArm
import Derived.Test.YtfpbabafeecncaaMoa
set_option linter.unusedSimpArgs false
set_option linter.unusedVariables false
namespace Go.Proofs.Ytfpbabafeecncaa
open Go Go.RowKit

abbrev Ent := Int × Int
def entB (e : Ent) : Bool := decide (0 ≤ e.1) && (decide (e.1 < 128) && decide (e.2 ≤ 1099511627775))
def hasE (l : List Ent) (e : Ent) : Bool := l.any (fun y => decide (y = e))
theorem hasE_iff {l : List Ent} {e : Ent} : hasE l e = true ↔ e ∈ l := by
  unfold hasE
  rw [List.any_eq_true]
  constructor
  · rintro ⟨x, h1, h2⟩
    have := of_decide_eq_true h2
    subst this; exact h1
  · intro h; exact ⟨e, h, by simp⟩
/-- A monitor: its slabs; who is pinned; what each has; what was bad. -/
structure Mon where
  sl : List Ent
  pin : List Bool
  has : List (List Ent)
  bad : List Wt
def mon0 : Mon := ⟨[], [], [], []⟩
def wtB (goers : Int) (w : Wt) : Bool := (decide (w.1 = 4) || decide (w.1 = 5)) && (decide (0 ≤ w.2.1) && (decide (w.2.1 < goers) && entB w.2.2))
/-- May a goroutine have these? Some of them were looked at. -/
def rowGo (p : Bool) : List Ent → List Ent → Bool
  | _, [] => true
  | seen, e :: l => (p && (entB e && !hasE seen e)) && rowGo p (seen ++ [e]) l
def rowB (p : Bool) (l : List Ent) : Bool := rowGo p [] l
theorem rowGo_append (p : Bool) : ∀ (a b seen : List Ent), rowGo p seen (a ++ b) = (rowGo p seen a && rowGo p (seen ++ a) b)
  | [], b, seen => by simp [rowGo]
  | e :: a, b, seen => by
    rw [List.cons_append, rowGo, rowGo, rowGo_append p a b]
    simp [Bool.and_assoc]
theorem rowB_snoc (p : Bool) (l : List Ent) (e : Ent) : rowB p (l ++ [e]) = (rowB p l && (p && (entB e && !hasE l e))) := by
  unfold rowB
  rw [rowGo_append]
  simp [rowGo]
theorem rowB_nil (p : Bool) : rowB p [] = true := rfl
theorem rowB_pre {p : Bool} {l r : List Ent} (h : rowB p l = false) : rowB p (l ++ r) = false := by
  unfold rowB at *
  rw [rowGo_append, h]; rfl
theorem rowB_pin {p : Bool} {l : List Ent} (h : rowB p l = true) (hn : l ≠ []) : p = true := by
  cases l with
  | nil => exact absurd rfl hn
  | cons e l =>
    unfold rowB rowGo at h
    simp only [Bool.and_eq_true] at h
    exact h.1.1
theorem rowGo_mem {p : Bool} : ∀ (l seen : List Ent), rowGo p seen l = true → ∀ e ∈ l, entB e = true
  | [], _, _, e, he => by cases he
  | x :: l, seen, h, e, he => by
    unfold rowGo at h
    simp only [Bool.and_eq_true] at h
    rcases List.mem_cons.1 he with rfl | he
    · exact h.1.2.1
    · exact rowGo_mem l _ h.2 e he
theorem rowB_mem {p : Bool} {l : List Ent} (h : rowB p l = true) : ∀ e ∈ l, entB e = true := rowGo_mem l [] h
/-- The reference's look at a row. -/
def chkR : List Ent → List Ent → Bool
  | _, [] => true
  | seen, e :: l => (entB e && !hasE seen e) && chkR (seen ++ [e]) l
theorem chkR_append : ∀ (a b seen : List Ent), chkR seen (a ++ b) = (chkR seen a && chkR (seen ++ a) b)
  | [], b, seen => by simp [chkR]
  | e :: a, b, seen => by
    rw [List.cons_append, chkR, chkR, chkR_append a b]
    simp [Bool.and_assoc]
theorem chkR_snoc (l : List Ent) (e : Ent) : chkR [] (l ++ [e]) = (chkR [] l && (entB e && !hasE l e)) := by
  rw [chkR_append]
  simp [chkR]
theorem chkR_pre {l r : List Ent} (h : chkR [] l = false) : chkR [] (l ++ r) = false := by
  rw [chkR_append, h]; rfl
theorem rowGo_true : ∀ (l seen : List Ent), rowGo true seen l = chkR seen l
  | [], _ => rfl
  | e :: l, seen => by rw [rowGo, chkR, rowGo_true l]; simp
theorem rowB_ref (p : Bool) (l : List Ent) : rowB p l = (chkR [] l && (p || decide (l.length = 0))) := by
  cases p with
  | true => rw [rowB, rowGo_true]; simp
  | false =>
    cases l with
    | nil => rfl
    | cons e l => simp [rowB, rowGo]
def rowsTo (m : Mon) (n : Nat) : Bool := (List.range n).all (fun g => rowB (m.pin.getD g false) (m.has.getD g []))
theorem rowsTo_succ (m : Mon) (n : Nat) : rowsTo m (n + 1) = (rowsTo m n && rowB (m.pin.getD n false) (m.has.getD n [])) := by
  unfold rowsTo
  rw [List.range_succ, List.all_append]
  simp
theorem rowsTo_iff {m : Mon} {n : Nat} : rowsTo m n = true ↔ ∀ g, g < n → rowB (m.pin.getD g false) (m.has.getD g []) = true := by
  unfold rowsTo
  rw [List.all_eq_true]
  simp
theorem rowsTo_no {m : Mon} {n k : Nat} (h : rowsTo m k = false) (hk : k ≤ n) : rowsTo m n = false := by
  rcases Bool.eq_false_or_eq_true (rowsTo m n) with h1 | h1
  · rw [rowsTo_iff] at h1
    have : rowsTo m k = true := rowsTo_iff.2 (fun g hg => h1 g (by omega))
    rw [h] at this; cases this
  · exact h1
def flatB (m : Mon) : Bool := arOk m.sl && (decide (1 ≤ m.pin.length) && (decide (m.pin.length ≤ 8) && (decide (m.has.length = m.pin.length) && (decide (m.bad.length ≤ 16) && m.bad.all (wtB m.pin.length)))))
def Mon.ok (m : Mon) : Bool := flatB m && rowsTo m m.pin.length
structure OkM (m : Mon) : Prop where
  ar : arOk m.sl = true
  lo : 1 ≤ m.pin.length
  hi : m.pin.length ≤ 8
  has : m.has.length = m.pin.length
  bl : m.bad.length ≤ 16
  bad : ∀ w ∈ m.bad, wtB m.pin.length w = true
  rows : ∀ g, g < m.pin.length → rowB (m.pin.getD g false) (m.has.getD g []) = true
theorem ok_iff {m : Mon} : m.ok = true ↔ OkM m := by
  unfold Mon.ok flatB
  simp only [Bool.and_eq_true, decide_eq_true_eq, rowsTo_iff, List.all_eq_true]
  constructor
  · rintro ⟨⟨h1, h2, h3, h4, h5, h6⟩, h7⟩; exact ⟨h1, h2, h3, h4, h5, h6, h7⟩
  · rintro ⟨h1, h2, h3, h4, h5, h6, h7⟩; exact ⟨⟨h1, h2, h3, h4, h5, h6⟩, h7⟩
def errM (b : Bool) : Int := if b then 0 else 220

/-! Touches. -/
def metB (m : Mon) (e : Ent) : Bool := arOk m.sl && meantB m.sl e
def tagM (m : Mon) (e : Ent) : Int := if metB m e = true then tagOf m.sl e else 0
def pinM (m : Mon) (g : Nat) : Bool := m.pin.getD g false
def rowM (m : Mon) (g : Nat) : List Ent := m.has.getD g []
def goodM (m : Mon) (w : Wt) : Bool := pinM m w.2.1.toNat && (hasE (rowM m w.2.1.toNat) w.2.2 && (metB m w.2.2 && (decide (tagM m w.2.2 = 1) || (decide (tagM m w.2.2 = 2) && decide (w.1 = 4)))))
def goerM (m : Mon) (g : Int) : Bool := decide (0 ≤ g) && decide (g < m.pin.length)
def GoodM (m : Mon) (w : Wt) : Bool := (decide (w.1 = 4) || decide (w.1 = 5)) && (m.ok && (goerM m w.2.1 && goodM m w))
def holdersGo (e : Ent) : Nat → List (List Ent) → List Int
  | _, [] => []
  | i, l :: r => if hasE l e then (i : Int) :: holdersGo e (i + 1) r else holdersGo e (i + 1) r
def holdM (m : Mon) (e : Ent) : List Int := holdersGo e 0 m.has
theorem holdersGo_append (e : Ent) : ∀ (a b : List (List Ent)) (i : Nat), holdersGo e i (a ++ b) = holdersGo e i a ++ holdersGo e (i + a.length) b
  | [], b, i => by simp [holdersGo]
  | l :: a, b, i => by
    have h := holdersGo_append e a b (i + 1)
    rw [show i + 1 + a.length = i + (l :: a).length by simp; omega] at h
    rw [List.cons_append, holdersGo, holdersGo]
    split <;> simp [h]
def HoldM (m : Mon) (e : Ent) : List Int := if m.ok then holdM m e else []
def SafeM (m : Mon) (e : Ent) : Bool := m.ok && (decide (holdM m e = []) && (metB m e && decide (tagM m e ≠ 0)))

/-! What is done: the error, or what comes, and what was taken. -/
def getM (m : Mon) (g : Nat) (e : Ent) : Mon := if hasE (rowM m g) e then m else ⟨m.sl, m.pin, m.has.set g (rowM m g ++ [e]), m.bad⟩
def touchM (m : Mon) (w : Wt) : Mon := if goodM m w = false ∧ m.bad.length < 16 then ⟨m.sl, m.pin, m.has, m.bad ++ [w]⟩ else m
def askedB (k : Int) : Bool := decide (k ≠ 1) && (decide (k ≠ 2) && decide (k ≠ 6))
def deedM (m : Mon) (tk : List Ent) (w : Wt) : Except Int (Mon × List Ent) :=
  let g := w.2.1.toNat
  if w.1 = 1 then (if pinM m g then .error 5 else .ok (⟨m.sl, m.pin.set g true, m.has, m.bad⟩, tk))
  else if w.1 = 2 then (if pinM m g then .ok (⟨m.sl, m.pin.set g false, m.has.set g [], m.bad⟩, tk) else .error 4)
  else if w.1 = 3 then (if pinM m g then .ok (getM m g w.2.2, tk) else .error 4)
  else if w.1 = 4 ∨ w.1 = 5 then (if pinM m g then .ok (touchM m w, tk) else .error 4)
  else if w.1 = 6 then (if pinM m g then (if tkE m.sl 1 = 0 then .ok (getM ⟨tkA m.sl 1, m.pin, m.has, m.bad⟩ g ((tkL m.sl 1).getD 0 (0, 0)), tk ++ tkL m.sl 1) else .error (tkE m.sl 1)) else .error 4)
  else if w.1 = 7 then (if rtE m.sl [w.2.2] = 0 then .ok (⟨rtA m.sl [w.2.2], m.pin, m.has, m.bad⟩, tk) else .error (rtE m.sl [w.2.2]))
  else (if gvE m.sl [w.2.2] = 0 then .ok (⟨gvA m.sl [w.2.2], m.pin, m.has, m.bad⟩, tk) else .error (gvE m.sl [w.2.2]))
def doesM (m : Mon) (tk : List Ent) (w : Wt) : Except Int (Mon × List Ent) :=
  if ¬ (1 ≤ w.1 ∧ w.1 < 9) then .error 221
  else if goerM m w.2.1 = false then .error 2
  else if askedB w.1 = true ∧ entB w.2.2 = false then .error 2
  else deedM m tk w
def runM : Mon → List Ent → List Wt → Except Int (Mon × List Ent)
  | m, tk, [] => .ok (m, tk)
  | m, tk, w :: l => match doesM m tk w with
    | .error k => .error k
    | .ok x => runM x.1 x.2 l
theorem runM_snoc : ∀ (l : List Wt) (m : Mon) (tk : List Ent) (w : Wt), runM m tk (l ++ [w]) = match runM m tk l with | .error k => .error k | .ok x => doesM x.1 x.2 w
  | [], m, tk, w => by
    show runM m tk [w] = doesM m tk w
    cases h : doesM m tk w with
    | error k => simp [runM, h]
    | ok x => simp [runM, h]
  | v :: l, m, tk, w => by
    rw [List.cons_append, runM, runM]
    cases doesM m tk v with
    | error k => rfl
    | ok x => exact runM_snoc l x.1 x.2 w
theorem runM_error : ∀ (a b : List Wt) (m : Mon) (tk : List Ent) (k : Int), runM m tk a = .error k → runM m tk (a ++ b) = .error k
  | [], b, m, tk, k, h => by rw [runM] at h; cases h
  | v :: a, b, m, tk, k, h => by
    rw [List.cons_append, runM]
    rw [runM] at h
    cases hv : doesM m tk v with
    | error k' => rw [hv] at h; exact h
    | ok x => rw [hv] at h; exact runM_error a b x.1 x.2 k h

/-! What may be stays so. -/
theorem getD_setN {α : Type} (l : List α) (k j : Nat) (v d : α) (hk : k < l.length) : (l.set k v).getD j d = if j = k then v else l.getD j d := by
  rw [List.getD_eq_getElem?_getD, List.getD_eq_getElem?_getD, List.getElem?_set]
  by_cases h : k = j
  · subst h; simp [hk]
  · rw [if_neg h, if_neg (fun e => h e.symm)]
theorem wtB_mk {goers : Int} {w : Wt} (hk : w.1 = 4 ∨ w.1 = 5) (hg : 0 ≤ w.2.1 ∧ w.2.1 < goers) (he : entB w.2.2 = true) : wtB goers w = true := by
  unfold wtB
  rcases hk with h | h <;> simp [h, hg.1, hg.2, he]
theorem goerM_out {m : Mon} {g : Int} (h : goerM m g = true) : 0 ≤ g ∧ g < m.pin.length ∧ g.toNat < m.pin.length := by
  unfold goerM at h
  simp only [Bool.and_eq_true, decide_eq_true_eq] at h
  omega
theorem ok_get {m : Mon} (h : OkM m) {g : Nat} (hg : g < m.pin.length) (hp : pinM m g = true) {e : Ent} (he : entB e = true) : OkM (getM m g e) := by
  unfold getM
  split
  · exact h
  · rename_i hn
    refine ⟨h.ar, h.lo, h.hi, by simpa using h.has, h.bl, h.bad, fun j hj => ?_⟩
    show rowB (m.pin.getD j false) ((m.has.set g (rowM m g ++ [e])).getD j []) = true
    rw [getD_setN _ _ _ _ _ (by rw [h.has]; exact hg)]
    by_cases hjg : j = g
    · subst hjg
      rw [if_pos rfl, rowB_snoc]
      have h1 := h.rows j hg
      have h2 : m.pin.getD j false = true := hp
      have h3 : hasE (rowM m j) e = false := by simpa using hn
      rw [h2] at h1
      rw [show rowB (m.pin.getD j false) (rowM m j) = true from by rw [h2]; exact h1, h2, he, h3]
      rfl
    · rw [if_neg hjg]; exact h.rows j hj
theorem ok_sl {m : Mon} (h : OkM m) {s : List Ent} (hs : arOk s = true) : OkM ⟨s, m.pin, m.has, m.bad⟩ := ⟨hs, h.lo, h.hi, h.has, h.bl, h.bad, h.rows⟩
theorem rowB_up {p : Bool} {l : List Ent} (h : rowB p l = true) : rowB true l = true := by
  rw [rowB_ref] at h ⊢
  simp only [Bool.and_eq_true] at h
  rw [h.1]; rfl
theorem tk_one {s : List Ent} (h : tkE s 1 = 0) : arOk s = true ∧ ∃ e r, ents s 0 = e :: r ∧ tkA s 1 = put1 1 s e ∧ tkL s 1 = [e] ∧ entB e = true := by
  have h0 := h
  unfold tkE at h
  split at h
  · rename_i ho
    split at h
    · omega
    · split at h
      · omega
      · rename_i h1 h2
        refine ⟨ho, ?_⟩
        cases he : ents s 0 with
        | nil => rw [he] at h2; simp at h2
        | cons e r =>
          have hm := ents_mem (ss := s) (tag := 0) (e := e) (by rw [he]; simp)
          have hs := slabOk_out ((arOk_out ho).2.2 _ (List.mem_of_getElem? hm.2.2))
          refine ⟨e, r, rfl, ?_, ?_, ?_⟩
          · unfold tkA
            rw [if_pos h0]
            unfold tk
            rw [he]; rfl
          · unfold tkL
            rw [if_pos h0, he]; rfl
          · have h3 := (arOk_out ho).2.1
            unfold entB
            simp only [Bool.and_eq_true, decide_eq_true_eq]
            exact ⟨hm.1, by omega, hs.2.2⟩
  · omega
theorem rt_one {s : List Ent} {e : Ent} (h : rtE s [e] = 0) : arOk s = true ∧ meantB s e = true ∧ tagOf s e = 1 ∧ rtA s [e] = put1 2 s e := by
  unfold rtE at h
  split at h
  · rename_i ho
    unfold rtA
    rw [if_pos ho]
    unfold retS at h ⊢
    by_cases hc : meantB s e = true ∧ tagOf s e = 1
    · simp only [if_pos hc, retS]
      exact ⟨ho, hc.1, hc.2, by trivial⟩
    · rw [if_neg hc] at h
      simp at h
  · omega
theorem gv_one {s : List Ent} {e : Ent} (h : gvE s [e] = 0) : arOk s = true ∧ meantB s e = true ∧ tagOf s e ≠ 0 ∧ e.2 < 1099511627775 ∧ gvA s [e] = s.set e.1.toNat (0, e.2 + 1) := by
  unfold gvE at h
  split at h
  · rename_i ho
    unfold gvA
    rw [if_pos ho]
    unfold givS at h ⊢
    by_cases hc : meantB s e = true ∧ tagOf s e ≠ 0
    · by_cases hg : e.2 < 1099511627775
      · simp only [if_pos hc, if_pos hg, givS]
        exact ⟨ho, hc.1, hc.2, hg, by trivial⟩
      · rw [if_pos hc, if_neg hg] at h
        simp at h
    · rw [if_neg hc] at h
      simp at h
  · omega
theorem tkA_ok {s : List Ent} (h : tkE s 1 = 0) : arOk (tkA s 1) = true := by
  obtain ⟨ho, e, r, h1, h2, _⟩ := tk_one h
  rw [h2]
  exact arOk_put ho (tag := 0) (by rw [h1]; simp) (by omega) (by omega)
theorem rtA_ok {s : List Ent} {e : Ent} (h : rtE s [e] = 0) : arOk (rtA s [e]) = true := by
  obtain ⟨ho, h1, h2, h3⟩ := rt_one h
  rw [h3]
  obtain ⟨k, hk, hkl, hg⟩ := meantB_out h1
  have := slabOk_out (arOk_at ho hkl)
  exact arOk_set ho _ _ (slabOk_mk (by omega) (by omega) (by omega))
theorem gvA_ok {s : List Ent} {e : Ent} (h : gvE s [e] = 0) : arOk (gvA s [e]) = true := by
  obtain ⟨ho, h1, h2, h3, h4⟩ := gv_one h
  rw [h4]
  exact arOk_set ho _ _ (slabOk_mk (by omega) (by omega) (by omega))
theorem ok_deed {m : Mon} {tk : List Ent} {w : Wt} {x : Mon × List Ent} (h : OkM m) (hg : goerM m w.2.1 = true) (hk : 1 ≤ w.1 ∧ w.1 < 9) (ha : askedB w.1 = true → entB w.2.2 = true) (hd : deedM m tk w = .ok x) : OkM x.1 := by
  obtain ⟨g0, g1, g2⟩ := goerM_out hg
  unfold deedM at hd
  dsimp only at hd
  by_cases k1 : w.1 = 1
  · rw [if_pos k1] at hd
    split at hd
    · cases hd
    · injection hd with hd
      subst hd
      refine ⟨h.ar, by simpa using h.lo, by simpa using h.hi, by simpa using h.has, h.bl, by simpa using h.bad, fun j hj => ?_⟩
      show rowB ((m.pin.set w.2.1.toNat true).getD j false) (m.has.getD j []) = true
      have hj2 : j < m.pin.length := by simpa using hj
      rw [getD_setN _ _ _ _ _ g2]
      split
      · exact rowB_up (h.rows j hj2)
      · exact h.rows j hj2
  rw [if_neg k1] at hd
  by_cases k2 : w.1 = 2
  · rw [if_pos k2] at hd
    split at hd
    · injection hd with hd
      subst hd
      refine ⟨h.ar, by simpa using h.lo, by simpa using h.hi, by simpa using h.has, h.bl, by simpa using h.bad, fun j hj => ?_⟩
      show rowB ((m.pin.set w.2.1.toNat false).getD j false) ((m.has.set w.2.1.toNat []).getD j []) = true
      have hj2 : j < m.pin.length := by simpa using hj
      rw [getD_setN _ _ _ _ _ g2, getD_setN _ _ _ _ _ (by rw [h.has]; exact g2)]
      split
      · rfl
      · exact h.rows j hj2
    · cases hd
  rw [if_neg k2] at hd
  by_cases k3 : w.1 = 3
  · rw [if_pos k3] at hd
    split at hd
    · rename_i hp
      injection hd with hd
      subst hd
      exact ok_get h g2 hp (ha (by unfold askedB; rw [k3]; rfl))
    · cases hd
  rw [if_neg k3] at hd
  by_cases k4 : w.1 = 4 ∨ w.1 = 5
  · rw [if_pos k4] at hd
    split at hd
    · injection hd with hd
      subst hd
      unfold touchM
      split
      · rename_i ht
        refine ⟨h.ar, h.lo, h.hi, h.has, by simp; omega, fun v hv => ?_, h.rows⟩
        rcases List.mem_append.1 hv with hv | hv
        · exact h.bad v hv
        · rw [List.mem_singleton] at hv
          subst hv
          exact wtB_mk k4 ⟨g0, g1⟩ (ha (by unfold askedB; rcases k4 with e | e <;> rw [e] <;> rfl))
      · exact h
    · cases hd
  rw [if_neg k4] at hd
  by_cases k6 : w.1 = 6
  · rw [if_pos k6] at hd
    split at hd
    · rename_i hp
      split at hd
      · rename_i ht
        injection hd with hd
        subst hd
        obtain ⟨ho, e, r, h1, h2, h3, h4⟩ := tk_one ht
        refine ok_get (m := ⟨tkA m.sl 1, m.pin, m.has, m.bad⟩) (ok_sl h (tkA_ok ht)) g2 hp ?_
        rw [h3]; exact h4
      · cases hd
    · cases hd
  rw [if_neg k6] at hd
  by_cases k7 : w.1 = 7
  · rw [if_pos k7] at hd
    split at hd
    · injection hd with hd
      subst hd
      exact ok_sl h (rtA_ok (by assumption))
    · cases hd
  rw [if_neg k7] at hd
  split at hd
  · injection hd with hd
    subst hd
    exact ok_sl h (gvA_ok (by assumption))
  · cases hd
theorem ok_does {m : Mon} {tk : List Ent} {w : Wt} {x : Mon × List Ent} (h : OkM m) (hd : doesM m tk w = .ok x) : OkM x.1 := by
  unfold doesM at hd
  split at hd
  · cases hd
  · rename_i h1
    split at hd
    · cases hd
    · rename_i h2
      split at hd
      · cases hd
      · rename_i h3
        exact ok_deed h (by simpa using h2) (by omega) (fun ha => by
          rcases Bool.eq_false_or_eq_true (entB w.2.2) with h4 | h4
          · exact h4
          · exact absurd ⟨ha, h4⟩ h3) hd
end Go.Proofs.Ytfpbabafeecncaa
