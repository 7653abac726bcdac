/-
  Cells, plainly: why an access is none; what it makes of words; many accesses; back; what marks tell.
-/
import Derived.Test.YtadgihmokmfejaaCea
set_option linter.unusedSimpArgs false
set_option linter.unusedVariables false
namespace Go.Proofs.Ytadgihmokmfejaa
open Go Go.RowKit

/-- Why an access of m cells is none; 0: it is one. -/
def why (m : Nat) (a : Acc) : Int :=
  if m < 1 ∨ 8192 < m then 120 else if a.2.1 < 1 ∨ 4 < a.2.1 ∨ a.1 < 0 ∨ 7 < a.1 then 121 else if a.2.2.1 < 0 ∨ (m : Int) ≤ a.2.2.1 then 2 else 0
/-- What a cell holds. -/
def ceAt (w : List Int) (k : Int) : Int := w.getD k.toNat 0
/-- What the words are behind an access. -/
def doX (w : List Int) (a : Acc) : List Int :=
  if a.2.1 = 1 then w else if a.2.1 = 2 then w.set a.2.2.1.toNat a.2.2.2.2 else if a.2.1 = 3 then (if ceAt w a.2.2.1 = a.2.2.2.1 then w.set a.2.2.1.toNat a.2.2.2.2 else w) else w.set a.2.2.1.toNat ((ceAt w a.2.2.1 + a.2.2.2.2) % 18446744073709551616)
/-- What is seen. -/
def doS (w : List Int) (a : Acc) : Int × Bool := (ceAt w a.2.2.1, (a.2.1 != 3) || (ceAt w a.2.2.1 == a.2.2.2.1))
/-- The marks of an access. -/
def doM (i : Nat) (w : List Int) (a : Acc) : List Mk := if (doS w a).2 && (a.2.1 != 1) then [((i : Int), a.2.2.1, ceAt w a.2.2.1, ceAt (doX w a) a.2.2.1)] else []
theorem doX_length (w : List Int) (a : Acc) : (doX w a).length = w.length := by
  unfold doX; repeat (first | split | simp)
def runX (w : List Int) (l : List Acc) : List Int := l.foldl doX w
theorem runX_length (w : List Int) (l : List Acc) : (runX w l).length = w.length := by
  induction l generalizing w with
  | nil => rfl
  | cons a l ih => exact (ih (doX w a)).trans (doX_length w a)
theorem runX_snoc (w : List Int) (l : List Acc) (a : Acc) : runX w (l ++ [a]) = doX (runX w l) a := by simp [runX]
def runS (w : List Int) : List Acc → List (Int × Bool)
  | [] => []
  | a :: l => doS w a :: runS (doX w a) l
theorem runS_snoc (w : List Int) (l : List Acc) (a : Acc) : runS w (l ++ [a]) = runS w l ++ [doS (runX w l) a] := by
  induction l generalizing w with
  | nil => rfl
  | cons b l ih => simp only [List.cons_append, runS, ih]; rfl
theorem runS_length (w : List Int) (l : List Acc) : (runS w l).length = l.length := by
  induction l generalizing w with
  | nil => rfl
  | cons b l ih => simp [runS, ih]
def runM (i : Nat) (w : List Int) : List Acc → List Mk
  | [] => []
  | a :: l => doM i w a ++ runM (i + 1) (doX w a) l
theorem runM_snoc (i : Nat) (w : List Int) (l : List Acc) (a : Acc) : runM i w (l ++ [a]) = runM i w l ++ doM (i + l.length) (runX w l) a := by
  induction l generalizing w i with
  | nil => simp [runM, runX]
  | cons b l ih => simp only [List.cons_append, runM, ih, List.append_assoc, List.length_cons]; rw [show i + 1 + l.length = i + (l.length + 1) by omega]; rfl
theorem doM_length (i : Nat) (w : List Int) (a : Acc) : (doM i w a).length ≤ 1 := by unfold doM; split <;> simp
theorem runM_length (i : Nat) (w : List Int) (l : List Acc) : (runM i w l).length ≤ l.length := by
  induction l generalizing w i with
  | nil => simp [runM]
  | cons b l ih => have := ih (i + 1) (doX w b); have := doM_length i w b; simp [runM]; omega
/-- The first error of accesses of m cells. -/
def runE (m : Nat) : List Acc → Int
  | [] => if m < 1 ∨ 8192 < m then 120 else 0
  | a :: l => if why m a ≠ 0 then why m a else runE m l
/-- Back by one mark. -/
def backOk (w : List Int) (m : Mk) : Bool := decide (0 ≤ m.2.1) && decide (m.2.1 < w.length) && decide (ceAt w m.2.1 = m.2.2.2)
def back1 (w : List Int) (m : Mk) : List Int := w.set m.2.1.toNat m.2.2.1
/-- Back by marks, the last one first (the list is the marks, turned around): the words, if all fit. -/
def backR (w : List Int) : List Mk → Option (List Int)
  | [] => some w
  | m :: l => if backOk w m then backR (back1 w m) l else none
def backX (w : List Int) (ms : List Mk) : Option (List Int) := backR w ms.reverse
theorem back1_length (w : List Int) (m : Mk) : (back1 w m).length = w.length := by simp [back1]
/-- What a cell held, by marks. -/
def held1 (at_ : Int) (out : List Int) (m : Mk) : List Int := if m.2.1 = at_ then (if out.length = 0 then [m.2.2.1] else out) ++ [m.2.2.2] else out
def heldX (ms : List Mk) (at_ : Int) : List Int := ms.foldl (held1 at_) []
def last1 (at_ : Int) (b : Int × Bool) (m : Mk) : Int × Bool := if m.2.1 = at_ then (m.1, true) else b
def lastX (ms : List Mk) (at_ : Int) : Int × Bool := ms.foldl (last1 at_) (0, false)
theorem heldX_snoc (ms : List Mk) (at_ : Int) (m : Mk) : heldX (ms ++ [m]) at_ = held1 at_ (heldX ms at_) m := by simp [heldX]
theorem lastX_snoc (ms : List Mk) (at_ : Int) (m : Mk) : lastX (ms ++ [m]) at_ = last1 at_ (lastX ms at_) m := by simp [lastX]
theorem held1_length (at_ : Int) (out : List Int) (m : Mk) : (held1 at_ out m).length ≤ out.length + 2 := by
  unfold held1
  split
  · split
    · simp
    · simp
  · omega
theorem heldX_length (ms : List Mk) (at_ : Int) : (heldX ms at_).length ≤ 2 * ms.length := by
  have h : ∀ (l : List Mk) (o : List Int), (l.foldl (held1 at_) o).length ≤ o.length + 2 * l.length := by
    intro l
    induction l with
    | nil => intro o; simp
    | cons m l ih => intro o; have := ih (held1 at_ o m); have := held1_length at_ o m; simp; omega
  simpa [heldX] using h ms []

/-- Words of sixty-four bits. -/
def Ws (w : List Int) : Prop := ∀ x ∈ w, U64 x
theorem Ws.at {w : List Int} (h : Ws w) {k : Int} : U64 (ceAt w k) := by
  unfold ceAt
  rw [List.getD_eq_getElem?_getD]
  by_cases hk : k.toNat < w.length
  · rw [List.getElem?_eq_getElem hk]; exact h _ (List.getElem_mem hk)
  · rw [List.getElem?_eq_none (by omega)]; exact ⟨by simp, by simp⟩
theorem Ws.set {w : List Int} (h : Ws w) {k : Nat} {x : Int} (hx : U64 x) : Ws (w.set k x) := fun y hy => by
  rcases List.mem_or_eq_of_mem_set hy with hy | rfl
  · exact h y hy
  · exact hx
theorem Ws.doX {w : List Int} (h : Ws w) {a : Acc} (ha : U64 a.2.2.2.2) : Ws (doX w a) := by
  unfold Go.Proofs.Ytadgihmokmfejaa.doX
  split
  · exact h
  · split
    · exact h.set ha
    · split
      · split
        · exact h.set ha
        · exact h
      · exact h.set ⟨Int.emod_nonneg _ (by decide), Int.emod_lt_of_pos _ (by decide)⟩
end Go.Proofs.Ytadgihmokmfejaa
