/-
  A directory's runs, told one by one.
-/
import Derived.Test.YtjlbnegdiabglaaDic
import Derived.Test.YtjlbnegdiabglaaRange8
set_option linter.unusedSimpArgs false
set_option linter.unusedVariables false
namespace Go.Proofs.Ytjlbnegdiabglaa
open Go Go.RowKit
attribute [local go_sem] via_cell via_frozen

def encRv (x : Rc) : Array Value := #[.agg (rC x)]
/-- The hand, and the box that holds where it lies. -/
structure HandP (w : World) (B gp gh : Nat) (dep : Int) (A : Option Addr) (c : Nat) (es : List En) : Prop where
  box : RowAt w gp 69 #[.pointer (some ⟨gh, 0, none⟩)]
  hand : RowAt w gh 71 #[.int .i64 dep, .slice A es.length c]
  rd : Rd w B 2 A es.length (Cs encE es)
def keep3 (B gp gh : Nat) (j : Nat) : Prop := j < B ∨ j = gp ∨ j = gh
def keptK (B gp gh n1 : Nat) (j : Nat) : Prop := keep3 B gp gh j ∨ n1 ≤ j
theorem HandP.keep {w w' : World} {B gp gh : Nat} {dep : Int} {A : Option Addr} {c : Nat} {es : List En} (h : HandP w B gp gh dep A c es) (hB : B ≤ w.heap.size) (hk : ∀ j, keep3 B gp gh j → j < w.heap.size → w'.heap[j]? = w.heap[j]?) : HandP w' B gp gh dep A c es :=
  ⟨h.box.heap (hk _ (.inr (.inl rfl)) h.box.lt), h.hand.heap (hk _ (.inr (.inr rfl)) h.hand.lt), h.rd.keep (fun p hp => cell_of_heap (hk _ (.inl hp) (Nat.lt_of_lt_of_le hp hB)))⟩
theorem rd_drop {w : World} {B n c k : Nat} {A : Option Addr} {es : List En} (h : Rd w B 2 A n (Cs encE es)) (hn : es.length = n) (hk : k < n) : ∃ b o, A = some ⟨b, o, none⟩ ∧ b < B ∧ Rd w B 2 (some ⟨b, o + k * 2, none⟩) (n - k) (Cs encE (es.drop k)) := by
  obtain ⟨b, o, e, hb, hc⟩ := h.2 (by omega)
  refine ⟨b, o, e, hb, ⟨by rw [Cs_length encE_len, List.length_drop, hn], fun _ => ⟨b, o + k * 2, rfl, hb, fun j u hu => ?_⟩⟩⟩
  rw [Nat.add_assoc]
  refine hc (k * 2 + j) u ?_
  have e2 : Cs encE es = Cs encE (es.take k) ++ Cs encE (es.drop k) := by rw [← Cs_append, List.take_append_drop]
  have e3 : (Cs encE (es.take k)).length = k * 2 := by rw [Cs_length encE_len, List.length_take, hn, Nat.min_eq_left (by omega)]
  rw [e2, List.getElem?_append_right (by rw [e3]; omega), e3, show k * 2 + j - k * 2 = j by omega]
  exact hu
theorem runs_split (es : List En) {k : Nat} (hk : k < es.length) (dep : Int) {pre : List Rc} (h : (runs es).map (rc dep) = pre ++ (runsAt k (es.drop k)).map (rc dep)) :
    (runs es).map (rc dep) = (pre ++ [rc dep ⟨k, lenAt es k, es.getD k (0, 0)⟩]) ++ (runsAt (k + lenAt es k) (es.drop (k + lenAt es k))).map (rc dep) := by
  rw [h, runsAt_drop es hk]
  simp [lenAt]
/-- What IndexFunc says at a place, and what the run's length is. -/
theorem leadX_at (es : List En) {k : Nat} (hk : k < es.length) : leadX (es.getD k (0, 0)) (es.drop k) = if k + lenAt es k = es.length then (-1 : Int) else ((lenAt es k : Nat) : Int) := by
  have e1 : es.drop k = es.getD k (0, 0) :: es.drop (k + 1) := by
    rw [List.drop_eq_getElem_cons hk, List.getD_eq_getElem?_getD, List.getElem?_eq_getElem hk]; rfl
  have e2 : lead (es.getD k (0, 0)) (es.drop k) = lenAt es k := by
    unfold lenAt
    rw [e1]
    show (if es.getD k (0, 0) = es.getD k (0, 0) then _ else 0) = _
    rw [if_pos rfl]
  unfold leadX
  rw [e2, List.length_drop]
  by_cases h : k + lenAt es k = es.length
  · rw [if_pos h, if_pos (by omega)]
  · rw [if_neg h, if_neg (by omega)]
theorem log2_half {n : Nat} (h : 1 < n) : Nat.log2 n = Nat.log2 (n / 2) + 1 := by
  rw [Nat.log2_def, if_pos (by omega)]
end Go.Proofs.Ytjlbnegdiabglaa
