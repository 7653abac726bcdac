/-
  What the walks of the laws over monitors share: what Do gives by its values; what fails has an error; a monitor in a box, opened.
-/
import Derived.Test.YtfpbabafeecncaaMow
import Derived.Test.YtfpbabafeecncaaMocp
set_option linter.unusedSimpArgs false
set_option linter.unusedVariables false
namespace Go.Proofs.Ytfpbabafeecncaa
open Go Go.RowKit

def DoK (n : Mon) (te tz kk : Int) (W : World) (e : Ending) (W' : World) : Prop :=
  (∃ a0 a1 a2 a3 n0 n1 n2 n3 c0 c1 c2 c3, e = .returned (.tuple #[.agg #[.slice a0 n0 c0, .slice a1 n1 c1, .slice a2 n2 c2, .slice a3 n3 c3], .agg #[.int .i64 te, .int .u64 tz], .int .i64 kk]) ∧ MonOut W.heap.size W' (.agg #[.slice a0 n0 c0, .slice a1 n1 c1, .slice a2 n2 c2, .slice a3 n3 c3]) n) ∧ Below W.heap.size W W'
theorem vDoK {B : Nat} {v : Value} {m n : Mon} {R : Nat} {w : World} {k gi es z te tz kk : Int} (h : MonOut B w v m) (hf : FitM m R) (hz : U64 z) (hn : outM (DoM m (k, gi, es, z)) = n) (he : outE (DoM m (k, gi, es, z)) = (te, tz)) (hk : outK (DoM m (k, gi, es, z)) = kk) :
    Calls Try.prog 14 #[v, .agg #[.int .i64 k, .int .i64 gi, .int .i64 es, .int .u64 z]] w (DoK n te tz kk w) := by
  refine (vDo h hf k gi es z hz).mono ?_
  rintro e W' ⟨⟨v', rfl, hm⟩, hb⟩
  rw [hn] at hm
  rw [he, hk]
  obtain ⟨a0, a1, a2, a3, n0, n1, n2, n3, c0, c1, c2, c3, rfl⟩ := hm.form
  exact ⟨⟨a0, a1, a2, a3, n0, n1, n2, n3, c0, c1, c2, c3, rfl, hm⟩, hb⟩
/-- A monitor, opened. -/
theorem MonOut.view {B : Nat} {w : World} {a0 a1 a2 a3 : Option Addr} {n0 n1 n2 n3 c0 c1 c2 c3 : Nat} {m : Mon} (h : MonOut B w (.agg #[.slice a0 n0 c0, .slice a1 n1 c1, .slice a2 n2 c2, .slice a3 n3 c3]) m) : ∃ ts, MonX w w.heap.size a0 a1 a2 a3 n0 n1 n2 n3 ts m ∧ (∀ t ∈ ts, t.q.length ≤ t.c ∧ t.c ≤ 9223372036854775807) ∧ n3 ≤ c3 ∧ c3 ≤ 9223372036854775807 := by
  obtain ⟨b0, b1, b2, b3, k0, k1, k2, k3, d0, d1, d2, d3, ts, hv, h1, h2, h3⟩ := h
  simp only [Value.agg.injEq, Array.mk.injEq, List.cons.injEq, Value.slice.injEq, and_true] at hv
  obtain ⟨⟨rfl, rfl, rfl⟩, ⟨rfl, rfl, rfl⟩, ⟨rfl, rfl, rfl⟩, ⟨rfl, rfl, rfl⟩⟩ := hv
  exact ⟨ts, h1 w (Nat.le_refl _) (fun _ _ _ => rfl), h2, h3⟩
theorem deed_err {m : Mon} {tk : List Ent} {w : Wt} {k : Int} (h : deedM m tk w = .error k) : k ≠ 0 := by
  unfold deedM at h
  dsimp only at h
  repeat' (split at h)
  all_goals first
    | (injection h with h; subst h; first | decide | assumption | (intro e; simp_all))
    | cases h
theorem does_err {m : Mon} {tk : List Ent} {w : Wt} {k : Int} (h : doesM m tk w = .error k) : k ≠ 0 := by
  unfold doesM at h
  repeat' (split at h)
  all_goals first
    | exact deed_err h
    | (injection h with h; subst h; decide)
theorem do_err {m : Mon} {w : Wt} (h : outK (DoM m w) = 0) : ∃ x, DoM m w = .ok x := by
  cases hd : DoM m w with
  | ok x => exact ⟨x, rfl⟩
  | error k =>
    rw [hd] at h
    have h : k = 0 := h
    subst h
    unfold DoM okR at hd
    split at hd
    · exact absurd rfl (does_err hd)
    · injection hd with hd; cases hd
theorem eqXn (A1 A2 : Option Addr) (c1 c2 n1 n2 : Nat) (xs ys : List Wt) (W : World) (h1 : Rd W W.heap.size 4 A1 n1 (Cs encX xs)) (h2 : Rd W W.heap.size 4 A2 n2 (Cs encX ys)) (hx : xs.length = n1) (hy : ys.length = n2) (hl1 : n1 ≤ 4096) (hl2 : n2 ≤ 4096) (r : Bool) (hr : decide (xs = ys) = r) :
    Calls Try.prog 28 #[.slice A1 n1 c1, .slice A2 n2 c2] W fun e W' => e = .returned (.bool r) ∧ Below W.heap.size W W' := by
  subst hx hy
  exact EqualX _ _ A1 A2 c1 c2 xs ys W h1 h2 (Nat.le_refl _) (Nat.le_refl _) hl1 hl2 r hr
theorem do_le {m : Mon} {w : Wt} {x : Mon × List Ent} {R : Nat} (hR : HasLe m R) (hd : DoM m w = .ok x) : HasLe x.1 (R + 1) := by
  unfold DoM okR at hd
  split at hd
  · exact (does_le hR hd).1
  · cases hd
theorem MonOut.row {B g : Nat} {w : World} {C cs : Array Value} {m : Mon} (h : MonOut B w (.agg cs) m) {t : TypeId} (hr : RowAt w g t C) {w' : World} (hk : ∀ j, j ≠ g → w'.heap[j]? = w.heap[j]?) (hs : w.heap.size ≤ w'.heap.size) (hg : g < B ∨ w.heap.size ≤ g) : MonOut B w' (.agg cs) m :=
  h.other hs fun j h1 h2 => hk j (by omega)
end Go.Proofs.Ytfpbabafeecncaa
