/-
  Monitors by their values: what is done with them.
-/
import Derived.Test.YtfpbabafeecncaaMou
set_option linter.unusedSimpArgs false
set_option linter.unusedVariables false
namespace Go.Proofs.Ytfpbabafeecncaa
open Go Go.RowKit

/-- As much as is gone through. -/
structure FitM (m : Mon) (R : Nat) : Prop where
  sl : m.sl.length ≤ 4096
  pin : m.pin.length ≤ 4096
  has : m.has.length ≤ 4096
  bad : m.bad.length ≤ 4096
  rows : HasLe m R
  le : R ≤ 4095
theorem fit_small {w : World} {B : Nat} {a0 a1 a2 a3 : Option Addr} {n0 n1 n2 n3 : Nat} {ts : List Hm} {m : Mon} {R : Nat} (h : MonX w B a0 a1 a2 a3 n0 n1 n2 n3 ts m) (hf : FitM m R) (hc : ∀ t ∈ ts, t.q.length ≤ t.c ∧ t.c ≤ 9223372036854775807) : SmallX n0 n1 n2 n3 ts ∧ ∀ t ∈ ts, t.q.length ≤ R := by
  have hq : ∀ t ∈ ts, t.q.length ≤ R := fun t ht => hf.rows _ (by rw [h.hs]; unfold rowsQ; exact List.mem_map.2 ⟨t, ht, rfl⟩)
  have hl := hf.le
  refine ⟨⟨by rw [← h.l0]; exact hf.sl, by rw [← h.l1]; exact hf.pin, by have := hf.has; rw [h.hs, rowsQ_len, h.has.len] at this; exact this, by rw [← h.l3]; exact hf.bad, fun t ht => by have := hq t ht; omega, hc⟩, hq⟩
theorem vDo {B : Nat} {v : Value} {m : Mon} {R : Nat} {w : World} (h : MonOut B w v m) (hf : FitM m R) (k gi es z : Int) (hz : U64 z) : Calls Try.prog 14 #[v, .agg #[.int .i64 k, .int .i64 gi, .int .i64 es, .int .u64 z]] w (DoOut (DoM m (k, gi, es, z)) w) := by
  obtain ⟨a0, a1, a2, a3, n0, n1, n2, n3, c0, c1, c2, c3, ts, rfl, h1, h2, h3⟩ := h
  have hx := h1 w (Nat.le_refl _) (fun _ _ _ => rfl)
  obtain ⟨hs, hq⟩ := fit_small hx hf h2
  exact Do_any a0 a1 a2 a3 n0 n1 n2 n3 c0 c1 c2 c3 ts m k gi es z w hx hs (fun t ht => Nat.le_trans (hq t ht) hf.le) hz
theorem vRun {B : Nat} {v : Value} {m : Mon} {R : Nat} {w : World} (h : MonOut B w v m) (hf : FitM m R) (A : Option Addr) (n c : Nat) (l : List Wt) (hl : Rd w w.heap.size 4 A n (Cs encX l)) (hn : l.length = n) (hU : ∀ x ∈ l, U64 x.2.2.2) (hRn : R + n ≤ 4095) : Calls Try.prog 29 #[v, .slice A n c] w (RunOut (RunM m l) w) := by
  obtain ⟨a0, a1, a2, a3, n0, n1, n2, n3, c0, c1, c2, c3, ts, rfl, h1, h2, h3⟩ := h
  have hx := h1 w (Nat.le_refl _) (fun _ _ _ => rfl)
  obtain ⟨hs, hq⟩ := fit_small hx hf h2
  exact Run_any a0 a1 a2 a3 n0 n1 n2 n3 c0 c1 c2 c3 ts m A n c l w hx hs R hq hl hn hU hRn
theorem vGood {B : Nat} {v : Value} {m : Mon} {R : Nat} {w : World} (h : MonOut B w v m) (hf : FitM m R) (k gi es z : Int) (r : Bool) (hr : GoodM m (k, gi, es, z) = r) : Calls Try.prog 16 #[v, .agg #[.int .i64 k, .int .i64 gi, .int .i64 es, .int .u64 z]] w fun e W' => e = .returned (.bool r) ∧ Below w.heap.size w W' := by
  obtain ⟨a0, a1, a2, a3, n0, n1, n2, n3, c0, c1, c2, c3, ts, rfl, h1, h2, h3⟩ := h
  have hx := h1 w (Nat.le_refl _) (fun _ _ _ => rfl)
  obtain ⟨hs, hq⟩ := fit_small hx hf h2
  exact Good_any a0 a1 a2 a3 n0 n1 n2 n3 c0 c1 c2 c3 ts m k gi es z w hx hs r hr
theorem vSafe {B : Nat} {v : Value} {m : Mon} {R : Nat} {w : World} (h : MonOut B w v m) (hf : FitM m R) (s z : Int) (r : Bool) (hr : SafeM m (s, z) = r) : Calls Try.prog 13 #[v, .agg #[.int .i64 s, .int .u64 z]] w fun e W' => e = .returned (.bool r) ∧ Below w.heap.size w W' := by
  obtain ⟨a0, a1, a2, a3, n0, n1, n2, n3, c0, c1, c2, c3, ts, rfl, h1, h2, h3⟩ := h
  have hx := h1 w (Nat.le_refl _) (fun _ _ _ => rfl)
  obtain ⟨hs, hq⟩ := fit_small hx hf h2
  exact Safe_any a0 a1 a2 a3 n0 n1 n2 n3 c0 c1 c2 c3 ts m s z w hx hs r hr
theorem vHolders {B : Nat} {v : Value} {m : Mon} {R : Nat} {w : World} (h : MonOut B w v m) (hf : FitM m R) (s z : Int) (ys : List Int) (hy : HoldM m (s, z) = ys) (q : Nat) (hq : ys.length = q) : Calls Try.prog 19 #[v, .agg #[.int .i64 s, .int .u64 z]] w fun e W' => (∃ A' c', e = .returned (.slice A' q c') ∧ Rd W' W'.heap.size 1 A' q (Cs encI ys)) ∧ Below w.heap.size w W' := by
  obtain ⟨a0, a1, a2, a3, n0, n1, n2, n3, c0, c1, c2, c3, ts, rfl, h1, h2, h3⟩ := h
  have hx := h1 w (Nat.le_refl _) (fun _ _ _ => rfl)
  obtain ⟨hs, _⟩ := fit_small hx hf h2
  exact Holders_any a0 a1 a2 a3 n0 n1 n2 n3 c0 c1 c2 c3 ts m s z w hx hs ys hy q hq
theorem vCheck {B : Nat} {v : Value} {m : Mon} {R : Nat} {w : World} (h : MonOut B w v m) (hf : FitM m R) (z : Int) (hz : errM m.ok = z) : Calls Try.prog 20 #[v] w fun e W' => e = .returned (.int .i64 z) ∧ Below w.heap.size w W' := by
  obtain ⟨a0, a1, a2, a3, n0, n1, n2, n3, c0, c1, c2, c3, ts, rfl, h1, h2, h3⟩ := h
  have hx := h1 w (Nat.le_refl _) (fun _ _ _ => rfl)
  obtain ⟨hs, _⟩ := fit_small hx hf h2
  exact mcheckX_any w.heap.size a0 a1 a2 a3 n0 n1 n2 n3 c0 c1 c2 c3 ts m w hx (Nat.le_refl _) hs z hz
theorem vSame {B B' : Nat} {v v' : Value} {m p : Mon} {R R' : Nat} {w : World} (h : MonOut B w v m) (h' : MonOut B' w v' p) (hf : FitM m R) (hf' : FitM p R') (r : Bool) (hr : sameM m p = r) : Calls Try.prog 23 #[v, v'] w fun e W' => e = .returned (.bool r) ∧ Below w.heap.size w W' := by
  obtain ⟨a0, a1, a2, a3, n0, n1, n2, n3, c0, c1, c2, c3, ts, rfl, h1, h2, h3⟩ := h
  obtain ⟨b0, b1, b2, b3, k0, k1, k2, k3, d0, d1, d2, d3, us, rfl, g1, g2, g3⟩ := h'
  have hx := h1 w (Nat.le_refl _) (fun _ _ _ => rfl)
  have gx := g1 w (Nat.le_refl _) (fun _ _ _ => rfl)
  exact msameX_any a0 a1 a2 a3 n0 n1 n2 n3 c0 c1 c2 c3 b0 b1 b2 b3 k0 k1 k2 k3 d0 d1 d2 d3 ts us m p w hx gx (fit_small hx hf h2).1 (fit_small gx hf' g2).1 r hr
/-- A monitor in a box: its memory is younger than the box. -/
structure RowMon (B : Nat) (w : World) (g : Nat) (cs : Array Value) (m : Mon) : Prop where
  row : RowAt w g 32 cs
  out : MonOut B w (.agg cs) m
theorem RowMon.below {B : Nat} {w w' : World} {g : Nat} {cs : Array Value} {m : Mon} (h : RowMon B w g cs m) (hb : Below w.heap.size w w') : RowMon B w' g cs m := ⟨h.row.below hb, h.out.below hb⟩
theorem MonOut.form {B : Nat} {w : World} {v : Value} {m : Mon} (h : MonOut B w v m) : ∃ a0 a1 a2 a3 n0 n1 n2 n3 c0 c1 c2 c3, v = .agg #[.slice a0 n0 c0, .slice a1 n1 c1, .slice a2 n2 c2, .slice a3 n3 c3] := by
  obtain ⟨a0, a1, a2, a3, n0, n1, n2, n3, c0, c1, c2, c3, ts, rfl, _⟩ := h
  exact ⟨a0, a1, a2, a3, n0, n1, n2, n3, c0, c1, c2, c3, rfl⟩
/-- Another monitor is laid into the box. -/
theorem rowMon_of {B n g : Nat} {w : World} {v0 v1 v2 v3 u0 u1 u2 u3 : Value} {m : Mon} (h : RowAt w g 32 #[u0, u1, u2, u3]) (hm : MonOut B w (.agg #[v0, v1, v2, v3]) m) (hg : g < B) (hn : n ≤ g) :
    RowMon B ((((w.setCell ⟨g, 0, none⟩ v0).setCell ⟨g, 1, none⟩ v1).setCell ⟨g, 2, none⟩ v2).setCell ⟨g, 3, none⟩ v3) g #[v0, v1, v2, v3] m ∧ (∀ j, j ≠ g → ((((w.setCell ⟨g, 0, none⟩ v0).setCell ⟨g, 1, none⟩ v1).setCell ⟨g, 2, none⟩ v2).setCell ⟨g, 3, none⟩ v3).heap[j]? = w.heap[j]?) ∧ Below n w ((((w.setCell ⟨g, 0, none⟩ v0).setCell ⟨g, 1, none⟩ v1).setCell ⟨g, 2, none⟩ v2).setCell ⟨g, 3, none⟩ v3) := by
  have HL := laidM4_of (n := n) (v0 := v0) (v1 := v1) (v2 := v2) (v3 := v3) h hn
  exact ⟨⟨HL.1, hm.other HL.2.2.size (fun j hj _ => HL.2.1 j (by omega))⟩, HL.2⟩
theorem fit_of {m : Mon} {R : Nat} (ho : OkM m) (hR : HasLe m R) (h4 : R ≤ 4095) : FitM m R :=
  ⟨by have := (arOk_out ho.ar).2.1; omega, by have := ho.hi; omega, by have := ho.hi; have := ho.has; omega, by have := ho.bl; omega, hR, h4⟩
end Go.Proofs.Ytfpbabafeecncaa
