/-
  The plain laws of adds.
-/
import Derived.Test.YtadgihmokmfejaaCebp
import Derived.Test.YtadgihmokmfejaaCedo
set_option linter.unusedSimpArgs false
set_option linter.unusedVariables false
namespace Go.Proofs.Ytadgihmokmfejaa
open Go Go.RowKit

def addF (k : Nat) : Nat → List Int → List Acc
  | _, [] => []
  | i, n :: l => (((i % 8 : Nat) : Int), 4, (k : Int), 0, n) :: addF k (i + 1) l
theorem addF_length (k i : Nat) (l : List Int) : (addF k i l).length = l.length := by
  induction l generalizing i with
  | nil => rfl
  | cons n l ih => simp [addF, ih]
theorem addF_snoc (k i : Nat) (l : List Int) (n : Int) : addF k i (l ++ [n]) = addF k i l ++ [((((i + l.length) % 8 : Nat) : Int), 4, (k : Int), 0, n)] := by
  induction l generalizing i with
  | nil => rfl
  | cons a l ih => simp only [List.cons_append, addF, ih, List.length_cons]; rw [show i + 1 + l.length = i + (l.length + 1) by omega]
theorem addF_mem {k i : Nat} {l : List Int} {a : Acc} (h : a ∈ addF k i l) : ∃ (j : Nat) (n : Int), j < 8 ∧ n ∈ l ∧ a = ((j : Int), 4, (k : Int), 0, n) := by
  induction l generalizing i with
  | nil => simp [addF] at h
  | cons x l ih =>
    rcases List.mem_cons.1 h with rfl | h
    · exact ⟨i % 8, x, Nat.mod_lt _ (by omega), by simp, rfl⟩
    · obtain ⟨j, n, h1, h2, h3⟩ := ih h
      exact ⟨j, n, h1, by simp [h2], h3⟩
/-- The sum, by sixty-four bits. -/
def tot (t : Int) (l : List Int) : Int := l.foldl (fun t n => (t + n) % 18446744073709551616) t
theorem tot_snoc (t : Int) (l : List Int) (n : Int) : tot t (l ++ [n]) = (tot t l + n) % 18446744073709551616 := by simp [tot]
theorem tot_sum (t : Int) (l : List Int) (h : U64 t) : tot t l = (t + l.sum) % 18446744073709551616 := by
  induction l generalizing t with
  | nil => simp [tot]; exact (Int.emod_eq_of_lt h.1 h.2).symm
  | cons n l ih =>
    have h2 : U64 ((t + n) % 18446744073709551616) := ⟨Int.emod_nonneg _ (by decide), Int.emod_lt_of_pos _ (by decide)⟩
    show tot ((t + n) % 18446744073709551616) l = _
    rw [ih _ h2, List.sum_cons, Int.emod_add_emod, Int.add_assoc]
theorem why_add {m k j : Nat} {n : Int} (h1 : 1 ≤ m) (h2 : m ≤ 8192) (hk : k < m) (hj : j < 8) (kd : Int) (hk1 : 1 ≤ kd) (hk4 : kd ≤ 4) (o : Int) : why m ((j : Int), kd, (k : Int), o, n) = 0 := by
  unfold why
  dsimp only
  rw [if_neg (by omega), if_neg (by omega), if_neg (by omega)]
/-- Adds at one place: what comes of them. -/
theorem run_adds (w : List Int) (k : Nat) (hk : k < w.length) (l : List Acc) (v : List Int) (h : l.map (fun a => a.2.2.2.2) = v) (ha : ∀ a ∈ l, a.2.1 = 4 ∧ a.2.2.1 = k) : runX w l = w.set k (tot (ceAt w k) v) := by
  induction l generalizing w v with
  | nil =>
    subst h
    have : w.set k (ceAt w k) = w := by
      have hc : ceAt w k = w[k] := by unfold ceAt; rw [Int.toNat_natCast, List.getD_eq_getElem?_getD, List.getElem?_eq_getElem hk]; rfl
      rw [hc, List.set_getElem_self]
    exact this.symm
  | cons a l ih =>
    subst h
    obtain ⟨h4, hat⟩ := ha a (by simp)
    have hd : doX w a = w.set k ((ceAt w k + a.2.2.2.2) % 18446744073709551616) := by
      unfold doX
      rw [h4, if_neg (by decide), if_neg (by decide), if_neg (by decide), hat, Int.toNat_natCast]
    show runX (doX w a) l = _
    rw [ih (doX w a) (by rw [doX_length]; exact hk) _ rfl (fun b hb => ha b (by simp [hb])), hd, List.set_set]
    congr 1
    have hc : ceAt (w.set k ((ceAt w k + a.2.2.2.2) % 18446744073709551616)) k = (ceAt w k + a.2.2.2.2) % 18446744073709551616 := by
      have := ceAt_set w (k : Int) ((ceAt w k + a.2.2.2.2) % 18446744073709551616) (by omega) (by omega) (k : Int) (by omega)
      rw [Int.toNat_natCast, if_pos rfl] at this
      exact this
    rw [hc]; rfl
theorem addF_new (k i : Nat) (l : List Int) : (addF k i l).map (fun a => a.2.2.2.2) = l := by
  induction l generalizing i with
  | nil => rfl
  | cons n l ih => simp [addF, ih]
theorem addF_kind {k i : Nat} {l : List Int} : ∀ a ∈ addF k i l, a.2.1 = 4 ∧ a.2.2.1 = k := fun a ha => by
  obtain ⟨j, n, _, _, rfl⟩ := addF_mem ha
  exact ⟨rfl, rfl⟩
theorem adds_there (w : List Int) (k : Nat) (hk : k < w.length) (l : List Int) : runX w (addF k 0 l) = w.set k (tot (ceAt w k) l) := run_adds w k hk _ _ (addF_new k 0 l) addF_kind
theorem adds_back (w : List Int) (k : Nat) (hk : k < w.length) (hw : Ws w) (l : List Int) : runX w (addF k 0 l).reverse = w.set k (tot (ceAt w k) l) := by
  rw [run_adds w k hk _ l.reverse (by rw [List.map_reverse, addF_new]) (fun a ha => addF_kind a (by simpa using ha)), tot_sum _ _ hw.at, tot_sum _ _ hw.at, List.sum_reverse]
theorem adds_ok {m k : Nat} (h1 : 1 ≤ m) (h2 : m ≤ 8192) (hk : k < m) (l : List Int) : runE m (addF k 0 l) = 0 ∧ runE m (addF k 0 l).reverse = 0 := by
  have h : ∀ a ∈ addF k 0 l, why m a = 0 := fun a ha => by
    obtain ⟨j, n, hj, _, rfl⟩ := addF_mem ha
    exact why_add h1 h2 hk hj 4 (by omega) (by omega) 0
  exact ⟨runE_ok h1 h2 h, runE_ok h1 h2 (fun a ha => h a (by simpa using ha))⟩
def AdAt (w1 : World) (k : Nat) (y : Int) (pre : List Int) (vT vB vt : Value) (wr : World) : Prop :=
  ∃ (At Ab : Option Addr) (ct cb : Nat), vT = .slice At pre.length ct ∧ vB = .slice Ab pre.length cb ∧ vt = .int .u64 (tot y pre) ∧ pre.length ≤ ct ∧ pre.length ≤ cb ∧ ct ≤ 9223372036854775807 ∧ cb ≤ 9223372036854775807 ∧
    wr.ownsRow w1.heap.size 37 5 (.slice At pre.length ct) pre.length (Cs encA (addF k 0 pre)) ∧ Rd wr wr.heap.size 5 Ab pre.length (Cs encA (addF k 0 pre).reverse) ∧ (∀ p, Ab = some p → some p.block ≠ (Value.slice At pre.length ct).ownBlock) ∧ Below w1.heap.size w1 wr
theorem _root_.Go.World.ownsRow.keepB {w w' : World} {base : Nat} {e : TypeId} {size n : Nat} {v : Value} {xs : List Value} (h : w.ownsRow base e size v n xs) (hb : Below w.heap.size w w') : w'.ownsRow base e size v n xs := own_keepB h hb
theorem own_ne2 {w w' : World} {b n sz : Nat} {e : TypeId} {v : Value} {xs : List Value} {r : Option Nat} (hv : w.ownsRow b e sz v n xs) (hg : w.grownBy w' r) (hne : ∀ g, v.ownBlock = some g → some g ≠ r) : w'.ownsRow b e sz v n xs := by
  obtain ⟨h1, h2⟩ := hv
  refine ⟨h1, ?_⟩
  rcases h2 with h | ⟨g, cap, cur, rfl, hg0, hh, r⟩
  · exact .inl h
  · exact .inr ⟨g, cap, cur, rfl, hg0, (hg.block g (Array.getElem?_eq_some_iff.1 hh).1 (hne g rfl)).trans hh, r⟩
theorem own_ltb {w : World} {b n sz : Nat} {e : TypeId} {v : Value} {xs : List Value} (h : w.ownsRow b e sz v n xs) : ∀ g, v.ownBlock = some g → g < w.heap.size := fun g hg => by
  obtain ⟨o, ho, _⟩ := own_cells h hg
  exact (Array.getElem?_eq_some_iff.1 ho).1
theorem AdAt.next {w1 w' : World} {k j : Nat} {y nn jm : Int} {pre : List Int} {AA AB : Option Addr} {cA cB : Nat} (hpl : pre.length = j) (hjm : jm = ((j % 8 : Nat) : Int)) (hcA : j + 1 ≤ cA) (hcB : 1 + j ≤ cB) (hcAm : cA ≤ 9223372036854775807) (hcBm : cB ≤ 9223372036854775807)
    (hT : w'.ownsRow w1.heap.size 37 5 (.slice AA (j + 1) cA) (j + 1) (Cs encA (addF k 0 pre) ++ [.int .i64 jm, .int .i64 4, .int .i64 k, .int .u64 0, .int .u64 nn]))
    (hB : Rd w' w'.heap.size 5 AB (1 + j) ([.int .i64 jm, .int .i64 4, .int .i64 k, .int .u64 0, .int .u64 nn] ++ Cs encA (addF k 0 pre).reverse))
    (hne : ∀ p, AB = some p → some p.block ≠ (Value.slice AA (j + 1) cA).ownBlock) (hb : Below w1.heap.size w1 w') :
    AdAt w1 k y (pre ++ [nn]) (.slice AA (j + 1) cA) (.slice AB (1 + j) cB) (.int .u64 (IntKind.u64.wrap (tot y pre + nn))) w' := by
  have hl : (pre ++ [nn]).length = j + 1 := by rw [List.length_append, hpl]; rfl
  have ha : addF k 0 (pre ++ [nn]) = addF k 0 pre ++ [(jm, 4, (k : Int), 0, nn)] := by rw [addF_snoc, hpl, Nat.zero_add, ← hjm]
  unfold AdAt
  rw [hl, ha, List.reverse_append, Cs_append, Cs_append]
  refine ⟨AA, AB, cA, cB, rfl, by rw [Nat.add_comm], by rw [tot_snoc]; rfl, hcA, by omega, hcAm, hcBm, hT, ?_, hne, hb⟩
  rw [Nat.add_comm 1 j] at hB
  exact hB
def StAt (w1 : World) (m k : Nat) (tt : Int) (X : List Int) (t : Nat) (v : Value) (wr : World) : Prop :=
  ∃ (L : List Acc) (A : Option Addr) (c : Nat), v = .slice A L.length c ∧ L.length ≤ c ∧ c ≤ 9223372036854775807 ∧ wr.ownsRow w1.heap.size 37 5 (.slice A L.length c) L.length (Cs encA L) ∧ L.length ≤ t + 1 ∧ (∀ a ∈ L, why m a = 0) ∧ ceAt (runX X L) k = tt ∧ Below w1.heap.size w1 wr
theorem st_first (X : List Int) (k : Nat) (tt : Int) (m : Nat) (hx : X.length = m) (hk : k < m) (hm : m ≤ 8192) : (∀ a ∈ [((0 : Int), (2 : Int), (k : Int), (0 : Int), tt)], why m a = 0) ∧ ceAt (runX X [((0 : Int), (2 : Int), (k : Int), (0 : Int), tt)]) k = tt := by
  refine ⟨fun a ha => ?_, ?_⟩
  · simp at ha
    subst ha
    exact why_add (j := 0) (by omega) hm hk (by omega) 2 (by omega) (by omega) 0
  · show ceAt (doX X (0, 2, (k : Int), 0, tt)) k = tt
    have h : doX X (0, 2, (k : Int), 0, tt) = X.set k tt := by simp [doX]
    have h2 := ceAt_set X (k : Int) tt (by omega) (by omega) (k : Int) (by omega)
    rw [Int.toNat_natCast, if_pos rfl] at h2
    rw [h]; exact h2
/-- A swap at another cell. -/
theorem swap_far (w : List Int) (k q : Nat) (wh ol nw : Int) (hq : q < w.length) (hne : q ≠ k) : ceAt (doX w (wh, 3, (q : Int), ol, nw)) k = ceAt w k := by
  have h2 := fun v => ceAt_set w (q : Int) v (by omega) (by omega) (k : Int) (by omega)
  simp only [Int.toNat_natCast] at h2
  unfold doX
  dsimp only
  rw [if_neg (by decide), if_neg (by decide), if_pos (by first | trivial | rfl), Int.toNat_natCast]
  split
  · rw [h2, if_neg (by omega)]
  · rfl
theorem StAt.next {w1 w' : World} {m k t c : Nat} {tt : Int} {X : List Int} {ST : List Acc} {A : Option Addr} {v1 v2 v3 v4 v5 : Int} (hl : ST.length ≤ t + 1) (hw : ∀ a ∈ ST, why m a = 0) (ha : why m (v1, v2, v3, v4, v5) = 0) (hk : ceAt (doX (runX X ST) (v1, v2, v3, v4, v5)) k = tt) (hc : ST.length + 1 ≤ c) (hcm : c ≤ 9223372036854775807)
    (ho : w'.ownsRow w1.heap.size 37 5 (.slice A (ST.length + 1) c) (ST.length + 1) (Cs encA ST ++ [.int .i64 v1, .int .i64 v2, .int .i64 v3, .int .u64 v4, .int .u64 v5])) (hb : Below w1.heap.size w1 w') : StAt w1 m k tt X (t + 1) (.slice A (ST.length + 1) c) w' := by
  have hL : (ST ++ [(v1, v2, v3, v4, v5)]).length = ST.length + 1 := by rw [List.length_append]; rfl
  refine ⟨ST ++ [(v1, v2, v3, v4, v5)], A, c, by rw [hL], by rw [hL]; exact hc, hcm, by rw [hL, Cs_append]; exact ho, by rw [hL]; omega, fun a h => ?_, by rw [runX_snoc]; exact hk, hb⟩
  rw [List.mem_append] at h
  rcases h with h | h
  · exact hw a h
  · simp at h; subst h; exact ha
end Go.Proofs.Ytadgihmokmfejaa
