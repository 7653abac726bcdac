/-
  The reference's: the same words; one cell changed; an access.
-/
import Derived.Test.YtadgihmokmfejaaCeb
set_option linter.unusedSimpArgs false
set_option linter.unusedVariables false
namespace Go.Proofs.Ytadgihmokmfejaa
open Go Go.RowKit
attribute [local go_sem] via_cell via_frozen

set_option maxHeartbeats 1000000 in
theorem rsame_any (B1 B2 : Nat) (A1 A2 : Option Addr) (c1 c2 : Nat) (xs ys : List Int) (W : World) (h1 : Rd W B1 1 A1 xs.length (Cs encW xs)) (h2 : Rd W B2 1 A2 ys.length (Cs encW ys)) (hB1 : B1 ≤ W.heap.size) (hB2 : B2 ≤ W.heap.size)
    (hl1 : xs.length ≤ 8192) (hl2 : ys.length ≤ 8192) (r : Bool) (hr : decide (xs = ys) = r) :
    Calls Try.prog 17 #[.slice A1 xs.length c1, .slice A2 ys.length c2] W fun e W' => e = .returned (.bool r) ∧ Below W.heap.size W W' := by
  subst hr
  by_cases hlen : xs.length = ys.length
  · have ht : ((xs.length : Int) != (ys.length : Int)) = false := by rw [bne_eq_false_iff_eq]; omega
    have HL := hide hlen
    clear hlen
    go_enter Try.func17, Try.ntmps17
    go_wp2_with fail
    go_loopw [14] (fun i wr => ∃ k : Nat, k ≤ xs.length ∧ i = .int .i64 k ∧ xs.take k = ys.take k ∧ Below W.heap.size W wr) (fun i _ => xs.length - (intOf i).toNat)
    case atStart => exact ⟨0, Nat.zero_le _, rfl, rfl, Below.refl _ _⟩
    case round =>
      obtain ⟨k, hk, rfl, hpre, hbw⟩ := hrel
      have HP := hide hpre
      clear hpre
      by_cases hlt : k < xs.length
      · have hlt2 : k < ys.length := by have := HL.out; omega
        obtain ⟨b1, o1, rfl, hb1, hc1⟩ := (h1.below (hbw.mono hB1)).elem encW_len hlt
        obtain ⟨b2, o2, rfl, hb2, hc2⟩ := (h2.below (hbw.mono hB2)).elem encW_len hlt2
        have hd10 := hc1 0 _ (by omega) rfl
        have hd20 := hc2 0 _ (by omega) rfl
        simp only [Nat.mul_one, Nat.add_zero] at hd10 hd20
        clear hc1 hc2
        have hi2 : (k : Int) < (ys.length : Int) := by omega
        generalize hx : xs[k] = x at *
        generalize hy : ys[k] = y at *
        have HX := hide hx
        have HY := hide hy
        clear hx hy
        by_cases hxy : x = y
        · subst hxy
          have hne : (x != x) = false := by simp
          go_wp2_with fail
          go_roundw
          case rel => exact ⟨k + 1, by omega, by go_num, by rw [List.take_succ_eq_append_getElem hlt, List.take_succ_eq_append_getElem hlt2, HP.out, HX.out, HY.out], hbw⟩
          case measure => simp [intOf]; omega
        · have hne : (x != y) = true := by simpa using hxy
          go_wp2_with fail
          go_ret
          exact ⟨ret_bool (by rw [eq_comm, decide_eq_false_iff_not]; intro h; apply hxy; rw [← HX.out, ← HY.out]; simp [h]), hbw⟩
      · go_wp2_with fail
        go_ret
        have he : xs = ys := by have h := HP.out; rw [List.take_of_length_le (by omega), List.take_of_length_le (by have := HL.out; omega)] at h; exact h
        exact ⟨ret_bool (by rw [eq_comm, decide_eq_true_iff]; exact he), hbw⟩
  · have ht : ((xs.length : Int) != (ys.length : Int)) = true := by rw [bne_iff_ne]; omega
    go_enter Try.func17, Try.ntmps17
    go_wp2
    go_ret
    exact ⟨ret_bool (by rw [eq_comm, decide_eq_false_iff_not]; intro h; exact hlen (by rw [h])), Below.refl _ _⟩

theorem encW_map (l : List Int) : Cs encW l = l.map (Value.int .u64) := by
  induction l with
  | nil => rfl
  | cons x l ih => simp [Cs, encW] at ih ⊢; exact ih
theorem encW_set (l : List Int) (k : Nat) (b : Int) : (Cs encW l).set k (.int .u64 b) = Cs encW (l.set k b) := by
  have h : ∀ l : List Int, Cs encW l = l.map (Value.int .u64) := fun l => by induction l with
    | nil => rfl
    | cons x l ih => simp [Cs, encW] at ih ⊢; exact ih
  rw [h, h, List.map_set]

/-- Words in fresh memory, handed back. -/
def FreshW (W : World) (n : Nat) (Y : List Int) (x : Ending) (W' : World) : Prop :=
  ∃ g c, x = .returned (.slice (some ⟨g, 0, none⟩) n c) ∧ n ≤ c ∧ c ≤ 9223372036854775807 ∧ W'.ownsRow W.heap.size 31 1 (.slice (some ⟨g, 0, none⟩) n c) n (Cs encW Y) ∧ Below W.heap.size W W'

theorem own_some {w : World} {base : Nat} {e : TypeId} {n : Nat} {v : Value} {xs : List Value} (h : w.ownsRow base e 1 v n xs) (hn : 0 < n) :
    ∃ g c, v = .slice (some ⟨g, 0, none⟩) n c ∧ n ≤ c ∧ c ≤ 9223372036854775807 ∧ base ≤ g ∧ g < w.heap.size ∧ (∀ k, k < n → w.cell? ⟨g, k, none⟩ = xs[k]?) ∧ ∀ k, w.frozen? ⟨g, k, none⟩ = false := by
  obtain ⟨A, c, rfl, hc1, hc2⟩ := own_form2 h
  have hrd := Rd.of_own h
  rcases h.2 with ⟨h', h0⟩ | ⟨g, cap, cur, h', hb, hg, hnc, hcm, hcs, htake⟩
  · exfalso
    injection h' with e1 e2 e3
    omega
  · injection h' with e1 e2 e3
    subst e1
    have hrow : RowAt w g e cur := hg
    refine ⟨g, c, rfl, hc1, hc2, hb, hrow.lt, fun k hk => ?_, fun k => hrow.frozen k⟩
    obtain ⟨b, off, e2, _, hc⟩ := hrd.2 hn
    cases e2
    have hk' : k < xs.length := by rw [hrd.1]; omega
    rw [List.getElem?_eq_getElem hk']
    have := hc k _ (List.getElem?_eq_getElem hk')
    simpa using this

set_option maxRecDepth 100000 in
set_option maxHeartbeats 1000000 in
theorem with_any (B : Nat) (A : Option Addr) (c n : Nat) (X : List Int) (k : Nat) (u : Int) (W : World) (h : Rd W B 1 A n (Cs encW X)) (hB : B ≤ W.heap.size) (hx : X.length = n) (hk : k < n) (hn : n ≤ 4096) :
    Calls Try.prog 38 #[.slice A n c, .int .i64 k, .int .u64 u] W (FreshW W n (X.set k u)) := by
  have hown := World.ownsRow_lit (base := W.heap.size) (e := 31) (size := 1) W #[] 0 (Nat.le_refl _) (by simp [maxLen]) rfl
  obtain ⟨bA, oA, rfl, _⟩ := h.2 (by omega)
  have HX := hide hx
  have hki : (k : Int) < (n : Int) := by omega
  have HK := hide hk
  have HN := hide hn
  clear hx
  go_enter Try.func38, Try.ntmps38
  go_wp2_with (at_builtin; (refine wpList_app elW rfl _ _ rfl rfl hown rfl (h.alloc hB _) (Cs_one_cell encW_one _) (by omega) (by simp) ?_; intro v1 w1 hown1 hb1 _ _; simp only [Nat.zero_add, List.nil_append, List.size_toArray, List.length_nil] at hown1; obtain ⟨g, c1, rfl, hc1, hc2, hgb, hgl, hcell, hfr⟩ := own_some hown1 (by omega); obtain ⟨x0, hck⟩ : ∃ x0, w1.cell? ⟨g, k, none⟩ = some (.int .u64 x0) := ⟨_, (hcell k hk).trans (by rw [encW_map X, List.getElem?_map, List.getElem?_eq_getElem (show k < X.length by rw [HX.out]; exact hk)]; rfl)⟩; have hfk := hfr k; clear hcell hfr hk hn))
  go_ret
  refine ⟨g, c1, rfl, hc1, hc2, ?_, ?_⟩
  · have h := (hown1.stored k (.int .u64 u)).1
    rw [encW_set] at h
    exact h
  · exact (((Below.refl _ _).alloc (Nat.le_refl _) _).trans hb1).setCell (p := ⟨g, k, none⟩) hgb _
end Go.Proofs.Ytadgihmokmfejaa
