/-
  New monitors.
-/
import Derived.Test.YtfpbabafeecncaaMos
set_option linter.unusedSimpArgs false
set_option linter.unusedVariables false
namespace Go.Proofs.Ytfpbabafeecncaa
open Go Go.RowKit
attribute [local go_sem] via_cell via_frozen

def newM (g n : Nat) : Mon := ⟨List.replicate n (0, 0), List.replicate g false, List.replicate g [], []⟩
def NewM (g n : Int) : Except Int (Mon × List Ent) := if (1 ≤ g ∧ g ≤ 8) ∧ (2 ≤ n ∧ n ≤ 128) then .ok (newM g.toNat n.toNat, []) else .error 2
def NewOut (r : Except Int (Mon × List Ent)) (W : World) (e : Ending) (W' : World) : Prop :=
  (∃ v, e = .returned (.tuple #[v, .int .i64 (outK r)]) ∧ MonOut 0 W' v (outM r)) ∧ Below W.heap.size W W'
theorem monOut_zero (w : World) : MonOut 0 w (.agg #[.slice none 0 0, .slice none 0 0, .slice none 0 0, .slice none 0 0]) mon0 := ⟨none, none, none, none, 0, 0, 0, 0, 0, 0, 0, 0, [], rfl, (fun _ _ _ => zero_mon _ _), (fun t ht => by cases ht), Nat.le_refl _, Nat.zero_le _⟩
theorem MonX.monOut {w : World} {a0 a1 a2 a3 : Option Addr} {n0 n1 n2 n3 c0 c1 c2 c3 : Nat} {ts : List Hm} {m : Mon} (h : MonX w w.heap.size a0 a1 a2 a3 n0 n1 n2 n3 ts m) (hc : ∀ t ∈ ts, t.q.length ≤ t.c ∧ t.c ≤ 9223372036854775807) (h3 : n3 ≤ c3 ∧ c3 ≤ 9223372036854775807) : MonOut 0 w (.agg (moC a0 a1 a2 a3 n0 n1 n2 n3 c0 c1 c2 c3)) m :=
  ⟨a0, a1, a2, a3, n0, n1, n2, n3, c0, c1, c2, c3, ts, rfl, (fun w' hs hk => ⟨h.sl.moved (fun p hp h0 => by obtain ⟨b, o, e, hb, _⟩ := h.sl.2 h0; rw [hp] at e; injection e with e; subst e; exact hk _ (Nat.zero_le _) hb), h.l0, h.pin.moved (fun p hp h0 => by obtain ⟨b, o, e, hb, _⟩ := h.pin.2 h0; rw [hp] at e; injection e with e; subst e; exact hk _ (Nat.zero_le _) hb), h.l1, ⟨h.has.rd.moved (fun p hp h0 => by obtain ⟨b, o, e, hb, _⟩ := h.has.rd.2 h0; rw [hp] at e; injection e with e; subst e; exact hk _ (Nat.zero_le _) hb), h.has.len, fun t ht => (h.has.qs t ht).moved (fun p hp h0 => by obtain ⟨b, o, e, hb, _⟩ := (h.has.qs t ht).2 h0; rw [hp] at e; injection e with e; subst e; exact hk _ (Nat.zero_le _) hb)⟩, h.hs, h.bad.moved (fun p hp h0 => by obtain ⟨b, o, e, hb, _⟩ := h.bad.2 h0; rw [hp] at e; injection e with e; subst e; exact hk _ (Nat.zero_le _) hb), h.l3⟩), hc, h3⟩
theorem encH_rep (g : Nat) : Cs encH (List.replicate g hmZ) = List.replicate g (.slice none 0 0) := by
  induction g with
  | zero => rfl
  | succ g ih => rw [List.replicate_succ, List.replicate_succ, ← ih]; rfl
theorem encB_rep (g : Nat) : Cs encB (List.replicate g false) = List.replicate g (.bool false) := by
  induction g with
  | zero => rfl
  | succ g ih => rw [List.replicate_succ, List.replicate_succ, ← ih]; rfl
theorem rowsQ_rep (g : Nat) : rowsQ (List.replicate g hmZ) = List.replicate g [] := by unfold rowsQ; rw [List.map_replicate]; rfl
theorem made_rep (g : Nat) (v : Value) : madeCells #[v] (g * 1) = (List.replicate g v).toArray := by
  apply Array.ext
  · simp [madeCells]
  · intro i h1 h2
    simp [madeCells, Nat.mod_one]
/-- A row of slabs is no monitor. -/
theorem rd_apart {w : World} {B n g : Nat} {A : Option Addr} {t : TypeId} (h : Rd w B 2 A n (Cs encE (List.replicate n (0, 0)))) (hn : 0 < n) (R : RowAt w g t #[.slice none 0 0, .slice none 0 0, .slice none 0 0, .slice none 0 0]) {p : Addr} (hp : A = some p) : p.block ≠ g := by
  rintro rfl
  obtain ⟨b, o, e, hb, hc⟩ := h.2 hn
  rw [hp] at e
  injection e with e
  subst e
  have h0 := hc 0 (.int .i64 0) (by cases n with | zero => omega | succ n => rfl)
  have h1 := R.cell (o + 0)
  simp only [] at h0 h1
  rw [h1] at h0
  rcases o with _ | _ | _ | _ | o <;> simp at h0
theorem new_fin {W w3 w9 : World} {g n c gb gh : Nat} {A : Option Addr} (hn : 0 < n) (R : RowAt w3 W.heap.size 32 #[.slice none 0 0, .slice none 0 0, .slice none 0 0, .slice none 0 0]) (HB : Below W.heap.size W w3) (HRD : Rd w3 w3.heap.size 2 A n (Cs encE (List.replicate n (0, 0))))
    (hb : Below w3.heap.size ((((w3.setCell ⟨W.heap.size, 0, none⟩ (.slice A n c)).setCell ⟨W.heap.size, 1, none⟩ (.slice (some ⟨gb, 0, none⟩) g g)).setCell ⟨W.heap.size, 2, none⟩ (.slice (some ⟨gh, 0, none⟩) g g)).setCell ⟨W.heap.size, 3, none⟩ (.slice none 0 0)) w9) (rb : RowAt w9 gb 4 (Cs encB (List.replicate g false)).toArray) (rh : RowAt w9 gh 54 (Cs encH (List.replicate g hmZ)).toArray) :
    RowAt w9 W.heap.size 32 #[.slice A n c, .slice (some ⟨gb, 0, none⟩) g g, .slice (some ⟨gh, 0, none⟩) g g, .slice none 0 0] ∧ Below W.heap.size W w9 ∧ MonOut 0 w9 (.agg #[.slice A n c, .slice (some ⟨gb, 0, none⟩) g g, .slice (some ⟨gh, 0, none⟩) g g, .slice none 0 0]) (newM g n) := by
  have HL := laidM4_of (n := W.heap.size) (v0 := .slice A n c) (v1 := .slice (some ⟨gb, 0, none⟩) g g) (v2 := .slice (some ⟨gh, 0, none⟩) g g) (v3 := .slice none 0 0) R (Nat.le_refl _)
  have hsz : ((((w3.setCell ⟨W.heap.size, 0, none⟩ (.slice A n c)).setCell ⟨W.heap.size, 1, none⟩ (.slice (some ⟨gb, 0, none⟩) g g)).setCell ⟨W.heap.size, 2, none⟩ (.slice (some ⟨gh, 0, none⟩) g g)).setCell ⟨W.heap.size, 3, none⟩ (.slice none 0 0)).heap.size = w3.heap.size := by simp
  generalize ((((w3.setCell ⟨W.heap.size, 0, none⟩ (.slice A n c)).setCell ⟨W.heap.size, 1, none⟩ (.slice (some ⟨gb, 0, none⟩) g g)).setCell ⟨W.heap.size, 2, none⟩ (.slice (some ⟨gh, 0, none⟩) g g)).setCell ⟨W.heap.size, 3, none⟩ (.slice none 0 0)) = w4 at *
  rw [← hsz] at hb
  refine ⟨HL.1.below hb, (HB.trans HL.2.2).trans (hb.mono (by rw [hsz]; exact HB.size)), MonX.monOut (ts := List.replicate g hmZ) ⟨?_, by simp [newM], ?_, by simp [newM], ⟨?_, by simp, fun t ht => ?_⟩, by rw [rowsQ_rep]; rfl, Rd.none_, rfl⟩ (fun t ht => ?_) ⟨Nat.le_refl _, Nat.zero_le _⟩⟩
  · refine Rd.more (Rd.below ?_ hb) hb.size
    refine ⟨HRD.1, fun hn => ?_⟩
    obtain ⟨b, o, e, hbl, hc⟩ := HRD.2 hn
    have hne := rd_apart HRD hn R e
    exact ⟨b, o, e, by rw [hsz]; exact hbl, fun j u hu => (cell_of_heap (p := ⟨b, o + j, none⟩) (HL.2.1 b hne)).trans (hc j u hu)⟩
  · show Rd w9 w9.heap.size 1 _ g (Cs encB (List.replicate g false))
    exact ⟨by rw [encB_rep]; simp, fun hn => ⟨gb, 0, rfl, rb.lt, fun j u hu => by rw [Nat.zero_add]; exact (rb.cell j).trans (by simpa using hu)⟩⟩
  · exact ⟨by rw [encH_rep]; simp, fun hn => ⟨gh, 0, rfl, rh.lt, fun j u hu => by rw [Nat.zero_add]; exact (rh.cell j).trans (by simpa using hu)⟩⟩
  · rw [List.eq_of_mem_replicate ht]; exact Rd.none_
  · rw [List.eq_of_mem_replicate ht]; exact ⟨by simp [hmZ], by simp [hmZ]⟩
set_option maxRecDepth 20000 in
set_option maxHeartbeats 1000000 in
theorem New_no (g n : Int) (W : World) (h : ¬ (1 ≤ g ∧ g ≤ 8)) : Calls Try.prog 8 #[.int .i64 g, .int .i64 n] W (NewOut (.error 2) W) := by
  have R := hide (RowAt.new W 32 #[.slice none 0 0, .slice none 0 0, .slice none 0 0, .slice none 0 0])
  have HB := hide (show Below W.heap.size W (W.alloc (.cells #[.slice none 0 0, .slice none 0 0, .slice none 0 0, .slice none 0 0] 32)) from (Below.refl _ _).alloc (Nat.le_refl _) _)
  have f0 := R.out.frozen 0
  have f1 := R.out.frozen 1
  have f2 := R.out.frozen 2
  have f3 := R.out.frozen 3
  obtain ⟨x0, x1, x2, x3⟩ := row4 R.out
  have xl := R.out.lt
  by_cases h1 : g < 1
  · have hd : decide (g < 1) = true := by simpa using h1
    go_enter Try.func8, Try.ntmps8
    clear h h1
    go_wp2_with fail
    refine bodyPost_ret (v := .tuple #[.agg #[.slice none 0 0, .slice none 0 0, .slice none 0 0, .slice none 0 0], .int .i64 2]) (by simp [results, Try.results8, go_sem, x0, x1, x2, x3, xl]) rfl ?_
    exact ⟨⟨_, rfl, monOut_zero _⟩, HB.out⟩
  · have hd : decide (g < 1) = false := by simpa using h1
    have hd2 : decide (g > 8) = true := by simp; omega
    have hd3 : decide (8 < g) = true := by simp; omega
    go_enter Try.func8, Try.ntmps8
    clear h h1
    go_wp2_with fail
    refine bodyPost_ret (v := .tuple #[.agg #[.slice none 0 0, .slice none 0 0, .slice none 0 0, .slice none 0 0], .int .i64 2]) (by simp [results, Try.results8, go_sem, x0, x1, x2, x3, xl]) rfl ?_
    exact ⟨⟨_, rfl, monOut_zero _⟩, HB.out⟩
set_option maxRecDepth 20000 in
set_option maxHeartbeats 1000000 in
theorem New_not (g : Nat) (n : Int) (W : World) (h1 : 1 ≤ g) (h8 : g ≤ 8) (hn : ¬ (2 ≤ n ∧ n ≤ 128)) : Calls Try.prog 8 #[.int .i64 (g : Int), .int .i64 n] W (NewOut (.error 2) W) := by
  have R := hide (RowAt.new W 32 #[.slice none 0 0, .slice none 0 0, .slice none 0 0, .slice none 0 0])
  have HB := hide (show Below W.heap.size W (W.alloc (.cells #[.slice none 0 0, .slice none 0 0, .slice none 0 0, .slice none 0 0] 32)) from (Below.refl _ _).alloc (Nat.le_refl _) _)
  have hd1 : decide ((g : Int) < 1) = false := by simp; omega
  have hd2 : decide (8 < (g : Int)) = false := by simp; omega
  have HC := hide (fun w => new_no n w hn)
  clear hn
  go_enter Try.func8, Try.ntmps8
  go_wp2_with fail
  generalize W.alloc (.cells #[.slice none 0 0, .slice none 0 0, .slice none 0 0, .slice none 0 0] 32) = w1 at *
  with_reducible refine (HC.out w1).mono ?_
  rintro e w2 ⟨rfl, hb⟩
  have R := hide (R.out.below hb)
  have HB := hide (HB.out.trans (hb.mono HB.out.size))
  clear hb HC
  go_upto_region 4 with (refine wpList_store_new rfl 27 _ _ rfl _ #[.slice none 0 0] w2.heap.size rfl rfl rfl (by kernel_rfl) rfl (by simp [Value.oneCell']) ?_)
  have hbx : Below w2.heap.size w2 (w2.alloc (.cells #[.slice none 0 0] 27)) := (Below.refl _ _).alloc (Nat.le_refl _) _
  have R := hide (R.out.below hbx)
  have HB := hide (HB.out.trans (hbx.mono HB.out.size))
  clear hbx
  generalize w2.alloc (.cells #[.slice none 0 0] 27) = w3 at *
  have f0 := R.out.frozen 0
  have f1 := R.out.frozen 1
  have f2 := R.out.frozen 2
  have f3 := R.out.frozen 3
  obtain ⟨x0, x1, x2, x3⟩ := row4 R.out
  have xl := R.out.lt
  go_wp2_with fail
  have HL := laidM4_of (n := W.heap.size) (v0 := .slice none 0 0) (v1 := .slice none 0 0) (v2 := .slice none 0 0) (v3 := .slice none 0 0) R.out (Nat.le_refl _)
  generalize (((w3.setCell ⟨W.heap.size, 0, none⟩ (.slice none 0 0)).setCell ⟨W.heap.size, 1, none⟩ (.slice none 0 0)).setCell ⟨W.heap.size, 2, none⟩ (.slice none 0 0)).setCell ⟨W.heap.size, 3, none⟩ (.slice none 0 0) = w9 at *
  obtain ⟨p0, p1, p2, p3⟩ := row4 HL.1
  have cl := HL.1.lt
  refine bodyPost_ret (v := .tuple #[.agg #[.slice none 0 0, .slice none 0 0, .slice none 0 0, .slice none 0 0], .int .i64 2]) (by simp [results, Try.results8, go_sem, p0, p1, p2, p3, cl]) rfl ?_
  exact ⟨⟨_, rfl, monOut_zero _⟩, HB.out.trans HL.2.2⟩
set_option maxRecDepth 20000 in
set_option maxHeartbeats 1000000 in
theorem New_yes (g n : Nat) (W : World) (h1 : 1 ≤ g) (h8 : g ≤ 8) (hn2 : 2 ≤ n) (hn : n ≤ 128) : Calls Try.prog 8 #[.int .i64 (g : Int), .int .i64 (n : Int)] W (NewOut (.ok (newM g n, [])) W) := by
  obtain ⟨i0, hi0, hz0, hz1, hz2⟩ := info_parts elB.info
  have hmkB := fun w => run_make_rowN (P := Try.prog) 28 4 i0 _ Try.underlying28 hi0 hz0 .i64 .i64 g g (Nat.le_refl _) (by rw [hz2]; omega) (by omega) w
  rw [hz1] at hmkB
  replace hmkB : ∀ w, (Instr.makeSlice 28 (.int .i64 (g : Int)) (.int .i64 (g : Int))).run Try.prog w = .ok (.slice (some ⟨w.heap.size, 0, none⟩) g g) (w.alloc (.cells (madeCells #[.bool false] (g * 1)) 4)) := hmkB
  rw [show madeCells #[.bool false] (g * 1) = (Cs encB (List.replicate g false)).toArray from by rw [encB_rep]; exact made_rep g _] at hmkB
  obtain ⟨i1, hi1, hy0, hy1, hy2⟩ := info_parts elH.info
  have hmkH := fun w => run_make_rowN (P := Try.prog) 29 54 i1 _ Try.underlying29 hi1 hy0 .i64 .i64 g g (Nat.le_refl _) (by rw [hy2]; omega) (by omega) w
  rw [hy1] at hmkH
  replace hmkH : ∀ w, (Instr.makeSlice 29 (.int .i64 (g : Int)) (.int .i64 (g : Int))).run Try.prog w = .ok (.slice (some ⟨w.heap.size, 0, none⟩) g g) (w.alloc (.cells (madeCells #[.slice none 0 0] (g * 1)) 54)) := hmkH
  rw [show madeCells #[.slice none 0 0] (g * 1) = (Cs encH (List.replicate g hmZ)).toArray from by rw [encH_rep]; exact made_rep g _] at hmkH
  have R := hide (RowAt.new W 32 #[.slice none 0 0, .slice none 0 0, .slice none 0 0, .slice none 0 0])
  have HB := hide (show Below W.heap.size W (W.alloc (.cells #[.slice none 0 0, .slice none 0 0, .slice none 0 0, .slice none 0 0] 32)) from (Below.refl _ _).alloc (Nat.le_refl _) _)
  have hd1 : decide ((g : Int) < 1) = false := by simp; omega
  have hd2 : decide (8 < (g : Int)) = false := by simp; omega
  have HC := hide (fun w => new_yes n w hn2 hn)
  have H8 := hide h8
  have HN := hide hn
  have HNP := hide (show 0 < n from by omega)
  clear hi0 hz0 hz1 hz2 hi1 hy0 hy1 hy2 hn hn2 h1 h8
  obtain ⟨MB, hMB⟩ : ∃ M, (Cs encB (List.replicate g false)).toArray = M := ⟨_, rfl⟩
  obtain ⟨MH, hMH⟩ : ∃ M, (Cs encH (List.replicate g hmZ)).toArray = M := ⟨_, rfl⟩
  rw [hMB] at hmkB
  rw [hMH] at hmkH
  have HMB := hide hMB
  have HMH := hide hMH
  clear hMB hMH
  go_enter Try.func8, Try.ntmps8
  go_wp2_with fail
  generalize W.alloc (.cells #[.slice none 0 0, .slice none 0 0, .slice none 0 0, .slice none 0 0] 32) = w1 at *
  with_reducible refine (HC.out w1).mono ?_
  rintro e w2 ⟨A, c, rfl, hc1, hc2, hrd, hb⟩
  have R := hide (R.out.below hb)
  have HB := hide (HB.out.trans (hb.mono HB.out.size))
  have HRD := hide hrd
  clear hb HC hrd hc1 hc2
  go_upto_region 4 with (refine wpList_store_new rfl 27 _ _ rfl _ #[.slice A n c] w2.heap.size rfl rfl rfl (by kernel_rfl) rfl (by simp [Value.oneCell']) ?_)
  have hbx : Below w2.heap.size w2 (w2.alloc (.cells #[.slice A n c] 27)) := (Below.refl _ _).alloc (Nat.le_refl _) _
  have R := hide (R.out.below hbx)
  have HB := hide (HB.out.trans (hbx.mono HB.out.size))
  have HRD3 := hide ((HRD.out.below hbx).more hbx.size)
  have RA := hide (RowAt.new w2 27 #[.slice A n c])
  clear hbx
  generalize w2.alloc (.cells #[.slice A n c] 27) = w3 at *
  generalize w2.heap.size = ga at *
  have q0 := row1 RA.out
  have ql := RA.out.lt
  have b1 : Below w3.heap.size w3 (w3.alloc (.cells MB 4)) := (Below.refl _ _).alloc (Nat.le_refl _) _
  have b2 : Below (w3.alloc (.cells MB 4)).heap.size (w3.alloc (.cells MB 4)) ((w3.alloc (.cells MB 4)).alloc (.cells MH 54)) := (Below.refl _ _).alloc (Nat.le_refl _) _
  have f0 := R.out.frozen 0
  have f1 := R.out.frozen 1
  have f2 := R.out.frozen 2
  have f3 := R.out.frozen 3
  obtain ⟨x0, x1, x2, x3⟩ := row4 R.out
  have xl := R.out.lt
  clear b1 b2
  go_upto_region 6 with (fail)
  go_region
  · have HFN := hide (show RowAt ((((((w3.setCell ⟨W.heap.size, 0, none⟩ (.slice A n c)).setCell ⟨W.heap.size, 1, none⟩ (.slice (some ⟨w3.heap.size, 0, none⟩) g g)).setCell ⟨W.heap.size, 2, none⟩ (.slice (some ⟨w3.heap.size + 1, 0, none⟩) g g)).setCell ⟨W.heap.size, 3, none⟩ (.slice none 0 0)).alloc (.cells MB 4)).alloc (.cells MH 54)).drew W.heap.size 32 #[.slice A n c, .slice (some ⟨w3.heap.size, 0, none⟩) g g, .slice (some ⟨w3.heap.size + 1, 0, none⟩) g g, .slice none 0 0] ∧ Below W.heap.size W ((((((w3.setCell ⟨W.heap.size, 0, none⟩ (.slice A n c)).setCell ⟨W.heap.size, 1, none⟩ (.slice (some ⟨w3.heap.size, 0, none⟩) g g)).setCell ⟨W.heap.size, 2, none⟩ (.slice (some ⟨w3.heap.size + 1, 0, none⟩) g g)).setCell ⟨W.heap.size, 3, none⟩ (.slice none 0 0)).alloc (.cells MB 4)).alloc (.cells MH 54)).drew ∧ MonOut 0 ((((((w3.setCell ⟨W.heap.size, 0, none⟩ (.slice A n c)).setCell ⟨W.heap.size, 1, none⟩ (.slice (some ⟨w3.heap.size, 0, none⟩) g g)).setCell ⟨W.heap.size, 2, none⟩ (.slice (some ⟨w3.heap.size + 1, 0, none⟩) g g)).setCell ⟨W.heap.size, 3, none⟩ (.slice none 0 0)).alloc (.cells MB 4)).alloc (.cells MH 54)).drew (.agg #[.slice A n c, .slice (some ⟨w3.heap.size, 0, none⟩) g g, .slice (some ⟨w3.heap.size + 1, 0, none⟩) g g, .slice none 0 0]) (newM g n) from by
      have hs4 : ((((w3.setCell ⟨W.heap.size, 0, none⟩ (.slice A n c)).setCell ⟨W.heap.size, 1, none⟩ (.slice (some ⟨w3.heap.size, 0, none⟩) g g)).setCell ⟨W.heap.size, 2, none⟩ (.slice (some ⟨w3.heap.size + 1, 0, none⟩) g g)).setCell ⟨W.heap.size, 3, none⟩ (.slice none 0 0)).heap.size = w3.heap.size := by simp
      have hn0 := HNP.out
      generalize hw4 : ((((w3.setCell ⟨W.heap.size, 0, none⟩ (.slice A n c)).setCell ⟨W.heap.size, 1, none⟩ (.slice (some ⟨w3.heap.size, 0, none⟩) g g)).setCell ⟨W.heap.size, 2, none⟩ (.slice (some ⟨w3.heap.size + 1, 0, none⟩) g g)).setCell ⟨W.heap.size, 3, none⟩ (.slice none 0 0)) = w4 at *
      have r1 : RowAt (w4.alloc (.cells MB 4)) w3.heap.size 4 MB := by have h := RowAt.new w4 4 MB; rw [hs4] at h; exact h
      have r2 : RowAt ((w4.alloc (.cells MB 4)).alloc (.cells MH 54)) (w3.heap.size + 1) 54 MH := by have h := RowAt.new (w4.alloc (.cells MB 4)) 54 MH; rw [World.size_alloc, hs4] at h; exact h
      have r1' := (r1.below ((Below.refl _ _).alloc (Nat.le_refl _) (.cells MH 54))).drew
      have r2' := r2.drew
      refine new_fin hn0 R.out HB.out HRD3.out ?_ (gb := w3.heap.size) (gh := w3.heap.size + 1) ?_ ?_
      · rw [hw4, ← hs4]; exact (((Below.refl w4.heap.size w4).alloc (Nat.le_refl _) _).alloc (by simp) _).drew
      · rw [HMB.out]; exact r1'
      · rw [HMH.out]; exact r2')
    generalize ((((((w3.setCell ⟨W.heap.size, 0, none⟩ (.slice A n c)).setCell ⟨W.heap.size, 1, none⟩ (.slice (some ⟨w3.heap.size, 0, none⟩) g g)).setCell ⟨W.heap.size, 2, none⟩ (.slice (some ⟨w3.heap.size + 1, 0, none⟩) g g)).setCell ⟨W.heap.size, 3, none⟩ (.slice none 0 0)).alloc (.cells MB 4)).alloc (.cells MH 54)).drew = w9 at *
    clear f0 f1 f2 f3 x0 x1 x2 x3 xl q0 ql
    go_wp2_with fail
    obtain ⟨p0, p1, p2, p3⟩ := row4 HFN.out.1
    have cl := HFN.out.1.lt
    refine bodyPost_ret (v := .tuple #[.agg #[.slice A n c, .slice (some ⟨w3.heap.size, 0, none⟩) g g, .slice (some ⟨w3.heap.size + 1, 0, none⟩) g g, .slice none 0 0], .int .i64 0]) (by simp [results, Try.results8, go_sem, p0, p1, p2, p3, cl]) rfl ?_
    exact ⟨⟨_, rfl, HFN.out.2.2⟩, HFN.out.2.1⟩
  · have HFN := hide (show RowAt ((((((w3.setCell ⟨W.heap.size, 0, none⟩ (.slice A n c)).setCell ⟨W.heap.size, 1, none⟩ (.slice (some ⟨w3.heap.size + 1, 0, none⟩) g g)).setCell ⟨W.heap.size, 2, none⟩ (.slice (some ⟨w3.heap.size, 0, none⟩) g g)).setCell ⟨W.heap.size, 3, none⟩ (.slice none 0 0)).alloc (.cells MH 54)).alloc (.cells MB 4)).drew W.heap.size 32 #[.slice A n c, .slice (some ⟨w3.heap.size + 1, 0, none⟩) g g, .slice (some ⟨w3.heap.size, 0, none⟩) g g, .slice none 0 0] ∧ Below W.heap.size W ((((((w3.setCell ⟨W.heap.size, 0, none⟩ (.slice A n c)).setCell ⟨W.heap.size, 1, none⟩ (.slice (some ⟨w3.heap.size + 1, 0, none⟩) g g)).setCell ⟨W.heap.size, 2, none⟩ (.slice (some ⟨w3.heap.size, 0, none⟩) g g)).setCell ⟨W.heap.size, 3, none⟩ (.slice none 0 0)).alloc (.cells MH 54)).alloc (.cells MB 4)).drew ∧ MonOut 0 ((((((w3.setCell ⟨W.heap.size, 0, none⟩ (.slice A n c)).setCell ⟨W.heap.size, 1, none⟩ (.slice (some ⟨w3.heap.size + 1, 0, none⟩) g g)).setCell ⟨W.heap.size, 2, none⟩ (.slice (some ⟨w3.heap.size, 0, none⟩) g g)).setCell ⟨W.heap.size, 3, none⟩ (.slice none 0 0)).alloc (.cells MH 54)).alloc (.cells MB 4)).drew (.agg #[.slice A n c, .slice (some ⟨w3.heap.size + 1, 0, none⟩) g g, .slice (some ⟨w3.heap.size, 0, none⟩) g g, .slice none 0 0]) (newM g n) from by
      have hs4 : ((((w3.setCell ⟨W.heap.size, 0, none⟩ (.slice A n c)).setCell ⟨W.heap.size, 1, none⟩ (.slice (some ⟨w3.heap.size + 1, 0, none⟩) g g)).setCell ⟨W.heap.size, 2, none⟩ (.slice (some ⟨w3.heap.size, 0, none⟩) g g)).setCell ⟨W.heap.size, 3, none⟩ (.slice none 0 0)).heap.size = w3.heap.size := by simp
      have hn0 := HNP.out
      generalize hw4 : ((((w3.setCell ⟨W.heap.size, 0, none⟩ (.slice A n c)).setCell ⟨W.heap.size, 1, none⟩ (.slice (some ⟨w3.heap.size + 1, 0, none⟩) g g)).setCell ⟨W.heap.size, 2, none⟩ (.slice (some ⟨w3.heap.size, 0, none⟩) g g)).setCell ⟨W.heap.size, 3, none⟩ (.slice none 0 0)) = w4 at *
      have r1 : RowAt (w4.alloc (.cells MH 54)) w3.heap.size 54 MH := by have h := RowAt.new w4 54 MH; rw [hs4] at h; exact h
      have r2 : RowAt ((w4.alloc (.cells MH 54)).alloc (.cells MB 4)) (w3.heap.size + 1) 4 MB := by have h := RowAt.new (w4.alloc (.cells MH 54)) 4 MB; rw [World.size_alloc, hs4] at h; exact h
      have r1' := (r1.below ((Below.refl _ _).alloc (Nat.le_refl _) (.cells MB 4))).drew
      have r2' := r2.drew
      refine new_fin hn0 R.out HB.out HRD3.out ?_ (gb := w3.heap.size + 1) (gh := w3.heap.size) ?_ ?_
      · rw [hw4, ← hs4]; exact (((Below.refl w4.heap.size w4).alloc (Nat.le_refl _) _).alloc (by simp) _).drew
      · rw [HMB.out]; exact r2'
      · rw [HMH.out]; exact r1')
    generalize ((((((w3.setCell ⟨W.heap.size, 0, none⟩ (.slice A n c)).setCell ⟨W.heap.size, 1, none⟩ (.slice (some ⟨w3.heap.size + 1, 0, none⟩) g g)).setCell ⟨W.heap.size, 2, none⟩ (.slice (some ⟨w3.heap.size, 0, none⟩) g g)).setCell ⟨W.heap.size, 3, none⟩ (.slice none 0 0)).alloc (.cells MH 54)).alloc (.cells MB 4)).drew = w9 at *
    clear f0 f1 f2 f3 x0 x1 x2 x3 xl q0 ql
    go_wp2_with fail
    obtain ⟨p0, p1, p2, p3⟩ := row4 HFN.out.1
    have cl := HFN.out.1.lt
    refine bodyPost_ret (v := .tuple #[.agg #[.slice A n c, .slice (some ⟨w3.heap.size + 1, 0, none⟩) g g, .slice (some ⟨w3.heap.size, 0, none⟩) g g, .slice none 0 0], .int .i64 0]) (by simp [results, Try.results8, go_sem, p0, p1, p2, p3, cl]) rfl ?_
    exact ⟨⟨_, rfl, HFN.out.2.2⟩, HFN.out.2.1⟩
theorem New_any (g n : Int) (W : World) : Calls Try.prog 8 #[.int .i64 g, .int .i64 n] W (NewOut (NewM g n) W) := by
  by_cases hg : 1 ≤ g ∧ g ≤ 8
  · obtain ⟨gg, rfl⟩ := Int.eq_ofNat_of_zero_le (show 0 ≤ g by omega)
    by_cases hn : 2 ≤ n ∧ n ≤ 128
    · obtain ⟨nn, rfl⟩ := Int.eq_ofNat_of_zero_le (show 0 ≤ n by omega)
      rw [show NewM (gg : Int) (nn : Int) = .ok (newM gg nn, []) from by unfold NewM; rw [if_pos ⟨hg, hn⟩]; rfl]
      exact New_yes gg nn W (by omega) (by omega) (by omega) (by omega)
    · rw [show NewM (gg : Int) n = .error 2 from by unfold NewM; rw [if_neg (fun h => hn h.2)]]
      exact New_not gg n W (by omega) (by omega) hn
  · rw [show NewM g n = .error 2 from by unfold NewM; rw [if_neg (fun h => hg h.1)]]
    exact New_no g n W hg
end Go.Proofs.Ytfpbabafeecncaa
