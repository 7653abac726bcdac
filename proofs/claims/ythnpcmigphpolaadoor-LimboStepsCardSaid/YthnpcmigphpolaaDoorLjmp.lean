/-
  Limbos cut short, in plain Lean; what comes of a round of LimboSteps; the contracts in forms for its walk.
-/
import Derived.Test.YthnpcmigphpolaaDoorLjp
import Derived.Test.YthnpcmigphpolaaDoorLjq
set_option linter.unusedSimpArgs false
set_option linter.unusedVariables false
namespace Go.Proofs.YthnpcmigphpolaaDoor
open Go Go.RowKit

def Short (l : Lim) : Prop := ∀ k, (l.r k).length ≤ 12
theorem short_cut (l : Lim) : Short l.cut := fun k => by unfold Lim.cut; rw [List.length_take]; omega
theorem cut_short {l : Lim} (h : Short l) : l.cut = l := by
  obtain ⟨E, r⟩ := l
  unfold Lim.cut
  congr 1
  funext k
  exact List.take_of_length_le (h k)
theorem okP_sub {E : Nat} {a b : List (Nat × Ent)} (hs : a.Sublist b) (h : okP E b [] = true) : okP E a [] = true :=
  okP_of (fun p hp => by
    obtain ⟨h1, h2, _⟩ := okP_mem h p (hs.subset hp)
    exact ⟨h1, h2, by simp⟩) ((hs.map _).nodup (okP_nodup h))
theorem each_cut_sub (l : Lim) : l.cut.each.Sublist l.each := by
  unfold Lim.each tag
  exact (((List.take_sublist 12 (l.at 2)).map _).append (((List.take_sublist 12 (l.at 1)).map _).append ((List.take_sublist 12 (l.at 0)).map _)))
theorem ok_cut {l : Lim} (h : l.ok = true) : l.cut.ok = true := ok_mk (ok_out h).1 (okP_sub (each_cut_sub l) (ok_out h).2)
/-- What the law goes on with. -/
def nxt (l : Lim) (s : Ent) : Lim := if 0 ≤ s.1 then (match retR l s with | .ok a => a.cut | .error _ => l) else match takR l with | .ok x => x.1.cut | .error _ => match advR l with | .ok b => b.cut | .error _ => l
structure StInv (right : Bool) (l : Lim) : Prop where
  short : Short l
  ok : l.ok = right
  gen : GenOk l
  E : l.E < 18446744073709551616
theorem StInv.cut {l : Lim} (ho : l.ok = true) (hg : GenOk l) : StInv true l.cut :=
  ⟨short_cut l, ok_cut ho, gen_cut hg, by have := (ok_out ho).1; unfold LAST at this; show l.E < 18446744073709551616; omega⟩
theorem StInv.next {right : Bool} {l : Lim} (h : StInv right l) {s : Ent} (hs : 0 ≤ s.2 ∧ s.2 < 18446744073709551616) : StInv right (nxt l s) := by
  cases right with
  | false =>
    have : nxt l s = l := by unfold nxt retR takR advR; rw [h.ok]; simp
    rw [this]; exact h
  | true =>
    unfold nxt retR takR advR
    rw [h.ok]
    simp only [if_true]
    by_cases h0 : 0 ≤ s.1
    · rw [if_pos h0]
      cases hr : doRet l s with
      | error k => exact h
      | ok a => exact StInv.cut (ok_ret h.ok hr) (gen_ret h.gen hs hr)
    · rw [if_neg h0]
      cases hr : doTake l with
      | ok x => exact StInv.cut (ok_take (e := x.2) h.ok hr) (gen_take (x := x.2) h.gen hr).1
      | error k =>
        cases ha : doAdv l with
        | ok b => exact StInv.cut (ok_adv h.ok ha) (gen_adv h.gen ha)
        | error k => exact h
/-- A limbo that the law has got from the program. -/
structure Gl (w : World) (lo : Nat) (l : Lim) (A : Nat → Option Addr) (n c : Nat → Nat) : Prop where
  rd : LimRd w w.heap.size A n l.r
  gen : Gen3 w lo w.heap.size A n
  cap : CapL n c
  len : ∀ k, k < 3 → n k ≤ 4096
theorem Gl.zero (w : World) (lo : Nat) : Gl w lo lim0 (fun _ => none) (fun _ => 0) (fun _ => 0) := ⟨zero_rd w _, Gen3.zero _ _ _, CapL.zero, fun _ _ => Nat.zero_le _⟩
theorem Gl.of_own {w : World} {lo : Nat} {l : Lim} {A : Nat → Option Addr} {n c : Nat → Nat} (h : LimOwn w lo A n c l.r) (hl : ∀ k, k < 3 → (l.r k).length ≤ 4096) : Gl w lo l A n c :=
  ⟨h.rd, Gen3.of_own h, fun k hk => by
    obtain ⟨A1, c1, e, h1, h2⟩ := (h.own k hk).form
    injection e with e1 e2 e3
    subst e3
    omega, fun k hk => by rw [← h.len k hk]; exact hl k hk⟩
theorem row_len' {l : Lim} (h : l.ok = true) {k : Nat} (hk : k < 3) : (l.r k).length ≤ 4096 := by have := row_len h hk; omega
def OutU (W : World) (r : Except Int Lim) (e : Ending) (W' : World) : Prop := ∃ A n c, e = .returned (.tuple #[.agg (limC (valL r).E A n c), .int .i64 (errL r)]) ∧ Gl W' W.heap.size (valL r) A n c ∧ Below W.heap.size W W'
theorem out_u {W W' : World} {r : Except Int Lim} {e : Ending} (h : OutRes W r e W') (ho : ∀ l', r = .ok l' → l'.ok = true) : OutU W r e W' := by
  obtain ⟨hb, ⟨l', A', n', c', rfl, rfl, hl⟩ | ⟨k, rfl, rfl⟩⟩ := h
  · exact ⟨A', n', c', rfl, Gl.of_own hl (fun k hk => row_len' (ho l' rfl) hk), hb⟩
  · exact ⟨fun _ => none, fun _ => 0, fun _ => 0, rfl, Gl.zero _ _, hb⟩
def OutUT (W : World) (r : Except Int (Lim × Ent)) (e : Ending) (W' : World) : Prop := ∃ A n c, e = .returned (.tuple #[.agg (limC (valT r).E A n c), .agg #[.int .i64 (entT r).1, .int .u64 (entT r).2], .int .i64 (errL r)]) ∧ Gl W' W.heap.size (valT r) A n c ∧ Below W.heap.size W W'
theorem out_ut {W W' : World} {r : Except Int (Lim × Ent)} {e : Ending} (h : OutResT W r e W') (ho : ∀ x, r = .ok x → x.1.ok = true) : OutUT W r e W' := by
  obtain ⟨hb, ⟨l', x, A', n', c', rfl, rfl, hl⟩ | ⟨k, rfl, rfl⟩⟩ := h
  · exact ⟨A', n', c', rfl, Gl.of_own hl (fun k hk => row_len' (ho (l', x) rfl) hk), hb⟩
  · exact ⟨fun _ => none, fun _ => 0, fun _ => 0, rfl, Gl.zero _ _, hb⟩
theorem ret_ok_ok {l l' : Lim} {s : Ent} (h : retR l s = .ok l') : l'.ok = true := by
  unfold retR at h
  split at h
  · exact ok_ret (by assumption) h
  · cases h
theorem adv_ok_ok {l l' : Lim} (h : advR l = .ok l') : l'.ok = true := by
  unfold advR at h
  split at h
  · exact ok_adv (by assumption) h
  · cases h
theorem tak_ok_ok {l : Lim} {x : Lim × Ent} (h : takR l = .ok x) : x.1.ok = true := by
  unfold takR at h
  split at h
  · exact ok_take (l' := x.1) (e := x.2) (by assumption) h
  · cases h
theorem RetireU {l : Lim} {A : Nat → Option Addr} {n c : Nat → Nat} (s g : Int) (W : World) (B : Nat) (h : LimRd W B A n l.r) (hB : B ≤ W.heap.size) (hi : l.E < 18446744073709551616) (hg : GenOk l) (hm : ∀ k, k < 3 → n k ≤ 4096) (hge : 0 ≤ g ∧ g < 18446744073709551616) :
    Calls Tryd.prog 15 #[.agg (limC l.E A n c), .agg #[.int .i64 s, .int .u64 g]] W (OutU W (retR l (s, g))) :=
  (Retire_any B A n c l s g W h hi hB hm hg hge).mono (fun e W' h => out_u h (fun l' hl => ret_ok_ok hl))
theorem AdvanceU {l : Lim} {A : Nat → Option Addr} {n c : Nat → Nat} (W : World) (B : Nat) (h : LimRd W B A n l.r) (hB : B ≤ W.heap.size) (hi : l.E < 18446744073709551616) (hg : GenOk l) (hm : ∀ k, k < 3 → n k ≤ 4096) :
    Calls Tryd.prog 16 #[.agg (limC l.E A n c)] W (OutU W (advR l)) :=
  (Advance_any B A n c l W h hi hB hm hg).mono (fun e W' h => out_u h (fun l' hl => adv_ok_ok hl))
theorem TakeU {l : Lim} {A : Nat → Option Addr} {n c : Nat → Nat} (W : World) (B : Nat) (h : LimRd W B A n l.r) (hB : B ≤ W.heap.size) (hi : l.E < 18446744073709551616) (hg : GenOk l) (hm : ∀ k, k < 3 → n k ≤ 4096) :
    Calls Tryd.prog 17 #[.agg (limC l.E A n c)] W (OutUT W (takR l)) :=
  (Take_any B A n c l W h hi hB hm hg).mono (fun e W' h => out_ut h (fun x hl => tak_ok_ok hl))
/-- A limbo of the law's own. -/
structure Ol (w : World) (lo B : Nat) (l : Lim) (A : Nat → Option Addr) (n c : Nat → Nat) : Prop where
  rd : LimRd w B A n l.r
  lo : ∀ k p, k < 3 → A k = some p → lo ≤ p.block ∧ p.block < B
  cap : CapL n c
  len : ∀ k, k < 3 → n k ≤ 4096
def OwnU (W : World) (l : Lim) (e : Ending) (W' : World) : Prop := ∃ A n c, e = .returned (.agg (limC l.E A n c)) ∧ Ol W' W.heap.size W'.heap.size l A n c ∧ Below W.heap.size W W'
theorem OwnUC {B : Nat} {A : Nat → Option Addr} {n c : Nat → Nat} {l : Lim} (W : World) (h : LimRd W B A n l.r) (hB : B ≤ W.heap.size) (hc : CapL n c) : Calls Tryd.prog 8 #[.agg (limC l.E A n c)] W (OwnU W l.cut) :=
  (own_any B A n c l W h hB hc).mono (fun e W' ⟨A', c', he, ho, hb⟩ => ⟨A', cutN l, c', he, ⟨ho.rd, fun k p hk hp => (ho.own k hk).fresh hp, fun k hk => by
    obtain ⟨A1, c1, e, h1, h2⟩ := (ho.own k hk).form
    injection e with e1 e2 e3
    subst e3
    omega, fun k hk => by have := cutN_le l k; omega⟩, hb⟩)
theorem doStep_ok {l : Lim} {s : Ent} {x : Lim × List Ent} (ho : l.ok = true) (h : doStep l s = .ok x) : x.1.ok = true ∧ x.2.length ≤ 128 := by
  unfold doStep at h
  split at h
  · cases hr : doRet l s with
    | error k => rw [hr] at h; cases h
    | ok a => rw [hr] at h; injection h with h; subst h; exact ⟨ok_ret ho hr, Nat.zero_le _⟩
  · cases hr : doAdv (drain l) with
    | error k => rw [hr] at h; cases h
    | ok a => rw [hr] at h; injection h with h; subst h; exact ⟨ok_adv (ok_drain ho) hr, at_len ho 2⟩
theorem doRun_keeps : ∀ (st : List Ent) (l : Lim) (t : List Ent) (x : Lim × List Ent), l.ok = true → doRun l st t = .ok x → x.1.ok = true ∧ x.2.length ≤ t.length + 128 * st.length
  | [], l, t, x, ho, h => by rw [doRun] at h; injection h with h; subst h; exact ⟨ho, by simp⟩
  | s :: st, l, t, x, ho, h => by
    rw [doRun] at h
    cases hr : doStep l s with
    | error k => rw [hr] at h; cases h
    | ok y =>
      rw [hr] at h
      obtain ⟨l', tk⟩ := y
      obtain ⟨h1, h2⟩ := doStep_ok ho hr
      obtain ⟨h3, h4⟩ := doRun_keeps st l' (t ++ tk) x h1 h
      refine ⟨h3, ?_⟩
      rw [List.length_append] at h4
      simp only [List.length_cons]
      have h2' : tk.length ≤ 128 := h2
      omega
theorem runR_keeps {st : List Ent} {l : Lim} (h20 : st.length ≤ 20) : (∀ k, k < 3 → ((valR (runR l st)).r k).length ≤ 4096) ∧ (tookR (runR l st)).length ≤ 4096 := by
  cases hr : runR l st with
  | error k => exact ⟨fun _ _ => Nat.zero_le _, Nat.zero_le _⟩
  | ok x =>
    unfold runR at hr
    split at hr
    · rename_i ho
      obtain ⟨h1, h2⟩ := doRun_keeps st l [] x ho hr
      refine ⟨fun k hk => ?_, ?_⟩
      · have := row_len h1 hk
        show (x.1.r k).length ≤ 4096
        omega
      · show x.2.length ≤ 4096
        simp only [List.length_nil] at h2
        omega
    · cases hr
theorem run_u {W W' : World} {r : Except Int (Lim × List Ent)} {e : Ending} (h : OutResR W r e W') : RunRef W r e W' := by
  obtain ⟨hb, ⟨l', took, v, A', n', c', rfl, rfl, hl, ho⟩ | ⟨k, rfl, rfl⟩⟩ := h
  · obtain ⟨At, ct, rfl, _⟩ := ho.form
    exact ⟨A', n', c', At, ct, rfl, hl.rd, ho.rd, hb⟩
  · exact runRef_err rfl hb
theorem RunU (B : Nat) (A : Nat → Option Addr) (n c : Nat → Nat) (l : Lim) (m cs : Nat) (As : Option Addr) (steps : List Ent) (W : World) (h : LimRd W B A n l.r) (hE : l.E < 18446744073709551616) (hB : B ≤ W.heap.size) (hm : ∀ k, k < 3 → n k ≤ 4096)
    (hg : GenOk l) (hrs : Rd W B 2 As m (Cs encE steps)) (hx : steps.length = m) (hm2 : m ≤ 4096) (hgs : ∀ e ∈ steps, 0 ≤ e.2 ∧ e.2 < 18446744073709551616) :
    Calls Tryd.prog 10 #[.agg (limC l.E A n c), .slice As m cs] W (RunRef W (runR l steps)) :=
  (Run_any B A n c l m cs As steps W h hE hB hm hg hrs hx hm2 hgs).mono (fun e W' h => run_u h)
/-! What the law carries along. -/
structure Lb (w : World) (T : Nat) (l : Lim) (A : Nat → Option Addr) (n : Nat → Nat) : Prop where
  rd : LimRd w T A n l.r
  le : T ≤ w.heap.size
theorem Lb.later {w w' : World} {T : Nat} {l : Lim} {A : Nat → Option Addr} {n : Nat → Nat} (h : Lb w T l A n) (hb : Below w.heap.size w w') : Lb w' T l A n := ⟨h.rd.below (hb.mono h.le), Nat.le_trans h.le hb.size⟩
theorem Lb.betw {w w' : World} {T lo hi : Nat} {l : Lim} {A : Nat → Option Addr} {n : Nat → Nat} (h : Lb w T l A n) (hb : Betw lo hi w w') (hT : T ≤ lo) : Lb w' T l A n :=
  ⟨h.rd.keep (fun j hj => hb.block j (.inl (by omega)) (by have := h.le; omega)), Nat.le_trans h.le hb.size⟩
theorem Lb.laid {w w' : World} {T g : Nat} {l : Lim} {A : Nat → Option Addr} {n : Nat → Nat} {C : Array Value} (h : Lb w T l A n) (hl : LaidL g w C w') (hT : T ≤ g) : Lb w' T l A n :=
  ⟨h.rd.keep (fun j hj => hl.block j (by omega)), Nat.le_trans h.le hl.below.size⟩
theorem Lb.top {w : World} {T : Nat} {l : Lim} {A : Nat → Option Addr} {n : Nat → Nat} (h : Lb w T l A n) : LimRd w w.heap.size A n l.r := h.rd.more h.le
structure Gb (w : World) (lo hi : Nat) (A : Nat → Option Addr) (n : Nat → Nat) : Prop where
  gen : Gen3 w lo hi A n
  le : hi ≤ w.heap.size
theorem Gb.later {w w' : World} {lo hi : Nat} {A : Nat → Option Addr} {n : Nat → Nat} (h : Gb w lo hi A n) (hb : Below w.heap.size w w') : Gb w' lo hi A n := ⟨h.gen.below hb, Nat.le_trans h.le hb.size⟩
theorem Gb.betw {w w' : World} {lo hi lo2 hi2 : Nat} {A : Nat → Option Addr} {n : Nat → Nat} (h : Gb w lo hi A n) (hb : Betw lo2 hi2 w w') (hd : hi2 ≤ lo ∨ hi ≤ lo2) : Gb w' lo hi A n :=
  ⟨h.gen.keep (fun g h1 h2 h3 => hb.block g (by omega) h3), Nat.le_trans h.le hb.size⟩
theorem Gb.laid {w w' : World} {lo hi g : Nat} {A : Nat → Option Addr} {n : Nat → Nat} {C : Array Value} (h : Gb w lo hi A n) (hl : LaidL g w C w') (hg : g < lo ∨ hi ≤ g) : Gb w' lo hi A n :=
  ⟨h.gen.keep (fun j h1 h2 h3 => hl.block j (by omega)), Nat.le_trans h.le hl.below.size⟩
/-- What lies above a bound. -/
structure Nb (w : World) (lo : Nat) (l : Lim) (A : Nat → Option Addr) (n : Nat → Nat) : Prop where
  rd : LimRd w w.heap.size A n l.r
  lo : ∀ k p, k < 3 → A k = some p → lo ≤ p.block ∧ p.block < w.heap.size
theorem Nb.later {w w' : World} {lo : Nat} {l : Lim} {A : Nat → Option Addr} {n : Nat → Nat} (h : Nb w lo l A n) (hb : Below w.heap.size w w') : Nb w' lo l A n := ⟨(h.rd.below hb).more hb.size, fun k p hk hp => ⟨(h.lo k p hk hp).1, Nat.lt_of_lt_of_le (h.lo k p hk hp).2 hb.size⟩⟩
theorem Nb.betw {w w' : World} {lo lo2 hi2 : Nat} {l : Lim} {A : Nat → Option Addr} {n : Nat → Nat} (h : Nb w lo l A n) (hb : Betw lo2 hi2 w w') (hd : hi2 ≤ lo) : Nb w' lo l A n :=
  ⟨(h.rd.keepA (fun k p hk hp => hb.block _ (.inr (Nat.le_trans hd (h.lo k p hk hp).1)) (h.lo k p hk hp).2)).more hb.size, fun k p hk hp => ⟨(h.lo k p hk hp).1, Nat.lt_of_lt_of_le (h.lo k p hk hp).2 hb.size⟩⟩
theorem Nb.laid {w w' : World} {lo g : Nat} {l : Lim} {A : Nat → Option Addr} {n : Nat → Nat} {C : Array Value} (h : Nb w lo l A n) (hl : LaidL g w C w') (hg : g < lo) : Nb w' lo l A n :=
  ⟨(h.rd.keepA (fun k p hk hp => hl.block _ (by have := (h.lo k p hk hp).1; omega))).more hl.below.size, fun k p hk hp => ⟨(h.lo k p hk hp).1, Nat.lt_of_lt_of_le (h.lo k p hk hp).2 hl.below.size⟩⟩
theorem Nb.of_own {w : World} {lo : Nat} {l : Lim} {A : Nat → Option Addr} {n c : Nat → Nat} (h : Ol w lo w.heap.size l A n c) : Nb w lo l A n := ⟨h.rd, h.lo⟩
theorem Nb.set2 {w : World} {lo g o : Nat} {l : Lim} {A : Nat → Option Addr} {n : Nat → Nat} {v : Value} (h : Nb w lo l A n) (hg : g < lo) : Nb (w.setCell ⟨g, o, none⟩ v) lo l A n :=
  ⟨(h.rd.keepA (fun k p hk hp => heap_setCell_ne _ _ _ _ (by show p.block ≠ g; have := (h.lo k p hk hp).1; omega))).more (by simp), fun k p hk hp => ⟨(h.lo k p hk hp).1, by simpa using (h.lo k p hk hp).2⟩⟩
theorem nb_of {w : World} {K : Nat} {l : Lim} {A : Nat → Option Addr} {n : Nat → Nat} (h : LimRd w w.heap.size A n l.r) (hl : LowL (fun j => K < j) w A) : Nb w (K + 1) l A n := ⟨h, fun k p hk hp => hl k p hk hp⟩
structure Sb (w : World) (G m : Nat) (As : Option Addr) (st : List Ent) : Prop where
  rd : Rd w G 2 As m (Cs encE st)
  le : G ≤ w.heap.size
theorem Sb.later {w w' : World} {G m : Nat} {As : Option Addr} {st : List Ent} (h : Sb w G m As st) (hb : Below w.heap.size w w') : Sb w' G m As st := ⟨h.rd.below (hb.mono h.le), Nat.le_trans h.le hb.size⟩
theorem Sb.keep {w w' : World} {G m : Nat} {As : Option Addr} {st : List Ent} (h : Sb w G m As st) (hs : w.heap.size ≤ w'.heap.size) (hk : ∀ p, As = some p → p.block < G → w'.heap[p.block]? = w.heap[p.block]?) : Sb w' G m As st := by
  refine ⟨⟨h.rd.1, fun hn => ?_⟩, Nat.le_trans h.le hs⟩
  obtain ⟨b, o, e, hb, hc⟩ := h.rd.2 hn
  exact ⟨b, o, e, hb, fun j u hu => (cell_of_heap (p := ⟨b, o + j, none⟩) (hk ⟨b, o, none⟩ e hb)).trans (hc j u hu)⟩
theorem Sb.betw {w w' : World} {G m lo hi : Nat} {As : Option Addr} {st : List Ent} (h : Sb w G m As st) (hb : Betw lo hi w w') (hG : G ≤ lo) : Sb w' G m As st :=
  h.keep hb.size (fun p _ hp => hb.block _ (.inl (by omega)) (by have := h.le; omega))
theorem Sb.laid {w w' : World} {G m g : Nat} {As : Option Addr} {st : List Ent} {C : Array Value} (h : Sb w G m As st) (hl : LaidL g w C w') (hg : ∀ p, As = some p → p.block ≠ g) : Sb w' G m As st :=
  h.keep hl.below.size (fun p hp _ => hl.block _ (hg p hp))
theorem Sb.laidG {w w' : World} {G m g : Nat} {As : Option Addr} {st : List Ent} {C : Array Value} (h : Sb w G m As st) (hl : LaidL g w C w') (hg : G ≤ g) : Sb w' G m As st :=
  h.keep hl.below.size (fun p hp hlt => hl.block _ (by omega))
theorem RowAt.betw {w w' : World} {lo hi g : Nat} {t : TypeId} {C : Array Value} (h : RowAt w g t C) (hb : Betw lo hi w w') (hd : g < lo ∨ hi ≤ g) : RowAt w' g t C := h.heap (hb.block g hd h.lt)
theorem RowAt.laidNe {w w' : World} {g g2 : Nat} {t : TypeId} {C D : Array Value} (h : RowAt w g t C) (hl : LaidL g2 w D w') (hne : g ≠ g2) : RowAt w' g t C := h.heap (hl.block g hne)
theorem Betw.low {lo hi m : Nat} {W w w' : World} (hW : Below m W w) (hb : Betw lo hi w w') (hm : m ≤ lo) (hw : m ≤ W.heap.size) : Below m W w' :=
  ⟨hb.os.trans hW.os, hb.tape.trans hW.tape, hb.output.trans hW.output, Nat.le_trans hW.size hb.size, fun j hj => (hb.block j (.inl (by omega)) (Nat.lt_of_lt_of_le (Nat.lt_of_lt_of_le hj hw) hW.size)).trans (hW.block j hj)⟩
/-- The law's state at a round's begin. -/
structure StAt (W wr : World) (B G g5 m : Nat) (l0 : Lim) (A0 : Nat → Option Addr) (n0 c0 : Nat → Nat) (As : Option Addr) (st : List Ent) (right : Bool) (l : Lim) (A : Nat → Option Addr) (n c : Nat → Nat) : Prop where
  x : RowAt wr W.heap.size 26 (limC l0.E A0 n0 c0)
  hx : Lb wr B l0 A0 n0
  row : RowAt wr g5 26 (limC l.E A n c)
  rd : Lb wr wr.heap.size l A n
  cap : CapL n c
  len : ∀ k, k < 3 → n k ≤ 4096
  st : Sb wr G m As st
  inv : StInv right l
  below : Below W.heap.size W wr
def StEx (W wr : World) (B G g5 m : Nat) (l0 : Lim) (A0 : Nat → Option Addr) (n0 c0 : Nat → Nat) (As : Option Addr) (st : List Ent) (right : Bool) : Prop := ∃ l A n c, StAt W wr B G g5 m l0 A0 n0 c0 As st right l A n c
def Want1 (wx : World) (g : Nat) (l : Lim) : Prop := ∃ (A : Nat → Option Addr) (n c : Nat → Nat), RowAt wx g 26 (limC l.E A n c) ∧ LimRd wx wx.heap.size A n l.r ∧ ∀ k, k < 3 → n k ≤ 4096
structure WantAt (w0 wx : World) (gz : Nat) (ra rb : Except Int Lim) (rc : Except Int (Lim × Ent)) : Prop where
  a : Want1 wx gz (valL ra)
  b : Want1 wx (gz + 1) (valL rb)
  c : Want1 wx (gz + 1 + 1) (valT rc)
  t : RowAt wx (gz + 1 + 1 + 1) 34 #[.int .i64 (entT rc).1, .int .u64 (entT rc).2]
  below : Below gz w0 wx
theorem want0 {w : World} {g : Nat} (h : RowAt w g 26 zeroC) : Want1 w g lim0 := ⟨fun _ => none, fun _ => 0, fun _ => 0, h, zero_rd w _, fun _ _ => Nat.zero_le _⟩
theorem valL_len {r : Except Int Lim} (h : ∀ l, r = .ok l → l.ok = true) : ∀ k, k < 3 → ((valL r).r k).length ≤ 4096 := fun k hk => by
  cases r with
  | error e => exact Nat.zero_le _
  | ok l => exact row_len' (h l rfl) hk
theorem valT_len {r : Except Int (Lim × Ent)} (h : ∀ x, r = .ok x → x.1.ok = true) : ∀ k, k < 3 → ((valT r).r k).length ≤ 4096 := fun k hk => by
  cases r with
  | error e => exact Nat.zero_le _
  | ok x => exact row_len' (h x rfl) hk
theorem Lb.lowB {w w' : World} {T m : Nat} {l : Lim} {A : Nat → Option Addr} {n : Nat → Nat} (h : Lb w T l A n) (hb : Below m w w') (hm : T ≤ m) : Lb w' T l A n := ⟨h.rd.below (hb.mono hm), Nat.le_trans h.le hb.size⟩
theorem Gb.lowB {w w' : World} {lo hi m : Nat} {A : Nat → Option Addr} {n : Nat → Nat} (h : Gb w lo hi A n) (hb : Below m w w') (hm : hi ≤ m) : Gb w' lo hi A n := ⟨h.gen.keep (fun g _ h2 _ => hb.block g (by omega)), Nat.le_trans h.le hb.size⟩
theorem Sb.lowB {w w' : World} {G m k : Nat} {As : Option Addr} {st : List Ent} (h : Sb w G k As st) (hb : Below m w w') (hm : G ≤ m) : Sb w' G k As st := ⟨h.rd.below (hb.mono hm), Nat.le_trans h.le hb.size⟩
theorem retR_ne {l : Lim} {s : Ent} {k : Int} (h : retR l s = .error k) : k ≠ 0 := by
  unfold retR at h
  split at h
  · exact doRet_ne h
  · injection h with h; omega
theorem advR_ne {l : Lim} {k : Int} (h : advR l = .error k) : k ≠ 0 := by
  unfold advR at h
  split at h
  · exact doAdv_ne h
  · injection h with h; omega
theorem takR_ne {l : Lim} {k : Int} (h : takR l = .error k) : k ≠ 0 := by
  unfold takR at h
  split at h
  · unfold doTake at h
    split at h
    · injection h with h; omega
    · cases h
  · injection h with h; omega
theorem nxt_a {l : Lim} {s : Ent} {r : Except Int Lim} (hr : retR l s = r) (h0 : 0 ≤ s.1) (he : errL r = 0) : nxt l s = (valL r).cut := by
  unfold nxt
  rw [if_pos h0, hr]
  cases r with
  | ok a => rfl
  | error k => exact absurd he (retR_ne hr)
theorem nxt_a0 {l : Lim} {s : Ent} {r : Except Int Lim} (hr : retR l s = r) (h0 : 0 ≤ s.1) (he : errL r ≠ 0) : nxt l s = l := by
  unfold nxt
  rw [if_pos h0, hr]
  cases r with
  | ok a => exact absurd rfl he
  | error k => rfl
theorem nxt_c {l : Lim} {s : Ent} {r : Except Int (Lim × Ent)} (hr : takR l = r) (h0 : ¬ 0 ≤ s.1) (he : errL r = 0) : nxt l s = (valT r).cut := by
  unfold nxt
  rw [if_neg h0, hr]
  cases r with
  | ok a => rfl
  | error k => exact absurd he (takR_ne hr)
theorem nxt_b {l : Lim} {s : Ent} {r : Except Int (Lim × Ent)} {q : Except Int Lim} (hr : takR l = r) (hq : advR l = q) (h0 : ¬ 0 ≤ s.1) (he : errL r ≠ 0) (hf : errL q = 0) : nxt l s = (valL q).cut := by
  unfold nxt
  rw [if_neg h0, hr, hq]
  cases r with
  | ok a => exact absurd rfl he
  | error k =>
    cases q with
    | ok b => rfl
    | error k => exact absurd hf (advR_ne hq)
theorem nxt_b0 {l : Lim} {s : Ent} {r : Except Int (Lim × Ent)} {q : Except Int Lim} (hr : takR l = r) (hq : advR l = q) (h0 : ¬ 0 ≤ s.1) (he : errL r ≠ 0) (hf : errL q ≠ 0) : nxt l s = l := by
  unfold nxt
  rw [if_neg h0, hr, hq]
  cases r with
  | ok a => exact absurd rfl he
  | error k =>
    cases q with
    | ok b => exact absurd rfl hf
    | error k => rfl
def NextAt (w0 wx : World) (g : Nat) (l : Lim) : Prop := ∃ (A : Nat → Option Addr) (n c : Nat → Nat), RowAt wx g 26 (limC l.E A n c) ∧ LimRd wx wx.heap.size A n l.r ∧ CapL n c ∧ Below g w0 wx
theorem Rd.laidZ {w w' : World} {B m g E : Nat} {A : Option Addr} {xs : List Ent} {A2 : Nat → Option Addr} {n2 c2 : Nat → Nat} {C : Array Value} (h : Rd w B 2 A m (Cs encE xs)) (hr : RowAt w g 26 (limC E A2 n2 c2)) (hl : LaidL g w C w') : Rd w' B 2 A m (Cs encE xs) := by
  refine ⟨h.1, fun hn => ?_⟩
  obtain ⟨b, o, e, hb, hc⟩ := h.2 hn
  have hne : b ≠ g := by
    rintro rfl
    have hlen : 0 < xs.length := by
      rcases Nat.eq_zero_or_pos xs.length with h0 | h0
      · have h1 := h.1
        rw [List.length_eq_zero_iff.1 h0] at h1
        simp [Cs] at h1
        omega
      · exact h0
    have h2 := hc 0 _ (Cs_at encE_len xs 0 0 hlen (by omega))
    rw [Nat.add_zero, hr.cell o] at h2
    match o, h2 with
    | 0, h2 => simp [encE] at h2
    | 1, h2 => simp [encE] at h2
    | 2, h2 => simp [encE] at h2
    | 3, h2 => simp [encE] at h2
    | (q + 4), h2 => simp at h2
  exact ⟨b, o, e, hb, fun j u hu => (cell_of_heap (p := ⟨b, o + j, none⟩) (hl.block b hne)).trans (hc j u hu)⟩
theorem LimRd.laidZ {w w' : World} {B g E : Nat} {A : Nat → Option Addr} {n : Nat → Nat} {r : Nat → List Ent} {A2 : Nat → Option Addr} {n2 c2 : Nat → Nat} {C : Array Value} (h : LimRd w B A n r) (hr : RowAt w g 26 (limC E A2 n2 c2)) (hl : LaidL g w C w') : LimRd w' B A n r :=
  ⟨fun k hk => Rd.laidZ (h.rd k hk) hr hl, h.len⟩
end Go.Proofs.YthnpcmigphpolaaDoor
