/-
  Limbos: steps, one behind the other (the closure).
-/
import Derived.Test.YthnpcmigphpolaaDoorLja
set_option linter.unusedSimpArgs false
set_option linter.unusedVariables false
namespace Go.Proofs.YthnpcmigphpolaaDoor
open Go Go.RowKit
attribute [local go_sem] via_cell via_frozen
attribute [local go_sem] wpmf

theorem doRun_snoc : ∀ (a : List Ent) (l : Lim) (t : List Ent) (s : Ent), doRun l (a ++ [s]) t = match doRun l a t with | .error k => .error k | .ok (l', t') => match doStep l' s with | .error k => .error k | .ok (l2, o) => .ok (l2, t' ++ o)
  | [], l, t, s => by
    simp only [List.nil_append, doRun]
    cases doStep l s with
    | error k => rfl
    | ok p => rfl
  | x :: a, l, t, s => by
    simp only [List.cons_append, doRun]
    cases doStep l x with
    | error k => rfl
    | ok p => exact doRun_snoc a p.1 _ s
theorem doRun_error : ∀ (a : List Ent) (l : Lim) (t : List Ent) (s : Ent) (r : List Ent) (l' : Lim) (t' : List Ent) (k : Int), doRun l a t = .ok (l', t') → doStep l' s = .error k → doRun l (a ++ (s :: r)) t = .error k
  | [], l, t, s, r, l', t', k, h, hs => by
    simp only [doRun] at h
    injection h with h
    injection h with h1 h2
    subst h1
    simp only [List.nil_append, doRun, hs]
  | x :: a, l, t, s, r, l', t', k, h, hs => by
    simp only [List.cons_append, doRun] at h ⊢
    cases hx : doStep l x with
    | error k2 => rw [hx] at h; cases h
    | ok p => rw [hx] at h; exact doRun_error a p.1 _ s r l' t' k h hs
/-- Some of what is ready has been taken. -/
def drn (l : Lim) (i : Nat) : Lim := ⟨l.E, upd l.r (rowN l.E 2) ((l.at 2).drop i)⟩
theorem drn_zero (l : Lim) : drn l 0 = l := by
  obtain ⟨E, r⟩ := l
  unfold drn Lim.at
  rw [List.drop_zero]
  congr 1
  funext j
  unfold upd
  by_cases h : j = rowN E 2
  · rw [if_pos h, h]
  · rw [if_neg h]
theorem drn_at (l : Lim) (i : Nat) : (drn l i).at 2 = (l.at 2).drop i := by
  have := at_upd l 2 2 ((l.at 2).drop i) (by omega) (by omega)
  rw [if_pos rfl] at this
  exact this
theorem drn_take (l : Lim) (i : Nat) (h : i < (l.at 2).length) : doTake (drn l i) = .ok (drn l (i + 1), (l.at 2).getD i (0, 0)) := by
  unfold doTake
  rw [drn_at, List.drop_eq_getElem_cons h]
  have hg : (l.at 2).getD i (0, 0) = (l.at 2)[i] := by rw [List.getD_eq_getElem?_getD, List.getElem?_eq_getElem h]; rfl
  rw [hg]
  dsimp only
  congr 2
  show Lim.mk l.E (upd (upd l.r (rowN l.E 2) ((l.at 2).drop i)) (rowN l.E 2) ((l.at 2).drop (i + 1))) = drn l (i + 1)
  unfold drn
  congr 1
  funext j
  unfold upd
  by_cases h : j = rowN l.E 2 <;> simp [h]
theorem drn_all (l : Lim) : drn l (l.at 2).length = drain l := by
  unfold drn drain
  rw [List.drop_length]
theorem getD_take (xs : List Ent) (i : Nat) (h : i < xs.length) : xs.take (i + 1) = xs.take i ++ [xs.getD i (0, 0)] := by
  rw [List.take_succ_eq_append_getElem h, List.getD_eq_getElem?_getD, List.getElem?_eq_getElem h]; rfl
/-- While steps are made: the limbo in its box, what has been taken in its. -/
structure RnAt (w : World) (gx kl : Nat) (l : Lim) (took : List Ent) (A : Nat → Option Addr) (n c : Nat → Nat) (v : Value) (wr : World) : Prop where
  ch : ChAt wr gx (gx + 1) l A n c
  ok : l.ok = true
  box : RowAt wr kl 23 #[v]
  own : OwnO wr (gx + 1) 34 2 v took.length (Cs encE took)
  apart : ∀ k p, k < 3 → A k = some p → some p.block ≠ v.ownBlock
  past : PastK kl gx w wr
  lt : kl < gx
def RnEx (w : World) (gx kl : Nat) (l : Lim) (took : List Ent) (wr : World) : Prop := ∃ A n c v, RnAt w gx kl l took A n c v wr
theorem RnAt.below {w : World} {gx kl : Nat} {l : Lim} {took : List Ent} {A : Nat → Option Addr} {n c : Nat → Nat} {v : Value} {wr w2 : World} (h : RnAt w gx kl l took A n c v wr) (hb : Below wr.heap.size wr w2) : RnAt w gx kl l took A n c v w2 :=
  ⟨h.ch.below hb, h.ok, h.box.below hb, h.own.keepB hb, h.apart, h.past.trans (PastK.of_below hb (Nat.le_of_lt h.ch.row.lt)), h.lt⟩
theorem RnAt.op {w : World} {gx kl : Nat} {l l' : Lim} {took : List Ent} {A A' : Nat → Option Addr} {n c n' c' : Nat → Nat} {v : Value} {wr w2 : World} (h : RnAt w gx kl l took A n c v wr) (hc : ChAt w2 gx (gx + 1) l' A' n' c') (hf : ChFr gx A A' wr w2) (ho : l'.ok = true) : RnAt w gx kl l' took A' n' c' v w2 := by
  refine ⟨hc, ho, ?_, ?_, fun k p hk hp => ?_, h.past.trans (hf.past kl h.ch), h.lt⟩
  · exact (hf.block kl h.box.lt (by have := h.lt; omega) (fun k p hk hp => by have := ((h.ch.own.own k hk).fresh hp).1; have := h.lt; omega)).trans h.box
  · refine h.own.other (fun g h1 h2 h3 => hf.block g h2 (by omega) (fun k p hk hp => ?_))
    intro e
    exact h.apart k p hk hp (by rw [e, h3])
  · intro e
    rcases hf.rows k p hk hp with ⟨q, hq, he⟩ | he
    · exact h.apart k q hk hq (by rw [he, e])
    · have := (h.own.lt e).2
      omega
theorem RnAt.app {w : World} {gx kl : Nat} {l : Lim} {took : List Ent} {A : Nat → Option Addr} {n c : Nat → Nat} {v : Value} {A6 : Option Addr} {c6 : Nat} {wr w6 : World} {x : Ent} {o : Obj} (h : RnAt w gx kl l took A n c v wr) (hg : (wr.alloc o).grownBy w6 v.ownBlock)
    (hown : OwnO w6 (gx + 1) 34 2 (.slice A6 (took.length + 1) c6) (took.length + 1) (Cs encE took ++ encE x)) (hv : Value.ownBlock (.slice A6 (took.length + 1) c6) = v.ownBlock ∨ Value.ownBlock (.slice A6 (took.length + 1) c6) = some (wr.alloc o).heap.size) :
    RnAt w gx kl l (took ++ [x]) A n c (.slice A6 (took.length + 1) c6) (w6.setCell ⟨kl, 0, none⟩ (.slice A6 (took.length + 1) c6)) := by
  have hlt := h.lt
  have hgx := h.ch.row.lt
  have hs := hg.size
  rw [World.size_alloc] at hs
  have hblk : ∀ j, j < wr.heap.size → some j ≠ v.ownBlock → j ≠ kl → (w6.setCell ⟨kl, 0, none⟩ (.slice A6 (took.length + 1) c6)).heap[j]? = wr.heap[j]? := fun j hj hn hk => by
    rw [heap_setCell_ne _ _ _ _ hk, hg.block j (by rw [World.size_alloc]; omega) hn, Below.heap_alloc _ _ _ hj]
  have hown0 : ∀ g, some g = v.ownBlock → gx + 1 ≤ g := fun g hg2 => (h.own.lt hg2).1
  refine ⟨⟨?_, ⟨fun k hk => ?_, h.ch.own.len, h.ch.own.apart⟩, h.ch.lt⟩, h.ok, ?_, ?_, fun k p hk hp => ?_, ?_, hlt⟩
  · exact (hblk gx hgx (fun e => by have := hown0 _ e; omega) (by omega)).trans h.ch.row
  · refine (h.ch.own.own k hk).other fun g h1 h2 h3 => hblk g h2 (fun e => ?_) (by omega)
    obtain ⟨p, hp, he⟩ := own_block.1 h3
    exact h.apart k p hk hp (by rw [he, e])
  · have hb : RowAt w6 kl 23 #[v] := by
      have h1 : (wr.alloc o).heap[kl]? = wr.heap[kl]? := Below.heap_alloc _ _ _ h.box.lt
      exact ((hg.block kl (by rw [World.size_alloc]; have := h.box.lt; omega) (fun e => by have := hown0 _ e; omega)).trans h1).trans h.box
    have := hb.set 0 (.slice A6 (took.length + 1) c6)
    simpa using this
  · have e1 : (took ++ [x]).length = took.length + 1 := by simp
    rw [e1, Cs_append, Cs_one]
    exact hown.other fun g h1 _ _ => heap_setCell_ne _ _ _ _ (by show g ≠ kl; omega)
  · intro e
    rcases hv with hv | hv
    · exact h.apart k p hk hp (e.trans hv)
    · have h1 := e.trans hv
      injection h1 with h1
      rw [World.size_alloc] at h1
      have := ((h.ch.own.own k hk).fresh hp).2
      omega
  · refine h.past.trans ⟨hg.os, hg.tape, hg.output, by simp; omega, fun j h1 h2 h3 => hblk j h3 (fun e => by have := hown0 _ e; omega) h2⟩
theorem RnAt.opRes {w : World} {gx kl : Nat} {l l' : Lim} {took : List Ent} {A : Nat → Option Addr} {n c : Nat → Nat} {v : Value} {wr w2 : World} (h : RnAt w gx kl l took A n c v wr) (ho : OpRes gx A l' wr w2) (hk : l'.ok = true) : RnEx w gx kl l' took w2 := by
  obtain ⟨A', n', c', hc, hf⟩ := ho
  exact ⟨A', n', c', v, h.op hc hf hk⟩
/-- Behind the steps. -/
def RunX (l : Lim) (steps : List Ent) (kl base : Nat) (l' : Lim) (w : World) : Prop := ∃ took v, doRun l steps [] = .ok (l', took) ∧ RowAt w kl 23 #[v] ∧ OwnO w base 34 2 v took.length (Cs encE took)
def RunG (l : Lim) (steps : List Ent) (l' : Lim) : Prop := ∃ took, doRun l steps [] = .ok (l', took)
def RunSt (l : Lim) (steps : List Ent) (j : Nat) (w : World) (gx kl : Nat) (wr : World) : Prop := ∃ l' took, doRun l (steps.take j) [] = .ok (l', took) ∧ took.length ≤ 128 * j ∧ RnEx w gx kl l' took wr
set_option maxHeartbeats 4000000 in
theorem run1_any (kl gx base gs B m cs : Nat) (As : Option Addr) (steps : List Ent) (l : Lim) (A : Nat → Option Addr) (n c : Nat → Nat) (w : World) (h : ChAt w gx (gx + 1) l A n c) (hb : RowAt w kl 23 #[.slice none 0 0]) (hkl : kl < gx) (ho : l.ok = true)
    (hs : RowAt w gs 23 #[.slice As m cs]) (hgs : gs < gx) (hgk : gs ≠ kl) (hr : Rd w B 2 As m (Cs encE steps)) (hB : B ≤ gx) (hBk : B ≤ kl) (hx : steps.length = m) (hm : m ≤ 4096) (hg : ∀ e ∈ steps, 0 ≤ e.2 ∧ e.2 < 18446744073709551616) (hbase : base ≤ gx + 1) :
    Calls Tryd.prog 33 #[.pointer (some ⟨gx, 0, none⟩), .pointer (some ⟨gs, 0, none⟩), .pointer (some ⟨kl, 0, none⟩)] w (DoesRes kl gx (gx + 1) (RunG l steps) (fun k _ => doRun l steps [] = .error k) (RunX l steps kl base) w) := by
  have HS0 := hide (show RnAt w gx kl l [] A n c (.slice none 0 0) w from ⟨h, ho, hb, ⟨by simp [Cs], .inl ⟨rfl, rfl⟩⟩, fun k p _ _ => by simp [Value.ownBlock], PastK.refl _ _ _, hkl⟩)
  have HR := hide hr
  have HX := hide hx
  have HG := hide hg
  have q0 := row1 hs
  have ql := hs.lt
  have HGS := hide hs
  clear h hb ho hs hr hx hg
  go_enter Tryd.func33, Tryd.ntmps33
  go_wp2_with fail
  go_loopw [17] (fun i wr => ∃ (j : Nat), j ≤ m ∧ i = .int .i64 (j : Int) ∧ RunSt l steps j w gx kl wr) (fun i _ => m - (intOf i).toNat)
  case atStart => exact ⟨0, Nat.zero_le _, rfl, l, [], by simp [doRun], by simp, A, n, c, _, HS0.out⟩
  case round =>
    obtain ⟨j, hj, rfl, l1, tk1, hrun, htl, A1, n1, c1, v1, hst⟩ := hrel
    have HRUN := hide hrun
    have HTL := hide htl
    have HST := hide hst
    have hpast := hst.past
    have HRW := hide (HR.out.keep (w' := wr) (fun p hp => cell_of_heap (hpast.block _ (by omega) (by omega) (by have := HS0.out.ch.row.lt; omega))))
    have hsz := hpast.size
    have hglt := hst.ch.row.lt
    clear hrun htl hst hpast
    by_cases hlt : j < m
    · obtain ⟨b, o, rfl, hb, d0, d1⟩ := HRW.out.ent HX.out hlt
      have hbl : b < wr.heap.size := by omega
      have hjm : (j : Int) < (m : Int) := by omega
      have hjx : j < steps.length := by rw [HX.out]; exact hlt
      have HGJ := hide (HG.out _ (getD_mem hjx))
      have HSN := hide (getD_take steps j hjx)
      have HSE := hide (show steps = steps.take j ++ (steps.getD j (0, 0) :: steps.drop (j + 1)) from by
        have h1 : steps.getD j (0, 0) = steps[j] := by rw [List.getD_eq_getElem?_getD, List.getElem?_eq_getElem hjx]; rfl
        rw [h1, ← List.drop_eq_getElem_cons hjx, List.take_append_drop])
      obtain ⟨x, hxx⟩ : ∃ x, steps.getD j (0, 0) = x := ⟨_, rfl⟩
      rw [hxx] at d0 d1 HGJ HSN HSE
      obtain ⟨s, g⟩ := x
      dsimp only at d0 d1 HGJ
      clear hxx hb
      have HBN := hide (show Below wr.heap.size wr (wr.alloc (.cells #[.int .i64 s, .int .u64 g] 34)) from (Below.refl _ _).alloc (Nat.le_refl _) _)
      have HRN := hide (RowAt.new wr 34 #[.int .i64 s, .int .u64 g])
      have HST2 := hide (HST.out.below HBN.out)
      by_cases hneg : 0 ≤ s
      · have HRC := hide (retire_any gx l1 A1 n1 c1 s g HGJ.out _ HST2.out.ch HST2.out.ok)
        have hd : decide (0 ≤ s) = true := by simpa using hneg
        have HDS := hide (show doStep l1 (s, g) = (doRet l1 (s, g)).map (fun l' => (l', [])) from by unfold doStep; rw [if_pos hneg])
        clear hneg
        go_wp2_with fail
        with_reducible refine HRC.out.mono ?_
        rintro e w3 (⟨rfl, l', hl', hop⟩ | ⟨k, rfl, hk, hp⟩)
        · have HEX := hide (HST2.out.opRes hop (ok_ret HST2.out.ok hl'))
          have HRN2 := hide (show doRun l (steps.take (j + 1)) [] = .ok (l', tk1 ++ []) from by
            rw [HSN.out, doRun_snoc, HRUN.out]
            simp only [HDS.out, hl']
            rfl)
          clear hop hl'
          go_wp2_with fail
          go_roundw
          case rel => exact ⟨j + 1, by omega, by go_num, l', tk1, by rw [HRN2.out, List.append_nil], by have := HTL.out; omega, HEX.out⟩
          case measure => simp [intOf]; omega
        · have hE := doRun_error (steps.take j) l [] (s, g) (steps.drop (j + 1)) l1 tk1 k HRUN.out (by rw [HDS.out, hk]; rfl)
          rw [← HSE.out] at hE
          exact ⟨rfl, HST2.out.past.trans ⟨hp.os, hp.tape, hp.output, hp.size, fun j h1 h2 h3 => hp.block j h1 (by omega) h3⟩, .inr ⟨k, rfl, hE⟩⟩
      · have hd : decide (0 ≤ s) = false := by simpa using hneg
        have HDS := hide (show doStep l1 (s, g) = (doAdv (drain l1)).map (fun l' => (l', l1.at 2)) from by unfold doStep; rw [if_neg hneg])
        have HRC := hide (row2_any gx l1.E (.slice (A1 0) (n1 0) (c1 0)) (.slice (A1 1) (n1 1) (c1 1)) (.slice (A1 2) (n1 2) (c1 2)) (ok_out HST2.out.ok).1 _ HST2.out.ch.row)
        clear hneg
        go_wp2_with fail
        with_reducible refine HRC.out.mono ?_
        rintro e w3 ⟨rfl, hb3⟩
        have HST3 := hide (HST2.out.below hb3)
        have hk3 := rowN_lt l1.E 2
        have hc3 := limC_cell HST3.out.ch.row hk3
        have hl3 := HST3.out.ch.row.lt
        have HN0 := hide (show (l1.at 2).length = n1 (rowN l1.E 2) from HST3.out.ch.own.len _ hk3)
        have hn8 : n1 (rowN l1.E 2) ≤ 128 := lens_ok HST3.out.ok HST3.out.ch.own.len _ hk3
        clear hb3 HRC
        generalize rowN l1.E 2 = kk at *
        obtain ⟨N, hN⟩ : ∃ N, n1 kk = N := ⟨_, rfl⟩
        rw [hN] at hc3 HN0 hn8
        clear hN
        go_wp2_with fail
        go_loopw [32] (fun i wr2 => ∃ (i' : Nat), i' ≤ N ∧ i = .int .i64 (i' : Int) ∧ RnEx w gx kl (drn l1 i') (tk1 ++ (l1.at 2).take i') wr2) (fun i _ => N - (intOf i).toNat)
        case atStart => exact ⟨0, Nat.zero_le _, rfl, A1, n1, c1, v1, by rw [drn_zero]; simpa using HST3.out⟩
        case round =>
          obtain ⟨i', hi', rfl, A2, n2, c2, v2, hst2⟩ := hrel
          have HS2 := hide hst2
          clear hst2
          by_cases hlt2 : i' < N
          · have hi2 : (i' : Int) < (N : Int) := by omega
            have hix : i' < (l1.at 2).length := by rw [HN0.out]; exact hlt2
            have HTK0 := take_any gx (drn l1 i') A2 n2 c2 wr.drew (HS2.out.below (Below.refl _ _).drew).ch HS2.out.ok
            have HDT := drn_take l1 i' hix
            have HTS := hide (getD_take (l1.at 2) i' hix)
            obtain ⟨y, hy⟩ : ∃ y, (l1.at 2).getD i' (0, 0) = y := ⟨_, rfl⟩
            rw [hy] at HDT HTS
            obtain ⟨ys, yg⟩ := y
            obtain ⟨Av, cv, rfl, hcv, hcvm⟩ := HS2.out.own.form
            have htl2 : (tk1 ++ (l1.at 2).take i').length ≤ 600000 := by
              rw [List.length_append, List.length_take]
              have := HTL.out
              have : j ≤ 4096 := by omega
              omega
            have HTK : Hid (Calls Tryd.prog 36 #[.pointer (some ⟨gx, 0, none⟩)] wr.drew fun e w5 => e = .returned (.agg #[.int .i64 ys, .int .u64 yg]) ∧ ∃ A5 n5 c5, RnAt w gx kl (drn l1 (i' + 1)) (tk1 ++ (l1.at 2).take i') A5 n5 c5 (.slice Av (tk1 ++ (l1.at 2).take i').length cv) w5) := hide (HTK0.mono (by
              rintro e w5 (⟨l', y', rfl, hl', A5, n5, c5, hch5, hfr5⟩ | ⟨k, rfl, hk, _⟩)
              · rw [HDT] at hl'
                injection hl' with hl'
                injection hl' with h1 h2
                subst h1; subst h2
                exact ⟨rfl, A5, n5, c5, (HS2.out.below (Below.refl _ _).drew).op hch5 hfr5 (ok_take HS2.out.ok HDT)⟩
              · rw [HDT] at hk; cases hk))
            have d1 := row1 HS2.out.box
            have dl := HS2.out.box.lt
            clear HTK0 HDT hy
            obtain ⟨TL, hTL⟩ : ∃ TL, tk1 ++ (l1.at 2).take i' = TL := ⟨_, rfl⟩
            rw [hTL] at HTK d1 htl2 HS2
            have HTLE := hide hTL
            clear hTL
            go_wp2_with fail
            go_region_law (first
              | (go_simp; go_at_call 36; with_reducible refine HTK.out.mono ?_; rintro e w5 ⟨rfl, A5, n5, c5, hst5⟩; have HS5 := hide hst5; have e5 := row1 hst5.box; have l5 := hst5.box.lt; clear hst5)
              | (rw [if_pos (by rfl)]; refine wp_appO elE _ _ rfl rfl (HS5.out.own.keepB ((Below.refl _ _).alloc (Nat.le_refl _) _)) rfl (Rd.new w5 #[.int .i64 ys, .int .u64 yg] 34 2 1 rfl) (by simp [Value.oneCell']) (by omega) (by simp; have := HS5.out.ch.row.lt; omega) ?_; intro v6 w6 hown6 hb6 hg6 hv6; obtain ⟨A6, c6, rfl, hc6, hcm6⟩ := hown6.form; have HO6 := hide hown6; have HG6 := hide hg6; have HV6 := hide hv6; have hr6 := row_grown (HS5.out.box.below ((Below.refl _ _).alloc (Nat.le_refl _) (.cells #[.int .i64 ys, .int .u64 yg] 34))) hg6 (fun e => by have h1 := (HS5.out.own.lt e).1; have h2 := HS5.out.lt; omega); have d6 := row1 hr6; have f6 := hr6.frozen 0; have l6 := hr6.lt; clear hown6 hb6 hg6 hv6 hr6))
            all_goals
              have HS7 := hide (RnAt.app (x := (ys, yg)) HS5.out HG6.out HO6.out HV6.out)
              have hTS : TL ++ [(ys, yg)] = tk1 ++ (l1.at 2).take (i' + 1) := by rw [← HTLE.out, List.append_assoc, ← HTS.out]
              rw [hTS] at HS7
              go_wp2_with fail
              go_roundw
              case rel => exact ⟨i' + 1, by omega, by go_num, _, _, _, _, HS7.out⟩
              case measure => simp [intOf]; omega
          · obtain rfl : i' = N := by omega
            have HS3 := hide (show RnAt w gx kl (drain l1) (tk1 ++ l1.at 2) A2 n2 c2 v2 wr from by
              have h := HS2.out
              rw [← HN0.out, drn_all, List.take_length] at h
              exact h)
            have HRC := hide (advance_any gx (drain l1) A2 n2 c2 wr HS3.out.ch HS3.out.ok)
            go_wp2_with fail
            with_reducible refine HRC.out.mono ?_
            rintro e w4 (⟨rfl, l', hl', hop⟩ | ⟨k, rfl, hk, hp⟩)
            · have HEX := hide (HS3.out.opRes hop (ok_adv HS3.out.ok hl'))
              have HRN2 := hide (show doRun l (steps.take (j + 1)) [] = .ok (l', tk1 ++ l1.at 2) from by
                rw [HSN.out, doRun_snoc, HRUN.out]
                simp only [HDS.out, hl']
                rfl)
              clear hop hl'
              go_wp2_with fail
              go_roundw
              case rel => exact ⟨j + 1, by omega, by go_num, l', tk1 ++ l1.at 2, HRN2.out, by rw [List.length_append, HN0.out]; have := HTL.out; omega, HEX.out⟩
              case measure => simp [intOf]; omega
            · have hE := doRun_error (steps.take j) l [] (s, g) (steps.drop (j + 1)) l1 tk1 k HRUN.out (by rw [HDS.out, hk]; rfl)
              rw [← HSE.out] at hE
              exact ⟨rfl, HS3.out.past.trans ⟨hp.os, hp.tape, hp.output, hp.size, fun j h1 h2 h3 => hp.block j h1 (by omega) h3⟩, .inr ⟨k, rfl, hE⟩⟩
    · obtain rfl : j = m := by omega
      have HF := hide (show doRun l steps [] = .ok (l1, tk1) from by
        have h := HRUN.out
        rwa [List.take_of_length_le (by rw [HX.out]; exact Nat.le_refl _)] at h)
      go_wp2_with fail
      go_end0
      exact ⟨HST.out.past, .inl ⟨rfl, l1, A1, n1, c1, HST.out.ch, ⟨tk1, HF.out⟩, tk1, v1, HF.out, HST.out.box, HST.out.own.lower hbase⟩⟩
end Go.Proofs.YthnpcmigphpolaaDoor
