/-
  Limbos that change: one waits, the next epoch, the first one is taken.
-/
import Derived.Test.YthnpcmigphpolaaDoorLiw
import Derived.Deep.RegionLaw
set_option linter.unusedSimpArgs false
set_option linter.unusedVariables false
namespace Go.Proofs.YthnpcmigphpolaaDoor
open Go Go.RowKit
attribute [local go_sem] via_cell via_frozen

theorem step_appO {P : Program} {t e : TypeId} {size bytes : Nat} {z : Value} {ops : Array Oper} {o : Oper} {a : Act} {Q : Exit → Act → World → Prop} {w : World} {EE : Prop} (E : ElemOk P t e size bytes z) {K : Act → World → Prop} (hgd : o.guard = none) (s x : Operand) (ho : o.op = .call { callee := .builtin .append, args := #[s, x], argTypes := #[t, t] })
    {base n : Nat} {xs : List Value} {v : Value} (hs : a.eval s = v) (hown : OwnO w base e size v n xs)
    {B : Nat} {A : Option Addr} {m c : Nat} {news : List Value} (hx : a.eval x = .slice A m c) (hr : Rd w B size A m news) (h1 : ∀ u ∈ news, u.oneCell' = true)
    (hb : (n + m) * bytes ≤ 140737488355328) (hbase : base ≤ w.heap.size)
    (h : ∀ v' w', OwnO w' base e size v' (n + m) (xs ++ news) → Below base w w' → w.grownBy w' v.ownBlock → (v'.ownBlock = v.ownBlock ∨ v'.ownBlock = some w.heap.size) → K (a.put o.dst v') w') :
    if Region.wanted o (yielded ops a.tmps) = true then Oper.wp P o a w K Q else EE := by
  have hw : Region.wanted o (yielded ops a.tmps) = true := by simp [Region.wanted, hgd]
  rw [if_pos hw]
  exact wp_appO E s x ho hs hown hx hr h1 hb hbase h
theorem row_grown {w w' : World} {g : Nat} {t : TypeId} {cs : Array Value} {row : Option Nat} (h : RowAt w g t cs) (hg : w.grownBy w' row) (hne : some g ≠ row) : RowAt w' g t cs := (hg.block g h.lt hne).trans h
theorem retcl_any (gb : Nat) (s g : Int) (x : Ent) (w : World) (h : RowAt w gb 34 #[.int .i64 s, .int .u64 g]) :
    Calls Tryd.prog 52 #[entV x, .pointer (some ⟨gb, 0, none⟩)] w fun e w' => e = .returned (.bool (x.1 == s)) ∧ Below w.heap.size w w' := by
  obtain ⟨x1, x2⟩ := x
  have HB := hide (show Below w.heap.size w (w.alloc (.cells #[.int .i64 x1, .int .u64 x2] 34)) from (Below.refl _ _).alloc (Nat.le_refl _) _)
  have q0 := row20 h
  have ql := h.lt
  clear h
  unfold entV
  dsimp only
  go_enter Tryd.func52, Tryd.ntmps52
  go_wp2
  go_ret
  exact ⟨rfl, HB.out⟩
/-- What a step of a limbo in its box has left alone: all but the box, and the rows' own blocks. -/
structure ChFr (gx : Nat) (A A' : Nat → Option Addr) (w w' : World) : Prop where
  os : w'.os = w.os
  tape : w'.tape = w.tape
  output : w'.output = w.output
  size : w.heap.size ≤ w'.heap.size
  block : ∀ j, j < w.heap.size → j ≠ gx → (∀ k p, k < 3 → A k = some p → p.block ≠ j) → w'.heap[j]? = w.heap[j]?
  rows : ∀ k p, k < 3 → A' k = some p → (∃ q, A k = some q ∧ q.block = p.block) ∨ w.heap.size ≤ p.block
theorem ChFr.of_below {gx : Nat} {A : Nat → Option Addr} {w w' : World} (h : Below w.heap.size w w') : ChFr gx A A w w' := ⟨h.os, h.tape, h.output, h.size, fun j hj _ _ => h.block j hj, fun k p _ hp => .inl ⟨p, hp, rfl⟩⟩
theorem ChFr.past {gx base : Nat} {l : Lim} {A A' : Nat → Option Addr} {n c : Nat → Nat} {w w' : World} (kl : Nat) (h : ChFr gx A A' w w') (hc : ChAt w gx base l A n c) : PastK kl gx w w' :=
  ⟨h.os, h.tape, h.output, h.size, fun j hj _ hl => h.block j hl (by omega) (fun k p hk hp => by have := ((hc.own.own k hk).fresh hp).1; have := hc.lt; omega)⟩
/-- What a step of a limbo in its box comes to. -/
def OpRes (gx : Nat) (A : Nat → Option Addr) (l' : Lim) (w w' : World) : Prop := ∃ A' n' c', ChAt w' gx (gx + 1) l' A' n' c' ∧ ChFr gx A A' w w'
theorem lens_ok {l : Lim} {n : Nat → Nat} (ho : l.ok = true) (hn : ∀ k, k < 3 → (l.r k).length = n k) : ∀ k, k < 3 → n k ≤ 128 := fun k hk => by rw [← hn k hk]; exact row_len ho hk
/-- The box, with another row in it. -/
theorem ChAt.put {w w8 : World} {gx k : Nat} {l : Lim} {A : Nat → Option Addr} {n c : Nat → Nat} (h : ChAt w gx (gx + 1) l A n c) (hk : k < 3) (A1 : Option Addr) (n1 c1 : Nat) (xs : List Ent)
    (hrow : RowAt w8 gx 72 ((limC l.E A n c).setIfInBounds (1 + k) (.slice A1 n1 c1))) (hown : OwnO w8 (gx + 1) 34 2 (.slice A1 n1 c1) n1 (Cs encE xs)) (hx : xs.length = n1)
    (hkeep : ∀ j, j < 3 → j ≠ k → OwnO w8 (gx + 1) 34 2 (.slice (A j) (n j) (c j)) (n j) (Cs encE (l.r j)))
    (hap : ∀ j, j < 3 → j ≠ k → ∀ p q, A j = some p → A1 = some q → p.block ≠ q.block) :
    ChAt w8 gx (gx + 1) ⟨l.E, upd l.r k xs⟩ (fun j => if j = k then A1 else A j) (fun j => if j = k then n1 else n j) (fun j => if j = k then c1 else c j) := by
  refine ⟨?_, ⟨fun j hj => ?_, fun j hj => ?_, fun i j hi hj hne p q hp hq => ?_⟩, h.lt⟩
  · have e : (limC l.E A n c).setIfInBounds (1 + k) (.slice A1 n1 c1) = limC l.E (fun j => if j = k then A1 else A j) (fun j => if j = k then n1 else n j) (fun j => if j = k then c1 else c j) := by
      match k, hk with
      | 0, _ => rfl
      | 1, _ => rfl
      | 2, _ => rfl
    rw [e] at hrow
    exact hrow
  · by_cases hjk : j = k
    · subst hjk; simpa [upd] using hown
    · simpa [upd, hjk] using hkeep j hj hjk
  · by_cases hjk : j = k
    · subst hjk; simpa [upd] using hx
    · simpa [upd, hjk] using h.own.len j hj
  · by_cases hik : i = k
    · have hjk : j ≠ k := by omega
      simp only [if_pos hik] at hp
      simp only [if_neg hjk] at hq
      exact fun e => hap j hj hjk q p hq hp e.symm
    · by_cases hjk : j = k
      · simp only [if_neg hik] at hp
        simp only [if_pos hjk] at hq
        exact hap i hi hik p q hp hq
      · simp only [if_neg hik] at hp
        simp only [if_neg hjk] at hq
        exact h.own.apart i j hi hj hne p q hp hq
theorem row2_any (g E : Nat) (u0 u1 u2 : Value) (hE : E ≤ LAST) (W : World) (h : RowAt W g 72 #[.int .u64 (E : Int), u0, u1, u2]) :
    Calls Tryd.prog 37 #[.pointer (some ⟨g, 0, none⟩), .int .u64 2] W fun e W' => e = .returned (.pointer (some ⟨g, 1 + rowN E 2, none⟩)) ∧ Below W.heap.size W W' := row_any g E 2 u0 u1 u2 (by omega) hE W h
theorem row0_any (g E : Nat) (u0 u1 u2 : Value) (hE : E ≤ LAST) (W : World) (h : RowAt W g 72 #[.int .u64 (E : Int), u0, u1, u2]) :
    Calls Tryd.prog 37 #[.pointer (some ⟨g, 0, none⟩), .int .u64 0] W fun e W' => e = .returned (.pointer (some ⟨g, 1 + rowN E 0, none⟩)) ∧ Below W.heap.size W W' := row_any g E 0 u0 u1 u2 (by omega) hE W h
theorem advance_any (gx : Nat) (l : Lim) (A : Nat → Option Addr) (n c : Nat → Nat) (w : World) (h : ChAt w gx (gx + 1) l A n c) (ho : l.ok = true) :
    Calls Tryd.prog 35 #[.pointer (some ⟨gx, 0, none⟩)] w fun e w' =>
      (e = .returned (.tuple #[]) ∧ ∃ l', doAdv l = .ok l' ∧ OpRes gx A l' w w') ∨ (∃ k, e = .panicked (errX k) ∧ doAdv l = .error k ∧ PastK gx gx w w') := by
  have hE := (ok_out ho).1
  have hEL : (l.E : Int) ≤ 4611686018427387904 := by unfold LAST at hE; omega
  have HRC := hide (row2_any gx l.E (.slice (A 0) (n 0) (c 0)) (.slice (A 1) (n 1) (c 1)) (.slice (A 2) (n 2) (c 2)) hE w h.row)
  have H := hide h
  have HN := hide (lens_ok ho h.own.len)
  clear h
  go_enter Tryd.func35, Tryd.ntmps35
  go_wp2_with fail
  with_reducible refine HRC.out.mono ?_
  rintro e w1 ⟨rfl, hb1⟩
  have H1 := hide (H.out.below hb1)
  have HB1 := hide hb1
  have hk3 := rowN_lt l.E 2
  have hc1 := limC_cell H1.out.row hk3
  have hl1 := H1.out.row.lt
  have HLN := hide (show (l.at 2).length = n (rowN l.E 2) from H1.out.own.len _ hk3)
  clear hb1 HRC
  generalize rowN l.E 2 = kk at *
  by_cases hz : l.at 2 = []
  · have hn0 : n kk = 0 := by rw [← HLN.out, hz]; rfl
    rw [hn0] at hc1
    have hd : (((0 : Nat) : Int) == 0) = true := rfl
    go_wp2_with fail
    refine (need_ok 241 _).mono ?_
    rintro e w2 ⟨rfl, rfl⟩
    have q0 : w1.cell? ⟨gx, 0, none⟩ = some (.int .u64 (l.E : Int)) := by have := H1.out.row.cell 0; simpa [limC] using this
    have qf := H1.out.row.frozen 0
    by_cases hlt : l.E < LAST
    · have hd2 : decide ((l.E : Int) < 4611686018427387904) = true := by unfold LAST at hlt; simp; omega
      have hw1 : IntKind.u64.wrap ((l.E : Int) + 1) = (l.E : Int) + 1 := IntWalk.u64_in _ (by omega)
      have HF := hide (show doAdv l = .ok ⟨l.E + 1, l.r⟩ from by unfold doAdv; rw [if_neg (by simpa using hz), if_pos hlt])
      clear hlt hz
      go_wp2_with fail
      refine (need_ok 6 _).mono ?_
      rintro e w2 ⟨rfl, rfl⟩
      dsimp only
      go_wp2_with fail
      go_end0
      refine .inl ⟨rfl, _, HF.out, A, n, c, ⟨?_, H1.out.own.other (fun g h1 h2 => heap_setCell_ne _ _ _ _ (by show g ≠ gx; omega)), by omega⟩, ⟨HB1.out.os, HB1.out.tape, HB1.out.output, by have := HB1.out.size; simpa using this, fun j hj hne _ => (heap_setCell_ne _ _ _ _ hne).trans (HB1.out.block j hj), fun k p _ hp => .inl ⟨p, hp, rfl⟩⟩⟩
      have hr := H1.out.row.set 0 (.int .u64 ((l.E : Int) + 1))
      have hcast : ((l.E + 1 : Nat) : Int) = (l.E : Int) + 1 := by omega
      show RowAt _ gx 72 (limC (l.E + 1) A n c)
      unfold limC
      rw [hcast]
      simpa [limC] using hr
    · have hd2 : decide ((l.E : Int) < 4611686018427387904) = false := by unfold LAST at hlt; simp; omega
      have HF := hide (show doAdv l = .error 6 from by unfold doAdv; rw [if_neg (by simpa using hz), if_neg hlt])
      clear hlt hz
      go_wp2_with fail
      refine (need_no 6 _).mono ?_
      rintro e w2 ⟨rfl, rfl⟩
      exact ⟨rfl, .inr ⟨6, rfl, HF.out, PastK.of_below HB1.out (by have := H.out.row.lt; omega)⟩⟩
  · have hn0 : ¬ ((n kk : Int) = 0) := by
      have := HLN.out
      have : 0 < (l.at 2).length := List.length_pos_iff.2 hz
      omega
    have hd : ((n kk : Int) == 0) = false := by simpa using hn0
    have HF := hide (show doAdv l = .error 241 from by unfold doAdv; rw [if_pos hz])
    clear hn0 hz
    go_wp2_with fail
    refine (need_no 241 _).mono ?_
    rintro e w2 ⟨rfl, rfl⟩
    exact ⟨rfl, .inr ⟨241, rfl, HF.out, PastK.of_below HB1.out (by have := H.out.row.lt; omega)⟩⟩
theorem OwnO.empty {w : World} {base : Nat} {e : TypeId} {sz n cap g o : Nat} {xs : List Value} (h : OwnO w base e sz (.slice (some ⟨g, o, none⟩) n cap) n xs) : OwnO w base e sz (.slice (some ⟨g, o, none⟩) 0 0) 0 [] := by
  rcases h.2 with ⟨h1, _⟩ | ⟨g', o', cap', cur, hv, hg, hh, hn, hc, hs, ht⟩
  · cases h1
  · injection hv with h1 _ h2
    injection h1 with h1
    injection h1 with h1 h3
    subst h1; subst h3
    exact ⟨by simp, .inr ⟨g, o, 0, cur, rfl, hg, hh, Nat.le_refl _, Nat.zero_le _, by omega, by simp⟩⟩
set_option maxHeartbeats 2000000 in
theorem take_any (gx : Nat) (l : Lim) (A : Nat → Option Addr) (n c : Nat → Nat) (w : World) (h : ChAt w gx (gx + 1) l A n c) (ho : l.ok = true) :
    Calls Tryd.prog 36 #[.pointer (some ⟨gx, 0, none⟩)] w fun e w' =>
      (∃ l' x, e = .returned (entV x) ∧ doTake l = .ok (l', x) ∧ OpRes gx A l' w w') ∨ (∃ k, e = .panicked (errX k) ∧ doTake l = .error k ∧ PastK gx gx w w') := by
  have hE := (ok_out ho).1
  have HBN := hide (show Below w.heap.size w (w.alloc (.cells #[.int .i64 0, .int .u64 0] 34)) from (Below.refl _ _).alloc (Nat.le_refl _) _)
  have HRN := hide (RowAt.new w 34 #[.int .i64 0, .int .u64 0])
  have H0 := hide (h.below HBN.out)
  have HRC := hide (row2_any gx l.E (.slice (A 0) (n 0) (c 0)) (.slice (A 1) (n 1) (c 1)) (.slice (A 2) (n 2) (c 2)) hE _ H0.out.row)
  have HN := hide (lens_ok ho h.own.len)
  have hgw := h.row.lt
  have H := hide h
  clear h hE
  go_enter Tryd.func36, Tryd.ntmps36
  go_wp2_with fail
  generalize w.alloc (.cells #[.int .i64 0, .int .u64 0] 34) = w0 at *
  with_reducible refine HRC.out.mono ?_
  rintro e w1 ⟨rfl, hb1⟩
  have H1 := hide (H0.out.below hb1)
  have HB1 := hide (HBN.out.trans (hb1.mono HBN.out.size))
  have HR1 := hide (HRN.out.below hb1)
  have hk3 := rowN_lt l.E 2
  have hc1 := limC_cell H1.out.row hk3
  have hl1 := H1.out.row.lt
  have HO := hide (H1.out.own.own _ hk3)
  have HLN := hide (show (l.at 2).length = n (rowN l.E 2) from H1.out.own.len _ hk3)
  have HNK := hide (HN.out _ hk3)
  have HAT := hide (show l.at 2 = l.r (rowN l.E 2) from rfl)
  have HKK := hide (show rowN l.E 2 = rowN l.E 2 from rfl)
  obtain ⟨kk, hkk⟩ : ∃ kk, rowN l.E 2 = kk := ⟨_, rfl⟩
  rw [hkk] at hc1 hk3 HO HLN HAT HNK ⊢
  have HKN := hide hkk
  clear hb1 HRC H0 HKK hkk
  obtain ⟨AA, hAA⟩ : ∃ AA, A kk = AA := ⟨_, rfl⟩
  obtain ⟨m, hmm⟩ : ∃ m, n kk = m := ⟨_, rfl⟩
  obtain ⟨cc, hcc⟩ : ∃ cc, c kk = cc := ⟨_, rfl⟩
  obtain ⟨xs, hxs⟩ : ∃ xs, l.at 2 = xs := ⟨_, rfl⟩
  have HAA := hide hAA
  have HMM := hide hmm
  have HXS := hide hxs
  rw [hAA, hmm, hcc] at hc1
  rw [hxs] at HLN HAT
  rw [hmm] at HLN HNK
  rw [hAA, hmm, hcc, ← HAT.out] at HO
  clear hAA hmm hxs
  cases xs with
  | nil =>
    have hm0 : m = 0 := by rw [← HLN.out]; rfl
    subst hm0
    have hd : decide ((0 : Int) < ((0 : Nat) : Int)) = false := rfl
    have HF := hide (show doTake l = .error 4 from by unfold doTake; rw [HXS.out])
    go_wp2_with fail
    refine (need_no 4 _).mono ?_
    rintro e w2 ⟨rfl, rfl⟩
    exact ⟨rfl, .inr ⟨4, rfl, HF.out, PastK.of_below HB1.out (by omega)⟩⟩
  | cons x rest =>
    have hm1 : rest.length + 1 = m := HLN.out
    have hm0 : (0 : Int) < (m : Int) := by omega
    have hm8 : (m : Int) ≤ 128 := by have := HNK.out; omega
    have hd : decide ((0 : Int) < (m : Int)) = true := by simpa using hm0
    have hdN : decide (0 < m) = true := by simp; omega
    have HF := hide (show doTake l = .ok (⟨l.E, upd l.r kk rest⟩, x) from by unfold doTake; rw [HXS.out, HKN.out])
    obtain ⟨b, o, rfl, hb, d0, d1⟩ := HO.out.rd.ent HLN.out (k := 0) (by omega)
    simp only [Nat.zero_mul, Nat.add_zero, List.getD_cons_zero] at d0 d1
    obtain ⟨s, g⟩ := x
    dsimp only at d0 d1
    have hmc : m ≤ cc := by
      obtain ⟨_, _, e, h1, _⟩ := HO.out.form
      injection e with _ _ e3
      omega
    have hmc2 : (m : Int) ≤ (cc : Int) := by omega
    have hb1 : b < w1.heap.size := hb
    go_wp2_with fail
    refine (need_ok 4 _).mono ?_
    rintro e w2 ⟨rfl, rfl⟩
    dsimp only
    go_wp2_with fail
    go_region
    have HB2 := hide (show Below w1.heap.size w1 (w1.alloc (.cells #[.int .i64 s, .int .u64 g] 34)).drew from ((Below.refl _ _).alloc (Nat.le_refl _) _).drew)
    have HRT := hide (show RowAt (w1.alloc (.cells #[.int .i64 s, .int .u64 g] 34)).drew w1.heap.size 34 #[.int .i64 s, .int .u64 g] from (RowAt.new w1 34 _).drew)
    generalize (w1.alloc (.cells #[.int .i64 s, .int .u64 g] 34)).drew = w2 at *
    have H2 := hide (H1.out.below HB2.out)
    have HR2 := hide (HR1.out.below HB2.out)
    have HO2 := hide (HO.out.keepB HB2.out)
    have HBW2 := hide (HB1.out.trans (HB2.out.mono HB1.out.size))
    have hc2 := kept HB2.out hc1
    have hl2 := H2.out.row.lt
    have hcf := H2.out.row.frozen (1 + kk)
    have hxl : w.heap.size < w1.heap.size := HR1.out.lt
    have t0 := row20 HRT.out
    have t1 := row21 HRT.out
    have tl := HRT.out.lt
    have r0 := row20 HR2.out
    have r1 := row21 HR2.out
    have rl := HR2.out.lt
    have rf0 := HR2.out.frozen 0
    have rf1 := HR2.out.frozen 1
    have hne1 : ¬ gx = w1.heap.size := by omega
    have hne2 : ¬ gx = w.heap.size := by omega
    clear d0 d1 hc1 hb1 hb
    have HFIN : Hid (∀ (o' : Nat), OwnO w2 (gx + 1) 34 2 (.slice (some ⟨b, o', none⟩) (m - 1) (m - 1)) (m - 1) (Cs encE rest) →
        RowAt (((w2.setCell ⟨gx, 1 + kk, none⟩ (.slice (some ⟨b, o', none⟩) (m - 1) (m - 1))).setCell ⟨w.heap.size, 0, none⟩ (.int .i64 s)).setCell ⟨w.heap.size, 1, none⟩ (.int .u64 g)) w.heap.size 34 #[.int .i64 s, .int .u64 g] ∧
        OpRes gx A ⟨l.E, upd l.r kk rest⟩ w (((w2.setCell ⟨gx, 1 + kk, none⟩ (.slice (some ⟨b, o', none⟩) (m - 1) (m - 1))).setCell ⟨w.heap.size, 0, none⟩ (.int .i64 s)).setCell ⟨w.heap.size, 1, none⟩ (.int .u64 g))) := hide (fun o' hown => by
      have hblk : ∀ j, j ≠ gx → j ≠ w.heap.size → (((w2.setCell ⟨gx, 1 + kk, none⟩ (.slice (some ⟨b, o', none⟩) (m - 1) (m - 1))).setCell ⟨w.heap.size, 0, none⟩ (.int .i64 s)).setCell ⟨w.heap.size, 1, none⟩ (.int .u64 g)).heap[j]? = w2.heap[j]? := fun j h1 h2 => by
        rw [heap_setCell_ne _ _ _ _ h2, heap_setCell_ne _ _ _ _ h2, heap_setCell_ne _ _ _ _ h1]
      have hbA : b < w.heap.size := ((H.out.own.own kk hk3).fresh (p := ⟨b, o, none⟩) HAA.out).2
      refine ⟨?_, ?_⟩
      · have h := (((HR2.out.setNe (g2 := gx) (o := 1 + kk) (v := .slice (some ⟨b, o', none⟩) (m - 1) (m - 1)) (by omega)).set 0 (.int .i64 s)).set 1 (.int .u64 g))
        simpa using h
      · refine ⟨_, _, _, H2.out.put hk3 (some ⟨b, o', none⟩) (m - 1) (m - 1) rest ?_ ?_ (by omega) (fun j hj hjk => ?_) (fun j hj hjk p q hp hq => ?_), ⟨?_, ?_, ?_, ?_, fun j hj hne _ => ?_, fun k p hk hp => ?_⟩⟩
        · exact ((H2.out.row.set (1 + kk) (.slice (some ⟨b, o', none⟩) (m - 1) (m - 1))).setNe (by omega)).setNe (by omega)
        · refine hown.other fun g' h1 _ h3 => hblk g' (by omega) ?_
          simp [Value.ownBlock] at h3
          omega
        · refine (H2.out.own.own j hj).other fun g' h1 _ h3 => hblk g' (by omega) ?_
          have := (H.out.own.own j hj).lt h3
          omega
        · injection hq with hq
          have := H.out.own.apart j kk hj hk3 hjk p _ hp HAA.out
          rw [← hq]; exact this
        · exact HBW2.out.os
        · exact HBW2.out.tape
        · exact HBW2.out.output
        · have := HBW2.out.size; simpa using this
        · exact (hblk j hne (by omega)).trans (HBW2.out.block j hj)
        · by_cases hkk : k = kk
          · subst hkk
            simp only [if_pos rfl] at hp
            injection hp with hp
            exact .inl ⟨_, HAA.out, by rw [← hp]⟩
          · simp only [if_neg hkk] at hp
            exact .inl ⟨p, hp, rfl⟩)
    have HTL := hide (HO2.out.tail (k := 1) (m := m) (by omega) (Nat.le_refl _) hmc)
    have HEM := hide HO2.out.empty
    have HRS := hide (show (Cs encE ((s, g) :: rest)).drop (1 * 2) = Cs encE rest from rfl)
    rw [HRS.out] at HTL
    go_wp2_with fail
    · have hr0 : rest = [] := List.eq_nil_of_length_eq_zero (by omega)
      subst hr0
      have hF := HFIN.out o
      have hm10 : m - 1 = 0 := by omega
      rw [hm10] at hF
      obtain ⟨hr9, hop⟩ := hF HEM.out
      generalize ((w2.setCell ⟨gx, 1 + kk, none⟩ (.slice (some ⟨b, o, none⟩) 0 0)).setCell ⟨w.heap.size, 0, none⟩ (.int .i64 s)).setCell ⟨w.heap.size, 1, none⟩ (.int .u64 g) = w9 at *
      refine bodyPost_ret (results_cell_row Tryd.results36 _ _ w.heap.size 34 #[.int .i64 s, .int .u64 g] (0, 0) _ rfl hr9 Tryd.underlying34 rfl (by kernel_rfl)) rfl ?_
      exact .inl ⟨_, s, g, rfl, HF.out, hop⟩
    · obtain ⟨hr9, hop⟩ := HFIN.out (o + 2) HTL.out
      generalize ((w2.setCell ⟨gx, 1 + kk, none⟩ (.slice (some ⟨b, o + 2, none⟩) (m - 1) (m - 1))).setCell ⟨w.heap.size, 0, none⟩ (.int .i64 s)).setCell ⟨w.heap.size, 1, none⟩ (.int .u64 g) = w9 at *
      refine bodyPost_ret (results_cell_row Tryd.results36 _ _ w.heap.size 34 #[.int .i64 s, .int .u64 g] (0, 0) _ rfl hr9 Tryd.underlying34 rfl (by kernel_rfl)) rfl ?_
      exact .inl ⟨_, s, g, rfl, HF.out, hop⟩
end Go.Proofs.YthnpcmigphpolaaDoor
