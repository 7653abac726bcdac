/-
  If slabs are given back only where that is safe, what somebody has got is good as long as it is pinned: the walk.
-/
import Derived.Test.YtfpbabafeecncaaMoz
import Derived.Test.YtfpbabafeecncaaMokp
import Derived.Deep.CutRange
import Derived.Deep.CutBlock
import Derived.Deep.RegionHeld3
set_option linter.unusedSimpArgs false
set_option linter.unusedVariables false
namespace Go.Proofs.Ytfpbabafeecncaa
open Go Go.RowKit
attribute [local go_sem] via_cell via_frozen

theorem wrap_mod (g : Int) (m : Nat) (hm : 0 < m) : ∃ k : Nat, k < m ∧ (IntKind.u64.wrap g).tmod (m : Int) = (k : Int) := by
  have hwg : IntKind.u64.wrap g = g % 18446744073709551616 := rfl
  have hw0 : 0 ≤ IntKind.u64.wrap g := by rw [hwg]; exact Int.emod_nonneg _ (by decide)
  have h1 := Int.tmod_nonneg (m : Int) hw0
  have h2 := Int.tmod_lt_of_pos (IntKind.u64.wrap g) (show (0 : Int) < m by omega)
  exact ⟨((IntKind.u64.wrap g).tmod (m : Int)).toNat, by omega, by omega⟩
theorem mod_at (s : Int) (m : Nat) (hs : 0 ≤ s) (hm : 0 < m) : ∃ k : Nat, k < m ∧ s.tmod (m : Int) = (k : Int) := by
  have h1 := Int.tmod_nonneg (m : Int) hs
  have h2 := Int.tmod_lt_of_pos s (show (0 : Int) < m by omega)
  exact ⟨(s.tmod (m : Int)).toNat, by omega, by omega⟩
theorem newM_inv (g n : Nat) (h1 : 1 ≤ g) (h8 : g ≤ 8) (h2 : 2 ≤ n) (h9 : n ≤ 128) : KInv (newM g n) g n ∧ HasLe (newM g n) 0 := by
  have hr : ∀ j, rowM (newM g n) j = [] := by
    intro j
    unfold rowM newM
    simp only [List.getD_eq_getElem?_getD, List.getElem?_replicate]
    split <;> rfl
  refine ⟨⟨⟨?_, by simp [newM]; omega, by simp [newM]; omega, by simp [newM], by simp [newM], ?_, ?_⟩, by simp [newM], by simp [newM], ?_⟩, ?_⟩
  · simp [newM, arOk, h2, h9]
    exact .inr rfl
  · intro w hw; simp [newM] at hw
  · intro j hj
    have := hr j
    unfold rowM at this
    rw [this]; rfl
  · intro j e he; rw [hr j] at he; cases he
  · intro l hl; simp [newM] at hl; rw [hl.2]; simp

theorem hold_len_ (e : Ent) : ∀ (l : List (List Ent)) (i : Nat), (holdersGo e i l).length ≤ l.length
  | [], _ => by simp [holdersGo]
  | x :: l, i => by
    have := hold_len_ e l (i + 1)
    unfold holdersGo
    split <;> simp <;> omega
theorem hold_len {m : Mon} {G S : Nat} {e : Ent} (h : KInv m G S) : (HoldM m e).length ≤ 4096 := by
  unfold HoldM
  rw [if_pos (ok_iff.2 h.ok)]
  have := hold_len_ e m.has 0
  have h1 := h.ok.has
  have h2 := h.ok.hi
  unfold holdM
  omega
theorem any_mem {l : List Int} {g : Int} (h : g ∈ l) : l.any (fun y => decide (y = g)) = true := by
  rw [List.any_eq_true]
  exact ⟨g, h, by simp⟩
theorem contI (W : World) (A : Option Addr) (c n : Nat) (v : Int) (xs : List Int) (h : Rd W W.heap.size 1 A n (Cs encI xs)) (hx : xs.length = n) (hn : n ≤ 4096) (r : Bool) (hr : xs.any (fun y => decide (y = v)) = r) :
    Calls Try.prog 18 #[.slice A n c, .int .i64 v] W fun e W' => e = .returned (.bool r) ∧ Below W.heap.size W W' := by
  subst hx
  rw [← hr]
  refine (ContainsII W.heap.size A c v xs W h (Nat.le_refl _) hn).mono ?_
  rintro e W' ⟨rfl, rfl⟩
  exact ⟨rfl, Below.refl _ _⟩
/-- No slab's generation lies below zero. -/
def GenM (m : Mon) : Prop := ∀ x ∈ m.sl, 0 ≤ x.2
theorem gen_set {s : List Ent} (h : ∀ x ∈ s, 0 ≤ x.2) (i : Nat) (v : Ent) (hv : 0 ≤ v.2) : ∀ x ∈ s.set i v, 0 ≤ x.2 := by
  intro x hx
  rcases List.mem_or_eq_of_mem_set hx with h1 | h1
  · exact h x h1
  · subst h1; exact hv
theorem gen_meant {s : List Ent} (h : ∀ x ∈ s, 0 ≤ x.2) {e : Ent} (hm : meantB s e = true) : 0 ≤ e.2 := by
  obtain ⟨k, hk, hkl, hge⟩ := meantB_out hm
  rw [← hge, List.getD_eq_getElem?_getD, List.getElem?_eq_getElem hkl]
  exact h _ (List.getElem_mem hkl)
theorem do_gen {m : Mon} {w : Wt} {x : Mon × List Ent} (h : GenM m) (hd : DoM m w = .ok x) : GenM x.1 := by
  unfold DoM okR at hd
  split at hd
  case isFalse => cases hd
  obtain ⟨_, _, _, hx⟩ := does_parts hd
  unfold deedM at hx
  dsimp only at hx
  repeat' (split at hx)
  all_goals first
    | cases hx
    | skip
  · exact h
  · exact h
  · intro y hy; rw [(getM_sl _ _ _).1] at hy; exact h y hy
  · unfold touchM; split <;> exact h
  · rename_i h6
    obtain ⟨_, e, r, h1, h2, _, _⟩ := tk_one h6
    have hm := ents_mem (ss := m.sl) (tag := 0) (e := e) (by rw [h1]; simp)
    have h0 : 0 ≤ e.2 := h (0, e.2) (List.mem_of_getElem? hm.2.2)
    intro y hy
    rw [(getM_sl _ _ _).1] at hy
    dsimp only at hy
    rw [h2] at hy
    exact gen_set h _ (1, e.2) h0 y hy
  · rename_i h6
    obtain ⟨_, h1, _, h2⟩ := rt_one h6
    intro y hy
    dsimp only at hy
    rw [h2] at hy
    exact gen_set h _ (2, w.2.2.2) (show (0 : Int) ≤ w.2.2.2 from gen_meant h h1) y hy
  · rename_i h6
    obtain ⟨_, h1, _, _, h2⟩ := gv_one h6
    intro y hy
    dsimp only at hy
    rw [h2] at hy
    have := gen_meant h h1
    exact gen_set h _ _ (by show 0 ≤ w.2.2.2 + 1; omega) y hy
set_option maxRecDepth 100000 in
set_option maxHeartbeats 16000000 in
theorem Keeps_walk (g0 s0 : Int) (A : Option Addr) (c n : Nat) (l : List Wt) (W : World) (hg0 : I64 g0) (hs0 : I64 s0) (hl : Rd W W.heap.size 4 A n (Cs encX l)) (hx : l.length = n) (hn : n ≤ 9223372036854775807) (hU : ∀ e ∈ l, U64 e.2.2.2 ∧ I64 e.1 ∧ I64 e.2.1 ∧ I64 e.2.2.1) :
    Calls Try.prog 4 #[.int .i64 g0, .int .i64 s0, .slice A n c] W fun e W' => e = .returned (.bool true) ∧ Below W.heap.size W W' := by
  have HX := hide hl
  have HLX := hide hx
  have HU := hide hU
  clear hl hx hU
  go_enter Try.func4, Try.ntmps4
  go_wp2_with fail
  with_reducible refine (wakes_any W).mono ?_
  rintro e w2 ⟨rfl, hb⟩
  have HB := hide hb
  clear hb
  obtain ⟨r, hr8, hre0⟩ := wrap_mod g0 8 (by omega)
  have hre : (IntKind.u64.wrap g0).tmod 8 = (r : Int) := hre0
  obtain ⟨s, hs6, hse0⟩ := wrap_mod s0 6 (by omega)
  have hse : (IntKind.u64.wrap s0).tmod 6 = (s : Int) := hse0
  have hr8I : (r : Int) < 8 := by omega
  have hs6I : (s : Int) < 6 := by omega
  clear hre0 hse0 hg0 hs0
  go_upto_region 4 with (fail)
  obtain ⟨G, hG⟩ : ∃ G, 1 + r = G := ⟨_, rfl⟩
  obtain ⟨S, hS⟩ : ∃ S, 2 + s = S := ⟨_, rfl⟩
  have hG0 : (1 : Int) + (r : Int) = (G : Int) := by omega
  have hS0 : (2 : Int) + (s : Int) = (S : Int) := by omega
  rw [hG0, hS0]
  have hG1 : 1 ≤ G := by omega
  have hG8 : G ≤ 8 := by omega
  have hS2 : 2 ≤ S := by omega
  have hS7 : S ≤ 7 := by omega
  clear hre hse hr8I hs6I hG0 hS0 hG hS hr8 hs6
  obtain ⟨hinv, hle0⟩ := newM_inv G S hG1 hG8 hS2 (by omega)
  have HIN := hide hinv
  have HL0 := hide hle0
  clear hinv hle0
  go_wp2_with fail
  have HNM := hide (show NewM (G : Int) (S : Int) = .ok (newM G S, []) from by unfold NewM; rw [if_pos (by omega)]; simp)
  with_reducible refine (New_any (G : Int) (S : Int) w2).mono ?_
  rw [HNM.out]
  rintro e w3 ⟨⟨v, rfl, hm⟩, hb⟩
  have hm : MonOut 0 w3 v (newM G S) := hm
  have ke : outK (.ok (newM G S, []) : Except Int (Mon × List Ent)) = 0 := rfl
  rw [ke]
  obtain ⟨xa0, xa1, xa2, xa3, xn0, xn1, xn2, xn3, xc0, xc1, xc2, xc3, rfl⟩ := hm.form
  have HM := hide hm
  replace HB := hide (HB.out.trans (hb.mono HB.out.size))
  clear ke hb hm HNM
  go_upto_region 5 with (fail)
  have hbx : Below w3.heap.size w3 (w3.alloc (.cells #[.slice xa0 xn0 xc0, .slice xa1 xn1 xc1, .slice xa2 xn2 xc2, .slice xa3 xn3 xc3] 32)) := (Below.refl _ _).alloc (Nat.le_refl _) _
  have R7 := hide (RowAt.new w3 32 #[.slice xa0 xn0 xc0, .slice xa1 xn1 xc1, .slice xa2 xn2 xc2, .slice xa3 xn3 xc3])
  replace HM := hide (HM.out.below hbx)
  have HGB := hide HB.out.size
  replace HB := hide (HB.out.trans (hbx.mono HB.out.size))
  clear hbx
  generalize w3.alloc (.cells #[.slice xa0 xn0 xc0, .slice xa1 xn1 xc1, .slice xa2 xn2 xc2, .slice xa3 xn3 xc3] 32) = w4 at *
  generalize w3.heap.size = g7 at *
  go_wp2_with fail
  go_loopw [42] (fun i wr => ∃ (k : Nat) (m : Mon) (B : Nat) (ya0 ya1 ya2 ya3 : Option Addr) (yn0 yn1 yn2 yn3 yc0 yc1 yc2 yc3 : Nat), k ≤ n ∧ k ≤ 50 ∧ i = .int .i64 k ∧ RowAt wr g7 32 #[.slice ya0 yn0 yc0, .slice ya1 yn1 yc1, .slice ya2 yn2 yc2, .slice ya3 yn3 yc3] ∧ MonOut B wr (.agg #[.slice ya0 yn0 yc0, .slice ya1 yn1 yc1, .slice ya2 yn2 yc2, .slice ya3 yn3 yc3]) m ∧ KInv m G S ∧ GenM m ∧ HasLe m k ∧ Below W.heap.size W wr) (fun i _ => n - (intOf i).toNat)
  case atStart => exact ⟨0, _, 0, _, _, _, _, _, _, _, _, _, _, _, _, Nat.zero_le _, Nat.zero_le _, rfl, R7.out, HM.out, HIN.out, (fun x hx => by simp [newM] at hx; rw [hx.2]; exact Int.le_refl _), HL0.out, HB.out⟩
  case round =>
    clear HM HB R7 HIN HL0
    obtain ⟨k, m, B, ya0, ya1, ya2, ya3, yn0, yn1, yn2, yn3, yc0, yc1, yc2, yc3, hk, hk50, rfl, hr7, hm, hin, hgn, hle, hbw⟩ := hrel
    have HGN := hide hgn
    have R7 := hide hr7
    have HM := hide hm
    have HIN := hide hin
    have HLE := hide hle
    have HF := hide (fit_of hin.ok hle (by omega))
    have HB := hide hbw
    clear hr7 hm hin hgn hle hbw
    by_cases hlt : k < n
    case neg =>
      obtain rfl : k = n := by omega
      go_wp2_with fail
      go_ret
      exact ⟨rfl, HB.out⟩
    case pos =>
      obtain ⟨b, o, rfl, hb, d0, d1, d2, d3⟩ := (HX.out.below HB.out).watchAt HLX.out hlt
      have hbl : b < wr.heap.size := Nat.lt_of_lt_of_le hb HB.out.size
      have hkm : (k : Int) < (n : Int) := by omega
      have HUZ := hide (show U64 (l.getD k (0, 0, 0, 0)).2.2.2 ∧ I64 (l.getD k (0, 0, 0, 0)).1 ∧ I64 (l.getD k (0, 0, 0, 0)).2.1 ∧ I64 (l.getD k (0, 0, 0, 0)).2.2.1 from HU.out _ (by rw [List.getD_eq_getElem?_getD, List.getElem?_eq_getElem (by rw [HLX.out]; exact hlt)]; exact List.getElem_mem _))
      generalize l.getD k (0, 0, 0, 0) = t at *
      obtain ⟨tk, tg, ts, tz⟩ := t
      dsimp only at *
      clear hb
      obtain ⟨w6, hw6⟩ : ∃ w, w = wr := ⟨_, rfl⟩
      subst hw6
      by_cases h50 : k = 50
      · have hd : ((k : Int) == 50) = true := by simp; omega
        have HBN := hide (show Below W.heap.size W (w6.alloc (.cells #[.int .i64 tk, .int .i64 tg, .int .i64 ts, .int .u64 tz] 45)) from HB.out.alloc HB.out.size _)
        clear h50
        go_wp2_with fail
        go_ret
        exact ⟨rfl, HBN.out⟩
      · have hd : ((k : Int) == 50) = false := by rw [beq_eq_false_iff_ne]; omega
        go_upto_region 10 with (refine wpList_store_new rfl 45 _ _ rfl _ #[.int .i64 tk, .int .i64 tg, .int .i64 ts, .int .u64 tz] w6.heap.size rfl rfl rfl (by kernel_rfl) rfl (by simp [Value.oneCell']) ?_)
        have hbn : Below w6.heap.size w6 (w6.alloc (.cells #[.int .i64 tk, .int .i64 tg, .int .i64 ts, .int .u64 tz] 45)) := (Below.refl _ _).alloc (Nat.le_refl _) _
        have R10 := hide (RowAt.new w6 45 #[.int .i64 tk, .int .i64 tg, .int .i64 ts, .int .u64 tz])
        have HL7 := hide R7.out.lt
        have HW6 := hide HB.out.size
        have HK := hide ((Keeps.refl 0 w6).below hbn)
        replace HB := hide (HB.out.trans (hbn.mono HB.out.size))
        clear hbn d0 d1 d2 d3 hbl
        generalize w6.alloc (.cells #[.int .i64 tk, .int .i64 tg, .int .i64 ts, .int .u64 tz] 45) = w7 at *
        generalize hg10 : w6.heap.size = g10 at *
        obtain ⟨j, hjG, hje⟩ := wrap_mod tg G (by omega)
        have hjGI : (j : Int) < (G : Int) := by omega
        have hG0 : ((G : Int) == 0) = false := by rw [beq_eq_false_iff_ne]; omega
        have hG0' : ¬ (G : Int) = 0 := by omega
        have hG8I : (G : Int) ≤ 8 := by omega
        obtain ⟨r0, r1, r2, r3⟩ := row4 R10.out
        have rl := R10.out.lt
        have f1 := R10.out.frozen 1
        go_upto_region 12 with (fail)
        have HG10 := hide (show w6.heap.size ≤ g10 by omega)
        replace R10 := hide (show RowAt (w7.setCell ⟨g10, 1, none⟩ (.int .i64 (j : Int))) g10 45 #[.int .i64 tk, .int .i64 (j : Int), .int .i64 ts, .int .u64 tz] by simpa using R10.out.set 1 (.int .i64 (j : Int)))
        replace HK := hide (HK.out.store (.inr HG10.out) (fun i hi => heap_setCell_ne w7 ⟨g10, 1, none⟩ (.int .i64 (j : Int)) i hi) (by simp))
        replace HB := hide (HB.out.setCell (p := ⟨g10, 1, none⟩) HW6.out (.int .i64 (j : Int)))
        clear r0 r1 r2 r3 rl f1 hg10 hje hG0 hG0'
        generalize w7.setCell ⟨g10, 1, none⟩ (.int .i64 (j : Int)) = w8 at *
        obtain ⟨r0, r1, r2, r3⟩ := row4 R10.out
        have rl := R10.out.lt
        have f2 := R10.out.frozen 2
        obtain ⟨s1, hs1⟩ : ∃ s1, (if ts < 0 then 0 else ts) = s1 := ⟨_, rfl⟩
        have hs10 : 0 ≤ s1 := by rw [← hs1]; split <;> omega
        go_upto_if 60 with (fail)
        go_cut [16] from 47 to 174 (fun s16 wx => RowAt wx g10 45 #[.int .i64 tk, .int .i64 (j : Int), .int .i64 s1, .int .u64 tz] ∧ Keeps 0 w6 wx ∧ Below W.heap.size W wx)
        case first =>
          have R10N := hide (show RowAt (w8.setCell ⟨g10, 2, none⟩ (.int .i64 0)) g10 45 #[.int .i64 tk, .int .i64 (j : Int), .int .i64 0, .int .u64 tz] by simpa using R10.out.set 2 (.int .i64 0))
          have HKN := hide (HK.out.store (.inr HG10.out) (fun i hi => heap_setCell_ne w8 ⟨g10, 2, none⟩ (.int .i64 0) i hi) (by simp))
          have HBN := hide (HB.out.setCell (p := ⟨g10, 2, none⟩) HW6.out (.int .i64 0))
          by_cases hts : ts < 0
          · rw [if_pos hts] at hs1
            subst hs1
            go_wp2_with fail
            go_meet
            case rel => exact ⟨R10N.out, HKN.out, HBN.out⟩
          · rw [if_neg hts] at hs1
            subst hs1
            go_wp2_with fail
            go_meet
            case rel => exact ⟨R10.out, HK.out, HB.out⟩
        case rest =>
          obtain ⟨hr10, hk', hb'⟩ := hcut
          obtain ⟨w9, hw9⟩ : ∃ w, w = wc := ⟨_, rfl⟩
          subst hw9
          rename_i K hK
          refine hK _ _ ?_
          clear hK K r0 r1 r2 r3 rl f2 hs1
          replace R10 := hide hr10
          replace HK := hide hk'
          replace HB := hide hb'
          clear hr10 hk' hb'
          obtain ⟨q, hqS, hqe⟩ := mod_at s1 S hs10 (by omega)
          have hqSI : (q : Int) < (S : Int) := by omega
          have hS0 : ((S : Int) == 0) = false := by rw [beq_eq_false_iff_ne]; omega
          have hS0' : ¬ (S : Int) = 0 := by omega
          have hS7I : (S : Int) ≤ 7 := by omega
          obtain ⟨r0, r1, r2, r3⟩ := row4 R10.out
          have rl := R10.out.lt
          have f2 := R10.out.frozen 2
          go_upto_region 15 with (fail)
          replace HK := hide (HK.out.store (.inr HG10.out) (fun i hi => heap_setCell_ne w9 ⟨g10, 2, none⟩ (.int .i64 (q : Int)) i hi) (by simp))
          replace HB := hide (HB.out.setCell (p := ⟨g10, 2, none⟩) HW6.out (.int .i64 (q : Int)))
          replace R10 := hide (show RowAt (w9.setCell ⟨g10, 2, none⟩ (.int .i64 (q : Int))) g10 45 #[.int .i64 tk, .int .i64 (j : Int), .int .i64 (q : Int), .int .u64 tz] by simpa using R10.out.set 2 (.int .i64 (q : Int)))
          clear r0 r1 r2 r3 rl f2 hqe hS0 hS0' hs10
          generalize w9.setCell ⟨g10, 2, none⟩ (.int .i64 (q : Int)) = w10 at *
          have HM2 := hide (HM.out.other HK.out.1 (fun i _ hl => HK.out.2 i (Nat.zero_le _) hl))
          have R72 := hide (R7.out.heap (HK.out.2 g7 (Nat.zero_le _) R7.out.lt))
          obtain ⟨us, hv, _⟩ := HM2.out.view
          have hyS : yn0 = S := by rw [← hv.l0]; exact HIN.out.slabs
          subst hyS
          obtain ⟨b0, o0, hA0, hb0, e0, e1⟩ := hv.sl.entAt hv.l0 hqS
          subst hA0
          have HSL := hide hv.sl
          have HL0 := hide hv.l0
          clear hv
          have HTE := hide (show (m.sl.getD q (0, 0)).2 = (m.sl.getD ((q : Int)).toNat (0, 0)).2 from rfl)
          generalize hgen : (m.sl.getD q (0, 0)).2 = gen at *
          generalize hst : (m.sl.getD q (0, 0)).1 = st at *
          have HGE := hide hgen
          have HST := hide hst
          have bl0 : b0 < w10.heap.size := hb0
          clear hgen hst hb0
          obtain ⟨r0, r1, r2, r3⟩ := row4 R10.out
          have rl := R10.out.lt
          have f3 := R10.out.frozen 3
          obtain ⟨q0, q1, q2, q3⟩ := row4 R72.out
          have ql := R72.out.lt
          go_upto_region 16 with (fail)
          replace HK := hide (HK.out.store (.inr HG10.out) (fun i hi => heap_setCell_ne w10 ⟨g10, 3, none⟩ (.int .u64 gen) i hi) (by simp))
          replace HB := hide (HB.out.setCell (p := ⟨g10, 3, none⟩) HW6.out (.int .u64 gen))
          replace R10 := hide (show RowAt (w10.setCell ⟨g10, 3, none⟩ (.int .u64 gen)) g10 45 #[.int .i64 tk, .int .i64 (j : Int), .int .i64 (q : Int), .int .u64 gen] by simpa using R10.out.set 3 (.int .u64 gen))
          clear r0 r1 r2 r3 rl f3 q0 q1 q2 q3 ql e0 e1 bl0 R72 HM2 HSL HL0
          generalize w10.setCell ⟨g10, 3, none⟩ (.int .u64 gen) = w11 at *
          replace R7 := hide (R7.out.heap (HK.out.2 g7 (Nat.zero_le _) R7.out.lt))
          replace HM := hide (HM.out.other HK.out.1 (fun i _ hl => HK.out.2 i (Nat.zero_le _) hl))
          clear HK HG10 HL7 HTE
          have HGU := hide (show U64 gen from by
            have h1 := slabOk_out <| (arOk_out HIN.out.ok.ar).2.2 (m.sl.getD q (0, 0)) (by rw [List.getD_eq_getElem?_getD, List.getElem?_eq_getElem (by rw [HIN.out.slabs]; exact hqS)]; exact List.getElem_mem _)
            rw [← HGE.out]
            have h2 := HGN.out (m.sl.getD q (0, 0)) (by rw [List.getD_eq_getElem?_getD, List.getElem?_eq_getElem (by rw [HIN.out.slabs]; exact hqS)]; exact List.getElem_mem _)
            exact ⟨h2, by have := h1.2.2; omega⟩)
          have HME := hide (show meantB m.sl ((q : Int), gen) = true from by
            unfold meantB
            simp only [Int.toNat_natCast, HGE.out]
            have := HIN.out.slabs
            simp; omega)
          have HMT := hide (show metB m ((q : Int), gen) = true from by unfold metB; rw [HME.out, HIN.out.ok.ar]; rfl)
          have HTG := hide (show tagOf m.sl ((q : Int), gen) = st from by unfold tagOf; simp only [Int.toNat_natCast, HST.out])
          have HTM := hide (show tagM m ((q : Int), gen) = st from by unfold tagM; rw [if_pos HMT.out]; exact HTG.out)
          obtain ⟨r0, r1, r2, r3⟩ := row4 R10.out
          have rl := R10.out.lt
          obtain ⟨q0, q1, q2, q3⟩ := row4 R7.out
          have ql := R7.out.lt
          obtain ⟨us, hv, _⟩ := HM.out.view
          have HSL := hide hv.sl
          have HL0 := hide hv.l0
          clear hv
          go_wp2_with fail
          with_reducible refine (tagM_any (some ⟨b0, o0, none⟩) yc0 yn0 (q : Int) gen m w11 HSL.out HL0.out (by have := HIN.out.slabs; have := HL0.out; omega)).mono ?_
          rw [HTM.out, HMT.out]
          rintro e w12 ⟨rfl, hb⟩
          replace R10 := hide (R10.out.below hb)
          replace R7 := hide (R7.out.below hb)
          replace HM := hide (HM.out.below hb)
          replace HB := hide (HB.out.trans (hb.mono HB.out.size))
          clear hb r0 r1 r2 r3 rl q0 q1 q2 q3 ql HSL HL0
          obtain ⟨r0, r1, r2, r3⟩ := row4 R10.out
          have rl := R10.out.lt
          obtain ⟨q0, q1, q2, q3⟩ := row4 R7.out
          have ql := R7.out.lt
          go_upto_block 2 with fail
          go_cut [16] from 89 to 174 (fun s16 wx => Below w12.heap.size w12 wx ∧ (tk = 3 → st ≠ 0) ∧ (tk = 8 → SafeM m ((q : Int), gen) = true))
          case first =>
            by_cases k8 : tk = 8
            · subst k8
              obtain ⟨sb, hsb⟩ : ∃ b, SafeM m ((q : Int), gen) = b := ⟨_, rfl⟩
              have HSB := hide hsb
              go_wp2_with fail
              with_reducible refine (vSafe HM.out HF.out (q : Int) gen sb HSB.out).mono ?_
              rintro e w13 ⟨rfl, hb⟩
              have HBS := hide hb
              clear hb hsb r0 r1 r2 r3 rl q0 q1 q2 q3 ql
              have R10B := hide (R10.out.below HBS.out)
              obtain ⟨r0, r1, r2, r3⟩ := row4 R10B.out
              have rl := R10B.out.lt
              cases sb
              · have R7B := hide (R7.out.below HBS.out)
                have HMB := hide (HM.out.below HBS.out)
                have HBB := hide (HB.out.trans (HBS.out.mono HB.out.size))
                go_wp2_with fail
                go_roundw
                case rel => exact ⟨k + 1, m, B, _, _, _, _, _, _, _, _, _, _, _, _, by omega, by omega, by go_num, R7B.out, HMB.out, HIN.out, HGN.out, le_up HLE.out, HBB.out⟩
                case measure => simp [intOf]; omega
              · go_wp2_with fail
                go_meet
                case rel => exact ⟨HBS.out, fun h => absurd h (by decide), fun _ => HSB.out⟩
            · have hd8 : (tk == 8) = false := by simpa using k8
              by_cases k3 : tk = 3
              · subst k3
                by_cases hs0 : st = 0
                · subst hs0
                  go_wp2_with fail
                  go_roundw
                  case rel => exact ⟨k + 1, m, B, _, _, _, _, _, _, _, _, _, _, _, _, by omega, by omega, by go_num, R7.out, HM.out, HIN.out, HGN.out, le_up HLE.out, HB.out⟩
                  case measure => simp [intOf]; omega
                · have hds : (st == 0) = false := by simpa using hs0
                  have HS0 := hide hs0
                  clear hs0
                  go_wp2_with fail
                  go_meet
                  case rel => exact ⟨Below.refl _ _, fun _ => HS0.out, fun h => absurd h (by decide)⟩
              · have hd3 : (tk == 3) = false := by simpa using k3
                have K3 := hide k3
                have K8 := hide k8
                clear k3 k8
                go_wp2_with fail
                go_meet
                case rel => exact ⟨Below.refl _ _, fun h => absurd h K3.out, fun h => absurd h K8.out⟩
          case rest =>
            obtain ⟨hb, h3, h8⟩ := hcut
            have H3 := hide h3
            have H8 := hide h8
            obtain ⟨w13, hw13⟩ : ∃ w, w = wc := ⟨_, rfl⟩
            subst hw13
            rename_i K hK
            refine hK _ _ ?_
            replace R10 := hide (R10.out.below hb)
            replace R7 := hide (R7.out.below hb)
            replace HM := hide (HM.out.below hb)
            replace HB := hide (HB.out.trans (hb.mono HB.out.size))
            clear hK K hb h3 h8 r0 r1 r2 r3 rl q0 q1 q2 q3 ql
            obtain ⟨r0, r1, r2, r3⟩ := row4 R10.out
            have rl := R10.out.lt
            obtain ⟨q0, q1, q2, q3⟩ := row4 R7.out
            have ql := R7.out.lt
            go_wp2_with fail
            obtain ⟨rr, hrr⟩ : ∃ rr, DoM m (tk, (j : Int), (q : Int), gen) = rr := ⟨_, rfl⟩
            obtain ⟨⟨te, tez⟩, hte⟩ : ∃ e, outE rr = e := ⟨_, rfl⟩
            obtain ⟨kk, hkk⟩ : ∃ kk, outK rr = kk := ⟨_, rfl⟩
            obtain ⟨nm, hnm⟩ : ∃ nm, outM rr = nm := ⟨_, rfl⟩
            with_reducible refine (vDoK (n := nm) (te := te) (tz := tez) (kk := kk) HM.out HF.out HGU.out (by rw [hrr]; exact hnm) (by rw [hrr]; exact hte) (by rw [hrr]; exact hkk)).mono ?_
            rintro e w14 ⟨⟨za0, za1, za2, za3, zn0, zn1, zn2, zn3, zc0, zc1, zc2, zc3, rfl, hm9⟩, hb⟩
            replace R10 := hide (R10.out.below hb)
            replace R7 := hide (R7.out.below hb)
            replace HM := hide (HM.out.below hb)
            replace HB := hide (HB.out.trans (hb.mono HB.out.size))
            have HBS := hide (show g7 < w13.heap.size from ql)
            have HR := hide (And.intro hrr (And.intro hkk (And.intro hnm hte)))
            have M13 := hide hm9
            clear hb q0 q1 q2 q3 ql r0 r1 r2 r3 rl hrr hkk hnm hte hm9
            go_upto_region 21 with (fail)
            have hbn : Below w14.heap.size w14 ((w14.alloc (.cells #[.slice za0 zn0 zc0, .slice za1 zn1 zc1, .slice za2 zn2 zc2, .slice za3 zn3 zc3] 32)).alloc (.cells #[.int .i64 te, .int .u64 tez] 43)) := ((Below.refl _ _).alloc (Nat.le_refl _) _).alloc (by simp) _
            have R13 := hide ((RowAt.new w14 32 #[.slice za0 zn0 zc0, .slice za1 zn1 zc1, .slice za2 zn2 zc2, .slice za3 zn3 zc3]).below ((Below.refl _ _).alloc (Nat.le_refl _) (.cells #[.int .i64 te, .int .u64 tez] 43)))
            have R14 := hide (show RowAt ((w14.alloc (.cells #[.slice za0 zn0 zc0, .slice za1 zn1 zc1, .slice za2 zn2 zc2, .slice za3 zn3 zc3] 32)).alloc (.cells #[.int .i64 te, .int .u64 tez] 43)) (w14.heap.size + 1) 43 #[.int .i64 te, .int .u64 tez] from by have h := RowAt.new (w14.alloc (.cells #[.slice za0 zn0 zc0, .slice za1 zn1 zc1, .slice za2 zn2 zc2, .slice za3 zn3 zc3] 32)) 43 #[.int .i64 te, .int .u64 tez]; simpa using h)
            replace R10 := hide (R10.out.below hbn)
            replace R7 := hide (R7.out.below hbn)
            replace HM := hide (HM.out.below hbn)
            replace M13 := hide (M13.out.below hbn)
            replace HB := hide (HB.out.trans (hbn.mono HB.out.size))
            clear hbn
            generalize ((w14.alloc (.cells #[.slice za0 zn0 zc0, .slice za1 zn1 zc1, .slice za2 zn2 zc2, .slice za3 zn3 zc3] 32)).alloc (.cells #[.int .i64 te, .int .u64 tez] 43)) = w15 at *
            generalize w14.heap.size = g13 at *
            by_cases hk0 : kk = 0
            case neg =>
              have hd1 : (kk != 0) = true := by simpa using hk0
              have hd2 : (kk == 0) = false := by simpa using hk0
              clear hk0
              go_wp2_with fail
              go_roundw
              case rel => exact ⟨k + 1, m, B, _, _, _, _, _, _, _, _, _, _, _, _, by omega, by omega, by go_num, R7.out, HM.out, HIN.out, HGN.out, le_up HLE.out, HB.out⟩
              case measure => simp [intOf]; omega
            case pos =>
              subst hk0
              obtain ⟨hrr, hkk, hnm, hte⟩ := HR.out
              obtain ⟨x, hdx⟩ := do_err (show outK (DoM m (tk, (j : Int), (q : Int), gen)) = 0 by rw [hrr]; exact hkk)
              have hx1 : x.1 = nm := by rw [← hnm, ← hrr, hdx]; rfl
              have hks := keep_step HIN.out HME.out (fun h => by rw [HTG.out]; exact H3.out h) H8.out hdx
              rw [hx1] at hks
              have HI9 := hide hks.1
              have HTK := hide (show tk = 6 → (rowM nm j).any (fun y => decide (y = (te, tez))) = true from fun h => by
                obtain ⟨e, he1, he2⟩ := hks.2 h
                have h1 : (te, tez) = e := by rw [← hte, ← hrr, hdx]; show x.2.getLastD (0, 0) = e; rw [he1]; rfl
                rw [h1]
                exact hasE_iff.2 he2)
              have HG9 := hide (show GenM nm from by rw [← hx1]; exact do_gen HGN.out hdx)
              have HL9 := hide (show HasLe nm (k + 1) from by rw [← hx1]; exact do_le HLE.out hdx)
              have HF9 := hide (fit_of hks.1.ok HL9.out (by omega))
              clear hrr hkk hnm hte hdx hx1 hks HR rr x HM H3 H8 HME HMT HTG HTM HGE HST HGU HIN HLE HF
              obtain ⟨us, hv, hvr⟩ := M13.out.view
              clear hvr
              have HV := hide hv
              have hz2 : zn2 = G := by rw [← hv.has.len, ← rowsQ_len, ← hv.hs, HI9.out.ok.has]; exact HI9.out.pins
              clear hv
              subst hz2
              obtain ⟨r0, r1, r2, r3⟩ := row4 R10.out
              have rl := R10.out.lt
              obtain ⟨s0, s1', s2, s3⟩ := row4 R13.out
              have sl := R13.out.lt
              obtain ⟨t0, t1⟩ := And.intro (row20 R14.out) (row21 R14.out)
              have tl := R14.out.lt
              go_upto_region 22 with (fail)
              obtain ⟨b2, o2, rfl, hb2, e0, hr2⟩ := HV.out.has.at_ hjG
              have HRJ := hide (show rowM nm j = (us.getD j hmZ).q from by unfold rowM; rw [HV.out.hs]; exact rowsQ_at us j)
              rw [HRJ.out] at HTK
              have HLQ := hide (show (us.getD j hmZ).q.length ≤ 4095 from by
                have h1 := HL9.out (us.getD j hmZ).q (by rw [HV.out.hs]; unfold rowsQ; exact List.mem_map_of_mem (getH_mem (by rw [HV.out.has.len]; exact hjG)))
                omega)
              have HR2 := hide hr2
              clear hr2 HRJ
              generalize us.getD j hmZ = hu at *
              obtain ⟨uA, uc, uq⟩ := hu
              dsimp only at *
              have bl2 : b2 < w15.heap.size := hb2
              clear hb2
              go_cut [134] from 121 to 174 (fun s134 wx => s134 = .bool false ∧ Below w15.heap.size w15 wx)
              case first =>
                by_cases h6 : tk = 6
                · have HC1 := hide (fun z => ContainsEE w15.heap.size uA uc te tez uq (via w15 z) (HR2.out.below (via_below w15 z)) (via_below w15 z).size (Nat.le_trans HLQ.out (by omega)) true (HTK.out h6))
                  subst h6
                  refine wp_region_via (by kernel_rfl) (by kernel_rfl) ?_
                  repeat (go_big_quiet_step (first | (go_at_call 15; with_reducible exact via_of (HC1.out _))))
                  refine via_out fun w16 hb => ?_
                  have HBQ := hide hb
                  clear hb HC1
                  go_wp2_with fail
                  go_meet
                  case rel => exact ⟨rfl, HBQ.out⟩
                · have hd6 : (tk == 6) = false := by simpa using h6
                  clear h6
                  go_quiet (fail)
                  go_wp2_with fail
                  go_meet
                  case rel => exact ⟨rfl, below_drewN (Below.refl _ _) _⟩
              case rest =>
                obtain ⟨rfl, hb⟩ := hcut
                obtain ⟨w16, hw16⟩ : ∃ w, w = wc := ⟨_, rfl⟩
                subst hw16
                rename_i K hK
                refine hK _ _ ?_
                replace R7 := hide (R7.out.below hb)
                replace R13 := hide (R13.out.below hb)
                replace M13 := hide (M13.out.below hb)
                replace HB := hide (HB.out.trans (hb.mono HB.out.size))
                clear hK K hb r0 r1 r2 r3 rl s0 s1' s2 s3 sl t0 t1 tl e0 bl2 HR2 HTK HLQ HV uA uc uq us R10 R14
                obtain ⟨us, hv, hvr⟩ := M13.out.view
                have HV := hide hv
                clear hv hvr
                have HLR := hide (show ∀ g, g < zn2 → (us.getD g hmZ).q.length ≤ 4095 ∧ rowM nm g = (us.getD g hmZ).q from fun g hg => ⟨by
                  have h1 := HL9.out (us.getD g hmZ).q (by rw [HV.out.hs]; unfold rowsQ; exact List.mem_map_of_mem (getH_mem (by rw [HV.out.has.len]; exact hg)))
                  omega, by unfold rowM; rw [HV.out.hs]; exact rowsQ_at us g⟩)
                obtain ⟨s0, s1', s2, s3⟩ := row4 R13.out
                have sl := R13.out.lt
                go_wp2_with fail
                go_loopw [138] (fun i wr => ∃ g : Nat, g ≤ zn2 ∧ i = .int .i64 g ∧ Below w16.heap.size w16 wr) (fun i _ => zn2 - (intOf i).toNat)
                case atStart => exact ⟨0, Nat.zero_le _, rfl, Below.refl _ _⟩
                case round =>
                  obtain ⟨g, hg, rfl, hbr⟩ := hrel
                  obtain ⟨w17, hw17⟩ : ∃ w, w = wr := ⟨_, rfl⟩
                  subst hw17
                  have HBR := hide hbr
                  clear hbr s0 s1' s2 s3 sl
                  have R13B := hide (R13.out.below HBR.out)
                  by_cases hgl : g < zn2
                  · have hgm : (g : Int) < (zn2 : Int) := by omega
                    obtain ⟨b3, o3, hA2, hb2, e0, hr2⟩ := HV.out.has.at_ hgl
                    have e0 := (HBR.out.cell (p := ⟨b3, o3 + g, none⟩) hb2).trans e0
                    have HRW := hide (hr2.belowX HBR.out)
                    obtain ⟨hlq, hrq⟩ := HLR.out g hgl
                    have HRQ := hide hrq
                    have bl2 : b3 < w17.heap.size := Nat.lt_of_lt_of_le hb2 HBR.out.size
                    clear hb2 hrq hr2
                    generalize us.getD g hmZ = hu at *
                    obtain ⟨uA, uc, uq⟩ := hu
                    dsimp only at *
                    cases hA2
                    obtain ⟨s0, s1', s2, s3⟩ := row4 R13B.out
                    have sl := R13B.out.lt
                    obtain ⟨ul, hul⟩ : ∃ ul, uq.length = ul := ⟨_, rfl⟩
                    rw [hul] at e0 HRW hlq
                    go_wp2_with fail
                    clear e0 bl2
                    go_loopw [145] (fun i wr => ∃ x : Nat, x ≤ ul ∧ i = .int .i64 x ∧ Below w17.heap.size w17 wr) (fun i _ => ul - (intOf i).toNat)
                    case atStart => exact ⟨0, Nat.zero_le _, rfl, Below.refl _ _⟩
                    case round =>
                      obtain ⟨x, hx, rfl, hbx⟩ := hrel
                      obtain ⟨w18, hw18⟩ : ∃ w, w = wr := ⟨_, rfl⟩
                      subst hw18
                      have HBX := hide hbx
                      clear hbx
                      by_cases hxl : x < ul
                      · have hxm : (x : Int) < (ul : Int) := by omega
                        obtain ⟨b4, o4, rfl, hb4, y0, y1⟩ := (HRW.out.belowX HBX.out).entAt hul hxl
                        have HME := hide (show uq.getD x (0, 0) ∈ rowM nm g from by rw [HRQ.out, List.getD_eq_getElem?_getD, List.getElem?_eq_getElem (by rw [hul]; exact hxl)]; exact List.getElem_mem _)
                        generalize uq.getD x (0, 0) = xe at *
                        obtain ⟨xs1, xz⟩ := xe
                        dsimp only at *
                        go_upto_region 30 with (refine wpList_store_new rfl 43 _ _ rfl _ #[.int .i64 xs1, .int .u64 xz] w18.heap.size rfl rfl rfl (by kernel_rfl) rfl (by simp [Value.oneCell']) ?_)
                        have hbn : Below w18.heap.size w18 (w18.alloc (.cells #[.int .i64 xs1, .int .u64 xz] 43)) := (Below.refl _ _).alloc (Nat.le_refl _) _
                        have R19 := hide (RowAt.new w18 43 #[.int .i64 xs1, .int .u64 xz])
                        replace HBX := hide (HBX.out.trans (hbn.mono HBX.out.size))
                        clear hbn y0 y1 hb4
                        generalize w18.alloc (.cells #[.int .i64 xs1, .int .u64 xz] 43) = w19 at *
                        generalize w18.heap.size = g19 at *
                        have R13C := hide (R13B.out.below HBX.out)
                        have MC := hide (M13.out.below (HBR.out.trans (HBX.out.mono HBR.out.size)))
                        obtain ⟨hkg, hkh, hks⟩ := keep_good HI9.out HME.out
                        have HKG := hide hkg
                        have HKH := hide hkh
                        have HKS := hide hks
                        clear hkg hkh hks s0 s1' s2 s3 sl
                        obtain ⟨s0, s1x, s2, s3⟩ := row4 R13C.out
                        have y0 := row20 R19.out
                        have y1 := row21 R19.out
                        obtain ⟨hh, hhe⟩ : ∃ hh, HoldM nm (xs1, xz) = hh := ⟨_, rfl⟩
                        obtain ⟨hl, hhl⟩ : ∃ hl, hh.length = hl := ⟨_, rfl⟩
                        have HHE := hide hhe
                        have HHL := hide hhl
                        have HH4 := hide (show hl ≤ 4096 from by rw [← hhl, ← hhe]; exact hold_len HI9.out)
                        clear hhe hhl
                        refine wp_region_held_drew (S := fun wX => Below w19.heap.size w19 wX) (by kernel_rfl) (Below.refl _ _).drew (fun hHeld => ?_)
                        clear hHeld
                        have HQ := hide ((Below.refl w19.heap.size w19).drew)
                        have hS0 := HQ.out
                        (refine wpAnyH_take (i := 0) (v := ?_) rfl (by kernel_rfl) (by kernel_rfl) (by kernel_rfl) (fun _ _ _ h => h) (Or.inl ⟨by kernel_rfl, ?_⟩) (by assumption) ?_; rotate_left; (focus (intro w hSw; (try dsimp only at hSw); have kf0 := kept hSw s0; have kf1 := kept hSw s1x; have kf2 := kept hSw s2; have kf3 := kept hSw s3; go_simp; first | done | with_reducible rfl)); (try simp only [Act.put, List.getElem_toArray, List.getElem_cons_succ, List.getElem_cons_zero, List.setIfInBounds_toArray, List.set_cons_zero, List.set_cons_succ]))
                        (refine wpAnyH_take (i := 1) (v := ?_) rfl (by kernel_rfl) (by kernel_rfl) (by kernel_rfl) (fun _ _ _ h => h) (Or.inl ⟨by kernel_rfl, ?_⟩) (by assumption) ?_; rotate_left; (focus (intro w hSw; (try dsimp only at hSw); go_simp; first | done | with_reducible rfl)); (try simp only [Act.put, List.getElem_toArray, List.getElem_cons_succ, List.getElem_cons_zero, List.setIfInBounds_toArray, List.set_cons_zero, List.set_cons_succ]))
                        (refine wpAnyH_take (i := 2) (v := ?_) rfl (by kernel_rfl) (by kernel_rfl) (by kernel_rfl) (fun _ _ _ h => h) (Or.inl ⟨by kernel_rfl, ?_⟩) (by assumption) ?_; rotate_left; (focus (intro w hSw; (try dsimp only at hSw); have kf0 := kept hSw y0; have kf1 := kept hSw y1; go_simp; first | done | with_reducible rfl)); (try simp only [Act.put, List.getElem_toArray, List.getElem_cons_succ, List.getElem_cons_zero, List.setIfInBounds_toArray, List.set_cons_zero, List.set_cons_succ]))
                        refine wpAnyH_ready (rs := [3]) (by kernel_rfl) (by simp) ?_
                        refine (AllReadyH.cons rfl (fun K1 hK1 => ?_) AllReadyH.nil)
                        rw [if_pos (by kernel_rfl)]
                        go_simp
                        with_reducible refine (watch_any 4 (g : Int) xs1 xz w19.drew).mono ?_
                        rintro e v1 ⟨rfl, hb⟩
                        replace HQ := hide (HQ.out.trans (hb.mono HQ.out.size))
                        clear hb
                        refine hK1.out _ _ HQ.out (fun _ => ?_)
                        clear hK1 K1 hS0
                        have hS0 := HQ.out
                        (try simp only [Act.put, List.getElem_toArray, List.getElem_cons_succ, List.getElem_cons_zero, List.setIfInBounds_toArray, List.set_cons_zero, List.set_cons_succ])
                        refine wpAnyH_ready (rs := [4]) (by kernel_rfl) (by simp) ?_
                        refine (AllReadyH.cons rfl (fun K2 hK2 => ?_) AllReadyH.nil)
                        rw [if_pos (by kernel_rfl)]
                        go_simp
                        with_reducible refine (vGood (MC.out.below HQ.out) HF9.out 4 (g : Int) xs1 xz true HKG.out).mono ?_
                        rintro e v2 ⟨rfl, hb⟩
                        replace HQ := hide (HQ.out.trans (hb.mono HQ.out.size))
                        clear hb
                        refine hK2.out _ _ HQ.out (fun _ => ?_)
                        clear hK2 K2 hS0
                        have hS0 := HQ.out
                        (try simp only [Act.put, List.getElem_toArray, List.getElem_cons_succ, List.getElem_cons_zero, List.setIfInBounds_toArray, List.set_cons_zero, List.set_cons_succ])
                        (refine wpAnyH_take (i := 5) (v := ?_) rfl (by kernel_rfl) (by kernel_rfl) (by kernel_rfl) (fun _ _ _ h => h) (Or.inl ⟨by kernel_rfl, ?_⟩) (by assumption) ?_; rotate_left; (focus (intro w hSw; (try dsimp only at hSw); go_simp; first | done | with_reducible rfl)); (try simp only [Act.put, List.getElem_toArray, List.getElem_cons_succ, List.getElem_cons_zero, List.setIfInBounds_toArray, List.set_cons_zero, List.set_cons_succ]))
                        (refine wpAnyH_take (i := 6) (v := ?_) rfl (by kernel_rfl) (by kernel_rfl) (by kernel_rfl) (fun _ _ _ h => h) (Or.inl ⟨by kernel_rfl, ?_⟩) (by assumption) ?_; rotate_left; (focus (intro w hSw; (try dsimp only at hSw); go_simp; first | done | with_reducible rfl)); (try simp only [Act.put, List.getElem_toArray, List.getElem_cons_succ, List.getElem_cons_zero, List.setIfInBounds_toArray, List.set_cons_zero, List.set_cons_succ]))
                        (refine wpAnyH_take (i := 7) (v := ?_) rfl (by kernel_rfl) (by kernel_rfl) (by kernel_rfl) (fun _ _ _ h => h) (Or.inl ⟨by kernel_rfl, ?_⟩) (by assumption) ?_; rotate_left; (focus (intro w hSw; (try dsimp only at hSw); have kf0 := kept hSw s0; have kf1 := kept hSw s1x; have kf2 := kept hSw s2; have kf3 := kept hSw s3; go_simp; first | done | with_reducible rfl)); (try simp only [Act.put, List.getElem_toArray, List.getElem_cons_succ, List.getElem_cons_zero, List.setIfInBounds_toArray, List.set_cons_zero, List.set_cons_succ]))
                        (refine wpAnyH_take (i := 8) (v := ?_) rfl (by kernel_rfl) (by kernel_rfl) (by kernel_rfl) (fun _ _ _ h => h) (Or.inl ⟨by kernel_rfl, ?_⟩) (by assumption) ?_; rotate_left; (focus (intro w hSw; (try dsimp only at hSw); have kf0 := kept hSw y0; have kf1 := kept hSw y1; go_simp; first | done | with_reducible rfl)); (try simp only [Act.put, List.getElem_toArray, List.getElem_cons_succ, List.getElem_cons_zero, List.setIfInBounds_toArray, List.set_cons_zero, List.set_cons_succ]))
                        (refine wpAnyH_take (i := 10) (v := ?_) rfl (by kernel_rfl) (by kernel_rfl) (by kernel_rfl) (fun _ _ _ h => h) (Or.inl ⟨by kernel_rfl, ?_⟩) (by assumption) ?_; rotate_left; (focus (intro w hSw; (try dsimp only at hSw); go_simp; first | done | with_reducible rfl)); (try simp only [Act.put, List.getElem_toArray, List.getElem_cons_succ, List.getElem_cons_zero, List.setIfInBounds_toArray, List.set_cons_zero, List.set_cons_succ]))
                        refine wpAnyH_ready (rs := [9]) (by kernel_rfl) (by simp) ?_
                        refine (AllReadyH.cons rfl (fun K3 hK3 => ?_) AllReadyH.nil)
                        rw [if_pos (by kernel_rfl)]
                        go_simp
                        with_reducible refine (vHolders (MC.out.below HQ.out) HF9.out xs1 xz hh HHE.out hl HHL.out).mono ?_
                        rintro e v3 ⟨⟨AH, cH, rfl, hhr⟩, hb⟩
                        have HHR := hide hhr
                        clear hhr
                        replace HQ := hide (HQ.out.trans (hb.mono HQ.out.size))
                        clear hb
                        refine hK3.out _ _ HQ.out (fun _ => ?_)
                        clear hK3 K3 hS0
                        have hS0 := HQ.out
                        (try simp only [Act.put, List.getElem_toArray, List.getElem_cons_succ, List.getElem_cons_zero, List.setIfInBounds_toArray, List.set_cons_zero, List.set_cons_succ])
                        refine wpAnyH_ready (rs := [11]) (by kernel_rfl) (by simp) ?_
                        refine (AllReadyH.cons rfl (fun K4 hK4 => ?_) AllReadyH.nil)
                        rw [if_pos (by kernel_rfl)]
                        go_simp
                        with_reducible refine (contI v3 AH cH hl (g : Int) hh HHR.out HHL.out HH4.out true (by rw [← HHE.out]; exact any_mem HKH.out)).mono ?_
                        rintro e v4 ⟨rfl, hb⟩
                        replace HQ := hide (HQ.out.trans (hb.mono HQ.out.size))
                        clear hb
                        refine hK4.out _ _ HQ.out (fun _ => ?_)
                        clear hK4 K4 hS0
                        have hS0 := HQ.out
                        (try simp only [Act.put, List.getElem_toArray, List.getElem_cons_succ, List.getElem_cons_zero, List.setIfInBounds_toArray, List.set_cons_zero, List.set_cons_succ])
                        (refine wpAnyH_take (i := 12) (v := ?_) rfl (by kernel_rfl) (by kernel_rfl) (by kernel_rfl) (fun _ _ _ h => h) (Or.inl ⟨by kernel_rfl, ?_⟩) (by assumption) ?_; rotate_left; (focus (intro w hSw; (try dsimp only at hSw); go_simp; first | done | with_reducible rfl)); (try simp only [Act.put, List.getElem_toArray, List.getElem_cons_succ, List.getElem_cons_zero, List.setIfInBounds_toArray, List.set_cons_zero, List.set_cons_succ]))
                        (refine wpAnyH_take (i := 13) (v := ?_) rfl (by kernel_rfl) (by kernel_rfl) (by kernel_rfl) (fun _ _ _ h => h) (Or.inl ⟨by kernel_rfl, ?_⟩) (by assumption) ?_; rotate_left; (focus (intro w hSw; (try dsimp only at hSw); go_simp; first | done | with_reducible rfl)); (try simp only [Act.put, List.getElem_toArray, List.getElem_cons_succ, List.getElem_cons_zero, List.setIfInBounds_toArray, List.set_cons_zero, List.set_cons_succ]))
                        (refine wpAnyH_take (i := 14) (v := ?_) rfl (by kernel_rfl) (by kernel_rfl) (by kernel_rfl) (fun _ _ _ h => h) (Or.inl ⟨by kernel_rfl, ?_⟩) (by assumption) ?_; rotate_left; (focus (intro w hSw; (try dsimp only at hSw); go_simp; first | done | with_reducible rfl)); (try simp only [Act.put, List.getElem_toArray, List.getElem_cons_succ, List.getElem_cons_zero, List.setIfInBounds_toArray, List.set_cons_zero, List.set_cons_succ]))
                        (refine wpAnyH_take (i := 15) (v := ?_) rfl (by kernel_rfl) (by kernel_rfl) (by kernel_rfl) (fun _ _ _ h => h) (Or.inl ⟨by kernel_rfl, ?_⟩) (by assumption) ?_; rotate_left; (focus (intro w hSw; (try dsimp only at hSw); have kf0 := kept hSw s0; have kf1 := kept hSw s1x; have kf2 := kept hSw s2; have kf3 := kept hSw s3; go_simp; first | done | with_reducible rfl)); (try simp only [Act.put, List.getElem_toArray, List.getElem_cons_succ, List.getElem_cons_zero, List.setIfInBounds_toArray, List.set_cons_zero, List.set_cons_succ]))
                        (refine wpAnyH_take (i := 16) (v := ?_) rfl (by kernel_rfl) (by kernel_rfl) (by kernel_rfl) (fun _ _ _ h => h) (Or.inl ⟨by kernel_rfl, ?_⟩) (by assumption) ?_; rotate_left; (focus (intro w hSw; (try dsimp only at hSw); have kf0 := kept hSw y0; have kf1 := kept hSw y1; go_simp; first | done | with_reducible rfl)); (try simp only [Act.put, List.getElem_toArray, List.getElem_cons_succ, List.getElem_cons_zero, List.setIfInBounds_toArray, List.set_cons_zero, List.set_cons_succ]))
                        refine wpAnyH_ready (rs := [17]) (by kernel_rfl) (by simp) ?_
                        refine (AllReadyH.cons rfl (fun K5 hK5 => ?_) AllReadyH.nil)
                        rw [if_pos (by kernel_rfl)]
                        go_simp
                        with_reducible refine (vSafe (MC.out.below HQ.out) HF9.out xs1 xz false HKS.out).mono ?_
                        rintro e v5 ⟨rfl, hb⟩
                        replace HQ := hide (HQ.out.trans (hb.mono HQ.out.size))
                        clear hb
                        refine hK5.out _ _ HQ.out (fun _ => ?_)
                        clear hK5 K5 hS0
                        have hS0 := HQ.out
                        (try simp only [Act.put, List.getElem_toArray, List.getElem_cons_succ, List.getElem_cons_zero, List.setIfInBounds_toArray, List.set_cons_zero, List.set_cons_succ])
                        (refine wpAnyH_take (i := 18) (v := ?_) rfl (by kernel_rfl) (by kernel_rfl) (by kernel_rfl) (fun _ _ _ h => h) (Or.inl ⟨by kernel_rfl, ?_⟩) (by assumption) ?_; rotate_left; (focus (intro w hSw; (try dsimp only at hSw); go_simp; first | done | with_reducible rfl)); (try simp only [Act.put, List.getElem_toArray, List.getElem_cons_succ, List.getElem_cons_zero, List.setIfInBounds_toArray, List.set_cons_zero, List.set_cons_succ]))
                        clear hS0
                        refine wpAnyH_done (by kernel_rfl) ?_ _
                        have HBX2 := hide (HBX.out.trans (HQ.out.mono HBX.out.size))
                        clear s0 s1x s2 s3 y0 y1
                        go_wp2_with fail
                        go_roundw
                        case rel => exact ⟨x + 1, by omega, by go_num, HBX2.out⟩
                        case measure => simp [intOf]; omega
                      · obtain rfl : x = ul := by omega
                        clear s0 s1' s2 s3 sl
                        have HBG := hide (HBR.out.trans (HBX.out.mono HBR.out.size))
                        go_wp2_with fail
                        go_roundw
                        case rel => exact ⟨g + 1, by omega, by go_num, HBG.out⟩
                        case measure => simp [intOf]; omega
                  · have hgm : ¬ (g : Int) < (zn2 : Int) := by omega
                    have HBG := hide (HB.out.trans (HBR.out.mono HB.out.size))
                    have MG := hide (M13.out.below HBR.out)
                    have R7G := hide (R7.out.below HBR.out)
                    have HOK := hide (show errM nm.ok = 0 from by rw [ok_iff.2 HI9.out.ok]; rfl)
                    obtain ⟨s0, s1x, s2, s3⟩ := row4 R13B.out
                    have sl := R13B.out.lt
                    go_wp2_with fail
                    with_reducible refine (vCheck MG.out HF9.out 0 HOK.out).mono ?_
                    rintro e w20 ⟨rfl, hb⟩
                    have R13D := hide (R13B.out.below hb)
                    replace R7G := hide (R7G.out.below hb)
                    replace MG := hide (MG.out.below hb)
                    replace HBG := hide (HBG.out.trans (hb.mono HBG.out.size))
                    clear hb s0 s1x s2 s3 sl
                    obtain ⟨q0, q1, q2, q3⟩ := row4 R7G.out
                    have ql := R7G.out.lt
                    have f0 := R7G.out.frozen 0
                    have f1 := R7G.out.frozen 1
                    have f2 := R7G.out.frozen 2
                    have f3 := R7G.out.frozen 3
                    obtain ⟨s0, s1x, s2, s3⟩ := row4 R13D.out
                    have sl := R13D.out.lt
                    have HL := laidM4_of (n := W.heap.size) (v0 := .slice za0 zn0 zc0) (v1 := .slice za1 zn1 zc1) (v2 := .slice (some ⟨b2, o2, none⟩) zn2 zc2) (v3 := .slice za3 zn3 zc3) R7G.out HGB.out
                    have HN := hide (MG.out.row R7G.out HL.2.1 HL.2.2.size (.inl HBS.out))
                    have HBN := hide (HBG.out.trans HL.2.2)
                    have R7N := hide HL.1
                    clear HL
                    go_wp2_with fail
                    go_roundw
                    case rel => exact ⟨k + 1, nm, _, _, _, _, _, _, _, _, _, _, _, _, _, by omega, by omega, by go_num, R7N.out, HN.out, HI9.out, HG9.out, HL9.out, HBN.out⟩
                    case measure => simp [intOf]; omega
end Go.Proofs.Ytfpbabafeecncaa
