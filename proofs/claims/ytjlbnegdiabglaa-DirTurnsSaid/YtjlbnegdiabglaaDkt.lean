/-
  DirTurns, walked.
-/
import Derived.Test.YtjlbnegdiabglaaDjc
import Derived.Test.YtjlbnegdiabglaaDkc
import Derived.Test.YtjlbnegdiabglaaDkf
import Derived.Test.YtjlbnegdiabglaaDkg
import Derived.Test.YtjlbnegdiabglaaHeldT
import Derived.BigQuiet
import Derived.Deep.RegionHeld3
import Derived.Deep.CutRange
import Derived.Deep.CutBlock
set_option linter.unusedSimpArgs false
set_option linter.unusedVariables false
namespace Go.Proofs.Ytjlbnegdiabglaa
open Go Go.RowKit
attribute [local go_sem] via_cell via_frozen

theorem own_box_ne {w : World} {base g n : Nat} {e t : TypeId} {sz : Nat} {v : Value} {xs : List Value} {cs : Array Value} (h : w.ownsRow base e sz v n xs) (hb : RowAt w g t cs) (hne : t ≠ e) : some g ≠ v.ownBlock := by
  obtain ⟨_, (⟨h1, _⟩ | ⟨gg, cap, cur, hv, _, hh, _⟩)⟩ := h
  · rw [h1]; intro e; cases e
  · rw [hv]
    intro e
    have e : some g = some gg := e
    injection e with e
    subst e
    exact row_ne (show RowAt w g _ cur from hh) hb (Ne.symm hne) rfl
theorem grown_set {W w : World} {g o : Nat} {v : Value} (h : W.grownBy w (some g)) : W.grownBy (w.setCell ⟨g, o, none⟩ v) (some g) :=
  ⟨h.os, h.tape, h.output, by simpa using h.size, fun j hj hne => by rw [heap_setCell_ne _ _ _ _ (fun e => hne (by rw [e]))]; exact h.block j hj hne⟩
theorem grown_alloc {W w : World} {row : Option Nat} (h : W.grownBy w row) (o : Obj) : W.grownBy (w.alloc o) row :=
  ⟨h.os, h.tape, h.output, by rw [World.size_alloc]; exact Nat.le_succ_of_le h.size, fun j hj hne => by rw [Below.heap_alloc _ _ _ (Nat.lt_of_lt_of_le hj h.size)]; exact h.block j hj hne⟩
theorem grown_refl (W : World) (row : Option Nat) : W.grownBy W row := ⟨rfl, rfl, rfl, Nat.le_refl _, fun _ _ _ => rfl⟩
/-- Another own row stands behind a spoil. -/
theorem own_past {w w' : World} {base : Nat} {e : TypeId} {sz n : Nat} {v : Value} {xs : List Value} {row : Option Nat} (h : w.ownsRow base e sz v n xs) (hg : w.grownBy w' row) (hne : ∀ g, v.ownBlock = some g → some g ≠ row) : w'.ownsRow base e sz v n xs :=
  own_at h (fun g hgg => hg.block g (own_blk h hgg).2 (hne g hgg))
set_option maxHeartbeats 1000000 in
theorem spoil_grown (base : Nat) (A : Option Addr) (c : Nat) (dep : Int) (es : List En) (W : World) (h : W.ownsRow base 31 2 (.slice A es.length c) es.length (Cs encE es)) (hb : base ≤ W.heap.size) (hl : es.length ≤ 4096) :
    Calls Try.prog 30 #[.agg #[.int .i64 dep, .slice A es.length c]] W fun e W' => e = .returned (.tuple #[]) ∧ W.grownBy W' (Value.slice A es.length c).ownBlock := by
  have hg0 := Gens.of es
  generalize Cs encE es = xs0 at *
  generalize es.length = n at *
  have hba := (Below.refl _ W).alloc (Nat.le_refl _) (.cells #[.int .i64 dep, .slice A n c] 24)
  have R1 := hide (RowAt.new W 24 #[.int .i64 dep, .slice A n c])
  have O := hide (own_keepB h hba)
  have HGR := hide (grown_alloc (grown_refl W (Value.slice A n c).ownBlock) (.cells #[.int .i64 dep, .slice A n c] 24))
  have HNE := hide (show some W.heap.size ≠ (Value.slice A n c).ownBlock from own_box_ne O.out R1.out (by decide))
  clear h hba
  go_enter Try.func30, Try.ntmps30
  go_upto_region 1 with (fail)
  generalize W.alloc (.cells #[.int .i64 dep, .slice A n c] 24) = w1 at *
  have q1 := row21 R1.out
  have ql := R1.out.lt
  go_wp2_with fail
  clear q1 ql
  go_loopw [6] (fun iv wr => ∃ (i : Nat) (xs : List Value), i ≤ n ∧ iv = .int .i64 i ∧ Gens n xs ∧ wr.ownsRow base 31 2 (.slice A n c) n xs ∧ RowAt wr W.heap.size 24 #[.int .i64 dep, .slice A n c] ∧ W.grownBy wr (Value.slice A n c).ownBlock) (fun iv _ => n - (intOf iv).toNat)
  case atStart => exact ⟨0, xs0, Nat.zero_le _, rfl, hg0, O.out, R1.out, HGR.out⟩
  case round =>
    obtain ⟨i, xs, hi, rfl, hg, ho, hr, hbl⟩ := hrel
    have HG := hide hg
    have HO := hide ho
    have HR := hide hr
    have HBL := hide hbl
    clear hg ho hr hbl
    by_cases hlt : i < n
    · obtain ⟨g, hA, hge, hgl, hfr, hc⟩ := own_row1 HO.out (by omega)
      subst hA
      have hgne : g ≠ W.heap.size := fun e => HNE.out (by rw [← e]; rfl)
      obtain ⟨u, hu⟩ := HG.out i hlt
      have e1 := hc _ _ hu
      have f1 := hfr (i * 2 + 1)
      have q1 := row21 HR.out
      have ql := HR.out.lt
      have hiI : (i : Int) < (n : Int) := by omega
      have hne2 : ¬ g = W.heap.size := hgne
      have HGN := hide (fun v => Gens.set (k := i) (u := v) HG.out)
      have HON := hide (fun v => own_set1 HO.out (i * 2 + 1) v)
      have HRN := hide (fun v => HR.out.setNe (g2 := g) (o := i * 2 + 1) (v := v) (Ne.symm hgne))
      have HBN := hide (fun v => grown_set (o := i * 2 + 1) (v := v) (show W.grownBy wr (some g) from HBL.out))
      clear hc hfr
      go_wp2_with fail
      go_roundw
      case rel => exact ⟨i + 1, _, by omega, by go_num, HGN.out _, HON.out _, HRN.out _, HBN.out _⟩
      case measure => simp [intOf]; omega
    · obtain rfl : i = n := by omega
      go_wp2_with fail
      go_end0
      exact ⟨rfl, HBL.out⟩
/-- What a directory that may be answered is: its depth, its entries, the error. -/
def dv : Except Int (Int × List En) → Int × List En × Int
  | .ok x => (x.1, x.2, 0)
  | .error k => (0, [], k)
theorem dirO_form {W : World} {o : Except Int (Int × List En)} {e : Ending} {W' : World} (h : DirO W o e W') : ∃ A c, e = .returned (.tuple #[.agg #[.int .i64 (dv o).1, .slice A (dv o).2.1.length c], .int .i64 (dv o).2.2]) ∧ W'.ownsRow W.heap.size 31 2 (.slice A (dv o).2.1.length c) (dv o).2.1.length (Cs encE (dv o).2.1) ∧ Below W.heap.size W W' := by
  cases o with
  | ok x => exact h
  | error k => exact ⟨none, 0, h.1, World.ownsRow_nil _ _ _ _, h.2⟩
theorem half_len : ∀ (n : Nat) (es ys : List En), es.length ≤ n → halfX es = some ys → ys.length ≤ es.length
  | _, [], ys, _, h => by obtain rfl : [] = ys := Option.some.inj h; simp
  | _, [x], ys, _, h => by obtain rfl : [] = ys := Option.some.inj h; simp
  | 0, a :: b :: l, ys, h0, _ => by simp at h0
  | n + 1, a :: b :: l, ys, h0, h => by
    unfold halfX at h
    by_cases hab : a = b
    · rw [if_pos hab] at h
      cases hl : halfX l with
      | none => rw [hl] at h; cases h
      | some L =>
        rw [hl] at h
        obtain rfl : a :: L = ys := Option.some.inj h
        have := half_len n l L (by simp at h0; omega) hl
        simp; omega
    · rw [if_neg hab] at h; cases h
theorem dvA_len {dep : Int} {L : List En} {r : Bool} (hl : L.length ≤ 34) : (dv (if r then doubleO dep L else .error 310)).2.1.length ≤ 4096 := by
  cases r
  · simp [dv]
  · unfold doubleO
    by_cases hd : dep < 5
    · simp only [if_true, if_pos hd, dv]; rw [dbl_length]; omega
    · simp [if_neg hd, dv]
theorem dvB_len {dep : Int} {L : List En} {r : Bool} (hl : L.length ≤ 34) : (dv (if r then halveO dep L else .error 310)).2.1.length ≤ 4096 := by
  cases r
  · simp [dv]
  · simp only [if_true]
    unfold halveO
    by_cases hd : 0 < dep
    · rw [if_pos hd]
      cases hh : halfX L with
      | none => simp [dv]
      | some ys =>
        have := half_len L.length L ys (Nat.le_refl _) hh
        simp only [dv]; omega
    · rw [if_neg hd]; simp [dv]
def hvO (dep : Int) : Option (List En) → Except Int (Int × List En)
  | some ys => .ok (dep - 1, ys)
  | none => .error 4
theorem halve_want {dep : Int} {L : List En} {o : Option (List En)} (h : (if 0 < dep then halfX L else none) = o) : halveO dep L = hvO dep o := by
  subst h
  by_cases hd : 0 < dep
  · simp only [halveO, if_pos hd]
    cases halfX L <;> rfl
  · simp only [halveO, if_neg hd]
    rfl
set_option maxRecDepth 100000 in
set_option maxHeartbeats 16000000 in
theorem Turns_walk (A0 : Option Addr) (c0 n0 : Nat) (dep : Int) (es0 : List En) (AT : Option Addr) (cT nT : Nat) (ts0 : List Tri) (W : World)
    (h0 : Rd W W.heap.size 2 A0 n0 (Cs encE es0)) (hx0 : es0.length = n0) (hn0 : n0 ≤ c0) (hm0 : c0 ≤ 9223372036854775807) (hu0 : ∀ e ∈ es0, U64 e.2)
    (hT : Rd W W.heap.size 6 AT nT (Cs encT ts0)) (hTx : ts0.length = nT) (hTn : nT ≤ cT) (hTm : cT ≤ 9223372036854775807) (hTu : ∀ t ∈ ts0, TriU t) :
    Calls Try.prog 7 #[.agg #[.int .i64 dep, .slice A0 n0 c0], .slice AT nT cT] W fun e W' => e = .returned (.bool true) ∧ Below W.heap.size W W' := by
  obtain ⟨L, hL⟩ : ∃ L, es0.take 34 = L := ⟨_, rfl⟩
  have HUL := hide (show ∀ e ∈ L, U64 e.2 from fun e he => hu0 e (by rw [← hL] at he; exact List.mem_of_mem_take he))
  have HLL := hide (show L.length ≤ 34 from by rw [← hL, List.length_take]; omega)
  have HOWN := hide (fun w (hb : Below W.heap.size W w) => own_any W.heap.size A0 c0 n0 dep es0 w (h0.below hb) hx0 hb.size hn0 hm0)
  rw [hL] at HOWN
  obtain ⟨ts, hts⟩ : ∃ l, ts0.take 8 = l := ⟨_, rfl⟩
  obtain ⟨m, hm⟩ : ∃ m, min nT 8 = m := ⟨_, rfl⟩
  have hmn : m ≤ nT := by omega
  have hm8 : m ≤ 8 := by omega
  have HTX := hide (show ts.length = m from by rw [← hts, List.length_take, hTx, ← hm]; omega)
  have HTU := hide (show ∀ t ∈ ts, TriU t from fun t ht => hTu t (by rw [← hts] at ht; exact List.mem_of_mem_take ht))
  have HT := hide (show Rd W W.heap.size 6 AT m (Cs encT ts) from by
    have h2 := hT.take hmn
    rw [← Cs_take encT_len] at h2
    have : ts0.take m = ts := by
      rw [← hts, ← hm, List.take_eq_take_iff, hTx]; omega
    rw [this] at h2
    exact h2)
  have hmI : min (nT : Int) 8 = (m : Int) := by omega
  clear hm
  have hnTI : (nT : Int) ≤ 9223372036854775807 := by omega
  have hmcI : (m : Int) ≤ (cT : Int) := by omega
  have h0m : (0 : Int) ≤ (m : Int) := by omega
  have hmnI : (m : Int) ≤ (nT : Int) := by omega
  have R2 := hide (RowAt.new W 24 #[.int .i64 dep, .slice A0 n0 c0])
  have HB := hide ((Below.refl _ W).alloc (Nat.le_refl _) (.cells #[.int .i64 dep, .slice A0 n0 c0] 24))
  clear h0 hu0 hx0 hL hT hTu hTx hts
  go_enter Try.func7, Try.ntmps7
  go_upto_region 1 with (fail)
  generalize W.alloc (.cells #[.int .i64 dep, .slice A0 n0 c0] 24) = w1 at *
  go_wp2_with fail
  with_reducible refine (wakes_any w1).mono ?_
  rintro e w2 ⟨rfl, hb⟩
  replace R2 := hide (R2.out.below hb)
  replace HB := hide (HB.out.trans (hb.mono HB.out.size))
  clear hb
  have q0 := row20 R2.out
  have q1 := row21 R2.out
  have ql := R2.out.lt
  go_wp2_with fail
  refine (HOWN.out w2 HB.out).mono ?_
  rintro e w3 ⟨A5, c5, rfl, ho, hb⟩
  dsimp only
  obtain ⟨n5, hn5⟩ : ∃ n, L.length = n := ⟨_, rfl⟩
  have HN5 := hide hn5
  rw [hn5] at ho
  rw [hn5]
  clear hn5
  have O5 := hide (ownsRow_base (base' := W.heap.size) ho HB.out.size)
  have hba := (Below.refl _ w3).alloc (Nat.le_refl _) (.cells #[.int .i64 dep, .slice A5 n5 c5] 24)
  have R5 := hide (RowAt.new w3 24 #[.int .i64 dep, .slice A5 n5 c5])
  have hb2 := hb.trans (hba.mono hb.size)
  replace R2 := hide (R2.out.below hb2)
  replace O5 := hide (own_keepB O5.out hba)
  replace HB := hide (HB.out.trans (hb2.mono HB.out.size))
  clear ho hb hba hb2 q0 q1 ql
  go_upto_region 4 with (fail)
  generalize hg : w3.heap.size = g5 at *
  clear hg
  generalize w3.alloc (.cells #[.int .i64 dep, .slice A5 n5 c5] 24) = w4 at *
  have HD5 := hide (show ∀ w, w.ownsRow W.heap.size 31 2 (.slice A5 n5 c5) n5 (Cs encE L) → DirAt w w.heap.size A5 c5 L from fun w ho => DirAt.of_own (base := W.heap.size) (by rw [HN5.out]; exact ho) HUL.out)
  obtain ⟨mr, hmr⟩ : ∃ b, mayB dep L = b := ⟨_, rfl⟩
  have HMR := hide hmr
  have HRR := hide (RRight_any w4.heap.size A5 c5 dep L w4 (HD5.out w4 O5.out) (Nat.le_refl _) (by have := HLL.out; omega) mr hmr)
  rw [HN5.out] at HRR
  clear hmr
  have q0 := row20 R5.out
  have q1 := row21 R5.out
  have ql := R5.out.lt
  go_wp2_with fail
  refine HRR.out.mono ?_
  rintro e w5 ⟨rfl, hb⟩
  dsimp only
  replace R2 := hide (R2.out.below hb)
  replace R5 := hide (R5.out.below hb)
  replace O5 := hide (own_keepB O5.out hb)
  replace HB := hide (HB.out.trans (hb.mono HB.out.size))
  clear hb q0 q1 ql HRR
  have q0 := row20 R5.out
  have q1 := row21 R5.out
  have ql := R5.out.lt
  obtain ⟨oA, hoA⟩ : ∃ o, (if mr then doubleO dep L else .error 310) = o := ⟨_, rfl⟩
  have HOA := hide hoA
  have HCA := hide (Double_any A5 c5 dep L w5 (HD5.out w5 O5.out) oA (by rw [HMR.out]; exact hoA))
  rw [HN5.out] at HCA
  clear hoA
  go_wp2_with fail
  refine HCA.out.mono ?_
  intro e w6 hd
  obtain ⟨AA, cA, rfl, ho, hb⟩ := dirO_form hd
  clear hd
  dsimp only
  obtain ⟨DA, hDA⟩ : ∃ d, (dv oA).1 = d := ⟨_, rfl⟩
  obtain ⟨LA, hLA⟩ : ∃ l, (dv oA).2.1 = l := ⟨_, rfl⟩
  obtain ⟨kA, hkA⟩ : ∃ k, (dv oA).2.2 = k := ⟨_, rfl⟩
  have HDVA := hide (show dv oA = (DA, LA, kA) from by rw [← hDA, ← hLA, ← hkA])
  rw [hLA] at ho
  rw [hDA, hLA, hkA]
  have HLENA := hide (show LA.length ≤ 4096 from by rw [← hLA, ← HOA.out]; exact dvA_len HLL.out)
  obtain ⟨nA, hnA⟩ : ∃ n, LA.length = n := ⟨_, rfl⟩
  have HNA := hide hnA
  rw [hnA] at ho
  rw [hnA]
  clear hDA hLA hkA hnA
  have OA := hide ho
  have HLOA := hide (show ∀ g, (Value.slice AA nA cA).ownBlock = some g → g < w6.heap.size from fun g hg => (own_blk ho hg).2)
  have HBGA := hide (show w5.heap.size ≤ w6.heap.size from hb.size)
  have hba := (Below.refl _ w6).alloc (Nat.le_refl _) (.cells #[.int .i64 DA, .slice AA nA cA] 24)
  have RA := hide (RowAt.new w6 24 #[.int .i64 DA, .slice AA nA cA])
  have hb2 := hb.trans (hba.mono hb.size)
  replace R2 := hide (R2.out.below hb2)
  have HLTA := hide (show ∀ g, (Value.slice A5 n5 c5).ownBlock = some g → g < w5.heap.size from fun g hg => (own_blk O5.out hg).2)
  
  replace R5 := hide (R5.out.below hb2)
  replace O5 := hide (own_keepB O5.out hb2)
  replace OA := hide (own_keepB OA.out hba)
  have HWBA := hide HB.out.size
  replace HB := hide (HB.out.trans (hb2.mono HB.out.size))
  clear ho hb hba hb2 q0 q1 ql HCA
  go_upto_region 6 with (fail)
  generalize hg : w6.heap.size = gA at *
  clear hg
  generalize w6.alloc (.cells #[.int .i64 DA, .slice AA nA cA] 24) = w7 at *
  have q0 := row20 R5.out
  have q1 := row21 R5.out
  have ql := R5.out.lt
  obtain ⟨oB, hoB⟩ : ∃ o, (if mr then halveO dep L else .error 310) = o := ⟨_, rfl⟩
  have HOB := hide hoB
  have HCB := hide (Halve_any A5 c5 dep L w7 (HD5.out w7 O5.out) oB (by rw [HMR.out]; exact hoB))
  rw [HN5.out] at HCB
  clear hoB
  go_wp2_with fail
  refine HCB.out.mono ?_
  intro e w8 hd
  obtain ⟨AB, cB, rfl, ho, hb⟩ := dirO_form hd
  clear hd
  dsimp only
  obtain ⟨DB, hDB⟩ : ∃ d, (dv oB).1 = d := ⟨_, rfl⟩
  obtain ⟨LB, hLB⟩ : ∃ l, (dv oB).2.1 = l := ⟨_, rfl⟩
  obtain ⟨kB, hkB⟩ : ∃ k, (dv oB).2.2 = k := ⟨_, rfl⟩
  have HDVB := hide (show dv oB = (DB, LB, kB) from by rw [← hDB, ← hLB, ← hkB])
  rw [hLB] at ho
  rw [hDB, hLB, hkB]
  have HLENB := hide (show LB.length ≤ 4096 from by rw [← hLB, ← HOB.out]; exact dvB_len HLL.out)
  obtain ⟨nB, hnB⟩ : ∃ n, LB.length = n := ⟨_, rfl⟩
  have HNB := hide hnB
  rw [hnB] at ho
  rw [hnB]
  clear hDB hLB hkB hnB
  have OB := hide ho
  have HLOB := hide (show ∀ g, (Value.slice AB nB cB).ownBlock = some g → g < w8.heap.size from fun g hg => (own_blk ho hg).2)
  have HBGB := hide (show w7.heap.size ≤ w8.heap.size from hb.size)
  have hba := (Below.refl _ w8).alloc (Nat.le_refl _) (.cells #[.int .i64 DB, .slice AB nB cB] 24)
  have RB := hide (RowAt.new w8 24 #[.int .i64 DB, .slice AB nB cB])
  have hb2 := hb.trans (hba.mono hb.size)
  replace R2 := hide (R2.out.below hb2)
  have HLTB := hide (show ∀ g, (Value.slice A5 n5 c5).ownBlock = some g → g < w7.heap.size from fun g hg => (own_blk O5.out hg).2)
  have HGA7 := hide RA.out.lt
  have HLTAB := hide (show ∀ g, (Value.slice AA nA cA).ownBlock = some g → g < w7.heap.size from fun g hg => (own_blk OA.out hg).2)
  replace RA := hide (RA.out.below hb2)
  replace OA := hide (own_keepB OA.out hb2)
  replace R5 := hide (R5.out.below hb2)
  replace O5 := hide (own_keepB O5.out hb2)
  replace OB := hide (own_keepB OB.out hba)
  have HWBB := hide HB.out.size
  replace HB := hide (HB.out.trans (hb2.mono HB.out.size))
  clear ho hb hba hb2 q0 q1 ql HCB
  go_upto_region 7 with (fail)
  generalize hg : w8.heap.size = gB at *
  clear hg
  generalize w8.alloc (.cells #[.int .i64 DB, .slice AB nB cB] 24) = w9 at *
  have L2 := hide R2.out.lt
  have L5 := hide R5.out.lt
  have LA9 := hide RA.out.lt
  have LB9 := hide RB.out.lt
  have hba := (Below.refl _ w9).alloc (Nat.le_refl _) (.cells #[.int .i64 0, .slice none 0 0] 24)
  have hbz := (Below.refl _ (w9.alloc (.cells #[.int .i64 0, .slice none 0 0] 24))).alloc (Nat.le_refl _) (.cells #[.int .i64 0, .slice none 0 0] 24)
  have R11 := hide ((RowAt.new w9 24 #[.int .i64 0, .slice none 0 0]).below hbz)
  have R12 := hide (show RowAt ((w9.alloc (.cells #[.int .i64 0, .slice none 0 0] 24)).alloc (.cells #[.int .i64 0, .slice none 0 0] 24)) (w9.heap.size + 1) 24 #[.int .i64 0, .slice none 0 0] from by have h := RowAt.new (w9.alloc (.cells #[.int .i64 0, .slice none 0 0] 24)) 24 #[.int .i64 0, .slice none 0 0]; rw [World.size_alloc] at h; exact h)
  have hb2 := hba.trans (hbz.mono hba.size)
  replace R2 := hide (R2.out.below hb2)
  replace R5 := hide (R5.out.below hb2)
  replace RA := hide (RA.out.below hb2)
  replace RB := hide (RB.out.below hb2)
  replace O5 := hide (own_keepB O5.out hb2)
  replace OA := hide (own_keepB OA.out hb2)
  replace OB := hide (own_keepB OB.out hb2)
  have HW9 := hide HB.out.size
  replace HB := hide (HB.out.trans (hb2.mono HB.out.size))
  clear hba hbz hb2
  have HG11 := hide (show W.heap.size < w9.heap.size ∧ g5 < w9.heap.size ∧ gA < w9.heap.size ∧ gB < w9.heap.size from ⟨L2.out, L5.out, LA9.out, LB9.out⟩)
  go_upto_region 9 with (fail)
  generalize hg : w9.heap.size = g11 at *
  clear hg
  generalize (w9.alloc (.cells #[.int .i64 0, .slice none 0 0] 24)).alloc (.cells #[.int .i64 0, .slice none 0 0] 24) = w10 at *
  have S10 := hide (show g11 + 1 < w10.heap.size from R12.out.lt)
  have HSZ := hide (show w5.heap.size ≤ w7.heap.size ∧ w7.heap.size ≤ g11 ∧ gA ≤ w7.heap.size ∧ gB ≤ g11 from by have h1 := HBGA.out; have h2 := HGA7.out; have h3 := HBGB.out; have h4 := HG11.out; omega)
  have HWG := hide (show W.heap.size ≤ g11 from Nat.le_of_lt HG11.out.1)
  go_upto_if 43 with (fail)
  go_cut [13, 14, 15, 16] from 44 to 55 (fun s13 s14 s15 s16 wx => s13 = .int .i64 kA ∧ s14 = .int .i64 kB ∧ ∃ (A11 : Option Addr) (c11 : Nat) (A12 : Option Addr) (c12 : Nat), RowAt wx g11 24 #[.int .i64 DA, .slice A11 nA c11] ∧ wx.ownsRow w10.heap.size 31 2 (.slice A11 nA c11) nA (Cs encE LA) ∧ RowAt wx (g11 + 1) 24 #[.int .i64 DB, .slice A12 nB c12] ∧ wx.ownsRow w10.heap.size 31 2 (.slice A12 nB c12) nB (Cs encE LB) ∧ Below g11 w10 wx)
  case first =>
    cases mr
    · have hA := HDVA.out
      rw [← HOA.out] at hA
      have hB := HDVB.out
      rw [← HOB.out] at hB
      simp only [Bool.false_eq_true, if_false, dv, Prod.mk.injEq] at hA hB
      obtain ⟨rfl, rfl, rfl⟩ := hA
      obtain ⟨rfl, rfl, rfl⟩ := hB
      obtain rfl : 0 = nA := HNA.out
      obtain rfl : 0 = nB := HNB.out
      go_wp2_with fail
      go_meet
      case rel => exact ⟨rfl, rfl, none, 0, none, 0, R11.out, World.ownsRow_nil _ _ _ _, R12.out, World.ownsRow_nil _ _ _ _, Below.refl _ _⟩
    · obtain ⟨hd0, hd5, hl32, hl1, hev, -⟩ := may_shape HMR.out
      have hA := HOA.out
      simp only [if_true] at hA
      have hB := HOB.out
      simp only [if_true] at hB
      have q0 := row20 R5.out
      have q1 := row21 R5.out
      have ql := R5.out.lt
      obtain ⟨o2, ho2⟩ : ∃ o, (if 0 < dep then halfX L else none) = o := ⟨_, rfl⟩
      have HHW := hide (halve_want ho2)
      have HHV := hide (fun w (ho : w.ownsRow W.heap.size 31 2 (.slice A5 n5 c5) n5 (Cs encE L)) => HalveR_any w.heap.size A5 c5 dep L w ((HD5.out w ho).rd) (Nat.le_refl _) hl32 hd0 hd5 hev o2 ho2)
      have HDD := hide (fun w (ho : w.ownsRow W.heap.size 31 2 (.slice A5 n5 c5) n5 (Cs encE L)) => DoubleR_any w.heap.size A5 c5 dep L w ((HD5.out w ho).rd) (Nat.le_refl _) hl32 hd0 hd5)
      rw [HN5.out] at HHV HDD
      clear ho2 hev
      by_cases hd : dep < 5
      · have hdb : decide (dep < 5) = true := by simpa using hd
        have hA2 := HDVA.out
        rw [← hA] at hA2
        simp only [doubleO, if_pos hd, dv, Prod.mk.injEq] at hA2
        obtain ⟨rfl, rfl, rfl⟩ := hA2
        go_wp2_with fail
        refine (HDD.out w10 O5.out).mono ?_
        rintro e w11 ⟨A11, c11, rfl, ho, hb⟩
        dsimp only
        rw [HNA.out] at ho
        rw [HNA.out]
        have O11 := hide ho
        replace R5 := hide (R5.out.below hb)
        replace R11 := hide (R11.out.below hb)
        replace R12 := hide (R12.out.below hb)
        replace O5 := hide (own_keepB O5.out hb)
        have HBB := hide (show Below g11 w10 w11 from hb.mono (by have := S10.out; omega))
        have S11 := hide (show w10.heap.size ≤ w11.heap.size from hb.size)
        clear ho hb q0 q1 ql
        have z0 := row20 R11.out
        have z1 := row21 R11.out
        have zl := R11.out.lt
        have zf0 := R11.out.frozen 0
        have zf1 := R11.out.frozen 1
        have R11n := hide ((R11.out.set 0 (.int .i64 (dep + 1))).set 1 (.slice A11 nA c11))
        have R12n := hide ((R12.out.setNe (g2 := g11) (o := 0) (v := .int .i64 (dep + 1)) (by omega)).setNe (g2 := g11) (o := 1) (v := .slice A11 nA c11) (by omega))
        have R5n := hide ((R5.out.setNe (g2 := g11) (o := 0) (v := .int .i64 (dep + 1)) (by have := HG11.out; omega)).setNe (g2 := g11) (o := 1) (v := .slice A11 nA c11) (by have := HG11.out; omega))
        have O11n := hide (own_setBox (own_setBox O11.out R11.out (by decide) 0 (.int .i64 (dep + 1))) (R11.out.set 0 (.int .i64 (dep + 1))) (by decide) 1 (.slice A11 nA c11))
        have O5n := hide (own_setBox (own_setBox O5.out R11.out (by decide) 0 (.int .i64 (dep + 1))) (R11.out.set 0 (.int .i64 (dep + 1))) (by decide) 1 (.slice A11 nA c11))
        have HBBn := hide ((HBB.out.setCell (p := ⟨g11, 0, none⟩) (Nat.le_refl _) (.int .i64 (dep + 1))).setCell (p := ⟨g11, 1, none⟩) (Nat.le_refl _) (.slice A11 nA c11))
        have S11n := hide (show w10.heap.size ≤ ((w11.setCell ⟨g11, 0, none⟩ (.int .i64 (dep + 1))).setCell ⟨g11, 1, none⟩ (.slice A11 nA c11)).heap.size from by simp; exact S11.out)
        go_upto_region 13 with (fail)
        clear z0 z1 zl zf0 zf1 R11 R12 R5 O11 O5 HBB S11
        have R11n : Hid (RowAt ((w11.setCell ⟨g11, 0, none⟩ (.int .i64 (dep + 1))).setCell ⟨g11, 1, none⟩ (.slice A11 nA c11)) g11 24 #[.int .i64 (dep + 1), .slice A11 nA c11]) := R11n
        generalize (w11.setCell ⟨g11, 0, none⟩ (.int .i64 (dep + 1))).setCell ⟨g11, 1, none⟩ (.slice A11 nA c11) = w12 at *
        have R11 := hide R11n.out
        have R12 := hide R12n.out
        have R5 := hide R5n.out
        have O11 := hide O11n.out
        have O5 := hide O5n.out
        have HBB := hide HBBn.out
        have S11 := hide S11n.out
        clear R11n R12n R5n O11n O5n HBBn S11n
        have q0 := row20 R5.out
        have q1 := row21 R5.out
        have ql := R5.out.lt
        cases o2 with
        | none =>
          have hB2 := HDVB.out
          rw [← hB, HHW.out] at hB2
          simp only [hvO, dv, Prod.mk.injEq] at hB2
          obtain ⟨rfl, rfl, rfl⟩ := hB2
          obtain rfl : 0 = nB := HNB.out
          go_wp2_with fail
          refine (HHV.out w12 O5.out).mono ?_
          rintro e w13 ⟨d9, A9, n9, c9, rfl, hb⟩
          dsimp only
          have hba := (Below.refl _ w13).alloc (Nat.le_refl _) (.cells #[.int .i64 d9, .slice A9 n9 c9] 24)
          have hb2 := hb.trans (hba.mono hb.size)
          replace R11 := hide (R11.out.below hb2)
          replace R12 := hide (R12.out.below hb2)
          replace O11 := hide (own_keepB O11.out hb2)
          replace HBB := hide (HBB.out.trans (hb2.mono (by have := S10.out; have := S11.out; omega)))
          clear hb hba hb2 q0 q1 ql
          go_wp2_with fail
          go_meet
          case rel => exact ⟨rfl, rfl, A11, c11, none, 0, R11.out, O11.out, R12.out, World.ownsRow_nil _ _ _ _, HBB.out⟩
        | some ys =>
          have hB2 := HDVB.out
          rw [← hB, HHW.out] at hB2
          simp only [hvO, dv, Prod.mk.injEq] at hB2
          obtain ⟨rfl, rfl, rfl⟩ := hB2
          go_wp2_with fail
          refine (HHV.out w12 O5.out).mono ?_
          rintro e w13 ⟨A9, c9, rfl, ho, hb⟩
          dsimp only
          rw [HNB.out] at ho
          rw [HNB.out]
          have O12 := hide (ownsRow_base (base' := w10.heap.size) ho S11.out)
          have hba := (Below.refl _ w13).alloc (Nat.le_refl _) (.cells #[.int .i64 (dep - 1), .slice A9 nB c9] 24)
          have R15 := hide (RowAt.new w13 24 #[.int .i64 (dep - 1), .slice A9 nB c9])
          have hb2 := hb.trans (hba.mono hb.size)
          replace R11 := hide (R11.out.below hb2)
          replace R12 := hide (R12.out.below hb2)
          replace O11 := hide (own_keepB O11.out hb2)
          replace O12 := hide (own_keepB O12.out hba)
          replace HBB := hide (HBB.out.trans (hb2.mono (by have := S10.out; have := S11.out; omega)))
          clear hb hba hb2 q0 q1 ql ho
          go_upto_region 14 with (fail)
          generalize hg : w13.heap.size = g15 at *
          clear hg
          generalize w13.alloc (.cells #[.int .i64 (dep - 1), .slice A9 nB c9] 24) = w14 at *
          have z0 := row20 R12.out
          have z1 := row21 R12.out
          have zl := R12.out.lt
          have zf0 := R12.out.frozen 0
          have zf1 := R12.out.frozen 1
          have p0 := row20 R15.out
          have p1 := row21 R15.out
          have pl := R15.out.lt
          have R12n := hide ((R12.out.set 0 (.int .i64 (dep - 1))).set 1 (.slice A9 nB c9))
          have R11n := hide ((R11.out.setNe (g2 := g11 + 1) (o := 0) (v := .int .i64 (dep - 1)) (by omega)).setNe (g2 := g11 + 1) (o := 1) (v := .slice A9 nB c9) (by omega))
          have O11n := hide (own_setBox (own_setBox O11.out R12.out (by decide) 0 (.int .i64 (dep - 1))) (R12.out.set 0 (.int .i64 (dep - 1))) (by decide) 1 (.slice A9 nB c9))
          have O12n := hide (own_setBox (own_setBox O12.out R12.out (by decide) 0 (.int .i64 (dep - 1))) (R12.out.set 0 (.int .i64 (dep - 1))) (by decide) 1 (.slice A9 nB c9))
          have HBBn := hide ((HBB.out.setCell (p := ⟨g11 + 1, 0, none⟩) (by simp) (.int .i64 (dep - 1))).setCell (p := ⟨g11 + 1, 1, none⟩) (by simp) (.slice A9 nB c9))
          go_wp2_with fail
          go_meet
          case rel => exact ⟨rfl, rfl, A11, c11, A9, c9, R11n.out, O11n.out, R12n.out, O12n.out, HBBn.out⟩
      · have hdb : decide (dep < 5) = false := by simpa using hd
        have hA2 := HDVA.out
        rw [← hA] at hA2
        simp only [doubleO, if_neg hd, dv, Prod.mk.injEq] at hA2
        obtain ⟨rfl, rfl, rfl⟩ := hA2
        obtain rfl : 0 = nA := HNA.out
        obtain ⟨A11, hA11⟩ : ∃ A : Option Addr, A = none := ⟨_, rfl⟩
        obtain ⟨c11, hc11⟩ : ∃ c : Nat, c = 0 := ⟨_, rfl⟩
        obtain ⟨w12, hw12⟩ : ∃ w, w = w10 := ⟨_, rfl⟩
        have O11 := hide (show w12.ownsRow w10.heap.size 31 2 (.slice A11 0 c11) 0 (Cs encE []) from by rw [hA11, hc11]; exact World.ownsRow_nil _ _ _ _)
        have HBB := hide (show Below g11 w10 w12 from by rw [hw12]; exact Below.refl _ _)
        have S11 := hide (show w10.heap.size ≤ w12.heap.size from by rw [hw12]; exact Nat.le_refl _)
        replace R11 := hide (show RowAt w12 g11 24 #[.int .i64 0, .slice A11 0 c11] from by rw [hA11, hc11, hw12]; exact R11.out)
        rw [← hw12] at R12 R5 O5
        go_upto_region 13 with (fail)
        rw [← hw12]
        clear hA11 hc11 hw12 q0 q1 ql
        have q0 := row20 R5.out
        have q1 := row21 R5.out
        have ql := R5.out.lt
        cases o2 with
        | none =>
          have hB2 := HDVB.out
          rw [← hB, HHW.out] at hB2
          simp only [hvO, dv, Prod.mk.injEq] at hB2
          obtain ⟨rfl, rfl, rfl⟩ := hB2
          obtain rfl : 0 = nB := HNB.out
          go_wp2_with fail
          refine (HHV.out w12 O5.out).mono ?_
          rintro e w13 ⟨d9, A9, n9, c9, rfl, hb⟩
          dsimp only
          have hba := (Below.refl _ w13).alloc (Nat.le_refl _) (.cells #[.int .i64 d9, .slice A9 n9 c9] 24)
          have hb2 := hb.trans (hba.mono hb.size)
          replace R11 := hide (R11.out.below hb2)
          replace R12 := hide (R12.out.below hb2)
          replace O11 := hide (own_keepB O11.out hb2)
          replace HBB := hide (HBB.out.trans (hb2.mono (by have := S10.out; have := S11.out; omega)))
          clear hb hba hb2 q0 q1 ql
          go_wp2_with fail
          go_meet
          case rel => exact ⟨rfl, rfl, A11, c11, none, 0, R11.out, O11.out, R12.out, World.ownsRow_nil _ _ _ _, HBB.out⟩
        | some ys =>
          have hB2 := HDVB.out
          rw [← hB, HHW.out] at hB2
          simp only [hvO, dv, Prod.mk.injEq] at hB2
          obtain ⟨rfl, rfl, rfl⟩ := hB2
          go_wp2_with fail
          refine (HHV.out w12 O5.out).mono ?_
          rintro e w13 ⟨A9, c9, rfl, ho, hb⟩
          dsimp only
          rw [HNB.out] at ho
          rw [HNB.out]
          have O12 := hide (ownsRow_base (base' := w10.heap.size) ho S11.out)
          have hba := (Below.refl _ w13).alloc (Nat.le_refl _) (.cells #[.int .i64 (dep - 1), .slice A9 nB c9] 24)
          have R15 := hide (RowAt.new w13 24 #[.int .i64 (dep - 1), .slice A9 nB c9])
          have hb2 := hb.trans (hba.mono hb.size)
          replace R11 := hide (R11.out.below hb2)
          replace R12 := hide (R12.out.below hb2)
          replace O11 := hide (own_keepB O11.out hb2)
          replace O12 := hide (own_keepB O12.out hba)
          replace HBB := hide (HBB.out.trans (hb2.mono (by have := S10.out; have := S11.out; omega)))
          clear hb hba hb2 q0 q1 ql ho
          go_upto_region 14 with (fail)
          generalize hg : w13.heap.size = g15 at *
          clear hg
          generalize w13.alloc (.cells #[.int .i64 (dep - 1), .slice A9 nB c9] 24) = w14 at *
          have z0 := row20 R12.out
          have z1 := row21 R12.out
          have zl := R12.out.lt
          have zf0 := R12.out.frozen 0
          have zf1 := R12.out.frozen 1
          have p0 := row20 R15.out
          have p1 := row21 R15.out
          have pl := R15.out.lt
          have R12n := hide ((R12.out.set 0 (.int .i64 (dep - 1))).set 1 (.slice A9 nB c9))
          have R11n := hide ((R11.out.setNe (g2 := g11 + 1) (o := 0) (v := .int .i64 (dep - 1)) (by omega)).setNe (g2 := g11 + 1) (o := 1) (v := .slice A9 nB c9) (by omega))
          have O11n := hide (own_setBox (own_setBox O11.out R12.out (by decide) 0 (.int .i64 (dep - 1))) (R12.out.set 0 (.int .i64 (dep - 1))) (by decide) 1 (.slice A9 nB c9))
          have O12n := hide (own_setBox (own_setBox O12.out R12.out (by decide) 0 (.int .i64 (dep - 1))) (R12.out.set 0 (.int .i64 (dep - 1))) (by decide) 1 (.slice A9 nB c9))
          have HBBn := hide ((HBB.out.setCell (p := ⟨g11 + 1, 0, none⟩) (by simp) (.int .i64 (dep - 1))).setCell (p := ⟨g11 + 1, 1, none⟩) (by simp) (.slice A9 nB c9))
          go_wp2_with fail
          go_meet
          case rel => exact ⟨rfl, rfl, A11, c11, A9, c9, R11n.out, O11n.out, R12n.out, O12n.out, HBBn.out⟩
  case rest =>
    rename_i K hK
    refine hK _ _ ?_
    clear hK K
    obtain ⟨w13, hw13⟩ : ∃ w, w = wc := ⟨_, rfl⟩
    subst hw13
    obtain ⟨rfl, rfl, A11, c11, A12, c12, r11, o11, r12, o12, hb⟩ := hcut
    have R11 := hide r11
    have O11 := hide o11
    have R12 := hide r12
    have O12 := hide o12
    replace R2 := hide (R2.out.belowB HG11.out.1 hb)
    replace R5 := hide (R5.out.belowB HG11.out.2.1 hb)
    replace RA := hide (RA.out.belowB HG11.out.2.2.1 hb)
    replace RB := hide (RB.out.belowB HG11.out.2.2.2 hb)
    have HAB := hide (show w5.heap.size ≤ w7.heap.size ∧ w7.heap.size ≤ g11 ∧ gA ≤ w7.heap.size ∧ gB ≤ g11 from HSZ.out)
    replace O5 := hide (own_at O5.out (fun g hg => hb.block g (by have h1 := HLTA.out g hg; have h2 := HAB.out; omega)))
    replace OA := hide (own_at OA.out (fun g hg => hb.block g (by have h1 := HLOA.out g hg; have h2 := HAB.out; omega)))
    replace OB := hide (own_at OB.out (fun g hg => hb.block g (by have h1 := HLOB.out g hg; have h2 := HAB.out; omega)))
    replace HB := hide (HB.out.trans (hb.mono HWG.out))
    clear r11 o11 r12 o12 hb
    have a0 := row20 RA.out
    have a1 := row21 RA.out
    have al := RA.out.lt
    have b0 := row20 R11.out
    have b1 := row21 R11.out
    have bl := R11.out.lt
    have HSA := hide (SameDir_any w13.heap.size w13.heap.size AA A11 cA c11 DA DA LA LA w13 (Rd.of_own (by rw [HNA.out]; exact OA.out)) (Rd.of_own (by rw [HNA.out]; exact O11.out)) (Nat.le_refl _) (Nat.le_refl _) HLENA.out HLENA.out true (by simp))
    rw [HNA.out] at HSA
    have hka : (kA != kA) = false := by simp
    have hkb : (kB != kB) = false := by simp
    go_wp2_with fail
    refine HSA.out.mono ?_
    rintro e w14 ⟨rfl, hb⟩
    dsimp only
    replace R2 := hide (R2.out.below hb)
    replace R5 := hide (R5.out.below hb)
    replace RA := hide (RA.out.below hb)
    replace RB := hide (RB.out.below hb)
    replace R12 := hide (R12.out.below hb)
    replace O5 := hide (own_keepB O5.out hb)
    replace OA := hide (own_keepB OA.out hb)
    replace OB := hide (own_keepB OB.out hb)
    replace O12 := hide (own_keepB O12.out hb)
    replace HB := hide (HB.out.trans (hb.mono HB.out.size))
    clear hb HSA a0 a1 al b0 b1 bl R11 O11
    have a0 := row20 RB.out
    have a1 := row21 RB.out
    have al := RB.out.lt
    have b0 := row20 R12.out
    have b1 := row21 R12.out
    have bl := R12.out.lt
    have HSB := hide (SameDir_any w14.heap.size w14.heap.size AB A12 cB c12 DB DB LB LB w14 (Rd.of_own (by rw [HNB.out]; exact OB.out)) (Rd.of_own (by rw [HNB.out]; exact O12.out)) (Nat.le_refl _) (Nat.le_refl _) HLENB.out HLENB.out true (by simp))
    rw [HNB.out] at HSB
    go_wp2_with fail
    refine HSB.out.mono ?_
    rintro e w15 ⟨rfl, hb⟩
    dsimp only
    replace R2 := hide (R2.out.below hb)
    replace R5 := hide (R5.out.below hb)
    replace RA := hide (RA.out.below hb)
    replace RB := hide (RB.out.below hb)
    replace O5 := hide (own_keepB O5.out hb)
    replace OA := hide (own_keepB OA.out hb)
    replace OB := hide (own_keepB OB.out hb)
    replace HB := hide (HB.out.trans (hb.mono HB.out.size))
    clear hb HSB a0 a1 al b0 b1 bl R12 O12 hka hkb
    have a0 := row20 RA.out
    have a1 := row21 RA.out
    have al := RA.out.lt
    have HSPA := hide (spoil_grown w5.heap.size AA cA DA LA w15 (by rw [HNA.out]; exact OA.out) (by have h1 := HBGA.out; have h2 := RA.out.lt; omega) HLENA.out)
    rw [HNA.out] at HSPA
    go_wp2_with fail
    refine HSPA.out.mono ?_
    rintro e w16 ⟨rfl, hg⟩
    dsimp only
    replace HB := hide (HB.out.trans ((below_of_grown OA.out hg (by have h1 := HBGA.out; have h2 := RA.out.lt; omega)).mono HWBA.out))
    have n2 := own_box_ne OA.out R2.out (by decide)
    have n5 := own_box_ne OA.out R5.out (by decide)
    have nB := own_box_ne OA.out RB.out (by decide)
    replace R2 := hide (row_grownE R2.out hg n2)
    replace R5 := hide (row_grownE R5.out hg n5)
    replace RB := hide (row_grownE RB.out hg nB)
    replace O5 := hide (own_past O5.out hg (fun g hg2 e => by have h1 := HLTA.out g hg2; have h2 := (own_blk OA.out e.symm).1; omega))
    replace OB := hide (own_past OB.out hg (fun g hg2 e => by have h1 := (own_blk OB.out hg2).1; have h2 := HLTAB.out g e.symm; omega))
    clear hg n2 n5 nB HSPA a0 a1 al RA OA
    have a0 := row20 RB.out
    have a1 := row21 RB.out
    have al := RB.out.lt
    have HSPB := hide (spoil_grown w7.heap.size AB cB DB LB w16 (by rw [HNB.out]; exact OB.out) (by have h1 := HBGB.out; have h2 := RB.out.lt; omega) HLENB.out)
    rw [HNB.out] at HSPB
    go_wp2_with fail
    refine HSPB.out.mono ?_
    rintro e w17 ⟨rfl, hg⟩
    dsimp only
    replace HB := hide (HB.out.trans ((below_of_grown OB.out hg (by have h1 := HBGB.out; have h2 := RB.out.lt; omega)).mono HWBB.out))
    have n2 := own_box_ne OB.out R2.out (by decide)
    have n5 := own_box_ne OB.out R5.out (by decide)
    replace R2 := hide (row_grownE R2.out hg n2)
    replace R5 := hide (row_grownE R5.out hg n5)
    replace O5 := hide (own_past O5.out hg (fun g hg2 e => by have h1 := HLTA.out g hg2; have h2 := (own_blk OB.out e.symm).1; have h3 := HAB.out; omega))
    clear hg n2 n5 HSPB a0 a1 al RB OB
    have q0 := row20 R2.out
    have q1 := row21 R2.out
    have ql := R2.out.lt
    go_wp2_with fail
    refine (HOWN.out w17 HB.out).mono ?_
    rintro e w18 ⟨A17, c17, rfl, ho, hb⟩
    dsimp only
    have L2b := hide (R2.out.below hb).lt
    have L5b := hide (R5.out.below hb).lt
    have O17 := hide (ownsRow_base (base' := W.heap.size) ho HB.out.size)
    have hba := (Below.refl _ w18).alloc (Nat.le_refl _) (.cells #[.int .i64 dep, .slice A17 L.length c17] 24)
    have R17 := hide (RowAt.new w18 24 #[.int .i64 dep, .slice A17 L.length c17])
    have hb2 := hb.trans (hba.mono hb.size)
    replace R2 := hide (R2.out.below hb2)
    replace R5 := hide (R5.out.below hb2)
    replace O5 := hide (own_keepB O5.out hb2)
    replace O17 := hide (own_keepB O17.out hba)
    replace HB := hide (HB.out.trans (hb2.mono HB.out.size))
    clear ho hb hba hb2 q0 q1 ql
    go_upto_region 21 with (fail)
    have N2 := hide (show W.heap.size ≠ w18.heap.size from Nat.ne_of_lt L2b.out)
    have N5 := hide (show g5 ≠ w18.heap.size from Nat.ne_of_lt L5b.out)
    have G17W := hide (show W.heap.size ≤ w18.heap.size from Nat.le_of_lt L2b.out)
    generalize hg : w18.heap.size = g17 at *
    clear hg
    generalize w18.alloc (.cells #[.int .i64 dep, .slice A17 L.length c17] 24) = w19 at *
    have HCL := hide (CloneT W.heap.size AT m cT (Cs encT ts) w19 (HT.out.below HB.out) HB.out.size (Cs_one_cell encT_one _) (by omega))
    go_wp2_with fail
    refine HCL.out.mono ?_
    rintro e w20 ⟨vT, rfl, ho, hb⟩
    dsimp only
    obtain ⟨AT2, cT2, rfl, hcT2, hcTm2⟩ := own_form2 ho
    have OT := hide (ownsRow_base (base' := W.heap.size) ho HB.out.size)
    replace R2 := hide (R2.out.below hb)
    replace R5 := hide (R5.out.below hb)
    replace R17 := hide (R17.out.below hb)
    replace O5 := hide (own_keepB O5.out hb)
    replace O17 := hide (own_keepB O17.out hb)
    replace HB := hide (HB.out.trans (hb.mono HB.out.size))
    clear ho hb HCL
    go_wp2_with fail
    go_loopw [18, 90] (fun ov iv wr => ∃ (i : Nat) (d : Int) (A : Option Addr) (c : Nat) (es : List En) (k : Nat), i ≤ m ∧ iv = .int .i64 i ∧ ov = .int .i64 (k : Int) ∧ k ≤ i ∧ splMany (ts.take i) (dep, L) 0 = ((d, es), k) ∧ mayB d es = mr ∧ es.length ≤ 34 ∧ (∀ e ∈ es, U64 e.2) ∧ RowAt wr g17 24 #[.int .i64 d, .slice A es.length c] ∧ wr.ownsRow W.heap.size 31 2 (.slice A es.length c) es.length (Cs encE es) ∧
      RowAt wr W.heap.size 24 #[.int .i64 dep, .slice A0 n0 c0] ∧ RowAt wr g5 24 #[.int .i64 dep, .slice A5 n5 c5] ∧ wr.ownsRow W.heap.size 31 2 (.slice A5 n5 c5) n5 (Cs encE L) ∧ wr.ownsRow W.heap.size 52 6 (.slice AT2 m cT2) m (Cs encT ts) ∧ Below W.heap.size W wr) (fun _ iv _ => m - (intOf iv).toNat)
    case atStart => exact ⟨0, dep, A17, c17, L, 0, Nat.zero_le _, rfl, rfl, Nat.le_refl _, rfl, HMR.out, HLL.out, HUL.out, R17.out, O17.out, R2.out, R5.out, O5.out, OT.out, HB.out⟩
    case round =>
      clear R2 R5 R17 O5 O17 OT HB
      obtain ⟨i, d, A, c, es, k, hi, rfl, rfl, hki, hsp, hmd, hel, hU, r17, o17, r2, r5, o5, ot, hB'⟩ := hrel
      have R17 := hide r17
      have O17 := hide o17
      have R2 := hide r2
      have R5 := hide r5
      have O5 := hide o5
      have OT := hide ot
      have HU := hide hU
      have HB := hide hB'
      have HSP := hide hsp
      have HMD := hide hmd
      clear r17 o17 r2 r5 o5 ot hU hB' hsp hmd
      by_cases hlt : i < m
      · have hix : i < ts.length := by rw [HTX.out]; exact hlt
        have hrd := Rd.of_own OT.out
        rw [← HTX.out] at hrd
        obtain ⟨b, off, hA, hbl, hc⟩ := hrd.elem encT_len hix
        obtain ⟨s, hs⟩ : ∃ s, ts[i] = s := ⟨_, rfl⟩
        have hsu : TriU s := by rw [← hs]; exact HTU.out _ (List.getElem_mem hix)
        have HSN := hide (show splMany (ts.take (i + 1)) (dep, L) 0 = (match splStep (d, es) s with | .ok x => (x, k) | .error _ => ((d, es), k + 1)) from by
          rw [List.take_succ_eq_append_getElem hix, splMany_snoc, HSP.out, hs]
          (try rfl))
        have hsu2 := hide hsu
        rw [hs] at hc
        obtain ⟨e, low, high⟩ := s
        have d0 := hc 0 _ (by omega) rfl
        have d1 := hc 1 _ (by omega) rfl
        have d2 := hc 2 _ (by omega) rfl
        have d3 := hc 3 _ (by omega) rfl
        have d4 := hc 4 _ (by omega) rfl
        have d5 := hc 5 _ (by omega) rfl
        simp only [Nat.add_zero] at d0
        dsimp only at d0 d1 d2 d3 d4 d5
        subst hA
        have hiI : (i : Int) < (m : Int) := by omega
        obtain ⟨hue, hul, huh⟩ := hsu
        have hba := (Below.refl _ wr).alloc (Nat.le_refl _) (.cells #[.int .i64 e.1, .int .u64 e.2, .int .i64 low.1, .int .u64 low.2, .int .i64 high.1, .int .u64 high.2] 52)
        have R20 := hide (RowAt.new wr 52 #[.int .i64 e.1, .int .u64 e.2, .int .i64 low.1, .int .u64 low.2, .int .i64 high.1, .int .u64 high.2])
        replace R2 := hide (R2.out.below hba)
        replace R5 := hide (R5.out.below hba)
        replace R17 := hide (R17.out.below hba)
        replace O5 := hide (own_keepB O5.out hba)
        replace O17 := hide (own_keepB O17.out hba)
        replace OT := hide (own_keepB OT.out hba)
        replace HB := hide (HB.out.trans (hba.mono HB.out.size))
        clear hba hc hrd hs hix
        go_upto_region 25 with (fail)
        clear d0 d1 d2 d3 d4 d5 hbl
        have HB5 := hide HB.out.size
        have HO5L := hide (show ∀ g, (Value.slice A5 n5 c5).ownBlock = some g → g < (wr.alloc (.cells #[.int .i64 e.1, .int .u64 e.2, .int .i64 low.1, .int .u64 low.2, .int .i64 high.1, .int .u64 high.2] 52)).heap.size from fun g hg => (own_blk O5.out hg).2)
        have HOTL := hide (show ∀ g, (Value.slice (some ⟨b, off, none⟩) m cT2).ownBlock = some g → g < (wr.alloc (.cells #[.int .i64 e.1, .int .u64 e.2, .int .i64 low.1, .int .u64 low.2, .int .i64 high.1, .int .u64 high.2] 52)).heap.size from fun g hg => (own_blk OT.out hg).2)
        have HO17L := hide (show ∀ g, (Value.slice A es.length c).ownBlock = some g → g < (wr.alloc (.cells #[.int .i64 e.1, .int .u64 e.2, .int .i64 low.1, .int .u64 low.2, .int .i64 high.1, .int .u64 high.2] 52)).heap.size from fun g hg => (own_blk O17.out hg).2)
        have HLT3 := hide (show W.heap.size < (wr.alloc (.cells #[.int .i64 e.1, .int .u64 e.2, .int .i64 low.1, .int .u64 low.2, .int .i64 high.1, .int .u64 high.2] 52)).heap.size ∧ g5 < (wr.alloc (.cells #[.int .i64 e.1, .int .u64 e.2, .int .i64 low.1, .int .u64 low.2, .int .i64 high.1, .int .u64 high.2] 52)).heap.size ∧ g17 < (wr.alloc (.cells #[.int .i64 e.1, .int .u64 e.2, .int .i64 low.1, .int .u64 low.2, .int .i64 high.1, .int .u64 high.2] 52)).heap.size from ⟨R2.out.lt, R5.out.lt, R17.out.lt⟩)
        generalize hg : wr.heap.size = g20 at *
        clear hg
        generalize wr.alloc (.cells #[.int .i64 e.1, .int .u64 e.2, .int .i64 low.1, .int .u64 low.2, .int .i64 high.1, .int .u64 high.2] 52) = w5 at *
        have HDA := hide (show ∀ w, w.ownsRow W.heap.size 31 2 (.slice A es.length c) es.length (Cs encE es) → DirAt w w.heap.size A c es from fun w ho => DirAt.of_own (base := W.heap.size) ho HU.out)
        obtain ⟨o, ho⟩ : ∃ o, splStep (d, es) (e, low, high) = o := ⟨_, rfl⟩
        have HSPL := hide (Split_any A c d es e low high w5 (HDA.out w5 O17.out) hul huh o ho)
        have HO := hide ho
        rw [ho] at HSN
        clear ho
        have q0 := row20 R17.out
        have q1 := row21 R17.out
        have ql := R17.out.lt
        obtain ⟨t0, t1, t2, t3, t4, t5⟩ := row6 R20.out
        have tl := R20.out.lt
        go_wp2_with fail
        refine HSPL.out.mono ?_
        intro e1 w6 hd
        obtain ⟨A21, c21, rfl, ho, hb⟩ := dirO_form hd
        clear hd
        dsimp only
        obtain ⟨D21, hD21⟩ : ∃ d, (dv o).1 = d := ⟨_, rfl⟩
        obtain ⟨L21, hL21⟩ : ∃ l, (dv o).2.1 = l := ⟨_, rfl⟩
        obtain ⟨k21, hk21⟩ : ∃ k, (dv o).2.2 = k := ⟨_, rfl⟩
        have HDV := hide (show dv o = (D21, L21, k21) from by rw [← hD21, ← hL21, ← hk21])
        rw [hL21] at ho
        rw [hD21, hL21, hk21]
        obtain ⟨n21, hn21⟩ : ∃ n, L21.length = n := ⟨_, rfl⟩
        have HN21 := hide hn21
        rw [hn21] at ho
        rw [hn21]
        clear hD21 hL21 hk21 hn21
        have O21 := hide (ownsRow_base (base' := W.heap.size) ho HB.out.size)
        have HL21 := hide (show ∀ g, (Value.slice A21 n21 c21).ownBlock = some g → w5.heap.size ≤ g from fun g hg => (own_blk ho hg).1)
        have hba := (Below.refl _ w6).alloc (Nat.le_refl _) (.cells #[.int .i64 D21, .slice A21 n21 c21] 24)
        have R21 := hide (RowAt.new w6 24 #[.int .i64 D21, .slice A21 n21 c21])
        have hbz := (Below.refl _ (w6.alloc (.cells #[.int .i64 D21, .slice A21 n21 c21] 24))).alloc (Nat.le_refl _) (.cells #[.int .i64 0, .slice none 0 0] 24)
        replace R21 := hide (R21.out.below hbz)
        have R23 := hide (show RowAt ((w6.alloc (.cells #[.int .i64 D21, .slice A21 n21 c21] 24)).alloc (.cells #[.int .i64 0, .slice none 0 0] 24)) (w6.heap.size + 1) 24 #[.int .i64 0, .slice none 0 0] from by have h := RowAt.new (w6.alloc (.cells #[.int .i64 D21, .slice A21 n21 c21] 24)) 24 #[.int .i64 0, .slice none 0 0]; rw [World.size_alloc] at h; exact h)
        have hab := hba.trans (hbz.mono hba.size)
        have hb2 := hb.trans (hab.mono hb.size)
        have HG6 := hide (show w5.heap.size ≤ w6.heap.size from hb.size)
        replace O21 := hide (own_keepB O21.out hab)
        replace R2 := hide (R2.out.below hb2)
        replace R5 := hide (R5.out.below hb2)
        replace R17 := hide (R17.out.below hb2)
        replace R20 := hide (R20.out.below hb2)
        replace O5 := hide (own_keepB O5.out hb2)
        replace O17 := hide (own_keepB O17.out hb2)
        replace OT := hide (own_keepB OT.out hb2)
        replace HB := hide (HB.out.trans (hb2.mono HB.out.size))
        clear ho hb hba hbz hab hb2 q0 q1 ql t0 t1 t2 t3 t4 t5 tl HSPL
        go_upto_region 28 with (fail)
        obtain ⟨g21, hg21⟩ : ∃ g, w6.heap.size = g := ⟨_, rfl⟩
        rw [hg21] at R21 R23 HG6
        (try rw [hg21])
        clear hg21
        generalize (w6.alloc (.cells #[.int .i64 D21, .slice A21 n21 c21] 24)).alloc (.cells #[.int .i64 0, .slice none 0 0] 24) = w7 at *
        have H52 := hide (show W.heap.size < w5.heap.size ∧ g5 < w5.heap.size ∧ g17 < w5.heap.size from HLT3.out)
        cases mr
        · obtain rfl : Except.error 310 = o := by
            rw [← HO.out]
            unfold splStep
            rw [if_neg (by rw [HMD.out]; simp)]
          have hdv := HDV.out
          simp only [dv, Prod.mk.injEq] at hdv
          obtain ⟨rfl, rfl, rfl⟩ := hdv
          obtain rfl : 0 = n21 := HN21.out
          obtain ⟨A23, hA23⟩ : ∃ A : Option Addr, A = none := ⟨_, rfl⟩
          obtain ⟨c23, hc23⟩ : ∃ c : Nat, c = 0 := ⟨_, rfl⟩
          have R23 := hide (show RowAt w7 (g21 + 1) 24 #[.int .i64 0, .slice A23 0 c23] from by rw [hA23, hc23]; exact R23.out)
          have O23 := hide (show w7.ownsRow W.heap.size 31 2 (.slice A23 0 c23) 0 (Cs encE []) from by rw [hA23, hc23]; exact World.ownsRow_nil _ _ _ _)
          clear hA23 hc23
          obtain ⟨w9, hw9⟩ : ∃ w, w = w7 := ⟨_, rfl⟩
          subst hw9
          have HNB21 := hide (show (0 : Nat) ≤ 68 from by omega)
          have hkz : ((310 : Int) != (310 : Int)) = false := by simp
          have a0 := row20 R21.out
          have a1 := row21 R21.out
          have al := R21.out.lt
          have b0 := row20 R23.out
          have b1 := row21 R23.out
          have bl := R23.out.lt
          have HSM := hide (SameDir_any w9.heap.size w9.heap.size A21 A23 c21 c23 0 0 [] [] w9 (Rd.of_own O21.out) (Rd.of_own O23.out) (Nat.le_refl _) (Nat.le_refl _) (by simp) (by simp) true (by simp))
          go_wp2_with fail
          refine HSM.out.mono ?_
          rintro e1 w10 ⟨rfl, hb⟩
          dsimp only
          replace R2 := hide (R2.out.below hb)
          replace R5 := hide (R5.out.below hb)
          replace R17 := hide (R17.out.below hb)
          replace R21 := hide (R21.out.below hb)
          replace O5 := hide (own_keepB O5.out hb)
          replace O17 := hide (own_keepB O17.out hb)
          replace OT := hide (own_keepB OT.out hb)
          replace O21 := hide (own_keepB O21.out hb)
          replace HB := hide (HB.out.trans (hb.mono HB.out.size))
          clear hb HSM a0 a1 al b0 b1 bl R23 O23 hkz R20
          have a0 := row20 R21.out
          have a1 := row21 R21.out
          have al := R21.out.lt
          have HSPO := hide (spoil_grown W.heap.size A21 c21 0 [] w10 O21.out HB.out.size (by simp))
          go_wp2_with fail
          refine HSPO.out.mono ?_
          rintro e1 w12 ⟨rfl, hg⟩
          dsimp only
          replace HB := hide (HB.out.trans (below_of_grown O21.out hg HB.out.size))
          have n2 := own_box_ne O21.out R2.out (by decide)
          have n5 := own_box_ne O21.out R5.out (by decide)
          have n17 := own_box_ne O21.out R17.out (by decide)
          replace R2 := hide (row_grownE R2.out hg n2)
          replace R5 := hide (row_grownE R5.out hg n5)
          replace R17 := hide (row_grownE R17.out hg n17)
          replace O5 := hide (own_past O5.out hg (fun g hg2 e => by have h1 := HO5L.out g hg2; have h2 := HL21.out g e.symm; omega))
          replace OT := hide (own_past OT.out hg (fun g hg2 e => by have h1 := HOTL.out g hg2; have h2 := HL21.out g e.symm; omega))
          replace O17 := hide (own_past O17.out hg (fun g hg2 e => by have h1 := HO17L.out g hg2; have h2 := HL21.out g e.symm; omega))
          clear hg n2 n5 n17 HSPO a0 a1 al R21 O21
          go_wp2_with fail
          go_roundw
          case rel => exact ⟨i + 1, d, A, c, es, k + 1, by omega, by go_num, by go_num, by omega, HSN.out, HMD.out, hel, HU.out, R17.out, O17.out, R2.out, R5.out, O5.out, OT.out, HB.out⟩
          case measure => simp [intOf]; omega
        · obtain ⟨hm0, hm5, hm32, -⟩ := may_shape HMD.out
          have HREF := hide (show refSplit d es e low high = o from by
            rw [refSplit_is HMD.out, ← HO.out]
            unfold splStep
            rw [if_pos HMD.out])
          have HSR := hide (SplitR_any A c d es e low high w7 (HDA.out w7 O17.out) hm32 hm0 hm5 hul huh o HREF.out)
          have q0 := row20 R17.out
          have q1 := row21 R17.out
          have ql := R17.out.lt
          obtain ⟨t0, t1, t2, t3, t4, t5⟩ := row6 R20.out
          have tl := R20.out.lt
          go_wp2_with fail
          refine HSR.out.mono ?_
          intro e1 w8 hd
          obtain ⟨A23, c23, rfl, ho, hb⟩ := dirO_form hd
          clear hd
          dsimp only
          rw [HDV.out] at ho
          rw [HDV.out]
          dsimp only at ho ⊢
          rw [HN21.out] at ho
          rw [HN21.out]
          have O23 := hide (ownsRow_base (base' := W.heap.size) ho HB.out.size)
          replace R2 := hide (R2.out.below hb)
          replace R5 := hide (R5.out.below hb)
          replace R17 := hide (R17.out.below hb)
          replace R20 := hide (R20.out.below hb)
          replace R21 := hide (R21.out.below hb)
          replace R23 := hide (R23.out.below hb)
          replace O5 := hide (own_keepB O5.out hb)
          replace O17 := hide (own_keepB O17.out hb)
          replace OT := hide (own_keepB OT.out hb)
          replace O21 := hide (own_keepB O21.out hb)
          replace HB := hide (HB.out.trans (hb.mono HB.out.size))
          clear ho hb q0 q1 ql t0 t1 t2 t3 t4 t5 tl HSR
          have z0 := row20 R23.out
          have z1 := row21 R23.out
          have zl := R23.out.lt
          have zf0 := R23.out.frozen 0
          have zf1 := R23.out.frozen 1
          have R23n := hide ((R23.out.set 0 (.int .i64 D21)).set 1 (.slice A23 n21 c23))
          have R2n := hide ((R2.out.setNe (g2 := g21 + 1) (o := 0) (v := .int .i64 D21) (by have := H52.out; have := HG6.out; omega)).setNe (g2 := g21 + 1) (o := 1) (v := .slice A23 n21 c23) (by have := H52.out; have := HG6.out; omega))
          have R5n := hide ((R5.out.setNe (g2 := g21 + 1) (o := 0) (v := .int .i64 D21) (by have := H52.out; have := HG6.out; omega)).setNe (g2 := g21 + 1) (o := 1) (v := .slice A23 n21 c23) (by have := H52.out; have := HG6.out; omega))
          have R17n := hide ((R17.out.setNe (g2 := g21 + 1) (o := 0) (v := .int .i64 D21) (by have := H52.out; have := HG6.out; omega)).setNe (g2 := g21 + 1) (o := 1) (v := .slice A23 n21 c23) (by have := H52.out; have := HG6.out; omega))
          have R21n := hide ((R21.out.setNe (g2 := g21 + 1) (o := 0) (v := .int .i64 D21) (by omega)).setNe (g2 := g21 + 1) (o := 1) (v := .slice A23 n21 c23) (by omega))
          have O5n := hide (own_setBox (own_setBox O5.out R23.out (by decide) 0 (.int .i64 D21)) (R23.out.set 0 (.int .i64 D21)) (by decide) 1 (.slice A23 n21 c23))
          have O17n := hide (own_setBox (own_setBox O17.out R23.out (by decide) 0 (.int .i64 D21)) (R23.out.set 0 (.int .i64 D21)) (by decide) 1 (.slice A23 n21 c23))
          have OTn := hide (own_setBox (own_setBox OT.out R23.out (by decide) 0 (.int .i64 D21)) (R23.out.set 0 (.int .i64 D21)) (by decide) 1 (.slice A23 n21 c23))
          have O21n := hide (own_setBox (own_setBox O21.out R23.out (by decide) 0 (.int .i64 D21)) (R23.out.set 0 (.int .i64 D21)) (by decide) 1 (.slice A23 n21 c23))
          have O23n := hide (own_setBox (own_setBox O23.out R23.out (by decide) 0 (.int .i64 D21)) (R23.out.set 0 (.int .i64 D21)) (by decide) 1 (.slice A23 n21 c23))
          have HBn := hide ((HB.out.setCell (p := ⟨g21 + 1, 0, none⟩) (by simp; have := H52.out; have := HG6.out; have := HB5.out; omega) (.int .i64 D21)).setCell (p := ⟨g21 + 1, 1, none⟩) (by simp; have := H52.out; have := HG6.out; have := HB5.out; omega) (.slice A23 n21 c23))
          go_upto_region 30 with (fail)
          clear z0 z1 zl zf0 zf1 R2 R5 R17 R21 R23 O5 O17 OT O21 O23 HB
          have R23n : Hid (RowAt ((w8.setCell ⟨g21 + 1, 0, none⟩ (.int .i64 D21)).setCell ⟨g21 + 1, 1, none⟩ (.slice A23 n21 c23)) (g21 + 1) 24 #[.int .i64 D21, .slice A23 n21 c23]) := R23n
          generalize ((w8.setCell ⟨g21 + 1, 0, none⟩ (.int .i64 D21)).setCell ⟨g21 + 1, 1, none⟩ (.slice A23 n21 c23)) = w9 at *
          have R2 := hide R2n.out
          have R5 := hide R5n.out
          have R17 := hide R17n.out
          have R21 := hide R21n.out
          have R23 := hide R23n.out
          have O5 := hide O5n.out
          have O17 := hide O17n.out
          have OT := hide OTn.out
          have O21 := hide O21n.out
          have O23 := hide O23n.out
          have HB := hide HBn.out
          clear R2n R5n R17n R21n R23n O5n O17n OTn O21n O23n HBn
          have HNB21 := hide (show n21 ≤ 68 from by
            rw [← HN21.out]
            cases o with
            | error kk =>
              have hdv := HDV.out
              simp only [dv, Prod.mk.injEq] at hdv
              rw [← hdv.2.1]; simp
            | ok x =>
              have hdv := HDV.out
              simp only [dv, Prod.mk.injEq] at hdv
              rw [← hdv.2.1]
              have := (may_shape (splStep_ok HO.out HU.out hsu2.out).1).2.2.1
              omega)
          have hkz : (k21 != k21) = false := by simp
          have a0 := row20 R21.out
          have a1 := row21 R21.out
          have al := R21.out.lt
          have b0 := row20 R23.out
          have b1 := row21 R23.out
          have bl := R23.out.lt
          have HSM := hide (SameDir_any w9.heap.size w9.heap.size A21 A23 c21 c23 D21 D21 L21 L21 w9 (Rd.of_own (by rw [HN21.out]; exact O21.out)) (Rd.of_own (by rw [HN21.out]; exact O23.out)) (Nat.le_refl _) (Nat.le_refl _) (by have := HN21.out; have := HNB21.out; omega) (by have := HN21.out; have := HNB21.out; omega) true (by simp))
          rw [HN21.out] at HSM
          go_wp2_with fail
          refine HSM.out.mono ?_
          rintro e1 w10 ⟨rfl, hb⟩
          dsimp only
          replace R2 := hide (R2.out.below hb)
          replace R5 := hide (R5.out.below hb)
          replace R17 := hide (R17.out.below hb)
          replace R21 := hide (R21.out.below hb)
          replace O5 := hide (own_keepB O5.out hb)
          replace O17 := hide (own_keepB O17.out hb)
          replace OT := hide (own_keepB OT.out hb)
          replace O21 := hide (own_keepB O21.out hb)
          replace HB := hide (HB.out.trans (hb.mono HB.out.size))
          clear hb HSM a0 a1 al b0 b1 bl R23 O23 hkz R20
          cases o with
          | error kk =>
            have hdv := HDV.out
            simp only [dv, Prod.mk.injEq] at hdv
            obtain ⟨rfl, rfl, rfl⟩ := hdv
            obtain rfl : 0 = n21 := HN21.out
            have hk0 := splStep_err HO.out
            have hkb : (kk == 0) = false := by simpa using hk0
            have a0 := row20 R21.out
            have a1 := row21 R21.out
            have al := R21.out.lt
            have HSPO := hide (spoil_grown W.heap.size A21 c21 0 [] w10 O21.out HB.out.size (by simp))
            go_wp2_with fail
            refine HSPO.out.mono ?_
            rintro e1 w12 ⟨rfl, hg⟩
            dsimp only
            replace HB := hide (HB.out.trans (below_of_grown O21.out hg HB.out.size))
            have n2 := own_box_ne O21.out R2.out (by decide)
            have n5 := own_box_ne O21.out R5.out (by decide)
            have n17 := own_box_ne O21.out R17.out (by decide)
            replace R2 := hide (row_grownE R2.out hg n2)
            replace R5 := hide (row_grownE R5.out hg n5)
            replace R17 := hide (row_grownE R17.out hg n17)
            replace O5 := hide (own_past O5.out hg (fun g hg2 e => by have h1 := HO5L.out g hg2; have h2 := HL21.out g e.symm; omega))
            replace OT := hide (own_past OT.out hg (fun g hg2 e => by have h1 := HOTL.out g hg2; have h2 := HL21.out g e.symm; omega))
            replace O17 := hide (own_past O17.out hg (fun g hg2 e => by have h1 := HO17L.out g hg2; have h2 := HL21.out g e.symm; omega))
            clear hg n2 n5 n17 HSPO a0 a1 al R21 O21
            go_wp2_with fail
            go_roundw
            case rel => exact ⟨i + 1, d, A, c, es, k + 1, by omega, by go_num, by go_num, by omega, HSN.out, HMD.out, hel, HU.out, R17.out, O17.out, R2.out, R5.out, O5.out, OT.out, HB.out⟩
            case measure => simp [intOf]; omega
          | ok x =>
            obtain ⟨X1, X2⟩ := x
            have hdv := HDV.out
            simp only [dv, Prod.mk.injEq] at hdv
            obtain ⟨rfl, rfl, rfl⟩ := hdv
            obtain ⟨hmN, hUN⟩ := splStep_ok HO.out HU.out hsu2.out
            have HMN := hide hmN
            have HUN := hide hUN
            dsimp only at HMN HUN
            have hl32 := (may_shape HMN.out).2.2.1
            have htk : X2.take 34 = X2 := List.take_of_length_le (by omega)
            obtain ⟨_, _, hsf, hnc, hcm⟩ := own_form2 O21.out
            obtain ⟨-, -, rfl⟩ := slice_form hsf
            clear hsf hmN hUN
            have HOWN2 := hide (own_any w10.heap.size A21 c21 n21 X1 X2 w10 (Rd.of_own O21.out) HN21.out (Nat.le_refl _) hnc hcm)
            rw [htk] at HOWN2
            have a0 := row20 R21.out
            have a1 := row21 R21.out
            have al := R21.out.lt
            go_wp2_with fail
            refine HOWN2.out.mono ?_
            rintro e1 w11 ⟨AN, cN, rfl, ho, hb⟩
            dsimp only
            have ON := hide (ownsRow_base (base' := W.heap.size) ho HB.out.size)
            have HNL := hide (show ∀ g, (Value.slice AN X2.length cN).ownBlock = some g → w10.heap.size ≤ g from fun g hg => (own_blk ho hg).1)
            have H21L := hide (show ∀ g, (Value.slice A21 n21 c21).ownBlock = some g → g < w10.heap.size from fun g hg => (own_blk O21.out hg).2)
            replace R2 := hide (R2.out.below hb)
            replace R5 := hide (R5.out.below hb)
            replace R17 := hide (R17.out.below hb)
            replace R21 := hide (R21.out.below hb)
            replace O5 := hide (own_keepB O5.out hb)
            replace OT := hide (own_keepB OT.out hb)
            replace O21 := hide (own_keepB O21.out hb)
            replace HB := hide (HB.out.trans (hb.mono HB.out.size))
            clear ho hb a0 a1 al HOWN2 htk O17
            have z0 := row20 R17.out
            have z1 := row21 R17.out
            have zl := R17.out.lt
            have zf0 := R17.out.frozen 0
            have zf1 := R17.out.frozen 1
            have R17n := hide ((R17.out.set 0 (.int .i64 X1)).set 1 (.slice AN X2.length cN))
            have R2n := hide ((R2.out.setNe (g2 := g17) (o := 0) (v := .int .i64 X1) N2.out).setNe (g2 := g17) (o := 1) (v := .slice AN X2.length cN) N2.out)
            have R5n := hide ((R5.out.setNe (g2 := g17) (o := 0) (v := .int .i64 X1) N5.out).setNe (g2 := g17) (o := 1) (v := .slice AN X2.length cN) N5.out)
            have R21n := hide ((R21.out.setNe (g2 := g17) (o := 0) (v := .int .i64 X1) (by have := H52.out; have := HG6.out; omega)).setNe (g2 := g17) (o := 1) (v := .slice AN X2.length cN) (by have := H52.out; have := HG6.out; omega))
            have O5n := hide (own_setBox (own_setBox O5.out R17.out (by decide) 0 (.int .i64 X1)) (R17.out.set 0 (.int .i64 X1)) (by decide) 1 (.slice AN X2.length cN))
            have OTn := hide (own_setBox (own_setBox OT.out R17.out (by decide) 0 (.int .i64 X1)) (R17.out.set 0 (.int .i64 X1)) (by decide) 1 (.slice AN X2.length cN))
            have O21n := hide (own_setBox (own_setBox O21.out R17.out (by decide) 0 (.int .i64 X1)) (R17.out.set 0 (.int .i64 X1)) (by decide) 1 (.slice AN X2.length cN))
            have ONn := hide (own_setBox (own_setBox ON.out R17.out (by decide) 0 (.int .i64 X1)) (R17.out.set 0 (.int .i64 X1)) (by decide) 1 (.slice AN X2.length cN))
            have HBn := hide ((HB.out.setCell (p := ⟨g17, 0, none⟩) (by have := G17W.out; simp; omega) (.int .i64 X1)).setCell (p := ⟨g17, 1, none⟩) (by have := G17W.out; simp; omega) (.slice AN X2.length cN))
            go_upto_region 35 with (fail)
            clear z0 z1 zl zf0 zf1 R2 R5 R17 R21 O5 OT O21 ON HB
            have R17n : Hid (RowAt ((w11.setCell ⟨g17, 0, none⟩ (.int .i64 X1)).setCell ⟨g17, 1, none⟩ (.slice AN X2.length cN)) g17 24 #[.int .i64 X1, .slice AN X2.length cN]) := R17n
            generalize ((w11.setCell ⟨g17, 0, none⟩ (.int .i64 X1)).setCell ⟨g17, 1, none⟩ (.slice AN X2.length cN)) = w13 at *
            have R2 := hide R2n.out
            have R5 := hide R5n.out
            have R17 := hide R17n.out
            have R21 := hide R21n.out
            have O5 := hide O5n.out
            have OT := hide OTn.out
            have O21 := hide O21n.out
            have ON := hide ONn.out
            have HB := hide HBn.out
            clear R2n R5n R17n R21n O5n OTn O21n ONn HBn
            have a0 := row20 R21.out
            have a1 := row21 R21.out
            have al := R21.out.lt
            have HSPO := hide (spoil_grown W.heap.size A21 c21 X1 X2 w13 (by rw [HN21.out]; exact O21.out) HB.out.size (by have := HN21.out; have := HNB21.out; omega))
            rw [HN21.out] at HSPO
            go_wp2_with fail
            refine HSPO.out.mono ?_
            rintro e1 w12 ⟨rfl, hg⟩
            dsimp only
            replace HB := hide (HB.out.trans (below_of_grown O21.out hg HB.out.size))
            have n2 := own_box_ne O21.out R2.out (by decide)
            have n5 := own_box_ne O21.out R5.out (by decide)
            have n17 := own_box_ne O21.out R17.out (by decide)
            replace R2 := hide (row_grownE R2.out hg n2)
            replace R5 := hide (row_grownE R5.out hg n5)
            replace R17 := hide (row_grownE R17.out hg n17)
            replace O5 := hide (own_past O5.out hg (fun g hg2 e => by have h1 := HO5L.out g hg2; have h2 := HL21.out g e.symm; omega))
            replace OT := hide (own_past OT.out hg (fun g hg2 e => by have h1 := HOTL.out g hg2; have h2 := HL21.out g e.symm; omega))
            replace ON := hide (own_past ON.out hg (fun g hg2 e => by have h1 := HNL.out g hg2; have h2 := H21L.out g e.symm; omega))
            clear hg n2 n5 n17 HSPO a0 a1 al R21 O21
            go_wp2_with fail
            go_roundw
            case rel => exact ⟨i + 1, X1, AN, cN, X2, k, by omega, by go_num, rfl, by omega, HSN.out, HMN.out, by omega, HUN.out, R17.out, ON.out, R2.out, R5.out, O5.out, OT.out, HB.out⟩
            case measure => simp [intOf]; omega
      · obtain rfl : i = m := by omega
        have hfin := HSP.out
        rw [List.take_of_length_le (by rw [HTX.out]; exact Nat.le_refl _)] at hfin
        have HFIN := hide hfin
        have HSPL := hide (Splits_any A5 c5 dep L wr.heap.size AT2 cT2 i ts wr (HD5.out wr O5.out) (Rd.of_own OT.out) (Nat.le_refl _) HTX.out (by omega) HTU.out mr HMR.out)
        rw [HN5.out] at HSPL
        clear hfin
        have q0 := row20 R5.out
        have q1 := row21 R5.out
        have ql := R5.out.lt
        go_wp2_with fail
        refine HSPL.out.mono ?_
        clear HSPL
        cases mr
        · rintro e1 w21 ⟨rfl, hb⟩
          dsimp only
          have hba := (Below.refl _ w21).alloc (Nat.le_refl _) (.cells #[.int .i64 0, .slice none 0 0] 24)
          have R25 := hide (RowAt.new w21 24 #[.int .i64 0, .slice none 0 0])
          have hb2 := hb.trans (hba.mono hb.size)
          replace HB := hide (HB.out.trans (hb2.mono HB.out.size))
          clear hb hba hb2 q0 q1 ql
          go_upto_region 38 with (fail)
          generalize w21.alloc (.cells #[.int .i64 0, .slice none 0 0] 24) = w22 at *
          have z1 := row21 R25.out
          have zl := R25.out.lt
          go_wp2_with fail
          go_ret
          exact ⟨rfl, HB.out⟩
        · rintro e1 w21 ⟨A25, c25, rfl, ho, hb⟩
          dsimp only
          rw [HFIN.out] at ho
          rw [HFIN.out]
          dsimp only at ho ⊢
          obtain ⟨n25, hn25⟩ : ∃ n, es.length = n := ⟨_, rfl⟩
          have HN25 := hide hn25
          rw [hn25] at ho R17 O17
          rw [hn25]
          clear hn25
          have O25 := hide (ownsRow_base (base' := W.heap.size) ho HB.out.size)
          have hba := (Below.refl _ w21).alloc (Nat.le_refl _) (.cells #[.int .i64 d, .slice A25 n25 c25] 24)
          have R25 := hide (RowAt.new w21 24 #[.int .i64 d, .slice A25 n25 c25])
          have hb2 := hb.trans (hba.mono hb.size)
          replace O25 := hide (own_keepB O25.out hba)
          replace R2 := hide (R2.out.below hb2)
          replace R5 := hide (R5.out.below hb2)
          replace R17 := hide (R17.out.below hb2)
          replace O5 := hide (own_keepB O5.out hb2)
          replace O17 := hide (own_keepB O17.out hb2)
          replace HB := hide (HB.out.trans (hb2.mono HB.out.size))
          clear ho hb hba hb2 q0 q1 ql
          go_upto_region 38 with (fail)
          generalize hg : w21.heap.size = g25 at *
          clear hg
          generalize w21.alloc (.cells #[.int .i64 d, .slice A25 n25 c25] 24) = w22 at *
          have q0 := row20 R25.out
          have q1 := row21 R25.out
          have p0 := row20 R17.out
          have p1 := row21 R17.out
          have s0 := row20 R5.out
          have s1 := row21 R5.out
          have v0 := row20 R2.out
          have v1 := row21 R2.out
          have HSDX := hide (fun (w : World) (hb : Below w22.heap.size w22 w) => SameDir_any w.heap.size w.heap.size A25 A c25 c d d es es w (Rd.of_own (own_keepB (show w22.ownsRow W.heap.size 31 2 (.slice A25 es.length c25) es.length (Cs encE es) from by rw [HN25.out]; exact O25.out) hb)) (Rd.of_own (own_keepB (show w22.ownsRow W.heap.size 31 2 (.slice A es.length c) es.length (Cs encE es) from by rw [HN25.out]; exact O17.out) hb)) (Nat.le_refl _) (Nat.le_refl _) (by omega) (by omega) true (by simp))
          rw [HN25.out] at HSDX
          go_upto_region 40 with (fail)
          have HS : Hid (∀ w w', Below w.heap.size w w' → (Below w22.heap.size w22 w ∧ w.cell? ⟨g25, 0, none⟩ = some (.int .i64 d) ∧ w.cell? ⟨g25, 1, none⟩ = some (.slice A25 n25 c25) ∧ w.cell? ⟨g17, 0, none⟩ = some (.int .i64 d) ∧ w.cell? ⟨g17, 1, none⟩ = some (.slice A n25 c) ∧ w.cell? ⟨g5, 0, none⟩ = some (.int .i64 dep) ∧ w.cell? ⟨g5, 1, none⟩ = some (.slice A5 n5 c5) ∧ w.cell? ⟨W.heap.size, 0, none⟩ = some (.int .i64 dep) ∧ w.cell? ⟨W.heap.size, 1, none⟩ = some (.slice A0 n0 c0)) → (Below w22.heap.size w22 w' ∧ w'.cell? ⟨g25, 0, none⟩ = some (.int .i64 d) ∧ w'.cell? ⟨g25, 1, none⟩ = some (.slice A25 n25 c25) ∧ w'.cell? ⟨g17, 0, none⟩ = some (.int .i64 d) ∧ w'.cell? ⟨g17, 1, none⟩ = some (.slice A n25 c) ∧ w'.cell? ⟨g5, 0, none⟩ = some (.int .i64 dep) ∧ w'.cell? ⟨g5, 1, none⟩ = some (.slice A5 n5 c5) ∧ w'.cell? ⟨W.heap.size, 0, none⟩ = some (.int .i64 dep) ∧ w'.cell? ⟨W.heap.size, 1, none⟩ = some (.slice A0 n0 c0))) := hide (fun w w' hb h => ⟨h.1.trans (hb.mono h.1.size), kept hb h.2.1, kept hb h.2.2.1, kept hb h.2.2.2.1, kept hb h.2.2.2.2.1, kept hb h.2.2.2.2.2.1, kept hb h.2.2.2.2.2.2.1, kept hb h.2.2.2.2.2.2.2.1, kept hb h.2.2.2.2.2.2.2.2⟩)
          have hS0 : (Below w22.heap.size w22 w22.drew ∧ w22.drew.cell? ⟨g25, 0, none⟩ = some (.int .i64 d) ∧ w22.drew.cell? ⟨g25, 1, none⟩ = some (.slice A25 n25 c25) ∧ w22.drew.cell? ⟨g17, 0, none⟩ = some (.int .i64 d) ∧ w22.drew.cell? ⟨g17, 1, none⟩ = some (.slice A n25 c) ∧ w22.drew.cell? ⟨g5, 0, none⟩ = some (.int .i64 dep) ∧ w22.drew.cell? ⟨g5, 1, none⟩ = some (.slice A5 n5 c5) ∧ w22.drew.cell? ⟨W.heap.size, 0, none⟩ = some (.int .i64 dep) ∧ w22.drew.cell? ⟨W.heap.size, 1, none⟩ = some (.slice A0 n0 c0)) := ⟨(Below.refl _ _).drew, q0, q1, p0, p1, s0, s1, v0, v1⟩
          have HSX := hide hS0
          refine wp_region_held_drew (S := fun wX => (Below w22.heap.size w22 wX ∧ wX.cell? ⟨g25, 0, none⟩ = some (.int .i64 d) ∧ wX.cell? ⟨g25, 1, none⟩ = some (.slice A25 n25 c25) ∧ wX.cell? ⟨g17, 0, none⟩ = some (.int .i64 d) ∧ wX.cell? ⟨g17, 1, none⟩ = some (.slice A n25 c) ∧ wX.cell? ⟨g5, 0, none⟩ = some (.int .i64 dep) ∧ wX.cell? ⟨g5, 1, none⟩ = some (.slice A5 n5 c5) ∧ wX.cell? ⟨W.heap.size, 0, none⟩ = some (.int .i64 dep) ∧ wX.cell? ⟨W.heap.size, 1, none⟩ = some (.slice A0 n0 c0))) (by kernel_rfl) (hS0) (fun hHeld => ?_)
          (refine wpAnyH_take (i := 0) (v := ?_) rfl (by kernel_rfl) (by kernel_rfl) (by kernel_rfl) (fun _ _ _ h => h) (Or.inl ⟨by rfl, ?_⟩) (by assumption) ?_; rotate_left; (focus (intro w hSw; (try dsimp only at hSw); obtain ⟨kf0, kf1, kf2, kf3, kf4, kf5, kf6, kf7, kf8⟩ := hSw; go_simp; first | done | with_reducible rfl)); (try simp only [Act.put, List.getElem_toArray, List.getElem_cons_succ, List.getElem_cons_zero, List.setIfInBounds_toArray, List.set_cons_zero, List.set_cons_succ]))
          (refine wpAnyH_take (i := 1) (v := ?_) rfl (by kernel_rfl) (by kernel_rfl) (by kernel_rfl) (fun _ _ _ h => h) (Or.inl ⟨by rfl, ?_⟩) (by assumption) ?_; rotate_left; (focus (intro w hSw; (try dsimp only at hSw); obtain ⟨kf0, kf1, kf2, kf3, kf4, kf5, kf6, kf7, kf8⟩ := hSw; go_simp; first | done | with_reducible rfl)); (try simp only [Act.put, List.getElem_toArray, List.getElem_cons_succ, List.getElem_cons_zero, List.setIfInBounds_toArray, List.set_cons_zero, List.set_cons_succ]))
          (refine wpAnyH_take (i := 2) (v := ?_) rfl (by kernel_rfl) (by kernel_rfl) (by kernel_rfl) (fun _ _ _ h => h) (Or.inl ⟨by rfl, ?_⟩) (by assumption) ?_; rotate_left; (focus (intro w hSw; (try dsimp only at hSw); obtain ⟨kf0, kf1, kf2, kf3, kf4, kf5, kf6, kf7, kf8⟩ := hSw; go_simp; first | done | with_reducible rfl)); (try simp only [Act.put, List.getElem_toArray, List.getElem_cons_succ, List.getElem_cons_zero, List.setIfInBounds_toArray, List.set_cons_zero, List.set_cons_succ]))
          (refine wpAnyH_take (i := 3) (v := ?_) rfl (by kernel_rfl) (by kernel_rfl) (by kernel_rfl) (fun _ _ _ h => h) (Or.inl ⟨by rfl, ?_⟩) (by assumption) ?_; rotate_left; (focus (intro w hSw; (try dsimp only at hSw); obtain ⟨kf0, kf1, kf2, kf3, kf4, kf5, kf6, kf7, kf8⟩ := hSw; go_simp; first | done | with_reducible rfl)); (try simp only [Act.put, List.getElem_toArray, List.getElem_cons_succ, List.getElem_cons_zero, List.setIfInBounds_toArray, List.set_cons_zero, List.set_cons_succ]))
          (refine wpAnyH_take (i := 4) (v := ?_) rfl (by kernel_rfl) (by kernel_rfl) (by kernel_rfl) (fun _ _ _ h => h) (Or.inl ⟨by rfl, ?_⟩) (by assumption) ?_; rotate_left; (focus (intro w hSw; (try dsimp only at hSw); obtain ⟨kf0, kf1, kf2, kf3, kf4, kf5, kf6, kf7, kf8⟩ := hSw; go_simp; first | done | with_reducible rfl)); (try simp only [Act.put, List.getElem_toArray, List.getElem_cons_succ, List.getElem_cons_zero, List.setIfInBounds_toArray, List.set_cons_zero, List.set_cons_succ]))
          (refine wpAnyH_take (i := 5) (v := ?_) rfl (by kernel_rfl) (by kernel_rfl) (by kernel_rfl) (fun _ _ _ h => h) (Or.inl ⟨by rfl, ?_⟩) (by assumption) ?_; rotate_left; (focus (intro w hSw; (try dsimp only at hSw); obtain ⟨kf0, kf1, kf2, kf3, kf4, kf5, kf6, kf7, kf8⟩ := hSw; go_simp; first | done | with_reducible rfl)); (try simp only [Act.put, List.getElem_toArray, List.getElem_cons_succ, List.getElem_cons_zero, List.setIfInBounds_toArray, List.set_cons_zero, List.set_cons_succ]))
          (refine wpAnyH_take (i := 6) (v := ?_) rfl (by kernel_rfl) (by kernel_rfl) (by kernel_rfl) (fun _ _ _ h => h) (Or.inl ⟨by rfl, ?_⟩) (by assumption) ?_; rotate_left; (focus (intro w hSw; (try dsimp only at hSw); obtain ⟨kf0, kf1, kf2, kf3, kf4, kf5, kf6, kf7, kf8⟩ := hSw; go_simp; first | done | with_reducible rfl)); (try simp only [Act.put, List.getElem_toArray, List.getElem_cons_succ, List.getElem_cons_zero, List.setIfInBounds_toArray, List.set_cons_zero, List.set_cons_succ]))
          (refine wpAnyH_take (i := 7) (v := ?_) rfl (by kernel_rfl) (by kernel_rfl) (by kernel_rfl) (fun _ _ _ h => h) (Or.inl ⟨by rfl, ?_⟩) (by assumption) ?_; rotate_left; (focus (intro w hSw; (try dsimp only at hSw); obtain ⟨kf0, kf1, kf2, kf3, kf4, kf5, kf6, kf7, kf8⟩ := hSw; go_simp; first | done | with_reducible rfl)); (try simp only [Act.put, List.getElem_toArray, List.getElem_cons_succ, List.getElem_cons_zero, List.setIfInBounds_toArray, List.set_cons_zero, List.set_cons_succ]))
          (refine wpAnyH_take (i := 8) (v := ?_) rfl (by kernel_rfl) (by kernel_rfl) (by kernel_rfl) (fun _ _ _ h => h) (Or.inl ⟨by rfl, ?_⟩) (by assumption) ?_; rotate_left; (focus (intro w hSw; (try dsimp only at hSw); obtain ⟨kf0, kf1, kf2, kf3, kf4, kf5, kf6, kf7, kf8⟩ := hSw; go_simp; first | done | with_reducible rfl)); (try simp only [Act.put, List.getElem_toArray, List.getElem_cons_succ, List.getElem_cons_zero, List.setIfInBounds_toArray, List.set_cons_zero, List.set_cons_succ]))
          (refine wpAnyH_take (i := 9) (v := ?_) rfl (by kernel_rfl) (by kernel_rfl) (by kernel_rfl) (fun _ _ _ h => h) (Or.inl ⟨by rfl, ?_⟩) (by assumption) ?_; rotate_left; (focus (intro w hSw; (try dsimp only at hSw); obtain ⟨kf0, kf1, kf2, kf3, kf4, kf5, kf6, kf7, kf8⟩ := hSw; go_simp; first | done | with_reducible rfl)); (try simp only [Act.put, List.getElem_toArray, List.getElem_cons_succ, List.getElem_cons_zero, List.setIfInBounds_toArray, List.set_cons_zero, List.set_cons_succ]))
          refine wpAnyH_ready (rs := [10]) (by kernel_rfl) (by simp) ?_
          refine (AllReadyH.cons rfl (fun K0 hK0 => ?_) AllReadyH.nil)
          go_simp
          refine (HSDX.out _ HSX.out.1).mono ?_
          rintro e1 w23 ⟨rfl, hb⟩
          replace HSX := hide (HS.out _ _ hb HSX.out)
          refine hK0.out _ _ (HSX.out) (fun _ => ?_)
          clear hK0 K0
          (try simp only [Act.put, List.getElem_toArray, List.getElem_cons_succ, List.getElem_cons_zero, List.setIfInBounds_toArray, List.set_cons_zero, List.set_cons_succ])
          (refine wpAnyH_take (i := 11) (v := ?_) rfl (by kernel_rfl) (by kernel_rfl) (by kernel_rfl) (fun _ _ _ h => h) (Or.inl ⟨by rfl, ?_⟩) (by assumption) ?_; rotate_left; (focus (intro w hSw; (try dsimp only at hSw); obtain ⟨kf0, kf1, kf2, kf3, kf4, kf5, kf6, kf7, kf8⟩ := hSw; go_simp; first | done | with_reducible rfl)); (try simp only [Act.put, List.getElem_toArray, List.getElem_cons_succ, List.getElem_cons_zero, List.setIfInBounds_toArray, List.set_cons_zero, List.set_cons_succ]))
          (refine wpAnyH_take (i := 12) (v := ?_) rfl (by kernel_rfl) (by kernel_rfl) (by kernel_rfl) (fun _ _ _ h => h) (Or.inl ⟨by rfl, ?_⟩) (by assumption) ?_; rotate_left; (focus (intro w hSw; (try dsimp only at hSw); obtain ⟨kf0, kf1, kf2, kf3, kf4, kf5, kf6, kf7, kf8⟩ := hSw; go_simp; first | done | with_reducible rfl)); (try simp only [Act.put, List.getElem_toArray, List.getElem_cons_succ, List.getElem_cons_zero, List.setIfInBounds_toArray, List.set_cons_zero, List.set_cons_succ]))
          (refine wpAnyH_take (i := 13) (v := ?_) rfl (by kernel_rfl) (by kernel_rfl) (by kernel_rfl) (fun _ _ _ h => h) (Or.inl ⟨by rfl, ?_⟩) (by assumption) ?_; rotate_left; (focus (intro w hSw; (try dsimp only at hSw); obtain ⟨kf0, kf1, kf2, kf3, kf4, kf5, kf6, kf7, kf8⟩ := hSw; go_simp; first | done | with_reducible rfl)); (try simp only [Act.put, List.getElem_toArray, List.getElem_cons_succ, List.getElem_cons_zero, List.setIfInBounds_toArray, List.set_cons_zero, List.set_cons_succ]))
          (refine wpAnyH_take (i := 14) (v := ?_) rfl (by kernel_rfl) (by kernel_rfl) (by kernel_rfl) (fun _ _ _ h => h) (Or.inl ⟨by rfl, ?_⟩) (by assumption) ?_; rotate_left; (focus (intro w hSw; (try dsimp only at hSw); obtain ⟨kf0, kf1, kf2, kf3, kf4, kf5, kf6, kf7, kf8⟩ := hSw; go_simp; first | done | with_reducible rfl)); (try simp only [Act.put, List.getElem_toArray, List.getElem_cons_succ, List.getElem_cons_zero, List.setIfInBounds_toArray, List.set_cons_zero, List.set_cons_succ]))
          refine wpAnyH_ready (rs := [15]) (by kernel_rfl) (by simp) ?_
          refine (AllReadyH.cons rfl (fun K1 hK1 => ?_) AllReadyH.nil)
          go_simp
          refine (HOWN.out _ (HB.out.trans (HSX.out.1.mono HB.out.size))).mono ?_
          rintro e1 w24 ⟨A9, c9, rfl, ho9, hb⟩
          have HO9 := hide ho9
          replace HSX := hide (HS.out _ _ hb HSX.out)
          rw [HN5.out]
          refine hK1.out _ _ (HSX.out) (fun _ => ?_)
          clear hK1 K1
          (try simp only [Act.put, List.getElem_toArray, List.getElem_cons_succ, List.getElem_cons_zero, List.setIfInBounds_toArray, List.set_cons_zero, List.set_cons_succ])
          refine wpAnyH_ready (rs := [16]) (by kernel_rfl) (by simp) ?_
          refine (AllReadyH.cons rfl (fun K2 hK2 => ?_) AllReadyH.nil)
          go_simp
          have HSD := hide (SameDir_any w24.heap.size w24.heap.size A5 A9 c5 c9 dep dep L L w24 (HD5.out w24 (own_keepB O5.out HSX.out.1)).rd (Rd.of_own HO9.out) (Nat.le_refl _) (Nat.le_refl _) (by have := HLL.out; omega) (by have := HLL.out; omega) true (by simp))
          rw [HN5.out] at HSD
          refine HSD.out.mono ?_
          rintro e1 w25 ⟨rfl, hb2⟩
          replace HSX := hide (HS.out _ _ hb2 HSX.out)
          refine hK2.out _ _ (HSX.out) (fun _ => ?_)
          clear hK2 K2
          (try simp only [Act.put, List.getElem_toArray, List.getElem_cons_succ, List.getElem_cons_zero, List.setIfInBounds_toArray, List.set_cons_zero, List.set_cons_succ])
          (refine wpAnyH_take (i := 17) (v := ?_) rfl (by kernel_rfl) (by kernel_rfl) (by kernel_rfl) (fun _ _ _ h => h) (Or.inl ⟨by rfl, ?_⟩) (by assumption) ?_; rotate_left; (focus (intro w hSw; (try dsimp only at hSw); obtain ⟨kf0, kf1, kf2, kf3, kf4, kf5, kf6, kf7, kf8⟩ := hSw; go_simp; first | done | with_reducible rfl)); (try simp only [Act.put, List.getElem_toArray, List.getElem_cons_succ, List.getElem_cons_zero, List.setIfInBounds_toArray, List.set_cons_zero, List.set_cons_succ]))
          (refine wpAnyH_take (i := 18) (v := ?_) rfl (by kernel_rfl) (by kernel_rfl) (by kernel_rfl) (fun _ _ _ h => h) (Or.inl ⟨by rfl, ?_⟩) (by assumption) ?_; rotate_left; (focus (intro w hSw; (try dsimp only at hSw); obtain ⟨kf0, kf1, kf2, kf3, kf4, kf5, kf6, kf7, kf8⟩ := hSw; go_simp; first | done | with_reducible rfl)); (try simp only [Act.put, List.getElem_toArray, List.getElem_cons_succ, List.getElem_cons_zero, List.setIfInBounds_toArray, List.set_cons_zero, List.set_cons_succ]))
          refine wpAnyH_done (by kernel_rfl) ?_ _
          have HF := hide (HB.out.trans (HSX.out.1.mono HB.out.size))
          go_wp2_with fail
          go_ret
          exact ⟨rfl, HF.out⟩
end Go.Proofs.Ytjlbnegdiabglaa
