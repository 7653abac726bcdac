/-
  Rows of mutexes in memory; whether one may be; whether all may.
-/
import Derived.Test.YtlelpnahillioaaMua
set_option linter.unusedSimpArgs false
set_option linter.unusedVariables false
namespace Go.Proofs.Ytlelpnahillioaa
open Go Go.RowKit
attribute [local go_sem] via_cell via_frozen

/-- A mutex in memory: who has it; where its queue lies, its room, and what it holds. -/
structure Mm where
  who : Int
  A : Option Addr
  c : Nat
  q : List Int
def Mm.mu (t : Mm) : Mu := (t.who, t.q)
abbrev mC (t : Mm) : Array Value := #[.int .i64 t.who, .slice t.A t.q.length t.c]
def encM (t : Mm) : List Value := [.int .i64 t.who, .slice t.A t.q.length t.c]
theorem encM_len : ∀ x, (encM x).length = 2 := fun _ => rfl
theorem encM_one : ∀ x, ∀ u ∈ encM x, u.oneCell' = true := by intro x u hu; simp [encM] at hu; rcases hu with rfl | rfl <;> rfl
theorem elM : ElemOk Try.prog 22 47 2 32 (.agg #[.int .i64 0, .slice none 0 0]) := ⟨Try.underlying22, by kernel_rfl, rfl, by omega, by omega, by intro u hu; simp [Value.cells] at hu; rcases hu with rfl | rfl <;> rfl⟩
/-- A slice that reads as mutexes: their queues as well; all below B. -/
structure RM (w : World) (B : Nat) (A : Option Addr) (m : Nat) (ts : List Mm) : Prop where
  rd : Rd w B 2 A m (Cs encM ts)
  len : ts.length = m
  qs : ∀ t ∈ ts, Rd w B 1 t.A t.q.length (Cs encI t.q)
theorem RM.below {w w' : World} {B m : Nat} {A : Option Addr} {ts : List Mm} (h : RM w B A m ts) (hb : Below B w w') : RM w' B A m ts := ⟨h.rd.below hb, h.len, fun t ht => (h.qs t ht).below hb⟩
theorem RM.more {w : World} {B B' m : Nat} {A : Option Addr} {ts : List Mm} (h : RM w B A m ts) (hb : B ≤ B') : RM w B' A m ts := ⟨h.rd.more hb, h.len, fun t ht => (h.qs t ht).more hb⟩
theorem RM.keep {w w' : World} {B m : Nat} {A : Option Addr} {ts : List Mm} (h : RM w B A m ts) (hk : ∀ j, j < B → w'.heap[j]? = w.heap[j]?) : RM w' B A m ts := ⟨h.rd.keep (fun p hp => cell_of_heap (hk _ hp)), h.len, fun t ht => (h.qs t ht).keep (fun p hp => cell_of_heap (hk _ hp))⟩
def mmZ : Mm := ⟨0, none, 0, []⟩
theorem RM.at_ {w : World} {B m : Nat} {A : Option Addr} {ts : List Mm} (h : RM w B A m ts) {k : Nat} (hk : k < m) :
    ∃ b o, A = some ⟨b, o, none⟩ ∧ b < B ∧ w.cell? ⟨b, o + k * 2, none⟩ = some (.int .i64 (ts.getD k mmZ).who) ∧ w.cell? ⟨b, o + k * 2 + 1, none⟩ = some (.slice (ts.getD k mmZ).A (ts.getD k mmZ).q.length (ts.getD k mmZ).c) ∧ Rd w B 1 (ts.getD k mmZ).A (ts.getD k mmZ).q.length (Cs encI (ts.getD k mmZ).q) := by
  obtain ⟨hrd, rfl, hc⟩ := h
  obtain ⟨b, o, h1, h2, h3⟩ := hrd.elem encM_len hk
  have e : ts.getD k mmZ = ts[k] := by rw [List.getD_eq_getElem?_getD, List.getElem?_eq_getElem hk]; rfl
  rw [e]
  exact ⟨b, o, h1, h2, by simpa using h3 0 _ (by omega) rfl, h3 1 _ (by omega) rfl, hc _ (List.getElem_mem hk)⟩
/-- As many as can be gone through. -/
def SmallM (ts : List Mm) : Prop := ts.length ≤ 4096 ∧ ∀ t ∈ ts, t.q.length ≤ 4096
def mus (ts : List Mm) : Ml := ts.map Mm.mu
theorem mus_take (ts : List Mm) (k : Nat) : mus (ts.take k) = (mus ts).take k := List.map_take
theorem mus_len (ts : List Mm) : (mus ts).length = ts.length := List.length_map _
theorem mus_at (ts : List Mm) (k : Nat) : mAt (mus ts) k = (ts.getD k mmZ).mu := by
  unfold mAt mus
  rw [List.getD_eq_getElem?_getD, List.getD_eq_getElem?_getD, List.getElem?_map]
  cases ts[k]? <;> rfl
theorem getM_mem {ts : List Mm} {k : Nat} (h : k < ts.length) : ts.getD k mmZ ∈ ts := by
  rw [List.getD_eq_getElem?_getD, List.getElem?_eq_getElem h]; exact List.getElem_mem h
theorem takeM_succ {ts : List Mm} {k : Nat} (h : k < ts.length) : ts.take (k + 1) = ts.take k ++ [ts.getD k mmZ] := by
  rw [List.take_succ_eq_append_getElem h, List.getD_eq_getElem?_getD, List.getElem?_eq_getElem h]; rfl

set_option maxHeartbeats 1000000 in
theorem check1_any (t : Mm) (W : World) (h : Rd W W.heap.size 1 t.A t.q.length (Cs encI t.q)) (hl : t.q.length ≤ 4096) (r : Bool) (hr : muB t.mu = r) :
    Calls Try.prog 44 #[.agg (mC t)] W fun e W' => e = .returned (.bool r) ∧ Below W.heap.size W W' := by
  obtain ⟨who, A, c, q⟩ := t
  dsimp only [Mm.mu, mC] at *
  unfold muB at hr
  dsimp only at hr
  have HB := hide (show Below W.heap.size W (W.alloc (.cells #[.int .i64 who, .slice A q.length c] 47)) from (Below.refl _ _).alloc (Nat.le_refl _) _)
  have HRN := hide (RowAt.new W 47 #[.int .i64 who, .slice A q.length c])
  have H1 := hide (h.below HB.out)
  clear h
  by_cases c1 : 0 ≤ who
  case neg =>
    have hd : decide (0 ≤ who) = false := by simpa using c1
    have HF := hide (show false = r from by rw [← hr, hd]; rfl)
    clear hr c1
    go_enter Try.func44, Try.ntmps44
    go_wp2_with fail
    go_ret
    exact ⟨ret_bool HF.out, HB.out⟩
  have hd : decide (0 ≤ who) = true := by simpa using c1
  rw [hd] at hr
  by_cases c2 : who ≤ 8
  case neg =>
    have hd2 : decide (who ≤ 8) = false := by simpa using c2
    have HF := hide (show false = r from by rw [← hr, hd2]; rfl)
    clear hr c1 c2
    go_enter Try.func44, Try.ntmps44
    go_wp2_with fail
    go_ret
    exact ⟨ret_bool HF.out, HB.out⟩
  have hd2 : decide (who ≤ 8) = true := by simpa using c2
  rw [hd2] at hr
  obtain ⟨qa, hqa⟩ : ∃ x, q.all goerB = x := ⟨_, rfl⟩
  obtain ⟨qc, hqc⟩ : ∃ x, q.contains (who - 1) = x := ⟨_, rfl⟩
  have hw1 : wrap64 (who - 1) = who - 1 := IntWalk.wrap64_in _ (by omega)
  rw [hqa, hqc] at hr
  simp only [Bool.true_and] at hr
  have HCA := hide (fun w (hb : Below (W.alloc (.cells #[.int .i64 who, .slice A q.length c] 47)).heap.size (W.alloc (.cells #[.int .i64 who, .slice A q.length c] 47)) w) => allI_any W.heap.size A c q.length q w (H1.out.below (hb.mono HB.out.size)) rfl hl (Nat.le_trans HB.out.size hb.size) qa hqa)
  have HCC := hide (fun w (hb : Below (W.alloc (.cells #[.int .i64 who, .slice A q.length c] 47)).heap.size (W.alloc (.cells #[.int .i64 who, .slice A q.length c] 47)) w) => contains_any W.heap.size A c q.length q (who - 1) w (H1.out.below (hb.mono HB.out.size)) rfl hl (Nat.le_trans HB.out.size hb.size) qc hqc)
  obtain ⟨b3, hb3⟩ : ∃ x, decide (0 < who) = x := ⟨_, rfl⟩
  obtain ⟨b4, hb4⟩ : ∃ x, ((q.length : Int) == 0) = x := ⟨_, rfl⟩
  have hb4' : decide (q.length = 0) = b4 := by rw [← hb4, Bool.eq_iff_iff]; simp
  rw [hb3, hb4'] at hr
  have HR := hide hr
  clear hr hqa hqc hb4' c1 c2
  cases b3
  case false =>
    cases b4
    case false =>
      have HF := hide (show false = r from by rw [← HR.out]; rfl)
      clear HCA HCC
      go_enter Try.func44, Try.ntmps44
      go_wp2_with fail
      go_ret
      exact ⟨ret_bool HF.out, HB.out⟩
    have HR := hide (show (qa && !qc) = r from by rw [← HR.out]; simp)
    go_enter Try.func44, Try.ntmps44
    go_wp2_with fail
    with_reducible refine (HCA.out _ (Below.refl _ _)).mono ?_
    rintro e w1 ⟨rfl, hb⟩
    have HB1 := hide hb
    have HRN1 := hide (HRN.out.below hb)
    have f0 := row20 HRN1.out
    have f1 := row21 HRN1.out
    have fl := HRN1.out.lt
    clear hb
    cases qa
    · have HF := hide (show false = r from by rw [← HR.out]; rfl)
      go_wp2_with fail
      go_ret
      exact ⟨ret_bool HF.out, HB.out.trans (HB1.out.mono HB.out.size)⟩
    · have HCC1 := hide (HCC.out _ HB1.out)
      go_wp2_with fail
      with_reducible refine HCC1.out.mono ?_
      rintro e w2 ⟨rfl, rfl⟩
      go_wp2_with fail
      go_ret
      exact ⟨ret_bool (by rw [← HR.out]; simp), HB.out.trans (HB1.out.mono HB.out.size)⟩
  case true =>
    have HR := hide (show (qa && !qc) = r from by rw [← HR.out]; simp)
    go_enter Try.func44, Try.ntmps44
    go_wp2_with fail
    with_reducible refine (HCA.out _ (Below.refl _ _)).mono ?_
    rintro e w1 ⟨rfl, hb⟩
    have HB1 := hide hb
    have HRN1 := hide (HRN.out.below hb)
    have f0 := row20 HRN1.out
    have f1 := row21 HRN1.out
    have fl := HRN1.out.lt
    clear hb
    cases qa
    · have HF := hide (show false = r from by rw [← HR.out]; rfl)
      go_wp2_with fail
      go_ret
      exact ⟨ret_bool HF.out, HB.out.trans (HB1.out.mono HB.out.size)⟩
    · have HCC1 := hide (HCC.out _ HB1.out)
      go_wp2_with fail
      with_reducible refine HCC1.out.mono ?_
      rintro e w2 ⟨rfl, rfl⟩
      go_wp2_with fail
      go_ret
      exact ⟨ret_bool (by rw [← HR.out]; simp), HB.out.trans (HB1.out.mono HB.out.size)⟩
theorem anyM_succ {p : Mm → Bool} {ts : List Mm} {k : Nat} (h : k < ts.length) : (ts.take (k + 1)).any p = ((ts.take k).any p || p (ts.getD k mmZ)) := by
  rw [takeM_succ h, List.any_append]; simp
theorem anyM_take {p : Mm → Bool} {ts : List Mm} {k : Nat} (h : (ts.take k).any p = true) : ts.any p = true := by
  obtain ⟨x, hx, hp⟩ := List.any_eq_true.1 h
  exact List.any_eq_true.2 ⟨x, List.mem_of_mem_take hx, hp⟩
def IdxResM (p : Mm → Bool) (ts : List Mm) (e : Ending) : Prop := ∃ i : Int, e = .returned (.int .i64 i) ∧ decide (0 ≤ i) = ts.any p
set_option maxHeartbeats 1000000 in
theorem indexM_any (B : Nat) (A : Option Addr) (c m gf : Nat) (lb : Array Value) (hg : ∀ args w, (callFunc gf args).run Try.prog w = .ok (.enter gf args) w) (p : Mm → Bool) (ts : List Mm) (W : World) (h : RM W B A m ts) (hm : m ≤ 4096) (hB : B ≤ W.heap.size)
    (HC : ∀ t ∈ ts, ∀ w, Below W.heap.size W w → Calls Try.prog gf (#[.agg (mC t)] ++ lb) w fun e w' => e = .returned (.bool (p t)) ∧ Below w.heap.size w w') :
    Calls Try.prog 59 #[.slice A m c, .func (.func gf) #[] lb] W fun e W' => IdxResM p ts e ∧ Below W.heap.size W W' := by
  have HL := hide h.len
  have H := hide h
  have HCH := hide HC
  clear h HC
  go_enter Try.func59, Try.ntmps59
  go_wp2_with fail
  go_loopw [8] (fun i wr => ∃ k : Nat, k ≤ m ∧ i = .int .i64 k ∧ (ts.take k).any p = false ∧ Below W.heap.size W wr) (fun i _ => m - (intOf i).toNat)
  case atStart => exact ⟨0, Nat.zero_le _, rfl, rfl, Below.refl _ _⟩
  case round =>
    obtain ⟨k, hk, rfl, hno, hbw⟩ := hrel
    have HN := hide hno
    have HBW := hide hbw
    clear hno hbw
    by_cases hlt : k < m
    · have hlx : k < ts.length := by rw [HL.out]; exact hlt
      obtain ⟨b, o, rfl, hb, d0, d1, _⟩ := (H.out.below (HBW.out.mono hB)).at_ hlt
      have hbl : b < wr.heap.size := Nat.lt_of_lt_of_le hb (Nat.le_trans hB HBW.out.size)
      have hkm : (k : Int) < (m : Int) := by omega
      have HM := hide (HCH.out (ts.getD k mmZ) (getM_mem hlx) wr HBW.out)
      have HT := hide (anyM_succ (p := p) hlx)
      obtain ⟨x, hxx⟩ : ∃ x, ts.getD k mmZ = x := ⟨_, rfl⟩
      rw [hxx] at d0 d1 HM HT
      obtain ⟨q, hq⟩ : ∃ q, p x = q := ⟨_, rfl⟩
      rw [hq, HN.out] at HT
      rw [hq] at HM
      obtain ⟨x1, x2, x3, x4⟩ := x
      dsimp only [mC] at d0 d1 HM
      clear hxx hq hb
      go_wp2_with fail
      with_reducible refine HM.out.mono ?_
      rintro e w2 ⟨rfl, hb2⟩
      have HB2 := hide (HBW.out.trans (hb2.mono HBW.out.size))
      clear hb2
      cases q
      · go_wp2_with fail
        go_roundw
        case rel => exact ⟨k + 1, by omega, by go_num, HT.out, HB2.out⟩
        case measure => simp [intOf]; omega
      · have HF := hide (show decide ((0 : Int) ≤ (k : Int)) = ts.any p from by rw [anyM_take HT.out]; simp)
        go_wp2_with fail
        go_ret
        exact ⟨⟨_, rfl, HF.out⟩, HB2.out⟩
    · have HF := hide (show decide ((0 : Int) ≤ -1) = ts.any p from by
        have := HN.out
        rw [List.take_of_length_le (by rw [HL.out]; omega)] at this
        rw [this]; rfl)
      go_wp2_with fail
      go_ret
      exact ⟨⟨_, rfl, HF.out⟩, HBW.out⟩
theorem contM_any (B : Nat) (A : Option Addr) (c m gf : Nat) (lb : Array Value) (hg : ∀ args w, (callFunc gf args).run Try.prog w = .ok (.enter gf args) w) (p : Mm → Bool) (ts : List Mm) (W : World) (h : RM W B A m ts) (hm : m ≤ 4096) (hB : B ≤ W.heap.size)
    (HC : ∀ t ∈ ts, ∀ w, Below W.heap.size W w → Calls Try.prog gf (#[.agg (mC t)] ++ lb) w fun e w' => e = .returned (.bool (p t)) ∧ Below w.heap.size w w') :
    Calls Try.prog 55 #[.slice A m c, .func (.func gf) #[] lb] W fun e W' => e = .returned (.bool (ts.any p)) ∧ Below W.heap.size W W' := by
  have HI := hide (indexM_any B A c m gf lb hg p ts W h hm hB HC)
  clear h HC
  go_enter Try.func55, Try.ntmps55
  go_wp2_with fail
  with_reducible refine HI.out.mono ?_
  rintro e w1 ⟨⟨i, rfl, hi⟩, hb⟩
  have HF := hide hi
  have HB := hide hb
  clear hi hb
  go_wp2_with fail
  go_ret
  exact ⟨ret_bool HF.out, HB.out⟩
theorem allMC_any (g : Nat) (t : Mm) (W : World) (h : RowAt W g 71 #[.func (.func 44) #[] #[]]) (hq : Rd W W.heap.size 1 t.A t.q.length (Cs encI t.q)) (hl : t.q.length ≤ 4096) :
    Calls Try.prog 56 #[.agg (mC t), .pointer (some ⟨g, 0, none⟩)] W fun e W' => e = .returned (.bool (!muB t.mu)) ∧ Below W.heap.size W W' := by
  have HB := hide (show Below W.heap.size W (W.alloc (.cells (mC t) 47)) from (Below.refl _ _).alloc (Nat.le_refl _) _)
  obtain ⟨q, hqq⟩ : ∃ q, muB t.mu = q := ⟨_, rfl⟩
  have HC := hide (check1_any t (W.alloc (.cells (mC t) 47)) ((hq.below HB.out).more HB.out.size) hl q hqq)
  have d0 := row1 (h.below HB.out)
  have hgl := h.lt
  rw [hqq]
  dsimp only [mC] at *
  clear h hq hqq
  go_enter Try.func56, Try.ntmps56
  go_wp2_with fail
  with_reducible refine HC.out.mono ?_
  rintro e w1 ⟨rfl, hb⟩
  have HBF := hide (HB.out.trans (hb.mono HB.out.size))
  clear hb
  go_wp2_with fail
  go_ret
  exact ⟨rfl, HBF.out⟩
theorem allM_any (B : Nat) (A : Option Addr) (c m : Nat) (ts : List Mm) (W : World) (h : RM W B A m ts) (hs : SmallM ts) (hB : B ≤ W.heap.size) (r : Bool) (hr : (mus ts).all muB = r) :
    Calls Try.prog 46 #[.slice A m c, .func (.func 44) #[] #[]] W fun e W' => e = .returned (.bool r) ∧ Below W.heap.size W W' := by
  have HBN := hide (show Below W.heap.size W (W.alloc (.cells #[.func (.func 44) #[] #[]] 71)) from (Below.refl _ _).alloc (Nat.le_refl _) _)
  have HRN := hide (RowAt.new W 71 #[.func (.func 44) #[] #[]])
  have hm : m ≤ 4096 := by have := hs.1; have := h.len; omega
  have HRR := hide (show (!(ts.any fun t => !muB t.mu)) = r from by rw [← hr, mus, List.all_map, List.all_eq_not_any_not]; rfl)
  have HC := hide (contM_any B A c m 56 #[.pointer (some ⟨W.heap.size, 0, none⟩)] (enters_of Try.func56 (by kernel_rfl) rfl) (fun t => !muB t.mu) ts _ (h.below (HBN.out.mono hB)) hm (Nat.le_trans hB HBN.out.size)
    (fun t ht w hb => allMC_any W.heap.size t w (HRN.out.below hb) (((h.qs t ht).below ((HBN.out.trans (hb.mono HBN.out.size)).mono hB)).more (Nat.le_trans hB (Nat.le_trans HBN.out.size hb.size))) (hs.2 t ht)))
  clear h hs hr
  go_enter Try.func46, Try.ntmps46
  go_wp2_with fail
  with_reducible refine HC.out.mono ?_
  rintro e w1 ⟨rfl, hb⟩
  have HBF := hide (HBN.out.trans (hb.mono HBN.out.size))
  clear hb
  go_wp2_with fail
  go_ret
  exact ⟨ret_bool HRR.out, HBF.out⟩
end Go.Proofs.Ytlelpnahillioaa
