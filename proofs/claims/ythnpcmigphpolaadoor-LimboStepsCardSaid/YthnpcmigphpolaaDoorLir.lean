/-
  Limbos in memory: their cells, where a row lies.
-/
import Derived.Test.YthnpcmigphpolaaDoorLic
import Derived.Test.YthnpcmigphpolaaDoorRange6
import Derived.Deep.Cut
set_option linter.unusedSimpArgs false
set_option linter.unusedVariables false
namespace Go.Proofs.YthnpcmigphpolaaDoor
open Go Go.RowKit
attribute [local go_sem] via_cell via_frozen

/-- A limbo's cells: its epoch, its rows' slices. -/
abbrev limC (E : Nat) (A : Nat → Option Addr) (n c : Nat → Nat) : Array Value := #[.int .u64 (E : Int), .slice (A 0) (n 0) (c 0), .slice (A 1) (n 1) (c 1), .slice (A 2) (n 2) (c 2)]
theorem limC_at (E : Nat) (A : Nat → Option Addr) (n c : Nat → Nat) {k : Nat} (hk : k < 3) : (limC E A n c)[1 + k]? = some (.slice (A k) (n k) (c k)) := by
  match k, hk with
  | 0, _ => rfl
  | 1, _ => rfl
  | 2, _ => rfl
/-- The rows' slices read as the limbo's rows. -/
structure LimRd (w : World) (B : Nat) (A : Nat → Option Addr) (n : Nat → Nat) (r : Nat → List Ent) : Prop where
  rd : ∀ k, k < 3 → Rd w B 2 (A k) (n k) (Cs encE (r k))
  len : ∀ k, k < 3 → (r k).length = n k
theorem LimRd.keep {w w' : World} {B : Nat} {A : Nat → Option Addr} {n : Nat → Nat} {r : Nat → List Ent} (h : LimRd w B A n r) (hk : ∀ j, j < B → w'.heap[j]? = w.heap[j]?) : LimRd w' B A n r :=
  ⟨fun k hk3 => (h.rd k hk3).keep (fun p hp => cell_of_heap (hk _ hp)), h.len⟩
theorem LimRd.below {w w' : World} {B : Nat} {A : Nat → Option Addr} {n : Nat → Nat} {r : Nat → List Ent} (h : LimRd w B A n r) (hb : Below B w w') : LimRd w' B A n r := h.keep (fun j hj => hb.block j hj)
theorem LimRd.more {w : World} {B B' : Nat} {A : Nat → Option Addr} {n : Nat → Nat} {r : Nat → List Ent} (h : LimRd w B A n r) (hB : B ≤ B') : LimRd w B' A n r := ⟨fun k hk => (h.rd k hk).more hB, h.len⟩
theorem row_any (g E ago : Nat) (u0 u1 u2 : Value) (ha : ago < 3) (hE : E ≤ LAST) (W : World) (h : RowAt W g 72 #[.int .u64 (E : Int), u0, u1, u2]) :
    Calls Tryd.prog 37 #[.pointer (some ⟨g, 0, none⟩), .int .u64 (ago : Int)] W fun e W' => e = .returned (.pointer (some ⟨g, 1 + rowN E ago, none⟩)) ∧ Below W.heap.size W W' := by
  have c0 : W.cell? ⟨g, 0, none⟩ = some (.int .u64 (E : Int)) := by have := h.cell 0; simpa using this
  have cl := h.lt
  have hE2 : (E : Int) ≤ 4611686018427387904 := by unfold LAST at hE; omega
  have hE0 : (0 : Int) ≤ (E : Int) := by omega
  have ha2 : (ago : Int) < 3 := by omega
  have hA0 : (0 : Int) ≤ (ago : Int) := by omega
  have hw1 : IntKind.u64.wrap ((E : Int) + 3) = (E : Int) + 3 := IntWalk.u64_in _ (by omega)
  have hw2 : IntKind.u64.wrap ((E : Int) + 3 - (ago : Int)) = (E : Int) + 3 - (ago : Int) := IntWalk.u64_in _ (by omega)
  clear h hE ha
  go_enter Tryd.func37, Tryd.ntmps37
  go_wp2_with fail
  go_quiet (fail)
  have HBN := hide (below_drewN (Below.refl W.heap.size W) nq)
  go_wp2_with fail
  go_ret
  exact ⟨rfl, HBN.out⟩
theorem each_any (E : Nat) (A : Nat → Option Addr) (n c : Nat → Nat) (W : World) :
    Calls Tryd.prog 31 #[.agg (limC E A n c)] W fun e W' => e = .returned (.func (.func 48) #[] #[.pointer (some ⟨W.heap.size, 0, none⟩)]) ∧
      RowAt W' W.heap.size 26 (limC E A n c) ∧ Below W.heap.size W W' := by
  have H1 := hide (RowAt.new W 26 (limC E A n c))
  go_enter Tryd.func31, Tryd.ntmps31
  go_wp2
  go_ret
  exact ⟨rfl, H1.out, (Below.refl _ _).alloc (Nat.le_refl _) _⟩
/-- What the iterator tells. -/
def encP (p : Nat × Ent) : Array Value := #[.int .u64 (p.1 : Int), .agg #[.int .i64 p.2.1, .int .u64 p.2.2]]
/-- What has been told when the rows from a on are through. -/
def preL (l : Lim) : Nat → List (Nat × Ent)
  | 0 => tag 2 (l.at 2) ++ (tag 1 (l.at 1) ++ tag 0 (l.at 0))
  | 1 => tag 2 (l.at 2) ++ tag 1 (l.at 1)
  | 2 => tag 2 (l.at 2)
  | _ => []
theorem preL_next (l : Lim) {a : Nat} (ha : a < 3) : preL l a = preL l (a + 1) ++ tag a (l.at a) := by
  match a, ha with
  | 0, _ => simp [preL]
  | 1, _ => rfl
  | 2, _ => rfl
theorem preL_rest (l : Lim) {a : Nat} (ha : a < 3) : ∃ r, l.each = preL l a ++ r := by
  unfold Lim.each
  match a, ha with
  | 0, _ => exact ⟨[], by simp [preL]⟩
  | 1, _ => exact ⟨tag 0 (l.at 0), by simp [preL]⟩
  | 2, _ => exact ⟨tag 1 (l.at 1) ++ tag 0 (l.at 0), rfl⟩
theorem tag_take (a k : Nat) (xs : List Ent) (hk : k < xs.length) : tag a (xs.take (k + 1)) = tag a (xs.take k) ++ [(a, xs.getD k (0, 0))] := by
  unfold tag
  rw [List.take_succ_eq_append_getElem hk, List.map_append, List.getD_eq_getElem?_getD, List.getElem?_eq_getElem hk]
  rfl
/-- Where the iterator stands inside a row. -/
theorem each_split (l : Lim) {a k : Nat} (ha : a < 3) (hk : k < (l.at a).length) : ∃ r, l.each = (preL l (a + 1) ++ tag a ((l.at a).take k)) ++ ((a, (l.at a).getD k (0, 0)) :: r) := by
  obtain ⟨r, hr⟩ := preL_rest l ha
  have h1 : tag a (l.at a) = tag a ((l.at a).take (k + 1)) ++ tag a ((l.at a).drop (k + 1)) := by
    unfold tag; rw [← List.map_append, List.take_append_drop]
  rw [preL_next l ha, h1, tag_take a k _ hk] at hr
  exact ⟨tag a ((l.at a).drop (k + 1)) ++ r, by rw [hr]; simp⟩
set_option maxHeartbeats 4000000 in
theorem each_seq (B gp n1 : Nat) (K : Nat → Prop) (A : Nat → Option Addr) (n c : Nat → Nat) (l : Lim) (w : World) (hk : RowAt w gp 26 (limC l.E A n c)) (hr : LimRd w B A n l.r) (hE : l.E ≤ LAST) (hB : B ≤ w.heap.size) (hm : ∀ k, k < 3 → n k ≤ 4096)
    (hKB : ∀ j, j < B → K j) (hKn : K n1) :
    Seq6 Tryd.prog 48 #[.pointer (some ⟨gp, 0, none⟩)] encP K (fun ys => ys = l.each) (fun pre => ∃ r, pre ++ r = l.each) (fun _ => False) [] l.each.length n1 (n1 + 1) (fun x => x ∈ l.each) w := by
  intro lo J Jx W hbW hn1 hJ hJx hY h0
  have HR := hide (hr.below (hbW.mono hB))
  have hrow := hk.below hbW
  have kc0 : W.cell? ⟨gp, 0, none⟩ = some (.int .u64 (l.E : Int)) := by have := hrow.cell 0; simpa [limC] using this
  have kc1 : W.cell? ⟨gp, 1, none⟩ = some (.slice (A 0) (n 0) (c 0)) := by have := hrow.cell 1; simpa [limC] using this
  have kc2 : W.cell? ⟨gp, 2, none⟩ = some (.slice (A 1) (n 1) (c 1)) := by have := hrow.cell 2; simpa [limC] using this
  have kc3 : W.cell? ⟨gp, 3, none⟩ = some (.slice (A 2) (n 2) (c 2)) := by have := hrow.cell 3; simpa [limC] using this
  have hkl := hrow.lt
  have hszW : B ≤ W.heap.size := Nat.le_trans hB hbW.size
  have HJ := hide hJ
  have HY := hide hY
  have H0 := hide h0
  have HE := hide hE
  have HM := hide hm
  have HKB := hide hKB
  have HKN := hide (show K W.heap.size from by rw [hn1]; exact hKn)
  have HN1 := hide hn1
  have HBX := hide (RowAt.new W 72 (limC l.E A n c))
  have HBA := hide (show Below W.heap.size W (W.alloc (.cells (limC l.E A n c) 72)) from (Below.refl _ _).alloc (Nat.le_refl _) _)
  clear hr hk hJ hJx hY h0 hKB hKn hn1 hE hm hrow
  refine (callsIn_wide (n := 4)).1 (callsIn_of_wp Tryd.func48 rfl trivial ?_ rfl)
  simp only [Tryd.ntmps48, List.size_toArray, List.length_cons, List.length_nil, Nat.reduceAdd, Nat.reduceSub, Array.replicate_succ, Array.replicate_zero, List.push_toArray, List.append_toArray, List.nil_append, List.cons_append]
  refine wpIn_wide.2 ?_
  go_wp2_with fail
  have HJ0 := hide (HJ.out _ _ _ H0.out HBA.out)
  dsimp only [limC] at HBX HBA HJ0
  generalize W.alloc (.cells #[.int .u64 (l.E : Int), .slice (A 0) (n 0) (c 0), .slice (A 1) (n 1) (c 1), .slice (A 2) (n 2) (c 2)] 72) = wX at *
  have hXs := HBX.out.lt
  go_loopw [4] (fun i wr => ∃ (a : Nat), a ≤ 3 ∧ i = .int .u64 (a : Int) ∧ J (preL l a) wr ∧ RowAt wr W.heap.size 72 (limC l.E A n c) ∧ (∀ j, j < B → wr.heap[j]? = W.heap[j]?)) (fun i _ => (intOf i).toNat)
  case atStart => exact ⟨3, Nat.le_refl _, rfl, HJ0.out, HBX.out, fun j hj => HBA.out.block j (Nat.lt_of_lt_of_le hj hszW)⟩
  case round =>
    obtain ⟨a, ha, rfl, hj, hbox, hkeep⟩ := hrel
    have HJk := hide hj
    have HBXr := hide hbox
    have HKP := hide hkeep
    clear hj hbox hkeep
    match a, ha with
    | 0, _ =>
      have HF := hide (show preL l 0 = l.each from rfl)
      go_wp2_with fail
      go_end0
      exact .inl ⟨_, rfl, .inl ⟨_, HF.out, HJk.out⟩⟩
    | a + 1, ha =>
      have ha3 : a < 3 := by omega
      have hbl := HBXr.out.lt
      have hai : (a : Int) < 3 := by omega
      have ha0 : (0 : Int) ≤ (a : Int) := by omega
      have hcast : ((a + 1 : Nat) : Int) = (a : Int) + 1 := by omega
      rw [hcast]
      have hgt : decide ((0 : Int) < (a : Int) + 1) = true := by first | (simp; done) | (simp; omega)
      have HRC := hide (row_any W.heap.size l.E a (.slice (A 0) (n 0) (c 0)) (.slice (A 1) (n 1) (c 1)) (.slice (A 2) (n 2) (c 2)) ha3 HE.out wr HBXr.out)
      clear hcast
      go_wp2_with fail
      with_reducible refine HRC.out.mono ?_
      rintro e w1 ⟨rfl, hb1⟩
      have hk3 := rowN_lt l.E a
      have HBX1 := hide (HBXr.out.below hb1)
      have hc1 := (HBX1.out.cell (1 + rowN l.E a)).trans (limC_at l.E A n c hk3)
      have hl1 := HBX1.out.lt
      have HJ1 := hide (HJ.out _ _ _ HJk.out hb1)
      have HKP1 := hide (fun j (hj : j < B) => (hb1.block j (by omega)).trans (HKP.out j hj))
      have HRD := HR.out.rd _ hk3
      have HLN := HR.out.len _ hk3
      have hM4 := HM.out _ hk3
      have HAT := hide (show l.at a = l.r (rowN l.E a) from rfl)
      clear hb1 HRC
      generalize rowN l.E a = kk at *
      obtain ⟨AA, hAA⟩ : ∃ AA, A kk = AA := ⟨_, rfl⟩
      obtain ⟨m, hmm⟩ : ∃ m, n kk = m := ⟨_, rfl⟩
      obtain ⟨cc, hcc⟩ : ∃ cc, c kk = cc := ⟨_, rfl⟩
      obtain ⟨xs, hxs⟩ : ∃ xs, l.r kk = xs := ⟨_, rfl⟩
      rw [hAA, hmm, hxs] at HRD
      rw [hmm, hxs] at HLN
      rw [hmm] at hM4
      rw [hAA, hmm, hcc] at hc1
      rw [hxs] at HAT
      have HRDX := hide HRD
      have HLNX := hide HLN
      clear hAA hmm hcc hxs HRD HLN
      go_wp2_with fail
      go_loopw [21] (fun i wr2 => ∃ (k : Nat), k ≤ m ∧ i = .int .i64 (k : Int) ∧ J (preL l (a + 1) ++ tag a (xs.take k)) wr2 ∧ RowAt wr2 W.heap.size 72 (limC l.E A n c) ∧ (∀ j, j < B → wr2.heap[j]? = W.heap[j]?)) (fun i _ => m - (intOf i).toNat)
      case atStart => exact ⟨0, Nat.zero_le _, rfl, by simpa [tag] using HJ1.out, HBX1.out, HKP1.out⟩
      case round =>
        obtain ⟨k, hk, rfl, hj, hbox, hkeep⟩ := hrel
        have HJk := hide hj
        have HBX2 := hide hbox
        have HKP2 := hide hkeep
        clear hj hbox hkeep
        by_cases hlt : k < m
        · have hlx : k < xs.length := by rw [HLNX.out]; exact hlt
          obtain ⟨b, o, rfl, hb, d0, d1⟩ := (HRDX.out.keep (fun p hp => cell_of_heap (HKP2.out _ hp))).ent HLNX.out hlt
          have hbw : b < wr.heap.size := Nat.lt_of_lt_of_le hb (by have := HBX2.out.lt; omega)
          have hkm : (k : Int) < (m : Int) := by omega
          obtain ⟨rest, hsp⟩ := each_split l ha3 (k := k) (by rw [HAT.out]; exact hlx)
          rw [HAT.out] at hsp
          have HSP := hide hsp
          have HTK := hide (tag_take a k xs hlx)
          obtain ⟨x, hxx⟩ : ∃ x, xs.getD k (0, 0) = x := ⟨_, rfl⟩
          rw [hxx] at d0 d1 HSP HTK
          obtain ⟨s, g⟩ := x
          dsimp only at d0 d1
          clear hxx hsp hb
          have HBN := hide (show Below wr.heap.size wr (wr.alloc (.cells #[.int .i64 s, .int .u64 g] 34)) from (Below.refl _ _).alloc (Nat.le_refl _) _)
          have HJ2 := hide (HJ.out _ _ _ HJk.out HBN.out)
          have HBX3 := hide (HBX2.out.below HBN.out)
          have HRN := hide (RowAt.new wr 34 #[.int .i64 s, .int .u64 g])
          have hBwr : B ≤ wr.heap.size := by have := HBX2.out.lt; omega
          have HKP3 := hide (fun j (hj : j < B) => (HBN.out.block j (Nat.lt_of_lt_of_le hj hBwr)).trans (HKP2.out j hj))
          obtain ⟨fn, tmps, assign, body, hy, hR⟩ := HY.out _ (a, (s, g)) _ HJ2.out (by rw [HSP.out]; simp) (by rw [HSP.out]; simp) (by have h1 := HN1.out; have h2 := HBX3.out.lt; omega)
          dsimp only [encP] at hy
          have HRR := hide hR
          clear hR
          go_upto_region 7 with (fail)
          generalize wr.alloc (.cells #[.int .i64 s, .int .u64 g] 34) = w2 at *
          have e0 := row20 HRN.out
          have e1 := row21 HRN.out
          have hgl := HRN.out.lt
          refine (wpIn_wide (n := 4)).1 ?_
          gi_wp2
          refine HRR.out.mono ?_
          rintro e W3 (⟨rfl, hJ3, hz3, hk3⟩ | ⟨rfl, hJx3⟩)
          · have HJ3 := hide (show J (preL l (a + 1) ++ tag a (xs.take (k + 1))) W3 from by rw [HTK.out, ← List.append_assoc]; exact hJ3)
            have HKP4 := hide (fun j (hj : j < B) => (hk3 j (HKB.out j hj) (by omega)).trans (HKP3.out j hj))
            have HBX4 := hide (show RowAt W3 W.heap.size 72 (limC l.E A n c) from (hk3 _ HKN.out HBX3.out.lt).trans HBX3.out)
            clear hJ3 hk3 hz3
            gi_wp2
            go_wp2_with fail
            go_roundw
            case rel => exact ⟨k + 1, by omega, by go_num, HJ3.out, HBX4.out, HKP4.out⟩
            case measure => simp [intOf]; omega
          · have HJ4 := hide hJx3
            have HF := hide (show ∃ r, (preL l (a + 1) ++ tag a (xs.take k) ++ [(a, (s, g))]) ++ r = l.each from ⟨rest, by rw [HSP.out]; simp⟩)
            clear hJx3
            gi_wp2
            go_wp2_with fail
            refine bodyPost_ret (results_none rfl _ _ _) rfl ?_
            exact .inl ⟨_, rfl, .inr ⟨_, HF.out, HJ4.out⟩⟩
        · obtain rfl : k = m := by omega
          have HJ3 := hide (show J (preL l a) wr from by
            rw [preL_next l ha3, HAT.out]
            have := HJk.out
            rwa [List.take_of_length_le (by rw [HLNX.out]; exact Nat.le_refl _)] at this)
          go_wp2_with fail
          go_roundw
          case rel => exact ⟨a, by omega, by first | rfl | go_num, HJ3.out, HBX2.out, HKP2.out⟩
          case measure => first | (simp [intOf]; done) | (simp [intOf]; omega)
end Go.Proofs.YthnpcmigphpolaaDoor
