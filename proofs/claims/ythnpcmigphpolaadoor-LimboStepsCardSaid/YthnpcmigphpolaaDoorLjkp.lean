/-
  LimboTells: what its walk carries: the limbos in their boxes, the rows that it may write over.
-/
import Derived.Test.YthnpcmigphpolaaDoorLjl
import Derived.Test.YthnpcmigphpolaaDoorLjf
import Derived.Test.YthnpcmigphpolaaDoorLiopen
set_option linter.unusedSimpArgs false
set_option linter.unusedVariables false
namespace Go.Proofs.YthnpcmigphpolaaDoor
open Go Go.RowKit

theorem LimRd.storeNe {w w2 : World} {g B : Nat} {C : Array Value} {A : Nat → Option Addr} {n : Nat → Nat} {r : Nat → List Ent} (h : LimRd w B A n r) (hn : ∀ k p, k < 3 → A k = some p → p.block ≠ g) (hl : LaidL g w C w2) : LimRd w2 B A n r := by
  refine ⟨fun k hk => ⟨(h.rd k hk).1, fun h0 => ?_⟩, h.len⟩
  obtain ⟨b, off, e, hb, hc⟩ := (h.rd k hk).2 h0
  exact ⟨b, off, e, hb, fun j u hu => (cell_of_heap (hl.block b (hn k _ hk e))).trans (hc j u hu)⟩
/-- What own hands over. -/
def OwnRes (w : World) (l : Lim) (e : Ending) (w' : World) : Prop := ∃ A' c', e = .returned (.agg (limC l.cut.E A' (cutN l) c')) ∧ LimRd w' w'.heap.size A' (cutN l) l.cut.r ∧ (∀ k p, k < 3 → A' k = some p → w.heap.size ≤ p.block) ∧ (∀ k p, k < 3 → A' k = some p → p.block < w'.heap.size) ∧ Below w.heap.size w w'
theorem own_res {B : Nat} {A : Nat → Option Addr} {n c : Nat → Nat} {l : Lim} {W : World} (h : LimRd W B A n l.r) (hB : B ≤ W.heap.size) (hc : ∀ k, k < 3 → (n k : Int) ≤ (c k : Int) ∧ (c k : Int) ≤ 9223372036854775807) : Calls Tryd.prog 8 #[.agg (limC l.E A n c)] W (OwnRes W l) :=
  (own_any B A n c l W h hB hc).mono fun e w' ⟨A', c', he, ho, hb⟩ => ⟨A', c', he, ho.rd, fun k p hk hp => ((ho.own k hk).fresh hp).1, fun k p hk hp => ((ho.own k hk).fresh hp).2, hb⟩
theorem sameB_self (l : Lim) : sameB l l = true := by unfold sameB; simp
theorem cut_len (l : Lim) : ∀ k, k < 3 → cutN l k ≤ 4096 := fun k _ => by have := cutN_le l k; omega
/-- The two limbos that the law holds, and its own argument's box. -/
structure TlAt (W w : World) (g7 g8 : Nat) (l l1 : Lim) (A : Nat → Option Addr) (n c : Nat → Nat) (A7 : Nat → Option Addr) (c7 : Nat → Nat) (A8 : Nat → Option Addr) (c8 : Nat → Nat) : Prop where
  x : RowAt w W.heap.size 26 (limC l.E A n c)
  hx : LimRd w W.heap.size A n l.r
  r7 : RowAt w g7 26 (limC l.cut.E A7 (cutN l) c7)
  r8 : RowAt w g8 26 (limC l1.cut.E A8 (cutN l1) c8)
  d7 : LimRd w w.heap.size A7 (cutN l) l.cut.r
  d8 : LimRd w w.heap.size A8 (cutN l1) l1.cut.r
  below : Below W.heap.size W w
theorem TlAt.later {W w w' : World} {g7 g8 : Nat} {l l1 : Lim} {A : Nat → Option Addr} {n c : Nat → Nat} {A7 : Nat → Option Addr} {c7 : Nat → Nat} {A8 : Nat → Option Addr} {c8 : Nat → Nat} (h : TlAt W w g7 g8 l l1 A n c A7 c7 A8 c8) (hb : Below w.heap.size w w') : TlAt W w' g7 g8 l l1 A n c A7 c7 A8 c8 :=
  ⟨h.x.below hb, h.hx.below (hb.mono h.below.size), h.r7.below hb, h.r8.below hb, (h.d7.below hb).more hb.size, (h.d8.below hb).more hb.size, h.below.trans (hb.mono h.below.size)⟩
/-- A row of entries in a block of the law's own, of which the Gens may be written over. -/
structure GenRow (w : World) (lo hi : Nat) (A : Option Addr) (n : Nat) : Prop where
  row : 0 < n → ∃ (g : Nat) (cur : Array Value), A = some ⟨g, 0, none⟩ ∧ lo ≤ g ∧ g < hi ∧ RowAt w g 34 cur ∧ ∀ k, k < n → ∃ z : Int, cur[k * 2 + 1]? = some (.int .u64 z)
theorem GenRow.of_own {w : World} {base n c : Nat} {A : Option Addr} {xs : List Ent} (h : w.ownsRow base 34 2 (.slice A n c) n (Cs encE xs)) (hx : xs.length = n) : GenRow w base w.heap.size A n := by
  refine ⟨fun h0 => ?_⟩
  rcases h.2 with ⟨_, rfl⟩ | ⟨g, cap, cur, hv, hb, hh, _, _, _, ht⟩
  · omega
  · injection hv with h1 h2 h3
    have hr : RowAt w g 34 cur := hh
    refine ⟨g, cur, h1, hb, hr.lt, hr, fun k hk => ?_⟩
    have hk2 : k < xs.length := by omega
    have e1 := Cs_at encE_len xs k 1 hk2 (by omega)
    refine ⟨xs[k].2, ?_⟩
    rw [← ht] at e1
    rw [List.getElem?_take] at e1
    split at e1
    · rw [← Array.getElem?_toList]; rw [e1]; rfl
    · simp [encE] at e1
theorem GenRow.lower {w : World} {lo lo2 hi n : Nat} {A : Option Addr} (h : GenRow w lo hi A n) (hl : lo2 ≤ lo) : GenRow w lo2 hi A n :=
  ⟨fun h0 => by obtain ⟨g, cur, h1, h2, h3, h4, h5⟩ := h.row h0; exact ⟨g, cur, h1, Nat.le_trans hl h2, h3, h4, h5⟩⟩
theorem GenRow.keep {w w' : World} {lo hi n : Nat} {A : Option Addr} (h : GenRow w lo hi A n) (hk : ∀ g, lo ≤ g → g < hi → w'.heap[g]? = w.heap[g]?) : GenRow w' lo hi A n :=
  ⟨fun h0 => by obtain ⟨g, cur, h1, h2, h3, h4, h5⟩ := h.row h0; exact ⟨g, cur, h1, h2, h3, h4.heap (hk g h2 h3), h5⟩⟩
theorem GenRow.set {w : World} {lo hi n g : Nat} (h : GenRow w lo hi (some ⟨g, 0, none⟩) n) (k : Nat) (z : Int) : GenRow (w.setCell ⟨g, k * 2 + 1, none⟩ (.int .u64 z)) lo hi (some ⟨g, 0, none⟩) n :=
  ⟨fun h0 => by
    obtain ⟨g', cur, h1, h2, h3, h4, h5⟩ := h.row h0
    have hg : g = g' := by injection h1 with h1; injection h1
    subst hg
    refine ⟨g, _, rfl, h2, h3, h4.set (k * 2 + 1) _, fun j hj => ?_⟩
    obtain ⟨z', hz⟩ := h5 j hj
    by_cases hjk : j = k
    · subst hjk
      refine ⟨z, ?_⟩
      rw [Array.getElem?_setIfInBounds_self]
      have : j * 2 + 1 < cur.size := by
        rcases Nat.lt_or_ge (j * 2 + 1) cur.size with hlt | hge
        · exact hlt
        · rw [Array.getElem?_eq_none hge] at hz; cases hz
      simp [this]
    · refine ⟨z', ?_⟩
      rw [Array.getElem?_setIfInBounds_ne (by omega)]
      exact hz⟩
/-- The two rows that the law writes over. -/
structure GLoop (w7 : World) (mid hi : Nat) (A : Option Addr) (n : Nat) (A2 : Option Addr) (n2 : Nat) (w : World) : Prop where
  g1 : GenRow w w7.heap.size mid A n
  g2 : GenRow w mid hi A2 n2
  below : Below w7.heap.size w7 w
  le : w7.heap.size ≤ mid
  lt : hi ≤ w.heap.size
  le2 : mid ≤ hi
theorem GLoop.later {w7 w w' : World} {mid hi n n2 : Nat} {A A2 : Option Addr} (h : GLoop w7 mid hi A n A2 n2 w) (hb : Below w.heap.size w w') : GLoop w7 mid hi A n A2 n2 w' :=
  ⟨h.g1.keep (fun g _ hg => hb.block g (by have := h.lt; have := h.le2; omega)), h.g2.keep (fun g _ hg => hb.block g (by have := h.lt; omega)), h.below.trans (hb.mono h.below.size), h.le, Nat.le_trans h.lt hb.size, h.le2⟩
theorem GLoop.set1 {w7 w : World} {mid hi n n2 g : Nat} {A2 : Option Addr} (h : GLoop w7 mid hi (some ⟨g, 0, none⟩) n A2 n2 w) (hlo : w7.heap.size ≤ g) (hhi : g < mid) (k : Nat) (z : Int) : GLoop w7 mid hi (some ⟨g, 0, none⟩) n A2 n2 (w.setCell ⟨g, k * 2 + 1, none⟩ (.int .u64 z)) :=
  ⟨h.g1.set k z, h.g2.keep (fun j hj _ => heap_setCell_ne _ _ _ _ (by show j ≠ g; omega)), h.below.setCell hlo _, h.le, by simpa using h.lt, h.le2⟩
theorem GLoop.set2 {w7 w : World} {mid hi n n2 g : Nat} {A : Option Addr} (h : GLoop w7 mid hi A n (some ⟨g, 0, none⟩) n2 w) (hlo : mid ≤ g) (k : Nat) (z : Int) : GLoop w7 mid hi A n (some ⟨g, 0, none⟩) n2 (w.setCell ⟨g, k * 2 + 1, none⟩ (.int .u64 z)) :=
  ⟨h.g1.keep (fun j _ hj => heap_setCell_ne _ _ _ _ (by show j ≠ g; omega)), h.g2.set k z, h.below.setCell (Nat.le_trans h.le hlo) _, h.le, by simpa using h.lt, h.le2⟩
/-- What a function hands over that makes a row. -/
def RowRes (W : World) (xs : List Ent) (n : Nat) (e : Ending) (W' : World) : Prop := ∃ A c, e = .returned (.slice A n c) ∧ Rd W' W'.heap.size 2 A n (Cs encE xs) ∧ GenRow W' W.heap.size W'.heap.size A n ∧ Below W.heap.size W W'
theorem row_res {f : FuncId} {args : Array Value} {W : World} {xs : List Ent} {n : Nat} (h : Calls Tryd.prog f args W fun e W' => ∃ v, e = .returned v ∧ W'.ownsRow W.heap.size 34 2 v xs.length (Cs encE xs) ∧ Below W.heap.size W W') (hn : xs.length = n) : Calls Tryd.prog f args W (RowRes W xs n) :=
  h.mono fun e W' ⟨v, he, ho, hb⟩ => by
    subst hn
    obtain ⟨A, c, rfl, _⟩ := own_form ho
    exact ⟨A, c, he, Rd.of_own ho, GenRow.of_own ho rfl, hb⟩
theorem of_two {A : Nat → Option Addr} {n c : Nat → Nat} {E : Nat} (hE : E < 18446744073709551616) (W : World) : Calls Tryd.prog 27 #[.agg (limC E A n c), .int .u64 2] W fun e W' => e = .returned (.slice (ofA E A 2) (ofN E n 2) (ofN E c 2)) ∧ Below W.heap.size W W' :=
  of_any A n c E 2 (by omega) hE W
theorem ofL_ok {l : Lim} (h : l.ok = true) : ofL l 2 = l.at 2 := by
  unfold ofL
  by_cases hE : l.E < 2
  · rw [if_pos hE]
    by_cases hn : l.at 2 = []
    · exact hn.symm
    · have := ok_at h (by omega) hn; omega
  · rw [if_neg hE]
theorem zero_same (W : World) : Calls Tryd.prog 21 #[.agg zeroC, .agg zeroC] W fun e W' => e = .returned (.bool true) ∧ Below W.heap.size W W' :=
  rsame_any (fun _ => none) (fun _ => 0) (fun _ => 0) lim0 (fun _ => none) (fun _ => 0) (fun _ => 0) lim0 W (zero_rd W _) (zero_rd W _) (fun _ _ => by omega) (fun _ _ => by omega) true (sameB_self lim0)
end Go.Proofs.YthnpcmigphpolaaDoor
