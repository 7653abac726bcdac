/-
  Arenas: all entries of a tag gathered (the program's).
-/
import Derived.Test.YtejhknboiacgeaaArf
set_option linter.unusedSimpArgs false
set_option linter.unusedVariables false
namespace Go.Proofs.Ytejhknboiacgeaa
open Go Go.RowKit
attribute [local go_sem] Oper.semAt_some

/-- A box that gathers what an iterator yields. -/
def BoxSt (ko base : Nat) (pre : List (Int × Int)) (W : World) : Prop := ∃ v, RowAt W ko 25 #[v] ∧ W.ownsRow base 31 2 v pre.length (Cs encE pre)
theorem BoxSt.stays (ko base : Nat) : Stays (BoxSt ko base) := fun _ _ _ ⟨v, h1, h2⟩ hl => ⟨v, h1.lie hl, own_lie h2 hl⟩

theorem entries_no (A : Option Addr) (c n : Nat) (tag : Int) (xs : List (Int × Int)) (W : World) (h : Rd W W.heap.size 2 A n (Cs encE xs)) (hx : xs.length = n) (hn : n ≤ 4611686018427387904) (ho : arOk xs = false) :
    Calls Try.prog 23 #[.agg #[.slice A n c], .int .i64 tag] W fun e W' => e = .returned (.slice none 0 0) ∧ Below W.heap.size W W' := by
  have hb0 : Below W.heap.size W (W.alloc (.cells #[.slice A n c] 24)) := (Below.refl _ _).alloc (Nat.le_refl _) _
  have HC := hide (check_any W.heap.size A c n xs _ (h.below hb0) hx hb0.size _ (chk_no ho) (by omega))
  have HB := hide hb0
  clear hb0
  go_enter Try.func23, Try.ntmps23
  go_wp2_with fail
  refine HC.out.mono ?_
  rintro e w3 ⟨rfl, hb⟩
  go_wp2_with fail
  go_ret
  exact ⟨rfl, HB.out.trans (hb.mono HB.out.size)⟩

set_option maxHeartbeats 1000000 in
theorem entries_yes (A : Option Addr) (c n : Nat) (tag : Int) (xs : List (Int × Int)) (W : World) (h : Rd W W.heap.size 2 A n (Cs encE xs)) (hx : xs.length = n) (ho : arOk xs = true) :
    Calls Try.prog 23 #[.agg #[.slice A n c], .int .i64 tag] W fun e W' => ∃ A' c', e = .returned (.slice A' (ents xs tag).length c') ∧ (ents xs tag).length ≤ c' ∧ c' ≤ 9223372036854775807 ∧ Rd W' W'.heap.size 2 A' (ents xs tag).length (Cs encE (ents xs tag)) ∧ Below W.heap.size W W' := by
  have hn : n ≤ 128 := by have := (arOk_out ho).2.1; omega
  have hb0 : Below W.heap.size W (W.alloc (.cells #[.slice A n c] 24)) := (Below.refl _ _).alloc (Nat.le_refl _) _
  have HC := hide (check_any W.heap.size A c n xs _ (h.below hb0) hx hb0.size _ (chk_ok ho) (by omega))
  have HRW := hide (RowAt.new W 24 #[.slice A n c])
  have HB := hide hb0
  have HH := hide h
  have HX := hide hx
  clear hb0 ho h hx
  refine calls_of_wp_marks Try.func23 rfl ?_
  simp only [Try.ntmps23, List.size_toArray, List.length_cons, List.length_nil, Nat.reduceAdd, Nat.reduceSub, Array.replicate_succ, Array.replicate_zero, List.push_toArray, List.append_toArray, List.nil_append, List.cons_append]
  go_wp2_with fail
  refine HC.out.mono ?_
  rintro e w3 ⟨rfl, hb⟩
  have HRW3 := hide (HRW.out.below hb)
  have HB3 := hide (HB.out.trans (hb.mono HB.out.size))
  have a0 := row1 HRW3.out
  have la := HRW3.out.lt
  clear hb HRW
  go_wp2_with fail
  refine (tagged_any A c n tag (w3.alloc (.cells #[.slice none 0 0] 25))).mono ?_
  rintro e w5 ⟨rfl, hra, hrt, hb⟩
  rw [World.size_alloc] at hra hrt hb ⊢
  obtain ⟨ko, hko⟩ : ∃ ko, w3.heap.size = ko := ⟨_, rfl⟩
  have hrow0 : RowAt w5 ko 25 #[.slice none 0 0] := by
    have h := RowAt.new w3 25 #[.slice none 0 0]
    rw [hko] at h
    exact (hb.block ko (by omega)).trans h
  have hs5 := hb.size
  rw [World.size_alloc] at hs5
  have HB5 : Hid (Below W.heap.size W w5) := hide ((HB3.out.alloc HB3.out.size _).trans (hb.mono (by have := HB3.out.size; omega)))
  rw [hko] at hra hrt hs5 ⊢
  have hla := hra.lt
  have hlt := hrt.lt
  have hlW := HB3.out.size
  rw [hko] at hlW
  have hseq := tagged_seq (fun j => j ≠ ko ∧ j < w5.heap.size) (ko + 1) (ko + 1 + 1) A c tag xs w5 (by rw [HX.out]; exact row1 hra) (row1 hrt) hla hlt ⟨by omega, hlt⟩ (fun j hj => hj.2) (by rw [HX.out]; exact (HH.out.below HB5.out).more HB5.out.size) (fun p hp hpos => by
    subst hp
    obtain ⟨b, off, e, hb1, _⟩ := HH.out.2 (by rw [← HX.out]; exact hpos)
    injection e with e
    subst e
    exact ⟨by show b ≠ ko; omega, by show b < _; have := HB5.out.size; omega⟩) (by rw [HX.out]; omega)
  clear hb a0 la hra hrt hko HC
  go_wp2_with fail
  refine wp_range (gf := 48) (lb := #[.pointer (some ⟨ko + 1, 0, none⟩), .pointer (some ⟨ko + 1 + 1, 0, none⟩)]) rfl (enters_of Try.func48 (by kernel_rfl) rfl) hseq ko (by omega) (fun j hj => hj.2) (Below.refl _ _) (fun _ => rfl)
    (BoxSt ko w5.heap.size) (fun _ _ _ => False) (BoxSt.stays ko w5.heap.size) (fun _ _ _ _ h _ => h) ⟨_, hrow0, World.ownsRow_nil _ _ _ _⟩
    (fun T x a' W => BoxAct ko #[13] (encEv x) 6 31 #[.int .i64 x.1, .int .u64 x.2] T a' W) (fun T a' => BoxAct.stays ko #[13] encEv 6 31 (fun x => #[.int .i64 x.1, .int .u64 x.2]) T a') ?assign ?body ?done ?stop ?panic
  case assign =>
    intro l pre x W R hI hb hs hlen hR
    dsimp only [encEv] at hR ⊢
    gi_wp2
    refine hR _ _ (KeepsOthers.alloc _ _) ((Below.refl _ _).alloc (by omega) _) (fun j hj => Below.heap_alloc _ _ _ (by have := hj.2; omega)) (BoxSt.stays _ _ _ _ _ hI (CellsLie.of_below ((Below.refl _ _).alloc (Nat.le_refl _) _))) ⟨W.heap.size, RowAt.new W 31 _, by omega, by simp [encEv]⟩
  case body =>
    rintro l pre x a' W ⟨v, hrow, hown⟩ ⟨Bx, hbx, hkx, rfl⟩ hb hs hlen
    dsimp only [encEv]
    have hbx' : RowAt W Bx 31 #[.int .i64 x.1, .int .u64 x.2] := hbx
    have e0 := row20 hbx'
    have e1 := row21 hbx'
    have d1 := row1 hrow
    have HR := hide hrow
    have hWs : ko < W.heap.size := hrow.lt
    have hWx : Bx < W.heap.size := hbx'.lt
    have hpl : pre.length < 4096 := by have := HX.out; omega
    clear hrow hbx
    gi_wp2_with (gi_at_builtin; refine wpListIn_app elE rfl _ _ rfl rfl (hown.alloc _) rfl (Rd.new W #[.int .i64 x.1, .int .u64 x.2] 31 2 1 rfl) (by simp [Value.oneCell']) (by omega) (by rw [World.size_alloc]; omega) ?_; intro v2 w3 hown3 hb3 hg3 _; obtain ⟨g2, cap2, rfl, hge2, hlt2⟩ := hown3.form (by omega); have hr3 : RowAt w3 ko 25 #[v] := (HR.out.below ((Below.refl _ _).alloc (Nat.le_refl _) _)).belowB (by omega) hb3; have HR3 := hide hr3; have d3 := row1 hr3; have f3 := hr3.frozen 0; clear hr3)
    have hka : KeepsOthers W w3 := (KeepsOthers.alloc W _).trans (KeepsOthers.of_grownBy hg3 (fun j o hj ho => by
      obtain ⟨o', ho', hc'⟩ := own_cells (hown.alloc (.cells #[.int .i64 x.1, .int .u64 x.2] 31)) hj
      rw [ho'] at ho
      injection ho with ho
      rw [← ho]; exact hc'))
    refine ⟨hka.trans (KeepsOthers.setCell _ _ _), ((Below.refl ko W).alloc (by omega) _).trans ((hb3.mono (show ko ≤ w5.heap.size by omega)).setCell (Nat.le_refl _) _), fun j hj => ?_, ⟨_, HR3.out.set 0 _, ?_⟩⟩
    · have h1 := hj.1
      have h2 := hj.2
      rw [heap_setCell_ne _ _ _ _ (by simpa using h1), hb3.block j (by omega), Below.heap_alloc _ _ _ (by omega)]
    · have h := own_other (w' := w3.setCell ⟨ko, 0, none⟩ (.slice (some ⟨g2, 0, none⟩) (pre.length + 1) cap2)) hown3 (fun g hg => heap_setCell_ne _ _ _ _ (by simp; omega))
      simp only [List.length_append, List.length_cons, List.length_nil, Cs_append, Cs_one]
      exact h
  case done =>
    rintro ys W rfl ⟨v, hrow, hown⟩ hb hs hD
    have d0 := row1 hrow
    have HO := hide hown
    have hD' := hide hD
    have hlk := hrow.lt
    have hfin := hide (HB5.out.trans (hb.mono hlW))
    clear hrow hown hD hb
    unfold marked
    go_wp2_with fail
    refine ⟨by simp, .inl ⟨_, _, rfl, run_takeDeferred hD'.out, ?_⟩⟩
    obtain ⟨A', c', rfl, hc, hcm⟩ := own_form2 HO.out
    refine ⟨.slice A' (ents xs tag).length c', by simp [results, Try.results23, go_sem], A', c', rfl, hc, hcm, ?_, ?_⟩
    · exact Rd.of_own (own_lie HO.out (CellsLie.putObj (.deferred none) hD'.out rfl))
    · exact hfin.out.trans (below_putObj (o := .deferred (some [])) _ (by have := HB5.out.size; omega))
  case stop =>
    rintro c pre W _ h
    exact h.elim
  case panic =>
    rintro pre W h
    exact h.elim

theorem entries_any (A : Option Addr) (c n : Nat) (tag : Int) (xs : List (Int × Int)) (W : World) (h : Rd W W.heap.size 2 A n (Cs encE xs)) (hx : xs.length = n) (hn : n ≤ 4611686018427387904) (ys : List (Int × Int)) (hy : (if arOk xs = true then ents xs tag else []) = ys) (m : Nat) (hm : ys.length = m) :
    Calls Try.prog 23 #[.agg #[.slice A n c], .int .i64 tag] W fun e W' => ∃ A' c', e = .returned (.slice A' m c') ∧ m ≤ c' ∧ c' ≤ 9223372036854775807 ∧ Rd W' W'.heap.size 2 A' m (Cs encE ys) ∧ Below W.heap.size W W' := by
  subst hm
  obtain ⟨o, ho⟩ : ∃ o, arOk xs = o := ⟨_, rfl⟩
  cases o
  · rw [ho] at hy
    simp at hy
    subst hy
    exact (entries_no A c n tag xs W h hx hn ho).mono fun e W' ⟨h1, h2⟩ => ⟨none, 0, h1, Nat.le_refl _, by omega, Rd.none_, h2⟩
  · rw [ho, if_pos rfl] at hy
    subst hy
    exact entries_yes A c n tag xs W h hx ho
end Go.Proofs.Ytejhknboiacgeaa
