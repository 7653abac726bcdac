/-
  Double, Halve.
-/
import Derived.Test.YtjlbnegdiabglaaDik
set_option linter.unusedSimpArgs false
set_option linter.unusedVariables false
namespace Go.Proofs.Ytjlbnegdiabglaa
open Go Go.RowKit
attribute [local go_sem] via_cell via_frozen

/-- What a directory of tables is in size. -/
theorem may_shape {dep : Int} {es : List En} (h : mayB dep es = true) : 0 ≤ dep ∧ dep ≤ 5 ∧ es.length ≤ 32 ∧ 1 ≤ es.length ∧ (0 < dep → es.length % 2 = 0) ∧ es.length = 2 ^ dep.toNat := by
  rw [mayB_all] at h
  simp only [Bool.and_eq_true] at h
  have hsh := h.1.1
  simp [dirShape] at hsh
  obtain ⟨⟨hd0, hd5⟩, hlen⟩ := hsh
  have hlen2 : es.length = 2 ^ dep.toNat := by exact_mod_cast hlen
  refine ⟨hd0, hd5, by have := (pow_small dep hd0 hd5).2; omega, by have := (pow_small dep hd0 hd5).1; omega, fun h0 => ?_, hlen2⟩
  obtain ⟨k, hk⟩ : ∃ k, dep.toNat = k + 1 := ⟨dep.toNat - 1, by omega⟩
  rw [hlen2, hk, Nat.pow_succ]
  omega
theorem dirO_store {W w w1 : World} {gb : Nat} {o : Except Int (Int × List En)} {e : Ending} (hb : Below W.heap.size W w) (hgb : W.heap.size ≤ gb) (hr : RowAt w gb 24 #[.int .i64 0, .slice none 0 0]) (h : DirO w o e w1) :
    ∃ d A n c k, e = .returned (.tuple #[.agg #[.int .i64 d, .slice A n c], .int .i64 k]) ∧ RowAt w1 gb 24 #[.int .i64 0, .slice none 0 0] ∧
      RowAt ((w1.setCell ⟨gb, 0, none⟩ (.int .i64 d)).setCell ⟨gb, 1, none⟩ (.slice A n c)) gb 24 #[.int .i64 d, .slice A n c] ∧
      DirO W o e ((w1.setCell ⟨gb, 0, none⟩ (.int .i64 d)).setCell ⟨gb, 1, none⟩ (.slice A n c)) := by
  have hset : ∀ (v1 v2 : Value), Below W.heap.size w1 ((w1.setCell ⟨gb, 0, none⟩ v1).setCell ⟨gb, 1, none⟩ v2) := fun v1 v2 => ((Below.refl _ _).setCell (p := ⟨gb, 0, none⟩) hgb _).setCell (p := ⟨gb, 1, none⟩) hgb _
  have hlt := hr.lt
  cases o with
  | ok x =>
    obtain ⟨A, c, rfl, hown, hb1⟩ := h
    have hr1 := hr.below hb1
    refine ⟨_, _, _, _, _, rfl, hr1, (hr1.set 0 _).set 1 _, A, c, rfl, ?_, (hb.trans (hb1.mono hb.size)).trans (hset _ _)⟩
    exact ownsRow_base (base := w.heap.size) (own_other2 hown (fun g hg _ => by rw [heap_setCell_ne _ _ _ _ (by simp; omega), heap_setCell_ne _ _ _ _ (by simp; omega)])) hb.size
  | error k =>
    obtain ⟨rfl, hb1⟩ := h
    have hr1 := hr.below hb1
    exact ⟨_, _, _, _, _, rfl, hr1, (hr1.set 0 _).set 1 _, rfl, (hb.trans (hb1.mono hb.size)).trans (hset _ _)⟩
theorem two_boxes (W : World) (d : Int) (A : Option Addr) (n c : Nat) : Below W.heap.size W ((W.alloc (.cells #[.int .i64 d, .slice A n c] 24)).alloc (.cells #[.int .i64 0, .slice none 0 0] 24)) ∧
    RowAt ((W.alloc (.cells #[.int .i64 d, .slice A n c] 24)).alloc (.cells #[.int .i64 0, .slice none 0 0] 24)) (W.heap.size + 1) 24 #[.int .i64 0, .slice none 0 0] := by
  refine ⟨((Below.refl _ W).alloc (Nat.le_refl _) _).alloc (by simp) _, ?_⟩
  have h := RowAt.new (W.alloc (.cells #[.int .i64 d, .slice A n c] 24)) 24 #[.int .i64 0, .slice none 0 0]
  rw [World.size_alloc] at h
  exact h
theorem Double_any (A : Option Addr) (c : Nat) (dep : Int) (es : List En) (W : World) (h : DirAt W W.heap.size A c es) (o : Except Int (Int × List En)) (ho : (if mayB dep es then doubleO dep es else .error 310) = o) :
    Calls Try.prog 25 #[.agg #[.int .i64 dep, .slice A es.length c]] W (DirO W o) := by
  obtain ⟨hb2, hr2⟩ := two_boxes W dep A es.length c
  have HC := hide (tries_any A c 53 #[] dep es _ (enters_of Try.func53 (by kernel_rfl) rfl) ((h.below hb2).more hb2.size) (doubleO dep es) (fun hm w gh gs A c hh hb h1 h2 => by
    obtain ⟨a1, a2, a3, _⟩ := may_shape hm
    exact double_any gh gs dep A c es w hh h2 a1 a2 a3 _ rfl))
  rw [ho] at HC
  have HB := hide hb2
  have HR := hide hr2
  clear ho h hb2 hr2
  go_enter Try.func25, Try.ntmps25
  go_wp2_with fail
  refine HC.out.mono ?_
  rintro e w1 hR
  obtain ⟨d, A2, n2, c2, k, rfl, hrow, hr9, hD⟩ := dirO_store HB.out (by omega) HR.out hR
  have q0 := row20 hrow
  have q1 := row21 hrow
  have ql := hrow.lt
  have qf0 := hrow.frozen 0
  have qf1 := hrow.frozen 1
  have HD := hide hD
  have HR9 := hide hr9
  clear hR hrow hr9 hD
  go_wp2_with fail
  clear q0 q1 ql
  have q0 := row20 HR9.out
  have q1 := row21 HR9.out
  have ql := HR9.out.lt
  exact bodyPost_ret (v := .tuple #[.agg #[.int .i64 d, .slice A2 n2 c2], .int .i64 k]) (by simp [results, Try.results25, go_sem, q0, q1, ql]) rfl HD.out
theorem Halve_any (A : Option Addr) (c : Nat) (dep : Int) (es : List En) (W : World) (h : DirAt W W.heap.size A c es) (o : Except Int (Int × List En)) (ho : (if mayB dep es then halveO dep es else .error 310) = o) :
    Calls Try.prog 26 #[.agg #[.int .i64 dep, .slice A es.length c]] W (DirO W o) := by
  obtain ⟨hb2, hr2⟩ := two_boxes W dep A es.length c
  have HC := hide (tries_any A c 54 #[] dep es _ (enters_of Try.func54 (by kernel_rfl) rfl) ((h.below hb2).more hb2.size) (halveO dep es) (fun hm w gh gs A c hh hb h1 h2 => by
    obtain ⟨a1, a2, a3, _, a5, _⟩ := may_shape hm
    exact halve_any gh gs dep A c es w hh h2 a1 a2 a3 a5 _ rfl))
  rw [ho] at HC
  have HB := hide hb2
  have HR := hide hr2
  clear ho h hb2 hr2
  go_enter Try.func26, Try.ntmps26
  go_wp2_with fail
  refine HC.out.mono ?_
  rintro e w1 hR
  obtain ⟨d, A2, n2, c2, k, rfl, hrow, hr9, hD⟩ := dirO_store HB.out (by omega) HR.out hR
  have q0 := row20 hrow
  have q1 := row21 hrow
  have ql := hrow.lt
  have qf0 := hrow.frozen 0
  have qf1 := hrow.frozen 1
  have HD := hide hD
  have HR9 := hide hr9
  clear hR hrow hr9 hD
  go_wp2_with fail
  clear q0 q1 ql
  have q0 := row20 HR9.out
  have q1 := row21 HR9.out
  have ql := HR9.out.lt
  exact bodyPost_ret (v := .tuple #[.agg #[.int .i64 d, .slice A2 n2 c2], .int .i64 k]) (by simp [results, Try.results26, go_sem, q0, q1, ql]) rfl HD.out
end Go.Proofs.Ytjlbnegdiabglaa
