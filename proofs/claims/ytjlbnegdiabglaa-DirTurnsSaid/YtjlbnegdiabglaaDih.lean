/-
  Whether it is a directory of tables, outside; a new directory; what is thrown, and caught.
-/
import Derived.Test.YtjlbnegdiabglaaDig
import Derived.Test.YtjlbnegdiabglaaCopy
import Derived.Test.YtjlbnegdiabglaaTail
import Derived.Defers
import Derived.Recover
import Derived.Laws.NewBlocks
set_option linter.unusedSimpArgs false
set_option linter.unusedVariables false
namespace Go.Proofs.Ytjlbnegdiabglaa
open Go Go.RowKit
attribute [local go_sem] via_cell via_frozen

/-- A row of entries, read; its capacity. -/
structure DirAt (w : World) (B : Nat) (A : Option Addr) (c : Nat) (es : List En) : Prop where
  rd : Rd w B 2 A es.length (Cs encE es)
  u : ∀ e ∈ es, U64 e.2
  cap : es.length ≤ c
  max : c ≤ 9223372036854775807
theorem DirAt.below {w w' : World} {B : Nat} {A : Option Addr} {c : Nat} {es : List En} (h : DirAt w B A c es) (hb : Below B w w') : DirAt w' B A c es := ⟨h.rd.below hb, h.u, h.cap, h.max⟩
theorem DirAt.more {w : World} {B B2 : Nat} {A : Option Addr} {c : Nat} {es : List En} (h : DirAt w B A c es) (hb : B ≤ B2) : DirAt w B2 A c es := ⟨h.rd.more hb, h.u, h.cap, h.max⟩
theorem DirAt.of_own {w : World} {base : Nat} {A : Option Addr} {c : Nat} {es : List En} (h : w.ownsRow base 31 2 (.slice A es.length c) es.length (Cs encE es)) (hu : ∀ e ∈ es, U64 e.2) : DirAt w w.heap.size A c es := by
  obtain ⟨A2, c2, he, h1, h2⟩ := own_form2 h
  injection he with e1 _ e3
  subst e1; subst e3
  exact ⟨Rd.of_own h, hu, h1, h2⟩
set_option maxHeartbeats 1000000 in
theorem check_any (B : Nat) (A : Option Addr) (c : Nat) (dep : Int) (es : List En) (W : World) (h : DirAt W B A c es) (hB : B ≤ W.heap.size) (k : Int) (hk : (if mayB dep es then 0 else 310) = k) :
    Calls Try.prog 12 #[.agg #[.int .i64 dep, .slice A es.length c]] W fun e W' => e = .returned (.int .i64 k) ∧ Below W.heap.size W W' := by
  have H := hide h
  obtain ⟨r, hr⟩ : ∃ r, mayB dep es = r := ⟨_, rfl⟩
  rw [hr] at hk
  have HR := hide hr
  have HK := hide hk
  obtain ⟨w1, hw1⟩ : ∃ w1, W.alloc (.cells #[.int .i64 dep, .slice A es.length c] 24) = w1 := ⟨_, rfl⟩
  obtain ⟨w2, hw2⟩ : ∃ w2, w1.alloc (.cells #[.int .i64 dep, .slice A es.length c] 71) = w2 := ⟨_, rfl⟩
  have s1 : w1.heap.size = W.heap.size + 1 := by rw [← hw1]; simp
  have b1 : Below W.heap.size W w1 := by rw [← hw1]; exact (Below.refl _ _).alloc (Nat.le_refl _) _
  have b2 : Below w1.heap.size w1 w2 := by rw [← hw2]; exact (Below.refl _ _).alloc (Nat.le_refl _) _
  have r2 : RowAt w2 (W.heap.size + 1) 71 #[.int .i64 dep, .slice A es.length c] := by have h := RowAt.new w1 71 #[.int .i64 dep, .slice A es.length c]; rw [hw2, s1] at h; exact h
  have hb0 : Below W.heap.size W w2 := b1.trans (b2.mono b1.size)
  have HB := hide hb0
  have HC := hide (may_any B (W.heap.size + 1) dep A c es w2 r2 (h.rd.below (hb0.mono hB)) (Nat.le_trans hB hb0.size) (by omega) h.u h.cap h.max r hr)
  clear h hr hk b1 b2 r2 hb0 s1
  subst hw2
  subst hw1
  go_enter Try.func12, Try.ntmps12
  go_wp2_with fail
  with_reducible refine HC.out.mono ?_
  rintro e w3 ⟨rfl, hb3⟩
  have HB3 := hide (HB.out.trans (hb3.mono HB.out.size))
  clear hb3
  cases r
  · go_wp2_with fail
    go_ret
    exact ⟨by rw [← HK.out]; rfl, HB3.out⟩
  · go_wp2_with fail
    go_ret
    exact ⟨by rw [← HK.out]; rfl, HB3.out⟩
theorem is_any (s g : Int) (hg : U64 g) (W : World) (r : Bool) (hr : okEnt s g = r) : Calls Try.prog 47 #[.agg #[.int .i64 s, .int .u64 g]] W fun e W' => e = .returned (.bool r) ∧ Below W.heap.size W W' := by
  have HB := hide (show Below W.heap.size W (W.alloc (.cells #[.int .i64 s, .int .u64 g] 31)) from (Below.refl _ _).alloc (Nat.le_refl _) _)
  obtain ⟨hg0, hg1⟩ := hg
  cases r
  · have HC := hide (Pack_no s g hg0 (by omega) (okEnt_no hr) (W := (W.alloc (.cells #[.int .i64 s, .int .u64 g] 31))))
    clear hr hg0 hg1
    go_enter Try.func47, Try.ntmps47
    go_wp2_with fail
    with_reducible refine HC.out.mono ?_
    rintro e w1 ⟨rfl, hb1⟩
    have HB1 := hide (HB.out.trans (hb1.mono HB.out.size))
    clear hb1
    go_wp2_with fail
    go_ret
    exact ⟨rfl, HB1.out⟩
  · obtain ⟨h1, h2, h3⟩ := okEnt_out hr
    have HC := hide (Pack_ok s g h1 h2 hg0 h3 (W := (W.alloc (.cells #[.int .i64 s, .int .u64 g] 31))))
    clear hr hg0 hg1 h1 h2 h3
    go_enter Try.func47, Try.ntmps47
    go_wp2_with fail
    with_reducible refine HC.out.mono ?_
    rintro e w1 ⟨rfl, hb1⟩
    have HB1 := hide (HB.out.trans (hb1.mono HB.out.size))
    clear hb1
    go_wp2_with fail
    go_ret
    exact ⟨rfl, HB1.out⟩
end Go.Proofs.Ytjlbnegdiabglaa
