/-
  Split.
-/
import Derived.Test.YtjlbnegdiabglaaDiu
set_option linter.unusedSimpArgs false
set_option linter.unusedVariables false
namespace Go.Proofs.Ytjlbnegdiabglaa
open Go Go.RowKit
attribute [local go_sem] via_cell via_frozen

theorem split1_any (ge gl gg gh gs : Nat) (dep : Int) (A : Option Addr) (c : Nat) (es : List En) (e low high : En) (w : World) (h : HandO w gh gs dep A c es) (hg : gs < gh) (he : RowAt w ge 31 #[.int .i64 e.1, .int .u64 e.2]) (hl : RowAt w gl 31 #[.int .i64 low.1, .int .u64 low.2]) (hh : RowAt w gg 31 #[.int .i64 high.1, .int .u64 high.2])
    (hu : ∀ e ∈ es, U64 e.2) (hlo : U64 low.2) (hhi : U64 high.2) (hm : mayB dep es = true) (o : Except Int (Int × List En)) (ho : splitO dep es e low high = o) :
    Calls Try.prog 51 #[.pointer (some ⟨gh, 0, none⟩), .pointer (some ⟨ge, 0, none⟩), .pointer (some ⟨gl, 0, none⟩), .pointer (some ⟨gg, 0, none⟩)] w (DoesO gs gh w o) := by
  have HC := hide (split_any gh gs dep A c es e low high w h hg hu hlo hhi hm o ho)
  have q0 := row20 he
  have q1 := row21 he
  have ql := he.lt
  have p0 := row20 hl
  have p1 := row21 hl
  have pl := hl.lt
  have r0 := row20 hh
  have r1 := row21 hh
  have rl := hh.lt
  clear h he hl hh hu hlo hhi hm ho
  go_enter Try.func51, Try.ntmps51
  go_wp2_with fail
  refine HC.out.mono ?_
  rintro e1 w1 hR
  cases o with
  | ok x =>
    obtain ⟨rfl, hR⟩ := hR
    dsimp only
    go_wp2_with fail
    go_end0
    exact ⟨rfl, hR⟩
  | error k =>
    obtain ⟨rfl, hR⟩ := hR
    exact ⟨rfl, rfl, hR⟩
theorem Split_any (A : Option Addr) (c : Nat) (dep : Int) (es : List En) (e low high : En) (W : World) (h : DirAt W W.heap.size A c es) (hlo : U64 low.2) (hhi : U64 high.2) (o : Except Int (Int × List En)) (ho : (if mayB dep es then splitO dep es e low high else .error 310) = o) :
    Calls Try.prog 22 #[.agg #[.int .i64 dep, .slice A es.length c], vE e, vE low, vE high] W (DirO W o) := by
  obtain ⟨w1, hw1⟩ : ∃ w1, W.alloc (.cells #[.int .i64 dep, .slice A es.length c] 24) = w1 := ⟨_, rfl⟩
  obtain ⟨w2, hw2⟩ : ∃ w2, w1.alloc (.cells #[.int .i64 e.1, .int .u64 e.2] 31) = w2 := ⟨_, rfl⟩
  obtain ⟨w3, hw3⟩ : ∃ w3, w2.alloc (.cells #[.int .i64 low.1, .int .u64 low.2] 31) = w3 := ⟨_, rfl⟩
  obtain ⟨w4, hw4⟩ : ∃ w4, w3.alloc (.cells #[.int .i64 high.1, .int .u64 high.2] 31) = w4 := ⟨_, rfl⟩
  obtain ⟨w5, hw5⟩ : ∃ w5, w4.alloc (.cells #[.int .i64 0, .slice none 0 0] 24) = w5 := ⟨_, rfl⟩
  have s1 : w1.heap.size = W.heap.size + 1 := by rw [← hw1]; simp
  have s2 : w2.heap.size = W.heap.size + 1 + 1 := by rw [← hw2]; simp [s1]
  have s3 : w3.heap.size = W.heap.size + 1 + 1 + 1 := by rw [← hw3]; simp [s2]
  have s4 : w4.heap.size = W.heap.size + 1 + 1 + 1 + 1 := by rw [← hw4]; simp [s3]
  have b1 : Below W.heap.size W w1 := by rw [← hw1]; exact (Below.refl _ _).alloc (Nat.le_refl _) _
  have b2 : Below w1.heap.size w1 w2 := by rw [← hw2]; exact (Below.refl _ _).alloc (Nat.le_refl _) _
  have b3 : Below w2.heap.size w2 w3 := by rw [← hw3]; exact (Below.refl _ _).alloc (Nat.le_refl _) _
  have b4 : Below w3.heap.size w3 w4 := by rw [← hw4]; exact (Below.refl _ _).alloc (Nat.le_refl _) _
  have b5 : Below w4.heap.size w4 w5 := by rw [← hw5]; exact (Below.refl _ _).alloc (Nat.le_refl _) _
  have r1 : RowAt w5 W.heap.size 24 #[.int .i64 dep, .slice A es.length c] := by have h := RowAt.new W 24 #[.int .i64 dep, .slice A es.length c]; rw [hw1] at h; exact (((h.below b2).below b3).below b4).below b5
  have r2 : RowAt w5 (W.heap.size + 1) 31 #[.int .i64 e.1, .int .u64 e.2] := by have h := RowAt.new w1 31 #[.int .i64 e.1, .int .u64 e.2]; rw [hw2, s1] at h; exact ((h.below b3).below b4).below b5
  have r3 : RowAt w5 (W.heap.size + 1 + 1) 31 #[.int .i64 low.1, .int .u64 low.2] := by have h := RowAt.new w2 31 #[.int .i64 low.1, .int .u64 low.2]; rw [hw3, s2] at h; exact (h.below b4).below b5
  have r4 : RowAt w5 (W.heap.size + 1 + 1 + 1) 31 #[.int .i64 high.1, .int .u64 high.2] := by have h := RowAt.new w3 31 #[.int .i64 high.1, .int .u64 high.2]; rw [hw4, s3] at h; exact h.below b5
  have r5 : RowAt w5 (W.heap.size + 1 + 1 + 1 + 1) 24 #[.int .i64 0, .slice none 0 0] := by have h := RowAt.new w4 24 #[.int .i64 0, .slice none 0 0]; rw [hw5, s4] at h; exact h
  have hb5 : Below W.heap.size W w5 := (((b1.trans (b2.mono b1.size)).trans (b3.mono (by omega))).trans (b4.mono (by omega))).trans (b5.mono (by omega))
  have HC := hide (tries_any A c 51 #[.pointer (some ⟨W.heap.size + 1, 0, none⟩), .pointer (some ⟨W.heap.size + 1 + 1, 0, none⟩), .pointer (some ⟨W.heap.size + 1 + 1 + 1, 0, none⟩)] dep es w5 (enters_of Try.func51 (by kernel_rfl) rfl) ((h.below hb5).more hb5.size) (splitO dep es e low high) (fun hm w gh gs A c hh hb hg1 hg2 =>
    split1_any _ _ _ gh gs dep A c es e low high w hh hg2 (r2.below hb) (r3.below hb) (r4.below hb) h.u hlo hhi hm _ rfl))
  rw [ho] at HC
  have HB := hide hb5
  have R1 := hide r1
  have R5 := hide r5
  clear ho h hlo hhi hb5 r1 r2 r3 r4 r5 b1 b2 b3 b4 b5 s1 s2 s3 s4
  subst hw5
  subst hw4
  subst hw3
  subst hw2
  subst hw1
  go_enter Try.func22, Try.ntmps22
  go_upto_region 1 with (fail)
  generalize ((((W.alloc (.cells #[.int .i64 dep, .slice A es.length c] 24)).alloc (.cells #[.int .i64 e.1, .int .u64 e.2] 31)).alloc (.cells #[.int .i64 low.1, .int .u64 low.2] 31)).alloc (.cells #[.int .i64 high.1, .int .u64 high.2] 31)).alloc (.cells #[.int .i64 0, .slice none 0 0] 24) = w5 at *
  have q0 := row20 R1.out
  have q1 := row21 R1.out
  have ql := R1.out.lt
  go_wp2_with fail
  refine HC.out.mono ?_
  rintro e1 w1 hR
  obtain ⟨d, A2, n2, c2, k, rfl, hrow, hr9, hD⟩ := dirO_store HB.out (by omega) R5.out hR
  clear q0 q1 ql
  have q0 := row20 hrow
  have q1 := row21 hrow
  have ql := hrow.lt
  have qf0 := hrow.frozen 0
  have qf1 := hrow.frozen 1
  have HD := hide hD
  have HR9 := hide hr9
  clear hR hrow hr9 hD
  go_wp2_with fail
  clear q0 q1 ql
  have q0 := row20 HR9.out
  have q1 := row21 HR9.out
  have ql := HR9.out.lt
  exact bodyPost_ret (v := .tuple #[.agg #[.int .i64 d, .slice A2 n2 c2], .int .i64 k]) (by simp [results, Try.results22, go_sem, q0, q1, ql]) rfl HD.out
end Go.Proofs.Ytjlbnegdiabglaa
