/-
  New monitors: the walk.
-/
import Derived.Test.YtfpbabafeecncaaMow
import Derived.Test.YtfpbabafeecncaaMrf
import Derived.Test.YtfpbabafeecncaaMonp
import Derived.Deep.CutRange
set_option linter.unusedSimpArgs false
set_option linter.unusedVariables false
namespace Go.Proofs.Ytfpbabafeecncaa
open Go Go.RowKit
attribute [local go_sem] via_cell via_frozen

set_option maxRecDepth 100000 in
set_option maxHeartbeats 16000000 in
theorem nw_r11 {w0 : World} {g4 g n : Nat} (R4 : RowAt w0 g4 24 #[.int .i64 (g : Int), .int .i64 (n : Int)]) (hn4 : n ≤ 4096) (hmkB : ∀ w, (Instr.makeSlice 28 (.int .i64 (g : Int)) (.int .i64 (g : Int))).run Try.prog w = .ok (.slice (some ⟨w.heap.size, 0, none⟩) g g) (w.alloc (.cells (Cs encB (List.replicate g false)).toArray 4))) (hmkH : ∀ w, (Instr.makeSlice 29 (.int .i64 (g : Int)) (.int .i64 (g : Int))).run Try.prog w = .ok (.slice (some ⟨w.heap.size, 0, none⟩) g g) (w.alloc (.cells (Cs encH (List.replicate g hmZ)).toArray 54))) (a : Act) (Q : Exit → Act → World → Prop) (id : Nat) (hsz : 63 < a.tmps.size) (hA4 : a.tmps[4]? = some (.pointer (some ⟨g4, 0, none⟩))) (ops : Array Oper) (hops : opsAt Try.f3 11 = some ops) (hQ : ∀ (x54 : Value) (x55 : Value) (x56 : Value) (x57 : Value) (x58 : Value) (x59 : Value) (x60 : Value) (x61 : Value) (x62 : Value) (x63 : Value) (AN : Option Addr) (cN gb gh gm : Nat) (w : World), Below w0.heap.size w0 w → RowAt w gm 32 #[.slice AN n cN, .slice (some ⟨gb, 0, none⟩) g g, .slice (some ⟨gh, 0, none⟩) g g, .slice none 0 0] → Rd w w.heap.size 2 AN n (Cs encE (List.replicate n (0, 0))) → RowAt w gb 4 (Cs encB (List.replicate g false)).toArray → RowAt w gh 54 (Cs encH (List.replicate g hmZ)).toArray → Q .normal (puts a (([54, 55, 56, 57, 58, 59, 60, 61, 62, 63, 7] : List Nat).zip [x54, x55, x56, x57, x58, x59, x60, x61, x62, x63, .pointer (some ⟨gm, 0, none⟩)])) w) : (Code.region id ops true).wp Try.prog Q a w0 := by
  have hn : ([54, 55, 56, 57, 58, 59, 60, 61, 62, 63, 7] : List Nat).Nodup := by decide
  have hs : ∀ d ∈ ([54, 55, 56, 57, 58, 59, 60, 61, 62, 63, 7] : List Nat), d < a.tmps.size := fun d hd => Nat.lt_of_le_of_lt ((by decide : ∀ d ∈ ([54, 55, 56, 57, 58, 59, 60, 61, 62, 63, 7] : List Nat), d ≤ 63) d hd) hsz
  conv at hops => lhs; whnf
  injection hops with hops
  subst hops
  refine wp_region_slots [54, 55, 56, 57, 58, 59, 60, 61, 62, 63, 7] (fun L xs w => ∃ x54 : Value, ∃ x55 : Value, ∃ x56 : Value, ∃ x57 : Value, ∃ x58 : Value, ∃ x59 : Value, ∃ x60 : Value, ∃ x61 : Value, ∃ x62 : Value, ∃ x63 : Value, ∃ x7 : Value, ∃ AN : Option Addr, ∃ cN gb gh gm : Nat, xs = [x54, x55, x56, x57, x58, x59, x60, x61, x62, x63, x7] ∧ Below w0.heap.size w0 w ∧ (RowAt w g4 24 #[.int .i64 (g : Int), .int .i64 (n : Int)]) ∧ (L 0 = true → x54 = .pointer (some ⟨g4, 1, none⟩)) ∧ (L 1 = true → x55 = .int .i64 (n : Int)) ∧ (L 2 = true → x56 = .agg #[.slice AN n cN]) ∧ (L 2 = true → Rd w w.heap.size 2 AN n (Cs encE (List.replicate n (0, 0)))) ∧ (L 3 = true → x57 = .pointer (some ⟨g4, 0, none⟩)) ∧ (L 4 = true → x58 = .int .i64 (g : Int)) ∧ (L 5 = true → x59 = .slice (some ⟨gb, 0, none⟩) g g) ∧ (L 5 = true → RowAt w gb 4 (Cs encB (List.replicate g false)).toArray) ∧ (L 6 = true → x60 = .pointer (some ⟨g4, 0, none⟩)) ∧ (L 7 = true → x61 = .int .i64 (g : Int)) ∧ (L 8 = true → x62 = .slice (some ⟨gh, 0, none⟩) g g) ∧ (L 8 = true → RowAt w gh 54 (Cs encH (List.replicate g hmZ)).toArray) ∧ (L 9 = true → x63 = .agg #[.slice AN n cN, .slice (some ⟨gb, 0, none⟩) g g, .slice (some ⟨gh, 0, none⟩) g g, .slice none 0 0]) ∧ (L 10 = true → x7 = .pointer (some ⟨gm, 0, none⟩)) ∧ (L 10 = true → w0.heap.size ≤ gm) ∧ (L 10 = true → L 11 = false → RowAt w gm 32 #[.slice none 0 0, .slice none 0 0, .slice none 0 0, .slice none 0 0]) ∧ (L 11 = true → RowAt w gm 32 #[.slice AN n cN, .slice (some ⟨gb, 0, none⟩) g g, .slice (some ⟨gh, 0, none⟩) g g, .slice none 0 0])) (by kernel_rfl) (by kernel_rfl) ?_ ?_ ?_
  · exact ⟨_, _, _, _, _, _, _, _, _, _, _, none, 0, 0, 0, 0, rfl, (Below.refl _ _).drew, R4.below (Below.refl _ _).drew, fun h => nope h rfl, fun h => nope h rfl, fun h => nope h rfl, fun h => nope h rfl, fun h => nope h rfl, fun h => nope h rfl, fun h => nope h rfl, fun h => nope h rfl, fun h => nope h rfl, fun h => nope h rfl, fun h => nope h rfl, fun h => nope h rfl, fun h => nope h rfl, fun h => nope h rfl, fun h => nope h rfl, fun h => nope h rfl, fun h => nope h rfl⟩
  · refine OnceFrom.cons (fun L b w K hI hi hon hup hK => ?_) ?_
    · obtain ⟨xs, hbe, x54, x55, x56, x57, x58, x59, x60, x61, x62, x63, x7, AN, cN, gb, gh, gm, hxs, hB, hF⟩ := hI
      subst hxs
      have HB := hide hB
      have HF := hide hF
      obtain ⟨r4, f0, f1, f2, f2r, f3, f4, f5, f5r, f6, f7, f8, f8r, f9, f10, f10a, f10r, f11⟩ := hF
      have q0 := row20 r4
      have q1 := row21 r4
      have ql := r4.lt
      have hT4 : b.tmps[4]? = some (.pointer (some ⟨g4, 0, none⟩)) := by rw [hbe]; exact (puts_get_out _ _ _ (by decide)).trans hA4
      have HBE := hide hbe
      clear hB hbe r4 f0 f1 f2 f2r f3 f4 f5 f5r f6 f7 f8 f8r f9 f10 f10a f10r f11
      rw [if_pos (by rfl)]
      go_simp
      obtain ⟨r4, f0, f1, f2, f2r, f3, f4, f5, f5r, f6, f7, f8, f8r, f9, f10, f10a, f10r, f11⟩ := HF.out
      have hB := HB.out
      refine hK.out _ _ (fun L2 hi2 hn2 => ⟨[(.pointer (some ⟨g4, 1, none⟩)), x55, x56, x57, x58, x59, x60, x61, x62, x63, x7], put_in HBE.out hn rfl 0 _ rfl rfl, (.pointer (some ⟨g4, 1, none⟩)), x55, x56, x57, x58, x59, x60, x61, x62, x63, x7, AN, cN, gb, gh, gm, rfl, hB, (r4 ), (fun g0 => rfl), (fun g1 => have h1 := lt_ (hn2 1 (by decide)) g1; f1 h1), (fun g2 => have h2 := lt_ (hn2 2 (by decide)) g2; f2 h2), (fun g2 => have h2 := lt_ (hn2 2 (by decide)) g2; f2r h2), (fun g3 => have h3 := lt_ (hn2 3 (by decide)) g3; f3 h3), (fun g4 => have h4 := lt_ (hn2 4 (by decide)) g4; f4 h4), (fun g5 => have h5 := lt_ (hn2 5 (by decide)) g5; f5 h5), (fun g5 => have h5 := lt_ (hn2 5 (by decide)) g5; f5r h5), (fun g6 => have h6 := lt_ (hn2 6 (by decide)) g6; f6 h6), (fun g7 => have h7 := lt_ (hn2 7 (by decide)) g7; f7 h7), (fun g8 => have h8 := lt_ (hn2 8 (by decide)) g8; f8 h8), (fun g8 => have h8 := lt_ (hn2 8 (by decide)) g8; f8r h8), (fun g9 => have h9 := lt_ (hn2 9 (by decide)) g9; f9 h9), (fun g10 => have h10 := lt_ (hn2 10 (by decide)) g10; f10 h10), (fun g10 => have h10 := lt_ (hn2 10 (by decide)) g10; f10a h10), (fun g10 g11 => have h10 := lt_ (hn2 10 (by decide)) g10; have h11 := lt_ (hn2 11 (by decide)) g11; f10r h10 h11), (fun g11 => have h11 := lt_ (hn2 11 (by decide)) g11; f11 h11)⟩)
    refine OnceFrom.cons (fun L b w K hI hi hon hup hK => ?_) ?_
    · obtain ⟨xs, hbe, x54, x55, x56, x57, x58, x59, x60, x61, x62, x63, x7, AN, cN, gb, gh, gm, hxs, hB, hF⟩ := hI
      subst hxs
      have d0 : L 0 = true := hon 0 (mem_of_elem (by kernel_rfl))
      have HB := hide hB
      have HF := hide hF
      obtain ⟨r4, f0, f1, f2, f2r, f3, f4, f5, f5r, f6, f7, f8, f8r, f9, f10, f10a, f10r, f11⟩ := hF
      have e0 := f0 d0
      subst e0
      have q0 := row20 r4
      have q1 := row21 r4
      have ql := r4.lt
      have hT54 : b.tmps[54]? = some (.pointer (some ⟨g4, 1, none⟩)) := by rw [hbe]; exact puts_get_in _ _ _ hn hs (i := 0) rfl rfl
      have HBE := hide hbe
      clear hB hbe r4 f0 f1 f2 f2r f3 f4 f5 f5r f6 f7 f8 f8r f9 f10 f10a f10r f11
      rw [if_pos (by rfl)]
      go_simp
      obtain ⟨r4, f0, f1, f2, f2r, f3, f4, f5, f5r, f6, f7, f8, f8r, f9, f10, f10a, f10r, f11⟩ := HF.out
      have hB := HB.out
      refine hK.out _ _ (fun L2 hi2 hn2 => ⟨[(.pointer (some ⟨g4, 1, none⟩)), (.int .i64 (n : Int)), x56, x57, x58, x59, x60, x61, x62, x63, x7], put_in HBE.out hn rfl 1 _ rfl rfl, (.pointer (some ⟨g4, 1, none⟩)), (.int .i64 (n : Int)), x56, x57, x58, x59, x60, x61, x62, x63, x7, AN, cN, gb, gh, gm, rfl, hB, (r4 ), (fun g0 => have h0 := lt_ (hn2 0 (by decide)) g0; rfl), (fun g1 => rfl), (fun g2 => have h2 := lt_ (hn2 2 (by decide)) g2; f2 h2), (fun g2 => have h2 := lt_ (hn2 2 (by decide)) g2; f2r h2), (fun g3 => have h3 := lt_ (hn2 3 (by decide)) g3; f3 h3), (fun g4 => have h4 := lt_ (hn2 4 (by decide)) g4; f4 h4), (fun g5 => have h5 := lt_ (hn2 5 (by decide)) g5; f5 h5), (fun g5 => have h5 := lt_ (hn2 5 (by decide)) g5; f5r h5), (fun g6 => have h6 := lt_ (hn2 6 (by decide)) g6; f6 h6), (fun g7 => have h7 := lt_ (hn2 7 (by decide)) g7; f7 h7), (fun g8 => have h8 := lt_ (hn2 8 (by decide)) g8; f8 h8), (fun g8 => have h8 := lt_ (hn2 8 (by decide)) g8; f8r h8), (fun g9 => have h9 := lt_ (hn2 9 (by decide)) g9; f9 h9), (fun g10 => have h10 := lt_ (hn2 10 (by decide)) g10; f10 h10), (fun g10 => have h10 := lt_ (hn2 10 (by decide)) g10; f10a h10), (fun g10 g11 => have h10 := lt_ (hn2 10 (by decide)) g10; have h11 := lt_ (hn2 11 (by decide)) g11; f10r h10 h11), (fun g11 => have h11 := lt_ (hn2 11 (by decide)) g11; f11 h11)⟩)
    refine OnceFrom.cons (fun L b w K hI hi hon hup hK => ?_) ?_
    · obtain ⟨xs, hbe, x54, x55, x56, x57, x58, x59, x60, x61, x62, x63, x7, AN, cN, gb, gh, gm, hxs, hB, hF⟩ := hI
      subst hxs
      have d1 : L 1 = true := hon 1 (mem_of_elem (by kernel_rfl))
      have u9 : L 9 = false := hup 9 (mem_of_elem (by kernel_rfl))
      have u11 : L 11 = false := hup 11 (mem_of_elem (by kernel_rfl))
      have HB := hide hB
      have HF := hide hF
      obtain ⟨r4, f0, f1, f2, f2r, f3, f4, f5, f5r, f6, f7, f8, f8r, f9, f10, f10a, f10r, f11⟩ := hF
      have e1 := f1 d1
      subst e1
      have hT55 : b.tmps[55]? = some (.int .i64 (n : Int)) := by rw [hbe]; exact puts_get_in _ _ _ hn hs (i := 1) rfl rfl
      have HBE := hide hbe
      clear hB hbe r4 f0 f1 f2 f2r f3 f4 f5 f5r f6 f7 f8 f8r f9 f10 f10a f10r f11
      rw [if_pos (by rfl)]
      go_simp
      with_reducible refine (rnew_any n w hn4).mono ?_
      rintro e w2 ⟨A5, c5, rfl, hc1, hc2, hr5, hb⟩
      obtain ⟨r4, f0, f1, f2, f2r, f3, f4, f5, f5r, f6, f7, f8, f8r, f9, f10, f10a, f10r, f11⟩ := HF.out
      have hB := HB.out
      refine hK.out _ _ (fun L2 hi2 hn2 => ⟨[x54, (.int .i64 (n : Int)), (.agg #[.slice A5 n c5]), x57, x58, x59, x60, x61, x62, x63, x7], put_in HBE.out hn rfl 2 _ rfl rfl, x54, (.int .i64 (n : Int)), (.agg #[.slice A5 n c5]), x57, x58, x59, x60, x61, x62, x63, x7, A5, c5, gb, gh, gm, rfl, (hB.trans (hb.mono hB.size)), ((r4 ).below hb), (fun g0 => have h0 := lt_ (hn2 0 (by decide)) g0; f0 h0), (fun g1 => have h1 := lt_ (hn2 1 (by decide)) g1; rfl), (fun g2 => rfl), (fun g2 => hr5), (fun g3 => have h3 := lt_ (hn2 3 (by decide)) g3; f3 h3), (fun g4 => have h4 := lt_ (hn2 4 (by decide)) g4; f4 h4), (fun g5 => have h5 := lt_ (hn2 5 (by decide)) g5; f5 h5), (fun g5 => have h5 := lt_ (hn2 5 (by decide)) g5; (f5r h5).below hb), (fun g6 => have h6 := lt_ (hn2 6 (by decide)) g6; f6 h6), (fun g7 => have h7 := lt_ (hn2 7 (by decide)) g7; f7 h7), (fun g8 => have h8 := lt_ (hn2 8 (by decide)) g8; f8 h8), (fun g8 => have h8 := lt_ (hn2 8 (by decide)) g8; (f8r h8).below hb), (fun g9 => have h9 := lt_ (hn2 9 (by decide)) g9; nope h9 u9), (fun g10 => have h10 := lt_ (hn2 10 (by decide)) g10; f10 h10), (fun g10 => have h10 := lt_ (hn2 10 (by decide)) g10; f10a h10), (fun g10 g11 => have h10 := lt_ (hn2 10 (by decide)) g10; have h11 := lt_ (hn2 11 (by decide)) g11; (f10r h10 h11).below hb), (fun g11 => have h11 := lt_ (hn2 11 (by decide)) g11; nope h11 u11)⟩)
    refine OnceFrom.cons (fun L b w K hI hi hon hup hK => ?_) ?_
    · obtain ⟨xs, hbe, x54, x55, x56, x57, x58, x59, x60, x61, x62, x63, x7, AN, cN, gb, gh, gm, hxs, hB, hF⟩ := hI
      subst hxs
      have HB := hide hB
      have HF := hide hF
      obtain ⟨r4, f0, f1, f2, f2r, f3, f4, f5, f5r, f6, f7, f8, f8r, f9, f10, f10a, f10r, f11⟩ := hF
      have q0 := row20 r4
      have q1 := row21 r4
      have ql := r4.lt
      have hT4 : b.tmps[4]? = some (.pointer (some ⟨g4, 0, none⟩)) := by rw [hbe]; exact (puts_get_out _ _ _ (by decide)).trans hA4
      have HBE := hide hbe
      clear hB hbe r4 f0 f1 f2 f2r f3 f4 f5 f5r f6 f7 f8 f8r f9 f10 f10a f10r f11
      rw [if_pos (by rfl)]
      go_simp
      obtain ⟨r4, f0, f1, f2, f2r, f3, f4, f5, f5r, f6, f7, f8, f8r, f9, f10, f10a, f10r, f11⟩ := HF.out
      have hB := HB.out
      refine hK.out _ _ (fun L2 hi2 hn2 => ⟨[x54, x55, x56, (.pointer (some ⟨g4, 0, none⟩)), x58, x59, x60, x61, x62, x63, x7], put_in HBE.out hn rfl 3 _ rfl rfl, x54, x55, x56, (.pointer (some ⟨g4, 0, none⟩)), x58, x59, x60, x61, x62, x63, x7, AN, cN, gb, gh, gm, rfl, hB, (r4 ), (fun g0 => have h0 := lt_ (hn2 0 (by decide)) g0; f0 h0), (fun g1 => have h1 := lt_ (hn2 1 (by decide)) g1; f1 h1), (fun g2 => have h2 := lt_ (hn2 2 (by decide)) g2; f2 h2), (fun g2 => have h2 := lt_ (hn2 2 (by decide)) g2; f2r h2), (fun g3 => rfl), (fun g4 => have h4 := lt_ (hn2 4 (by decide)) g4; f4 h4), (fun g5 => have h5 := lt_ (hn2 5 (by decide)) g5; f5 h5), (fun g5 => have h5 := lt_ (hn2 5 (by decide)) g5; f5r h5), (fun g6 => have h6 := lt_ (hn2 6 (by decide)) g6; f6 h6), (fun g7 => have h7 := lt_ (hn2 7 (by decide)) g7; f7 h7), (fun g8 => have h8 := lt_ (hn2 8 (by decide)) g8; f8 h8), (fun g8 => have h8 := lt_ (hn2 8 (by decide)) g8; f8r h8), (fun g9 => have h9 := lt_ (hn2 9 (by decide)) g9; f9 h9), (fun g10 => have h10 := lt_ (hn2 10 (by decide)) g10; f10 h10), (fun g10 => have h10 := lt_ (hn2 10 (by decide)) g10; f10a h10), (fun g10 g11 => have h10 := lt_ (hn2 10 (by decide)) g10; have h11 := lt_ (hn2 11 (by decide)) g11; f10r h10 h11), (fun g11 => have h11 := lt_ (hn2 11 (by decide)) g11; f11 h11)⟩)
    refine OnceFrom.cons (fun L b w K hI hi hon hup hK => ?_) ?_
    · obtain ⟨xs, hbe, x54, x55, x56, x57, x58, x59, x60, x61, x62, x63, x7, AN, cN, gb, gh, gm, hxs, hB, hF⟩ := hI
      subst hxs
      have d3 : L 3 = true := hon 3 (mem_of_elem (by kernel_rfl))
      have HB := hide hB
      have HF := hide hF
      obtain ⟨r4, f0, f1, f2, f2r, f3, f4, f5, f5r, f6, f7, f8, f8r, f9, f10, f10a, f10r, f11⟩ := hF
      have e3 := f3 d3
      subst e3
      have q0 := row20 r4
      have q1 := row21 r4
      have ql := r4.lt
      have hT57 : b.tmps[57]? = some (.pointer (some ⟨g4, 0, none⟩)) := by rw [hbe]; exact puts_get_in _ _ _ hn hs (i := 3) rfl rfl
      have HBE := hide hbe
      clear hB hbe r4 f0 f1 f2 f2r f3 f4 f5 f5r f6 f7 f8 f8r f9 f10 f10a f10r f11
      rw [if_pos (by rfl)]
      go_simp
      obtain ⟨r4, f0, f1, f2, f2r, f3, f4, f5, f5r, f6, f7, f8, f8r, f9, f10, f10a, f10r, f11⟩ := HF.out
      have hB := HB.out
      refine hK.out _ _ (fun L2 hi2 hn2 => ⟨[x54, x55, x56, (.pointer (some ⟨g4, 0, none⟩)), (.int .i64 (g : Int)), x59, x60, x61, x62, x63, x7], put_in HBE.out hn rfl 4 _ rfl rfl, x54, x55, x56, (.pointer (some ⟨g4, 0, none⟩)), (.int .i64 (g : Int)), x59, x60, x61, x62, x63, x7, AN, cN, gb, gh, gm, rfl, hB, (r4 ), (fun g0 => have h0 := lt_ (hn2 0 (by decide)) g0; f0 h0), (fun g1 => have h1 := lt_ (hn2 1 (by decide)) g1; f1 h1), (fun g2 => have h2 := lt_ (hn2 2 (by decide)) g2; f2 h2), (fun g2 => have h2 := lt_ (hn2 2 (by decide)) g2; f2r h2), (fun g3 => have h3 := lt_ (hn2 3 (by decide)) g3; rfl), (fun g4 => rfl), (fun g5 => have h5 := lt_ (hn2 5 (by decide)) g5; f5 h5), (fun g5 => have h5 := lt_ (hn2 5 (by decide)) g5; f5r h5), (fun g6 => have h6 := lt_ (hn2 6 (by decide)) g6; f6 h6), (fun g7 => have h7 := lt_ (hn2 7 (by decide)) g7; f7 h7), (fun g8 => have h8 := lt_ (hn2 8 (by decide)) g8; f8 h8), (fun g8 => have h8 := lt_ (hn2 8 (by decide)) g8; f8r h8), (fun g9 => have h9 := lt_ (hn2 9 (by decide)) g9; f9 h9), (fun g10 => have h10 := lt_ (hn2 10 (by decide)) g10; f10 h10), (fun g10 => have h10 := lt_ (hn2 10 (by decide)) g10; f10a h10), (fun g10 g11 => have h10 := lt_ (hn2 10 (by decide)) g10; have h11 := lt_ (hn2 11 (by decide)) g11; f10r h10 h11), (fun g11 => have h11 := lt_ (hn2 11 (by decide)) g11; f11 h11)⟩)
    refine OnceFrom.cons (fun L b w K hI hi hon hup hK => ?_) ?_
    · obtain ⟨xs, hbe, x54, x55, x56, x57, x58, x59, x60, x61, x62, x63, x7, AN, cN, gb, gh, gm, hxs, hB, hF⟩ := hI
      subst hxs
      have d4 : L 4 = true := hon 4 (mem_of_elem (by kernel_rfl))
      have u9 : L 9 = false := hup 9 (mem_of_elem (by kernel_rfl))
      have u11 : L 11 = false := hup 11 (mem_of_elem (by kernel_rfl))
      have HB := hide hB
      have HF := hide hF
      obtain ⟨r4, f0, f1, f2, f2r, f3, f4, f5, f5r, f6, f7, f8, f8r, f9, f10, f10a, f10r, f11⟩ := hF
      have e4 := f4 d4
      subst e4
      have hT58 : b.tmps[58]? = some (.int .i64 (g : Int)) := by rw [hbe]; exact puts_get_in _ _ _ hn hs (i := 4) rfl rfl
      have HBE := hide hbe
      clear hB hbe r4 f0 f1 f2 f2r f3 f4 f5 f5r f6 f7 f8 f8r f9 f10 f10a f10r f11
      rw [if_pos (by rfl)]
      go_simp
      obtain ⟨r4, f0, f1, f2, f2r, f3, f4, f5, f5r, f6, f7, f8, f8r, f9, f10, f10a, f10r, f11⟩ := HF.out
      have hB := HB.out
      have hb : Below w.heap.size w (w.alloc (.cells (Cs encB (List.replicate g false)).toArray 4)) := (Below.refl _ _).alloc (Nat.le_refl _) _
      refine hK.out _ _ (fun L2 hi2 hn2 => ⟨[x54, x55, x56, x57, (.int .i64 (g : Int)), (.slice (some ⟨w.heap.size, 0, none⟩) g g), x60, x61, x62, x63, x7], put_in HBE.out hn rfl 5 _ rfl rfl, x54, x55, x56, x57, (.int .i64 (g : Int)), (.slice (some ⟨w.heap.size, 0, none⟩) g g), x60, x61, x62, x63, x7, AN, cN, w.heap.size, gh, gm, rfl, (hB.trans (hb.mono hB.size)), ((r4 ).below hb), (fun g0 => have h0 := lt_ (hn2 0 (by decide)) g0; f0 h0), (fun g1 => have h1 := lt_ (hn2 1 (by decide)) g1; f1 h1), (fun g2 => have h2 := lt_ (hn2 2 (by decide)) g2; f2 h2), (fun g2 => have h2 := lt_ (hn2 2 (by decide)) g2; (f2r h2).belowX hb), (fun g3 => have h3 := lt_ (hn2 3 (by decide)) g3; f3 h3), (fun g4 => have h4 := lt_ (hn2 4 (by decide)) g4; rfl), (fun g5 => rfl), (fun g5 => RowAt.new w _ _), (fun g6 => have h6 := lt_ (hn2 6 (by decide)) g6; f6 h6), (fun g7 => have h7 := lt_ (hn2 7 (by decide)) g7; f7 h7), (fun g8 => have h8 := lt_ (hn2 8 (by decide)) g8; f8 h8), (fun g8 => have h8 := lt_ (hn2 8 (by decide)) g8; (f8r h8).below hb), (fun g9 => have h9 := lt_ (hn2 9 (by decide)) g9; nope h9 u9), (fun g10 => have h10 := lt_ (hn2 10 (by decide)) g10; f10 h10), (fun g10 => have h10 := lt_ (hn2 10 (by decide)) g10; f10a h10), (fun g10 g11 => have h10 := lt_ (hn2 10 (by decide)) g10; have h11 := lt_ (hn2 11 (by decide)) g11; (f10r h10 h11).below hb), (fun g11 => have h11 := lt_ (hn2 11 (by decide)) g11; nope h11 u11)⟩)
    refine OnceFrom.cons (fun L b w K hI hi hon hup hK => ?_) ?_
    · obtain ⟨xs, hbe, x54, x55, x56, x57, x58, x59, x60, x61, x62, x63, x7, AN, cN, gb, gh, gm, hxs, hB, hF⟩ := hI
      subst hxs
      have HB := hide hB
      have HF := hide hF
      obtain ⟨r4, f0, f1, f2, f2r, f3, f4, f5, f5r, f6, f7, f8, f8r, f9, f10, f10a, f10r, f11⟩ := hF
      have q0 := row20 r4
      have q1 := row21 r4
      have ql := r4.lt
      have hT4 : b.tmps[4]? = some (.pointer (some ⟨g4, 0, none⟩)) := by rw [hbe]; exact (puts_get_out _ _ _ (by decide)).trans hA4
      have HBE := hide hbe
      clear hB hbe r4 f0 f1 f2 f2r f3 f4 f5 f5r f6 f7 f8 f8r f9 f10 f10a f10r f11
      rw [if_pos (by rfl)]
      go_simp
      obtain ⟨r4, f0, f1, f2, f2r, f3, f4, f5, f5r, f6, f7, f8, f8r, f9, f10, f10a, f10r, f11⟩ := HF.out
      have hB := HB.out
      refine hK.out _ _ (fun L2 hi2 hn2 => ⟨[x54, x55, x56, x57, x58, x59, (.pointer (some ⟨g4, 0, none⟩)), x61, x62, x63, x7], put_in HBE.out hn rfl 6 _ rfl rfl, x54, x55, x56, x57, x58, x59, (.pointer (some ⟨g4, 0, none⟩)), x61, x62, x63, x7, AN, cN, gb, gh, gm, rfl, hB, (r4 ), (fun g0 => have h0 := lt_ (hn2 0 (by decide)) g0; f0 h0), (fun g1 => have h1 := lt_ (hn2 1 (by decide)) g1; f1 h1), (fun g2 => have h2 := lt_ (hn2 2 (by decide)) g2; f2 h2), (fun g2 => have h2 := lt_ (hn2 2 (by decide)) g2; f2r h2), (fun g3 => have h3 := lt_ (hn2 3 (by decide)) g3; f3 h3), (fun g4 => have h4 := lt_ (hn2 4 (by decide)) g4; f4 h4), (fun g5 => have h5 := lt_ (hn2 5 (by decide)) g5; f5 h5), (fun g5 => have h5 := lt_ (hn2 5 (by decide)) g5; f5r h5), (fun g6 => rfl), (fun g7 => have h7 := lt_ (hn2 7 (by decide)) g7; f7 h7), (fun g8 => have h8 := lt_ (hn2 8 (by decide)) g8; f8 h8), (fun g8 => have h8 := lt_ (hn2 8 (by decide)) g8; f8r h8), (fun g9 => have h9 := lt_ (hn2 9 (by decide)) g9; f9 h9), (fun g10 => have h10 := lt_ (hn2 10 (by decide)) g10; f10 h10), (fun g10 => have h10 := lt_ (hn2 10 (by decide)) g10; f10a h10), (fun g10 g11 => have h10 := lt_ (hn2 10 (by decide)) g10; have h11 := lt_ (hn2 11 (by decide)) g11; f10r h10 h11), (fun g11 => have h11 := lt_ (hn2 11 (by decide)) g11; f11 h11)⟩)
    refine OnceFrom.cons (fun L b w K hI hi hon hup hK => ?_) ?_
    · obtain ⟨xs, hbe, x54, x55, x56, x57, x58, x59, x60, x61, x62, x63, x7, AN, cN, gb, gh, gm, hxs, hB, hF⟩ := hI
      subst hxs
      have d6 : L 6 = true := hon 6 (mem_of_elem (by kernel_rfl))
      have HB := hide hB
      have HF := hide hF
      obtain ⟨r4, f0, f1, f2, f2r, f3, f4, f5, f5r, f6, f7, f8, f8r, f9, f10, f10a, f10r, f11⟩ := hF
      have e6 := f6 d6
      subst e6
      have q0 := row20 r4
      have q1 := row21 r4
      have ql := r4.lt
      have hT60 : b.tmps[60]? = some (.pointer (some ⟨g4, 0, none⟩)) := by rw [hbe]; exact puts_get_in _ _ _ hn hs (i := 6) rfl rfl
      have HBE := hide hbe
      clear hB hbe r4 f0 f1 f2 f2r f3 f4 f5 f5r f6 f7 f8 f8r f9 f10 f10a f10r f11
      rw [if_pos (by rfl)]
      go_simp
      obtain ⟨r4, f0, f1, f2, f2r, f3, f4, f5, f5r, f6, f7, f8, f8r, f9, f10, f10a, f10r, f11⟩ := HF.out
      have hB := HB.out
      refine hK.out _ _ (fun L2 hi2 hn2 => ⟨[x54, x55, x56, x57, x58, x59, (.pointer (some ⟨g4, 0, none⟩)), (.int .i64 (g : Int)), x62, x63, x7], put_in HBE.out hn rfl 7 _ rfl rfl, x54, x55, x56, x57, x58, x59, (.pointer (some ⟨g4, 0, none⟩)), (.int .i64 (g : Int)), x62, x63, x7, AN, cN, gb, gh, gm, rfl, hB, (r4 ), (fun g0 => have h0 := lt_ (hn2 0 (by decide)) g0; f0 h0), (fun g1 => have h1 := lt_ (hn2 1 (by decide)) g1; f1 h1), (fun g2 => have h2 := lt_ (hn2 2 (by decide)) g2; f2 h2), (fun g2 => have h2 := lt_ (hn2 2 (by decide)) g2; f2r h2), (fun g3 => have h3 := lt_ (hn2 3 (by decide)) g3; f3 h3), (fun g4 => have h4 := lt_ (hn2 4 (by decide)) g4; f4 h4), (fun g5 => have h5 := lt_ (hn2 5 (by decide)) g5; f5 h5), (fun g5 => have h5 := lt_ (hn2 5 (by decide)) g5; f5r h5), (fun g6 => have h6 := lt_ (hn2 6 (by decide)) g6; rfl), (fun g7 => rfl), (fun g8 => have h8 := lt_ (hn2 8 (by decide)) g8; f8 h8), (fun g8 => have h8 := lt_ (hn2 8 (by decide)) g8; f8r h8), (fun g9 => have h9 := lt_ (hn2 9 (by decide)) g9; f9 h9), (fun g10 => have h10 := lt_ (hn2 10 (by decide)) g10; f10 h10), (fun g10 => have h10 := lt_ (hn2 10 (by decide)) g10; f10a h10), (fun g10 g11 => have h10 := lt_ (hn2 10 (by decide)) g10; have h11 := lt_ (hn2 11 (by decide)) g11; f10r h10 h11), (fun g11 => have h11 := lt_ (hn2 11 (by decide)) g11; f11 h11)⟩)
    refine OnceFrom.cons (fun L b w K hI hi hon hup hK => ?_) ?_
    · obtain ⟨xs, hbe, x54, x55, x56, x57, x58, x59, x60, x61, x62, x63, x7, AN, cN, gb, gh, gm, hxs, hB, hF⟩ := hI
      subst hxs
      have d7 : L 7 = true := hon 7 (mem_of_elem (by kernel_rfl))
      have u9 : L 9 = false := hup 9 (mem_of_elem (by kernel_rfl))
      have u11 : L 11 = false := hup 11 (mem_of_elem (by kernel_rfl))
      have HB := hide hB
      have HF := hide hF
      obtain ⟨r4, f0, f1, f2, f2r, f3, f4, f5, f5r, f6, f7, f8, f8r, f9, f10, f10a, f10r, f11⟩ := hF
      have e7 := f7 d7
      subst e7
      have hT61 : b.tmps[61]? = some (.int .i64 (g : Int)) := by rw [hbe]; exact puts_get_in _ _ _ hn hs (i := 7) rfl rfl
      have HBE := hide hbe
      clear hB hbe r4 f0 f1 f2 f2r f3 f4 f5 f5r f6 f7 f8 f8r f9 f10 f10a f10r f11
      rw [if_pos (by rfl)]
      go_simp
      obtain ⟨r4, f0, f1, f2, f2r, f3, f4, f5, f5r, f6, f7, f8, f8r, f9, f10, f10a, f10r, f11⟩ := HF.out
      have hB := HB.out
      have hb : Below w.heap.size w (w.alloc (.cells (Cs encH (List.replicate g hmZ)).toArray 54)) := (Below.refl _ _).alloc (Nat.le_refl _) _
      refine hK.out _ _ (fun L2 hi2 hn2 => ⟨[x54, x55, x56, x57, x58, x59, x60, (.int .i64 (g : Int)), (.slice (some ⟨w.heap.size, 0, none⟩) g g), x63, x7], put_in HBE.out hn rfl 8 _ rfl rfl, x54, x55, x56, x57, x58, x59, x60, (.int .i64 (g : Int)), (.slice (some ⟨w.heap.size, 0, none⟩) g g), x63, x7, AN, cN, gb, w.heap.size, gm, rfl, (hB.trans (hb.mono hB.size)), ((r4 ).below hb), (fun g0 => have h0 := lt_ (hn2 0 (by decide)) g0; f0 h0), (fun g1 => have h1 := lt_ (hn2 1 (by decide)) g1; f1 h1), (fun g2 => have h2 := lt_ (hn2 2 (by decide)) g2; f2 h2), (fun g2 => have h2 := lt_ (hn2 2 (by decide)) g2; (f2r h2).belowX hb), (fun g3 => have h3 := lt_ (hn2 3 (by decide)) g3; f3 h3), (fun g4 => have h4 := lt_ (hn2 4 (by decide)) g4; f4 h4), (fun g5 => have h5 := lt_ (hn2 5 (by decide)) g5; f5 h5), (fun g5 => have h5 := lt_ (hn2 5 (by decide)) g5; (f5r h5).below hb), (fun g6 => have h6 := lt_ (hn2 6 (by decide)) g6; f6 h6), (fun g7 => have h7 := lt_ (hn2 7 (by decide)) g7; rfl), (fun g8 => rfl), (fun g8 => RowAt.new w _ _), (fun g9 => have h9 := lt_ (hn2 9 (by decide)) g9; nope h9 u9), (fun g10 => have h10 := lt_ (hn2 10 (by decide)) g10; f10 h10), (fun g10 => have h10 := lt_ (hn2 10 (by decide)) g10; f10a h10), (fun g10 g11 => have h10 := lt_ (hn2 10 (by decide)) g10; have h11 := lt_ (hn2 11 (by decide)) g11; (f10r h10 h11).below hb), (fun g11 => have h11 := lt_ (hn2 11 (by decide)) g11; nope h11 u11)⟩)
    refine OnceFrom.cons (fun L b w K hI hi hon hup hK => ?_) ?_
    · obtain ⟨xs, hbe, x54, x55, x56, x57, x58, x59, x60, x61, x62, x63, x7, AN, cN, gb, gh, gm, hxs, hB, hF⟩ := hI
      subst hxs
      have d2 : L 2 = true := hon 2 (mem_of_elem (by kernel_rfl))
      have d5 : L 5 = true := hon 5 (mem_of_elem (by kernel_rfl))
      have d8 : L 8 = true := hon 8 (mem_of_elem (by kernel_rfl))
      have HB := hide hB
      have HF := hide hF
      obtain ⟨r4, f0, f1, f2, f2r, f3, f4, f5, f5r, f6, f7, f8, f8r, f9, f10, f10a, f10r, f11⟩ := hF
      have e2 := f2 d2
      have e5 := f5 d5
      have e8 := f8 d8
      subst e2 e5 e8
      have hT56 : b.tmps[56]? = some (.agg #[.slice AN n cN]) := by rw [hbe]; exact puts_get_in _ _ _ hn hs (i := 2) rfl rfl
      have hT59 : b.tmps[59]? = some (.slice (some ⟨gb, 0, none⟩) g g) := by rw [hbe]; exact puts_get_in _ _ _ hn hs (i := 5) rfl rfl
      have hT62 : b.tmps[62]? = some (.slice (some ⟨gh, 0, none⟩) g g) := by rw [hbe]; exact puts_get_in _ _ _ hn hs (i := 8) rfl rfl
      have HBE := hide hbe
      clear hB hbe r4 f0 f1 f2 f2r f3 f4 f5 f5r f6 f7 f8 f8r f9 f10 f10a f10r f11
      rw [if_pos (by rfl)]
      go_simp
      obtain ⟨r4, f0, f1, f2, f2r, f3, f4, f5, f5r, f6, f7, f8, f8r, f9, f10, f10a, f10r, f11⟩ := HF.out
      have hB := HB.out
      refine hK.out _ _ (fun L2 hi2 hn2 => ⟨[x54, x55, (.agg #[.slice AN n cN]), x57, x58, (.slice (some ⟨gb, 0, none⟩) g g), x60, x61, (.slice (some ⟨gh, 0, none⟩) g g), (.agg #[.slice AN n cN, .slice (some ⟨gb, 0, none⟩) g g, .slice (some ⟨gh, 0, none⟩) g g, .slice none 0 0]), x7], put_in HBE.out hn rfl 9 _ rfl rfl, x54, x55, (.agg #[.slice AN n cN]), x57, x58, (.slice (some ⟨gb, 0, none⟩) g g), x60, x61, (.slice (some ⟨gh, 0, none⟩) g g), (.agg #[.slice AN n cN, .slice (some ⟨gb, 0, none⟩) g g, .slice (some ⟨gh, 0, none⟩) g g, .slice none 0 0]), x7, AN, cN, gb, gh, gm, rfl, hB, (r4 ), (fun g0 => have h0 := lt_ (hn2 0 (by decide)) g0; f0 h0), (fun g1 => have h1 := lt_ (hn2 1 (by decide)) g1; f1 h1), (fun g2 => have h2 := lt_ (hn2 2 (by decide)) g2; rfl), (fun g2 => have h2 := lt_ (hn2 2 (by decide)) g2; f2r h2), (fun g3 => have h3 := lt_ (hn2 3 (by decide)) g3; f3 h3), (fun g4 => have h4 := lt_ (hn2 4 (by decide)) g4; f4 h4), (fun g5 => have h5 := lt_ (hn2 5 (by decide)) g5; rfl), (fun g5 => have h5 := lt_ (hn2 5 (by decide)) g5; f5r h5), (fun g6 => have h6 := lt_ (hn2 6 (by decide)) g6; f6 h6), (fun g7 => have h7 := lt_ (hn2 7 (by decide)) g7; f7 h7), (fun g8 => have h8 := lt_ (hn2 8 (by decide)) g8; rfl), (fun g8 => have h8 := lt_ (hn2 8 (by decide)) g8; f8r h8), (fun g9 => rfl), (fun g10 => have h10 := lt_ (hn2 10 (by decide)) g10; f10 h10), (fun g10 => have h10 := lt_ (hn2 10 (by decide)) g10; f10a h10), (fun g10 g11 => have h10 := lt_ (hn2 10 (by decide)) g10; have h11 := lt_ (hn2 11 (by decide)) g11; f10r h10 h11), (fun g11 => have h11 := lt_ (hn2 11 (by decide)) g11; f11 h11)⟩)
    refine OnceFrom.cons (fun L b w K hI hi hon hup hK => ?_) ?_
    · obtain ⟨xs, hbe, x54, x55, x56, x57, x58, x59, x60, x61, x62, x63, x7, AN, cN, gb, gh, gm, hxs, hB, hF⟩ := hI
      subst hxs
      have u11 : L 11 = false := hup 11 (mem_of_elem (by kernel_rfl))
      have HB := hide hB
      have HF := hide hF
      obtain ⟨r4, f0, f1, f2, f2r, f3, f4, f5, f5r, f6, f7, f8, f8r, f9, f10, f10a, f10r, f11⟩ := hF
      have HBE := hide hbe
      clear hB hbe r4 f0 f1 f2 f2r f3 f4 f5 f5r f6 f7 f8 f8r f9 f10 f10a f10r f11
      rw [if_pos (by rfl)]
      go_simp
      obtain ⟨r4, f0, f1, f2, f2r, f3, f4, f5, f5r, f6, f7, f8, f8r, f9, f10, f10a, f10r, f11⟩ := HF.out
      have hB := HB.out
      have hb : Below w.heap.size w (w.alloc (.cells #[.slice none 0 0, .slice none 0 0, .slice none 0 0, .slice none 0 0] 32)) := (Below.refl _ _).alloc (Nat.le_refl _) _
      refine hK.out _ _ (fun L2 hi2 hn2 => ⟨[x54, x55, x56, x57, x58, x59, x60, x61, x62, x63, (.pointer (some ⟨w.heap.size, 0, none⟩))], put_in HBE.out hn rfl 10 _ rfl rfl, x54, x55, x56, x57, x58, x59, x60, x61, x62, x63, (.pointer (some ⟨w.heap.size, 0, none⟩)), AN, cN, gb, gh, w.heap.size, rfl, (hB.trans (hb.mono hB.size)), ((r4 ).below hb), (fun g0 => have h0 := lt_ (hn2 0 (by decide)) g0; f0 h0), (fun g1 => have h1 := lt_ (hn2 1 (by decide)) g1; f1 h1), (fun g2 => have h2 := lt_ (hn2 2 (by decide)) g2; f2 h2), (fun g2 => have h2 := lt_ (hn2 2 (by decide)) g2; (f2r h2).belowX hb), (fun g3 => have h3 := lt_ (hn2 3 (by decide)) g3; f3 h3), (fun g4 => have h4 := lt_ (hn2 4 (by decide)) g4; f4 h4), (fun g5 => have h5 := lt_ (hn2 5 (by decide)) g5; f5 h5), (fun g5 => have h5 := lt_ (hn2 5 (by decide)) g5; (f5r h5).below hb), (fun g6 => have h6 := lt_ (hn2 6 (by decide)) g6; f6 h6), (fun g7 => have h7 := lt_ (hn2 7 (by decide)) g7; f7 h7), (fun g8 => have h8 := lt_ (hn2 8 (by decide)) g8; f8 h8), (fun g8 => have h8 := lt_ (hn2 8 (by decide)) g8; (f8r h8).below hb), (fun g9 => have h9 := lt_ (hn2 9 (by decide)) g9; f9 h9), (fun g10 => rfl), (fun g10 => hB.size), (fun g10 g11 => have h11 := lt_ (hn2 11 (by decide)) g11; RowAt.new w _ _), (fun g11 => have h11 := lt_ (hn2 11 (by decide)) g11; nope h11 u11)⟩)
    refine OnceFrom.cons (fun L b w K hI hi hon hup hK => ?_) ?_
    · obtain ⟨xs, hbe, x54, x55, x56, x57, x58, x59, x60, x61, x62, x63, x7, AN, cN, gb, gh, gm, hxs, hB, hF⟩ := hI
      subst hxs
      have d10 : L 10 = true := hon 10 (mem_of_elem (by kernel_rfl))
      have d9 : L 9 = true := hon 9 (mem_of_elem (by kernel_rfl))
      have d2 : L 2 = true := hon 2 (mem_of_elem (by kernel_rfl))
      have d5 : L 5 = true := hon 5 (mem_of_elem (by kernel_rfl))
      have d8 : L 8 = true := hon 8 (mem_of_elem (by kernel_rfl))
      have HB := hide hB
      have HF := hide hF
      obtain ⟨r4, f0, f1, f2, f2r, f3, f4, f5, f5r, f6, f7, f8, f8r, f9, f10, f10a, f10r, f11⟩ := hF
      have e10 := f10 d10
      have e9 := f9 d9
      subst e10 e9
      have R8 := f10r d10 hi
      obtain ⟨q0, q1, q2, q3⟩ := row4 R8
      have ql := R8.lt
      have p0 := R8.frozen 0
      have p1 := R8.frozen 1
      have p2 := R8.frozen 2
      have p3 := R8.frozen 3
      replace R8 := hide R8
      have hT7 : b.tmps[7]? = some (.pointer (some ⟨gm, 0, none⟩)) := by rw [hbe]; exact puts_get_in _ _ _ hn hs (i := 10) rfl rfl
      have hT63 : b.tmps[63]? = some (.agg #[.slice AN n cN, .slice (some ⟨gb, 0, none⟩) g g, .slice (some ⟨gh, 0, none⟩) g g, .slice none 0 0]) := by rw [hbe]; exact puts_get_in _ _ _ hn hs (i := 9) rfl rfl
      have HBE := hide hbe
      clear hB hbe r4 f0 f1 f2 f2r f3 f4 f5 f5r f6 f7 f8 f8r f9 f10 f10a f10r f11
      rw [if_pos (by rfl)]
      go_simp
      obtain ⟨r4, f0, f1, f2, f2r, f3, f4, f5, f5r, f6, f7, f8, f8r, f9, f10, f10a, f10r, f11⟩ := HF.out
      have hB := HB.out
      have HL := laidM4_of (n := w0.heap.size) (v0 := .slice AN n cN) (v1 := .slice (some ⟨gb, 0, none⟩) g g) (v2 := .slice (some ⟨gh, 0, none⟩) g g) (v3 := .slice none 0 0) R8.out (f10a d10)
      refine hK.out _ _ (fun L2 hi2 hn2 => ⟨[x54, x55, x56, x57, x58, x59, x60, x61, x62, (.agg #[.slice AN n cN, .slice (some ⟨gb, 0, none⟩) g g, .slice (some ⟨gh, 0, none⟩) g g, .slice none 0 0]), (.pointer (some ⟨gm, 0, none⟩))], HBE.out, x54, x55, x56, x57, x58, x59, x60, x61, x62, (.agg #[.slice AN n cN, .slice (some ⟨gb, 0, none⟩) g g, .slice (some ⟨gh, 0, none⟩) g g, .slice none 0 0]), (.pointer (some ⟨gm, 0, none⟩)), AN, cN, gb, gh, gm, rfl, (hB.trans HL.2.2), ((HL.2.1 _ (fun e => by have h1 := r4; rw [e] at h1; exact absurd (row_typ h1 R8.out) (by decide))).trans r4), (fun g0 => have h0 := lt_ (hn2 0 (by decide)) g0; f0 h0), (fun g1 => have h1 := lt_ (hn2 1 (by decide)) g1; f1 h1), (fun g2 => have h2 := lt_ (hn2 2 (by decide)) g2; f2 h2), (fun g2 => have h2 := lt_ (hn2 2 (by decide)) g2; rdE_store (f2r d2) (by simp) R8.out HL.2.1), (fun g3 => have h3 := lt_ (hn2 3 (by decide)) g3; f3 h3), (fun g4 => have h4 := lt_ (hn2 4 (by decide)) g4; f4 h4), (fun g5 => have h5 := lt_ (hn2 5 (by decide)) g5; f5 h5), (fun g5 => have h5 := lt_ (hn2 5 (by decide)) g5; (HL.2.1 _ (fun e => by have h1 := (f5r d5); rw [e] at h1; exact absurd (row_typ h1 R8.out) (by decide))).trans (f5r d5)), (fun g6 => have h6 := lt_ (hn2 6 (by decide)) g6; f6 h6), (fun g7 => have h7 := lt_ (hn2 7 (by decide)) g7; f7 h7), (fun g8 => have h8 := lt_ (hn2 8 (by decide)) g8; f8 h8), (fun g8 => have h8 := lt_ (hn2 8 (by decide)) g8; (HL.2.1 _ (fun e => by have h1 := (f8r d8); rw [e] at h1; exact absurd (row_typ h1 R8.out) (by decide))).trans (f8r d8)), (fun g9 => have h9 := lt_ (hn2 9 (by decide)) g9; rfl), (fun g10 => have h10 := lt_ (hn2 10 (by decide)) g10; rfl), (fun g10 => have h10 := lt_ (hn2 10 (by decide)) g10; f10a h10), (fun g10 g11 => nope hi2 g11), (fun g11 => HL.1)⟩)
    exact trivial
  · intro L xs w hL hR
    obtain ⟨x54, x55, x56, x57, x58, x59, x60, x61, x62, x63, x7, AN, cN, gb, gh, gm, hxs, hB, r4, f0, f1, f2, f2r, f3, f4, f5, f5r, f6, f7, f8, f8r, f9, f10, f10a, f10r, f11⟩ := hR
    subst hxs
    have d0 : L 0 = true := hL 0 (by decide)
    have d1 : L 1 = true := hL 1 (by decide)
    have d2 : L 2 = true := hL 2 (by decide)
    have d3 : L 3 = true := hL 3 (by decide)
    have d4 : L 4 = true := hL 4 (by decide)
    have d5 : L 5 = true := hL 5 (by decide)
    have d6 : L 6 = true := hL 6 (by decide)
    have d7 : L 7 = true := hL 7 (by decide)
    have d8 : L 8 = true := hL 8 (by decide)
    have d9 : L 9 = true := hL 9 (by decide)
    have d10 : L 10 = true := hL 10 (by decide)
    have d11 : L 11 = true := hL 11 (by decide)
    have e10 := f10 d10
    subst e10
    refine hQ x54 x55 x56 x57 x58 x59 x60 x61 x62 x63 AN cN gb gh gm w hB (f11 d11) (f2r d2) (f5r d5) (f8r d8)
theorem mkB (g : Nat) (h8 : g ≤ 8) : ∀ w, (Instr.makeSlice 28 (.int .i64 (g : Int)) (.int .i64 (g : Int))).run Try.prog w = .ok (.slice (some ⟨w.heap.size, 0, none⟩) g g) (w.alloc (.cells (Cs encB (List.replicate g false)).toArray 4)) := by
  obtain ⟨i0, hi0, hz0, hz1, hz2⟩ := info_parts elB.info
  have hmkB := fun w => run_make_rowN (P := Try.prog) 28 4 i0 _ Try.underlying28 hi0 hz0 .i64 .i64 g g (Nat.le_refl _) (by rw [hz2]; omega) (by omega) w
  rw [hz1] at hmkB
  replace hmkB : ∀ w, (Instr.makeSlice 28 (.int .i64 (g : Int)) (.int .i64 (g : Int))).run Try.prog w = .ok (.slice (some ⟨w.heap.size, 0, none⟩) g g) (w.alloc (.cells (madeCells #[.bool false] (g * 1)) 4)) := hmkB
  rw [show madeCells #[.bool false] (g * 1) = (Cs encB (List.replicate g false)).toArray from by rw [encB_rep]; exact made_rep g _] at hmkB
  exact hmkB
theorem mkH (g : Nat) (h8 : g ≤ 8) : ∀ w, (Instr.makeSlice 29 (.int .i64 (g : Int)) (.int .i64 (g : Int))).run Try.prog w = .ok (.slice (some ⟨w.heap.size, 0, none⟩) g g) (w.alloc (.cells (Cs encH (List.replicate g hmZ)).toArray 54)) := by
  obtain ⟨i1, hi1, hy0, hy1, hy2⟩ := info_parts elH.info
  have hmkH := fun w => run_make_rowN (P := Try.prog) 29 54 i1 _ Try.underlying29 hi1 hy0 .i64 .i64 g g (Nat.le_refl _) (by rw [hy2]; omega) (by omega) w
  rw [hy1] at hmkH
  replace hmkH : ∀ w, (Instr.makeSlice 29 (.int .i64 (g : Int)) (.int .i64 (g : Int))).run Try.prog w = .ok (.slice (some ⟨w.heap.size, 0, none⟩) g g) (w.alloc (.cells (madeCells #[.slice none 0 0] (g * 1)) 54)) := hmkH
  rw [show madeCells #[.slice none 0 0] (g * 1) = (Cs encH (List.replicate g hmZ)).toArray from by rw [encH_rep]; exact made_rep g _] at hmkH
  exact hmkH
theorem mon_view {B : Nat} {w : World} {a0 a1 a2 a3 : Option Addr} {n0 n1 n2 n3 c0 c1 c2 c3 : Nat} {m : Mon} (h : MonOut B w (.agg #[.slice a0 n0 c0, .slice a1 n1 c1, .slice a2 n2 c2, .slice a3 n3 c3]) m) : ∃ ts, MonX w w.heap.size a0 a1 a2 a3 n0 n1 n2 n3 ts m := by
  obtain ⟨b0, b1, b2, b3, k0, k1, k2, k3, d0, d1, d2, d3, ts, hv, h1, h2, h3⟩ := h
  simp only [Value.agg.injEq, Array.mk.injEq, List.cons.injEq, Value.slice.injEq, and_true] at hv
  obtain ⟨⟨rfl, rfl, rfl⟩, ⟨rfl, rfl, rfl⟩, ⟨rfl, rfl, rfl⟩, ⟨rfl, rfl, rfl⟩⟩ := hv
  exact ⟨ts, h1 w (Nat.le_refl _) (fun _ _ _ => rfl)⟩
theorem new_mon {w : World} {g n c gb gh : Nat} {A : Option Addr} (HRD : Rd w w.heap.size 2 A n (Cs encE (List.replicate n (0, 0)))) (rb : RowAt w gb 4 (Cs encB (List.replicate g false)).toArray) (rh : RowAt w gh 54 (Cs encH (List.replicate g hmZ)).toArray) :
    MonOut 0 w (.agg #[.slice A n c, .slice (some ⟨gb, 0, none⟩) g g, .slice (some ⟨gh, 0, none⟩) g g, .slice none 0 0]) (newM g n) := by
  refine MonX.monOut (ts := List.replicate g hmZ) ⟨HRD, by simp [newM], ?_, by simp [newM], ⟨?_, by simp, fun t ht => ?_⟩, by rw [rowsQ_rep]; rfl, Rd.none_, rfl⟩ (fun t ht => ?_) ⟨Nat.le_refl _, Nat.zero_le _⟩
  · show Rd w w.heap.size 1 _ g (Cs encB (List.replicate g false))
    exact ⟨by rw [encB_rep]; simp, fun hn => ⟨gb, 0, rfl, rb.lt, fun j u hu => by rw [Nat.zero_add]; exact (rb.cell j).trans (by simpa using hu)⟩⟩
  · exact ⟨by rw [encH_rep]; simp, fun hn => ⟨gh, 0, rfl, rh.lt, fun j u hu => by rw [Nat.zero_add]; exact (rh.cell j).trans (by simpa using hu)⟩⟩
  · rw [List.eq_of_mem_replicate ht]; exact Rd.none_
  · rw [List.eq_of_mem_replicate ht]; exact ⟨by simp [hmZ], by simp [hmZ]⟩
theorem vrSame {B B' : Nat} {v v' : Value} {m p : Mon} {R R' : Nat} {w : World} (h : MonOut B w v m) (h' : MonOut B' w v' p) (hf : FitM m R) (hf' : FitM p R') (r : Bool) (hr : sameM m p = r) : Calls Try.prog 11 #[v, v'] w fun e W' => e = .returned (.bool r) ∧ Below w.heap.size w W' := by
  obtain ⟨a0, a1, a2, a3, n0, n1, n2, n3, c0, c1, c2, c3, ts, rfl, h1, h2, h3⟩ := h
  obtain ⟨b0, b1, b2, b3, k0, k1, k2, k3, d0, d1, d2, d3, us, rfl, g1, g2, g3⟩ := h'
  have hx := h1 w (Nat.le_refl _) (fun _ _ _ => rfl)
  have gx := g1 w (Nat.le_refl _) (fun _ _ _ => rfl)
  exact rsameM_any a0 a1 a2 a3 n0 n1 n2 n3 c0 c1 c2 c3 b0 b1 b2 b3 k0 k1 k2 k3 d0 d1 d2 d3 ts us m p w hx gx (fit_small hx hf h2).1 (fit_small gx hf' g2).1 r hr
theorem fit_new (g n : Nat) (hg : g ≤ 8) (hn : n ≤ 128) : FitM (newM g n) 0 := ⟨by simp [newM]; omega, by simp [newM]; omega, by simp [newM]; omega, by simp [newM], (by intro l hl; simp [newM] at hl; rw [hl.2]; simp), by omega⟩
set_option maxRecDepth 100000 in
set_option maxHeartbeats 8000000 in
theorem News_walk (A : Option Addr) (c n : Nat) (l : List (Int × Int)) (W : World) (hl : Rd W W.heap.size 2 A n (Cs encP l)) (hx : l.length = n) (hn : n ≤ 9223372036854775807) (hU : ∀ e ∈ l, I64 e.1 ∧ I64 e.2) :
    Calls Try.prog 3 #[.slice A n c] W fun e W' => e = .returned (.bool true) ∧ Below W.heap.size W W' := by
  have HX := hide hl
  have HLX := hide hx
  have HU := hide hU
  clear hl hx hU
  go_enter Try.func3, Try.ntmps3
  go_wp2_with fail
  with_reducible refine (wakes_any W).mono ?_
  rintro e w2 ⟨rfl, hb⟩
  have HB := hide hb
  clear hb
  go_wp2_with fail
  go_loopw [12] (fun i wr => ∃ k : Nat, k ≤ n ∧ i = .int .i64 k ∧ Below W.heap.size W wr) (fun i _ => n - (intOf i).toNat)
  case atStart => exact ⟨0, Nat.zero_le _, rfl, HB.out⟩
  case round =>
    clear HB
    obtain ⟨k, hk, rfl, hbw⟩ := hrel
    have HB := hide hbw
    clear hbw
    by_cases hlt : k < n
    case neg =>
      obtain rfl : k = n := by omega
      go_wp2_with fail
      go_ret
      exact ⟨rfl, HB.out⟩
    case pos =>
      have hkl : k < l.length := by rw [HLX.out]; exact hlt
      obtain ⟨b, o, rfl, hb, hc⟩ := (show Rd wr W.heap.size 2 A l.length (Cs encP l) by rw [HLX.out]; exact HX.out.below HB.out).elem encP_len (show k < l.length by rw [HLX.out]; exact hlt)
      have d0 := hc 0 _ (by omega) rfl
      have d1 := hc 1 _ (by omega) rfl
      simp only [Nat.add_zero] at d0
      have hbl : b < wr.heap.size := Nat.lt_of_lt_of_le hb HB.out.size
      have hkm : (k : Int) < (n : Int) := by omega
      have HUI := hide (HU.out l[k] (List.getElem_mem _))
      clear hc hb
      generalize l[k] = t at *
      obtain ⟨p0, p1⟩ := t
      dsimp only at *
      obtain ⟨w6, hw6⟩ : ∃ w, w = wr := ⟨_, rfl⟩
      subst hw6
      by_cases h10 : k = 10
      · have hd : ((k : Int) == 10) = true := by simp; omega
        have HBN := hide (show Below W.heap.size W (w6.alloc (.cells #[.int .i64 p0, .int .i64 p1] 24)) from HB.out.alloc HB.out.size _)
        clear h10
        go_wp2_with fail
        go_ret
        exact ⟨rfl, HBN.out⟩
      · have hd : ((k : Int) == 10) = false := by rw [beq_eq_false_iff_ne]; omega
        go_upto_region 6 with (refine wpList_store_new rfl 24 _ _ rfl _ #[.int .i64 p0, .int .i64 p1] w6.heap.size rfl rfl rfl (by kernel_rfl) rfl (by simp [Value.oneCell']) ?_)
        have hbn : Below w6.heap.size w6 (w6.alloc (.cells #[.int .i64 p0, .int .i64 p1] 24)) := (Below.refl _ _).alloc (Nat.le_refl _) _
        have R4 := hide (RowAt.new w6 24 #[.int .i64 p0, .int .i64 p1])
        replace HB := hide (HB.out.trans (hbn.mono HB.out.size))
        clear hbn d0 d1 hbl h10
        generalize w6.alloc (.cells #[.int .i64 p0, .int .i64 p1] 24) = w7 at *
        generalize w6.heap.size = g4 at *
        have q0 := row20 R4.out
        have q1 := row21 R4.out
        have ql := R4.out.lt
        go_wp2_with fail
        obtain ⟨rr, hrr⟩ : ∃ rr, NewM p0 p1 = rr := ⟨_, rfl⟩
        have HRR := hide hrr
        have HNW := hide (New_any p0 p1 w7)
        rw [hrr] at HNW
        clear hrr
        with_reducible refine HNW.out.mono ?_
        rintro e w8 ⟨⟨v, rfl, hm⟩, hb⟩
        obtain ⟨xa0, xa1, xa2, xa3, xn0, xn1, xn2, xn3, xc0, xc1, xc2, xc3, rfl⟩ := hm.form
        have HM := hide hm
        replace R4 := hide (R4.out.below hb)
        replace HB := hide (HB.out.trans (hb.mono HB.out.size))
        clear hb hm q0 q1 ql HNW
        go_upto_region 8 with (refine wpList_store_new rfl 32 _ _ rfl _ #[.slice xa0 xn0 xc0, .slice xa1 xn1 xc1, .slice xa2 xn2 xc2, .slice xa3 xn3 xc3] w8.heap.size rfl rfl rfl (by kernel_rfl) rfl (by simp [Value.oneCell']) ?_)
        have hbx : Below w8.heap.size w8 (w8.alloc (.cells #[.slice xa0 xn0 xc0, .slice xa1 xn1 xc1, .slice xa2 xn2 xc2, .slice xa3 xn3 xc3] 32)) := (Below.refl _ _).alloc (Nat.le_refl _) _
        have R5 := hide (RowAt.new w8 32 #[.slice xa0 xn0 xc0, .slice xa1 xn1 xc1, .slice xa2 xn2 xc2, .slice xa3 xn3 xc3])
        replace R4 := hide (R4.out.below hbx)
        replace HM := hide (HM.out.below hbx)
        replace HB := hide (HB.out.trans (hbx.mono HB.out.size))
        clear hbx hkl
        generalize w8.alloc (.cells #[.slice xa0 xn0 xc0, .slice xa1 xn1 xc1, .slice xa2 xn2 xc2, .slice xa3 xn3 xc3] 32) = w9 at *
        generalize w8.heap.size = g5 at *
        have q0 := row20 R4.out
        have q1 := row21 R4.out
        have ql := R4.out.lt
        obtain ⟨x0, x1, x2, x3⟩ := row4 R5.out
        have xl := R5.out.lt
        by_cases hok : (1 ≤ p0 ∧ p0 ≤ 8) ∧ (2 ≤ p1 ∧ p1 ≤ 128)
        case neg =>
          have he : NewM p0 p1 = .error 2 := by unfold NewM; rw [if_neg hok]
          have hrr := HRR.out
          rw [he] at hrr
          subst hrr
          have hm0 : outM (.error 2 : Except Int (Mon × List Ent)) = mon0 := rfl
          have hk2 : outK (.error 2 : Except Int (Mon × List Ent)) = 2 := rfl
          rw [hm0] at HM
          rw [hk2]
          obtain ⟨us, hv⟩ := mon_view HM.out
          have z0 : xn0 = 0 := by rw [← hv.l0]; rfl
          have z1 : xn1 = 0 := by rw [← hv.l1]; rfl
          subst z0 z1
          have HBN := hide HB.out
          clear hv us hm0 hk2 he HRR HM
          by_cases h1 : p0 < 1
          · clear hok
            go_wp2_with fail
            go_roundw
            case rel => exact ⟨k + 1, by omega, by go_num, HBN.out⟩
            case measure => simp [intOf]; omega
          · by_cases h8 : 8 < p0
            · clear hok
              go_wp2_with fail
              go_roundw
              case rel => exact ⟨k + 1, by omega, by go_num, HBN.out⟩
              case measure => simp [intOf]; omega
            · have HMY := hide (rmany_any p1 w9 false (by simp; omega))
              clear hok
              go_wp2_with fail
              with_reducible refine HMY.out.mono ?_
              rintro e w10 ⟨rfl, rfl⟩
              go_wp2_with fail
              go_roundw
              case rel => exact ⟨k + 1, by omega, by go_num, HBN.out⟩
              case measure => simp [intOf]; omega
        case pos =>
          have he : NewM p0 p1 = .ok (newM p0.toNat p1.toNat, []) := by unfold NewM; rw [if_pos hok]
          have hrr := HRR.out
          rw [he] at hrr
          subst hrr
          obtain ⟨g, rfl⟩ := Int.eq_ofNat_of_zero_le (show 0 ≤ p0 by omega)
          obtain ⟨s, rfl⟩ := Int.eq_ofNat_of_zero_le (show 0 ≤ p1 by omega)
          simp only [Int.toNat_natCast] at HM
          have hm0 : outM (.ok (newM g s, []) : Except Int (Mon × List Ent)) = newM g s := rfl
          rw [hm0] at HM
          have HK0 : outK (.ok (newM g s, []) : Except Int (Mon × List Ent)) = 0 := rfl
          simp only [Int.toNat_natCast]
          rw [HK0]
          have h1 : ¬ (g : Int) < 1 := by omega
          have h8 : ¬ (8 : Int) < (g : Int) := by omega
          have HMY := hide (rmany_any (s : Int) w9 true (by simp; omega))
          have HOK := hide hok
          clear hok HRR he hm0 HK0
          go_wp2_with fail
          with_reducible refine HMY.out.mono ?_
          rintro e w10 ⟨rfl, rfl⟩
          go_upto_region 11 with (fail)
          have hg8 : g ≤ 8 := by have := HOK.out; omega
          have hs8 : s ≤ 128 := by have := HOK.out; omega
          refine nw_r11 (g := g) (n := s) R4.out (by omega) (mkB g hg8) (mkH g hg8) _ _ _ (by simp) rfl _ (by kernel_rfl) (fun y54 y55 y56 y57 y58 y59 y60 y61 y62 y63 AN cN gb gh gm w11 hb rV hr rb rh => ?_)
          simp only [puts_cons, zC, zN, puts_nil, yZ, yS]
          have R7 := hide rV
          have HW := hide (new_mon (c := cN) hr rb rh)
          replace R5 := hide (R5.out.below hb)
          replace HM := hide (HM.out.below hb)
          replace HB := hide (HB.out.trans (hb.mono HB.out.size))
          clear hb rV hr rb rh q0 q1 ql x0 x1 x2 x3 xl
          obtain ⟨x0, x1, x2, x3⟩ := row4 R5.out
          have xl := R5.out.lt
          obtain ⟨y0, y1, y2, y3⟩ := row4 R7.out
          have yl := R7.out.lt
          have HFT := hide (fit_new g s hg8 hs8)
          have HSM := hide (show sameM (newM g s) (newM g s) = true from sameM_self _)
          go_wp2_with fail
          with_reducible refine (vrSame HM.out HW.out HFT.out HFT.out true HSM.out).mono ?_
          rintro e w12 ⟨rfl, hb⟩
          have HBN := hide (HB.out.trans (hb.mono HB.out.size))
          clear hb x0 x1 x2 x3 xl y0 y1 y2 y3 yl
          go_wp2_with fail
          go_roundw
          case rel => exact ⟨k + 1, by omega, by go_num, HBN.out⟩
          case measure => simp [intOf]; omega
end Go.Proofs.Ytfpbabafeecncaa
